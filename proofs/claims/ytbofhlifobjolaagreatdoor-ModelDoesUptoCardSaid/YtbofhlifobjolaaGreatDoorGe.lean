/- The texts ShelfK, Known, Sorted, ShelfJ, JoinK, SpeaksM, as one. -/
import Derived.Shelf.SlIterI.Nil
import Derived.Shelf.SortM.Plain
import Derived.Shelf.SortM.SortNone
import Derived.Test.YtbofhlifobjolaaGreatDoorProg
import Derived.Test.YtbofhlifobjolaaGreatDoorGc
import Derived.Test.YtbofhlifobjolaaGreatDoorGbb
import Derived.Shelf.Strings.OnBuilder
import Derived.KernelRfl
section
namespace Go.Proofs.YtbofhlifobjolaaGreatDoor
open Go.Shelf
def Sh.keysI_ren:Go.Shelf.Ren:=⟨fun | 10=>153 | n=>n,fun | 33=>222 | 23=>90 | 0=>0 | 4=>4 | 26=>3 | 3=>9 | n=>n,fun | n=>n⟩
theorem Sh.keysI:Go.Proofs.SlLaysZI.n10 Tryz.prog Sh.keysI_ren:={
  mixed:=by kernel_rfl
  f10:=⟨Tryz.f153.name,by decide,Tryz.func153.trans (congrArg some (by kernel_rfl))⟩
  t0:=Tryz.underlying0
  a0:=Tryz.isAgg0
  z0:=Tryz.sizeOf0
  v0:=Tryz.zeroValue0
  t4:=Tryz.underlying4
  a4:=Tryz.isAgg4
  z4:=Tryz.sizeOf4
  v4:=Tryz.zeroValue4
  t23:=Tryz.underlying90
  a23:=Tryz.isAgg90
  z23:=Tryz.sizeOf90
  v23:=Tryz.zeroValue90
  t26:=Tryz.underlying3
  a26:=Tryz.isAgg3
  z26:=Tryz.sizeOf3
  v26:=Tryz.zeroValue3
  t33:=Tryz.underlying222
  a33:=Tryz.isAgg222
  z33:=Tryz.sizeOf222
  v33:=Tryz.zeroValue222}
def Sh.sortedI_ren:Go.Shelf.Ren:=⟨fun | 6=>131 | 8=>151 | 9=>152 | 11=>177 | 13=>143 | 12=>178 | 23=>171 | 24=>172 | 14=>193 | 15=>194 | 16=>195 | 17=>196 | 18=>197 | 19=>198 | 20=>199 | 21=>200 | 22=>201 | 25=>205 | 26=>183 | 27=>184 | 28=>206 | 29=>207 | 30=>208 | 31=>209 | n=>n,fun | 26=>3 | 28=>199 | 24=>53 | 0=>0 | 3=>3 | 37=>215 | 48=>237 | 50=>239 | 4=>4 | 40=>230 | 39=>229 | 45=>234 | 5=>5 | 9=>9 | 51=>250 | 55=>254 | 57=>263 | 58=>41 | 33=>222 | n=>n,fun | n=>n⟩
theorem Sh.sortedI:Go.Proofs.SlLaysZI.n6 Tryz.prog Sh.sortedI_ren:={
  mixed:=by kernel_rfl
  f6:=⟨Tryz.f131.name,by decide,Tryz.func131.trans (congrArg some (by kernel_rfl))⟩
  f8:=⟨Tryz.f151.name,by decide,Tryz.func151.trans (congrArg some (by kernel_rfl))⟩
  f11:=⟨Tryz.f177.name,by decide,Tryz.func177.trans (congrArg some (by kernel_rfl))⟩
  t0:=Tryz.underlying0
  a0:=Tryz.isAgg0
  z0:=Tryz.sizeOf0
  v0:=Tryz.zeroValue0
  t24:=Tryz.underlying53
  a24:=Tryz.isAgg53
  z24:=Tryz.sizeOf53
  v24:=Tryz.zeroValue53
  t26:=Tryz.underlying3
  a26:=Tryz.isAgg3
  z26:=Tryz.sizeOf3
  v26:=Tryz.zeroValue3
  t28:=Tryz.underlying199
  a28:=Tryz.isAgg199
  z28:=Tryz.sizeOf199
  v28:=Tryz.zeroValue199
  i26:=by kernel_rfl}
def Sh.sortI_ren:Go.Shelf.Ren:=⟨fun | 5=>152 | 8=>143 | 7=>178 | 19=>171 | 20=>172 | 10=>193 | 11=>194 | 12=>195 | 13=>196 | 14=>197 | 15=>198 | 16=>199 | 17=>200 | 18=>201 | 30=>205 | 31=>183 | 32=>184 | 33=>206 | 34=>207 | 35=>208 | 40=>209 | n=>n,fun | 23=>53 | 25=>3 | 3=>3 | 32=>215 | 22=>53 | 0=>0 | 44=>237 | 46=>239 | 4=>4 | 36=>230 | 35=>229 | 41=>234 | 5=>5 | 9=>9 | 53=>250 | 57=>254 | 63=>263 | 64=>41 | n=>n,fun | n=>n⟩
theorem Sh.sortI:Go.Proofs.SlLaysM.n5 Tryz.prog Sh.sortI_ren:={
  mixed:=by kernel_rfl
  f5:=⟨Tryz.f152.name,by decide,Tryz.func152.trans (congrArg some (by kernel_rfl))⟩
  f7:=⟨Tryz.f178.name,by decide,Tryz.func178.trans (congrArg some (by kernel_rfl))⟩
  f8:=Tryz.func143.trans (congrArg some (by kernel_rfl))
  f10:=⟨Tryz.f193.name,by decide,Tryz.func193.trans (congrArg some (by kernel_rfl))⟩
  f11:=⟨Tryz.f194.name,by decide,Tryz.func194.trans (congrArg some (by kernel_rfl))⟩
  f12:=⟨Tryz.f195.name,by decide,Tryz.func195.trans (congrArg some (by kernel_rfl))⟩
  f13:=⟨Tryz.f196.name,by decide,Tryz.func196.trans (congrArg some (by kernel_rfl))⟩
  f14:=⟨Tryz.f197.name,by decide,Tryz.func197.trans (congrArg some (by kernel_rfl))⟩
  f15:=⟨Tryz.f198.name,by decide,Tryz.func198.trans (congrArg some (by kernel_rfl))⟩
  f16:=⟨Tryz.f199.name,by decide,Tryz.func199.trans (congrArg some (by kernel_rfl))⟩
  f17:=⟨Tryz.f200.name,by decide,Tryz.func200.trans (congrArg some (by kernel_rfl))⟩
  f18:=⟨Tryz.f201.name,by decide,Tryz.func201.trans (congrArg some (by kernel_rfl))⟩
  f19:=Tryz.func171.trans (congrArg some (by kernel_rfl))
  f20:=Tryz.func172.trans (congrArg some (by kernel_rfl))
  f30:=⟨Tryz.f205.name,by decide,Tryz.func205.trans (congrArg some (by kernel_rfl))⟩
  f31:=Tryz.func183.trans (congrArg some (by kernel_rfl))
  f32:=Tryz.func184.trans (congrArg some (by kernel_rfl))
  f33:=⟨Tryz.f206.name,by decide,Tryz.func206.trans (congrArg some (by kernel_rfl))⟩
  f34:=⟨Tryz.f207.name,by decide,Tryz.func207.trans (congrArg some (by kernel_rfl))⟩
  f35:=⟨Tryz.f208.name,by decide,Tryz.func208.trans (congrArg some (by kernel_rfl))⟩
  f40:=⟨Tryz.f209.name,by decide,Tryz.func209.trans (congrArg some (by kernel_rfl))⟩
  t0:=Tryz.underlying0
  a0:=Tryz.isAgg0
  z0:=Tryz.sizeOf0
  v0:=Tryz.zeroValue0
  t3:=Tryz.underlying3
  a3:=Tryz.isAgg3
  z3:=Tryz.sizeOf3
  v3:=Tryz.zeroValue3
  t4:=Tryz.underlying4
  a4:=Tryz.isAgg4
  z4:=Tryz.sizeOf4
  v4:=Tryz.zeroValue4
  t5:=Tryz.underlying5
  a5:=Tryz.isAgg5
  z5:=Tryz.sizeOf5
  v5:=Tryz.zeroValue5
  t9:=Tryz.underlying9
  a9:=Tryz.isAgg9
  z9:=Tryz.sizeOf9
  v9:=Tryz.zeroValue9
  t22:=Tryz.underlying53
  a22:=Tryz.isAgg53
  z22:=Tryz.sizeOf53
  v22:=Tryz.zeroValue53
  t23:=Tryz.underlying53
  a23:=Tryz.isAgg53
  z23:=Tryz.sizeOf53
  v23:=Tryz.zeroValue53
  t25:=Tryz.underlying3
  a25:=Tryz.isAgg3
  z25:=Tryz.sizeOf3
  v25:=Tryz.zeroValue3
  t32:=Tryz.underlying215
  a32:=Tryz.isAgg215
  z32:=Tryz.sizeOf215
  v32:=Tryz.zeroValue215
  t35:=Tryz.underlying229
  a35:=Tryz.isAgg229
  z35:=Tryz.sizeOf229
  v35:=Tryz.zeroValue229
  t36:=Tryz.underlying230
  a36:=Tryz.isAgg230
  z36:=Tryz.sizeOf230
  v36:=Tryz.zeroValue230
  t41:=Tryz.underlying234
  a41:=Tryz.isAgg234
  z41:=Tryz.sizeOf234
  v41:=Tryz.zeroValue234
  t44:=Tryz.underlying237
  a44:=Tryz.isAgg237
  z44:=Tryz.sizeOf237
  v44:=Tryz.zeroValue237
  t46:=Tryz.underlying239
  a46:=Tryz.isAgg239
  z46:=Tryz.sizeOf239
  v46:=Tryz.zeroValue239
  t53:=Tryz.underlying250
  a53:=Tryz.isAgg250
  z53:=Tryz.sizeOf250
  v53:=Tryz.zeroValue250
  t57:=Tryz.underlying254
  a57:=Tryz.isAgg254
  z57:=Tryz.sizeOf254
  v57:=Tryz.zeroValue254
  t63:=Tryz.underlying263
  a63:=Tryz.isAgg263
  z63:=Tryz.sizeOf263
  v63:=Tryz.zeroValue263
  t64:=Tryz.underlying41
  a64:=Tryz.isAgg41
  z64:=Tryz.sizeOf41
  v64:=Tryz.zeroValue41}
def Sh.sortS_ren:Go.Shelf.Ren:=⟨fun | 6=>112 | 8=>143 | 9=>142 | 19=>171 | 20=>172 | 21=>162 | 22=>163 | 23=>164 | 24=>165 | 25=>166 | 26=>167 | 27=>168 | 28=>169 | 29=>170 | 36=>182 | 31=>183 | 32=>184 | 37=>185 | 38=>186 | 39=>187 | 41=>202 | n=>n,fun | 27=>37 | 29=>9 | 3=>3 | 32=>215 | 26=>37 | 0=>0 | 44=>237 | 46=>239 | 4=>4 | 36=>230 | 35=>229 | 41=>234 | 5=>5 | 9=>9 | 53=>250 | 57=>254 | 63=>263 | 64=>41 | n=>n,fun | n=>n⟩
theorem Sh.sortS:Go.Proofs.SlLaysM.n6 Tryz.prog Sh.sortS_ren:={
  mixed:=by kernel_rfl
  f6:=⟨Tryz.f112.name,by decide,Tryz.func112.trans (congrArg some (by kernel_rfl))⟩
  f8:=Tryz.func143.trans (congrArg some (by kernel_rfl))
  f9:=⟨Tryz.f142.name,by decide,Tryz.func142.trans (congrArg some (by kernel_rfl))⟩
  f19:=Tryz.func171.trans (congrArg some (by kernel_rfl))
  f20:=Tryz.func172.trans (congrArg some (by kernel_rfl))
  f21:=⟨Tryz.f162.name,by decide,Tryz.func162.trans (congrArg some (by kernel_rfl))⟩
  f22:=⟨Tryz.f163.name,by decide,Tryz.func163.trans (congrArg some (by kernel_rfl))⟩
  f23:=⟨Tryz.f164.name,by decide,Tryz.func164.trans (congrArg some (by kernel_rfl))⟩
  f24:=⟨Tryz.f165.name,by decide,Tryz.func165.trans (congrArg some (by kernel_rfl))⟩
  f25:=⟨Tryz.f166.name,by decide,Tryz.func166.trans (congrArg some (by kernel_rfl))⟩
  f26:=⟨Tryz.f167.name,by decide,Tryz.func167.trans (congrArg some (by kernel_rfl))⟩
  f27:=⟨Tryz.f168.name,by decide,Tryz.func168.trans (congrArg some (by kernel_rfl))⟩
  f28:=⟨Tryz.f169.name,by decide,Tryz.func169.trans (congrArg some (by kernel_rfl))⟩
  f29:=⟨Tryz.f170.name,by decide,Tryz.func170.trans (congrArg some (by kernel_rfl))⟩
  f31:=Tryz.func183.trans (congrArg some (by kernel_rfl))
  f32:=Tryz.func184.trans (congrArg some (by kernel_rfl))
  f36:=⟨Tryz.f182.name,by decide,Tryz.func182.trans (congrArg some (by kernel_rfl))⟩
  f37:=⟨Tryz.f185.name,by decide,Tryz.func185.trans (congrArg some (by kernel_rfl))⟩
  f38:=⟨Tryz.f186.name,by decide,Tryz.func186.trans (congrArg some (by kernel_rfl))⟩
  f39:=⟨Tryz.f187.name,by decide,Tryz.func187.trans (congrArg some (by kernel_rfl))⟩
  f41:=⟨Tryz.f202.name,by decide,Tryz.func202.trans (congrArg some (by kernel_rfl))⟩
  t0:=Tryz.underlying0
  a0:=Tryz.isAgg0
  z0:=Tryz.sizeOf0
  v0:=Tryz.zeroValue0
  t3:=Tryz.underlying3
  a3:=Tryz.isAgg3
  z3:=Tryz.sizeOf3
  v3:=Tryz.zeroValue3
  t4:=Tryz.underlying4
  a4:=Tryz.isAgg4
  z4:=Tryz.sizeOf4
  v4:=Tryz.zeroValue4
  t5:=Tryz.underlying5
  a5:=Tryz.isAgg5
  z5:=Tryz.sizeOf5
  v5:=Tryz.zeroValue5
  t9:=Tryz.underlying9
  a9:=Tryz.isAgg9
  z9:=Tryz.sizeOf9
  v9:=Tryz.zeroValue9
  t26:=Tryz.underlying37
  a26:=Tryz.isAgg37
  z26:=Tryz.sizeOf37
  v26:=Tryz.zeroValue37
  t27:=Tryz.underlying37
  a27:=Tryz.isAgg37
  z27:=Tryz.sizeOf37
  v27:=Tryz.zeroValue37
  t29:=Tryz.underlying9
  a29:=Tryz.isAgg9
  z29:=Tryz.sizeOf9
  v29:=Tryz.zeroValue9
  t32:=Tryz.underlying215
  a32:=Tryz.isAgg215
  z32:=Tryz.sizeOf215
  v32:=Tryz.zeroValue215
  t35:=Tryz.underlying229
  a35:=Tryz.isAgg229
  z35:=Tryz.sizeOf229
  v35:=Tryz.zeroValue229
  t36:=Tryz.underlying230
  a36:=Tryz.isAgg230
  z36:=Tryz.sizeOf230
  v36:=Tryz.zeroValue230
  t41:=Tryz.underlying234
  a41:=Tryz.isAgg234
  z41:=Tryz.sizeOf234
  v41:=Tryz.zeroValue234
  t44:=Tryz.underlying237
  a44:=Tryz.isAgg237
  z44:=Tryz.sizeOf237
  v44:=Tryz.zeroValue237
  t46:=Tryz.underlying239
  a46:=Tryz.isAgg239
  z46:=Tryz.sizeOf239
  v46:=Tryz.zeroValue239
  t53:=Tryz.underlying250
  a53:=Tryz.isAgg250
  z53:=Tryz.sizeOf250
  v53:=Tryz.zeroValue250
  t57:=Tryz.underlying254
  a57:=Tryz.isAgg254
  z57:=Tryz.sizeOf254
  v57:=Tryz.zeroValue254
  t63:=Tryz.underlying263
  a63:=Tryz.isAgg263
  z63:=Tryz.sizeOf263
  v63:=Tryz.zeroValue263
  t64:=Tryz.underlying41
  a64:=Tryz.isAgg41
  z64:=Tryz.sizeOf41
  v64:=Tryz.zeroValue41}
end Go.Proofs.YtbofhlifobjolaaGreatDoor
end
section
set_option linter.unusedVariables false
set_option linter.unusedSimpArgs false
namespace Go.Proofs.YtbofhlifobjolaaGreatDoor.Ax
open Go.RowKit
def orKn (a b:Known):Known:=fun f args h=>match a f args h with
  | some r=>some r
  | none=>b f args h
theorem orKn_ok {C:Cx} {a b:Known} (ha:KnownOK C a) (hb:KnownOK C b):KnownOK C (orKn a b):=by
  intro f args h r hr
  unfold orKn at hr
  split at hr
  · rename_i r' h'; cases hr; exact ha f args h _ h'
  · exact hb f args h r hr
def insI (x:Int):List Int→List Int
  | []=>[x]
  | y::l=>if x≤y then x::y::l else y::insI x l
def sortI:List Int→List Int
  | []=>[]
  | x::l=>insI x (sortI l)
theorem insI_perm (x:Int):∀l,(insI x l).Perm (x::l)
  | []=>List.Perm.refl _
  | y::l=>by
    simp only [insI]
    split
    · exact List.Perm.refl _
    · exact ((insI_perm x l).cons y).trans (List.Perm.swap x y l)
theorem sortI_perm:∀l,(sortI l).Perm l
  | []=>List.Perm.refl _
  | x::l=>(insI_perm x _).trans ((sortI_perm l).cons x)
theorem insI_sorted (x:Int):∀l,l.Pairwise (·≤ ·)→(insI x l).Pairwise (·≤ ·)
  | [],_=>by simp [insI]
  | y::l,h=>by
    simp only [insI]
    split
    · rename_i hxy
      refine List.pairwise_cons.2 ⟨fun z hz=> ?_,h⟩
      rcases List.mem_cons.1 hz with rfl | hz
      · exact hxy
      · exact Int.le_trans hxy ((List.pairwise_cons.1 h).1 z hz)
    · rename_i hxy
      have h2:=List.pairwise_cons.1 h
      refine List.pairwise_cons.2 ⟨fun z hz=> ?_,insI_sorted x l h2.2⟩
      have:=(insI_perm x l).mem_iff.1 hz
      rcases List.mem_cons.1 this with rfl | hz
      · omega
      · exact h2.1 z hz
theorem sortI_sorted:∀l,(sortI l).Pairwise (·≤ ·)
  | []=>List.Pairwise.nil
  | x::l=>insI_sorted x _ (sortI_sorted l)
theorem sortI_eq {l ss:List Int} (h:ss.Perm l):ss.mergeSort (fun x y=>decide (x≤y))=sortI l:=by
  have tr:∀a b c:Int,decide (a≤b)=true→decide (b≤c)=true→decide (a≤c)=true:=fun a b c h1 h2=>by simp only [decide_eq_true_eq] at *; exact Int.le_trans h1 h2
  have to:∀a b:Int,(decide (a≤b) || decide (b≤a))=true:=fun a b=>by simp only [Bool.or_eq_true,decide_eq_true_eq]; exact Int.le_total a b
  refine List.Perm.eq_of_pairwise (le:=fun a b:Int=>a≤b) (fun a b _ _ h1 h2=>Int.le_antisymm h1 h2) ?_ (sortI_sorted l) (((List.mergeSort_perm ss _).trans h).trans (sortI_perm l).symm)
  exact (List.pairwise_mergeSort tr to ss).imp fun h=>by simpa using h
def intKey (e:AEnt):Int:=match e.key with
  | .int _ n=>n
  | _=>0
def isIntKey (e:AEnt):Bool:=match e.key with
  | .int .i64 n=>decide (-9223372036854775808≤n) && decide (n<9223372036854775808)
  | _=>false
def nodupN:List Nat→Bool
  | []=>true
  | x::l=> !l.contains x && nodupN l
def nodupI:List Int→Bool
  | []=>true
  | x::l=> !l.contains x && nodupI l
theorem nodupN_iff:∀l,nodupN l=true↔l.Nodup
  | []=>by simp [nodupN]
  | x::l=>by simp [nodupN,nodupN_iff l]
theorem nodupI_iff:∀l,nodupI l=true↔l.Nodup
  | []=>by simp [nodupI]
  | x::l=>by simp [nodupI,nodupI_iff l]
structure OkEs (es:List AEnt) (clock:Nat):Prop where
  ints:∀e∈es,isIntKey e=true
  below:∀e∈es,e.born<clock
  borns:(es.map (·.born)).Nodup
  keys:(es.map intKey).Nodup
  few:es.length≤1000000
def okEs (es:List AEnt) (clock:Nat):Bool:=
  es.all isIntKey && es.all (fun e=>decide (e.born<clock)) && nodupN (es.map (·.born)) && nodupI (es.map intKey) && decide (es.length≤1000000)
theorem okEs_ok {es:List AEnt} {clock:Nat} (h:okEs es clock=true):OkEs es clock:=by
  simp only [okEs,Bool.and_eq_true,List.all_eq_true,decide_eq_true_eq,nodupN_iff,nodupI_iff] at h
  exact ⟨h.1.1.1.1,h.1.1.1.2,h.1.1.2,h.1.2,h.2⟩
def sortedKn (fS g E:Nat):Known:=fun f args h=>
  if f=fS then match args with
    | [.fn (.func g') [] [.ptr (some (.new k 0))]]=>
      if g'=g then match h.get k with
        | some (.cells [.map none] _)=>some (.sl none 0 0 none,h)
        | some (.cells [.map (some j)] _)=>match h.get j with
          | some (.map es clock)=>
            if okEs es clock then match es with
              | []=>some (.sl none 0 0 none,h)
              | _=>some (.sl (some (.new h.next 0)) es.length es.length (some 1),h.push (.cells ((sortI (es.map intKey)).map fun n=> .int .i64 n) E))
            else none
          | _=>none
        | _=>none
      else none
    | _=>none
  else none
open Go.Maps Go.Sort Go.Shelf
def RU:Value→Option (DataW Unit×List MemPlace):=fun _=>some (.lit (.bool true),[])
theorem insert_perm {H:Type} (x:Lit×DataW H):∀l,(DataW.insert x l).Perm (x::l)
  | []=>List.Perm.refl _
  | y::l=>by
    simp only [DataW.insert]
    split
    · exact List.Perm.refl _
    · exact ((insert_perm x l).cons y).trans (List.Perm.swap x y l)
theorem foldr_insert_perm {H:Type}:∀l:List (Lit×DataW H),(l.foldr DataW.insert []).Perm l
  | []=>List.Perm.refl _
  | x::l=>(insert_perm x _).trans ((foldr_insert_perm l).cons x)
theorem keyOf_int {P:Program} {K:TypeId} (hK:P.underlying K=some (.int .i64)) {n:Int} (h1: -9223372036854775808≤n) (h2:n<9223372036854775808):keyOf P K (.int .i64 n)=some (.int .i64 n):=by
  have hw:(Lit.int .i64 n).wf=true:=by
    have e1:IntKind.i64.min= -9223372036854775808:=by decide +kernel
    have e2:IntKind.i64.max=9223372036854775807:=by decide +kernel
    simp [Lit.wf,e1,e2]
    omega
  simp [keyOf,hK,mapKey,hw]
def entKey (x:MapEntry):Int:=match x.key with
  | .int _ n=>n
  | _=>0
theorem ents_int {ρ:Rho}:∀{es:List AEnt} {xs:List MapEntry},EntsRel ρ es xs→(∀e∈es,isIntKey e=true)→
    xs.map entKey=es.map intKey∧xs.map (·.born)=es.map (·.born)∧∀x∈xs,∃n,x.key= .int .i64 n∧-9223372036854775808≤n∧n<9223372036854775808
  | [],xs,h,_=>by simp only [EntsRel] at h; subst h; simp
  | e::es,xs,h,hi=>by
    simp only [EntsRel] at h
    obtain ⟨x,xs',rfl,⟨h1,_,h3⟩,h4⟩:=h
    obtain ⟨a,b,c⟩:=ents_int h4 fun e he=>hi e (by simp [he])
    have he:=hi e (by simp)
    unfold isIntKey at he
    split at he
    · rename_i n hk
      simp only [Bool.and_eq_true,decide_eq_true_eq] at he
      rw [hk] at h1
      have hx:=int_rel h1
      refine ⟨by simp [a,entKey,intKey,hk,hx],by simp [b,h3],fun y hy=> ?_⟩
      rcases List.mem_cons.1 hy with rfl | hy
      · exact ⟨n,hx,he.1,he.2⟩
      · exact c y hy
    · simp at he
theorem nodup_of_map {α β:Type} (f:α→β):∀{l:List α},(l.map f).Nodup→l.Nodup
  | [],_=>List.nodup_nil
  | x::l,h=>by
    rw [List.map_cons,List.nodup_cons] at h
    exact List.nodup_cons.2 ⟨fun hx=>h.1 (List.mem_map.2 ⟨x,hx,rfl⟩),nodup_of_map f h.2⟩
theorem owns_of_ents {P:Program} {K:TypeId} (hK:P.underlying K=some (.int .i64)) {W:World} {b clock:Nat} {es':Array MapEntry} {es:List AEnt} {ρ:Rho} (hb:W.heap[b]? =some (.map es' clock)) (hr:EntsRel ρ es es'.toList) (ok:OkEs es clock):
    ∃D0:DataW Unit,W.ownsMap P K RU b es'.size D0∧Maps.size D0=es.length∧(intKeys D0).Perm (es.map intKey):=by
  obtain ⟨h1,h2,h3⟩:=ents_int hr ok.ints
  have hlen:es'.size=es.length:=by have:=hr.length; simpa using this
  have hrd:∀x∈es'.toList,Go.WideElems.rd P K RU x=some (.int .i64 (entKey x),.lit (.bool true)):=by
    intro x hx
    obtain ⟨n,hn,a,b⟩:=h3 x hx
    simp [Go.WideElems.rd,hn,keyOf_int hK a b,RU,entKey]
  refine ⟨_,⟨es',clock,hb,⟨?_,⟨fun x hx=> ?_,?_,?_⟩,fun x hx=>⟨_,hrd x hx⟩⟩,Nat.le_refl _,rfl⟩,?_,?_⟩
  · have:=ok.few; unfold maxLen; omega
  · have:x.born∈es'.toList.map (·.born):=List.mem_map.2 ⟨x,hx,rfl⟩
    rw [h2] at this
    obtain ⟨e,he,h4⟩:=List.mem_map.1 this
    have:=ok.below e he
    omega
  · rw [h2]; exact ok.borns
  · have hk:(es'.toList.map (·.key)).map (fun v=>match v with | Value.int _ n=>n | _=>0)=es'.toList.map entKey:=by
      rw [List.map_map]; rfl
    refine nodup_of_map (fun v=>match v with | Value.int _ n=>n | _=>0) ?_
    rw [hk,h1]; exact ok.keys
  · show (List.foldr DataW.insert [] (es'.toList.map (Go.WideElems.rg P K RU))).length=_
    rw [(foldr_insert_perm _).length_eq]
    simp [hlen]
  · refine ((foldr_insert_perm _).map (fun p:Lit×DataW Unit=>Go.intOf p.1)).trans ?_
    rw [List.map_map, ←h1]
    refine List.Perm.of_eq (List.map_congr_left fun x hx=> ?_)
    simp [Go.WideElems.rg,hrd x hx]
    rfl
end Go.Proofs.YtbofhlifobjolaaGreatDoor.Ax
end
section
set_option linter.unusedVariables false
set_option linter.unusedSimpArgs false
namespace Go.Proofs.YtbofhlifobjolaaGreatDoor.Ax
open Go.RowKit Go.Maps Go.Sort Go.Shelf
theorem sorts_wide (m:Nat):AnyZI.SortsIn Tryz.prog Sh.sortedI_ren Fence.wide m:=
  ⟨fun blk off cap ss W hH hblk hsz=>callsIn_wide.2 (AnyM.slices_Sort_int Sh.sortI blk off cap ss W hH hblk hsz),
   fun p cap W=>callsIn_wide.2 (AnyM.slices_Sort_int_none Sh.sortI p cap W)⟩
theorem sorted_calls (B b nn:Nat) (D0:DataW Unit) (W:World) (hB:B<W.heap.size) (hm:W.cell? ⟨B,0,none⟩=some (.map (some b))) (hown:W.ownsMap Tryz.prog 3 RU b nn D0) (hmax:Maps.size D0≤1000000):
    Calls Tryz.prog 131 #[.func (.func 153) #[] #[.pointer (some ⟨B,0,none⟩)]] W fun e w'=>∃(v:Value) (ss:List Int),e= .returned v∧ss.Perm (intKeys D0)∧
      w'.ownsRow W.heap.size 3 1 v ss.length ((ss.mergeSort (fun x y=>decide (x≤y))).map encZ)∧(v= .slice none 0 0↔ss=[])∧Below W.heap.size W w':=by
  have hseq:SeqGives Fence.wide 2 Tryz.prog 153 #[.pointer (some ⟨B,0,none⟩)] encZ (fun ss=>ss.Perm (intKeys D0)) (Maps.size D0) W:=
    AnyZI.keys_gives (ρ:=Sh.keysI_ren) {Sh.keysI with} Fence.wide _ trivial rfl (by omega) B b nn D0 W hB hm hown
  have cS:=AnyZI.sorted_in Sh.sortedI Fence.wide 5 trivial trivial trivial trivial rfl (by omega) (sorts_wide _) (enters_of Tryz.func152 (by kernel_rfl) rfl) 153 #[.pointer (some ⟨B,0,none⟩)] trivial
    (enters_of Tryz.func153 (by kernel_rfl) rfl) _ _ (by unfold maxLen; omega) (by omega) _ hseq
  exact callsIn_wide.1 cS
theorem sorted_calls_nil (B:Nat) (W:World) (hB:B<W.heap.size) (hm:W.cell? ⟨B,0,none⟩=some (.map none)):
    Calls Tryz.prog 131 #[.func (.func 153) #[] #[.pointer (some ⟨B,0,none⟩)]] W fun e w'=>∃(v:Value) (ss:List Int),e= .returned v∧ss=[]∧
      w'.ownsRow W.heap.size 3 1 v ss.length ((ss.mergeSort (fun x y=>decide (x≤y))).map encZ)∧(v= .slice none 0 0↔ss=[])∧Below W.heap.size W w':=by
  have hseq:SeqGives Fence.wide 2 Tryz.prog 153 #[.pointer (some ⟨B,0,none⟩)] encZ (fun ss:List Int=>ss=[]) 0 W:=
    AnyZI.keys_gives_nil (ρ:=Sh.keysI_ren) {Sh.keysI with} Fence.wide _ trivial rfl B W hB hm
  have cS:=AnyZI.sorted_in Sh.sortedI Fence.wide 5 trivial trivial trivial trivial rfl (by omega) (sorts_wide _) (enters_of Tryz.func152 (by kernel_rfl) rfl) 153 #[.pointer (some ⟨B,0,none⟩)] trivial
    (enters_of Tryz.func153 (by kernel_rfl) rfl) _ 0 (Nat.zero_le _) (by omega) _ hseq
  exact callsIn_wide.1 cS
theorem sorted_known (W:World):KnownOK (CC W) (sortedKn 131 153 3):=by
  intro f args h r hr
  unfold sortedKn at hr
  split at hr
  case isFalse=>simp at hr
  rename_i hf
  subst hf
  split at hr
  case h_2=>simp at hr
  rename_i g' k
  split at hr
  case isFalse=>simp at hr
  rename_i hg
  subst hg
  intro ρ W1 vs R hv
  simp only [VsRel,VRel] at hv
  obtain ⟨X,xs,e1,⟨us,ws,rfl,hus,hws⟩,rfl⟩:=hv
  obtain ⟨Y,ys,e2,⟨A,⟨r1,hr1,rfl⟩,rfl⟩,rfl⟩:=hws
  have ev:vs= #[.func (.func 153) #[] #[.pointer (some ⟨r1.b,0,none⟩)]]:=by
    have h0:=R.home r1 (List.mem_of_getElem? hr1)
    refine Array.toList_inj.1 ?_
    rw [e1]
    congr 2
    · exact Array.toList_inj.1 hus
    · exact Array.toList_inj.1 (by rw [e2,h0])
  split at hr
  case h_3=>simp at hr
  · rename_i t hk
    obtain ⟨r1',hr1',_,c,fr,hb1,hz1,hl1,hall1,_⟩:=R.live k _ hk
    rw [hr1] at hr1'; cases hr1'
    have h0:=R.home r1 (List.mem_of_getElem? hr1)
    obtain ⟨V,hV,hVr⟩:=hall1 0 _ rfl
    rw [h0] at hV
    simp only [VRel] at hVr
    subst hVr
    simp at hr
    subst hr
    have hB:r1.b<W1.heap.size:=(Array.getElem?_eq_some_iff.1 hb1).1
    have hm:W1.cell? ⟨r1.b,0,none⟩=some (.map none):=by
      have hc:c[0]? =some (.map none):=by simpa using hV
      simp [World.cell?,hb1,hc]
    rw [ev]
    refine (sorted_calls_nil r1.b W1 hB hm).mono fun e W' ⟨v,ss,he,hss,hrow,hnil,hbel⟩=> ?_
    subst he
    rw [hnil.2 hss]
    exact ⟨ρ,_,h,List.prefix_refl _,R.belowEnd hbel,by simp [VRel],rfl,rfl⟩
  rename_i j t hk
  split at hr
  case h_2=>simp at hr
  rename_i es clock hj
  split at hr
  case isFalse=>simp at hr
  rename_i hok
  have ok:=okEs_ok hok
  obtain ⟨r1',hr1',_,c,fr,hb1,hz1,hl1,hall1,_⟩:=R.live k _ hk
  rw [hr1] at hr1'; cases hr1'
  have h0:=R.home r1 (List.mem_of_getElem? hr1)
  obtain ⟨V,hV,hVr⟩:=hall1 0 _ rfl
  rw [h0] at hV
  simp only [VRel] at hVr
  obtain ⟨r2,hr2,rfl⟩:=hVr
  obtain ⟨r2',hr2',_,es',hb2,hes⟩:=R.live j _ hj
  rw [hr2] at hr2'; cases hr2'
  obtain ⟨D0,hown,hsize,hperm⟩:=owns_of_ents (P:=Tryz.prog) (K:=3) Tryz.underlying3 hb2 hes ok
  have hB:r1.b<W1.heap.size:=(Array.getElem?_eq_some_iff.1 hb1).1
  have hm:W1.cell? ⟨r1.b,0,none⟩=some (.map (some r2.b)):=by
    have hc:c[0]? =some (.map (some r2.b)):=by simpa using hV
    simp [World.cell?,hb1,hc]
  rw [ev]
  refine (sorted_calls r1.b r2.b _ D0 W1 hB hm hown (by rw [hsize]; exact ok.few)).mono fun e W' ⟨v,ss,he,hss,hrow,hnil,hbel⟩=> ?_
  subst he
  have hss2:=hss.trans hperm
  have hsort:=sortI_eq hss2
  have hlen:ss.length=es.length:=by rw [hss2.length_eq]; simp
  rw [hsort] at hrow
  split at hr
  · simp at hr
    subst hr
    have:ss=[]:=List.eq_nil_of_length_eq_zero (by simpa using hlen)
    rw [hnil.2 this]
    exact ⟨ρ,_,h,List.prefix_refl _,R.belowEnd hbel,by simp [VRel],rfl,rfl⟩
  · rename_i hne
    simp at hr
    subst hr
    have hne':es≠[]:=fun h=>hne h
    rcases hrow.2 with ⟨rfl,hz⟩ | ⟨g,cap,cur,rfl,hbase,hgb,hc1,hc2,hc3,hc4⟩
    · have:ss=[]:=List.eq_nil_of_length_eq_zero hz
      rw [this] at hlen
      exact absurd (List.eq_nil_of_length_eq_zero hlen.symm) hne'
    · have hsl:(sortI (es.map intKey)).length=es.length:=by rw [(sortI_perm _).length_eq]; simp
      refine ⟨ρ ++ [⟨g,0,cur.size⟩],_,_,List.prefix_append _ _,R.pushB hbel hbase (.cells ((sortI (es.map intKey)).map fun n=> .int .i64 n) 3) ?_,?_,rfl,rfl⟩
      · refine ⟨cur,(0,0),hgb,rfl,?_,fun i v hi=> ?_,fun j _=>by simp⟩
        · simp only [List.length_map,hsl,Nat.zero_add]
          omega
        · simp only [List.getElem?_map,Option.map_eq_some_iff] at hi
          obtain ⟨n,hn,rfl⟩:=hi
          have hlt:=(List.getElem?_eq_some_iff.1 hn).1
          refine ⟨.int .i64 n,?_,by simp [VRel]⟩
          have h4:(cur.toList.take (ss.length * 1))[i]? =some (encZ n):=by
            rw [hc4,List.getElem?_map,hn]; rfl
          rw [List.getElem?_take] at h4
          split at h4
          · simpa using h4
          · simp at h4
      · simp only [VRel]
        refine ⟨⟨g,0,cur.size⟩,⟨g,0,none⟩,cap,by rw [←R.len]; simp,by rw [hlen],by omega,by omega,fun h=>by simp at h,.inl ⟨by simp,fun n hn=> ?_⟩⟩
        simp at hn
        subst hn
        simp only [Nat.zero_add]
        omega
end Go.Proofs.YtbofhlifobjolaaGreatDoor.Ax
end
section
namespace Go.Proofs.YtbofhlifobjolaaGreatDoor
open Go.Shelf
def Sh.lays156_ren:Go.Shelf.Ren:=⟨fun | 156=>97 | 165=>133 | 166=>134 | 169=>77 | 240=>111 | 241=>154 | 276=>141 | 277=>179 | n=>n,fun | 31=>37 | 9=>9 | 3=>3 | 4=>4 | 0=>0 | 20=>20 | 72=>146 | 76=>202 | 70=>144 | 37=>51 | 75=>148 | 127=>181 | 164=>211 | 5=>5 | 80=>150 | n=>n,fun | n=>n⟩
theorem Sh.lays156:Go.Proofs.Lays.n156 Tryz.prog Sh.lays156_ren:={
  mixed:=by kernel_rfl
  f156:=Tryz.func97.trans (congrArg some (by kernel_rfl))
  f165:=Tryz.func133.trans (congrArg some (by kernel_rfl))
  f166:=Tryz.func134.trans (congrArg some (by kernel_rfl))
  f169:=Tryz.func77.trans (congrArg some (by kernel_rfl))
  f240:=Tryz.func111.trans (congrArg some (by kernel_rfl))
  f241:=Tryz.func154.trans (congrArg some (by kernel_rfl))
  f276:=Tryz.func141.trans (congrArg some (by kernel_rfl))
  f277:=Tryz.func179.trans (congrArg some (by kernel_rfl))
  t0:=Tryz.underlying0
  a0:=Tryz.isAgg0
  z0:=Tryz.sizeOf0
  v0:=Tryz.zeroValue0
  t3:=Tryz.underlying3
  a3:=Tryz.isAgg3
  z3:=Tryz.sizeOf3
  v3:=Tryz.zeroValue3
  t4:=Tryz.underlying4
  a4:=Tryz.isAgg4
  z4:=Tryz.sizeOf4
  v4:=Tryz.zeroValue4
  t9:=Tryz.underlying9
  a9:=Tryz.isAgg9
  z9:=Tryz.sizeOf9
  v9:=Tryz.zeroValue9
  t20:=Tryz.underlying20
  a20:=Tryz.isAgg20
  z20:=Tryz.sizeOf20
  v20:=Tryz.zeroValue20
  t31:=Tryz.underlying37
  a31:=Tryz.isAgg37
  z31:=Tryz.sizeOf37
  v31:=Tryz.zeroValue37
  t37:=Tryz.underlying51
  a37:=Tryz.isAgg51
  z37:=Tryz.sizeOf51
  v37:=Tryz.zeroValue51
  t70:=Tryz.underlying144
  a70:=Tryz.isAgg144
  z70:=Tryz.sizeOf144
  v70:=Tryz.zeroValue144
  t72:=Tryz.underlying146
  a72:=Tryz.isAgg146
  z72:=Tryz.sizeOf146
  v72:=Tryz.zeroValue146
  t75:=Tryz.underlying148
  a75:=Tryz.isAgg148
  z75:=Tryz.sizeOf148
  v75:=Tryz.zeroValue148
  t76:=Tryz.underlying202
  a76:=Tryz.isAgg202
  z76:=Tryz.sizeOf202
  v76:=Tryz.zeroValue202
  t127:=Tryz.underlying181
  a127:=Tryz.isAgg181
  z127:=Tryz.sizeOf181
  v127:=Tryz.zeroValue181
  t164:=Tryz.underlying211
  a164:=Tryz.isAgg211
  z164:=Tryz.sizeOf211
  v164:=Tryz.zeroValue211}
theorem Sh.Builder_Extra_156:Builder.Extra Tryz.prog Sh.lays156_ren:={
  sizeBuilder:=by kernel_rfl
  liesBuilder:=by kernel_rfl
  t5:=Tryz.underlying5
  a5:=Tryz.isAgg5
  z5:=Tryz.sizeOf5
  v5:=Tryz.zeroValue5
  infoByte:=by kernel_rfl
  cellsByte:=by kernel_rfl
  sizeByte:=by kernel_rfl
  neB5:=by decide}
open Go.RowKit in
theorem Sh.strings_Join_none (a:Option Addr) (c:Nat) (sep:ByteArray) (w:World):
    Calls Tryz.prog 97 #[.slice a 0 c,.string sep] w fun e w'=>e= .returned (.string ⟨#[]⟩)∧w'=w:=Any.strings_Join_none Sh.lays156 Sh.Builder_Extra_156 a c sep w
open Go.RowKit in
theorem Sh.strings_Join (bk o c:Nat) (xs:List ByteArray) (sep:ByteArray) (w:World) (hcells:∀(j:Nat) x,xs[j]? =some x→w.cell? ⟨bk,o + j,none⟩=some (.string x)) (hbk:bk<w.heap.size) (hN:xs.length≤140737488355328) (hcap:xs.length≤c) (hlen:(Lib.join (xs.map (·.data.toList)) sep.data.toList).length≤140737488355328):
    Calls Tryz.prog 97 #[.slice (some ⟨bk,o,none⟩) xs.length c,.string sep] w fun e w'=>e= .returned (.string ⟨(Lib.join (xs.map (·.data.toList)) sep.data.toList).toArray⟩)∧Below w.heap.size w w':=Any.strings_Join Sh.lays156 Sh.Builder_Extra_156 bk o c xs sep w hcells hbk hN hcap hlen
end Go.Proofs.YtbofhlifobjolaaGreatDoor
end
section
set_option linter.unusedVariables false
set_option linter.unusedSimpArgs false
namespace Go.Proofs.YtbofhlifobjolaaGreatDoor.Ax
open Go.RowKit
def textOf:AV→Option (List UInt8)
  | .str s=>some s
  | _=>none
def joinKn (C:Cx) (f0:Nat):Known:=fun f args h=>
  if f=f0 then match args with
    | [.sl a len cap _,.str sep]=>
      if len=0 then match a with
        | none=>some (.str [],h)
        | some _=>none
      else match a with
        | some a=>match (aCells C h a len).bind fun vs=>vs.mapM textOf with
          | some l=>if len≤cap∧len≤1000000∧(Lib.join l sep).length≤1000000 then some (.str (Lib.join l sep),h) else none
          | none=>none
        | none=>none
    | _=>none
  else none
theorem join_known (W:World):KnownOK (CC W) (joinKn (CC W) 97):=by
  intro f args h r hr
  unfold joinKn at hr
  split at hr
  case isFalse=>simp at hr
  rename_i hf
  subst hf
  split at hr
  case h_2=>simp at hr
  rename_i a len cap gr sep
  split at hr
  · rename_i h0
    subst h0
    split at hr
    case h_2=>simp at hr
    simp at hr
    subst hr
    refine ret_of_calls fun ρ W1 vs R hv=> ?_
    simp only [VsRel,VRel] at hv
    obtain ⟨X,xs,e1,⟨_,_,_,rfl⟩,Y,ys,e2,rfl,rfl⟩:=hv
    have ev:vs= #[.slice none 0 0,.string ⟨sep.toArray⟩]:=Array.toList_inj.1 (by rw [e1,e2])
    rw [ev]
    exact (Sh.strings_Join_none none 0 ⟨sep.toArray⟩ W1).mono fun e W' ⟨he,hw⟩=>⟨⟨_,he,by simp [VRel]⟩,hw ▸ Below.refl _ _⟩
  · rename_i h0
    split at hr
    case h_2=>simp at hr
    rename_i a
    split at hr
    case h_2=>simp at hr
    rename_i l hl
    split at hr
    case isFalse=>simp at hr
    rename_i hc
    obtain ⟨hc1,hc2,hc3⟩:=hc
    simp at hr
    subst hr
    simp only [Option.bind_eq_some_iff] at hl
    obtain ⟨cs,hcs,htx⟩:=hl
    refine ret_of_calls fun ρ W1 vs R hv=> ?_
    simp only [VsRel] at hv
    obtain ⟨X,xs,e1,hX,Y,ys,e2,hY,rfl⟩:=hv
    have eY:=str_rel hY
    obtain ⟨A,cap',rfl,hA⟩:=sl_addr hX (by omega)
    have hcap:len≤cap':=by
      cases a with
      | base b o=>simp only [VRel,Value.slice.injEq] at hX; omega
      | new k o=>
        simp only [VRel] at hX
        obtain ⟨r,A2,c2,_,e3,h4,_⟩:=hX
        simp only [Value.slice.injEq] at e3
        omega
    obtain ⟨bo,oo,rfl⟩:∃b o,A=⟨b,o,none⟩:=by
      cases a with
      | base b o=>exact ⟨b,o,hA⟩
      | new k o=>obtain ⟨r,_,hA⟩:=hA; exact ⟨_,_,hA⟩
    obtain ⟨hcl,hcg⟩:=aCells_get hcs
    have hll:l.length=len:=by
      have:∀(vs:List AV) (l:List (List UInt8)),vs.mapM textOf=some l→l.length=vs.length:=by
        intro vs
        induction vs with
        | nil=>intro l h; simp at h; subst h; rfl
        | cons v vs ih=>
          intro l h
          simp only [List.mapM_cons,bind,Option.bind_eq_some_iff] at h
          obtain ⟨y,hy,ys,hys,hp⟩:=h
          simp [pure] at hp; subst hp
          simp [ih ys hys]
      rw [this cs l htx,hcl]
    have hcells:∀(j:Nat) x,l[j]? =some x→W1.cell? ⟨bo,oo + j,none⟩=some (.string ⟨x.toArray⟩):=by
      intro j x hx
      have hj:=(List.getElem?_eq_some_iff.1 hx).1
      have hcj:cs[j]? =some cs[j]:=by simp [hcl, ←hll,hj]
      have h1:=(hcg j (by omega)).trans hcj
      obtain ⟨V,hV,hr⟩:=cell_rel R (hA.add j) h1
      rw [add_addr] at hV
      rw [hV]
      have:∀(vs:List AV) (l:List (List UInt8)),vs.mapM textOf=some l→∀(j:Nat) (x:List UInt8),l[j]? =some x→vs[j]? =some (AV.str x):=by
        intro vs
        induction vs with
        | nil=>intro l h; simp at h; subst h; simp
        | cons v vs ih=>
          intro l h j x hx
          simp only [List.mapM_cons,bind,Option.bind_eq_some_iff] at h
          obtain ⟨y,hy,ys,hys,hp⟩:=h
          simp [pure] at hp; subst hp
          cases j with
          | zero=>
            simp at hx; subst hx
            unfold textOf at hy
            split at hy
            · simp at hy; subst hy; simp
            · simp at hy
          | succ j=>simpa using ih ys hys j x (by simpa using hx)
      have h2:=this cs l htx j x hx
      rw [hcj] at h2
      simp at h2
      rw [h2] at hr
      rw [str_rel hr]
    have ev:vs= #[.slice (some ⟨bo,oo,none⟩) len cap',.string ⟨sep.toArray⟩]:=Array.toList_inj.1 (by rw [e1,e2,eY])
    have hm:(l.map fun x=>(⟨x.toArray⟩:ByteArray)).map (·.data.toList)=l:=by
      rw [List.map_map]; simp [Function.comp_def]
    have:=Sh.strings_Join bo oo cap' (l.map fun x=>(⟨x.toArray⟩:ByteArray)) ⟨sep.toArray⟩ W1 (fun j x hx=>by
        rw [List.getElem?_map,Option.map_eq_some_iff] at hx
        obtain ⟨y,hy,rfl⟩:=hx
        exact hcells j y hy)
      (World.block_lt_of_cell? _ _ (hcells 0 _ (List.getElem?_eq_getElem (show 0<l.length by omega)))) (by simp; omega) (by simp; omega) (by rw [hm]; show (Lib.join l sep).length≤_; omega)
    rw [hm,List.length_map,hll] at this
    rw [ev]
    exact this.mono fun e W' ⟨he,hw⟩=>⟨⟨_,he,by simp [VRel]⟩,hw⟩
def isT (v:AV) (_:AH):Bool:=match v with | .bool b=>b | _=>false
theorem isT_eq {v:AV} {h:AH} (hv:isT v h=true):v= .bool true:=by
  unfold isT at hv
  split at hv
  · rename_i b; rw [hv]
  · simp at hv
noncomputable def knownM (W:World):Known:=orKn (sortedKn 131 153 3) (joinKn (CC W) 97)
theorem knownM_ok (W:World):KnownOK (CC W) (knownM W):=orKn_ok (sorted_known W) (join_known W)
theorem speaks_kr (W:World):callKr (CC W) (knownM W) 1000000 15 [] AH.empty isT=true:=by kernel_rfl
end Go.Proofs.YtbofhlifobjolaaGreatDoor.Ax
end
