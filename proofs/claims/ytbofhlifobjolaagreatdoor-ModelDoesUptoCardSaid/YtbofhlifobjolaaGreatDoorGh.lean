/- The texts MapIt, TrB, TruncW, WrB, BelowM, EnvS, WriteW, RenameW, NewW, NewM, as one. -/
import Derived.Test.YtbofhlifobjolaaGreatDoorGe
import Derived.Test.YtbofhlifobjolaaGreatDoorGd
import Derived.Test.YtbofhlifobjolaaGreatDoorGbb
import Derived.Test.YtbofhlifobjolaaGreatDoorGg
import Derived.KernelRfl
section
set_option linter.unusedVariables false
set_option linter.unusedSimpArgs false
namespace Go.Proofs.YtbofhlifobjolaaGreatDoor.Ax
open Go.RowKit
theorem slowK_next {C:Cx} {Q:Post} {ops:Array Oper} {o:Oper} {rest:List Oper} {ks:List Fr} {e:Env} {h:AH} {it:Operand} (ho:o.op= .next it false)
    (hv:nextM h (ev e it) (fun v h'=>Rg C Q ops rest ks (za9 e o.dst v) h')):SlowK C Q ops o rest ks e h:=by
  refine ⟨?_⟩
  have h1:zb9 C o (ev e) h=none:=by simp only [zb9,ho]
  have h2:qu9 C o (ev e) h=none:=by simp only [qu9,ho]
  have h3:qv9 C o (ev e)=none:=by simp only [qv9,ho]
  simp only [opWp,h1,h2,h3,ho]
  exact hv
theorem nextM_map {h:AH} {kI km clock:Nat} {es:List AEnt} {seen:List Nat} {K:AV→AH→Prop} (hI:h.get kI=some (.miter (some km) clock seen clock)) (hM:h.get km=some (.map es clock)) (hb:∀e∈es,e.born<clock)
    (h0:(∀e∈es,seen.contains e.born=true)→K (.tup [.bool false]) h)
    (h1:∀e∈es,seen.contains e.born=false→K (.tup [.bool true,e.key,e.val]) (h.set kI (.miter (some km) clock (seen ++ [e.born]) clock))):nextM h (.ptr (some (.new kI 0))) K:=by
  simp only [nextM,hI,hM]
  refine ⟨?_,fun hf=>h0 fun e he=> ?_,h1⟩
  · intro hc
    simp only [Bool.and_eq_true] at hc
    cases es with
    | nil=>simp at hc
    | cons e es=>
      have:=hb e (by simp)
      simp only [List.all_cons,Bool.and_eq_true,decide_eq_true_eq] at hc
      omega
  · have:=List.filter_eq_nil_iff.1 hf e he
    have hlt:=hb e he
    simpa [hlt] using this
theorem aEntry_map {h:AH} {kI km clock:Nat} {es:List AEnt} {seen:List Nat} {e:AEnt} (hI:h.get kI=some (.miter (some km) clock (seen ++ [e.born]) clock)) (hM:h.get km=some (.map es clock)) (hf:es.find? (fun x=>x.born==e.born)=some e):
    aEntry h (.ptr (some (.new kI 0)))=some (.tup [e.key,e.val]):=by
  simp [aEntry,hI,hM,hf]
theorem find_born {a b:List AEnt} {e:AEnt} (hn:((a ++ e::b).map (·.born)).Nodup):(a ++ e::b).find? (fun x=>x.born==e.born)=some e:=by
  rw [List.find?_append]
  have:a.find? (fun x=>x.born==e.born)=none:=by
    refine List.find?_eq_none.2 fun x hx=> ?_
    simp only [List.map_append,List.map_cons,List.nodup_append] at hn
    have:=hn.2.2 x.born (List.mem_map.2 ⟨x,hx,rfl⟩) e.born (by simp)
    simpa using this
  rw [this]
  simp
theorem eq_int' {W:World} {a b:Int}:aEqIn (CC W) 100 3 (.int .i64 a) (.int .i64 b)=some (a==b):=rfl
theorem find_at {W:World} {k:Int}:∀{l1 l2:List AEnt} {e:AEnt} {i:Nat},(∀x∈l1,∃n,x.key= .int .i64 n∧n≠k)→e.key= .int .i64 k→aFind (CC W) 3 (.int .i64 k) (l1 ++ e::l2) i=some (some (i + l1.length,e.val))
  | [],l2,e,i,_,he=>by
    simp only [List.nil_append,aFind,he,eq_int',BEq.rfl,List.length_nil,Nat.add_zero]
  | x::l1,l2,e,i,h,he=>by
    obtain ⟨n,hn,hne⟩:=h x (by simp)
    have hb:(k==n)=false:=by simpa using fun h=>hne h.symm
    have ih:=find_at (W:=W) (l1:=l1) (l2:=l2) (i:=i + 1) (fun y hy=>h y (by simp [hy])) he
    simp only [List.cons_append,aFind,hn,eq_int',hb,ih,List.length_cons]
    congr 3
    omega
theorem find_none {W:World} {k:Int}:∀{l:List AEnt} {i:Nat},(∀x∈l,∃n,x.key= .int .i64 n∧n≠k)→aFind (CC W) 3 (.int .i64 k) l i=some none
  | [],_,_=>rfl
  | x::l,i,h=>by
    obtain ⟨n,hn,hne⟩:=h x (by simp)
    have hb:(k==n)=false:=by simpa using fun h=>hne h.symm
    have ih:=find_none (W:=W) (l:=l) (i:=i + 1) (fun y hy=>h y (by simp [hy]))
    simp only [aFind,hn,eq_int',hb,ih]
theorem map_del {W:World} {h:AH} {km clock:Nat} {l1 l2:List AEnt} {e:AEnt} {k:Int} (hM:h.get km=some (.map (l1 ++ e::l2) clock)) (hl:∀x∈l1,∃n,x.key= .int .i64 n∧n≠k) (he:e.key= .int .i64 k):
    aDelete (CC W) h #[90,3] (.map (some km)) (.int .i64 k)=some (h.set km (.map (l1 ++ l2) clock)):=by
  have hkd:(CC W).kind 90= .map 3 9:=rfl
  have hkey:aKey (CC W) 100 3 (.int .i64 k)=true:=rfl
  have hf:=find_at (W:=W) (l2:=l2) (i:=0) hl he
  have h0:(#[90,3]:Array TypeId)[0]? =some 90:=rfl
  simp only [aDelete,h0,hkd,hM,hkey,if_true,hf]
  rw [List.eraseIdx_append_of_length_le (by omega)]
  simp
theorem map_upd {W:World} {h:AH} {km clock:Nat} {l1 l2:List AEnt} {e:AEnt} {k:Int} {x:AV} (hM:h.get km=some (.map (l1 ++ e::l2) clock)) (hl:∀x∈l1,∃n,x.key= .int .i64 n∧n≠k) (he:e.key= .int .i64 k):
    aMapSet (CC W) h 90 (.map (some km)) (.int .i64 k) x=some (h.set km (.map (l1 ++ {e with val:=x}::l2) clock)):=by
  have hkd:(CC W).kind 90= .map 3 9:=rfl
  have hkey:aKey (CC W) 100 3 (.int .i64 k)=true:=rfl
  have hf:=find_at (W:=W) (l2:=l2) (i:=0) hl he
  have h1:(l1 ++ e::l2)[0 + l1.length]? =some e:=by simp
  have hs:aSame e.key (.int .i64 k)=true:=by rw [he]; simp [aSame]
  simp only [aMapSet,hkd,hM,hkey,if_true,hf,h1,hs]
  simp
theorem map_new {W:World} {h:AH} {km clock:Nat} {l:List AEnt} {k:Int} {x:AV} (hM:h.get km=some (.map l clock)) (hl:∀x∈l,∃n,x.key= .int .i64 n∧n≠k):
    aMapSet (CC W) h 90 (.map (some km)) (.int .i64 k) x=some (h.set km (.map (l ++ [⟨.int .i64 k,x,clock⟩]) (clock + 1))):=by
  have hkd:(CC W).kind 90= .map 3 9:=rfl
  have hkey:aKey (CC W) 100 3 (.int .i64 k)=true:=rfl
  have hf:=find_none (W:=W) (i:=0) hl
  simp only [aMapSet,hkd,hM,hkey,if_true,hf]
def trK (N k:Int) (s:List UInt8):Option (List UInt8):=
  if N - k * 128≤0 then none else if N - k * 128<128 then some (s.take (N - k * 128).toNat ++ List.replicate (128 - (N - k * 128).toNat) 0) else some s
def trB (N:Int) (l:Blk):Blk:=l.filterMap fun x=>(trK N x.1 x.2).map fun s=>(x.1,s)
def updE (N:Int) (e:AEnt):Option AEnt:=match e.key,e.val with
  | .int _ k,.str s=>(trK N k s).map fun s'=>{e with val:= .str s'}
  | _,_=>none
def stE (N:Int) (seen:List Nat) (e:AEnt):Option AEnt:=if seen.contains e.born=true then updE N e else some e
def trE (N:Int) (seen:List Nat) (es:List AEnt):List AEnt:=es.filterMap (stE N seen)
theorem fm_congr {α β:Type} {f g:α→Option β}:∀{l:List α},(∀x∈l,f x=g x)→l.filterMap f=l.filterMap g
  | [],_=>rfl
  | a::l,h=>by
    have ih:=fm_congr (l:=l) fun x hx=>h x (by simp [hx])
    simp only [List.filterMap_cons,h a (by simp),ih]
theorem updE_same {N:Int} {e e':AEnt} (h:updE N e=some e'):e'.key=e.key∧e'.born=e.born:=by
  unfold updE at h
  split at h
  · simp only [Option.map_eq_some_iff] at h
    obtain ⟨s,_,rfl⟩:=h
    exact ⟨rfl,rfl⟩
  · cases h
theorem stE_same {N:Int} {seen:List Nat} {e e':AEnt} (h:stE N seen e=some e'):e'.key=e.key∧e'.born=e.born:=by
  unfold stE at h
  split at h
  · exact updE_same h
  · cases h; exact ⟨rfl,rfl⟩
theorem trE_keys {N:Int} {seen:List Nat} {a:List AEnt} {x:AEnt} (h:x∈trE N seen a):∃y∈a,x.key=y.key∧x.born=y.born:=by
  obtain ⟨y,hy,he⟩:=List.mem_filterMap.1 h
  have:=stE_same he
  exact ⟨y,hy,this.1,this.2⟩
theorem trE_mem {N:Int} {seen:List Nat} {es:List AEnt} {e:AEnt} (h:e∈trE N seen es) (hn:seen.contains e.born=false):e∈es:=by
  obtain ⟨y,hy,he⟩:=List.mem_filterMap.1 h
  have hb:=(stE_same he).2
  unfold stE at he
  rw [←hb,hn] at he
  simp only [Bool.false_eq_true,if_false,Option.some.injEq] at he
  exact he ▸ hy
theorem trE_nil {N:Int} {es:List AEnt}:trE N [] es=es:=by
  have h:stE N []=some:=by funext e; simp [stE]
  rw [trE,h,List.filterMap_some]
theorem trE_split {N:Int} {seen:List Nat} {a b:List AEnt} {e:AEnt} (hn:seen.contains e.born=false):trE N seen (a ++ e::b)=trE N seen a ++ e::trE N seen b:=by
  have h:stE N seen e=some e:=by simp only [stE,hn,Bool.false_eq_true,if_false]
  simp only [trE,List.filterMap_append,List.filterMap_cons,h]
theorem trE_more {N:Int} {seen:List Nat} {a:List AEnt} {q:Nat} (h:∀x∈a,x.born≠q):trE N (seen ++ [q]) a=trE N seen a:=by
  refine fm_congr fun x hx=> ?_
  have:=h x hx
  simp [stE,this]
theorem trE_step {N:Int} {seen:List Nat} {a b:List AEnt} {e:AEnt} (hb:((a ++ e::b).map (·.born)).Nodup):
    trE N (seen ++ [e.born]) (a ++ e::b)=trE N seen a ++ ((updE N e).toList ++ trE N seen b):=by
  simp only [List.map_append,List.map_cons,List.nodup_append,List.nodup_cons] at hb
  have h1:∀x∈a,x.born≠e.born:=fun x hx=>hb.2.2 x.born (List.mem_map.2 ⟨x,hx,rfl⟩) e.born (by simp)
  have h2:∀x∈b,x.born≠e.born:=fun x hx he=>hb.2.1.1 (he ▸ List.mem_map.2 ⟨x,hx,rfl⟩)
  have h:stE N (seen ++ [e.born]) e=updE N e:=by simp [stE]
  rw [show a ++ e::b=a ++ ([e] ++ b) from rfl]
  show (a ++ ([e] ++ b)).filterMap _=_
  rw [List.filterMap_append,List.filterMap_append]
  congr 1
  · exact trE_more h1
  · congr 1
    · simp only [List.filterMap_cons,h,List.filterMap_nil]
      cases updE N e<;>rfl
    · exact trE_more h2
theorem trE_all {N:Int} {seen:List Nat} {es:List AEnt} (h:∀e∈trE N seen es,seen.contains e.born=true):trE N seen es=es.filterMap (updE N):=by
  refine fm_congr fun x hx=> ?_
  by_cases hc:seen.contains x.born=true
  · simp only [stE,hc,if_true]
  · have:x∈trE N seen es:=List.mem_filterMap.2 ⟨x,hx,by simp only [stE,if_neg hc]⟩
    exact absurd (h x this) hc
def left (seen:List Nat) (es:List AEnt):Nat:=es.countP fun e=> !seen.contains e.born
theorem left_step {seen:List Nat} {a b:List AEnt} {e:AEnt} (hn:seen.contains e.born=false):left (seen ++ [e.born]) (a ++ e::b)<left seen (a ++ e::b):=by
  have h1:∀l:List AEnt,left (seen ++ [e.born]) l≤left seen l:=fun l=>List.countP_mono_left fun x _ hx=>by
    simp only [List.contains_append,Bool.not_eq_true',Bool.or_eq_false_iff] at hx ⊢
    exact hx.1
  have a1:=h1 a
  have b1:=h1 b
  have h2:(seen ++ [e.born]).contains e.born=true:=by simp
  simp only [left,List.countP_append,List.countP_cons,hn,h2] at a1 b1 ⊢
  simp only [Bool.not_true,Bool.false_eq_true,if_false,Bool.not_false,if_true]
  omega
theorem sub_filterMap {α β:Type} {f:α→Option α} {g:α→β} (h:∀a b,f a=some b→g b=g a):∀l:List α,((l.filterMap f).map g).Sublist (l.map g)
  | []=>List.Sublist.refl _
  | a::l=>by
    simp only [List.filterMap_cons,List.map_cons]
    cases hf:f a with
    | none=>exact (sub_filterMap h l).cons _
    | some b=>
      simp only [List.map_cons,h a b hf]
      exact (sub_filterMap h l).cons_cons _
theorem OkEs.tr {es:List AEnt} {clock:Nat} (ok:OkEs es clock) (N:Int):OkEs (es.filterMap (updE N)) clock:=by
  have hs:∀x∈es.filterMap (updE N),∃y∈es,x.key=y.key∧x.born=y.born:=fun x hx=>by
    obtain ⟨y,hy,he⟩:=List.mem_filterMap.1 hx
    exact ⟨y,hy,(updE_same he).1,(updE_same he).2⟩
  refine ⟨fun e he=> ?_,fun e he=> ?_,?_,?_,?_⟩
  · obtain ⟨y,hy,h1,_⟩:=hs e he
    have:=ok.ints y hy
    simpa only [isIntKey,h1] using this
  · obtain ⟨y,hy,_,h2⟩:=hs e he
    rw [h2]; exact ok.below y hy
  · exact ok.borns.sublist (sub_filterMap (fun a b h=>(updE_same h).2) es)
  · exact ok.keys.sublist (sub_filterMap (fun a b h=>by simp only [intKey,(updE_same h).1]) es)
  · exact Nat.le_trans (List.length_filterMap_le _ _) ok.few
theorem tr_map {N:Int}:∀{es:List AEnt} {l:Blk},es.map (fun e=>(e.key,e.val))=l.map entOf→(es.filterMap (updE N)).map (fun e=>(e.key,e.val))=(trB N l).map entOf
  | [],[],_=>rfl
  | [],x::l,h=>by simp at h
  | e::es,[],h=>by simp at h
  | e::es,x::l,h=>by
    simp only [List.map_cons,List.cons.injEq] at h
    obtain ⟨h1,h2⟩:=h
    have ih:=tr_map (N:=N) h2
    simp only [entOf,Prod.mk.injEq] at h1
    simp only [trB,List.filterMap_cons] at ih ⊢
    have hu:updE N e=(trK N x.1 x.2).map fun s'=>{e with val:= .str s'}:=by
      simp only [updE,h1.1,h1.2]
    rw [hu]
    cases trK N x.1 x.2 with
    | none=>simpa using ih
    | some s=>simp [ih,h1.1,entOf]
theorem ent_at {es:List AEnt} {l:Blk} (h:es.map (fun e=>(e.key,e.val))=l.map entOf) {e:AEnt} (he:e∈es):∃x∈l,e.key= .int .i64 x.1∧e.val= .str x.2:=by
  have:(e.key,e.val)∈l.map entOf:=by rw [←h]; exact List.mem_map.2 ⟨e,he,rfl⟩
  obtain ⟨x,hx,hxe⟩:=List.mem_map.1 this
  simp only [entOf,Prod.mk.injEq] at hxe
  exact ⟨x,hx,hxe.1.symm,hxe.2.symm⟩
def BOk (b:Blk):Prop:=∀x∈b,x.2.length=128∧0≤x.1∧x.1<4166
def truncR (M:MS) (n:Int) (l:List (List UInt8)):Int×MS:=
  if n<0 then (309,M) else if 533248<n then (307,M)
  else if (fileR M l).2=0 then
    match M.nodes[(fileR M l).1.toNat]? with
    | some nd=>(0,M.set (fileR M l).1.toNat {nd with size:=n,blocks:=nd.blocks.map (trB n)})
    | none=>(0,M)
  else ((fileR M l).2,M)
theorem rng_map {W:World} {h:AH} {km clock:Nat} {es:List AEnt} (hg:h.get km=some (.map es clock)):aRange (CC W) h 90 (.map (some km))=some (.ptr (some (.new h.next 0)),h.push (.miter (some km) clock [] clock)):=by
  have hkd:(CC W).kind 90= .map 3 9:=rfl
  simp only [aRange,hkd,hg]
def TruncI (h3:AH) (kb kI k0:Nat) (fp:AV) (km:Nat) (es:List AEnt) (clock:Nat) (N:Int) (m:Nat) (e':Env) (h':AH):Prop:=
  e'.length=78∧∃seen:List Nat,left seen es=m∧h3.next≤h'.next∧kI<h'.next∧(∀k,k<h3.next→k≠km→h'.get k=h3.get k)∧h'.get km=some (.map (trE N seen es) clock)∧h'.get kI=some (.miter (some km) clock seen clock)∧
    (e'.getD 5 .undef= .ptr (some (.new kb 0))∧e'.getD 8 .undef= .ptr (some (.new k0 0))∧e'.getD 9 .undef=fp∧e'.getD 40 .undef= .ptr (some (.new kI 0)))
set_option maxRecDepth 100000 in
set_option maxHeartbeats 8000000 in
theorem trunc_ret (W:World) (h:AH) (R:MR) (M:MS) (hm:MIs h R M) (ok:MOk M) (kd a n:Int) (p t dt:List UInt8) (v v2:AV) (l:List (List UInt8)) (hs:StrS W h v l) (hl:l.length<8796093022207)
    (hbk:(fileR M l).2=0→∀nd,M.nodes[(fileR M l).1.toNat]? =some nd→∃b,nd.blocks=some b∧BOk b):
    RetM (CC W) 37 [.ptr (some (.new R.km 0)),opV kd a n p t dt,v,v2] h R (resE (truncR M n l).1) (truncR M n l).2:=by
  refine jj9 (cc_ok W) (fn37 W) (by simp only [Tryz.f37]; rfl) rfl rfl ?_
  have hsd:=Side.start hm (.cells [.int .i64 kd,.int .i64 a,.int .i64 n,.str p,.str t,.str dt] 35) (.cells res0 39)
  have hbx:=box_op (h:=h) (l:=[.int .i64 kd,.int .i64 a,.int .i64 n,.str p,.str t,.str dt])
  have hal:=alloc_res (W:=W) (h:=h.push (.cells [.int .i64 kd,.int .i64 a,.int .i64 n,.str p,.str t,.str dt] 35))
  have hgb:((h.push (.cells [.int .i64 kd,.int .i64 a,.int .i64 n,.str p,.str t,.str dt] 35)).push (.cells res0 39)).get h.next=some (.cells [.int .i64 kd,.int .i64 a,.int .i64 n,.str p,.str t,.str dt] 35):=by simp
  have hg0:((h.push (.cells [.int .i64 kd,.int .i64 a,.int .i64 n,.str p,.str t,.str dt] 35)).push (.cells res0 39)).get (h.push (.cells [.int .i64 kd,.int .i64 a,.int .i64 n,.str p,.str t,.str dt] 35)).next=some (.cells res0 39):=by simp
  generalize (h.push (.cells [.int .i64 kd,.int .i64 a,.int .i64 n,.str p,.str t,.str dt] 35)).push (.cells res0 39)=h2 at hsd hal hgb hg0
  generalize h.push (.cells [.int .i64 kd,.int .i64 a,.int .i64 n,.str p,.str t,.str dt] 35)=h1 at hsd hbx hal hgb hg0
  generalize h1.next=k0 at hsd hal hg0
  generalize h.next=kb at hbx hgb hsd
  have hm2:=hm.keeps hsd.keeps
  have hs2:=hs.keeps hsd.keeps
  have hB2:MStep h2 h2 R R:=MStep.refl (Keeps.refl _)
  by_cases h1:n<0
  · have hr:truncR M n l=(309,M):=by simp only [truncR,if_pos h1]
    rw [hr]
    simp (maxSteps:=2000000) [push_cast,opV,hbx,hal,fa35_2,ld3,ji9 hgb,h1]
    refine jf9 (by simp [fn48]) (failed_ret W h2 _) fun h9 hk9=> ?_
    have hg9:=((hsd.stay (hB2.trans (MStep.refl hk9)) (.inr rfl))).trans hg0
    have hst:=st_res (W:=W) (e1:=309) (d1:=[]) (k1:=0) (l1:=0) (s1:=0) (p:=none) (n:=0) (q:=0) (g:=none) hg9
    have hf:=hsd.fin (hm2.keeps hk9) (hB2.trans (MStep.refl hk9)) (.cells [.int .i64 309,.str [],.int .i64 0,.int .i64 0,.int .i64 0,.sl none 0 0 none] 39)
    simp [push_cast,resE,res6,hst,ld_resS]
    exact ⟨_,hf⟩
  · by_cases h2n:533248<n
    · have hr:truncR M n l=(307,M):=by simp only [truncR,if_neg h1,if_pos h2n]
      rw [hr]
      simp (maxSteps:=2000000) [push_cast,opV,hbx,hal,fa35_2,ld3,ji9 hgb,h1,h2n]
      refine jf9 (by simp [fn48]) (failed_ret W h2 _) fun h9 hk9=> ?_
      have hg9:=((hsd.stay (hB2.trans (MStep.refl hk9)) (.inr rfl))).trans hg0
      have hst:=st_res (W:=W) (e1:=307) (d1:=[]) (k1:=0) (l1:=0) (s1:=0) (p:=none) (n:=0) (q:=0) (g:=none) hg9
      have hf:=hsd.fin (hm2.keeps hk9) (hB2.trans (MStep.refl hk9)) (.cells [.int .i64 307,.str [],.int .i64 0,.int .i64 0,.int .i64 0,.sl none 0 0 none] 39)
      simp [push_cast,resE,res6,hst,ld_resS]
      exact ⟨_,hf⟩
    · have hrd : truncR M n l = if (fileR M l).2 = 0 then
            match M.nodes[(fileR M l).1.toNat]? with
            | some nd=>(0,M.set (fileR M l).1.toNat {nd with size:=n,blocks:=nd.blocks.map (trB n)})
            | none=>(0,M)
          else ((fileR M l).2,M):=by simp only [truncR,if_neg h1,if_neg h2n]
      simp (maxSteps:=2000000) [push_cast,opV,hbx,hal,fa35_2,ld3,ji9 hgb,h1,h2n]
      refine jf9 (by simp [fn72]) (file_ret W h2 R M hm2 ok v l hs2 hl) fun h3 hk3=> ?_
      have hm3:=hm2.keeps hk3
      have hB3:MStep h2 h3 R R:=MStep.refl hk3
      have hgb3:=((hsd.stay hB3 (.inl rfl))).trans hgb
      have hg03:=((hsd.stay hB3 (.inr rfl))).trans hg0
      have hkb3:kb<h3.next:=by have:=hsd.hb; have:=hk3.1; omega
      have hk03:k0<h3.next:=by have:=hsd.h0; have:=hk3.1; omega
      by_cases he:(fileR M l).2=0
      · rw [if_pos he] at hrd
        have hbk:=hbk he
        obtain ⟨hl0,i,nd,hfi,hfd,hnd,hkd⟩:=fileR_ok ok he
        have hin:i<M.nodes.length:=(List.getElem?_eq_some_iff.1 hnd).1
        obtain ⟨r,nd',hr,hnd',hn3⟩:=hm3.node hin
        rw [hnd] at hnd'; cases hnd'
        obtain ⟨mv,sv,hc3,hmp3,hsl3⟩:=_root_.id hn3
        have hv:fileV R M l= .tup [.ptr (some (.new r.k 0)),.int .i64 i,.int .i64 0]:=by
          simp [fileV,hfi,MR.at,hr]
        simp only [hfi,Int.toNat_natCast,hnd] at hrd hbk
        obtain ⟨b,hb,hbok⟩:=hbk nd rfl
        rw [hv,hrd]
        have hlow3:∀k∈r.ids,k<h3.next:=fun k hk=>hm3.low k (mem_ids hr hk)
        have hown:=hm.own i r hr
        rw [hb] at hmp3
        obtain ⟨km,hrm⟩:∃km,r.m=some km:=by
          cases hrm:r.m with
          | none=>rw [hrm] at hmp3; exact hmp3.elim
          | some km=>exact ⟨km,rfl⟩
        rw [hrm] at hmp3
        obtain ⟨rfl,es,clock,hgm,hok,hes⟩:=hmp3
        have hkm:km∈r.ids:=by simp [NR.ids,hrm]
        have hkmlow:=hlow3 km hkm
        have hkk:r.k≠km:=by
          rintro e; simp [NR.ids,hrm,e] at hown
        have hkbm:kb≠km:=by
          rintro rfl; have:=hsd.low _ (mem_ids hr hkm); have:=hsd.hb; omega
        simp [push_cast,fa93_3,ld90,ji9 hc3,jd9,rng_map hgm]
        refine loopN (cc_ok W) (TruncI h3 kb h3.next k0 (.ptr (some (.new r.k 0))) km es clock n) (left [] es) ⟨by simp,[],rfl,by simp,by simp,fun k hk hne=> ?_,?_,by simp,by simp⟩ ?_
        · have:k≠h3.next:=by omega
          simp [this]
        · have:km≠h3.next:=by omega
          simp [this,trE_nil,hgm]
        rintro m e' h' ⟨hlen',seen,him,hnx,hkI,hoff,hM,hI,hh⟩
        match e',hlen' with
        | a0::a1::a2::a3::a4::a5::a6::a7::a8::a9::a10::a11::a12::a13::a14::a15::a16::a17::a18::a19::a20::a21::a22::a23::a24::a25::a26::a27::a28::a29::a30::a31::a32::a33::a34::a35::a36::a37::a38::a39::a40::a41::a42::a43::a44::a45::a46::a47::a48::a49::a50::a51::a52::a53::a54::a55::a56::a57::a58::a59::a60::a61::a62::a63::a64::a65::a66::a67::a68::a69::a70::a71::a72::a73::a74::a75::a76::a77::[],_=>
          simp at hh
          obtain ⟨rfl,rfl,rfl,rfl⟩:=hh
          have hgb':=(hoff kb hkb3 hkbm).trans hgb3
          have hc':=(hoff r.k (hlow3 r.k (by simp [NR.ids])) hkk).trans hc3
          have hborn:∀e∈trE n seen es,e.born<clock:=fun e he=>by
            obtain ⟨y,hy,_,h2⟩:=trE_keys he
            rw [h2]; exact hok.below y hy
          simp [push_cast]
          refine slowK_next rfl ?_
          refine nextM_map hI hM hborn (fun hall=> ?_) fun e he hns=> ?_
          · have hst2:=st_nd2 (W:=W) (n:=n) hc'
            have hfin:=trE_all hall
            rw [hfin] at hM
            obtain ⟨hA,hB,hP⟩:=hm3.setAt (h':=h'.set r.k (.cells [.int .i64 nd.kind,.int .i64 nd.links,.int .i64 n,.map (some km),sv] 93)) (r':=r) (nd':={nd with size:=n,blocks:=nd.blocks.map (trB n)}) hr rfl
              (fun k hk hno=>by
                have h1:k≠r.k:=fun e=>hno (by simp [NR.ids,e])
                have h2:k≠km:=fun e=>hno (e ▸ hkm)
                simp [h1,hoff k hk h2])
              ⟨.map (some km),sv,by simp,by
                rw [hrm,hb]
                refine ⟨rfl,_,clock,?_,hok.tr n,tr_map hes⟩
                simp [Ne.symm hkk,hM],hsl3.same fun k hk=>by
                have h1:k≠r.k:=fun e=>by simp [NR.ids,hk,e] at hown
                have h2:k≠km:=fun e=>by simp [NR.ids,hk,hrm,e] at hown
                simp [h1,hoff k (hlow3 k (by simp [NR.ids,hk])) h2]⟩
              (fun k hk=>⟨.inl hk,by simp; have:=hlow3 k hk; omega⟩) hown (by simp; exact hnx)
            have hB6:=hB3.trans hB
            have hg06:=((hsd.stay hB6 (.inr rfl))).trans hg0
            have hst:=st_res (W:=W) (e1:=0) (d1:=[]) (k1:=0) (l1:=0) (s1:=0) (p:=none) (n:=0) (q:=0) (g:=none) hg06
            have hf:=hsd.fin hA hB6 (.cells [.int .i64 0,.str [],.int .i64 0,.int .i64 0,.int .i64 0,.sl none 0 0 none] 39)
            simp [push_cast,fa93_2,fa35_2,ld3,ji9 hgb',jd9,hst2,build_res0,res0,resE,res6,hst,ld_resS]
            exact ⟨_,hf⟩
          · have hes0:=trE_mem he hns
            obtain ⟨l1,l2,rfl⟩:=List.append_of_mem hes0
            obtain ⟨x,hx,hxk,hxv⟩:=ent_at hes hes0
            obtain ⟨hx128,hx0,hx1⟩:=hbok x hx
            rw [trE_split hns] at hM
            have hbn:((trE n seen l1 ++ e::trE n seen l2).map (·.born)).Nodup:=by
              rw [←trE_split hns]
              exact hok.borns.sublist (sub_filterMap (fun a b h=>(stE_same h).2) _)
            have hfb:=find_born hbn
            have hkeys:∀y∈trE n seen l1,∃q,y.key= .int .i64 q∧q≠x.1:=fun y hy=>by
              obtain ⟨z,hz,hzk,_⟩:=trE_keys hy
              obtain ⟨w,hw,hwk,_⟩:=ent_at hes (e:=z) (by simp [hz])
              refine ⟨w.1,hzk.trans hwk,fun hc=> ?_⟩
              have hkn:=hok.keys
              simp only [List.map_append,List.map_cons,List.nodup_append] at hkn
              refine hkn.2.2 (intKey z) (List.mem_map.2 ⟨z,hz,rfl⟩) (intKey e) (by simp) ?_
              simp only [intKey,hwk,hxk,hc]
            have hI2:(h'.set h3.next (.miter (some km) clock (seen ++ [e.born]) clock)).get h3.next=some (.miter (some km) clock (seen ++ [e.born]) clock):=by simp
            have hM2:(h'.set h3.next (.miter (some km) clock (seen ++ [e.born]) clock)).get km=some (.map (trE n seen l1 ++ e::trE n seen l2) clock):=by
              have:km≠h3.next:=by omega
              simp [this,hM]
            have hoff2:∀k,k<h3.next→k≠km→(h'.set h3.next (.miter (some km) clock (seen ++ [e.born]) clock)).get k=h3.get k:=fun k hk hne=>by
              have:k≠h3.next:=by omega
              simp [this,hoff k hk hne]
            have hnx2:(h'.set h3.next (.miter (some km) clock (seen ++ [e.born]) clock)).next=h'.next:=rfl
            generalize h'.set h3.next (.miter (some km) clock (seen ++ [e.born]) clock)=h4 at hI2 hM2 hoff2 hnx2
            have hen:=aEntry_map hI2 hM2 hfb
            have hgb4:=(hoff2 kb hkb3 hkbm).trans hgb3
            have hc4:=(hoff2 r.k (hlow3 r.k (by simp [NR.ids])) hkk).trans hc3
            rw [hxk,hxv] at hen ⊢
            have wm:IntKind.i64.wrap (x.1 * 128)=x.1 * 128:=wrap64 (by omega) (by omega)
            have wk:IntKind.i64.wrap (n - x.1 * 128)=n - x.1 * 128:=wrap64 (by omega) (by omega)
            have hup:updE n e=(trK n x.1 x.2).map fun s'=>{e with val:= .str s'}:=by simp only [updE,hxk,hxv]
            have hstep:=trE_step (N:=n) (seen:=seen) hok.borns
            have hleft:=left_step (a:=l1) (b:=l2) hns
            rw [hup] at hstep
            by_cases hk0:n - x.1 * 128≤0
            · have htk:trK n x.1 x.2=none:=by simp only [trK,if_pos hk0]
              rw [htk] at hstep
              have hdel:=map_del (W:=W) hM2 hkeys hxk
              simp only [Option.map_none,Option.toList_none,List.nil_append] at hstep
              simp [push_cast,hen,fa35_2,ld3,ji9 hgb4,wm,wk,hk0,fa93_3,ld90,ji9 hc4,jd9,hdel]
              have hne:h3.next≠km:=by omega
              exact ⟨left (seen ++ [e.born]) (l1 ++ e::l2),by omega,by simp,seen ++ [e.born],rfl,by simp; omega,by simp; omega,fun k hk hne=>by simp [hne,hoff2 k hk hne],by simp [hstep],by simp [hne,hI2],by simp⟩
            · by_cases hk1:n - x.1 * 128<128
              · have htk:trK n x.1 x.2=some (x.2.take (n - x.1 * 128).toNat ++ List.replicate (128 - (n - x.1 * 128).toNat) 0):=by simp only [trK,if_neg hk0,if_pos hk1]
                rw [htk] at hstep
                obtain ⟨kp,hkp⟩:=Int.eq_ofNat_of_zero_le (show 0≤n - x.1 * 128 by omega)
                rw [hkp,Int.toNat_natCast] at hstep
                rw [hkp] at hk0 hk1
                have hkl:kp<128:=by omega
                have hkp0:kp≠0:=by omega
                have hsl:=slice_hi (W:=W) (r:=x.2) (q:=kp) (by omega)
                have wz:IntKind.i64.wrap (128 - (kp:Int))=((128 - kp:Nat):Int):=by rw [wrap64 (by omega) (by omega)]; omega
                rw [hkp] at wk
                simp [push_cast,hen,fa35_2,ld3,ji9 hgb4,wm,wk,hkp,hkp0,hk0,hk1,hkl]
                have m1:¬(9223372036854775807:Int)<((min kp x.2.length:Nat):Int) + ((128 - kp:Nat):Int):=by omega
                have hne:h3.next≠km:=by omega
                simp only [Option.map_some,Option.toList_some,List.cons_append,List.nil_append] at hstep
                refine drawS [0,1,2,3,4,5,6,7,8,9,10,11,12] (by kernel_rfl) (by kernel_rfl) ?_
                simp [push_cast,zx9,zy9,SgO,opA,isE,isRead,fa93_3,ld90,ji9 hc4,jd9,hsl,wz]
                refine jb9 (f:=74) (args:=[.int .i64 ((128 - kp:Nat):Int)]) (by rfl) (by rfl) (by rfl) (by simp [fn74]) (zeros_ret W h4 (128 - kp) (by omega)) ?_
                rintro w h5 ⟨rfl,hk5⟩
                have hM5:=(hk5.2 km (by omega)).trans hM2
                have hc5:=(hk5.2 r.k (by have:=hlow3 r.k (by simp [NR.ids]); omega)).trans hc4
                have hupd:=map_upd (W:=W) (x:= .str (x.2.take kp ++ List.replicate (128 - kp) 0)) hM5 hkeys hxk
                have hnx5:=hk5.1
                refine ⟨?_,?_⟩
                · simp [zz9,ja9,push_cast,opA,ld90,ji9 hc5]
                · simp [push_cast,zx9,zy9,SgO,opA,isE,isRead,aStr,m1]
                  refine jc9 (h':=h5.set km (.map (trE n seen l1 ++ {e with val:= .str (x.2.take kp ++ List.replicate (128 - kp) 0)}::trE n seen l2) clock)) (v:= .undef) (by rfl) (by simp [push_cast,hupd]) ⟨?_,?_⟩
                  · refine zz9 ▸ ⟨fun hc=>absurd (hc.symm.trans (show _=true by kernel_rfl)) (by decide),?_⟩
                    exact ja9 ▸ trivial
                  · simp [push_cast,zy9]
                    exact ⟨left (seen ++ [e.born]) (l1 ++ e::l2),by omega,by simp,seen ++ [e.born],rfl,by simp; omega,by simp; omega,fun k hk hne=>by simp [hne,hk5.2 k (by omega),hoff2 k hk hne],by simp [hstep],by simp [hne,hk5.2 h3.next (by omega),hI2],by simp⟩
              · have htk:trK n x.1 x.2=some x.2:=by simp only [trK,if_neg hk0,if_neg hk1]
                rw [htk] at hstep
                have hk1':128≤n - x.1 * 128:=by omega
                simp [push_cast,hen,fa35_2,ld3,ji9 hgb4,wm,wk,hk0,hk1,hk1']
                have hxe:({e with val:= .str x.2}:AEnt)=e:=by rw [←hxv]
                simp only [Option.map_some,Option.toList_some,List.cons_append,List.nil_append,hxe] at hstep
                exact ⟨left (seen ++ [e.born]) (l1 ++ e::l2),by omega,by simp,seen ++ [e.born],rfl,by omega,by omega,fun k hk hne=>hoff2 k hk hne,by simp [hstep,hM2],hI2,by simp⟩
      · rw [if_neg he] at hrd
        have hv:fileV R M l= .tup [.ptr none,.int .i64 (fileR M l).1,.int .i64 (fileR M l).2]:=by simp only [fileV,if_neg he]
        rw [hv,hrd]
        simp [push_cast,he]
        refine jf9 (by simp [fn48]) (failed_ret W h3 _) fun h9 hk9=> ?_
        have hg9:=((hsd.stay (hB3.trans (MStep.refl hk9)) (.inr rfl))).trans hg0
        have hst:=st_res (W:=W) (e1:=(fileR M l).2) (d1:=[]) (k1:=0) (l1:=0) (s1:=0) (p:=none) (n:=0) (q:=0) (g:=none) hg9
        have hf:=hsd.fin (hm3.keeps hk9) (hB3.trans (MStep.refl hk9)) (.cells [.int .i64 (fileR M l).2,.str [],.int .i64 0,.int .i64 0,.int .i64 0,.sl none 0 0 none] 39)
        simp [push_cast,resE,res6,hst,ld_resS]
        exact ⟨_,hf⟩
def setB (k:Int) (s:List UInt8):Blk→Blk
  | []=>[(k,s)]
  | x::l=>if x.1=k then (k,s)::l else x::setB k s l
theorem setB_set {k:Int} {s s':List UInt8}:∀b:Blk,setB k s' (setB k s b)=setB k s' b
  | []=>by simp [setB]
  | x::l=>by
    simp only [setB]
    split
    · simp [setB]
    · rename_i h; simp only [setB,if_neg h,setB_set l]
theorem fnd_shift {k:Int}:∀(b:Blk) (i:Nat),(fnd k b i).map (·.2)=(fnd k b 0).map (·.2)
  | [],i=>rfl
  | x::l,i=>by
    simp only [fnd]
    split
    · rfl
    · rw [fnd_shift l (i + 1),fnd_shift l 1]
theorem blkAt_nil {k:Int}:blkAt (some []) k=none:=rfl
theorem blkAt_cons {k:Int} {x:Int×List UInt8} {l:Blk}:blkAt (some (x::l)) k=if x.1=k then some x.2 else blkAt (some l) k:=by
  simp only [blkAt,Option.getD_some,fnd]
  split
  · rfl
  · exact fnd_shift l 1
theorem blkAt_setB {k q:Int} {s:List UInt8}:∀b:Blk,blkAt (some (setB k s b)) q=if q=k then some s else blkAt (some b) q
  | []=>by
    simp only [setB,blkAt_cons,blkAt_nil]
    by_cases h:q=k
    · simp [h]
    · rw [if_neg (Ne.symm h),if_neg h]
  | x::l=>by
    simp only [setB]
    by_cases hx:x.1=k
    · rw [if_pos hx,blkAt_cons,blkAt_cons]
      by_cases h:q=k
      · simp [h]
      · rw [if_neg (Ne.symm h),if_neg h,if_neg (by rw [hx]; exact Ne.symm h)]
    · rw [if_neg hx,blkAt_cons,blkAt_cons,blkAt_setB l]
      by_cases h:q=k
      · subst h; simp [hx]
      · simp only [if_neg h]
theorem setB_ok {k:Int} {s:List UInt8} (hs:s.length=128) (h0:0≤k) (h1:k<4166):∀{b:Blk},BOk b→BOk (setB k s b)
  | [],_=>by
    intro x hx
    simp only [setB,List.mem_singleton] at hx
    subst hx
    exact ⟨hs,h0,h1⟩
  | y::l,hb=>by
    have h2:BOk l:=fun x hx=>hb x (by simp [hx])
    simp only [setB]
    split
    · intro x hx
      rcases List.mem_cons.1 hx with rfl | hx
      · exact ⟨hs,h0,h1⟩
      · exact h2 x hx
    · intro x hx
      rcases List.mem_cons.1 hx with rfl | hx
      · exact hb x (by simp)
      · exact setB_ok hs h0 h1 h2 x hx
theorem blkAt_mem {k:Int} {s:List UInt8}:∀{b:Blk},blkAt (some b) k=some s→(k,s)∈b
  | [],h=>by simp [blkAt_nil] at h
  | x::l,h=>by
    rw [blkAt_cons] at h
    split at h
    · rename_i e; cases h; simp [←e]
    · exact List.mem_cons_of_mem _ (blkAt_mem h)
theorem blkAt_none {k:Int}:∀{b:Blk},blkAt (some b) k=none→∀x∈b,x.1≠k
  | [],_=>by simp
  | y::l,h=>by
    rw [blkAt_cons] at h
    split at h
    · cases h
    · rename_i e
      intro x hx
      rcases List.mem_cons.1 hx with rfl | hx
      · exact e
      · exact blkAt_none h x hx
theorem setB_none {k:Int} {s:List UInt8}:∀{b:Blk},(∀x∈b,x.1≠k)→setB k s b=b ++ [(k,s)]
  | [],_=>rfl
  | y::l,h=>by
    simp only [setB]
    rw [if_neg (h y (by simp)),setB_none fun x hx=>h x (by simp [hx])]
    rfl
theorem setB_some {k:Int} {s s0:List UInt8}:∀{b:Blk},blkAt (some b) k=some s0→∃b1 b2,b=b1 ++ (k,s0)::b2∧(∀x∈b1,x.1≠k)∧setB k s b=b1 ++ (k,s)::b2
  | [],h=>by simp [blkAt_nil] at h
  | x::l,h=>by
    rw [blkAt_cons] at h
    by_cases hx:x.1=k
    · rw [if_pos hx] at h
      cases h
      refine ⟨[],l,by simp [←hx],by simp,by simp only [setB,if_pos hx,List.nil_append]⟩
    · rw [if_neg hx] at h
      obtain ⟨b1,b2,e1,h1,e2⟩:=setB_some (s:=s) h
      refine ⟨x::b1,b2,by rw [e1]; rfl,fun y hy=> ?_,by simp only [setB,if_neg hx,e2,List.cons_append]⟩
      rcases List.mem_cons.1 hy with rfl | hy
      · exact hx
      · exact h1 y hy
theorem nodup_len:∀(n:Nat) (l:List Int),l.Nodup→(∀x∈l,0≤x∧x<n)→l.length≤n
  | 0,l,_,hb=>by
    cases l with
    | nil=>simp
    | cons x l=>have:=hb x (by simp); omega
  | n + 1,l,hn,hb=>by
    have ih:=nodup_len n (l.filter fun x=>x !=(n:Int)) (hn.filter _) fun x hx=>by
      simp only [List.mem_filter,bne_iff_ne,ne_eq] at hx
      have:=hb x hx.1
      omega
    have h1:=List.length_eq_countP_add_countP (fun x:Int=>x !=(n:Int)) (l:=l)
    have h2:l.countP (fun a=>decide (¬(a !=(n:Int))=true))≤1:=by
      have h3:=List.nodup_iff_count.1 hn (n:Int)
      have h4:l.countP (fun a=>decide (¬(a !=(n:Int))=true))=l.count (n:Int):=by
        simp only [List.count]
        congr 1
        funext x
        by_cases hx:x=(n:Int)<;>simp [hx]
      omega
    rw [List.countP_eq_length_filter] at h1
    omega
theorem ints_of {es:List AEnt} {b:Blk} (hes:es.map (fun e=>(e.key,e.val))=b.map entOf):∀x∈es,∃y∈b,x.key= .int .i64 y.1:=fun x hx=>by
  obtain ⟨y,hy,h,_⟩:=ent_at hes hx
  exact ⟨y,hy,h⟩
theorem map_put {W:World} {h:AH} {km clock:Nat} {es:List AEnt} {b:Blk} {k:Int} {s:List UInt8} (hM:h.get km=some (.map es clock)) (hok:OkEs es clock) (hes:es.map (fun e=>(e.key,e.val))=b.map entOf) (hb:BOk b) (h0:0≤k) (h1:k<4166):
    ∃es' clock',aMapSet (CC W) h 90 (.map (some km)) (.int .i64 k) (.str s)=some (h.set km (.map es' clock'))∧OkEs es' clock'∧es'.map (fun e=>(e.key,e.val))=(setB k s b).map entOf:=by
  cases hbk:blkAt (some b) k with
  | none=>
    have hno:=blkAt_none hbk
    have hnk:∀x∈es,∃n,x.key= .int .i64 n∧n≠k:=fun x hx=>by
      obtain ⟨y,hy,hk⟩:=ints_of hes x hx
      exact ⟨y.1,hk,hno y hy⟩
    refine ⟨_,_,map_new hM hnk,?_,?_⟩
    · refine ⟨fun e he=> ?_,fun e he=> ?_,?_,?_,?_⟩
      · rcases List.mem_append.1 he with h2 | h2
        · exact hok.ints e h2
        · simp only [List.mem_singleton] at h2; subst h2
          simp only [isIntKey,Bool.and_eq_true,decide_eq_true_eq]; omega
      · rcases List.mem_append.1 he with h2 | h2
        · have:=hok.below e h2; omega
        · simp only [List.mem_singleton] at h2; subst h2; simp
      · rw [List.map_append,List.nodup_append]
        refine ⟨hok.borns,by simp,fun x hx y hy=> ?_⟩
        obtain ⟨e,he,rfl⟩:=List.mem_map.1 hx
        simp only [List.map_cons,List.map_nil,List.mem_singleton] at hy
        subst hy
        have:=hok.below e he
        omega
      · rw [List.map_append,List.nodup_append]
        refine ⟨hok.keys,by simp,fun x hx y hy=> ?_⟩
        obtain ⟨e,he,rfl⟩:=List.mem_map.1 hx
        simp only [List.map_cons,List.map_nil,List.mem_singleton] at hy
        subst hy
        obtain ⟨n,hk,hne⟩:=hnk e he
        simpa [intKey,hk] using hne
      · have hl:=nodup_len 4166 (es.map intKey) hok.keys fun x hx=>by
          obtain ⟨e,he,rfl⟩:=List.mem_map.1 hx
          obtain ⟨y,hy,hk⟩:=ints_of hes e he
          simp only [intKey,hk]
          exact (hb y hy).2
        simp only [List.length_map,List.length_append,List.length_singleton] at hl ⊢
        omega
    · rw [List.map_append,hes,setB_none hno,List.map_append]
      rfl
  | some s0=>
    obtain ⟨b1,b2,e1,hno,e2⟩:=setB_some (s:=s) hbk
    rw [e1,List.map_append,List.map_cons] at hes
    obtain ⟨l1,lr,rfl,hl1,hlr⟩:=List.map_eq_append_iff.1 hes
    obtain ⟨e,l2,rfl,he,hl2⟩:=List.map_eq_cons_iff.1 hlr
    simp only [entOf,Prod.mk.injEq] at he
    have hnk:∀x∈l1,∃n,x.key= .int .i64 n∧n≠k:=fun x hx=>by
      obtain ⟨y,hy,hk⟩:=ints_of hl1 x hx
      exact ⟨y.1,hk,hno y hy⟩
    refine ⟨_,_,map_upd hM hnk he.1,?_,?_⟩
    · refine ⟨fun x hx=> ?_,fun x hx=> ?_,?_,?_,?_⟩
      · rcases List.mem_append.1 hx with h2 | h2
        · exact hok.ints x (by simp [h2])
        · rcases List.mem_cons.1 h2 with rfl | h2
          · have:=hok.ints e (by simp)
            simpa only [isIntKey] using this
          · exact hok.ints x (by simp [h2])
      · rcases List.mem_append.1 hx with h2 | h2
        · exact hok.below x (by simp [h2])
        · rcases List.mem_cons.1 h2 with rfl | h2
          · exact hok.below e (by simp)
          · exact hok.below x (by simp [h2])
      · have:=hok.borns
        simpa only [List.map_append,List.map_cons] using this
      · have:=hok.keys
        simpa only [List.map_append,List.map_cons,intKey] using this
      · have:=hok.few
        simpa only [List.length_append,List.length_cons] using this
    · rw [e2,List.map_append,List.map_cons,hl1,hl2,List.map_append,List.map_cons,he.1]
      rfl
def wrS (a:Nat) (d:List UInt8) (i:Nat) (old:List UInt8):List UInt8:=
  overR old ((d.take (min (a + d.length) ((i + 1) * 128) - a)).drop (max a (i * 128) - a)) (max a (i * 128) - i * 128)
def zblk:List UInt8:=List.replicate 128 0
def wrStep (a:Nat) (d:List UInt8) (i:Nat) (b:Blk):Blk:=setB i (wrS a d i ((blkAt (some b) i).getD zblk)) b
def wrF (a:Nat) (d:List UInt8):Nat→Nat→Blk→Blk
  | 0,_,b=>b
  | n + 1,i,b=>if i * 128<a + d.length then wrF a d n (i + 1) (wrStep a d i b) else b
def wrB (a:Nat) (d:List UInt8) (b:Blk):Blk:=wrF a d 10 (a / 128) b
theorem wrF_done {a:Nat} {d:List UInt8} {n i:Nat} {b:Blk} (h:¬i * 128<a + d.length):wrF a d n i b=b:=by
  cases n with
  | zero=>rfl
  | succ n=>simp only [wrF,if_neg h]
theorem wrS_len {a:Nat} {d old:List UInt8} {i:Nat} (ho:old.length=128) (hi:i * 128<a + d.length) (hi2:a<(i + 1) * 128):(wrS a d i old).length=128:=by
  simp only [wrS,overR,List.length_append,List.length_take,List.length_drop]
  omega
def EqI (va vb:AV) (a b:List (List UInt8)) (h:AH) (m:Nat) (e':Env) (h':AH):Prop:=
  h'=h∧e'.length=26∧∃k:Nat,k + m=a.length∧a.take k=b.take k∧(e'.getD 0 .undef=va∧e'.getD 1 .undef=vb∧e'.getD 11 .undef=va∧e'.getD 12 .undef= .int .i64 a.length∧e'.getD 13 .undef= .int .i64 k)
theorem take_next {a b:List (List UInt8)} {k:Nat} {x:List UInt8} (h:a.take k=b.take k) (ha:a[k]? =some x) (hb:b[k]? =some x):a.take (k + 1)=b.take (k + 1):=by
  rw [List.take_add_one,List.take_add_one,h,ha,hb]
set_option maxHeartbeats 4000000 in
set_option maxRecDepth 20000 in
theorem equal_ret (W:World) (h:AH) (va vb:AV) (a b:List (List UInt8)) (ha:StrS W h va a) (hb:StrS W h vb b) (hla:a.length<9223372036854775808):
    RetH (CC W) 114 [va,vb] h (.bool (decide (a=b))):=by
  refine jj9 (cc_ok W) (fn114 W) (by simp only [Tryz.f114]; rfl) rfl rfl ?_
  obtain ⟨pa,ca,ga,rfl⟩:=ha.len
  obtain ⟨pb,cb,gb,rfl⟩:=hb.len
  by_cases hlen:a.length=b.length
  · have hlen':((a.length:Int) !=(b.length:Int))=false:=by simp [hlen]
    simp [push_cast,aLen,kind37,hlen']
    refine loopN (cc_ok W) (EqI (.sl pa a.length ca ga) (.sl pb b.length cb gb) a b h) a.length ⟨rfl,by simp,0,by simp,by simp,by simp⟩ ?_
    rintro m e' h' ⟨rfl,hl,k,hkm,htk,hh⟩
    match e',hl with
    | a0::a1::a2::a3::a4::a5::a6::a7::a8::a9::a10::a11::a12::a13::a14::a15::a16::a17::a18::a19::a20::a21::a22::a23::a24::a25::[],_=>
      simp at hh
      obtain ⟨rfl,rfl,rfl,rfl,rfl⟩:=hh
      by_cases hlt:k<a.length
      · have hlt':(k:Int)<(a.length:Int):=by omega
        have hx:a[k]? =some a[k]:=by simp [hlt]
        obtain ⟨a',hix,hld⟩:=ha.at hx
        have hy:b[k]? =some (b[k]'(by omega)):=by simp [show k<b.length by omega]
        obtain ⟨b',hiy,hldy⟩:=hb.at hy
        have wk:IntKind.i64.wrap ((k:Int) + 1)=(k:Int) + 1:=wrap64 (by omega) (by omega)
        generalize a[k]=x at hx hld
        generalize b[k]'(by omega)=y at hy hldy
        by_cases hxy:x=y
        · subst hxy
          have hb1:(x==x)=true:=by simp
          simp [push_cast,hlt,hlt']
          refine draw1 (cc_ok W) [0,1,2,3,4,5,6,7,8] (by kernel_rfl) (by kernel_rfl) (by kernel_rfl) rfl ?_
          simp [push_cast,hix,hld,hiy,hldy,aStr,hb1,wk]
          exact ⟨m - 1,by omega,rfl,by simp,k + 1,by omega,take_next htk hx hy,by simp⟩
        · have hb1:(x==y)=false:=by rw [beq_eq_false_iff_ne]; exact hxy
          have hne:a≠b:=by intro e; subst e; rw [hx] at hy; exact hxy (Option.some.inj hy)
          simp [push_cast,hlt,hlt']
          refine draw1 (cc_ok W) [0,1,2,3,4,5,6,7,8] (by kernel_rfl) (by kernel_rfl) (by kernel_rfl) rfl ?_
          simp [push_cast,hix,hld,hiy,hldy,aStr,hb1,hne]
      · have hlt':¬(k:Int)<(a.length:Int):=by omega
        have he:a=b:=by
          have h1:a.take k=a:=List.take_of_length_le (by omega)
          have h2:b.take k=b:=List.take_of_length_le (by omega)
          rw [←h1,htk,h2]
        rw [decide_eq_true he]
        simp [push_cast,hlt,hlt']
  · have hlen':((a.length:Int) !=(b.length:Int))=true:=by rw [bne_iff_ne]; omega
    have hne:a≠b:=by intro e; exact hlen (by rw [e])
    simp [push_cast,aLen,kind37,hlen',hne]
def orR (e f:Int):Int:=if e=0 then f else e
theorem aLoad_errno {W:World} {h:AH} {k o:Nat} {cs:List AV} {t:TypeId} {x:Int} (hg:h.get k=some (.cells cs t)) (hx:cs[o]? =some (.int .i64 x)):aLoad (CC W) h 26 (.new k o)=some (.int .i64 x):=by
  have:aLoad (CC W) h 26 (.new k o)=aCell (CC W) h (.new k o):=by unfold aLoad; rw [ty26]; rfl
  rw [this]; simp only [aCell,hg]; exact hx
theorem idx_errno {W:World} {k i:Nat} (hi:i<2):aIndexAddr (CC W) 216 (.sl (some (.new k 0)) 2 2 none) (.int .i64 (i:Int))=some (.ptr (some (.new k i))):=by
  simp only [aIndexAddr,kind216,size26]
  rw [if_pos (by omega)]
  simp [AA.add]
def OrI (e f:Int) (k:Nat) (h:AH) (m:Nat) (e':Env) (h':AH):Prop:=
  h'=h∧e'.length=18∧∃i:Nat,i + m=2∧(1≤i→e=0)∧(i=2→f=0)∧(e'.getD 3 .undef= .int .i64 0∧e'.getD 6 .undef= .sl (some (.new k 0)) 2 2 none∧e'.getD 7 .undef= .int .i64 2∧e'.getD 8 .undef= .int .i64 i)
set_option maxHeartbeats 4000000 in
set_option maxRecDepth 20000 in
theorem or_ret (W:World) (h:AH) (k:Nat) (e f:Int) (t:TypeId) (hg:h.get k=some (.cells [.int .i64 e,.int .i64 f] t)):
    RetH (CC W) 113 [.sl (some (.new k 0)) 2 2 none] h (.int .i64 (orR e f)):=by
  refine jj9 (cc_ok W) (fn113 W) (by simp only [Tryz.f113]; rfl) rfl rfl ?_
  simp [push_cast,aLen,kind216]
  refine loopN (cc_ok W) (OrI e f k h) 2 ⟨rfl,by simp,0,by simp,by simp,by simp,by simp⟩ ?_
  rintro m e' h' ⟨rfl,hl,i,him,he,hf,hh⟩
  match e',hl with
  | a0::a1::a2::a3::a4::a5::a6::a7::a8::a9::a10::a11::a12::a13::a14::a15::a16::a17::[],_=>
    simp at hh
    obtain ⟨rfl,rfl,rfl,rfl⟩:=hh
    have hi:i=0∨i=1∨i=2:=by omega
    have w1:IntKind.i64.wrap ((0:Int) + 1)=1:=by decide
    have w2:IntKind.i64.wrap ((1:Int) + 1)=2:=by decide
    have w1':IntKind.i64.wrap (1:Int)=1:=by decide
    have w2':IntKind.i64.wrap (2:Int)=2:=by decide
    have l0:=aLoad_errno (W:=W) (o:=0) hg rfl
    have l1:=aLoad_errno (W:=W) (o:=1) hg rfl
    have i0:=idx_errno (W:=W) (k:=k) (i:=0) (by decide)
    have i1:=idx_errno (W:=W) (k:=k) (i:=1) (by decide)
    simp only [Int.natCast_zero,Int.natCast_one] at i0 i1
    rcases hi with rfl | rfl | rfl
    · by_cases h0:e=0
      · subst h0
        simp [push_cast,i0,l0,w1,w1']
        exact ⟨1,by omega,rfl,by simp,1,by omega,by simp,by simp,by simp⟩
      · have hne:(e !=0)=true:=by simp [h0]
        simp [push_cast,i0,l0,hne,orR,h0]
    · have h0:=he (by omega)
      subst h0
      by_cases h1:f=0
      · subst h1
        simp [push_cast,i1,l1,w2,w2']
        exact ⟨0,by omega,rfl,by simp,2,by omega,by simp,by simp,by simp⟩
      · have hne:(f !=0)=true:=by simp [h1]
        simp [push_cast,i1,l1,hne,orR,h1]
    · have h0:=he (by omega)
      have h1:=hf rfl
      subst h0 h1
      simp [push_cast,orR]
theorem build_errno {W:World} {h:AH} {e f:Int}:aBuildSlice (CC W) h 216 2 [(0,.int .i64 e),(1,.int .i64 f)]=some (.sl (some (.new h.next 0)) 2 2 none,h.push (.cells [.int .i64 e,.int .i64 f] 26)):=by
  simp only [aBuildSlice,kind216,size26,zero26]
  rfl
theorem judge_nil {l:List (List UInt8)} (h:(judge l).2≠0):(judge l).1=[]:=by
  unfold judge at *
  split
  · rfl
  · rename_i hf
    rw [hf] at h
    split
    · rfl
    · rename_i h8
      simp only [if_neg h8] at h
      exact absurd rfl h
theorem judge_fine {l:List (List UInt8)} (h:(judge l).2=0):(judge l).1=l∧(∀x∈l,nameR x=0)∧l.length≤8:=by
  unfold judge at *
  split
  · rename_i s hf
    rw [hf] at h
    simp only at h
    have:=List.find?_some hf
    simp [h] at this
  · rename_i hf
    rw [hf] at h
    rw [List.find?_eq_none] at hf
    split
    · rename_i h8
      simp [h8] at h
    · rename_i h8
      exact ⟨rfl,fun x hx=>by simpa using hf x hx,by omega⟩
theorem splitR_cons {r:List UInt8} (h:r≠[]):splitR (47::r)=judge (pieces r):=by simp [splitR,h]
theorem splitR_other {c:UInt8} {r:List UInt8} (h:c≠47):splitR (c::r)=([],309):=by simp [splitR,h]
theorem splitR_nil {p:List UInt8} (h:(splitR p).2≠0):(splitR p).1=[]:=by
  cases p with
  | nil=>rfl
  | cons c r=>
    by_cases hc:c=47
    · subst hc
      by_cases hr:r=[]
      · subst hr; rfl
      · rw [splitR_cons hr] at *; exact judge_nil h
    · rw [splitR_other hc]
theorem splitR_ok {p:List UInt8} (h:(splitR p).2=0):(∀x∈(splitR p).1,nameR x=0)∧(splitR p).1.length≤8:=by
  cases p with
  | nil=>simp [splitR] at h
  | cons c r=>
    by_cases hc:c=47
    · subst hc
      by_cases hr:r=[]
      · subst hr; simp [splitR]
      · rw [splitR_cons hr] at *
        obtain ⟨h1,h2,h3⟩:=judge_fine h
        rw [h1]; exact ⟨h2,h3⟩
    · rw [splitR_other hc] at h; simp at h
def belowR (p q:List UInt8):Bool×Int:=
  if (splitR p).2≠0 then (false,(splitR p).2) else if (splitR q).2≠0 then (false,(splitR q).2) else (decide ((splitR q).1.length<(splitR p).1.length) && decide ((splitR p).1.take (splitR q).1.length=(splitR q).1),0)
set_option maxHeartbeats 4000000 in
set_option maxRecDepth 20000 in
theorem below_ret (W:World) (p q:List UInt8) (hp:p.length<8796093022207) (hq:q.length<8796093022207):RetX (CC W) 81 [.str p,.str q] (.tup [.bool (belowR p q).1,.int .i64 (belowR p q).2]):=by
  intro h
  refine jj9 (cc_ok W) (fn81 W) (by simp only [Tryz.f81]; rfl) rfl rfl ?_
  simp [push_cast]
  refine jg9 (by simp [fn51]) (split_ret W p hp h) fun v h1 hk1 hv=> ?_
  obtain ⟨sa,rfl,hsa⟩:=hv
  simp [push_cast]
  refine jg9 (by simp [fn51]) (split_ret W q hq h1) fun v h2 hk2 hv=> ?_
  obtain ⟨sb,rfl,hsb⟩:=hv
  have hsa2:=hsa.keeps hk2
  simp [push_cast,build_errno]
  refine jh9 (by simp [fn113]) (or_ret W _ h2.next (splitR p).2 (splitR q).2 26 (by simp)) ?_
  have hk3:Keeps h (h2.push (.cells [.int .i64 (splitR p).2,.int .i64 (splitR q).2] 26)):=(hk1.trans hk2).trans (Keeps.push _ _)
  have hsa3:=hsa2.keeps (Keeps.push _ (.cells [.int .i64 (splitR p).2,.int .i64 (splitR q).2] 26))
  have hsb3:=hsb.keeps (Keeps.push _ (.cells [.int .i64 (splitR p).2,.int .i64 (splitR q).2] 26))
  generalize h2.push (.cells [.int .i64 (splitR p).2,.int .i64 (splitR q).2] 26)=h3 at hk3 hsa3 hsb3 ⊢
  by_cases e0:(splitR p).2=0
  · by_cases f0:(splitR q).2=0
    · have hb:belowR p q=(decide ((splitR q).1.length<(splitR p).1.length) && decide ((splitR p).1.take (splitR q).1.length=(splitR q).1),0):=by simp [belowR,e0,f0]
      rw [hb]
      obtain ⟨hok,hl8⟩:=splitR_ok e0
      obtain ⟨hokb,hlb8⟩:=splitR_ok f0
      obtain ⟨pa,ca,ga,rfl⟩:=hsa3.len
      obtain ⟨pb,cb,gb,rfl⟩:=hsb3.len
      generalize (splitR p).1=a at *
      generalize (splitR q).1=b at *
      by_cases hlt:b.length<a.length
      · have hlt':(b.length:Int)<(a.length:Int):=by omega
        obtain ⟨v,hv,hvs⟩:=hsa3.slice (show b.length≤a.length by omega)
        simp [push_cast,orR,e0,f0,aLen,kind37,hlt,hlt',hv]
        refine jh9 (by simp [fn114]) (equal_ret W h3 _ _ _ _ hvs hsb3 (by simp; omega)) ?_
        simp [push_cast,hk3]
      · have hlt':¬(b.length:Int)<(a.length:Int):=by omega
        simp [push_cast,orR,e0,f0,aLen,kind37,hlt,hlt',hk3]
    · have hb:belowR p q=(false,(splitR q).2):=by simp [belowR,e0,f0]
      have hne:((splitR q).2 !=0)=true:=by simp [f0]
      rw [hb]
      simp [push_cast,orR,e0,f0,hne,hk3]
  · have hb:belowR p q=(false,(splitR p).2):=by simp [belowR,e0]
    have hne:((splitR p).2 !=0)=true:=by simp [e0]
    rw [hb]
    simp [push_cast,orR,e0,hne,hk3]
theorem un1 {n:Nat} {l:List AV} (h:l.length=n + 1):∃a r,l=a::r∧r.length=n:=by
  cases l with
  | nil=>cases h
  | cons a r=>exact ⟨a,r,rfl,by simpa using h⟩
theorem un10 {n:Nat} {l:List AV} (h:l.length=n + 10):∃a0 a1 a2 a3 a4 a5 a6 a7 a8 a9 r,l=a0::a1::a2::a3::a4::a5::a6::a7::a8::a9::r∧r.length=n:=by
  obtain ⟨a0,r0,rfl,h0⟩:=un1 h
  obtain ⟨a1,r1,rfl,h1⟩:=un1 h0
  obtain ⟨a2,r2,rfl,h2⟩:=un1 h1
  obtain ⟨a3,r3,rfl,h3⟩:=un1 h2
  obtain ⟨a4,r4,rfl,h4⟩:=un1 h3
  obtain ⟨a5,r5,rfl,h5⟩:=un1 h4
  obtain ⟨a6,r6,rfl,h6⟩:=un1 h5
  obtain ⟨a7,r7,rfl,h7⟩:=un1 h6
  obtain ⟨a8,r8,rfl,h8⟩:=un1 h7
  obtain ⟨a9,r9,rfl,h9⟩:=un1 h8
  exact ⟨a0,a1,a2,a3,a4,a5,a6,a7,a8,a9,r9,rfl,h9⟩
theorem un0 {l:List AV} (h:l.length=0):l=[]:=List.length_eq_zero_iff.1 h
def writeR (M:MS) (a:Int) (dt:List UInt8) (l:List (List UInt8)):Int×MS:=
  if a<0∨1024<dt.length then (309,M)
  else if (fileR M l).2=0 then
    if dt=[] then (0,M) else if 533248 - (dt.length:Int)<a then (307,M) else
    match M.nodes[(fileR M l).1.toNat]? with
    | some nd=>
      if M.data<usedR (M.set (fileR M l).1.toNat {nd with blocks:=nd.blocks.map (wrB a.toNat dt)}) then (306,M)
      else (0,M.set (fileR M l).1.toNat {nd with size:=max nd.size (a + dt.length),blocks:=nd.blocks.map (wrB a.toNat dt)})
    | none=>(0,M)
  else ((fileR M l).2,M)
theorem look_blk0 {W:World} {h:AH} {v:AV} {m:Option Nat} {b:Option Blk} {k:Int} {s:List UInt8} (hm:MapIs h v m b) (hs:blkAt b k=some s):
    aLookup (CC W) h 90 v (.int .i64 k) false=some (.str s):=by
  have hkd:(CC W).kind 90= .map 3 9:=rfl
  have hkey:aKey (CC W) 100 3 (.int .i64 k)=true:=rfl
  cases m with
  | none=>
    cases b with
    | some _=>exact hm.elim
    | none=>simp [blkAt,fnd] at hs
  | some km=>
    cases b with
    | none=>exact hm.elim
    | some l=>
      obtain ⟨rfl,es,clock,hg,hok,hes⟩:=hm
      have hf:=find_blk (W:=W) (k:=k) l es 0 hes
      simp only [blkAt,Option.getD_some] at hs
      simp only [aLookup,hkd,hkey,if_true,hg,hf,Option.bind]
      cases hp:fnd k l 0 with
      | none=>rw [hp] at hs; simp at hs
      | some p=>rw [hp] at hs; simp at hs; subst hs; rfl
theorem clone_ret (W:World) (h:AH) (km clock:Nat) (es:List AEnt) (hg:h.get km=some (.map es clock)):
    ACall (CC W) 73 [.map (some km)] h (fun w h'=>w= .map (some h.next)∧h'=h.push (.map es clock)) (fun _ _=>False):=by
  refine jj9 (cc_ok W) (fn73 W) (by simp only [Tryz.f73]; rfl) rfl rfl ?_
  simp [push_cast,aEq,kind90,kindEq1,aEq1,cloneA,hg,aAssert]
theorem set_same {M:MS} {i:Nat} {nd:Nd} (h:M.nodes[i]? =some nd):M.set i nd=M:=by
  have:=MS.set_back (nd':=nd) h
  simp only [MS.set,List.set_set] at this ⊢
  exact this
def WriteI (h4:AH) (mv0:AV) (kb k0:Nat) (fp:AV) (jm kw:Nat) (A E:Nat) (dt:List UInt8) (b:Blk) (m:Nat) (e':Env) (h':AH):Prop:=
  e'.length=151∧∃(i:Nat) (b':Blk) (es':List AEnt) (clock':Nat),wrF A dt m i b'=wrB A dt b∧A + dt.length≤(i + m) * 128∧A<(i + 1) * 128∧i * 128<A + dt.length + 128∧BOk b'∧OkEs es' clock'∧es'.map (fun e=>(e.key,e.val))=b'.map entOf∧
    h'.get jm=some (.map es' clock')∧h4.next≤h'.next∧(∀k,k<h4.next→k≠jm→h'.get k=h4.get k)∧
    (e'.getD 0 .undef=mv0∧e'.getD 5 .undef= .ptr (some (.new kb 0))∧e'.getD 8 .undef= .ptr (some (.new k0 0))∧e'.getD 9 .undef=fp∧e'.getD 12 .undef= .int .i64 (E:Int)∧e'.getD 13 .undef= .map (some kw)∧e'.getD 14 .undef= .int .i64 i)
set_option maxRecDepth 100000 in
set_option maxHeartbeats 16000000 in
theorem write_ret (W:World) (h:AH) (R:MR) (M:MS) (hm:MIs h R M) (ok:MOk M) (kd a n:Int) (p t dt:List UInt8) (v v2:AV) (l:List (List UInt8)) (hs:StrS W h v l) (hl:l.length<8796093022207)
    (hbk:(fileR M l).2=0→∀nd,M.nodes[(fileR M l).1.toNat]? =some nd→∃b,nd.blocks=some b∧BOk b):
    RetM (CC W) 36 [.ptr (some (.new R.km 0)),opV kd a n p t dt,v,v2] h R (resE (writeR M a dt l).1) (writeR M a dt l).2:=by
  refine jj9 (cc_ok W) (fn36 W) (by simp only [Tryz.f36]; rfl) rfl rfl ?_
  have hsd:=Side.start hm (.cells [.int .i64 kd,.int .i64 a,.int .i64 n,.str p,.str t,.str dt] 35) (.cells res0 39)
  have hbx:=box_op (h:=h) (l:=[.int .i64 kd,.int .i64 a,.int .i64 n,.str p,.str t,.str dt])
  have hal:=alloc_res (W:=W) (h:=h.push (.cells [.int .i64 kd,.int .i64 a,.int .i64 n,.str p,.str t,.str dt] 35))
  have hgb:((h.push (.cells [.int .i64 kd,.int .i64 a,.int .i64 n,.str p,.str t,.str dt] 35)).push (.cells res0 39)).get h.next=some (.cells [.int .i64 kd,.int .i64 a,.int .i64 n,.str p,.str t,.str dt] 35):=by simp
  have hg0:((h.push (.cells [.int .i64 kd,.int .i64 a,.int .i64 n,.str p,.str t,.str dt] 35)).push (.cells res0 39)).get (h.push (.cells [.int .i64 kd,.int .i64 a,.int .i64 n,.str p,.str t,.str dt] 35)).next=some (.cells res0 39):=by simp
  generalize (h.push (.cells [.int .i64 kd,.int .i64 a,.int .i64 n,.str p,.str t,.str dt] 35)).push (.cells res0 39)=h2 at hsd hal hgb hg0
  generalize h.push (.cells [.int .i64 kd,.int .i64 a,.int .i64 n,.str p,.str t,.str dt] 35)=h1 at hsd hbx hal hgb hg0
  generalize h1.next=k0 at hsd hal hg0
  generalize h.next=kb at hbx hgb hsd
  have hm2:=hm.keeps hsd.keeps
  have hs2:=hs.keeps hsd.keeps
  have hB2:MStep h2 h2 R R:=MStep.refl (Keeps.refl _)
  by_cases h1:a<0
  · have hr:writeR M a dt l=(309,M):=by simp only [writeR,if_pos (Or.inl h1)]
    rw [hr]
    simp (maxSteps:=2000000) [push_cast,opV,hbx,hal,fa35_1,fa35_5,ld3,ld9,ji9 hgb,h1]
    refine jf9 (by simp [fn48]) (failed_ret W h2 _) fun h9 hk9=> ?_
    have hg9:=((hsd.stay (hB2.trans (MStep.refl hk9)) (.inr rfl))).trans hg0
    have hst:=st_res (W:=W) (e1:=309) (d1:=[]) (k1:=0) (l1:=0) (s1:=0) (p:=none) (n:=0) (q:=0) (g:=none) hg9
    have hf:=hsd.fin (hm2.keeps hk9) (hB2.trans (MStep.refl hk9)) (.cells [.int .i64 309,.str [],.int .i64 0,.int .i64 0,.int .i64 0,.sl none 0 0 none] 39)
    simp [push_cast,resE,res6,hst,ld_resS]
    exact ⟨_,hf⟩
  · by_cases h2n:1024<dt.length
    · have hr:writeR M a dt l=(309,M):=by simp only [writeR,if_pos (Or.inr h2n)]
      rw [hr]
      have h2n':(1024:Int)<(dt.length:Int):=by omega
      simp (maxSteps:=2000000) [push_cast,opV,hbx,hal,fa35_1,fa35_5,ld3,ld9,ji9 hgb,h1,aLen,kind9,h2n,h2n']
      refine jf9 (by simp [fn48]) (failed_ret W h2 _) fun h9 hk9=> ?_
      have hg9:=((hsd.stay (hB2.trans (MStep.refl hk9)) (.inr rfl))).trans hg0
      have hst:=st_res (W:=W) (e1:=309) (d1:=[]) (k1:=0) (l1:=0) (s1:=0) (p:=none) (n:=0) (q:=0) (g:=none) hg9
      have hf:=hsd.fin (hm2.keeps hk9) (hB2.trans (MStep.refl hk9)) (.cells [.int .i64 309,.str [],.int .i64 0,.int .i64 0,.int .i64 0,.sl none 0 0 none] 39)
      simp [push_cast,resE,res6,hst,ld_resS]
      exact ⟨_,hf⟩
    · have h2n':¬(1024:Int)<(dt.length:Int):=by omega
      have hrd:writeR M a dt l=if (fileR M l).2=0 then
          if dt=[] then ((0:Int),M) else if 533248 - (dt.length:Int)<a then ((307:Int),M) else
          match M.nodes[(fileR M l).1.toNat]? with
          | some nd=>
            if M.data<usedR (M.set (fileR M l).1.toNat {nd with blocks:=nd.blocks.map (wrB a.toNat dt)}) then ((306:Int),M)
            else ((0:Int),M.set (fileR M l).1.toNat {nd with size:=max nd.size (a + dt.length),blocks:=nd.blocks.map (wrB a.toNat dt)})
          | none=>((0:Int),M)
        else ((fileR M l).2,M):=by
        simp only [writeR]
        rw [if_neg (by omega)]
      simp (maxSteps:=2000000) [push_cast,opV,hbx,hal,fa35_1,fa35_5,ld3,ld9,ji9 hgb,h1,aLen,kind9,h2n,h2n']
      refine jf9 (by simp [fn72]) (file_ret W h2 R M hm2 ok v l hs2 hl) fun h3 hk3=> ?_
      have hm3:=hm2.keeps hk3
      have hB3:MStep h2 h3 R R:=MStep.refl hk3
      have hgb3:=((hsd.stay hB3 (.inl rfl))).trans hgb
      have hg03:=((hsd.stay hB3 (.inr rfl))).trans hg0
      have hkb3:kb<h3.next:=by have:=hsd.hb; have:=hk3.1; omega
      have hk03:k0<h3.next:=by have:=hsd.h0; have:=hk3.1; omega
      by_cases he:(fileR M l).2=0
      · rw [if_pos he] at hrd
        have hbk:=hbk he
        obtain ⟨hl0,i0,nd,hfi,hfd,hnd,hkd⟩:=fileR_ok ok he
        have hin:i0<M.nodes.length:=(List.getElem?_eq_some_iff.1 hnd).1
        obtain ⟨r,nd',hr,hnd',hn3⟩:=hm3.node hin
        rw [hnd] at hnd'; cases hnd'
        obtain ⟨mv,sv,hc3,hmp3,hsl3⟩:=_root_.id hn3
        have hv:fileV R M l= .tup [.ptr (some (.new r.k 0)),.int .i64 i0,.int .i64 0]:=by
          simp [fileV,hfi,MR.at,hr]
        simp only [hfi,Int.toNat_natCast,hnd] at hrd hbk
        obtain ⟨b,hb,hbok⟩:=hbk nd rfl
        have hlow3:∀k∈r.ids,k<h3.next:=fun k hk=>hm3.low k (mem_ids hr hk)
        have hown:=hm.own i0 r hr
        rw [hb] at hmp3 hrd
        obtain ⟨jm,hrm⟩:∃jm,r.m=some jm:=by
          cases hrm:r.m with
          | none=>rw [hrm] at hmp3; exact hmp3.elim
          | some jm=>exact ⟨jm,rfl⟩
        rw [hrm] at hmp3
        obtain ⟨rfl,es,clock,hgm,hok,hes⟩:=hmp3
        have hjm:jm∈r.ids:=by simp [NR.ids,hrm]
        have hjmlow:=hlow3 jm hjm
        have hjk:r.k≠jm:=by
          rintro e; simp [NR.ids,hrm,e] at hown
        have hkbm:kb≠jm:=by
          rintro rfl; have:=hsd.low _ (mem_ids hr hjm); have:=hsd.hb; omega
        obtain ⟨A,rfl⟩:=Int.eq_ofNat_of_zero_le (show 0≤a by omega)
        rw [hv]
        by_cases hd0:dt=[]
        · rw [if_pos hd0] at hrd
          rw [hrd]
          subst hd0
          have hst:=st_res (W:=W) (e1:=0) (d1:=[]) (k1:=0) (l1:=0) (s1:=0) (p:=none) (n:=0) (q:=0) (g:=none) hg03
          have hf:=hsd.fin hm3 hB3 (.cells [.int .i64 0,.str [],.int .i64 0,.int .i64 0,.int .i64 0,.sl none 0 0 none] 39)
          simp [push_cast,fa35_1,fa35_5,ld3,ld9,ji9 hgb3,aStr,build_res0,res0,resE,res6,hst,ld_resS]
          exact ⟨_,hf⟩
        · rw [if_neg hd0] at hrd
          have hdp:0<dt.length:=List.length_pos_iff.2 hd0
          have wd:IntKind.i64.wrap (533248 - (dt.length:Int))=533248 - (dt.length:Int):=wrap64 (by omega) (by omega)
          by_cases hbig:533248 - (dt.length:Int)<(A:Int)
          · rw [if_pos hbig] at hrd
            rw [hrd]
            simp [push_cast,fa35_1,fa35_5,ld3,ld9,ji9 hgb3,aStr,aLen,kind9,hd0,wd,hbig]
            refine jf9 (by simp [fn48]) (failed_ret W h3 _) fun h9 hk9=> ?_
            have hg9:=((hsd.stay (hB3.trans (MStep.refl hk9)) (.inr rfl))).trans hg0
            have hst:=st_res (W:=W) (e1:=307) (d1:=[]) (k1:=0) (l1:=0) (s1:=0) (p:=none) (n:=0) (q:=0) (g:=none) hg9
            have hf:=hsd.fin (hm3.keeps hk9) (hB3.trans (MStep.refl hk9)) (.cells [.int .i64 307,.str [],.int .i64 0,.int .i64 0,.int .i64 0,.sl none 0 0 none] 39)
            simp [push_cast,resE,res6,hst,ld_resS]
            exact ⟨_,hf⟩
          · rw [if_neg hbig] at hrd
            simp only [Option.map_some,Int.toNat_natCast] at hrd
            obtain ⟨E,hE⟩:∃E:Nat,E=A + dt.length:=⟨_,rfl⟩
            obtain ⟨iq,hiq⟩:∃iq:Nat,iq=A / 128:=⟨_,rfl⟩
            have we:IntKind.i64.wrap ((A:Int) + (dt.length:Int))=(E:Int):=by rw [wrap64 (by omega) (by omega)]; omega
            have wq:IntKind.i64.wrap (Int.tdiv (A:Int) 128)=(iq:Int):=by
              rw [Int.tdiv_eq_ediv_of_nonneg (by omega),wrap64 (by omega) (by omega)]; omega
            simp [push_cast,fa35_1,fa35_5,ld3,ld9,ji9 hgb3,aStr,aLen,kind9,hd0,wd,hbig,we,fa93_3,ld90,ji9 hc3,jd9]
            refine je9 (by simp [fn73]) (clone_ret W h3 jm clock es hgm) fun w h4 ⟨hw,hh4⟩=> ?_
            subst hw
            have hg4:∀k,k<h3.next→h4.get k=h3.get k:=fun k hk=>by
              have:k≠h3.next:=by omega
              simp [hh4,this]
            have hgw:h4.get h3.next=some (.map es clock):=by simp [hh4]
            have hn4:h4.next=h3.next + 1:=by simp [hh4]
            clear hh4
            have hgb4:=(hg4 kb hkb3).trans hgb3
            have wq':IntKind.i64.wrap ((A:Int) / 128)=(iq:Int):=by rw [wrap64 (by omega) (by omega)]; omega
            simp [push_cast,fa35_1,ld3,ji9 hgb4,wq,wq']
            refine loopN (cc_ok W) (WriteI h4 (.ptr (some (.new R.km 0))) kb k0 (.ptr (some (.new r.k 0))) jm h3.next A E dt b) 10 ⟨by simp,iq,b,es,clock,by rw [hiq]; rfl,by omega,by omega,by omega,hbok,hok,hes,(hg4 jm hjmlow).trans hgm,Nat.le_refl _,fun k _ _=>rfl,by simp⟩ ?_
            rintro m e' h' ⟨hlen',i,b',es',clock',hwr,him,hi2,hi3,hb',hok',hes',hM,hnx,hoff,hh⟩
            obtain ⟨a0,a1,a2,a3,a4,a5,a6,a7,a8,a9,rS0,rfl,hS0⟩:=un10 hlen'
            obtain ⟨a10,a11,a12,a13,a14,a15,a16,a17,a18,a19,rS10,rfl,hS10⟩:=un10 hS0
            obtain ⟨a20,a21,a22,a23,a24,a25,a26,a27,a28,a29,rS20,rfl,hS20⟩:=un10 hS10
            obtain ⟨a30,a31,a32,a33,a34,a35,a36,a37,a38,a39,rS30,rfl,hS30⟩:=un10 hS20
            obtain ⟨a40,a41,a42,a43,a44,a45,a46,a47,a48,a49,rS40,rfl,hS40⟩:=un10 hS30
            obtain ⟨a50,a51,a52,a53,a54,a55,a56,a57,a58,a59,rS50,rfl,hS50⟩:=un10 hS40
            obtain ⟨a60,a61,a62,a63,a64,a65,a66,a67,a68,a69,rS60,rfl,hS60⟩:=un10 hS50
            obtain ⟨a70,a71,a72,a73,a74,a75,a76,a77,a78,a79,rS70,rfl,hS70⟩:=un10 hS60
            obtain ⟨a80,a81,a82,a83,a84,a85,a86,a87,a88,a89,rS80,rfl,hS80⟩:=un10 hS70
            obtain ⟨a90,a91,a92,a93,a94,a95,a96,a97,a98,a99,rS90,rfl,hS90⟩:=un10 hS80
            obtain ⟨a100,a101,a102,a103,a104,a105,a106,a107,a108,a109,rS100,rfl,hS100⟩:=un10 hS90
            obtain ⟨a110,a111,a112,a113,a114,a115,a116,a117,a118,a119,rS110,rfl,hS110⟩:=un10 hS100
            obtain ⟨a120,a121,a122,a123,a124,a125,a126,a127,a128,a129,rS120,rfl,hS120⟩:=un10 hS110
            obtain ⟨a130,a131,a132,a133,a134,a135,a136,a137,a138,a139,rS130,rfl,hS130⟩:=un10 hS120
            obtain ⟨a140,a141,a142,a143,a144,a145,a146,a147,a148,a149,rS140,rfl,hS140⟩:=un10 hS130
            obtain ⟨a150,rS150,rfl,hS150⟩:=un1 hS140
            obtain rfl:=un0 hS150
            clear hlen' hS0 hS10 hS20 hS30 hS40 hS50 hS60 hS70 hS80 hS90 hS100 hS110 hS120 hS130 hS140 hS150
            · simp at hh
              obtain ⟨rfl,rfl,rfl,rfl,rfl,rfl,rfl⟩:=hh
              have hgb':=(hoff kb (by omega) hkbm).trans hgb4
              have hrk3:=hlow3 r.k (by simp [NR.ids])
              have hc':=((hoff r.k (by omega) hjk).trans (hg4 r.k hrk3)).trans hc3
              obtain ⟨I1,hI1⟩:∃I1:Nat,I1=i * 128:=⟨_,rfl⟩
              obtain ⟨J1,hJ1⟩:∃J1:Nat,J1=(i + 1) * 128:=⟨_,rfl⟩
              obtain ⟨i1,hi1⟩:∃i1:Nat,i1=i + 1:=⟨_,rfl⟩
              have wi:IntKind.i64.wrap ((i:Int) * 128)=(I1:Int):=by rw [wrap64 (by omega) (by omega)]; omega
              by_cases hlt:i * 128<A + dt.length
              · have hlt1:I1<E:=by omega
                have hlt':(I1:Int)<(E:Int):=by omega
                obtain ⟨m,rfl⟩:∃m',m=m' + 1:=⟨m - 1,by omega⟩
                simp only [wrF,if_pos hlt] at hwr
                have hmp':MapIs h' (.map (some jm)) (some jm) (some b'):=⟨rfl,_,_,hM,hok',hes'⟩
                have hlk:=look_blk (W:=W) hmp' (i:Int)
                cases hold:blkAt (some b') (i:Int) with
                | some old=>
                  have hol:old.length=128:=(hb' _ (blkAt_mem hold)).1
                  rw [hold] at hlk
                  have hgT:=hgb'
                  have hcT:=hc'
                  have hMT:=hM
                  have hokT:=hok'
                  have hesT:=hes'
                  have hbT:=hb'
                  have hoffT:=hoff
                  have hnxT:=hnx
                  have hstepT:setB (i:Int) (wrS A dt i old) b'=wrStep A dt i b':=by simp only [wrStep,hold,Option.getD_some]
                  obtain ⟨fr,hfr⟩:∃fr:Nat,fr=max A (i * 128):=⟨_,rfl⟩
                  obtain ⟨to,hto⟩:∃to:Nat,to=min (A + dt.length) ((i + 1) * 128):=⟨_,rfl⟩
                  obtain ⟨lo,hlo⟩:∃lo:Nat,lo=fr - A:=⟨_,rfl⟩
                  obtain ⟨hi,hhi⟩:∃hi:Nat,hi=to - A:=⟨_,rfl⟩
                  obtain ⟨of,hof⟩:∃of:Nat,of=fr - i * 128:=⟨_,rfl⟩
                  have w2:IntKind.i64.wrap ((i:Int) + 1)=(i1:Int):=by rw [wrap64 (by omega) (by omega)]; omega
                  have w3:IntKind.i64.wrap ((i1:Int) * 128)=(J1:Int):=by rw [wrap64 (by omega) (by omega)]; omega
                  have x1:max ((A:Nat):Int) (I1:Int)=(fr:Int):=by omega
                  have x2:min (E:Int) (J1:Int)=(to:Int):=by omega
                  have w4:IntKind.i64.wrap ((fr:Int) - ((A:Nat):Int))=(lo:Int):=by rw [wrap64 (by omega) (by omega)]; omega
                  have w5:IntKind.i64.wrap ((to:Int) - ((A:Nat):Int))=(hi:Int):=by rw [wrap64 (by omega) (by omega)]; omega
                  have w6:IntKind.i64.wrap ((fr:Int) - (I1:Int))=(of:Int):=by rw [wrap64 (by omega) (by omega)]; omega
                  have hsc:=slice_part (W:=W) (p:=dt) (a:=lo) (b:=hi) (by omega) (by omega)
                  have hmpT:MapIs h' (.map (some jm)) (some jm) (some b'):=⟨rfl,_,_,hMT,hokT,hesT⟩
                  have hlkT:=look_blk0 (W:=W) hmpT hold
                  have hov:=over_ret W h' old ((dt.take hi).drop lo) of (by simp only [List.length_drop,List.length_take]; omega) (by omega)
                  have hwl:=wrS_len (d:=dt) hol hlt hi2
                  have hws:overR old ((dt.take hi).drop lo) of=wrS A dt i old:=by simp only [wrS,hhi,hlo,hof,hto,hfr]
                  rw [hws] at hov
                  obtain ⟨es2,ck2,hput,hok2,hes2⟩:=map_put (W:=W) (s:=wrS A dt i old) hMT hokT hesT hbT (k:=(i:Int)) (by omega) (by omega)
                  have hb2:=setB_ok (k:=(i:Int)) hwl (by omega) (by omega) hbT
                  have hset:setB (i:Int) (wrS A dt i old) b'=wrStep A dt i b':=hstepT
                  rw [hset] at hb2 hes2
                  simp [push_cast,wi,hlt1,hlt',fa93_3,ld90,ji9 hc',jd9,hlk,aUn,fa35_1,fa35_5,ld3,ld9,ji9 hgT,wi,w2,w3,aMax2,aMin2,x1,x2]
                  refine drawS [0,1,2,3,4,5,6,7,8,9,10,11,12,13,14,15,16,17,18,19,20,21,22,23,24,25,26,27] (by kernel_rfl) (by kernel_rfl) ?_
                  simp [push_cast,zx9,zy9,SgO,opA,isE,isRead,fa35_1,fa35_5,ld3,ld9,ji9 hgT,fa93_3,ld90,ji9 hcT,jd9,hlkT,wi,w4,w5,w6,hsc]
                  refine jb9 (f:=75) (args:=[.str old,.str ((dt.take hi).drop lo),.int .i64 (of:Int)]) (by rfl) (by rfl) (by rfl) (by simp [fn75]) hov ?_
                  rintro w h6 ⟨rfl,rfl⟩
                  refine ⟨?_,?_⟩
                  · simp [zz9,ja9,push_cast,opA,fa35_1,fa35_5,ld3,ld9,ji9 hgT,fa93_3,ld90,ji9 hcT,jd9,hlkT]
                  · simp [push_cast,zx9,zy9,SgO,opA,isE,isRead]
                    refine jc9 (h':=h6.set jm (.map es2 ck2)) (v:= .undef) (by rfl) (by simp [push_cast,hput]) ⟨?_,?_⟩
                    · repeat refine zz9 ▸ ⟨fun hc=>absurd (hc.symm.trans (show _=true by kernel_rfl)) (by decide),?_⟩
                      exact ja9 ▸ trivial
                    · simp [push_cast,zy9]
                      rw [←hi1] at hwr
                      exact ⟨m,by omega,by simp,i1,wrStep A dt i b',es2,ck2,hwr,by omega,by omega,by omega,hb2,hok2,hes2,by simp,by simp; exact hnxT,fun k hk hne=>by simp [hne]; exact hoffT k hk hne,by simp [w2]⟩
                | none=>
                  rw [hold] at hlk
                  simp [push_cast,wi,hlt1,hlt',fa93_3,ld90,ji9 hc',jd9,hlk,aUn]
                  refine drawS [0,1,2,3,4,5,6] (by kernel_rfl) (by kernel_rfl) ?_
                  simp [push_cast,zx9,zy9,SgO,opA,isE,isRead,fa93_3,ld90,ji9 hc',jd9]
                  refine jb9 (f:=74) (args:=[.int .i64 128]) (by rfl) (by rfl) (by rfl) (by simp [fn74]) (zeros_ret W h' 128 (by omega)) ?_
                  rintro w h5 ⟨rfl,hk5⟩
                  have hnx5:=hk5.1
                  have hM5:=(hk5.2 jm (by omega)).trans hM
                  have hc5:=(hk5.2 r.k (by omega)).trans hc'
                  have hgb5:=(hk5.2 kb (by omega)).trans hgb'
                  obtain ⟨es1,ck1,hput1,hokT,hesT⟩:=map_put (W:=W) (s:=zblk) hM5 hok' hes' hb' (k:=(i:Int)) (by omega) (by omega)
                  have hput1':aMapSet (CC W) h5 90 (.map (some jm)) (.int .i64 i) (.str (List.replicate 128 0))=some (h5.set jm (.map es1 ck1)):=hput1
                  have hbT:=setB_ok (s:=zblk) (k:=(i:Int)) rfl (by omega) (by omega) hb'
                  have hstepT:∀s,setB (i:Int) (wrS A dt i zblk) (setB (i:Int) zblk b')=s→s=wrStep A dt i b':=fun s hs=>by rw [←hs,setB_set]; simp only [wrStep,hold,Option.getD_none]
                  have hstepT:=hstepT _ rfl
                  have hold:blkAt (some (setB (i:Int) zblk b')) (i:Int)=some zblk:=by rw [blkAt_setB,if_pos rfl]
                  have hol:zblk.length=128:=rfl
                  obtain ⟨old,hoz⟩:∃old,old=zblk:=⟨_,rfl⟩
                  rw [←hoz] at hstepT hold hol hesT hbT
                  refine ⟨?_,?_⟩
                  · simp [zz9,ja9,push_cast,opA,ld90,ji9 hc5]
                  · simp [push_cast,zx9,zy9,SgO,opA,isE,isRead]
                    refine jc9 (h':=h5.set jm (.map es1 ck1)) (v:= .undef) (by rfl) (by simp [push_cast]; exact hput1') ⟨?_,?_⟩
                    · repeat refine zz9 ▸ ⟨fun hc=>absurd (hc.symm.trans (show _=true by kernel_rfl)) (by decide),?_⟩
                      exact ja9 ▸ trivial
                    · have hkbj:kb≠jm:=hkbm
                      have hgT:(h5.set jm (.map es1 ck1)).get kb=_:=(by simp [hkbj]:(h5.set jm (.map es1 ck1)).get kb=h5.get kb).trans hgb5
                      have hcT:(h5.set jm (.map es1 ck1)).get r.k=_:=(by simp [hjk]:(h5.set jm (.map es1 ck1)).get r.k=h5.get r.k).trans hc5
                      have hMT:(h5.set jm (.map es1 ck1)).get jm=some (.map es1 ck1):=by simp
                      have hoffT:∀k,k<h4.next→k≠jm→(h5.set jm (.map es1 ck1)).get k=h4.get k:=fun k hk hne=>by simp [hne,hk5.2 k (by omega),hoff k hk hne]
                      have hnxT:h4.next≤(h5.set jm (.map es1 ck1)).next:=by simp; omega
                      generalize h5.set jm (.map es1 ck1)=hX at hgT hcT hMT hoffT hnxT
                      generalize hbb:setB (i:Int) old b'=bT at hstepT hold hesT hbT
                      obtain ⟨fr,hfr⟩:∃fr:Nat,fr=max A (i * 128):=⟨_,rfl⟩
                      obtain ⟨to,hto⟩:∃to:Nat,to=min (A + dt.length) ((i + 1) * 128):=⟨_,rfl⟩
                      obtain ⟨lo,hlo⟩:∃lo:Nat,lo=fr - A:=⟨_,rfl⟩
                      obtain ⟨hi,hhi⟩:∃hi:Nat,hi=to - A:=⟨_,rfl⟩
                      obtain ⟨of,hof⟩:∃of:Nat,of=fr - i * 128:=⟨_,rfl⟩
                      have w2:IntKind.i64.wrap ((i:Int) + 1)=(i1:Int):=by rw [wrap64 (by omega) (by omega)]; omega
                      have w3:IntKind.i64.wrap ((i1:Int) * 128)=(J1:Int):=by rw [wrap64 (by omega) (by omega)]; omega
                      have x1:max ((A:Nat):Int) (I1:Int)=(fr:Int):=by omega
                      have x2:min (E:Int) (J1:Int)=(to:Int):=by omega
                      have w4:IntKind.i64.wrap ((fr:Int) - ((A:Nat):Int))=(lo:Int):=by rw [wrap64 (by omega) (by omega)]; omega
                      have w5:IntKind.i64.wrap ((to:Int) - ((A:Nat):Int))=(hi:Int):=by rw [wrap64 (by omega) (by omega)]; omega
                      have w6:IntKind.i64.wrap ((fr:Int) - (I1:Int))=(of:Int):=by rw [wrap64 (by omega) (by omega)]; omega
                      have hsc:=slice_part (W:=W) (p:=dt) (a:=lo) (b:=hi) (by omega) (by omega)
                      have hmpT:MapIs hX (.map (some jm)) (some jm) (some bT):=⟨rfl,_,_,hMT,hokT,hesT⟩
                      have hlkT:=look_blk0 (W:=W) hmpT hold
                      have hov:=over_ret W hX old ((dt.take hi).drop lo) of (by simp only [List.length_drop,List.length_take]; omega) (by omega)
                      have hwl:=wrS_len (d:=dt) hol hlt hi2
                      have hws:overR old ((dt.take hi).drop lo) of=wrS A dt i old:=by simp only [wrS,hhi,hlo,hof,hto,hfr]
                      rw [hws] at hov
                      obtain ⟨es2,ck2,hput,hok2,hes2⟩:=map_put (W:=W) (s:=wrS A dt i old) hMT hokT hesT hbT (k:=(i:Int)) (by omega) (by omega)
                      have hb2:=setB_ok (k:=(i:Int)) hwl (by omega) (by omega) hbT
                      have hset:setB (i:Int) (wrS A dt i old) bT=wrStep A dt i b':=hstepT
                      rw [hset] at hb2 hes2
                      simp [push_cast,zy9,fa35_1,fa35_5,ld3,ld9,ji9 hgT,wi,w2,w3,aMax2,aMin2,x1,x2]
                      refine drawS [0,1,2,3,4,5,6,7,8,9,10,11,12,13,14,15,16,17,18,19,20,21,22,23,24,25,26,27] (by kernel_rfl) (by kernel_rfl) ?_
                      simp [push_cast,zx9,zy9,SgO,opA,isE,isRead,fa35_1,fa35_5,ld3,ld9,ji9 hgT,fa93_3,ld90,ji9 hcT,jd9,hlkT,wi,w4,w5,w6,hsc]
                      refine jb9 (f:=75) (args:=[.str old,.str ((dt.take hi).drop lo),.int .i64 (of:Int)]) (by rfl) (by rfl) (by rfl) (by simp [fn75]) hov ?_
                      rintro w h6 ⟨rfl,rfl⟩
                      refine ⟨?_,?_⟩
                      · simp [zz9,ja9,push_cast,opA,fa35_1,fa35_5,ld3,ld9,ji9 hgT,fa93_3,ld90,ji9 hcT,jd9,hlkT]
                      · simp [push_cast,zx9,zy9,SgO,opA,isE,isRead]
                        refine jc9 (h':=h6.set jm (.map es2 ck2)) (v:= .undef) (by rfl) (by simp [push_cast,hput]) ⟨?_,?_⟩
                        · repeat refine zz9 ▸ ⟨fun hc=>absurd (hc.symm.trans (show _=true by kernel_rfl)) (by decide),?_⟩
                          exact ja9 ▸ trivial
                        · simp [push_cast,zy9]
                          rw [←hi1] at hwr
                          exact ⟨m,by omega,by simp,i1,wrStep A dt i b',es2,ck2,hwr,by omega,by omega,by omega,hb2,hok2,hes2,by simp,by simp; exact hnxT,fun k hk hne=>by simp [hne]; exact hoffT k hk hne,by simp [w2]⟩
              ·
                obtain rfl:b'=wrB A dt b:=by rw [wrF_done hlt] at hwr; exact hwr
                have hin0:∀k∈r.ids,k<h4.next:=fun k hk=>by have:=hlow3 k hk; omega
                have hoff0:∀k,k<h3.next→k≠jm→h'.get k=h3.get k:=fun k hk hne=>(hoff k (by omega) hne).trans (hg4 k hk)
                have hsl':=hsl3.same (h':=h') fun k hk=>hoff0 k (hlow3 k (by simp [NR.ids,hk])) fun e=>by simp [NR.ids,hk,hrm,e] at hown
                obtain ⟨hA,hB,hP⟩:=hm3.setAt (h':=h') (r':=r) (nd':={nd with blocks:=some (wrB A dt b)}) hr rfl
                  (fun k hk hno=>hoff0 k hk fun e=>hno (e ▸ hjm))
                  ⟨.map (some jm),sv,hc',by rw [hrm]; exact ⟨rfl,es',clock',hM,hok',hes'⟩,hsl'⟩
                  (fun k hk=>⟨.inl hk,by have:=hin0 k hk; omega⟩) hown (by omega)
                have okA:MOk (M.set i0 {nd with blocks:=some (wrB A dt b)}):=ok.set (ok.short nd (List.mem_of_getElem? hnd)) (ok.size nd (List.mem_of_getElem? hnd)) (ok.inos nd (List.mem_of_getElem? hnd)) (fun e=>by subst e; exact ok.root nd hnd)
                generalize hM1:M.set i0 {nd with blocks:=some (wrB A dt b)}=M1 at hA okA hrd
                have hu:RetK (CC W) 54 [.ptr (some (.new R.km 0))] h' (.int .i64 (usedR M1)):=used_ret W h' (R.set i0 r) _ hA okA
                have hdm:M1.data=M.data:=by rw [←hM1]; rfl
                have hdat:∀h5,Keeps h' h5→aCell (CC W) h5 (.new R.km 1)=some (.int .i64 M.data):=fun h5 hk=>by rw [←hdm]; exact ji9 (o:=1) (hA.keeps hk).mod
                have hdat':=hdat h' (Keeps.refl _)
                have hlt2:¬I1<E:=by omega
                simp [push_cast,wi,hlt2]
                refine drawS [0,2,3,4,5,1,6] (by kernel_rfl) (by kernel_rfl) ?_
                simp [push_cast,zx9,zy9,SgO,opA,isE,isRead,zz9,ja9,jd9,fa88_1,ld3,hdat']
                refine jb9 (f:=54) (args:=[.ptr (some (.new R.km 0))]) (by rfl) (by rfl) (by rfl) (by simp [fn54]) hu ?_
                rintro w h5 ⟨rfl,hk5⟩
                have hdat5:=hdat h5 hk5
                have hA5:=hA.keeps hk5
                have hoff5:∀k,k<h3.next→k≠jm→h5.get k=h3.get k:=fun k hk hne=>(hk5.2 k (by omega)).trans (hoff0 k hk hne)
                have hc5:=(hk5.2 r.k (by omega)).trans hc'
                have hM5:=(hk5.2 jm (by omega)).trans hM
                have hnx5:=hk5.1
                have hsl5:=hsl'.same (h':=h5) fun k hk=>hk5.2 k (by have:=hin0 k (by simp [NR.ids,hk]); omega)
                refine ⟨?_,?_⟩
                · simp [zz9,ja9,push_cast,opA,hdat5,ld3]
                · by_cases hgt:M.data<usedR M1
                  · rw [if_pos hgt] at hrd
                    have hst3:=st_nd3 (W:=W) (x:=some h3.next) hc5
                    have hw5:h5.get h3.next=some (.map es clock):=((hk5.2 h3.next (by omega)).trans (hoff h3.next (by omega) (by omega))).trans hgw
                    have hrk0:r.k≠h3.next:=by omega
                    obtain ⟨hA6,hB6,hP6⟩:=hm3.setAt (h':=h5.set r.k (.cells [.int .i64 nd.kind,.int .i64 nd.links,.int .i64 nd.size,.map (some h3.next),sv] 93)) (r':={r with m:=some h3.next}) (nd':=nd) hr rfl
                      (fun k hk hno=>by
                        have e1:k≠r.k:=fun e=>hno (by simp [NR.ids,e])
                        have e2:k≠jm:=fun e=>hno (e ▸ hjm)
                        simp [e1,hoff5 k hk e2])
                      ⟨.map (some h3.next),sv,by simp,by
                        rw [hb]
                        exact ⟨rfl,es,clock,by simp [Ne.symm hrk0,hw5],hok,hes⟩,hsl5.same fun k hk=>by
                        have e1:k≠r.k:=fun e=>by simp [NR.ids,hk,e] at hown
                        simp [e1]⟩
                      (fun k hk=>by
                        simp only [NR.ids,List.mem_cons,List.mem_append,Option.mem_toList] at hk
                        simp only [AH.next_set]
                        rcases hk with rfl | hk | hk
                        · exact ⟨.inl (by simp [NR.ids]),by omega⟩
                        · cases hk; exact ⟨.inr (Nat.le_refl _),by omega⟩
                        · exact ⟨.inl (by simp [NR.ids,hk]),by have:=hin0 k (by simp [NR.ids,hk]); omega⟩)
                      (by
                        have hnl:∀k∈r.ids,k≠h3.next:=fun k hk=>by have:=hlow3 k hk; omega
                        simp only [NR.ids,hrm] at hown hnl ⊢
                        simp only [Option.toList_some,List.singleton_append,List.nodup_cons,List.mem_cons,not_or] at hown ⊢
                        refine ⟨⟨fun e=>by omega,hown.1.2⟩,fun hc=>hnl _ (by simp [hc]) rfl,hown.2.2⟩)
                      (by simp; omega)
                    rw [set_same hnd] at hA6
                    have hB6':=hB3.trans hB6
                    rw [hrd]
                    generalize h5.set r.k (.cells [.int .i64 nd.kind,.int .i64 nd.links,.int .i64 nd.size,.map (some h3.next),sv] 93)=h6 at hst3 hA6 hB6'
                    simp [push_cast,zx9,zy9,SgO,opA,isE,isRead,zz9,ja9,hgt,fa93_3,ld90,ji9 hc5,jd9,hst3]
                    refine jf9 (by simp [fn48]) (failed_ret W h6 _) fun h9 hk9=> ?_
                    have hg9:=((hsd.stay (hB6'.trans (MStep.refl hk9)) (.inr rfl))).trans hg0
                    have hst:=st_res (W:=W) (e1:=306) (d1:=[]) (k1:=0) (l1:=0) (s1:=0) (p:=none) (n:=0) (q:=0) (g:=none) hg9
                    have hf:=hsd.fin (hA6.keeps hk9) (hB6'.trans (MStep.refl hk9)) (.cells [.int .i64 306,.str [],.int .i64 0,.int .i64 0,.int .i64 0,.sl none 0 0 none] 39)
                    simp [push_cast,resE,res6,hst,ld_resS]
                    exact ⟨_,hf⟩
                  · rw [if_neg hgt] at hrd
                    have hEi:(A:Int) + (dt.length:Int)=(E:Int):=by omega
                    rw [hEi] at hrd
                    have hst2:=st_nd2 (W:=W) (n:=max nd.size (E:Int)) hc5
                    obtain ⟨hA6,hB6,hP6⟩:=hm3.setAt (h':=h5.set r.k (.cells [.int .i64 nd.kind,.int .i64 nd.links,.int .i64 (max nd.size (E:Int)),.map (some jm),sv] 93)) (r':=r) (nd':={nd with size:=max nd.size (E:Int),blocks:=some (wrB A dt b)}) hr rfl
                      (fun k hk hno=>by
                        have e1:k≠r.k:=fun e=>hno (by simp [NR.ids,e])
                        have e2:k≠jm:=fun e=>hno (e ▸ hjm)
                        simp [e1,hoff5 k hk e2])
                      ⟨.map (some jm),sv,by simp,by
                        rw [hrm]
                        exact ⟨rfl,es',clock',by simp [Ne.symm hjk,hM5],hok',hes'⟩,hsl5.same fun k hk=>by
                        have e1:k≠r.k:=fun e=>by simp [NR.ids,hk,e] at hown
                        simp [e1]⟩
                      (fun k hk=>⟨.inl hk,by simp; have:=hin0 k hk; omega⟩) hown (by simp; omega)
                    have hB6':=hB3.trans hB6
                    rw [hrd]
                    have hg06:=((hsd.stay hB6' (.inr rfl))).trans hg0
                    have hst:=st_res (W:=W) (e1:=0) (d1:=[]) (k1:=0) (l1:=0) (s1:=0) (p:=none) (n:=0) (q:=0) (g:=none) hg06
                    have hf:=hsd.fin hA6 hB6' (.cells [.int .i64 0,.str [],.int .i64 0,.int .i64 0,.int .i64 0,.sl none 0 0 none] 39)
                    simp [push_cast,zx9,zy9,SgO,opA,isE,isRead,zz9,ja9,hgt,fa93_2,ld3,ji9 hc5,jd9,aMax2,hst2,build_res0,res0,resE,res6,hst,ld_resS]
                    exact ⟨_,hf⟩
      · rw [if_neg he] at hrd
        have hv:fileV R M l= .tup [.ptr none,.int .i64 (fileR M l).1,.int .i64 (fileR M l).2]:=by simp only [fileV,if_neg he]
        rw [hv,hrd]
        simp [push_cast,he]
        refine jf9 (by simp [fn48]) (failed_ret W h3 _) fun h9 hk9=> ?_
        have hg9:=((hsd.stay (hB3.trans (MStep.refl hk9)) (.inr rfl))).trans hg0
        have hst:=st_res (W:=W) (e1:=(fileR M l).2) (d1:=[]) (k1:=0) (l1:=0) (s1:=0) (p:=none) (n:=0) (q:=0) (g:=none) hg9
        have hf:=hsd.fin (hm3.keeps hk9) (hB3.trans (MStep.refl hk9)) (.cells [.int .i64 (fileR M l).2,.str [],.int .i64 0,.int .i64 0,.int .i64 0,.sl none 0 0 none] 39)
        simp [push_cast,resE,res6,hst,ld_resS]
        exact ⟨_,hf⟩
def renameR (M:MS) (p t:List UInt8) (l l2:List (List UInt8)):Int×MS:=
  if l=[] then (309,M)
  else if (findR M l 0).2=0 then
    match M.nodes[(findR M l 0).1.toNat]? with
    | none=>(0,M)
    | some nd=>
      if (belowR t p).1=true∧nd.kind=2 then (309,M)
      else if (parentR M l2).2=0 then
        match M.nodes[(findR M l.dropLast 0).1.toNat]? with
        | none=>(0,M)
        | some ndd=>
          if (putR (takeR M (findR M l.dropLast 0).1.toNat (placeR ndd.slots (l.getLast?.getD [])).toNat) (parentR M l2).1.toNat (l2.getLast?.getD []) (findR M l 0).1).1=true then
            (0,(putR (takeR M (findR M l.dropLast 0).1.toNat (placeR ndd.slots (l.getLast?.getD [])).toNat) (parentR M l2).1.toNat (l2.getLast?.getD []) (findR M l 0).1).2)
          else (306,M)
      else ((parentR M l2).2,M)
  else ((findR M l 0).2,M)
theorem takeR_ok {M:MS} {d j:Nat} (ok:MOk M):MOk (takeR M d j):=by
  unfold takeR
  split
  · exact ok
  · rename_i nd hnd
    have hm:=List.mem_of_getElem? hnd
    refine ok.set (by simp; exact ok.short nd hm) (ok.size nd hm) (fun s hs=> ?_) (fun e=>by subst e; exact ok.root nd hnd)
    rcases List.mem_or_eq_of_mem_set hs with h | rfl
    · exact ok.inos nd hm s h
    · have:=ok.some; exact ⟨Int.le_refl _,by show (0:Int)<_; omega⟩
theorem putR_false {M:MS} {d:Nat} {nm:List UInt8} {a:Int} (h:(putR M d nm a).1=false):(putR M d nm a).2=M:=by
  unfold putR at h ⊢
  split at h
  · rfl
  · split at h
    · cases h
    · split at h
      · rename_i h1 h2
        simp only [if_neg h1,if_pos h2]
      · cases h
theorem aUn_not' {b:Bool}:aUn .not (.bool b)=some (.bool (!b)):=rfl
theorem MIs.notText {h:AH} {R:MR} {M:MS} (hm:MIs h R M) {q:Nat} {cs:List AV} (hq:q∈R.ids) (hg:h.get q=some (.cells cs 9)):False:=by
  simp only [MR.ids,List.mem_cons,List.mem_flatMap] at hq
  rcases hq with rfl | rfl | rfl | ⟨r,hr,hk⟩
  · have:=hg.symm.trans hm.mod; simp at this
  · have:=hg.symm.trans hm.ptrs; simp at this
  · have:=hg.symm.trans hm.rows; simp at this
  · obtain ⟨i,hi,he⟩:=List.getElem_of_mem hr
    have hr':R.nd[i]? =some r:=by rw [List.getElem?_eq_getElem hi,he]
    have hnd:M.nodes[i]? =some (M.nodes[i]'(by rw [←hm.len]; exact hi)):=by simp [←hm.len,hi]
    obtain ⟨mv,sv,hc,hmp,hsl⟩:=hm.each i r _ hr' hnd
    simp only [NR.ids,List.mem_cons,List.mem_append,Option.mem_toList] at hk
    rcases hk with rfl | hk | hk
    · have:=hg.symm.trans hc; simp at this
    · rw [hk] at hmp
      cases hb:(M.nodes[i]'(by rw [←hm.len]; exact hi)).blocks with
      | none=>rw [hb] at hmp; exact hmp.elim
      | some l=>rw [hb] at hmp; obtain ⟨_,es,cl,h2,_⟩:=hmp; have:=hg.symm.trans h2; simp at this
    · rw [hk] at hsl
      obtain ⟨cap,sp,_,h2,_⟩:=hsl
      have:=hg.symm.trans h2; simp at this
theorem hqst {W:World} {h h':AH} {R R':MR} {M:MS} {v:AV} {l:List (List UInt8)} (hm:MIs h R M) (hs:StrS W h v l) (hB:MStep h h' R R'):StrS W h' v l:=by
  obtain ⟨a,c,gr,hv,hcl,hc⟩:=hs
  refine ⟨a,c,gr,hv,hcl,fun k x hx=> ?_⟩
  obtain ⟨a',ha,hb,hcell,ht⟩:=hc k x hx
  refine ⟨a',ha,AA.below_mono hb hB.nx,?_⟩
  cases a' with
  | base b o=>exact ⟨hcell,ht⟩
  | new q o=>
    obtain ⟨cs,hq⟩:=ht
    have hno:q ∉ R.ids:=fun hin=>hm.notText hin hq
    have hsame:=hB.off q hb hno
    refine ⟨?_,cs,hsame.trans hq⟩
    simp only [AA.add,aCell] at hcell ⊢
    rw [hsame]; exact hcell
set_option maxRecDepth 100000 in
set_option maxHeartbeats 8000000 in
theorem rename_ret (W:World) (h:AH) (R:MR) (M:MS) (hm:MIs h R M) (ok:MOk M) (kd a n:Int) (p t dt:List UInt8) (hpl:p.length<8796093022207) (htl:t.length<8796093022207) (v v2:AV) (l l2:List (List UInt8)) (hs:StrS W h v l) (hl:l.length<8796093022207) (hq:StrS W h v2 l2) (hl2:l2.length<8796093022207)
    (hb:∀nd∈M.nodes,nd.slots.length + 1<1099511627776∧nd.size + 32<1099511627776):
    RetM (CC W) 44 [.ptr (some (.new R.km 0)),opV kd a n p t dt,v,v2] h R (resE (renameR M p t l l2).1) (renameR M p t l l2).2:=by
  refine jj9 (cc_ok W) (fn44 W) (by simp only [Tryz.f44]; rfl) rfl rfl ?_
  have hsd:=Side.start hm (.cells [.int .i64 kd,.int .i64 a,.int .i64 n,.str p,.str t,.str dt] 35) (.cells res0 39)
  have hbx:=box_op (h:=h) (l:=[.int .i64 kd,.int .i64 a,.int .i64 n,.str p,.str t,.str dt])
  have hal:=alloc_res (W:=W) (h:=h.push (.cells [.int .i64 kd,.int .i64 a,.int .i64 n,.str p,.str t,.str dt] 35))
  have hgb:((h.push (.cells [.int .i64 kd,.int .i64 a,.int .i64 n,.str p,.str t,.str dt] 35)).push (.cells res0 39)).get h.next=some (.cells [.int .i64 kd,.int .i64 a,.int .i64 n,.str p,.str t,.str dt] 35):=by simp
  have hg0:((h.push (.cells [.int .i64 kd,.int .i64 a,.int .i64 n,.str p,.str t,.str dt] 35)).push (.cells res0 39)).get (h.push (.cells [.int .i64 kd,.int .i64 a,.int .i64 n,.str p,.str t,.str dt] 35)).next=some (.cells res0 39):=by simp
  generalize (h.push (.cells [.int .i64 kd,.int .i64 a,.int .i64 n,.str p,.str t,.str dt] 35)).push (.cells res0 39)=h2 at hsd hal hgb hg0
  generalize h.push (.cells [.int .i64 kd,.int .i64 a,.int .i64 n,.str p,.str t,.str dt] 35)=h1 at hsd hbx hal hgb hg0
  generalize h1.next=k0 at hsd hal hg0
  generalize h.next=kb at hbx hgb hsd
  have hm2:=hm.keeps hsd.keeps
  have hs2:=hs.keeps hsd.keeps
  have hq2:=hq.keeps hsd.keeps
  have hB2:MStep h2 h2 R R:=MStep.refl (Keeps.refl _)
  obtain ⟨av,cv,gv,rfl⟩:=hs.len
  obtain ⟨av2,cv2,gv2,rfl⟩:=hq.len
  have hlen:∀h,aLen (CC W) h 37 (.sl av l.length cv gv)=some (.int .i64 l.length):=fun h=>by simp [aLen,kind37]
  have hlen2:∀h,aLen (CC W) h 37 (.sl av2 l2.length cv2 gv2)=some (.int .i64 l2.length):=fun h=>by simp [aLen,kind37]
  by_cases hl0:l=[]
  · have hr:renameR M p t l l2=(309,M):=by simp only [renameR,if_pos hl0]
    rw [hr]
    have hz:(l.length:Int)=0:=by simp [hl0]
    simp (maxSteps:=2000000) [push_cast,opV,hbx,hal,hlen,hz]
    refine jf9 (by simp [fn48]) (failed_ret W h2 _) fun h9 hk9=> ?_
    have hg9:=((hsd.stay (hB2.trans (MStep.refl hk9)) (.inr rfl))).trans hg0
    have hst:=st_res (W:=W) (e1:=309) (d1:=[]) (k1:=0) (l1:=0) (s1:=0) (p:=none) (n:=0) (q:=0) (g:=none) hg9
    have hf:=hsd.fin (hm2.keeps hk9) (hB2.trans (MStep.refl hk9)) (.cells [.int .i64 309,.str [],.int .i64 0,.int .i64 0,.int .i64 0,.sl none 0 0 none] 39)
    simp [push_cast,resE,res6,hst,ld_resS]
    exact ⟨_,hf⟩
  · have hpos:0<l.length:=List.length_pos_iff.2 hl0
    have hne:¬(l.length:Int)=0:=by omega
    simp (maxSteps:=2000000) [push_cast,opV,hbx,hal,hlen,hl0]
    refine jf9 (by simp [fn78]) (find_ret W h2 R M hm2 ok _ l hs2 hl) fun h3 hk3=> ?_
    have hm3:=hm2.keeps hk3
    have hs3:=hs2.keeps hk3
    have hq3:=hq2.keeps hk3
    have hB3:MStep h2 h3 R R:=MStep.refl hk3
    have hgb3:=((hsd.stay hB3 (.inl rfl))).trans hgb
    obtain ⟨b0,b1⟩:=findR_lt ok l 0 (by omega) (by have:=ok.some; omega)
    obtain ⟨i,hi⟩:=Int.eq_ofNat_of_zero_le b0
    have hin:i<M.nodes.length:=by omega
    obtain ⟨r,nd,hr,hnd,hn3⟩:=hm3.node hin
    obtain ⟨mv,sv,hc3,_,_⟩:=_root_.id hn3
    by_cases he:(findR M l 0).2=0
    · have hrd : renameR M p t l l2 = if (belowR t p).1 = true ∧ nd.kind = 2 then ((309 : Int), M)
          else if (parentR M l2).2=0 then
            match M.nodes[(findR M l.dropLast 0).1.toNat]? with
            | none=>((0:Int),M)
            | some ndd=>
              if (putR (takeR M (findR M l.dropLast 0).1.toNat (placeR ndd.slots (l.getLast?.getD [])).toNat) (parentR M l2).1.toNat (l2.getLast?.getD []) i).1=true then
                ((0:Int),(putR (takeR M (findR M l.dropLast 0).1.toNat (placeR ndd.slots (l.getLast?.getD [])).toNat) (parentR M l2).1.toNat (l2.getLast?.getD []) i).2)
              else ((306:Int),M)
          else ((parentR M l2).2,M):=by
        simp only [renameR,if_neg hl0,if_pos he,hi,Int.toNat_natCast,hnd]
      rw [he,hi]
      simp [push_cast,fa35_3,fa35_4,ld9,ji9 hgb3]
      refine callK_RetX (by simp [fn81]) (below_ret W t p htl hpl) fun h4 hk4=> ?_
      have hm4:=hm3.keeps hk4
      have hs4:=hs3.keeps hk4
      have hq4:=hq3.keeps hk4
      have hB4:MStep h2 h4 R R:=hB3.trans (MStep.refl hk4)
      have hc4:=(hk4.2 r.k (hm3.low r.k (mem_ids hr (by simp [NR.ids])))).trans hc3
      by_cases hbl:(belowR t p).1=true∧nd.kind=2
      · rw [if_pos hbl] at hrd
        rw [hrd]
        simp [push_cast,hbl.1,hbl.2,fa88_0,ld85,ji9 hm4.mod,jd9,idx_nd hin,ld89,cell_nd hm4 hr,fa93_0,ld3,ji9 hc4]
        refine jf9 (by simp [fn48]) (failed_ret W h4 _) fun h9 hk9=> ?_
        have hg9:=((hsd.stay (hB4.trans (MStep.refl hk9)) (.inr rfl))).trans hg0
        have hst:=st_res (W:=W) (e1:=309) (d1:=[]) (k1:=0) (l1:=0) (s1:=0) (p:=none) (n:=0) (q:=0) (g:=none) hg9
        have hf:=hsd.fin (hm4.keeps hk9) (hB4.trans (MStep.refl hk9)) (.cells [.int .i64 309,.str [],.int .i64 0,.int .i64 0,.int .i64 0,.sl none 0 0 none] 39)
        simp [push_cast,resE,res6,hst,ld_resS]
        exact ⟨_,hf⟩
      · rw [if_neg hbl] at hrd
        obtain ⟨bb,hbb⟩:∃bb,(belowR t p).1=bb:=⟨_,rfl⟩
        rw [hbb]
        have hcond:bb=true→nd.kind≠2:=fun h1 h2=>hbl ⟨hbb.trans h1,h2⟩
        cases bb with
        | true=>
          have hk2:=hcond rfl
          simp [push_cast,hk2,fa88_0,ld85,ji9 hm4.mod,jd9,idx_nd hin,ld89,cell_nd hm4 hr,fa93_0,ld3,ji9 hc4]
          refine jf9 (by simp [fn68]) (parent_ret W h4 R M hm4 ok _ l2 hq4 hl2) fun h5 hk5=> ?_
          have hm5:=hm4.keeps hk5
          have hs5:=hs4.keeps hk5
          have hq5:=hq4.keeps hk5
          have hB5:MStep h2 h5 R R:=hB4.trans (MStep.refl hk5)
          by_cases hp:(parentR M l2).2=0
          · rw [if_pos hp] at hrd
            obtain ⟨hl20,e,nde,hpe,hnde,hkde,hple,_⟩:=parentR_ok ok hp
            obtain ⟨d,ndd,j,x,hd,hndd,hkdd,hj,hxj,hxi,hxn⟩:=findR_last ok hl0 (Prod.ext hi he:findR M l 0=((i:Int),0))
            have hen:e<M.nodes.length:=(List.getElem?_eq_some_iff.1 hnde).1
            have hdn:d<M.nodes.length:=(List.getElem?_eq_some_iff.1 hndd).1
            have hjl:j<ndd.slots.length:=(List.getElem?_eq_some_iff.1 hxj).1
            obtain ⟨re,nde',hre,hnde',_⟩:=hm5.node hen
            rw [hnde] at hnde'; cases hnde'
            obtain ⟨rd,ndd',hrd2,hndd',_⟩:=hm5.node hdn
            rw [hndd] at hndd'; cases hndd'
            simp only [hd,hpe,Int.toNat_natCast,hndd,hj] at hrd
            have hpv:parentV R M l2= .tup [.ptr (some (.new re.k 0)),.int .i64 0]:=by
              simp [parentV,hp,hpe,MR.at,hre]
            rw [hpv]
            have hpos2:0<l2.length:=List.length_pos_iff.2 hl20
            have wi:IntKind.i64.wrap ((l.length:Int) - 1)=((l.length - 1:Nat):Int):=by rw [wrap64 (by omega) (by omega)]; omega
            have wi2:IntKind.i64.wrap ((l2.length:Int) - 1)=((l2.length - 1:Nat):Int):=by rw [wrap64 (by omega) (by omega)]; omega
            have hlast:l[l.length - 1]? =some (l.getLast?.getD []):=by
              rw [←List.getLast?_eq_getElem?,List.getLast?_eq_some_getLast hl0]; rfl
            have hlast2:l2[l2.length - 1]? =some (l2.getLast?.getD []):=by
              rw [←List.getLast?_eq_getElem?,List.getLast?_eq_some_getLast hl20]; rfl
            obtain ⟨v1,hv1,hs1⟩:=hs5.slice (k:=l.length - 1) (by omega)
            rw [←List.dropLast_eq_take] at hs1
            simp [push_cast,hlen,wi,hv1]
            refine jf9 (by simp [fn78]) (find_ret W h5 R M hm5 ok v1 l.dropLast hs1 (by simp; omega)) fun h6 hk6=> ?_
            have hm6:=hm5.keeps hk6
            have hs6:=hs5.keeps hk6
            have hq6:=hq5.keeps hk6
            have hB6:MStep h2 h6 R R:=hB5.trans (MStep.refl hk6)
            obtain ⟨a',hix,hld⟩:=hs6.at hlast
            have hnd6:=hm6.each d rd ndd hrd2 hndd
            have hlow6:∀k∈rd.ids,k<h6.next:=fun k hk=>hm6.low k (mem_ids hrd2 hk)
            rw [hd]
            simp [push_cast]
            refine draw1 (cc_ok W) [0,1,2,3,4,5,6,7,8,9,10,11,12,13,14] (by kernel_rfl) (by kernel_rfl) (by kernel_rfl) rfl ?_
            simp [push_cast,fa88_0,ld85,ji9 hm6.mod,jd9,idx_nd hdn,ld89,cell_nd hm6 hrd2,hlen,wi,hix,hld]
            refine jf9 (by simp [fn82]) (place_ret W h6 rd ndd hnd6 hlow6 _ (ok.short ndd (List.mem_of_getElem? hndd))) fun h7 hk7=> ?_
            have hm7:=hm6.keeps hk7
            have hs7:=hs6.keeps hk7
            have hq7:=hq6.keeps hk7
            have hB7:MStep h2 h7 R R:=hB6.trans (MStep.refl hk7)
            rw [hj]
            simp [push_cast]
            refine je9 (by simp [fn80]) (take_ret W h7 R M hm7 ok _ l hs7 hl hl0 d rd ndd (by rw [hd]) hrd2 hndd j hj hjl) fun w h8 ⟨R8,hw,hm8,hB8,hP8⟩=> ?_
            subst hw
            have hB8':=hB7.trans hB8
            have ok8:=takeR_ok (d:=d) (j:=j) ok
            have htk:takeR M d j=M.set d {ndd with slots:=ndd.slots.set j ⟨[],0⟩}:=by simp only [takeR,hndd]
            have hen8:e<(takeR M d j).nodes.length:=by rw [takeR_len]; exact hen
            have hdn8:d<(takeR M d j).nodes.length:=by rw [takeR_len]; exact hdn
            obtain ⟨re8,nde8,hre8,hnde8,_⟩:=hm8.node hen8
            have hrek:re8.k=re.k:=by
              have:=hP8 (e:Int)
              simp [MR.at,hre8,hre] at this
              exact this
            have hbn:nde8.slots.length + 1<1099511627776∧nde8.size + 32<1099511627776:=by
              have hmm:=List.mem_of_getElem? hnde8
              rw [htk] at hmm
              simp only [MS.set] at hmm
              rcases List.mem_or_eq_of_mem_set hmm with h1 | h1
              · exact hb nde8 h1
              · rw [h1]; have:=hb ndd (List.mem_of_getElem? hndd); simpa using this
            have hkm8:R8.km=R.km:=hB8.hds.1
            have hst7:∀k,k<h7.next→k ∉ R.ids→h8.get k=h7.get k:=hB8.off
            have hq8:StrS W h8 (.sl av2 l2.length cv2 gv2) l2:=hqst hm7 hq7 hB8
            obtain ⟨a2,hix2,hld2⟩:=hq8.at hlast2
            simp [push_cast,hlen2,wi2,hix2,hld2]
            have hput:=put_ret W h8 R8 (takeR M d j) hm8 ok8 e re8 nde8 hre8 hnde8 (l2.getLast?.getD []) i ⟨by omega,by rw [takeR_len]; omega⟩ hbn.1 hbn.2
            rw [hrek,hkm8] at hput
            refine je9 (by simp [fn71]) hput fun w h9 ⟨R9,hw,hm9,hB9,hP9⟩=> ?_
            subst hw
            have hB9':=hB8'.trans hB9
            cases hpr:(putR (takeR M d j) e (l2.getLast?.getD []) i).1 with
            | true=>
              rw [if_pos hpr] at hrd
              rw [hrd]
              have hg09:=((hsd.stay hB9' (.inr rfl))).trans hg0
              have hst:=st_res (W:=W) (e1:=0) (d1:=[]) (k1:=0) (l1:=0) (s1:=0) (p:=none) (n:=0) (q:=0) (g:=none) hg09
              have hf:=hsd.fin hm9 hB9' (.cells [.int .i64 0,.str [],.int .i64 0,.int .i64 0,.int .i64 0,.sl none 0 0 none] 39)
              simp [push_cast,aUn_not',build_res0,res0,resE,res6,hst,ld_resS]
              exact ⟨_,hf⟩
            | false=>
              rw [if_neg (by rw [hpr]; simp)] at hrd
              rw [hrd]
              rw [putR_false hpr] at hm9
              have hq9:StrS W h9 (.sl av l.length cv gv) l:=hqst hm8 (hqst hm7 hs7 hB8) hB9
              obtain ⟨a3,hix3,hld3⟩:=hq9.at hlast
              obtain ⟨rd9,ndd9,hrd9,hndd9,hnn9⟩:=hm9.node hdn8
              have hndd9':ndd9={ndd with slots:=ndd.slots.set j ⟨[],0⟩}:=by
                have h1:(takeR M d j).nodes[d]? =some {ndd with slots:=ndd.slots.set j ⟨[],0⟩}:=by rw [htk]; simp [MS.set,hdn]
                exact Option.some.inj (hndd9.symm.trans h1)
              subst hndd9'
              have hrdk:rd9.k=rd.k:=by
                have h1:=hP9 (d:Int)
                have h2:=hP8 (d:Int)
                simp [MR.at,hrd9] at h1
                simp [MR.at,hrd2] at h2
                rw [h2] at h1
                simpa using h1
              obtain ⟨mv9,sv9,hc9,hmp9,hsl9⟩:=_root_.id hnn9
              have hjl9:j<(ndd.slots.set j (⟨[],0⟩:Slt)).length:=by simpa using hjl
              have hxj9:(ndd.slots.set j (⟨[],0⟩:Slt))[j]? =some ⟨[],0⟩:=by simp [hjl]
              obtain ⟨ks,hrs,cap,sp,rfl,hg9s,hcap⟩:=SlotsIs.at hsl9 hxj9
              have hst9:=st_slt (W:=W) (x:=⟨l.getLast?.getD [],i⟩) hg9s hjl9
              simp only at hst9
              have hkm9:R9.km=R.km:=hB9.hds.1.trans hkm8
              have hmod9:=hm9.mod
              rw [hkm9] at hmod9
              have hback:(ndd.slots.set j (⟨[],0⟩:Slt)).set j ⟨l.getLast?.getD [],i⟩=ndd.slots:=by
                rw [List.set_set]
                have:(⟨l.getLast?.getD [],i⟩:Slt)=x:=by rw [←hxn, ←hxi]
                rw [this]
                obtain ⟨h1,h2⟩:=List.getElem?_eq_some_iff.1 hxj
                rw [←h2]; exact List.set_getElem_self _
              have hks:ks∈rd9.ids:=by simp [NR.ids,hrs]
              have hown9:=hm9.own d rd9 hrd9
              have hne:rd9.k≠ks:=by
                intro e; simp [NR.ids,hrs,e] at hown9
              have hnm:rd9.m≠some ks:=fun e=>by simp [NR.ids,hrs,e] at hown9
              have hlow9:∀k∈rd9.ids,k<h9.next:=fun k hk=>hm9.low k (mem_ids hrd9 hk)
              obtain ⟨hA,hB,hP⟩:=hm9.setAt (h':=h9.set ks (.cells (sltCells ((ndd.slots.set j (⟨[],0⟩:Slt)).set j ⟨l.getLast?.getD [],i⟩) ++ sp) 159)) (r':=rd9) (nd':=ndd) hrd9 rfl
                (fun k hk hno=>by have:k≠ks:=fun e=>hno (e ▸ hks); simp [this])
                ⟨mv9,_,by simp [hne]; exact hc9,hmp9.same fun k hk=>by have:k≠ks:=fun e=>hnm (e ▸ hk); simp [this],by
                  rw [hrs,hback]
                  refine ⟨cap,sp,by simp,by simp,?_⟩
                  have h1:=sltCells_length (ndd.slots.set j (⟨[],0⟩:Slt))
                  have h2:=sltCells_length ndd.slots
                  simp only [List.length_append,h1,h2,List.length_set] at hcap ⊢; exact hcap⟩
                (fun k hk=>⟨.inl hk,by simp; exact hlow9 k hk⟩) hown9 (by simp)
              rw [htk,MS.set_back hndd] at hA
              have hB10:=hB9'.trans hB
              have hcn9:=cell_nd (W:=W) hm9 hrd9
              rw [hrdk] at hcn9 hc9
              have hkn9:R9.kn=R.kn:=hB9.hds.2.1.trans hB8.hds.2.1
              rw [hkn9] at hcn9 hmod9
              rw [takeR_len] at hmod9
              simp [push_cast,aUn_not']
              refine draw1 (cc_ok W) [0,1,2,3,4,5,6,7,8,9,10,11,12,13,14,15,16,17,18,19,20] (by kernel_rfl) (by kernel_rfl) (by kernel_rfl) rfl ?_
              simp [push_cast,fa88_0,ld85,ji9 hmod9,jd9,idx_nd hdn,ld89,hcn9,fa93_4,ld91,ji9 hc9,hlen,wi,hix3,hld3,build_slt,idx_slt hjl,idx_slt hjl9,hst9]
              rw [List.set_set] at hA hB10
              generalize h9.set ks (.cells (sltCells (ndd.slots.set j ⟨l.getLast?.getD [],i⟩) ++ sp) 159)=h10 at hA hB10
              refine jf9 (by simp [fn48]) (failed_ret W h10 _) fun h9 hk9=> ?_
              have hg9:=((hsd.stay (hB10.trans (MStep.refl hk9)) (.inr rfl))).trans hg0
              have hst:=st_res (W:=W) (e1:=306) (d1:=[]) (k1:=0) (l1:=0) (s1:=0) (p:=none) (n:=0) (q:=0) (g:=none) hg9
              have hf:=hsd.fin (hA.keeps hk9) (hB10.trans (MStep.refl hk9)) (.cells [.int .i64 306,.str [],.int .i64 0,.int .i64 0,.int .i64 0,.sl none 0 0 none] 39)
              simp [push_cast,resE,res6,hst,ld_resS]
              exact ⟨_,hf⟩
          · rw [if_neg hp] at hrd
            have hpv:parentV R M l2= .tup [.ptr none,.int .i64 (parentR M l2).2]:=by simp only [parentV,if_neg hp]
            rw [hpv,hrd]
            simp [push_cast,hp]
            refine jf9 (by simp [fn48]) (failed_ret W h5 _) fun h9 hk9=> ?_
            have hg9:=((hsd.stay (hB5.trans (MStep.refl hk9)) (.inr rfl))).trans hg0
            have hst:=st_res (W:=W) (e1:=(parentR M l2).2) (d1:=[]) (k1:=0) (l1:=0) (s1:=0) (p:=none) (n:=0) (q:=0) (g:=none) hg9
            have hf:=hsd.fin (hm5.keeps hk9) (hB5.trans (MStep.refl hk9)) (.cells [.int .i64 (parentR M l2).2,.str [],.int .i64 0,.int .i64 0,.int .i64 0,.sl none 0 0 none] 39)
            simp [push_cast,resE,res6,hst,ld_resS]
            exact ⟨_,hf⟩
        | false=>
          simp [push_cast]
          refine jf9 (by simp [fn68]) (parent_ret W h4 R M hm4 ok _ l2 hq4 hl2) fun h5 hk5=> ?_
          have hm5:=hm4.keeps hk5
          have hs5:=hs4.keeps hk5
          have hq5:=hq4.keeps hk5
          have hB5:MStep h2 h5 R R:=hB4.trans (MStep.refl hk5)
          by_cases hp:(parentR M l2).2=0
          · rw [if_pos hp] at hrd
            obtain ⟨hl20,e,nde,hpe,hnde,hkde,hple,_⟩:=parentR_ok ok hp
            obtain ⟨d,ndd,j,x,hd,hndd,hkdd,hj,hxj,hxi,hxn⟩:=findR_last ok hl0 (Prod.ext hi he:findR M l 0=((i:Int),0))
            have hen:e<M.nodes.length:=(List.getElem?_eq_some_iff.1 hnde).1
            have hdn:d<M.nodes.length:=(List.getElem?_eq_some_iff.1 hndd).1
            have hjl:j<ndd.slots.length:=(List.getElem?_eq_some_iff.1 hxj).1
            obtain ⟨re,nde',hre,hnde',_⟩:=hm5.node hen
            rw [hnde] at hnde'; cases hnde'
            obtain ⟨rd,ndd',hrd2,hndd',_⟩:=hm5.node hdn
            rw [hndd] at hndd'; cases hndd'
            simp only [hd,hpe,Int.toNat_natCast,hndd,hj] at hrd
            have hpv:parentV R M l2= .tup [.ptr (some (.new re.k 0)),.int .i64 0]:=by
              simp [parentV,hp,hpe,MR.at,hre]
            rw [hpv]
            have hpos2:0<l2.length:=List.length_pos_iff.2 hl20
            have wi:IntKind.i64.wrap ((l.length:Int) - 1)=((l.length - 1:Nat):Int):=by rw [wrap64 (by omega) (by omega)]; omega
            have wi2:IntKind.i64.wrap ((l2.length:Int) - 1)=((l2.length - 1:Nat):Int):=by rw [wrap64 (by omega) (by omega)]; omega
            have hlast:l[l.length - 1]? =some (l.getLast?.getD []):=by
              rw [←List.getLast?_eq_getElem?,List.getLast?_eq_some_getLast hl0]; rfl
            have hlast2:l2[l2.length - 1]? =some (l2.getLast?.getD []):=by
              rw [←List.getLast?_eq_getElem?,List.getLast?_eq_some_getLast hl20]; rfl
            obtain ⟨v1,hv1,hs1⟩:=hs5.slice (k:=l.length - 1) (by omega)
            rw [←List.dropLast_eq_take] at hs1
            simp [push_cast,hlen,wi,hv1]
            refine jf9 (by simp [fn78]) (find_ret W h5 R M hm5 ok v1 l.dropLast hs1 (by simp; omega)) fun h6 hk6=> ?_
            have hm6:=hm5.keeps hk6
            have hs6:=hs5.keeps hk6
            have hq6:=hq5.keeps hk6
            have hB6:MStep h2 h6 R R:=hB5.trans (MStep.refl hk6)
            obtain ⟨a',hix,hld⟩:=hs6.at hlast
            have hnd6:=hm6.each d rd ndd hrd2 hndd
            have hlow6:∀k∈rd.ids,k<h6.next:=fun k hk=>hm6.low k (mem_ids hrd2 hk)
            rw [hd]
            simp [push_cast]
            refine draw1 (cc_ok W) [0,1,2,3,4,5,6,7,8,9,10,11,12,13,14] (by kernel_rfl) (by kernel_rfl) (by kernel_rfl) rfl ?_
            simp [push_cast,fa88_0,ld85,ji9 hm6.mod,jd9,idx_nd hdn,ld89,cell_nd hm6 hrd2,hlen,wi,hix,hld]
            refine jf9 (by simp [fn82]) (place_ret W h6 rd ndd hnd6 hlow6 _ (ok.short ndd (List.mem_of_getElem? hndd))) fun h7 hk7=> ?_
            have hm7:=hm6.keeps hk7
            have hs7:=hs6.keeps hk7
            have hq7:=hq6.keeps hk7
            have hB7:MStep h2 h7 R R:=hB6.trans (MStep.refl hk7)
            rw [hj]
            simp [push_cast]
            refine je9 (by simp [fn80]) (take_ret W h7 R M hm7 ok _ l hs7 hl hl0 d rd ndd (by rw [hd]) hrd2 hndd j hj hjl) fun w h8 ⟨R8,hw,hm8,hB8,hP8⟩=> ?_
            subst hw
            have hB8':=hB7.trans hB8
            have ok8:=takeR_ok (d:=d) (j:=j) ok
            have htk:takeR M d j=M.set d {ndd with slots:=ndd.slots.set j ⟨[],0⟩}:=by simp only [takeR,hndd]
            have hen8:e<(takeR M d j).nodes.length:=by rw [takeR_len]; exact hen
            have hdn8:d<(takeR M d j).nodes.length:=by rw [takeR_len]; exact hdn
            obtain ⟨re8,nde8,hre8,hnde8,_⟩:=hm8.node hen8
            have hrek:re8.k=re.k:=by
              have:=hP8 (e:Int)
              simp [MR.at,hre8,hre] at this
              exact this
            have hbn:nde8.slots.length + 1<1099511627776∧nde8.size + 32<1099511627776:=by
              have hmm:=List.mem_of_getElem? hnde8
              rw [htk] at hmm
              simp only [MS.set] at hmm
              rcases List.mem_or_eq_of_mem_set hmm with h1 | h1
              · exact hb nde8 h1
              · rw [h1]; have:=hb ndd (List.mem_of_getElem? hndd); simpa using this
            have hkm8:R8.km=R.km:=hB8.hds.1
            have hst7:∀k,k<h7.next→k ∉ R.ids→h8.get k=h7.get k:=hB8.off
            have hq8:StrS W h8 (.sl av2 l2.length cv2 gv2) l2:=hqst hm7 hq7 hB8
            obtain ⟨a2,hix2,hld2⟩:=hq8.at hlast2
            simp [push_cast,hlen2,wi2,hix2,hld2]
            have hput:=put_ret W h8 R8 (takeR M d j) hm8 ok8 e re8 nde8 hre8 hnde8 (l2.getLast?.getD []) i ⟨by omega,by rw [takeR_len]; omega⟩ hbn.1 hbn.2
            rw [hrek,hkm8] at hput
            refine je9 (by simp [fn71]) hput fun w h9 ⟨R9,hw,hm9,hB9,hP9⟩=> ?_
            subst hw
            have hB9':=hB8'.trans hB9
            cases hpr:(putR (takeR M d j) e (l2.getLast?.getD []) i).1 with
            | true=>
              rw [if_pos hpr] at hrd
              rw [hrd]
              have hg09:=((hsd.stay hB9' (.inr rfl))).trans hg0
              have hst:=st_res (W:=W) (e1:=0) (d1:=[]) (k1:=0) (l1:=0) (s1:=0) (p:=none) (n:=0) (q:=0) (g:=none) hg09
              have hf:=hsd.fin hm9 hB9' (.cells [.int .i64 0,.str [],.int .i64 0,.int .i64 0,.int .i64 0,.sl none 0 0 none] 39)
              simp [push_cast,aUn_not',build_res0,res0,resE,res6,hst,ld_resS]
              exact ⟨_,hf⟩
            | false=>
              rw [if_neg (by rw [hpr]; simp)] at hrd
              rw [hrd]
              rw [putR_false hpr] at hm9
              have hq9:StrS W h9 (.sl av l.length cv gv) l:=hqst hm8 (hqst hm7 hs7 hB8) hB9
              obtain ⟨a3,hix3,hld3⟩:=hq9.at hlast
              obtain ⟨rd9,ndd9,hrd9,hndd9,hnn9⟩:=hm9.node hdn8
              have hndd9':ndd9={ndd with slots:=ndd.slots.set j ⟨[],0⟩}:=by
                have h1:(takeR M d j).nodes[d]? =some {ndd with slots:=ndd.slots.set j ⟨[],0⟩}:=by rw [htk]; simp [MS.set,hdn]
                exact Option.some.inj (hndd9.symm.trans h1)
              subst hndd9'
              have hrdk:rd9.k=rd.k:=by
                have h1:=hP9 (d:Int)
                have h2:=hP8 (d:Int)
                simp [MR.at,hrd9] at h1
                simp [MR.at,hrd2] at h2
                rw [h2] at h1
                simpa using h1
              obtain ⟨mv9,sv9,hc9,hmp9,hsl9⟩:=_root_.id hnn9
              have hjl9:j<(ndd.slots.set j (⟨[],0⟩:Slt)).length:=by simpa using hjl
              have hxj9:(ndd.slots.set j (⟨[],0⟩:Slt))[j]? =some ⟨[],0⟩:=by simp [hjl]
              obtain ⟨ks,hrs,cap,sp,rfl,hg9s,hcap⟩:=SlotsIs.at hsl9 hxj9
              have hst9:=st_slt (W:=W) (x:=⟨l.getLast?.getD [],i⟩) hg9s hjl9
              simp only at hst9
              have hkm9:R9.km=R.km:=hB9.hds.1.trans hkm8
              have hmod9:=hm9.mod
              rw [hkm9] at hmod9
              have hback:(ndd.slots.set j (⟨[],0⟩:Slt)).set j ⟨l.getLast?.getD [],i⟩=ndd.slots:=by
                rw [List.set_set]
                have:(⟨l.getLast?.getD [],i⟩:Slt)=x:=by rw [←hxn, ←hxi]
                rw [this]
                obtain ⟨h1,h2⟩:=List.getElem?_eq_some_iff.1 hxj
                rw [←h2]; exact List.set_getElem_self _
              have hks:ks∈rd9.ids:=by simp [NR.ids,hrs]
              have hown9:=hm9.own d rd9 hrd9
              have hne:rd9.k≠ks:=by
                intro e; simp [NR.ids,hrs,e] at hown9
              have hnm:rd9.m≠some ks:=fun e=>by simp [NR.ids,hrs,e] at hown9
              have hlow9:∀k∈rd9.ids,k<h9.next:=fun k hk=>hm9.low k (mem_ids hrd9 hk)
              obtain ⟨hA,hB,hP⟩:=hm9.setAt (h':=h9.set ks (.cells (sltCells ((ndd.slots.set j (⟨[],0⟩:Slt)).set j ⟨l.getLast?.getD [],i⟩) ++ sp) 159)) (r':=rd9) (nd':=ndd) hrd9 rfl
                (fun k hk hno=>by have:k≠ks:=fun e=>hno (e ▸ hks); simp [this])
                ⟨mv9,_,by simp [hne]; exact hc9,hmp9.same fun k hk=>by have:k≠ks:=fun e=>hnm (e ▸ hk); simp [this],by
                  rw [hrs,hback]
                  refine ⟨cap,sp,by simp,by simp,?_⟩
                  have h1:=sltCells_length (ndd.slots.set j (⟨[],0⟩:Slt))
                  have h2:=sltCells_length ndd.slots
                  simp only [List.length_append,h1,h2,List.length_set] at hcap ⊢; exact hcap⟩
                (fun k hk=>⟨.inl hk,by simp; exact hlow9 k hk⟩) hown9 (by simp)
              rw [htk,MS.set_back hndd] at hA
              have hB10:=hB9'.trans hB
              have hcn9:=cell_nd (W:=W) hm9 hrd9
              rw [hrdk] at hcn9 hc9
              have hkn9:R9.kn=R.kn:=hB9.hds.2.1.trans hB8.hds.2.1
              rw [hkn9] at hcn9 hmod9
              rw [takeR_len] at hmod9
              simp [push_cast,aUn_not']
              refine draw1 (cc_ok W) [0,1,2,3,4,5,6,7,8,9,10,11,12,13,14,15,16,17,18,19,20] (by kernel_rfl) (by kernel_rfl) (by kernel_rfl) rfl ?_
              simp [push_cast,fa88_0,ld85,ji9 hmod9,jd9,idx_nd hdn,ld89,hcn9,fa93_4,ld91,ji9 hc9,hlen,wi,hix3,hld3,build_slt,idx_slt hjl,idx_slt hjl9,hst9]
              rw [List.set_set] at hA hB10
              generalize h9.set ks (.cells (sltCells (ndd.slots.set j ⟨l.getLast?.getD [],i⟩) ++ sp) 159)=h10 at hA hB10
              refine jf9 (by simp [fn48]) (failed_ret W h10 _) fun h9 hk9=> ?_
              have hg9:=((hsd.stay (hB10.trans (MStep.refl hk9)) (.inr rfl))).trans hg0
              have hst:=st_res (W:=W) (e1:=306) (d1:=[]) (k1:=0) (l1:=0) (s1:=0) (p:=none) (n:=0) (q:=0) (g:=none) hg9
              have hf:=hsd.fin (hA.keeps hk9) (hB10.trans (MStep.refl hk9)) (.cells [.int .i64 306,.str [],.int .i64 0,.int .i64 0,.int .i64 0,.sl none 0 0 none] 39)
              simp [push_cast,resE,res6,hst,ld_resS]
              exact ⟨_,hf⟩
          · rw [if_neg hp] at hrd
            have hpv:parentV R M l2= .tup [.ptr none,.int .i64 (parentR M l2).2]:=by simp only [parentV,if_neg hp]
            rw [hpv,hrd]
            simp [push_cast,hp]
            refine jf9 (by simp [fn48]) (failed_ret W h5 _) fun h9 hk9=> ?_
            have hg9:=((hsd.stay (hB5.trans (MStep.refl hk9)) (.inr rfl))).trans hg0
            have hst:=st_res (W:=W) (e1:=(parentR M l2).2) (d1:=[]) (k1:=0) (l1:=0) (s1:=0) (p:=none) (n:=0) (q:=0) (g:=none) hg9
            have hf:=hsd.fin (hm5.keeps hk9) (hB5.trans (MStep.refl hk9)) (.cells [.int .i64 (parentR M l2).2,.str [],.int .i64 0,.int .i64 0,.int .i64 0,.sl none 0 0 none] 39)
            simp [push_cast,resE,res6,hst,ld_resS]
            exact ⟨_,hf⟩
    · have hrd:renameR M p t l l2=((findR M l 0).2,M):=by simp only [renameR,if_neg hl0,if_neg he]
      rw [hrd]
      simp [push_cast,he]
      refine jf9 (by simp [fn48]) (failed_ret W h3 _) fun h9 hk9=> ?_
      have hg9:=((hsd.stay (hB3.trans (MStep.refl hk9)) (.inr rfl))).trans hg0
      have hst:=st_res (W:=W) (e1:=(findR M l 0).2) (d1:=[]) (k1:=0) (l1:=0) (s1:=0) (p:=none) (n:=0) (q:=0) (g:=none) hg9
      have hf:=hsd.fin (hm3.keeps hk9) (hB3.trans (MStep.refl hk9)) (.cells [.int .i64 (findR M l 0).2,.str [],.int .i64 0,.int .i64 0,.int .i64 0,.sl none 0 0 none] 39)
      simp [push_cast,resE,res6,hst,ld_resS]
      exact ⟨_,hf⟩
def inB (x lo hi:Int):Bool:=decide (lo≤x) && decide (x≤hi)
set_option maxHeartbeats 4000000 in
theorem in_ret (W:World) (h:AH) (x lo hi:Int):RetH (CC W) 67 [.int .i64 x,.int .i64 lo,.int .i64 hi] h (.bool (inB x lo hi)):=by
  refine jj9 (cc_ok W) (fn67 W) (by simp only [Tryz.f67]; rfl) rfl rfl ?_
  by_cases h1:lo≤x
  · by_cases h2:x≤hi
    · simp [push_cast,h1,h2,inB]
    · simp [push_cast,h1,h2,inB]
  · simp [push_cast,h1,inB]
def dataR (b j n:Int):Int:=2 + j + (n + 3) / 4
def shapeR (b j n:Int):Option Int:=
  if inB b 16 1024=true∧inB j 8 256=true∧inB n 1 64=true then if b - dataR b j n<4 then none else some (b - dataR b j n) else none
def regV (j d c:Int):AV:= .agg [.int .i64 1,.int .i64 (1 + j),.int .i64 (2 + j),.int .i64 d,.int .i64 c]
def reg0:List AV:=[.int .i64 0,.int .i64 0,.int .i64 0,.int .i64 0,.int .i64 0]
section
variable {W:World} {h:AH} {k:Nat} {a b c d e:AV} {t:TypeId} {n:Int}
theorem box_shape {l:List AV}:aBox h 23 (.agg l)=some (.ptr (some (.new h.next 0)),h.push (.cells l 23)):=rfl
theorem alloc_reg:aAlloc (CC W) h 82=some (.ptr (some (.new h.next 0)),h.push (.cells reg0 82)):=rfl
theorem build_reg0:aBuild (CC W) 82 []=some (.agg reg0):=rfl
theorem build_reg {x y z:Int}:aBuild (CC W) 82 [(0,.int .i64 x),(1,.int .i64 y),(2,.int .i64 z)]=some (.agg [.int .i64 x,.int .i64 y,.int .i64 z,.int .i64 0,.int .i64 0]):=rfl
theorem st_reg {x y z u v:Int} (hg:h.get k=some (.cells [a,b,c,d,e] t)):aStoreOp (CC W) h 82 (.ptr (some (.new k 0))) (.agg [.int .i64 x,.int .i64 y,.int .i64 z,.int .i64 u,.int .i64 v])=some (h.set k (.cells [.int .i64 x,.int .i64 y,.int .i64 z,.int .i64 u,.int .i64 v] t)):=by
  simp only [aStoreOp,aCellsOf,size82,aStore,hg]
  rfl
theorem st_reg3 (hg:h.get k=some (.cells [a,b,c,d,e] t)):aStoreOp (CC W) h 3 (.ptr (some (.new k 3))) (.int .i64 n)=some (h.set k (.cells [a,b,c,.int .i64 n,e] t)):=by
  simp only [aStoreOp,aCellsOf,size3,aStore,hg]
  rfl
theorem st_reg4 (hg:h.get k=some (.cells [a,b,c,d,e] t)):aStoreOp (CC W) h 3 (.ptr (some (.new k 4))) (.int .i64 n)=some (h.set k (.cells [a,b,c,d,.int .i64 n] t)):=by
  simp only [aStoreOp,aCellsOf,size3,aStore,hg]
  rfl
theorem ld_reg {h:AH} {k:Nat} {a b c d e:AV} {t:TypeId} (hg:h.get k=some (.cells [a,b,c,d,e] t)):aLoad (CC W) h 82 (.new k 0)=some (.agg [a,b,c,d,e]):=by
  unfold aLoad
  rw [ty82]
  show (aCells (CC W) h (.new k 0) 5).map AV.agg=_
  simp [aCells,hg]
theorem ld_regS:aLoad (CC W) (h.set k (.cells [a,b,c,d,e] t)) 82 (.new k 0)=some (.agg [a,b,c,d,e]):=ld_reg (t:=t) (by simp)
theorem ld_shape (hg:h.get k=some (.cells [a,b,c] t)):aLoad (CC W) h 23 (.new k 0)=some (.agg [a,b,c]):=by
  unfold aLoad
  rw [ty23]
  show (aCells (CC W) h (.new k 0) 3).map AV.agg=_
  simp [aCells,hg]
end
def ofV' (b j n:Int):AV:=match shapeR b j n with
  | some c=> .tup [regV j (dataR b j n) c,.int .i64 0]
  | none=> .tup [.agg reg0,.int .i64 60]
set_option maxRecDepth 100000 in
set_option maxHeartbeats 8000000 in
theorem of_ret (W:World) (h:AH) (b j n:Int):RetK (CC W) 34 [.agg [.int .i64 b,.int .i64 j,.int .i64 n]] h (ofV' b j n):=by
  refine jj9 (cc_ok W) (fn34 W) (by simp only [Tryz.f34]; rfl) rfl rfl ?_
  have hbx:=box_shape (h:=h) (l:=[.int .i64 b,.int .i64 j,.int .i64 n])
  have hal:=alloc_reg (W:=W) (h:=h.push (.cells [.int .i64 b,.int .i64 j,.int .i64 n] 23))
  have hk2:Keeps h ((h.push (.cells [.int .i64 b,.int .i64 j,.int .i64 n] 23)).push (.cells reg0 82)):=(Keeps.push _ _).trans (Keeps.push _ _)
  have hgb:((h.push (.cells [.int .i64 b,.int .i64 j,.int .i64 n] 23)).push (.cells reg0 82)).get h.next=some (.cells [.int .i64 b,.int .i64 j,.int .i64 n] 23):=by simp
  have hg0:((h.push (.cells [.int .i64 b,.int .i64 j,.int .i64 n] 23)).push (.cells reg0 82)).get (h.push (.cells [.int .i64 b,.int .i64 j,.int .i64 n] 23)).next=some (.cells reg0 82):=by simp
  have hq0:h.next≤(h.push (.cells [.int .i64 b,.int .i64 j,.int .i64 n] 23)).next∧(h.push (.cells [.int .i64 b,.int .i64 j,.int .i64 n] 23)).next<((h.push (.cells [.int .i64 b,.int .i64 j,.int .i64 n] 23)).push (.cells reg0 82)).next∧h.next<(h.push (.cells [.int .i64 b,.int .i64 j,.int .i64 n] 23)).next:=by simp
  generalize (h.push (.cells [.int .i64 b,.int .i64 j,.int .i64 n] 23)).push (.cells reg0 82)=h2 at hal hgb hg0 hk2 hq0
  generalize h.push (.cells [.int .i64 b,.int .i64 j,.int .i64 n] 23)=h1 at hbx hal hgb hg0 hq0
  generalize h1.next=k0 at hal hg0 hq0
  have hst0:=st_reg (W:=W) (x:=0) (y:=0) (z:=0) (u:=0) (v:=0) hg0
  have hkz:∀c,Keeps h (h2.set k0 c):=fun c=>hk2.set hq0.1 c
  simp [push_cast,hbx,hal,fa23_0,ld3,ji9 hgb]
  refine jh9 (by simp [fn67]) (in_ret W h2 _ _ _) ?_
  cases c1:inB b 16 1024 with
  | false=>
    have hv:ofV' b j n= .tup [.agg reg0,.int .i64 60]:=by simp [ofV',shapeR,c1]
    rw [hv]
    simp [push_cast,aUn_not',build_reg0,reg0,hst0,ld_regS]
    exact hkz _
  | true=>
    simp [push_cast,aUn_not',fa23_1,ld3,ji9 hgb]
    refine jh9 (by simp [fn67]) (in_ret W h2 _ _ _) ?_
    cases c2:inB j 8 256 with
    | false=>
      have hv:ofV' b j n= .tup [.agg reg0,.int .i64 60]:=by simp [ofV',shapeR,c2]
      rw [hv]
      simp [push_cast,aUn_not',build_reg0,reg0,hst0,ld_regS]
      exact hkz _
    | true=>
      simp [push_cast,aUn_not',fa23_2,ld3,ji9 hgb]
      refine jh9 (by simp [fn67]) (in_ret W h2 _ _ _) ?_
      cases c3:inB n 1 64 with
      | false=>
        have hv:ofV' b j n= .tup [.agg reg0,.int .i64 60]:=by simp [ofV',shapeR,c3]
        rw [hv]
        simp [push_cast,aUn_not',build_reg0,reg0,hst0,ld_regS]
        exact hkz _
      | true=>
        have hb:16≤b∧b≤1024:=by simpa [inB] using c1
        have hj:8≤j∧j≤256:=by simpa [inB] using c2
        have hn:1≤n∧n≤64:=by simpa [inB] using c3
        have w1:IntKind.i64.wrap (1 + j)=1 + j:=wrap64 (by omega) (by omega)
        have w2:IntKind.i64.wrap (2 + j)=2 + j:=wrap64 (by omega) (by omega)
        have w3:IntKind.i64.wrap (n + 3)=n + 3:=wrap64 (by omega) (by omega)
        have w4:IntKind.i64.wrap (Int.tdiv (n + 3) 4)=(n + 3) / 4:=by rw [Int.tdiv_eq_ediv_of_nonneg (by omega),wrap64 (by omega) (by omega)]
        have w5:IntKind.i64.wrap (2 + j + (n + 3) / 4)=dataR b j n:=by rw [wrap64 (by omega) (by omega)]; rfl
        have hdr:dataR b j n=2 + j + (n + 3) / 4:=rfl
        have w6:IntKind.i64.wrap (b - dataR b j n)=b - dataR b j n:=wrap64 (by omega) (by omega)
        have hA:=alloc_reg (W:=W) (h:=h2)
        have hgA:(h2.push (.cells reg0 82)).get h2.next=some (.cells reg0 82):=by simp
        have hkA:Keeps h2 (h2.push (.cells reg0 82)):=Keeps.push _ _
        have hnA:h2.next<(h2.push (.cells reg0 82)).next:=by simp
        generalize h2.push (.cells reg0 82)=h3 at hA hgA hkA hnA
        generalize hkk:h2.next=k4 at hA hgA hnA hq0
        have hk04:k0≠k4:=by omega
        have hs1:=st_reg (W:=W) (x:=1) (y:=1 + j) (z:=2 + j) (u:=0) (v:=0) hgA
        obtain ⟨h4,hh4⟩:∃h4,h3.set k4 (.cells [.int .i64 1,.int .i64 (1 + j),.int .i64 (2 + j),.int .i64 0,.int .i64 0] 82)=h4:=⟨_,rfl⟩
        have hg4:h4.get k4=some (.cells [.int .i64 1,.int .i64 (1 + j),.int .i64 (2 + j),.int .i64 0,.int .i64 0] 82):=by rw [←hh4]; simp
        have ho4:∀k,k≠k4→h4.get k=h3.get k:=fun k hk=>by rw [←hh4]; simp [hk]
        have hn4:h4.next=h3.next:=by rw [←hh4]; rfl
        rw [hh4] at hs1
        have hs3:=st_reg3 (W:=W) (n:=dataR b j n) hg4
        obtain ⟨h5,hh5⟩:∃h5,h4.set k4 (.cells [.int .i64 1,.int .i64 (1 + j),.int .i64 (2 + j),.int .i64 (dataR b j n),.int .i64 0] 82)=h5:=⟨_,rfl⟩
        have hg5:h5.get k4=some (.cells [.int .i64 1,.int .i64 (1 + j),.int .i64 (2 + j),.int .i64 (dataR b j n),.int .i64 0] 82):=by rw [←hh5]; simp
        have ho5:∀k,k≠k4→h5.get k=h3.get k:=fun k hk=>by rw [←hh5]; simp [hk,ho4 k hk]
        have hn5:h5.next=h3.next:=by rw [←hh5]; exact hn4
        rw [hh5] at hs3
        have hs4:=st_reg4 (W:=W) (n:=b - dataR b j n) hg5
        obtain ⟨h6,hh6⟩:∃h6,h5.set k4 (.cells [.int .i64 1,.int .i64 (1 + j),.int .i64 (2 + j),.int .i64 (dataR b j n),.int .i64 (b - dataR b j n)] 82)=h6:=⟨_,rfl⟩
        have hg6:h6.get k4=some (.cells [.int .i64 1,.int .i64 (1 + j),.int .i64 (2 + j),.int .i64 (dataR b j n),.int .i64 (b - dataR b j n)] 82):=by rw [←hh6]; simp
        have ho6:∀k,k≠k4→h6.get k=h3.get k:=fun k hk=>by rw [←hh6]; simp [hk,ho5 k hk]
        have hn6:h6.next=h3.next:=by rw [←hh6]; exact hn5
        rw [hh6] at hs4
        have hbk:h.next≠k4:=by omega
        have hgb3:=(hkA.2 h.next (by omega)).trans hgb
        have hgb4:=(ho4 h.next hbk).trans hgb3
        have hgb5:=(ho5 h.next hbk).trans hgb3
        have hg06:=((ho6 k0 hk04).trans (hkA.2 k0 (by omega))).trans hg0
        have hK:∀c,Keeps h (h6.set k0 c):=fun c=>⟨by simp; have:=hk2.1; have:=hkA.1; omega,fun k hk=>by
          have e1:k≠k0:=by omega
          have e2:k≠k4:=by have:=hk2.1; omega
          simp [e1]
          rw [ho6 k e2,hkA.2 k (by have:=hk2.1; omega)]
          exact hk2.2 k hk⟩
        by_cases hlt:b - dataR b j n<4
        · have hv:ofV' b j n= .tup [.agg reg0,.int .i64 60]:=by simp [ofV',shapeR,c1,c2,c3,hlt]
          have hst6:=st_reg (W:=W) (x:=0) (y:=0) (z:=0) (u:=0) (v:=0) hg06
          rw [hv]
          simp [push_cast,aUn_not',fa23_0,fa23_1,fa23_2,ld3,ji9 hgb,ji9 hgb3,ji9 hgb4,ji9 hgb5,w1,w2,build_reg,hA,hs1,fa82_2,fa82_3,fa82_4,ji9 hg4,ji9 hg5,ji9 hg6,w3,w4,w5,w6,hs3,hs4,hlt,build_reg0,reg0,hst6,ld_regS]
          exact hK _
        · have hv:ofV' b j n= .tup [regV j (dataR b j n) (b - dataR b j n),.int .i64 0]:=by simp [ofV',shapeR,c1,c2,c3,hlt]
          have hst6:=st_reg (W:=W) (x:=1) (y:=1 + j) (z:=2 + j) (u:=dataR b j n) (v:=b - dataR b j n) hg06
          rw [hv]
          simp [push_cast,aUn_not',fa23_0,fa23_1,fa23_2,ld3,ji9 hgb,ji9 hgb3,ji9 hgb4,ji9 hgb5,w1,w2,build_reg,hA,hs1,fa82_2,fa82_3,fa82_4,ji9 hg4,ji9 hg5,ji9 hg6,w3,w4,w5,w6,hs3,hs4,hlt,ld_reg hg6,hst6,ld_regS,regV]
          exact hK _
def rootNd:Nd:=⟨2,1,0,none,[]⟩
def newM (n:Nat) (c:Int):MS:=⟨rootNd::List.replicate (n - 1) noNode,c⟩
theorem overlay_one {cs:List AV} {v:AV} {i:Nat} (hi:i<cs.length):overlay cs [v] i=cs.set i v:=by
  rw [List.set_eq_take_append_cons_drop,if_pos hi]
  simp [overlay]
theorem st_pcell {W:World} {h:AH} {kn i k:Nat} {cs:List AV} {t:TypeId} (hg:h.get kn=some (.cells cs t)) (hi:i<cs.length):
    aStoreOp (CC W) h 89 (.ptr (some (.new kn i))) (.ptr (some (.new k 0)))=some (h.set kn (.cells (cs.set i (.ptr (some (.new k 0)))) t)):=by
  simp only [aStoreOp,aCellsOf,size89,aStore,hg]
  rw [if_pos (by rfl),if_pos ⟨by simp; omega,by rfl⟩,overlay_one hi]
theorem repZ_one {v:AV}:∀n,repZ n [v]=List.replicate n v
  | 0=>rfl
  | n + 1=>by
    have ih:=repZ_one (v:=v) n
    simp only [repZ,List.replicate_succ,List.flatten_cons,List.singleton_append] at ih ⊢
    rw [ih]
theorem mk_ptrs {W:World} {h:AH} {n:Nat} (hn:n≤64):aMakeSlice (CC W) h 85 (.int .i64 (n:Int)) (.int .i64 (n:Int))=some (.sl (some (.new h.next 0)) n n none,h.push (.cells (List.replicate n (.ptr none)) 89)):=by
  have hb:(CC W).bytes 89=8:=_root_.id rfl
  simp only [aMakeSlice,kind85,size89,zero89,hb,Int.toNat_natCast,repZ_one]
  rw [if_pos ⟨by omega,by omega,by omega,by omega,by omega⟩]
theorem build_mod {W:World} {kn n:Nat} {c:Int}:aBuild (CC W) 88 [(0,.sl (some (.new kn 0)) n n none),(1,.int .i64 c)]=some (.agg [.sl (some (.new kn 0)) n n none,.int .i64 c,.sl none 0 0 none]):=rfl
theorem box_mod {h:AH} {l:List AV}:aBox h 88 (.agg l)=some (.ptr (some (.new h.next 0)),h.push (.cells l 88)):=rfl
theorem build_root {W:World}:aBuild (CC W) 93 [(0,.int .i64 2),(1,.int .i64 1)]=some (.agg [.int .i64 2,.int .i64 1,.int .i64 0,.map none,.sl none 0 0 none]):=rfl
theorem st_mod2 {W:World} {h:AH} {k:Nat} {a b c:AV} {t:TypeId} {p:Option AA} {l cap:Nat} {g:Option Nat} (hg:h.get k=some (.cells [a,b,c] t)):aStoreOp (CC W) h 86 (.ptr (some (.new k 2))) (.sl p l cap g)=some (h.set k (.cells [a,b,.sl p l cap g] t)):=by
  simp only [aStoreOp,aCellsOf,size86,aStore,hg]
  rfl
theorem build_row {W:World} {kd:Int} {to:Bool} {f:FuncId} {km:Nat}:aBuild (CC W) 96 [(0,.int .i64 kd),(1,.bool to),(2,.fn (.func f) [.ptr (some (.new km 0))] [])]=some (.agg [.int .i64 kd,.bool to,.fn (.func f) [.ptr (some (.new km 0))] []]):=rfl
def rowV (km i:Nat):AV:= .agg (rowAt km i)
set_option maxRecDepth 100000 in
theorem build_rows {W:World} {h:AH} {km:Nat}:aBuildSlice (CC W) h 86 11 [(0,rowV km 0),(1,rowV km 1),(2,rowV km 2),(3,rowV km 3),(4,rowV km 4),(5,rowV km 5),(6,rowV km 6),(7,rowV km 7),(8,rowV km 8),(9,rowV km 9),(10,rowV km 10)]=
    some (.sl (some (.new h.next 0)) 11 11 none,h.push (.cells (rowCells km) 96)):=by
  simp only [aBuildSlice,kind86,size96,zero96]
  rw [if_pos (by decide)]
  have hf:aFill (fun i=>some (i * 3,3)) (repZ 11 [.int .i64 0,.bool false,.nilfn]) [(0,rowV km 0),(1,rowV km 1),(2,rowV km 2),(3,rowV km 3),(4,rowV km 4),(5,rowV km 5),(6,rowV km 6),(7,rowV km 7),(8,rowV km 8),(9,rowV km 9),(10,rowV km 10)]=some (rowCells km):=by kernel_rfl
  rw [hf]
  rfl
def nr (k:Nat):NR:=⟨k,none,none⟩
def zCells:List AV:=[.int .i64 0,.int .i64 0,.int .i64 0,.map none,.sl none 0 0 none]
def pCells (l:List Nat):List AV:=l.map fun k=> .ptr (some (.new k 0))
structure NewS (h0 h:AH) (km kn N:Nat) (c:Int) (ks:List Nat):Prop where
  keeps:Keeps h0 h
  lows:h0.next≤kn∧kn<km∧km<h.next
  len:ks.length≤N
  ptrs:h.get kn=some (.cells (pCells ks ++ List.replicate (N - ks.length) (.ptr none)) 89)
  mod:h.get km=some (.cells [.sl (some (.new kn 0)) N N none,.int .i64 c,.sl none 0 0 none] 88)
  each:∀k∈ks,km<k∧k<h.next∧h.get k=some (.cells zCells 93)
  nod:ks.Nodup
theorem NewS.step {h0 h:AH} {km kn N:Nat} {c:Int} {ks:List Nat} (s:NewS h0 h km kn N c ks) (hl:ks.length<N):
    NewS h0 ((h.push (.cells zCells 93)).set kn (.cells (pCells (ks ++ [h.next]) ++ List.replicate (N - (ks ++ [h.next]).length) (.ptr none)) 89)) km kn N c (ks ++ [h.next]):=by
  obtain ⟨a1,a2,a3⟩:=s.lows
  have n1:kn≠h.next:=by omega
  have n2:km≠h.next:=by omega
  have n3:km≠kn:=by omega
  refine ⟨⟨by simp; have:=s.keeps.1; omega,fun k hk=> ?_⟩,⟨a1,a2,by simp; omega⟩,by simp; omega,by simp,?_,fun k hk=> ?_,?_⟩
  · have e1:k≠kn:=by omega
    have e2:k≠h.next:=by omega
    simp [e1,e2,s.keeps.2 k hk]
  · simp [n2,n3,s.mod]
  · simp only [List.mem_append,List.mem_singleton] at hk
    rcases hk with hk | rfl
    · obtain ⟨b1,b2,b3⟩:=s.each k hk
      have e1:k≠kn:=by omega
      have e2:k≠h.next:=by omega
      exact ⟨b1,by simp; omega,by simp [e1,e2,b3]⟩
    · exact ⟨by omega,by simp,by simp [Ne.symm n1]⟩
  · rw [List.nodup_append]
    refine ⟨s.nod,by simp,fun a ha b hb=> ?_⟩
    simp only [List.mem_singleton] at hb
    subst hb
    have:=(s.each a ha).2.1
    omega
theorem newM_at {n:Nat} {c:Int} {i:Nat} {nd:Nd} (h:(newM n c).nodes[i]? =some nd):(i=0∧nd=rootNd)∨(i≠0∧nd=noNode):=by
  cases i with
  | zero=>left; simp [newM] at h; exact ⟨rfl,h.symm⟩
  | succ i=>
    right
    simp only [newM,List.getElem?_cons_succ,List.getElem?_replicate] at h
    split at h
    · cases h; exact ⟨by omega,rfl⟩
    · cases h
theorem new_is {h:AH} {km kn kr N:Nat} {c:Int} {ks:List Nat} (hN:0<N) (hlen:ks.length=N) (hptr:h.get kn=some (.cells (pCells ks) 89))
    (hmod:h.get km=some (.cells [.sl (some (.new kn 0)) N N none,.int .i64 c,.sl (some (.new kr 0)) 11 11 none] 88)) (hrow:h.get kr=some (.cells (rowCells km) 96))
    (heach:∀(i:Nat) k,ks[i]? =some k→km<k∧k<h.next∧k≠kr∧h.get k=some (.cells (if i=0 then [.int .i64 2,.int .i64 1,.int .i64 0,.map none,.sl none 0 0 none] else zCells) 93))
    (hnod:ks.Nodup) (hl:kn<km∧km<kr∧kr<h.next):MIs h ⟨km,kn,kr,ks.map nr⟩ (newM N c):=by
  have hnl:(newM N c).nodes.length=N:=by simp [newM]; omega
  have hget:∀(i:Nat) r,(ks.map nr)[i]? =some r→∃k,ks[i]? =some k∧r=nr k:=fun i r hr=>by
    simp only [List.getElem?_map,Option.map_eq_some_iff] at hr
    obtain ⟨k,hk,rfl⟩:=hr; exact ⟨k,hk,rfl⟩
  refine ⟨by rw [hnl]; exact hmod,?_,hrow,by rw [hnl]; simp [hlen],fun i r nd hr hn=> ?_,fun k hk=> ?_,⟨by simp only; omega,by simp only; omega,by simp only; omega⟩,fun i r hr k hk=> ?_,fun i r hr=> ?_,fun i i' r r' hr hr' hne k hk hk'=> ?_⟩
  · rw [hptr]; congr 2; simp [ptrCells,pCells,nr,Function.comp_def]
  · obtain ⟨k,hk,rfl⟩:=hget i r hr
    have hc:=(heach i k hk).2.2.2
    rcases newM_at hn with ⟨rfl,rfl⟩ | ⟨hi,rfl⟩
    · exact ⟨_,_,by simpa [nr,rootNd] using hc,rfl,⟨rfl,rfl⟩⟩
    · rw [if_neg hi] at hc
      exact ⟨_,_,by simpa [nr,zCells,noNode] using hc,rfl,⟨rfl,rfl⟩⟩
  · simp only [MR.ids,List.mem_cons,List.mem_flatMap,List.mem_map] at hk
    rcases hk with rfl | rfl | rfl | ⟨r,⟨q,hq,rfl⟩,hk⟩
    · omega
    · omega
    · omega
    · simp [NR.ids,nr] at hk
      subst hk
      obtain ⟨i,hi,he⟩:=List.getElem_of_mem hq
      exact (heach i k (by rw [List.getElem?_eq_getElem hi,he])).2.1
  · obtain ⟨q,hq,rfl⟩:=hget i r hr
    simp [NR.ids,nr] at hk
    subst hk
    obtain ⟨b1,b2,b3,_⟩:=heach i k hq
    exact ⟨by show k≠km; omega,by show k≠kn; omega,b3⟩
  · obtain ⟨q,hq,rfl⟩:=hget i r hr
    simp [NR.ids,nr]
  · obtain ⟨q,hq,rfl⟩:=hget i r hr
    obtain ⟨q',hq',rfl⟩:=hget i' r' hr'
    simp [NR.ids,nr] at hk hk'
    subst hk; subst hk'
    have h1:=List.getElem?_eq_some_iff.1 hq
    have h2:=List.getElem?_eq_some_iff.1 hq'
    obtain ⟨h1,e1⟩:=h1
    obtain ⟨h2,e2⟩:=h2
    have hp:=List.pairwise_iff_getElem.1 hnod
    rcases Nat.lt_trichotomy i i' with h3 | h3 | h3
    · exact hp i i' h1 h2 h3 (e1.trans e2.symm)
    · exact hne h3
    · exact hp i' i h2 h1 h3 (e2.trans e1.symm)
def NewI (h0:AH) (km kn N:Nat) (c:Int) (m:Nat) (e':Env) (h':AH):Prop:=
  e'.length=85∧∃ks:List Nat,ks.length + m=N∧NewS h0 h' km kn N c ks∧(e'.getD 6 .undef= .ptr (some (.new km 0))∧e'.getD 27 .undef= .int .i64 N∧e'.getD 28 .undef= .int .i64 ks.length)
theorem idx_ptr {W:World} {kn N i:Nat} (hi:i<N):aIndexAddr (CC W) 85 (.sl (some (.new kn 0)) N N none) (.int .i64 (i:Int))=some (.ptr (some (.new kn i))):=by
  simp only [aIndexAddr,kind85,size89]
  rw [if_pos (by omega)]
  simp [AA.add]
theorem st_next {W:World} {h0 h:AH} {km kn N:Nat} {c:Int} {ks:List Nat} (s:NewS h0 h km kn N c ks) (hl:ks.length<N):
    aStoreOp (CC W) (h.push (.cells zCells 93)) 89 (.ptr (some (.new kn ks.length))) (.ptr (some (.new h.next 0)))=some ((h.push (.cells zCells 93)).set kn (.cells (pCells (ks ++ [h.next]) ++ List.replicate (N - (ks ++ [h.next]).length) (.ptr none)) 89)):=by
  have n1:kn≠h.next:=by have:=s.lows; omega
  have hg:(h.push (.cells zCells 93)).get kn=some (.cells (pCells ks ++ List.replicate (N - ks.length) (.ptr none)) 89):=by
    simp [n1,s.ptrs]
  rw [st_pcell hg (by simp [pCells]; omega)]
  congr 4
  have e:N - ks.length=(N - (ks.length + 1)) + 1:=by omega
  rw [List.set_append_right _ _ (by simp [pCells]),e,List.replicate_succ]
  simp [pCells]
set_option maxRecDepth 100000 in
set_option maxHeartbeats 8000000 in
theorem new_ret (W:World) (h:AH) (b j n:Int):
    ACall (CC W) 12 [.agg [.int .i64 b,.int .i64 j,.int .i64 n]] h (fun w h'=>match shapeR b j n with
      | none=>w= .tup [.ptr none,.int .i64 60]∧Keeps h h'
      | some c=>∃R,w= .tup [.ptr (some (.new R.km 0)),.int .i64 0]∧Keeps h h'∧MIs h' R (newM n.toNat c)∧∀k∈R.ids,h.next≤k) (fun _ _=>False):=by
  refine jj9 (cc_ok W) (fn12 W) (by simp only [Tryz.f12]; rfl) rfl rfl ?_
  have hbx:=box_shape (h:=h) (l:=[.int .i64 b,.int .i64 j,.int .i64 n])
  have hk1:Keeps h (h.push (.cells [.int .i64 b,.int .i64 j,.int .i64 n] 23)):=Keeps.push _ _
  have hgb:(h.push (.cells [.int .i64 b,.int .i64 j,.int .i64 n] 23)).get h.next=some (.cells [.int .i64 b,.int .i64 j,.int .i64 n] 23):=by simp
  have hn1:h.next<(h.push (.cells [.int .i64 b,.int .i64 j,.int .i64 n] 23)).next:=by simp
  generalize h.push (.cells [.int .i64 b,.int .i64 j,.int .i64 n] 23)=h1 at hbx hk1 hgb hn1
  generalize hkb:h.next=kb at hbx hgb hn1
  simp [push_cast,hbx,ld_shape hgb]
  refine jf9 (by simp [fn34]) (of_ret W h1 b j n) fun h2 hk2=> ?_
  have hgb2:=(hk2.2 kb hn1).trans hgb
  have hA:=alloc_reg (W:=W) (h:=h2)
  have hgA:(h2.push (.cells reg0 82)).get h2.next=some (.cells reg0 82):=by simp
  have hK3:Keeps h ((h2.push (.cells reg0 82))):=(hk1.trans hk2).trans (Keeps.push _ _)
  have hgb3:(h2.push (.cells reg0 82)).get kb=some (.cells [.int .i64 b,.int .i64 j,.int .i64 n] 23):=by
    have:kb≠h2.next:=by have:=hk2.1; omega
    simp [this,hgb2]
  have hn3:h2.next<(h2.push (.cells reg0 82)).next:=by simp
  have hlow2:h.next≤h2.next∧kb<h2.next:=by have:=hk1.1; have:=hk2.1; omega
  generalize h2.push (.cells reg0 82)=h3 at hA hgA hK3 hgb3 hn3
  generalize h2.next=k4 at hA hgA hn3 hlow2
  have hk4b:kb≠k4:=by omega
  cases hsh:shapeR b j n with
  | none=>
    have hv:ofV' b j n= .tup [.agg reg0,.int .i64 60]:=by simp [ofV',hsh]
    have hst:=st_reg (W:=W) (x:=0) (y:=0) (z:=0) (u:=0) (v:=0) hgA
    rw [hv]
    simp [push_cast,hA,reg0,hst]
    exact hK3.set hlow2.1 _
  | some c=>
    have hv:ofV' b j n= .tup [regV j (dataR b j n) c,.int .i64 0]:=by simp [ofV',hsh]
    have hst:=st_reg (W:=W) (x:=1) (y:=1 + j) (z:=2 + j) (u:=dataR b j n) (v:=c) hgA
    have hn64:1≤n∧n≤64:=by
      unfold shapeR at hsh
      split at hsh
      · rename_i hc; simpa [inB] using hc.2.2
      · cases hsh
    obtain ⟨N,rfl⟩:=Int.eq_ofNat_of_zero_le (show 0≤n by omega)
    rw [hv]
    simp [push_cast,hA,regV,hst]
    have hK4:=hK3.set hlow2.1 (.cells [.int .i64 1,.int .i64 (1 + j),.int .i64 (2 + j),.int .i64 (dataR b j N),.int .i64 c] 82)
    have hg4:(h3.set k4 (.cells [.int .i64 1,.int .i64 (1 + j),.int .i64 (2 + j),.int .i64 (dataR b j N),.int .i64 c] 82)).get k4=some (.cells [.int .i64 1,.int .i64 (1 + j),.int .i64 (2 + j),.int .i64 (dataR b j N),.int .i64 c] 82):=by simp
    have hgb4:(h3.set k4 (.cells [.int .i64 1,.int .i64 (1 + j),.int .i64 (2 + j),.int .i64 (dataR b j N),.int .i64 c] 82)).get kb=some (.cells [.int .i64 b,.int .i64 j,.int .i64 N] 23):=by simp [hk4b,hgb3]
    have hn4:k4<(h3.set k4 (.cells [.int .i64 1,.int .i64 (1 + j),.int .i64 (2 + j),.int .i64 (dataR b j N),.int .i64 c] 82)).next:=by simp; exact hn3
    generalize h3.set k4 (.cells [.int .i64 1,.int .i64 (1 + j),.int .i64 (2 + j),.int .i64 (dataR b j N),.int .i64 c] 82)=h4 at hK4 hg4 hgb4 hn4
    have hmk:=mk_ptrs (W:=W) (h:=h4) (n:=N) (by omega)
    have hg5:(h4.push (.cells (List.replicate N (.ptr none)) 89)).get k4=some (.cells [.int .i64 1,.int .i64 (1 + j),.int .i64 (2 + j),.int .i64 (dataR b j N),.int .i64 c] 82):=by
      have:k4≠h4.next:=by omega
      simp [this,hg4]
    have hS:NewS h ((h4.push (.cells (List.replicate N (.ptr none)) 89)).push (.cells [.sl (some (.new h4.next 0)) N N none,.int .i64 c,.sl none 0 0 none] 88)) (h4.next + 1) h4.next N c []:=by
      refine ⟨(hK4.trans (Keeps.push _ _)).trans (Keeps.push _ _),⟨by have:=hK4.1; omega,by omega,by simp⟩,by simp,?_,by simp,by simp,by simp⟩
      simp [pCells]
    have hgb5:(h4.push (.cells (List.replicate N (.ptr none)) 89)).get kb=some (.cells [.int .i64 b,.int .i64 j,.int .i64 N] 23):=by
      have:kb≠h4.next:=by omega
      simp [this,hgb4]
    refine drawS [0,1,3,4,2,5,6,7] (by kernel_rfl) (by kernel_rfl) ?_
    simp [push_cast,zx9,zy9,SgO,opA,isE,isRead,fa23_2,ld3,ji9 hgb4,fa82_4,ji9 hg4]
    refine jc9 (h':=h4.push (.cells (List.replicate N (.ptr none)) 89)) (v:= .sl (some (.new h4.next 0)) N N none) (by rfl) (by simp [push_cast,hmk]) ⟨?_,?_⟩
    · simp [zz9,ja9,push_cast,opA,ld3,ji9 hgb5,ji9 hg5]
    simp [push_cast,zx9,zy9,SgO,opA,isE,isRead,build_mod]
    refine jc9 (h':=(h4.push (.cells (List.replicate N (.ptr none)) 89)).push (.cells [.sl (some (.new h4.next 0)) N N none,.int .i64 c,.sl none 0 0 none] 88)) (v:= .ptr (some (.new (h4.next + 1) 0))) (by rfl) (by simp [push_cast,box_mod]) ⟨?_,?_⟩
    · repeat refine zz9 ▸ ⟨fun hc=>absurd (hc.symm.trans (show _=true by kernel_rfl)) (by decide),?_⟩
      exact ja9 ▸ trivial
    generalize (h4.push (.cells (List.replicate N (.ptr none)) 89)).push (.cells [.sl (some (.new h4.next 0)) N N none,.int .i64 c,.sl none 0 0 none] 88)=h6 at hS
    generalize hkm:h4.next + 1=km at hS
    generalize h4.next=kn at hS
    simp [push_cast,zx9,zy9,SgO,opA,isE,isRead,fa88_0,ld85,ji9 hS.mod,jd9,aLen,kind85]
    refine loopN (cc_ok W) (NewI h km kn N c) N ⟨by simp,[],by simp,hS,by simp⟩ ?_
    rintro m e' h' ⟨hlen',ks,him,hS',hh⟩
    match e',hlen' with
    | a0::a1::a2::a3::a4::a5::a6::a7::a8::a9::a10::a11::a12::a13::a14::a15::a16::a17::a18::a19::a20::a21::a22::a23::a24::a25::a26::a27::a28::a29::a30::a31::a32::a33::a34::a35::a36::a37::a38::a39::a40::a41::a42::a43::a44::a45::a46::a47::a48::a49::a50::a51::a52::a53::a54::a55::a56::a57::a58::a59::a60::a61::a62::a63::a64::a65::a66::a67::a68::a69::a70::a71::a72::a73::a74::a75::a76::a77::a78::a79::a80::a81::a82::a83::a84::[],_=>
      simp at hh
      obtain ⟨rfl,rfl,rfl⟩:=hh
      by_cases hlt:ks.length<N
      · have hlt':(ks.length:Int)<(N:Int):=by omega
        have wi:IntKind.i64.wrap ((ks.length:Int) + 1)=(ks.length:Int) + 1:=wrap64 (by omega) (by omega)
        have hst:=st_next (W:=W) hS' hlt
        have hst2:=hS'.step hlt
        have hmd:(h'.push (.cells zCells 93)).get km=some (.cells [.sl (some (.new kn 0)) N N none,.int .i64 c,.sl none 0 0 none] 88):=by
          have:km≠h'.next:=by have:=hS'.lows; omega
          simp [this,hS'.mod]
        generalize (h'.push (.cells zCells 93)).set kn (.cells (pCells (ks ++ [h'.next]) ++ List.replicate (N - (ks ++ [h'.next]).length) (.ptr none)) 89)=h7 at hst hst2
        simp only [zCells] at hst hmd
        simp [push_cast,hlt,hlt',fa88_0,ld85,ji9 hS'.mod,ji9 hmd,jd9,build_no,box_nd,idx_ptr hlt,hst,wi]
        exact ⟨m - 1,by omega,by simp,ks ++ [h'.next],by simp; omega,hst2,by simp⟩
      · have hlt':¬(ks.length:Int)<(N:Int):=by omega
        have hkl:ks.length=N:=by omega
        obtain ⟨l1,l2,l3⟩:=hS'.lows
        have hptr:=hS'.ptrs
        rw [hkl] at hptr
        simp only [Nat.sub_self,List.replicate_zero,List.append_nil] at hptr
        have hmd8:(h'.push (.cells [.int .i64 2,.int .i64 1,.int .i64 0,.map none,.sl none 0 0 none] 93)).get km=some (.cells [.sl (some (.new kn 0)) N N none,.int .i64 c,.sl none 0 0 none] 88):=by
          have:km≠h'.next:=by omega
          simp [this,hS'.mod]
        have hpt8:(h'.push (.cells [.int .i64 2,.int .i64 1,.int .i64 0,.map none,.sl none 0 0 none] 93)).get kn=some (.cells (pCells ks) 89):=by
          have:kn≠h'.next:=by omega
          simp [this,hptr]
        have hst8:=st_pcell (W:=W) (i:=0) (k:=h'.next) hpt8 (by simp [pCells]; omega)
        have hset:(pCells ks).set 0 (.ptr (some (.new h'.next 0)))=pCells (ks.set 0 h'.next):=by simp [pCells,List.map_set]
        rw [hset] at hst8
        have hgr8:(h'.push (.cells [.int .i64 2,.int .i64 1,.int .i64 0,.map none,.sl none 0 0 none] 93)).get h'.next=some (.cells [.int .i64 2,.int .i64 1,.int .i64 0,.map none,.sl none 0 0 none] 93):=by simp
        have hoff8:∀k,k<h'.next→(h'.push (.cells [.int .i64 2,.int .i64 1,.int .i64 0,.map none,.sl none 0 0 none] 93)).get k=h'.get k:=fun k hk=>by
          have:k≠h'.next:=by omega
          simp [this]
        have hnx8:(h'.push (.cells [.int .i64 2,.int .i64 1,.int .i64 0,.map none,.sl none 0 0 none] 93)).next=h'.next + 1:=by simp
        have hbx8:=box_nd (h:=h') (l:=[.int .i64 2,.int .i64 1,.int .i64 0,.map none,.sl none 0 0 none])
        generalize h'.push (.cells [.int .i64 2,.int .i64 1,.int .i64 0,.map none,.sl none 0 0 none] 93)=h8 at hmd8 hpt8 hst8 hgr8 hoff8 hnx8 hbx8
        obtain ⟨h9,hh9⟩:∃h9,h8.set kn (.cells (pCells (ks.set 0 h'.next)) 89)=h9:=⟨_,rfl⟩
        rw [hh9] at hst8
        have hnx9:h9.next=h'.next + 1:=by rw [←hh9]; exact hnx8
        have hpt9:h9.get kn=some (.cells (pCells (ks.set 0 h'.next)) 89):=by rw [←hh9]; simp
        have hoff9:∀k,k≠kn→h9.get k=h8.get k:=fun k hk=>by rw [←hh9]; simp [hk]
        have hmd9:=(hoff9 km (by omega)).trans hmd8
        clear hh9
        have hrows:=build_rows (W:=W) (h:=h9) (km:=km)
        simp only [rowV,show rowAt km 0=[.int .i64 1,.bool false,.fn (.func 35) [.ptr (some (.new km 0))] []] from rfl,show rowAt km 1=[.int .i64 2,.bool false,.fn (.func 35) [.ptr (some (.new km 0))] []] from rfl,show rowAt km 2=[.int .i64 3,.bool false,.fn (.func 36) [.ptr (some (.new km 0))] []] from rfl,show rowAt km 3=[.int .i64 4,.bool false,.fn (.func 37) [.ptr (some (.new km 0))] []] from rfl,show rowAt km 4=[.int .i64 5,.bool false,.fn (.func 38) [.ptr (some (.new km 0))] []] from rfl,show rowAt km 5=[.int .i64 6,.bool false,.fn (.func 39) [.ptr (some (.new km 0))] []] from rfl,show rowAt km 6=[.int .i64 7,.bool false,.fn (.func 40) [.ptr (some (.new km 0))] []] from rfl,show rowAt km 7=[.int .i64 8,.bool true,.fn (.func 41) [.ptr (some (.new km 0))] []] from rfl,show rowAt km 8=[.int .i64 9,.bool false,.fn (.func 42) [.ptr (some (.new km 0))] []] from rfl,show rowAt km 9=[.int .i64 10,.bool false,.fn (.func 43) [.ptr (some (.new km 0))] []] from rfl,show rowAt km 10=[.int .i64 11,.bool true,.fn (.func 44) [.ptr (some (.new km 0))] []] from rfl] at hrows
        have hmd10:(h9.push (.cells (rowCells km) 96)).get km=some (.cells [.sl (some (.new kn 0)) N N none,.int .i64 c,.sl none 0 0 none] 88):=by
          have:km≠h9.next:=by omega
          simp [this,hmd9]
        have hst10:=st_mod2 (W:=W) (p:=some (.new h9.next 0)) (l:=11) (cap:=11) (g:=none) hmd10
        have h0N:0<N:=by omega
        have hK:=hS'.keeps
        have hidx0:aIndexAddr (CC W) 85 (.sl (some (.new kn 0)) N N none) (.int .i64 0)=some (.ptr (some (.new kn 0))):=idx_ptr (i:=0) h0N
        have hget10:∀k,k≠km→k<h9.next→((h9.push (.cells (rowCells km) 96)).set km (.cells [.sl (some (.new kn 0)) N N none,.int .i64 c,.sl (some (.new h9.next 0)) 11 11 none] 88)).get k=h9.get k:=fun k hk1 hk2=>by
          have:k≠h9.next:=by omega
          simp [hk1,this]
        have hrow10:((h9.push (.cells (rowCells km) 96)).set km (.cells [.sl (some (.new kn 0)) N N none,.int .i64 c,.sl (some (.new h9.next 0)) 11 11 none] 88)).get h9.next=some (.cells (rowCells km) 96):=by
          have:h9.next≠km:=by omega
          simp [this]
        have hmod10:((h9.push (.cells (rowCells km) 96)).set km (.cells [.sl (some (.new kn 0)) N N none,.int .i64 c,.sl (some (.new h9.next 0)) 11 11 none] 88)).get km=some (.cells [.sl (some (.new kn 0)) N N none,.int .i64 c,.sl (some (.new h9.next 0)) 11 11 none] 88):=by simp
        have hnx10:((h9.push (.cells (rowCells km) 96)).set km (.cells [.sl (some (.new kn 0)) N N none,.int .i64 c,.sl (some (.new h9.next 0)) 11 11 none] 88)).next=h9.next + 1:=by simp
        simp [push_cast,hlt,hlt',fa88_0,fa88_2,ld85,ji9 hS'.mod,ji9 hmd8,jd9,build_root,hbx8,hidx0,hst8,build_row,hrows,hst10]
        generalize (h9.push (.cells (rowCells km) 96)).set km (.cells [.sl (some (.new kn 0)) N N none,.int .i64 c,.sl (some (.new h9.next 0)) 11 11 none] 88)=h10 at hget10 hrow10 hmod10 hnx10
        refine ⟨⟨km,kn,h9.next,(ks.set 0 h'.next).map nr⟩,rfl,⟨by have:=hK.1; omega,fun k hk=> ?_⟩,new_is h0N (by simp [hkl]) ((hget10 kn (by omega) (by omega)).trans hpt9) hmod10 hrow10 (fun i k hi=> ?_) ?_ ⟨l2,by omega,by omega⟩,fun k hk=> ?_⟩
        · rw [hget10 k (by omega) (by omega),hoff9 k (by omega),hoff8 k (by omega)]
          exact hK.2 k hk
        · rw [List.getElem?_set] at hi
          split at hi
          · rename_i e; subst e
            rw [if_pos (by omega)] at hi
            cases hi
            refine ⟨by omega,by omega,by omega,?_⟩
            rw [if_pos rfl,hget10 _ (by omega) (by omega),hoff9 _ (by omega)]
            exact hgr8
          · rename_i e
            obtain ⟨b1,b2,b3⟩:=hS'.each k (List.mem_of_getElem? hi)
            refine ⟨by omega,by omega,by omega,?_⟩
            rw [if_neg (Ne.symm e),hget10 _ (by omega) (by omega),hoff9 _ (by omega),hoff8 _ (by omega)]
            exact b3
        · have hlow:∀k∈ks,k<h'.next:=fun k hk=>(hS'.each k hk).2.1
          cases ks with
          | nil=>simp
          | cons q qs=>
            simp only [List.set_cons_zero,List.nodup_cons] at *
            exact ⟨fun hc=>by have:=hlow _ (List.mem_cons_of_mem _ hc); omega,(List.nodup_cons.1 hS'.nod).2⟩
        · simp only [MR.ids,List.mem_cons,List.mem_flatMap,List.mem_map] at hk
          rcases hk with rfl | rfl | rfl | ⟨r,⟨q,hq,rfl⟩,hk⟩
          · omega
          · omega
          · have:=hK.1; omega
          · simp [NR.ids,nr] at hk
            subst hk
            rcases List.mem_or_eq_of_mem_set hq with h1 | rfl
            · have:=(hS'.each k h1).1; omega
            · have:=hK.1; omega
end Go.Proofs.YtbofhlifobjolaaGreatDoor.Ax
end
