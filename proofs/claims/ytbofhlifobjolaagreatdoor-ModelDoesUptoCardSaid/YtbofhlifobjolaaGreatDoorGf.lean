/- The texts Sl, Idx, Node, Find, FileM, Ints, Used, Ind, Cost, UsedW, PutL, Put, Take, ResL, Create, Stat, as one. -/
import Derived.Test.YtbofhlifobjolaaGreatDoorGc
import Derived.Test.YtbofhlifobjolaaGreatDoorGbb
import Derived.Test.YtbofhlifobjolaaGreatDoorGd
import Derived.Test.YtbofhlifobjolaaGreatDoorGe
import Derived.KernelRfl
section
set_option linter.unusedVariables false
set_option linter.unusedSimpArgs false
namespace Go.Proofs.YtbofhlifobjolaaGreatDoor.Ax
open Go.RowKit
def AA.below (n:Nat):AA→Prop
  | .base _ _=>True
  | .new k _=>k<n
theorem aBound_nat {n d y:Nat} (h:n≤y):aBound (some (.int .i64 (n:Int))) d y=some n:=by
  simp only [aBound]
  rw [if_pos (by omega)]
  simp
theorem aBound_none {d y:Nat}:aBound none d y=some d:=rfl
theorem aBounds_hi {len cap n:Nat} (h:n≤cap):aBounds len cap none (some (.int .i64 (n:Int))) none=some (0,n,cap):=by
  unfold aBounds
  simp only [aBound_none,aBound_nat h]
theorem aBounds_lo {len cap n:Nat} (h:n≤len):aBounds len cap (some (.int .i64 (n:Int))) none none=some (n,len,cap):=by
  unfold aBounds
  simp only [aBound_none,aBound_nat h]
theorem aBounds_lohi {len cap n m:Nat} (h:n≤m) (hm:m≤cap):aBounds len cap (some (.int .i64 (n:Int))) (some (.int .i64 (m:Int))) none=some (n,m,cap):=by
  unfold aBounds
  simp only [aBound_none,aBound_nat h,aBound_nat hm]
theorem slice_hi {W:World} {r:List UInt8} {q:Nat} (h:q≤r.length):aSlice (CC W) 9 (.str r) none (some (.int .i64 (q:Int))) none=some (.str (r.take q)):=by
  simp only [aSlice,kind9,aBounds_hi h,Option.map,List.drop_zero]
theorem slice_lo {W:World} {r:List UInt8} {q:Nat} (h:q≤r.length):aSlice (CC W) 9 (.str r) (some (.int .i64 (q:Int))) none none=some (.str (r.drop q)):=by
  simp only [aSlice,kind9,aBounds_lo h,Option.map,List.take_length]
theorem slice_lohi {W:World} {r:List UInt8} {q m:Nat} (h:q≤m) (hm:m≤r.length):aSlice (CC W) 9 (.str r) (some (.int .i64 (q:Int))) (some (.int .i64 (m:Int))) none=some (.str ((r.take m).drop q)):=by
  simp only [aSlice,kind9,aBounds_lohi h hm,Option.map]
def AA.txt (h:AH):AA→Prop
  | .base _ _=>True
  | .new k _=>∃cs,h.get k=some (.cells cs 9)
def StrS (W:World) (h:AH) (v:AV) (l:List (List UInt8)):Prop:=
  ∃a c gr,v= .sl a l.length c gr∧(l.length≤c∧(gr=none∨gr=some 1))∧∀k x,l[k]? =some x→∃a',a=some a'∧a'.below h.next∧aCell (CC W) h (a'.add k)=some (.str x)∧a'.txt h
theorem cell_keeps {C:Cx} {h h':AH} {a:AA} {v:AV} (hk:Keeps h h') (ha:a.below h.next) (hc:aCell C h a=some v):aCell C h' a=some v:=by
  cases a with
  | base b o=>exact hc
  | new k o=>simp only [aCell] at hc ⊢; rw [hk.2 k ha]; exact hc
theorem AA.below_mono {a:AA} {n m:Nat} (h:a.below n) (hm:n≤m):a.below m:=by
  cases a with
  | base b o=>trivial
  | new k o=>exact Nat.lt_of_lt_of_le h hm
theorem AA.below_add {a:AA} {n:Nat} (h:a.below n) (k:Nat):(a.add k).below n:=by
  cases a with
  | base b o=>trivial
  | new k o=>exact h
theorem AA.txt_keeps {h h':AH} {a:AA} (hk:Keeps h h') (ha:a.below h.next) (ht:a.txt h):a.txt h':=by
  cases a with
  | base b o=>trivial
  | new k o=>obtain ⟨cs,hc⟩:=ht; exact ⟨cs,(hk.2 k ha).trans hc⟩
theorem StrS.keeps {W:World} {h h':AH} {v:AV} {l:List (List UInt8)} (hs:StrS W h v l) (hk:Keeps h h'):StrS W h' v l:=by
  obtain ⟨a,c,gr,hv,hcl,hc⟩:=hs
  refine ⟨a,c,gr,hv,hcl,fun k x hx=> ?_⟩
  obtain ⟨a',ha,hb,hcell,ht⟩:=hc k x hx
  exact ⟨a',ha,AA.below_mono hb hk.1,cell_keeps hk (AA.below_add hb k) hcell,AA.txt_keeps hk hb ht⟩
theorem aLoad_str {W:World} {h:AH} {a:AA} {x:List UInt8} (hc:aCell (CC W) h a=some (.str x)):aLoad (CC W) h 9 a=some (.str x):=by
  simp only [aLoad,ty9]
  exact hc
theorem idx_str {W:World} {a:AA} {n c:Nat} {gr:Option Nat} {k:Nat} (hk:k<n):aIndexAddr (CC W) 37 (.sl (some a) n c gr) (.int .i64 k)=some (.ptr (some (a.add k))):=by
  simp only [aIndexAddr,kind37,size9]
  rw [if_pos (by omega)]
  simp
theorem StrS.at {W:World} {h:AH} {l:List (List UInt8)} {a:Option AA} {n c:Nat} {gr:Option Nat} (hs:StrS W h (.sl a n c gr) l) {k:Nat} {x:List UInt8} (hk:l[k]? =some x):
    ∃a',aIndexAddr (CC W) 37 (.sl a n c gr) (.int .i64 k)=some (.ptr (some a'))∧aLoad (CC W) h 9 a'=some (.str x):=by
  obtain ⟨a0,c0,g0,hv,_,hc⟩:=hs
  simp only [AV.sl.injEq] at hv
  obtain ⟨rfl,rfl,rfl,rfl⟩:=hv
  obtain ⟨a',rfl,hb,hcell,_⟩:=hc k x hk
  exact ⟨_,idx_str (List.getElem?_eq_some_iff.1 hk).1,aLoad_str hcell⟩
theorem StrS.len {W:World} {h:AH} {v:AV} {l:List (List UInt8)} (hs:StrS W h v l):∃a c gr,v= .sl a l.length c gr:=by
  obtain ⟨a,c,gr,hv,_⟩:=hs; exact ⟨a,c,gr,hv⟩
theorem StrS.nil {W:World} {h:AH} {a:Option AA} {c:Nat}:StrS W h (.sl a 0 c none) []:=⟨a,c,none,rfl,⟨Nat.zero_le _,.inl rfl⟩,fun k x hx=>by simp at hx⟩
def RetQ (C:Cx) (f:FuncId) (args:List AV) (h:AH) (Q:AV→AH→Prop):Prop:=ACall C f args h (fun v h'=>Keeps h h'∧Q v h') (fun _ _=>False)
theorem jg9 {C:Cx} {R:Post} {ks:List Fr} {e:Env} {h:AH} {ops:Array Oper} {rest:List Oper} {dst:Option Tmp} {f:FuncId} {args:List AV} {Q:AV→AH→Prop} (hf:(C.fn f).isSome=true) (hc:RetQ C f args h Q)
    (hk:∀v h',Keeps h h'→Q v h'→Rg C R ops rest ks (za9 e dst v) h'):CallK C R ops rest ks e dst f args h:=
  je9 hf hc fun w h' hw=>hk w h' hw.1 hw.2
def RetH (C:Cx) (f:FuncId) (args:List AV) (h:AH) (v:AV):Prop:=ACall C f args h (fun w h'=>w=v∧h'=h) (fun _ _=>False)
theorem jh9 {C:Cx} {Q:Post} {ks:List Fr} {e:Env} {h:AH} {ops:Array Oper} {rest:List Oper} {dst:Option Tmp} {f:FuncId} {args:List AV} {v:AV} (hf:(C.fn f).isSome=true) (hc:RetH C f args h v)
    (hk:Rg C Q ops rest ks (za9 e dst v) h):CallK C Q ops rest ks e dst f args h:=
  je9 hf hc fun w h' hw=>by rw [hw.1,hw.2]; exact hk
def scells (l:List (List UInt8)) (n:Nat):List AV:=l.map .str ++ List.replicate (n - l.length) (.str [])
theorem scells_length {l:List (List UInt8)} {n:Nat} (h:l.length≤n):(scells l n).length=n:=by simp [scells]; omega
theorem scells_get {l:List (List UInt8)} {n k:Nat} {x:List UInt8} (h:l[k]? =some x):(scells l n)[k]? =some (.str x):=by
  have hk:=(List.getElem?_eq_some_iff.1 h).1
  rw [scells,List.getElem?_append_left (by simpa using hk)]
  simp [h]
theorem scells_put {l:List (List UInt8)} {n:Nat} {x:List UInt8} (h:l.length<n):overlay (scells l n) [.str x] l.length=scells (l ++ [x]) n:=by
  have e:n - l.length=(n - (l.length + 1)) + 1:=by omega
  simp only [overlay,scells,List.length_append,List.length_singleton,List.map_append,List.map_cons,List.map_nil]
  rw [e,List.replicate_succ]
  have h1:(List.map AV.str l ++ AV.str []::List.replicate (n - (l.length + 1)) (AV.str [])).take l.length=List.map AV.str l:=by
    rw [List.take_append,List.take_of_length_le (by simp)]; simp
  have h2:(List.map AV.str l ++ AV.str []::List.replicate (n - (l.length + 1)) (AV.str [])).drop (l.length + 1)=List.replicate (n - (l.length + 1)) (AV.str []):=by
    rw [List.drop_append]
    simp
  simp only [h1,h2]
theorem store_str {W:World} {h:AH} {k n:Nat} {l:List (List UInt8)} {x:List UInt8} {t:TypeId} (hg:h.get k=some (.cells (scells l n) t)) (hl:l.length<n):
    aStoreOp (CC W) h 9 (.ptr (some (.new k l.length))) (.str x)=some (h.set k (.cells (scells (l ++ [x]) n) t)):=by
  have h1:l.length + [AV.str x].length≤(scells l n).length:=by rw [scells_length (by omega)]; simp; omega
  simp only [aStoreOp,aCellsOf,size9,aStore,hg]
  rw [if_pos (by rfl),if_pos ⟨h1,by rfl⟩,scells_put hl]
theorem StrS.new {W:World} {h:AH} {k n c:Nat} {l m:List (List UInt8)} (hg:h.get k=some (.cells (scells m n) 9)) (hk:k<h.next) (hl:l.length=c) (hm:∀(j:Nat) x,l[j]? =some x→m[j]? =some x) {cap:Nat} (hcap:c≤cap):StrS W h (.sl (some (.new k 0)) c cap none) l:=by
  subst hl
  refine ⟨_,_,_,rfl,⟨hcap,.inl rfl⟩,fun j x hx=>⟨_,rfl,hk,?_,_,hg⟩⟩
  simp only [AA.add,aCell,hg,Nat.zero_add]
  exact scells_get (hm j x hx)
def OwnS (h0 h:AH) (v:AV) (l:List (List UInt8)):Prop:=
  Keeps h0 h∧(l=[]∧v= .sl none 0 0 none∨∃k,h0.next≤k∧k<h.next∧h.get k=some (.cells (l.map .str) 9)∧v= .sl (some (.new k 0)) l.length l.length (some 1))
theorem OwnS.start (h:AH):OwnS h h (.sl none 0 0 none) []:=⟨Keeps.refl _,.inl ⟨rfl,rfl⟩⟩
theorem OwnS.strS {W:World} {h0 h:AH} {v:AV} {l:List (List UInt8)} (ho:OwnS h0 h v l):StrS W h v l:=by
  obtain ⟨_,⟨rfl,rfl⟩ | ⟨k,h1,h2,h3,rfl⟩⟩:=ho
  · exact StrS.nil
  · refine ⟨_,_,_,rfl,⟨Nat.le_refl _,.inr rfl⟩,fun j x hx=>⟨_,rfl,h2,?_,_,h3⟩⟩
    simp only [AA.add,aCell,h3,Nat.zero_add]
    simp [hx]
theorem OwnS.len {h0 h:AH} {v:AV} {l:List (List UInt8)} (ho:OwnS h0 h v l):∃a c gr,v= .sl a l.length c gr:=by
  obtain ⟨_,⟨rfl,rfl⟩ | ⟨k,h1,h2,h3,rfl⟩⟩:=ho<;>exact ⟨_,_,_,rfl⟩
theorem AH.get_kill' (h:AH) (k m:Nat):(h.kill k).get m=if m=k then none else h.get m:=by simp [AH.get,AH.kill,Tr.get_set]
theorem AH.next_kill' (h:AH) (k:Nat):(h.kill k).next=h.next:=rfl
theorem build_str {W:World} {h:AH} {x:List UInt8}:aBuildSlice (CC W) h 37 1 [(0,.str x)]=some (.sl (some (.new h.next 0)) 1 1 none,h.push (.cells [.str x] 9)):=by
  simp only [aBuildSlice,kind37,size9,zero9]
  rfl
theorem append_str {W:World} {h0 h:AH} {v:AV} {l:List (List UInt8)} {x:List UInt8} (ho:OwnS h0 h v l) (hl:l.length<8796093022207):
    ∃v' h',aAppend (CC W) (h.push (.cells [.str x] 9)) #[37,37] v (.sl (some (.new h.next 0)) 1 1 none)=some (v',h')∧OwnS h0 h' v' (l ++ [x]):=by
  obtain ⟨hk,ho⟩:=ho
  have hb:(CC W).bytes 9=16:=_root_.id rfl
  have hni:niOK (CC W) #[37,37]=true:=_root_.id rfl
  have hnews:aNews (CC W) (h.push (.cells [.str x] 9)) 1 (.sl (some (.new h.next 0)) 1 1 none)=some (1,[.str x]):=by
    simp [aNews,aCells]
  rcases ho with ⟨rfl,rfl⟩ | ⟨k,h1,h2,h3,rfl⟩
  · refine ⟨.sl (some (.new (h.next + 1) 0)) 1 1 (some 1),(h.push (.cells [.str x] 9)).push (.cells [.str x] 9),?_,(hk.trans (Keeps.push _ _)).trans (Keeps.push _ _),.inr ⟨h.next + 1,by have:=hk.1; omega,by simp,by simp,by simp⟩⟩
    simp [aAppend,kind37,size9,zero9,hb,hni,hnews]
  · have hne:k≠h.next:=by omega
    refine ⟨.sl (some (.new (h.next + 1) 0)) (l.length + 1) (l.length + 1) (some 1),((h.push (.cells [.str x] 9)).kill k).push (.cells (l.map .str ++ [.str x]) 9),?_,⟨?_,fun j hj=> ?_⟩,.inr ⟨h.next + 1,by have:=hk.1; omega,by simp [AH.next_kill'],by simp [AH.next_kill'],by simp⟩⟩
    · simp [aAppend,kind37,size9,zero9,hb,hni,hnews,hne,h3,AH.next_kill',aOne]
      rw [if_neg (by omega),if_pos (by omega)]
    · simp [AH.next_kill']; have:=hk.1; omega
    · have:=hk.1
      rw [AH.get_push,AH.next_kill',if_neg (by simp; omega),AH.get_kill',if_neg (by omega),AH.get_push,if_neg (by omega)]
      exact hk.2 j hj
theorem StrS.slice {W:World} {h:AH} {l:List (List UInt8)} {a:Option AA} {n c:Nat} {gr:Option Nat} (hs:StrS W h (.sl a n c gr) l) {k:Nat} (hk:k≤l.length):
    ∃v,aSlice (CC W) 37 (.sl a n c gr) none (some (.int .i64 (k:Int))) none=some v∧StrS W h v (l.take k):=by
  obtain ⟨a0,c0,g0,hv,⟨hcl,hgr⟩,hc⟩:=hs
  simp only [AV.sl.injEq] at hv
  obtain ⟨rfl,rfl,rfl,rfl⟩:=hv
  have hl:(l.take k).length=k:=by simp; omega
  cases a with
  | none=>
    have h0:l=[]:=by
      cases l with
      | nil=>rfl
      | cons x r=>obtain ⟨a',ha,_⟩:=hc 0 x rfl; cases ha
    subst h0
    obtain rfl:k=0:=by simpa using hk
    refine ⟨.sl none 0 0 none,?_,StrS.nil⟩
    have:=aBounds_hi (len:=0) (cap:=0) (n:=0) (Nat.le_refl _)
    simp only [aSlice,kind37,size9,this,Option.map]
  | some a=>
    refine ⟨.sl (some (a.add 0)) k c gr,?_,some (a.add 0),c,gr,by rw [hl],⟨by omega,hgr⟩,fun j x hx=> ?_⟩
    · have ha0:a.add 0=a:=by cases a<;>rfl
      simp only [aSlice,kind37,size9,aBounds_hi (len:=l.length) (show k≤c by omega),Option.map,if_pos hgr]
      simp [ha0]
    · rw [List.getElem?_take] at hx
      split at hx
      · obtain ⟨a',ha,hb,hcell,ht⟩:=hc j x hx
        cases ha
        have ha0:a.add 0=a:=by cases a<;>rfl
        exact ⟨_,rfl,by rw [ha0]; exact hb,by rw [ha0]; exact hcell,by rw [ha0]; exact ht⟩
      · simp at hx
theorem slice_part {W:World} {p:List UInt8} {a b:Nat} (h:a≤b) (hb:b≤p.length):aSlice (CC W) 9 (.str p) (some (.int .i64 (a:Int))) (some (.int .i64 (b:Int))) none=some (.str ((p.take b).drop a)):=slice_lohi h hb
def fstI (p:Nat→Bool) (n:Nat):Int:=match (List.range n).find? p with
  | some i=>i
  | none=> -1
theorem fstI_some {p:Nat→Bool} {n i:Nat} (hi:i<n) (hp:p i=true) (hno:∀j,j<i→p j=false):fstI p n=i:=by
  unfold fstI
  have:(List.range n).find? p=some i:=by
    rw [List.find?_range_eq_some]
    refine ⟨hp,by simpa using hi,fun j hj=>by simp [hno j hj]⟩
  rw [this]
theorem fstI_none {p:Nat→Bool} {n:Nat} (hno:∀j,j<n→p j=false):fstI p n= -1:=by
  unfold fstI
  have:(List.range n).find? p=none:=by
    rw [List.find?_range_eq_none]
    intro j hj; simp [hno j hj]
  rw [this]
def idxSI (h:AH) (v f:AV) (n:Nat) (p:Nat→Bool) (m:Nat) (e':Env) (h':AH):Prop:=
  e'.length=19∧∃i:Nat,i + m=n∧Keeps h h'∧(∀j,j<i→p j=false)∧(e'.getD 0 .undef=v∧e'.getD 1 .undef=f∧e'.getD 7 .undef= .int .i64 n∧e'.getD 8 .undef= .int .i64 i)
set_option maxHeartbeats 4000000 in
theorem idxS_ret (W:World) (h:AH) (v:AV) (n:Nat) (caps:List AV) (p:Nat→Bool) (el:Nat→AV) (hn:n<9223372036854775807)
    (hlen:aLen (CC W) h 91 v=some (.int .i64 n))
    (hel:∀i,i<n→∃a',aIndexAddr (CC W) 91 v (.int .i64 (i:Int))=some (.ptr (some a'))∧∀h',Keeps h h'→aLoad (CC W) h' 159 a'=some (el i))
    (hcl:∀i,i<n→∀h',Keeps h h'→ACall (CC W) 116 (el i::caps) h' (fun w h''=>w= .bool (p i)∧Keeps h' h'') (fun _ _=>False)):
    ACall (CC W) 115 [v,.fn (.func 116) [] caps] h (fun w h'=>w= .int .i64 (fstI p n)∧Keeps h h') (fun _ _=>False):=by
  refine jj9 (cc_ok W) (fn115 W) (by simp only [Tryz.f115]; rfl) rfl rfl ?_
  simp [push_cast,hlen]
  refine loopN (cc_ok W) (idxSI h v (.fn (.func 116) [] caps) n p) n ⟨by simp,0,by simp,Keeps.refl _,fun j hj=>by omega,by simp⟩ ?_
  rintro m e' h' ⟨hlen,i,him,hk,hno,hh⟩
  match e',hlen with
  | a0::a1::a2::a3::a4::a5::a6::a7::a8::a9::a10::a11::a12::a13::a14::a15::a16::a17::a18::[],_=>
    simp at hh
    obtain ⟨rfl,rfl,rfl,rfl⟩:=hh
    by_cases hlt:i<n
    · have hlt':(i:Int)<(n:Int):=by omega
      obtain ⟨a',hix,hld⟩:=hel i hlt
      have hld':=hld h' hk
      simp [push_cast,hlt,hlt',hix,hld']
      refine je9 (by simp [fn116]) (hcl i hlt h' hk) fun w h2 ⟨hw,hk2⟩=> ?_
      subst hw
      cases hp:p i with
      | true=>
        simp [push_cast]
        exact ⟨(fstI_some hlt hp hno).symm,hk.trans hk2⟩
      | false=>
        have wi:IntKind.i64.wrap ((i:Int) + 1)=(i:Int) + 1:=wrap64 (by omega) (by omega)
        simp [push_cast,wi]
        exact ⟨m - 1,by omega,by simp,i + 1,by omega,hk.trans hk2,fun j hj=>by
          rcases Nat.lt_or_ge j i with h1 | h1
          · exact hno j h1
          · rw [show j=i by omega]; exact hp,by simp⟩
    · have hlt':¬(i:Int)<(n:Int):=by omega
      simp [push_cast,hlt,hlt']
      exact ⟨(fstI_none fun j hj=>hno j (by omega)).symm,hk⟩
def idxNI (h:AH) (v f:AV) (n:Nat) (p:Nat→Bool) (m:Nat) (e':Env) (h':AH):Prop:=
  e'.length=19∧∃i:Nat,i + m=n∧Keeps h h'∧(∀j,j<i→p j=false)∧(e'.getD 0 .undef=v∧e'.getD 1 .undef=f∧e'.getD 7 .undef= .int .i64 n∧e'.getD 8 .undef= .int .i64 i)
set_option maxHeartbeats 4000000 in
theorem idxN_ret (W:World) (h:AH) (v:AV) (n:Nat) (caps:List AV) (p:Nat→Bool) (el:Nat→AV) (hn:n<9223372036854775807)
    (hlen:aLen (CC W) h 85 v=some (.int .i64 n))
    (hel:∀i,i<n→∃a',aIndexAddr (CC W) 85 v (.int .i64 (i:Int))=some (.ptr (some a'))∧∀h',Keeps h h'→aLoad (CC W) h' 89 a'=some (el i))
    (hcl:∀i,i<n→∀h',Keeps h h'→ACall (CC W) 70 (el i::caps) h' (fun w h''=>w= .bool (p i)∧Keeps h' h'') (fun _ _=>False)):
    ACall (CC W) 69 [v,.fn (.func 70) [] caps] h (fun w h'=>w= .int .i64 (fstI p n)∧Keeps h h') (fun _ _=>False):=by
  refine jj9 (cc_ok W) (fn69 W) (by simp only [Tryz.f69]; rfl) rfl rfl ?_
  simp [push_cast,hlen]
  refine loopN (cc_ok W) (idxNI h v (.fn (.func 70) [] caps) n p) n ⟨by simp,0,by simp,Keeps.refl _,fun j hj=>by omega,by simp⟩ ?_
  rintro m e' h' ⟨hlen,i,him,hk,hno,hh⟩
  match e',hlen with
  | a0::a1::a2::a3::a4::a5::a6::a7::a8::a9::a10::a11::a12::a13::a14::a15::a16::a17::a18::[],_=>
    simp at hh
    obtain ⟨rfl,rfl,rfl,rfl⟩:=hh
    by_cases hlt:i<n
    · have hlt':(i:Int)<(n:Int):=by omega
      obtain ⟨a',hix,hld⟩:=hel i hlt
      have hld':=hld h' hk
      simp [push_cast,hlt,hlt',hix,hld']
      refine je9 (by simp [fn70]) (hcl i hlt h' hk) fun w h2 ⟨hw,hk2⟩=> ?_
      subst hw
      cases hp:p i with
      | true=>
        simp [push_cast]
        exact ⟨(fstI_some hlt hp hno).symm,hk.trans hk2⟩
      | false=>
        have wi:IntKind.i64.wrap ((i:Int) + 1)=(i:Int) + 1:=wrap64 (by omega) (by omega)
        simp [push_cast,wi]
        exact ⟨m - 1,by omega,by simp,i + 1,by omega,hk.trans hk2,fun j hj=>by
          rcases Nat.lt_or_ge j i with h1 | h1
          · exact hno j h1
          · rw [show j=i by omega]; exact hp,by simp⟩
    · have hlt':¬(i:Int)<(n:Int):=by omega
      simp [push_cast,hlt,hlt']
      exact ⟨(fstI_none fun j hj=>hno j (by omega)).symm,hk⟩
def idxRI (h:AH) (v f:AV) (n:Nat) (p:Nat→Bool) (m:Nat) (e':Env) (h':AH):Prop:=
  e'.length=19∧∃i:Nat,i + m=n∧Keeps h h'∧(∀j,j<i→p j=false)∧(e'.getD 0 .undef=v∧e'.getD 1 .undef=f∧e'.getD 7 .undef= .int .i64 n∧e'.getD 8 .undef= .int .i64 i)
set_option maxHeartbeats 4000000 in
theorem idxR_ret (W:World) (h:AH) (v:AV) (n:Nat) (caps:List AV) (p:Nat→Bool) (el:Nat→AV) (hn:n<9223372036854775807)
    (hlen:aLen (CC W) h 86 v=some (.int .i64 n))
    (hel:∀i,i<n→∃a',aIndexAddr (CC W) 86 v (.int .i64 (i:Int))=some (.ptr (some a'))∧∀h',Keeps h h'→aLoad (CC W) h' 96 a'=some (el i))
    (hcl:∀i,i<n→∀h',Keeps h h'→ACall (CC W) 50 (el i::caps) h' (fun w h''=>w= .bool (p i)∧Keeps h' h'') (fun _ _=>False)):
    ACall (CC W) 49 [v,.fn (.func 50) [] caps] h (fun w h'=>w= .int .i64 (fstI p n)∧Keeps h h') (fun _ _=>False):=by
  refine jj9 (cc_ok W) (fn49 W) (by simp only [Tryz.f49]; rfl) rfl rfl ?_
  simp [push_cast,hlen]
  refine loopN (cc_ok W) (idxRI h v (.fn (.func 50) [] caps) n p) n ⟨by simp,0,by simp,Keeps.refl _,fun j hj=>by omega,by simp⟩ ?_
  rintro m e' h' ⟨hlen,i,him,hk,hno,hh⟩
  match e',hlen with
  | a0::a1::a2::a3::a4::a5::a6::a7::a8::a9::a10::a11::a12::a13::a14::a15::a16::a17::a18::[],_=>
    simp at hh
    obtain ⟨rfl,rfl,rfl,rfl⟩:=hh
    by_cases hlt:i<n
    · have hlt':(i:Int)<(n:Int):=by omega
      obtain ⟨a',hix,hld⟩:=hel i hlt
      have hld':=hld h' hk
      simp [push_cast,hlt,hlt',hix,hld']
      refine je9 (by simp [fn50]) (hcl i hlt h' hk) fun w h2 ⟨hw,hk2⟩=> ?_
      subst hw
      cases hp:p i with
      | true=>
        simp [push_cast]
        exact ⟨(fstI_some hlt hp hno).symm,hk.trans hk2⟩
      | false=>
        have wi:IntKind.i64.wrap ((i:Int) + 1)=(i:Int) + 1:=wrap64 (by omega) (by omega)
        simp [push_cast,wi]
        exact ⟨m - 1,by omega,by simp,i + 1,by omega,hk.trans hk2,fun j hj=>by
          rcases Nat.lt_or_ge j i with h1 | h1
          · exact hno j h1
          · rw [show j=i by omega]; exact hp,by simp⟩
    · have hlt':¬(i:Int)<(n:Int):=by omega
      simp [push_cast,hlt,hlt']
      exact ⟨(fstI_none fun j hj=>hno j (by omega)).symm,hk⟩
structure Slt where
  nm:List UInt8
  ino:Int
def Slt.cells (s:Slt):List AV:=[.str s.nm,.int .i64 s.ino]
def sltCells (l:List Slt):List AV:=l.flatMap Slt.cells
abbrev Blk:=List (Int×List UInt8)
structure Nd where
  kind:Int
  links:Int
  size:Int
  blocks:Option Blk
  slots:List Slt
structure NR where
  k:Nat
  m:Option Nat
  s:Option Nat
def entOf (x:Int×List UInt8):AV×AV:=(.int .i64 x.1,.str x.2)
def MapIs (h:AH) (v:AV):Option Nat→Option Blk→Prop
  | none,none=>v= .map none
  | some km,some l=>v= .map (some km)∧∃es clock,h.get km=some (.map es clock)∧OkEs es clock∧es.map (fun e=>(e.key,e.val))=l.map entOf
  | _,_=>False
def SlotsIs (h:AH) (v:AV):Option Nat→List Slt→Prop
  | none,l=>l=[]∧v= .sl none 0 0 none
  | some ks,l=>∃cap sp,v= .sl (some (.new ks 0)) l.length cap (some 2)∧h.get ks=some (.cells (sltCells l ++ sp) 159)∧(sltCells l ++ sp).length=2 * cap
def NodeIs (h:AH) (r:NR) (nd:Nd):Prop:=
  ∃mv sv,h.get r.k=some (.cells [.int .i64 nd.kind,.int .i64 nd.links,.int .i64 nd.size,mv,sv] 93)∧MapIs h mv r.m nd.blocks∧SlotsIs h sv r.s nd.slots
def NR.ids (r:NR):List Nat:=r.k::(r.m.toList ++ r.s.toList)
theorem MapIs.same {h h':AH} {v:AV} {m:Option Nat} {b:Option Blk} (hi:MapIs h v m b) (hk:∀k,m=some k→h'.get k=h.get k):MapIs h' v m b:=by
  cases m with
  | none=>cases b<;>exact hi
  | some km=>
    cases b with
    | none=>exact hi
    | some l=>
      obtain ⟨h1,es,clock,h2,h3⟩:=hi
      exact ⟨h1,es,clock,(hk km rfl).trans h2,h3⟩
theorem SlotsIs.same {h h':AH} {v:AV} {s:Option Nat} {l:List Slt} (hi:SlotsIs h v s l) (hk:∀k,s=some k→h'.get k=h.get k):SlotsIs h' v s l:=by
  cases s with
  | none=>exact hi
  | some ks=>
    obtain ⟨cap,sp,h1,h2,h3⟩:=hi
    exact ⟨cap,sp,h1,(hk ks rfl).trans h2,h3⟩
theorem NodeIs.same {h h':AH} {r:NR} {nd:Nd} (hi:NodeIs h r nd) (hk:∀k∈r.ids,h'.get k=h.get k):NodeIs h' r nd:=by
  obtain ⟨mv,sv,h1,h2,h3⟩:=hi
  exact ⟨mv,sv,(hk r.k (by simp [NR.ids])).trans h1,h2.same fun k e=>hk k (by simp [NR.ids,e]),h3.same fun k e=>hk k (by simp [NR.ids,e])⟩
theorem sltCells_at {l:List Slt} {i:Nat} {x:Slt} (hx:l[i]? =some x) (sp:List AV):((sltCells l ++ sp).drop (2 * i)).take 2=x.cells:=by
  induction l generalizing i with
  | nil=>simp at hx
  | cons y l ih=>
    cases i with
    | zero=>simp at hx; subst hx; simp [sltCells,Slt.cells]
    | succ i=>
      have:=ih (i:=i) (by simpa using hx)
      rw [show 2 * (i + 1)=2 * i + 2 by omega]
      simp only [sltCells,List.flatMap_cons,Slt.cells,List.cons_append,List.nil_append,List.drop_succ_cons] at this ⊢
      exact this
theorem sltCells_length (l:List Slt):(sltCells l).length=2 * l.length:=by
  induction l with
  | nil=>rfl
  | cons y l ih=>simp only [sltCells,List.flatMap_cons,List.length_append,List.length_cons] at ih ⊢; simp only [Slt.cells,List.length_cons,List.length_nil]; omega
theorem sltCells_ino {l:List Slt} {i:Nat} {x:Slt} (hx:l[i]? =some x) (sp:List AV):(sltCells l ++ sp)[2 * i + 1]? =some (.int .i64 x.ino):=by
  have h1:=sltCells_at hx sp
  have h2:(((sltCells l ++ sp).drop (2 * i)).take 2)[1]? =some (.int .i64 x.ino):=by rw [h1]; rfl
  simpa [List.getElem?_take,List.getElem?_drop,Nat.add_comm] using h2
theorem SlotsIs.at {h:AH} {v:AV} {s:Option Nat} {l:List Slt} (hi:SlotsIs h v s l) {j:Nat} {x:Slt} (hx:l[j]? =some x):∃ks,s=some ks∧∃cap sp,v= .sl (some (.new ks 0)) l.length cap (some 2)∧h.get ks=some (.cells (sltCells l ++ sp) 159)∧(sltCells l ++ sp).length=2 * cap:=by
  cases s with
  | none=>obtain ⟨e,_⟩:=hi; rw [e] at hx; simp at hx
  | some ks=>exact ⟨ks,rfl,hi⟩
section
variable {W:World} {h:AH}
theorem idx_slt {ks n c i:Nat} {g:Option Nat} (hi:i<n):aIndexAddr (CC W) 91 (.sl (some (.new ks 0)) n c g) (.int .i64 (i:Int))=some (.ptr (some (.new ks (2 * i)))):=by
  simp only [aIndexAddr,kind91,size159]
  rw [if_pos (by omega)]
  simp [AA.add,Nat.mul_comm]
theorem ld_slt {ks i:Nat} {l:List Slt} {x:Slt} {sp:List AV} {t:TypeId} (hg:h.get ks=some (.cells (sltCells l ++ sp) t)) (hx:l[i]? =some x):aLoad (CC W) h 159 (.new ks (2 * i))=some (.agg x.cells):=by
  have hi:=(List.getElem?_eq_some_iff.1 hx).1
  have hl:=sltCells_length l
  unfold aLoad
  rw [ty159]
  show (aCells (CC W) h (.new ks (2 * i)) 2).map AV.agg=_
  simp only [aCells,hg]
  rw [if_pos (by simp only [List.length_append]; omega),sltCells_at hx]
  rfl
end
def RetK (C:Cx) (f:FuncId) (args:List AV) (h:AH) (v:AV):Prop:=ACall C f args h (fun w h'=>w=v∧Keeps h h') (fun _ _=>False)
theorem jf9 {C:Cx} {Q:Post} {ks:List Fr} {e:Env} {h:AH} {ops:Array Oper} {rest:List Oper} {dst:Option Tmp} {f:FuncId} {args:List AV} {v:AV} (hf:(C.fn f).isSome=true) (hc:RetK C f args h v)
    (hk:∀h',Keeps h h'→Rg C Q ops rest ks (za9 e dst v) h'):CallK C Q ops rest ks e dst f args h:=
  je9 hf hc fun w h' hw=>by rw [hw.1]; exact hk h' hw.2
def placeR (l:List Slt) (nm:List UInt8):Int:=fstI (fun i=>match l[i]? with | some s=>s.nm==nm | none=>false) l.length
theorem box9 {h:AH} {s:List UInt8}:aBox h 9 (.str s)=some (.ptr (some (.new h.next 0)),h.push (.cells [.str s] 9)):=rfl
theorem box_slt {h:AH} {x:Slt}:aBox h 159 (.agg x.cells)=some (.ptr (some (.new h.next 0)),h.push (.cells x.cells 159)):=rfl
set_option maxHeartbeats 4000000 in
theorem place1_ret (W:World) (h:AH) (x:Slt) (kb:Nat) (nm:List UInt8) (hb:kb<h.next) (hg:h.get kb=some (.cells [.str nm] 9)):
    ACall (CC W) 116 [.agg x.cells,.ptr (some (.new kb 0))] h (fun w h'=>w= .bool (x.nm==nm)∧Keeps h h') (fun _ _=>False):=by
  refine jj9 (cc_ok W) (fn116 W) (by simp only [Tryz.f116]; rfl) rfl rfl ?_
  have hg1:(h.push (.cells x.cells 159)).get h.next=some (.cells x.cells 159):=by simp
  have hg2:(h.push (.cells x.cells 159)).get kb=some (.cells [.str nm] 9):=by rw [AH.get_push,if_neg (by omega)]; exact hg
  have hk:=Keeps.push h (.cells x.cells 159)
  have hbx:=box_slt (h:=h) (x:=x)
  generalize h.push (.cells x.cells 159)=h1 at hg1 hg2 hk hbx
  simp only [Slt.cells] at hg1 hbx
  simp [push_cast,hbx,fa159_0,ld9,ji9 hg1,ji9 hg2,Slt.cells,aStr]
  exact hk
set_option maxHeartbeats 4000000 in
theorem place_ret (W:World) (h:AH) (r:NR) (nd:Nd) (hn:NodeIs h r nd) (hlow:∀k∈r.ids,k<h.next) (nm:List UInt8) (hl:nd.slots.length<1099511627776):
    RetK (CC W) 82 [.ptr (some (.new r.k 0)),.str nm] h (.int .i64 (placeR nd.slots nm)):=by
  refine jj9 (cc_ok W) (fn82 W) (by simp only [Tryz.f82]; rfl) rfl rfl ?_
  have hk1:=Keeps.push h (.cells [.str nm] 9)
  have hg1:(h.push (.cells [.str nm] 9)).get h.next=some (.cells [.str nm] 9):=by simp
  have hlt1:h.next<(h.push (.cells [.str nm] 9)).next:=by simp
  have hn1:NodeIs (h.push (.cells [.str nm] 9)) r nd:=hn.same fun k hk=>hk1.2 k (hlow k hk)
  have hbx:=box9 (h:=h) (s:=nm)
  have hlow1:∀k∈r.ids,k<(h.push (.cells [.str nm] 9)).next:=fun k hk=>Nat.lt_of_lt_of_le (hlow k hk) hk1.1
  generalize h.push (.cells [.str nm] 9)=h1 at hk1 hg1 hn1 hbx hlow1 hlt1
  generalize h.next=kb at hg1 hbx hlt1
  obtain ⟨mv,sv,hc,hm,hs⟩:=hn1
  simp [push_cast,hbx,fa93_4,ld91,ji9 hc,jd9]
  have hlen:aLen (CC W) h1 91 sv=some (.int .i64 nd.slots.length):=by
    cases hrs:r.s with
    | none=>rw [hrs] at hs; obtain ⟨e1,rfl⟩:=hs; rw [e1]; simp [aLen,kind91]
    | some ks=>rw [hrs] at hs; obtain ⟨cap,sp,rfl,_⟩:=hs; simp [aLen,kind91]
  refine je9 (by simp [fn115]) (idxS_ret W h1 sv nd.slots.length [.ptr (some (.new kb 0))] (fun i=>match nd.slots[i]? with | some s=>s.nm==nm | none=>false) (fun i=>match nd.slots[i]? with | some s=> .agg s.cells | none=> .bad) (by omega) hlen (fun i hi=> ?_) (fun i hi h' hk'=> ?_)) fun w h2 ⟨hw,hk2⟩=> ?_
  · cases hrs:r.s with
    | none=>rw [hrs] at hs; obtain ⟨e1,_⟩:=hs; rw [e1] at hi; simp at hi
    | some ks=>
      rw [hrs] at hs
      obtain ⟨cap,sp,rfl,hg,hcap⟩:=hs
      have hx:nd.slots[i]? =some nd.slots[i]:=by simp [hi]
      refine ⟨_,idx_slt hi,fun h' hk'=> ?_⟩
      rw [hx]
      exact ld_slt ((hk'.2 ks (hlow1 ks (by simp [NR.ids,hrs]))).trans hg) hx
  · have hx:nd.slots[i]? =some nd.slots[i]:=by simp [hi]
    simp only [hx]
    exact place1_ret W h' _ kb nm (Nat.lt_of_lt_of_le hlt1 hk'.1) ((hk'.2 kb hlt1).trans hg1)
  · subst hw
    simp [push_cast]
    exact ⟨rfl,hk1.trans hk2⟩
structure MS where
  nodes:List Nd
  data:Int
structure MR where
  km:Nat
  kn:Nat
  kr:Nat
  nd:List NR
def MR.ids (R:MR):List Nat:=R.km::R.kn::R.kr::R.nd.flatMap NR.ids
def rowCells (km:Nat):List AV:=[
  .int .i64 1,.bool false,.fn (.func 35) [.ptr (some (.new km 0))] [],
  .int .i64 2,.bool false,.fn (.func 35) [.ptr (some (.new km 0))] [],
  .int .i64 3,.bool false,.fn (.func 36) [.ptr (some (.new km 0))] [],
  .int .i64 4,.bool false,.fn (.func 37) [.ptr (some (.new km 0))] [],
  .int .i64 5,.bool false,.fn (.func 38) [.ptr (some (.new km 0))] [],
  .int .i64 6,.bool false,.fn (.func 39) [.ptr (some (.new km 0))] [],
  .int .i64 7,.bool false,.fn (.func 40) [.ptr (some (.new km 0))] [],
  .int .i64 8,.bool true,.fn (.func 41) [.ptr (some (.new km 0))] [],
  .int .i64 9,.bool false,.fn (.func 42) [.ptr (some (.new km 0))] [],
  .int .i64 10,.bool false,.fn (.func 43) [.ptr (some (.new km 0))] [],
  .int .i64 11,.bool true,.fn (.func 44) [.ptr (some (.new km 0))] []]
def ptrCells (l:List NR):List AV:=l.map fun r=> .ptr (some (.new r.k 0))
structure MIs (h:AH) (R:MR) (M:MS):Prop where
  mod:h.get R.km=some (.cells [.sl (some (.new R.kn 0)) M.nodes.length M.nodes.length none,.int .i64 M.data,.sl (some (.new R.kr 0)) 11 11 none] 88)
  ptrs:h.get R.kn=some (.cells (ptrCells R.nd) 89)
  rows:h.get R.kr=some (.cells (rowCells R.km) 96)
  len:R.nd.length=M.nodes.length
  each:∀(i:Nat) r nd,R.nd[i]? =some r→M.nodes[i]? =some nd→NodeIs h r nd
  low:∀k∈R.ids,k<h.next
  heads:R.km≠R.kn∧R.km≠R.kr∧R.kn≠R.kr
  hd:∀(i:Nat) r,R.nd[i]? =some r→∀k∈r.ids,k≠R.km∧k≠R.kn∧k≠R.kr
  own:∀(i:Nat) r,R.nd[i]? =some r→r.ids.Nodup
  sep:∀(i j:Nat) r r',R.nd[i]? =some r→R.nd[j]? =some r'→i≠j→∀k∈r.ids,k ∉ r'.ids
theorem mem_ids {R:MR} {i:Nat} {r:NR} (hr:R.nd[i]? =some r) {k:Nat} (hk:k∈r.ids):k∈R.ids:=by
  simp only [MR.ids,List.mem_cons,List.mem_flatMap]
  exact .inr (.inr (.inr ⟨r,List.mem_of_getElem? hr,hk⟩))
theorem MIs.keeps {h h':AH} {R:MR} {M:MS} (hi:MIs h R M) (hk:Keeps h h'):MIs h' R M where
  mod:=(hk.2 _ (hi.low _ (by simp [MR.ids]))).trans hi.mod
  ptrs:=(hk.2 _ (hi.low _ (by simp [MR.ids]))).trans hi.ptrs
  rows:=(hk.2 _ (hi.low _ (by simp [MR.ids]))).trans hi.rows
  len:=hi.len
  each:=fun i r nd hr hn=>(hi.each i r nd hr hn).same fun k hm=>hk.2 k (hi.low k (mem_ids hr hm))
  low:=fun k hm=>Nat.lt_of_lt_of_le (hi.low k hm) hk.1
  heads:=hi.heads
  hd:=hi.hd
  own:=hi.own
  sep:=hi.sep
structure MOk (M:MS):Prop where
  root:∀nd,M.nodes[0]? =some nd→nd.kind=2
  some:0<M.nodes.length
  few:M.nodes.length≤64
  short:∀nd∈M.nodes,nd.slots.length<1099511627776
  size:∀nd∈M.nodes,0≤nd.size∧nd.size<1099511627776
  inos:∀nd∈M.nodes,∀s∈nd.slots,0≤s.ino∧s.ino<M.nodes.length
def findR (M:MS):List (List UInt8)→Int→Int×Int
  | [],q=>(q,0)
  | s::l,q=>match M.nodes[q.toNat]? with
    | none=>(0,303)
    | some nd=>if nd.kind=2 then
        if placeR nd.slots s<0 then (0,301) else
        match nd.slots[(placeR nd.slots s).toNat]? with
        | some x=>findR M l x.ino
        | none=>(0,301)
      else (0,303)
theorem findR_cons {M:MS} {s:List UInt8} {l:List (List UInt8)} {q:Int}:findR M (s::l) q=match M.nodes[q.toNat]? with
    | none=>(0,303)
    | some nd=>if nd.kind=2 then
        if placeR nd.slots s<0 then (0,301) else
        match nd.slots[(placeR nd.slots s).toNat]? with
        | some x=>findR M l x.ino
        | none=>(0,301)
      else (0,303):=rfl
theorem findR_append {M:MS}:∀(l m:List (List UInt8)) (q:Int),findR M (l ++ m) q=if (findR M l q).2=0 then findR M m (findR M l q).1 else (0,(findR M l q).2)
  | [],m,q=>by simp [findR]
  | s::l,m,q=>by
    rw [List.cons_append,findR_cons,findR_cons]
    split
    · simp
    · split
      · split
        · simp
        · split
          · exact findR_append l m _
          · simp
      · simp
theorem fstI_lt {p:Nat→Bool} {n:Nat} (h:¬fstI p n<0):∃i:Nat,fstI p n=i∧i<n∧p i=true:=by
  unfold fstI at h ⊢
  split
  · rename_i i hi
    have:=List.find?_range_eq_some.1 hi
    exact ⟨i,rfl,by simpa using this.2.1,this.1⟩
  · rename_i hi; rw [hi] at h; simp at h
theorem placeR_lt {l:List Slt} {s:List UInt8} (h:¬placeR l s<0):∃(i:Nat) (x:Slt),placeR l s=i∧l[i]? =some x∧x.nm=s:=by
  obtain ⟨i,h1,h2,h3⟩:=fstI_lt h
  have hx:l[i]? =some l[i]:=by simp [h2]
  simp only [hx,beq_iff_eq] at h3
  exact ⟨i,l[i],h1,hx,h3⟩
theorem findR_lt {M:MS} (ok:MOk M):∀(l:List (List UInt8)) (q:Int),0≤q→q<M.nodes.length→0≤(findR M l q).1∧(findR M l q).1<M.nodes.length
  | [],q,h0,h1=>⟨h0,h1⟩
  | s::l,q,h0,h1=>by
    have:=ok.some
    unfold findR
    split
    · simp; omega
    · rename_i nd hnd
      split
      · split
        · simp; omega
        · split
          · rename_i x hx
            obtain ⟨a,b⟩:=ok.inos nd (List.mem_of_getElem? hnd) x (List.mem_of_getElem? hx)
            exact findR_lt ok l x.ino a b
          · simp; omega
      · simp; omega
section
variable {W:World} {h:AH}
theorem idx_nd {kn n i:Nat} (hi:i<n):aIndexAddr (CC W) 85 (.sl (some (.new kn 0)) n n none) (.int .i64 (i:Int))=some (.ptr (some (.new kn i))):=by
  simp only [aIndexAddr,kind85,size89]
  rw [if_pos (by omega)]
  simp [AA.add]
theorem cell_nd {R:MR} {M:MS} (hm:MIs h R M) {i:Nat} {r:NR} (hr:R.nd[i]? =some r):aCell (CC W) h (.new R.kn i)=some (.ptr (some (.new r.k 0))):=by
  rw [ji9 hm.ptrs]
  simp [ptrCells,hr]
end
structure MStep (h h':AH) (R R':MR):Prop where
  nx:h.next≤h'.next
  off:∀k,k<h.next→k ∉ R.ids→h'.get k=h.get k
  ids:∀k∈R'.ids,k∈R.ids∨h.next≤k
  hds:R'.km=R.km∧R'.kn=R.kn∧R'.kr=R.kr
theorem MStep.refl {h h':AH} {R:MR} (hk:Keeps h h'):MStep h h' R R:=⟨hk.1,fun k hk1 _=>hk.2 k hk1,fun _ hk1=> .inl hk1,rfl,rfl,rfl⟩
theorem MStep.trans {h h' h'':AH} {R R' R'':MR} (h1:MStep h h' R R') (h2:MStep h' h'' R' R''):MStep h h'' R R'' where
  nx:=Nat.le_trans h1.nx h2.nx
  off:=fun k hk hn=>by
    rw [h2.off k (Nat.lt_of_lt_of_le hk h1.nx) (fun hc=>by rcases h1.ids k hc with h3 | h3; exact hn h3; omega)]
    exact h1.off k hk hn
  ids:=fun k hk=>by
    rcases h2.ids k hk with h3 | h3
    · exact h1.ids k h3
    · have:=h1.nx; exact .inr (by omega)
  hds:=⟨h2.hds.1.trans h1.hds.1,h2.hds.2.1.trans h1.hds.2.1,h2.hds.2.2.trans h1.hds.2.2⟩
def MS.set (M:MS) (i:Nat) (nd:Nd):MS:={M with nodes:=M.nodes.set i nd}
def MR.set (R:MR) (i:Nat) (r:NR):MR:={R with nd:=R.nd.set i r}
theorem MIs.set {h h':AH} {R:MR} {M:MS} (hm:MIs h R M) {i:Nat} {r r':NR} {nd':Nd} (hr:R.nd[i]? =some r)
    (hmod:h'.get R.km=h.get R.km) (hrow:h'.get R.kr=h.get R.kr) (hptr:h'.get R.kn=some (.cells (ptrCells (R.nd.set i r')) 89))
    (hoth:∀(j:Nat) r0,j≠i→R.nd[j]? =some r0→∀k∈r0.ids,h'.get k=h.get k) (hn:NodeIs h' r' nd')
    (hids:∀k∈r'.ids,(k∈r.ids∨h.next≤k)∧k<h'.next) (hnod:r'.ids.Nodup) (hnx:h.next≤h'.next):MIs h' (R.set i r') (M.set i nd'):=by
  have hil:i<R.nd.length:=(List.getElem?_eq_some_iff.1 hr).1
  have hget:∀(j:Nat) r0,(R.set i r').nd[j]? =some r0→(j=i∧r0=r')∨(j≠i∧R.nd[j]? =some r0):=fun j r0 hj=>by
    simp only [MR.set,List.getElem?_set] at hj
    split at hj
    · rename_i e; exact .inl ⟨e.symm,(Option.some.inj hj).symm⟩
    · rename_i e; exact .inr ⟨fun h=>e h.symm,hj⟩
  have hold:∀k∈r'.ids,k<h.next→k∈r.ids:=fun k hk hlt=>by rcases (hids k hk).1 with h1 | h1; exact h1; omega
  refine ⟨?_,?_,?_,?_,?_,?_,hm.heads,?_,?_,?_⟩
  · simp only [MR.set,MS.set,List.length_set]; exact hmod.trans hm.mod
  · exact hptr
  · exact hrow.trans hm.rows
  · simp only [MR.set,MS.set,List.length_set]; exact hm.len
  · intro j r0 nd0 hj hj2
    rcases hget j r0 hj with ⟨rfl,rfl⟩ | ⟨hne,hj'⟩
    · simp only [MS.set,List.getElem?_set] at hj2
      have:=hm.len
      rw [if_pos trivial,if_pos (by omega)] at hj2
      cases hj2; exact hn
    · simp only [MS.set,List.getElem?_set] at hj2
      rw [if_neg (fun e=>hne e.symm)] at hj2
      exact (hm.each j r0 nd0 hj' hj2).same (hoth j r0 hne hj')
  · intro k hk
    simp only [MR.ids,List.mem_cons,List.mem_flatMap] at hk
    rcases hk with h1 | h1 | h1 | ⟨r0,hr0,hk0⟩
    · have:=hm.low k (by simp [MR.ids,h1,MR.set]); omega
    · have:=hm.low k (by simp [MR.ids,h1,MR.set]); omega
    · have:=hm.low k (by simp [MR.ids,h1,MR.set]); omega
    · obtain ⟨j,hj,he⟩:=List.getElem_of_mem hr0
      rcases hget j r0 (by rw [List.getElem?_eq_getElem hj,he]) with ⟨_,rfl⟩ | ⟨_,hj'⟩
      · exact (hids k hk0).2
      · have:=hm.low k (mem_ids hj' hk0); omega
  · intro j r0 hj k hk
    rcases hget j r0 hj with ⟨_,rfl⟩ | ⟨_,hj'⟩
    · rcases (hids k hk).1 with h1 | h1
      · exact hm.hd i r hr k h1
      · have a:=hm.low R.km (by simp [MR.ids]); have b:=hm.low R.kn (by simp [MR.ids]); have c:=hm.low R.kr (by simp [MR.ids])
        exact ⟨by simp only [MR.set]; omega,by simp only [MR.set]; omega,by simp only [MR.set]; omega⟩
    · exact hm.hd j r0 hj' k hk
  · intro j r0 hj
    rcases hget j r0 hj with ⟨_,rfl⟩ | ⟨_,hj'⟩
    · exact hnod
    · exact hm.own j r0 hj'
  · intro j1 j2 r1 r2 h1 h2 hne k hk hk2
    rcases hget j1 r1 h1 with ⟨rfl,rfl⟩ | ⟨hn1,h1'⟩<;>rcases hget j2 r2 h2 with ⟨rfl,rfl⟩ | ⟨hn2,h2'⟩
    · exact hne rfl
    · have hlow:=hm.low k (mem_ids h2' hk2)
      exact hm.sep j1 j2 r r2 hr h2' hne k (hold k hk hlow) hk2
    · have hlow:=hm.low k (mem_ids h1' hk)
      exact hm.sep j1 j2 r1 r h1' hr hne k hk (hold k hk2 hlow)
    · exact hm.sep j1 j2 r1 r2 h1' h2' hne k hk hk2
theorem MStep.set {h h':AH} {R:MR} {i:Nat} {r r':NR} (hr:R.nd[i]? =some r) (hids:∀k∈r'.ids,k∈r.ids∨h.next≤k) (hnx:h.next≤h'.next) (hoff:∀k,k<h.next→k ∉ R.ids→h'.get k=h.get k):MStep h h' R (R.set i r'):=by
  refine ⟨hnx,hoff,fun k hk=> ?_,rfl,rfl,rfl⟩
  simp only [MR.ids,List.mem_cons,List.mem_flatMap,MR.set] at hk
  rcases hk with h1 | h1 | h1 | ⟨r0,hr0,hk0⟩
  · left; simp [MR.ids,h1]
  · left; simp [MR.ids,h1]
  · left; simp [MR.ids,h1]
  · rcases List.mem_or_eq_of_mem_set hr0 with h2 | rfl
    · left; simp only [MR.ids,List.mem_cons,List.mem_flatMap]; exact .inr (.inr (.inr ⟨r0,h2,hk0⟩))
    · rcases hids k hk0 with h2 | h2
      · exact .inl (mem_ids hr h2)
      · exact .inr h2
theorem MIs.node {h:AH} {R:MR} {M:MS} (hm:MIs h R M) {i:Nat} (hi:i<M.nodes.length):∃r nd,R.nd[i]? =some r∧M.nodes[i]? =some nd∧NodeIs h r nd:=by
  have h1:R.nd[i]? =some (R.nd[i]'(by rw [hm.len]; exact hi)):=by simp [hm.len,hi]
  have h2:M.nodes[i]? =some M.nodes[i]:=by simp [hi]
  exact ⟨_,_,h1,h2,hm.each i _ _ h1 h2⟩
def FindI (h:AH) (v mv:AV) (M:MS) (l:List (List UInt8)) (m:Nat) (e':Env) (h':AH):Prop:=
  e'.length=44∧∃i q:Nat,i + m=l.length∧Keeps h h'∧q<M.nodes.length∧findR M (l.drop i) q=findR M l 0∧
    (e'.getD 0 .undef=mv∧e'.getD 6 .undef= .int .i64 q∧e'.getD 11 .undef=v∧e'.getD 12 .undef= .int .i64 l.length∧e'.getD 13 .undef= .int .i64 i)
set_option maxHeartbeats 8000000 in
theorem find_ret (W:World) (h:AH) (R:MR) (M:MS) (hm:MIs h R M) (ok:MOk M) (v:AV) (l:List (List UInt8)) (hs:StrS W h v l) (hl:l.length<8796093022207):
    RetK (CC W) 78 [.ptr (some (.new R.km 0)),v] h (.tup [.int .i64 (findR M l 0).1,.int .i64 (findR M l 0).2]):=by
  refine jj9 (cc_ok W) (fn78 W) (by simp only [Tryz.f78]; rfl) rfl rfl ?_
  obtain ⟨sa,sc,sg,rfl⟩:=hs.len
  have hlen:aLen (CC W) h 37 (.sl sa l.length sc sg)=some (.int .i64 l.length):=by simp [aLen,kind37]
  have hso:=ok.some
  have hfew:=ok.few
  simp [push_cast,hlen]
  refine loopN (cc_ok W) (FindI h (.sl sa l.length sc sg) (.ptr (some (.new R.km 0))) M l) l.length ⟨by simp,0,0,by simp,Keeps.refl _,hso,by simp,by simp⟩ ?_
  rintro m e' h' ⟨hlen',i,q,him,hk,hq,hf,hh⟩
  match e',hlen' with
  | a0::a1::a2::a3::a4::a5::a6::a7::a8::a9::a10::a11::a12::a13::a14::a15::a16::a17::a18::a19::a20::a21::a22::a23::a24::a25::a26::a27::a28::a29::a30::a31::a32::a33::a34::a35::a36::a37::a38::a39::a40::a41::a42::a43::[],_=>
    simp at hh
    obtain ⟨rfl,rfl,rfl,rfl,rfl⟩:=hh
    have hm':=hm.keeps hk
    by_cases hlt:i<l.length
    · have hlt':(i:Int)<(l.length:Int):=by omega
      have hx:l[i]? =some l[i]:=by simp [hlt]
      have hdrop:l.drop i=l[i]::l.drop (i + 1):=List.drop_eq_getElem_cons hlt
      generalize l[i]=s at hx hdrop
      obtain ⟨a',hix,hld⟩:=(hs.keeps hk).at hx
      obtain ⟨r,nd,hr,hnd,hn⟩:=hm'.node hq
      have hcn:=cell_nd (W:=W) hm' hr
      obtain ⟨mv,sv,hc,hmp,hsl⟩:=id hn
      have hshort:=ok.short nd (List.mem_of_getElem? hnd)
      rw [hdrop,findR_cons] at hf
      simp only [Int.toNat_natCast,hnd] at hf
      simp [push_cast,hlt,hlt',hix,hld,fa88_0,ld85,ji9 hm'.mod,jd9,idx_nd hq,ld89,hcn,fa93_0,ld3,ji9 hc]
      have hlow':∀k∈r.ids,k<h'.next:=fun k hk1=>hm'.low k (mem_ids hr hk1)
      by_cases hkd:nd.kind=2
      · simp only [hkd,if_true] at hf
        simp [hkd]
        refine jf9 (by simp [fn82]) (place_ret W h' r nd hn hlow' s hshort) fun h2 hk2=> ?_
        by_cases hp:placeR nd.slots s<0
        · simp only [hp,if_true] at hf
          simp [push_cast,hp]
          rw [←hf]
          exact ⟨⟨rfl,rfl⟩,hk.trans hk2⟩
        · simp only [hp,if_false] at hf
          obtain ⟨j,x,e,hxj,_⟩:=placeR_lt hp
          rw [e] at hf hp ⊢
          simp only [Int.toNat_natCast,hxj] at hf
          have hm2:=hm'.keeps hk2
          obtain ⟨mv2,sv2,hc2,hmp2,hsl2⟩:=hm2.each q r nd hr hnd
          obtain ⟨ks,hrs,cap,sp,rfl,hg,hcap⟩:=SlotsIs.at hsl2 hxj
          have hjl:j<nd.slots.length:=(List.getElem?_eq_some_iff.1 hxj).1
          have wi:IntKind.i64.wrap ((i:Int) + 1)=(i:Int) + 1:=wrap64 (by omega) (by omega)
          obtain ⟨b0,b1⟩:=ok.inos nd (List.mem_of_getElem? hnd) x (List.mem_of_getElem? hxj)
          simp [push_cast,hp,fa93_4,ld91,ji9 hc2,jd9,idx_slt hjl,fa159_1,ld3,ji9 hg,sltCells_ino hxj,wi]
          refine ⟨m - 1,by omega,by simp,i + 1,x.ino.toNat,by omega,hk.trans hk2,by omega,?_,?_⟩
          · rw [←hf,show ((x.ino.toNat:Nat):Int)=x.ino by omega]
          · simp; omega
      · simp only [hkd,if_false] at hf
        simp [push_cast,hkd]
        rw [←hf]
        exact ⟨⟨rfl,rfl⟩,hk⟩
    · have hlt':¬(i:Int)<(l.length:Int):=by omega
      have hi:i=l.length:=by omega
      simp [push_cast,hlt,hlt']
      rw [hi,List.drop_length] at hf
      rw [←hf]
      exact ⟨⟨rfl,rfl⟩,hk⟩
def fileR (M:MS) (l:List (List UInt8)):Int×Int:=
  if (findR M l 0).2=0 then
    match M.nodes[(findR M l 0).1.toNat]? with
    | some nd=>if nd.kind=2 then (0,304) else findR M l 0
    | none=>(0,304)
  else (0,(findR M l 0).2)
def MR.at (R:MR) (i:Int):AV:=match R.nd[i.toNat]? with
  | some r=> .ptr (some (.new r.k 0))
  | none=> .bad
def fileV (R:MR) (M:MS) (l:List (List UInt8)):AV:=
  .tup [if (fileR M l).2=0 then R.at (fileR M l).1 else .ptr none,.int .i64 (fileR M l).1,.int .i64 (fileR M l).2]
set_option maxHeartbeats 8000000 in
theorem file_ret (W:World) (h:AH) (R:MR) (M:MS) (hm:MIs h R M) (ok:MOk M) (v:AV) (l:List (List UInt8)) (hs:StrS W h v l) (hl:l.length<8796093022207):
    RetK (CC W) 72 [.ptr (some (.new R.km 0)),v] h (fileV R M l):=by
  refine jj9 (cc_ok W) (fn72 W) (by simp only [Tryz.f72]; rfl) rfl rfl ?_
  simp [push_cast]
  refine jf9 (by simp [fn78]) (find_ret W h R M hm ok v l hs hl) fun h1 hk1=> ?_
  have hm1:=hm.keeps hk1
  obtain ⟨b0,b1⟩:=findR_lt ok l 0 (by omega) (by have:=ok.some; omega)
  unfold fileV fileR
  generalize findR M l 0=fe at b0 b1 ⊢
  obtain ⟨fi,e⟩:=fe
  obtain ⟨q,rfl⟩:=Int.eq_ofNat_of_zero_le b0
  obtain ⟨r,nd,hr,hnd,hn⟩:=hm1.node (i:=q) (by simpa using b1)
  obtain ⟨mv,sv,hc,_,_⟩:=_root_.id hn
  have hqn:q<M.nodes.length:=by simpa using b1
  by_cases h0:e=0
  · subst h0
    simp only [if_true,Int.toNat_natCast,hnd]
    by_cases hkd:nd.kind=2
    · simp [push_cast,hkd,fa88_0,ld85,ji9 hm1.mod,jd9,idx_nd hqn,ld89,cell_nd hm1 hr,fa93_0,ld3,ji9 hc]
      exact hk1
    · simp [push_cast,hkd,fa88_0,ld85,ji9 hm1.mod,jd9,idx_nd hqn,ld89,cell_nd hm1 hr,fa93_0,ld3,ji9 hc,MR.at,hr]
      exact hk1
  · have hb:(e==0)=false:=by simpa using h0
    simp (maxSteps:=2000000) [push_cast,h0,hb]
    exact hk1
def parentR (M:MS) (l:List (List UInt8)):Int×Int:=
  if l=[] then (0,302) else
  if (findR M l.dropLast 0).2=0 then
    match M.nodes[(findR M l.dropLast 0).1.toNat]? with
    | some nd=>if nd.kind=2 then (if placeR nd.slots (l.getLast?.getD [])<0 then ((findR M l.dropLast 0).1,0) else (0,302)) else (0,303)
    | none=>(0,303)
  else (0,(findR M l.dropLast 0).2)
def parentV (R:MR) (M:MS) (l:List (List UInt8)):AV:=
  .tup [if (parentR M l).2=0 then R.at (parentR M l).1 else .ptr none,.int .i64 (parentR M l).2]
set_option maxHeartbeats 8000000 in
theorem parent_ret (W:World) (h:AH) (R:MR) (M:MS) (hm:MIs h R M) (ok:MOk M) (v:AV) (l:List (List UInt8)) (hs:StrS W h v l) (hl:l.length<8796093022207):
    RetK (CC W) 68 [.ptr (some (.new R.km 0)),v] h (parentV R M l):=by
  refine jj9 (cc_ok W) (fn68 W) (by simp only [Tryz.f68]; rfl) rfl rfl ?_
  obtain ⟨a,c,gr,rfl⟩:=hs.len
  have hlen:aLen (CC W) h 37 (.sl a l.length c gr)=some (.int .i64 l.length):=by simp [aLen,kind37]
  by_cases hl0:l=[]
  · subst hl0
    simp at hlen
    simp [push_cast,hlen,parentV,parentR]
    exact Keeps.refl _
  · have hpos:0<l.length:=List.length_pos_iff.2 hl0
    have hne:¬(l.length:Int)=0:=by omega
    have wi:IntKind.i64.wrap ((l.length:Int) - 1)=((l.length - 1:Nat):Int):=by rw [wrap64 (by omega) (by omega)]; omega
    obtain ⟨v1,hv1,hs1⟩:=hs.slice (k:=l.length - 1) (by omega)
    rw [←List.dropLast_eq_take] at hs1
    simp [push_cast,hlen,hl0,hne,wi,hv1]
    refine jf9 (by simp [fn78]) (find_ret W h R M hm ok v1 l.dropLast hs1 (by simp; omega)) fun h1 hk1=> ?_
    have hm1:=hm.keeps hk1
    have hs2:=hs.keeps hk1
    obtain ⟨b0,b1⟩:=findR_lt ok l.dropLast 0 (by omega) (by have:=ok.some; omega)
    have hlen1:aLen (CC W) h1 37 (.sl a l.length c gr)=some (.int .i64 l.length):=by simp [aLen,kind37]
    have hlast:l[l.length - 1]? =some (l.getLast?.getD []):=by
      rw [←List.getLast?_eq_getElem?,List.getLast?_eq_some_getLast hl0]; rfl
    obtain ⟨a',hix,hld⟩:=hs2.at hlast
    unfold parentV parentR
    rw [if_neg hl0]
    generalize findR M l.dropLast 0=fe at b0 b1 ⊢
    obtain ⟨fi,e⟩:=fe
    obtain ⟨q,rfl⟩:=Int.eq_ofNat_of_zero_le b0
    have hqn:q<M.nodes.length:=by simpa using b1
    obtain ⟨r,nd,hr,hnd,hn⟩:=hm1.node hqn
    obtain ⟨mv,sv,hc,_,_⟩:=_root_.id hn
    have hlow1:∀k∈r.ids,k<h1.next:=fun k hk=>hm1.low k (mem_ids hr hk)
    have hshort:=ok.short nd (List.mem_of_getElem? hnd)
    by_cases h0:e=0
    · subst h0
      simp only [if_true,Int.toNat_natCast,hnd]
      by_cases hkd:nd.kind=2
      · simp [push_cast,hkd,fa88_0,ld85,ji9 hm1.mod,jd9,idx_nd hqn,ld89,cell_nd hm1 hr,fa93_0,ld3,ji9 hc,hlen1,wi,hix,hld]
        refine jf9 (by simp [fn82]) (place_ret W h1 r nd hn hlow1 _ hshort) fun h2 hk2=> ?_
        by_cases hp:placeR nd.slots (l.getLast?.getD [])<0
        · have hp':¬0≤placeR nd.slots (l.getLast?.getD []):=by omega
          simp [push_cast,hp,hp',MR.at,hr]
          exact hk1.trans hk2
        · have hp':0≤placeR nd.slots (l.getLast?.getD []):=by omega
          simp [push_cast,hp,hp']
          exact hk1.trans hk2
      · simp [push_cast,hkd,fa88_0,ld85,ji9 hm1.mod,jd9,idx_nd hqn,ld89,cell_nd hm1 hr,fa93_0,ld3,ji9 hc]
        exact hk1
    · simp [push_cast,h0]
      exact hk1
def ints (l:List Int):List AV:=l.map (AV.int .i64)
def IntS (h:AH) (v:AV) (l:List Int):Prop:=
  l=[]∧v= .sl none 0 0 none∨∃k cap gr,k<h.next∧v= .sl (some (.new k 0)) l.length cap gr∧h.get k=some (.cells (ints l) 3)
theorem IntS.keeps {h h':AH} {v:AV} {l:List Int} (hs:IntS h v l) (hk:Keeps h h'):IntS h' v l:=by
  rcases hs with h1 | ⟨k,cap,gr,h1,h2,h3⟩
  · exact .inl h1
  · exact .inr ⟨k,cap,gr,Nat.lt_of_lt_of_le h1 hk.1,h2,(hk.2 k h1).trans h3⟩
theorem IntS.len {W:World} {h:AH} {v:AV} {l:List Int} (hs:IntS h v l):aLen (CC W) h 53 v=some (.int .i64 l.length):=by
  rcases hs with ⟨rfl,rfl⟩ | ⟨k,cap,gr,h1,rfl,h3⟩<;>simp [aLen,kind53]
theorem IntS.at {W:World} {h:AH} {v:AV} {l:List Int} (hs:IntS h v l) {j:Nat} {x:Int} (hx:l[j]? =some x):
    ∃a',aIndexAddr (CC W) 53 v (.int .i64 (j:Int))=some (.ptr (some a'))∧∀h',Keeps h h'→aLoad (CC W) h' 3 a'=some (.int .i64 x):=by
  rcases hs with ⟨rfl,rfl⟩ | ⟨k,cap,gr,h1,rfl,h3⟩
  · simp at hx
  · have hj:=(List.getElem?_eq_some_iff.1 hx).1
    refine ⟨.new k j,?_,fun h' hk=> ?_⟩
    · simp only [aIndexAddr,kind53,size3]
      rw [if_pos (by omega)]
      simp [AA.add]
    · have hg:h'.get k=some (.cells (ints l) 3):=(hk.2 k h1).trans h3
      simp only [aLoad,ty3]
      show aCell (CC W) h' (.new k j)=_
      simp [aCell,hg,ints,hx]
def OwnI (h0 h:AH) (v:AV) (l:List Int):Prop:=
  Keeps h0 h∧(l=[]∧v= .sl none 0 0 none∨∃k,h0.next≤k∧k<h.next∧h.get k=some (.cells (ints l) 3)∧v= .sl (some (.new k 0)) l.length l.length (some 1))
theorem OwnI.start (h:AH):OwnI h h (.sl none 0 0 none) []:=⟨Keeps.refl _,.inl ⟨rfl,rfl⟩⟩
theorem OwnI.intS {h0 h:AH} {v:AV} {l:List Int} (ho:OwnI h0 h v l):IntS h v l:=by
  obtain ⟨_,⟨rfl,rfl⟩ | ⟨k,h1,h2,h3,rfl⟩⟩:=ho
  · exact .inl ⟨rfl,rfl⟩
  · exact .inr ⟨k,_,_,h2,rfl,h3⟩
theorem build_int {W:World} {h:AH} {x:Int}:aBuildSlice (CC W) h 53 1 [(0,.int .i64 x)]=some (.sl (some (.new h.next 0)) 1 1 none,h.push (.cells [.int .i64 x] 3)):=by
  simp only [aBuildSlice,kind53,size3,zero3]
  rfl
theorem append_int {W:World} {h0 h:AH} {v:AV} {l:List Int} {x:Int} (ho:OwnI h0 h v l) (hl:l.length<8796093022207):
    ∃v' h',aAppend (CC W) (h.push (.cells [.int .i64 x] 3)) #[53,53] v (.sl (some (.new h.next 0)) 1 1 none)=some (v',h')∧OwnI h0 h' v' (l ++ [x]):=by
  obtain ⟨hk,ho⟩:=ho
  have hb:(CC W).bytes 3=8:=_root_.id rfl
  have hni:niOK (CC W) #[53,53]=true:=_root_.id rfl
  have hnews:aNews (CC W) (h.push (.cells [.int .i64 x] 3)) 1 (.sl (some (.new h.next 0)) 1 1 none)=some (1,[.int .i64 x]):=by
    simp [aNews,aCells]
  rcases ho with ⟨rfl,rfl⟩ | ⟨k,h1,h2,h3,rfl⟩
  · refine ⟨.sl (some (.new (h.next + 1) 0)) 1 1 (some 1),(h.push (.cells [.int .i64 x] 3)).push (.cells [.int .i64 x] 3),?_,(hk.trans (Keeps.push _ _)).trans (Keeps.push _ _),.inr ⟨h.next + 1,by have:=hk.1; omega,by simp,by simp [ints],by simp⟩⟩
    simp [aAppend,kind53,size3,zero3,hb,hni,hnews]
  · have hne:k≠h.next:=by omega
    refine ⟨.sl (some (.new (h.next + 1) 0)) (l.length + 1) (l.length + 1) (some 1),((h.push (.cells [.int .i64 x] 3)).kill k).push (.cells (ints l ++ [.int .i64 x]) 3),?_,⟨?_,fun j hj=> ?_⟩,.inr ⟨h.next + 1,by have:=hk.1; omega,by simp [AH.next_kill'],by simp [AH.next_kill',ints],by simp⟩⟩
    · simp [aAppend,kind53,size3,zero3,hb,hni,hnews,hne,h3,AH.next_kill',aOne,ints]
      rw [if_neg (by omega),if_pos (by omega)]
    · simp [AH.next_kill']; have:=hk.1; omega
    · have:=hk.1
      rw [AH.get_push,AH.next_kill',if_neg (by simp; omega),AH.get_kill',if_neg (by omega),AH.get_push,if_neg (by omega)]
      exact hk.2 j hj
def indR (nd:Nd):List Int:=
  if nd.kind=2 then (List.range ((nd.slots.length + 3) / 4)).map Int.ofNat else sortI ((nd.blocks.getD []).map (·.1))
theorem okEs_of {es:List AEnt} {clock:Nat} (h:OkEs es clock):okEs es clock=true:=by
  simp only [okEs,Bool.and_eq_true,List.all_eq_true,decide_eq_true_eq,nodupN_iff,nodupI_iff]
  exact ⟨⟨⟨⟨h.ints,h.below⟩,h.borns⟩,h.keys⟩,h.few⟩
theorem intKey_blocks {es:List AEnt} {l:Blk} (h:es.map (fun e=>(e.key,e.val))=l.map entOf):es.map intKey=l.map (·.1):=by
  have:=congrArg (List.map fun p:AV×AV=>match p.1 with | .int _ n=>n | _=>0) h
  simp only [List.map_map] at this
  exact this
theorem box_map {h:AH} {x:Option Nat}:aBox h 90 (.map x)=some (.ptr (some (.new h.next 0)),h.push (.cells [.map x] 90)):=rfl
theorem MapIs.isMap {h:AH} {v:AV} {m:Option Nat} {b:Option Blk} (hm:MapIs h v m b):∃x,v= .map x:=by
  cases m with
  | none=>
    cases b with
    | none=>exact ⟨none,hm⟩
    | some _=>exact hm.elim
  | some k=>
    cases b with
    | none=>exact hm.elim
    | some _=>obtain ⟨hv,_⟩:=hm; exact ⟨_,hv⟩
set_option maxHeartbeats 4000000 in
theorem keys_ret (W:World) (h:AH) (x:Option Nat):
    ACall (CC W) 132 [.map x] h (fun w h'=>w= .fn (.func 153) [] [.ptr (some (.new h.next 0))]∧h'=h.push (.cells [.map x] 90)) (fun _ _=>False):=by
  refine jj9 (cc_ok W) (fn132 W) (by simp only [Tryz.f132]; rfl) rfl rfl ?_
  simp [push_cast,box_map]
theorem sortedBlk_ret (W:World) (h:AH) (v:AV) (m:Option Nat) (b:Option Blk) (hm:MapIs h v m b) (hlow:∀k,m=some k→k<h.next):
    RetQ (CC W) 131 [.fn (.func 153) [] [.ptr (some (.new h.next 0))]] (h.push (.cells [v] 90)) (fun w h'=>IntS h' w (sortI ((b.getD []).map (·.1)))):=by
  have hbox:(h.push (.cells [v] 90)).get h.next=some (.cells [v] 90):=by simp
  cases m with
  | none=>
    cases b with
    | some _=>exact hm.elim
    | none=>
      have hv:v= .map none:=hm
      subst hv
      have:=sorted_known W 131 [.fn (.func 153) [] [.ptr (some (.new h.next 0))]] (h.push (.cells [.map none] 90)) (.sl none 0 0 none,h.push (.cells [.map none] 90)) (by simp [sortedKn])
      exact this.mono (fun w h' hw=>⟨by rw [hw.2]; exact Keeps.refl _,.inl ⟨rfl,hw.1⟩⟩) fun _ _ x=>x
  | some km=>
    cases b with
    | none=>exact hm.elim
    | some l=>
      obtain ⟨rfl,es,clock,hg,hok,hes⟩:=hm
      have hkeys:=intKey_blocks hes
      have hg':(h.push (.cells [.map (some km)] 90)).get km=some (.map es clock):=by
        have:=hlow km rfl
        rw [AH.get_push,if_neg (by omega)]; exact hg
      cases es with
      | nil=>
        have:=sorted_known W 131 [.fn (.func 153) [] [.ptr (some (.new h.next 0))]] (h.push (.cells [.map (some km)] 90)) (.sl none 0 0 none,h.push (.cells [.map (some km)] 90)) (by simp [sortedKn,hg',okEs_of hok])
        refine this.mono (fun w h' hw=>⟨by rw [hw.2]; exact Keeps.refl _,.inl ⟨?_,hw.1⟩⟩) fun _ _ x=>x
        simp only [Option.getD_some, ←hkeys]
        rfl
      | cons e es=>
        have:=sorted_known W 131 [.fn (.func 153) [] [.ptr (some (.new h.next 0))]] (h.push (.cells [.map (some km)] 90)) _ (by simp [sortedKn,hg',okEs_of hok]; rfl)
        refine this.mono (fun w h' hw=>⟨by rw [hw.2]; exact Keeps.push _ _,.inr ⟨(h.push (.cells [.map (some km)] 90)).next,es.length + 1,some 1,?_,?_,?_⟩⟩) fun _ _ x=>x
        · rw [hw.2]; simp
        · rw [hw.1]
          have:(sortI (l.map (·.1))).length=es.length + 1:=by
            rw [(sortI_perm _).length_eq, ←hkeys]; simp
          simp [this]
        · rw [hw.2]
          simp only [Option.getD_some, ←hkeys]
          simp [ints]
def IndI (h0:AH) (k:Nat) (m:Nat) (e':Env) (h':AH):Prop:=
  e'.length=32∧∃i:Nat,i + m=k∧OwnI h0 h' (e'.getD 3 .undef) ((List.range i).map Int.ofNat)∧(e'.getD 16 .undef= .int .i64 k∧e'.getD 17 .undef= .int .i64 i)
theorem SlotsIs.len {W:World} {h:AH} {v:AV} {s:Option Nat} {l:List Slt} (hi:SlotsIs h v s l):aLen (CC W) h 91 v=some (.int .i64 l.length):=by
  cases s with
  | none=>obtain ⟨rfl,rfl⟩:=hi; simp [aLen,kind91]
  | some ks=>obtain ⟨cap,sp,rfl,_⟩:=hi; simp [aLen,kind91]
set_option maxHeartbeats 8000000 in
theorem ind_ret (W:World) (h:AH) (r:NR) (nd:Nd) (hn:NodeIs h r nd) (hlow:∀k∈r.ids,k<h.next) (hl:nd.slots.length<1099511627776):
    RetQ (CC W) 96 [.ptr (some (.new r.k 0))] h (fun v h'=>IntS h' v (indR nd)):=by
  refine jj9 (cc_ok W) (fn96 W) (by simp only [Tryz.f96]; rfl) rfl rfl ?_
  obtain ⟨mv,sv,hc,hmp,hsl⟩:=_root_.id hn
  have hlen:=hsl.len (W:=W)
  by_cases hkd:nd.kind=2
  · have w1:IntKind.i64.wrap ((nd.slots.length:Int) + 3)=(nd.slots.length:Int) + 3:=wrap64 (by omega) (by omega)
    obtain ⟨k,hk⟩:∃k,k=(nd.slots.length + 3) / 4:=⟨_,rfl⟩
    have w2:IntKind.i64.wrap (Int.tdiv ((nd.slots.length:Int) + 3) 4)=(k:Int):=by
      rw [Int.tdiv_eq_ediv_of_nonneg (by omega),wrap64 (by omega) (by omega)]; omega
    simp [push_cast,fa93_0,fa93_4,ld3,ld91,ji9 hc,jd9,hkd,hlen,w1,w2]
    have hkb:k<8796093022207:=by omega
    refine loopN (cc_ok W) (IndI h k) k ⟨by simp,0,by simp,OwnI.start h,by simp⟩ ?_
    rintro m e' h' ⟨hlen',i,him,ho,hh⟩
    match e',hlen' with
    | a0::a1::a2::a3::a4::a5::a6::a7::a8::a9::a10::a11::a12::a13::a14::a15::a16::a17::a18::a19::a20::a21::a22::a23::a24::a25::a26::a27::a28::a29::a30::a31::[],_=>
      simp at hh ho
      obtain ⟨rfl,rfl⟩:=hh
      by_cases hlt:i<k
      · have hlt':(i:Int)<(k:Int):=by omega
        obtain ⟨v',h2,hap,ho2⟩:=append_int (W:=W) (x:=(i:Int)) ho (by simp; omega)
        have wi:IntKind.i64.wrap ((i:Int) + 1)=(i:Int) + 1:=wrap64 (by omega) (by omega)
        simp [push_cast,hlt,hlt',build_int,hap,wi]
        exact ⟨m - 1,by omega,by simp,i + 1,by omega,by rw [List.range_succ,List.map_append]; exact ho2,by simp⟩
      · have hlt':¬(i:Int)<(k:Int):=by omega
        have hi:i=k:=by omega
        simp [push_cast,hlt,hlt']
        refine ⟨ho.1,?_⟩
        have:=ho.intS
        simp only [indR,if_pos hkd, ←hk, ←hi]
        exact this
  · obtain ⟨x,rfl⟩:=hmp.isMap
    simp [push_cast,fa93_0,fa93_3,ld3,ld90,ji9 hc,jd9,hkd]
    refine je9 (by simp [fn132]) (keys_ret W h x) fun w h1 ⟨hw,hh1⟩=> ?_
    subst hw; subst hh1
    simp [push_cast]
    refine jg9 (by simp [fn131]) (sortedBlk_ret W h (.map x) r.m nd.blocks hmp fun k hk=>hlow k (by simp [NR.ids,hk])) fun w h2 hk2 hw=> ?_
    simp [push_cast]
    exact ⟨(Keeps.push _ _).trans hk2,by simpa [indR,hkd] using hw⟩
def ipR (x:Int):Int×Int×Int×Int:=
  if x<0 then (0,0,0,1) else if 4166≤x then (0,0,0,1) else if x<6 then (0,x,0,0) else if x<70 then (1,x - 6,0,0) else (2,(x - 70).tdiv 64,(x - 70).tmod 64,0)
theorem tdiv_wrap {y:Int} (h0:0≤y) (h1:y<4166):IntKind.i64.wrap (y.tdiv 64)=y.tdiv 64:=by
  rw [Int.tdiv_eq_ediv_of_nonneg h0]
  exact wrap64 (by omega) (by omega)
set_option maxHeartbeats 4000000 in
theorem ip_ret (W:World) (h:AH) (x:Int):
    RetH (CC W) 130 [.int .i64 x] h (.tup [.int .i64 (ipR x).1,.int .i64 (ipR x).2.1,.int .i64 (ipR x).2.2.1,.int .i64 (ipR x).2.2.2]):=by
  refine jj9 (cc_ok W) (fn130 W) (by simp only [Tryz.f130]; rfl) rfl rfl ?_
  by_cases h0:x<0
  · simp [push_cast,h0,ipR]
  · by_cases h1:4166≤x
    · simp [push_cast,h0,h1,ipR]
    · by_cases h2:x<6
      · simp [push_cast,h0,h1,h2,ipR]
      · by_cases h3:x<70
        · have w1:IntKind.i64.wrap (x - 6)=x - 6:=wrap64 (by omega) (by omega)
          simp [push_cast,h0,h1,h2,h3,ipR,w1]
        · have w1:IntKind.i64.wrap (x - 70)=x - 70:=wrap64 (by omega) (by omega)
          have w2:=tdiv_wrap (y:=x - 70) (by omega) (by omega)
          simp [push_cast,h0,h1,h2,h3,ipR,w1,w2]
def addN (l:List (Int×Int)) (k:Int×Int):List (Int×Int):=if k∈l then l else l ++ [k]
def nmN (l:List (Int×Int)) (x:Int):List (Int×Int):=
  let p:=ipR x
  let l1:=if 0<p.1 then addN l (p.1,-1) else l
  if p.1=2 then addN l1 (p.1,p.2.1) else l1
def costG (ps:List Int):Nat→Nat→List (Int×Int)→Int×Int
  | 0,_,l=>(ps.length + l.length,0)
  | n + 1,i,l=>match ps[i]? with
    | none=>(ps.length + l.length,0)
    | some x=>
      if (ipR x).2.2.2≠0 then (0,1)
      else if 0<i∧x≤ps.getD (i - 1) 0 then (0,1)
      else costG ps n (i + 1) (nmN l x)
def costR (ps:List Int):Int×Int:=costG ps ps.length 0 []
def keyEnt (k:Int×Int):AV×AV:=(.agg [.int .i64 k.1,.int .i64 k.2],.bool true)
def KeysIs (h:AH) (k:Nat) (l:List (Int×Int)):Prop:=∃es clock,h.get k=some (.map es clock)∧es.map (fun e=>(e.key,e.val))=l.map keyEnt
theorem eq_key {W:World} {a b c d:Int}:aEqIn (CC W) 100 196 (.agg [.int .i64 a,.int .i64 b]) (.agg [.int .i64 c,.int .i64 d])=some (decide (a=c) && decide (b=d)):=by
  have hi:∀(x y:Int),aEqIn (CC W) 99 3 (.int .i64 x) (.int .i64 y)=some (x==y):=fun x y=>rfl
  have h0:aEqIn (CC W) 100 196 (.agg [.int .i64 a,.int .i64 b]) (.agg [.int .i64 c,.int .i64 d])=aEqG (CC W) (aEqIn (CC W) 99) [(0,3),(1,3)] [.int .i64 a,.int .i64 b] [.int .i64 c,.int .i64 d]:=rfl
  have p0:∀(x y:AV),aPart (CC W) 3 [x,y] 0=some x:=fun x y=>rfl
  have p1:∀(x y:AV),aPart (CC W) 3 [x,y] 1=some y:=fun x y=>rfl
  rw [h0]
  simp only [aEqG,p0,p1,hi]
  by_cases h1:a=c
  · by_cases h2:b=d
    · simp [h1,h2]
    · have:(b==d)=false:=by simpa using h2
      simp [h1,h2,this]
  · have:(a==c)=false:=by simpa using h1
    simp [h1,this]
theorem find_key {W:World} {k:Int×Int}:∀(l:List (Int×Int)) (es:List AEnt) (i:Nat),es.map (fun e=>(e.key,e.val))=l.map keyEnt→
    aFind (CC W) 196 (keyEnt k).1 es i=some (if k∈l then some (i + l.idxOf k,.bool true) else none)
  | [],es,i,h=>by
    simp at h; subst h
    simp [aFind]
  | x::l,es,i,h=>by
    cases es with
    | nil=>simp at h
    | cons e es=>
      simp only [List.map_cons,List.cons.injEq] at h
      obtain ⟨h1,h2⟩:=h
      simp only [keyEnt,Prod.mk.injEq] at h1
      obtain ⟨hk,hv⟩:=h1
      unfold aFind
      rw [hk]
      simp only [keyEnt,eq_key]
      by_cases he:k=x
      · subst he
        simp [hv]
      · have hne:(decide (k.1=x.1) && decide (k.2=x.2))=false:=by
          simp only [Bool.and_eq_false_iff,decide_eq_false_iff_not]
          by_cases h1:k.1=x.1
          · right; intro h2; exact he (Prod.ext h1 h2)
          · left; exact h1
        rw [hne]
        have:=find_key (W:=W) (k:=k) l es (i + 1) h2
        simp only [keyEnt] at this
        simp only [this,List.mem_cons,he,false_or]
        rw [List.idxOf_cons]
        have hx:(x==k)=false:=by simpa using fun h=>he h.symm
        simp [hx]
        split<;>simp<;>omega
theorem key_ok {W:World} {x:Int×Int}:aKey (CC W) 100 196 (keyEnt x).1=true:=rfl
theorem same_key {x:Int×Int}:aSame (keyEnt x).1 (keyEnt x).1=true:=by simp [keyEnt,aSame,aSame.sameL]
theorem set_key {W:World} {h:AH} {k:Nat} {l:List (Int×Int)} {x:Int×Int} (hi:KeysIs h k l):∃h',aMapSet (CC W) h 193 (.map (some k)) (keyEnt x).1 (.bool true)=some h'∧KeysIs h' k (addN l x)∧h'.next=h.next∧∀j,j≠k→h'.get j=h.get j:=by
  obtain ⟨es,clock,hg,he⟩:=hi
  have hf:=find_key (W:=W) (k:=x) l es 0 he
  have hkd:(CC W).kind 193= .map 196 4:=rfl
  simp only [aMapSet,hkd,hg,key_ok,if_true,hf]
  by_cases hx:x∈l
  · have hlt:l.idxOf x<l.length:=List.idxOf_lt_length_of_mem hx
    have hel:es.length=l.length:=by have:=congrArg List.length he; simpa using this
    have hee:es[l.idxOf x]? =some es[l.idxOf x]:=by simp [hel,hlt]
    have hp:(es[l.idxOf x].key,es[l.idxOf x].val)=keyEnt x:=by
      have:=congrArg (fun q=>q[l.idxOf x]?) he
      simp only [List.getElem?_map,hee,Option.map_some] at this
      have h2:l[l.idxOf x]? =some x:=by rw [List.getElem?_eq_getElem hlt]; simp
      rw [h2] at this
      simpa using this
    simp only [hx,if_true,Nat.zero_add,hee,addN]
    have hk1:es[l.idxOf x].key=(keyEnt x).1:=congrArg Prod.fst hp
    have hv1:es[l.idxOf x].val= .bool true:=congrArg Prod.snd hp
    have hs:aSame es[l.idxOf x].key (keyEnt x).1=true:=by rw [hk1]; exact same_key
    have hset:es.set (l.idxOf x) {es[l.idxOf x] with val:= .bool true}=es:=by
      have:({es[l.idxOf x] with val:= .bool true}:AEnt)=es[l.idxOf x]:=by rw [←hv1]
      rw [this]; exact List.set_getElem_self _
    refine ⟨h.set k (.map es clock),?_,⟨es,clock,by simp,he⟩,rfl,fun j hj=>by simp [hj]⟩
    rw [if_pos hs,hset]
  · simp only [hx,if_false,addN]
    refine ⟨_,rfl,⟨es ++ [⟨(keyEnt x).1,.bool true,clock⟩],clock + 1,by simp,?_⟩,rfl,fun j hj=>by simp [hj]⟩
    simp [he,keyEnt]
theorem set_key2 {W:World} {h:AH} {k:Nat} {l:List (Int×Int)} (hi:KeysIs h k l) (a b:Int):∃h',aMapSet (CC W) h 193 (.map (some k)) (.agg [.int .i64 a,.int .i64 b]) (.bool true)=some h'∧KeysIs h' k (addN l (a,b))∧h'.next=h.next∧∀j,j≠k→h'.get j=h.get j:=set_key (x:=(a,b)) hi
theorem build_arr {W:World} {a b:Int}:aBuild (CC W) 196 [(0,.int .i64 a),(1,.int .i64 b)]=some (.agg [.int .i64 a,.int .i64 b]):=rfl
def CostI (h:AH) (v:AV) (ps:List Int) (m:Nat) (e':Env) (h':AH):Prop:=
  e'.length=58∧∃(i:Nat) (names:List (Int×Int)),i + m=ps.length∧Keeps h h'∧h.next<h'.next∧KeysIs h' h.next names∧costG ps m i names=costR ps∧
    (e'.getD 0 .undef=v∧e'.getD 4 .undef= .map (some h.next)∧e'.getD 12 .undef=v∧e'.getD 13 .undef= .int .i64 ps.length∧e'.getD 14 .undef= .int .i64 i)
theorem addN_len {l:List (Int×Int)} {k:Int×Int}:(addN l k).length≤l.length + 1:=by
  unfold addN; split<;>simp
theorem nmN_len {l:List (Int×Int)} {x:Int}:(nmN l x).length≤l.length + 2:=by
  unfold nmN
  have h1:=addN_len (l:=l) (k:=((ipR x).1,-1))
  simp only
  split
  · split
    · have:=addN_len (l:=addN l ((ipR x).1,-1)) (k:=((ipR x).1,(ipR x).2.1)); omega
    · have:=addN_len (l:=l) (k:=((ipR x).1,(ipR x).2.1)); omega
  · split<;>omega
theorem costG_le (ps:List Int):∀(n i:Nat) (l:List (Int×Int)),0≤(costG ps n i l).1∧(costG ps n i l).1≤ps.length + l.length + 2 * n
  | 0,i,l=>by simp [costG]; omega
  | n + 1,i,l=>by
    unfold costG
    split
    · simp; omega
    · rename_i x _
      split
      · simp; omega
      · split
        · simp; omega
        · have:=costG_le ps n (i + 1) (nmN l x)
          have h2:=nmN_len (l:=l) (x:=x)
          omega
set_option maxRecDepth 100000 in
set_option maxHeartbeats 8000000 in
theorem cost_ret (W:World) (h:AH) (v:AV) (ps:List Int) (hs:IntS h v ps) (hl:ps.length<1099511627776):
    RetK (CC W) 95 [v] h (.tup [.int .i64 (costR ps).1,.int .i64 (costR ps).2]):=by
  refine jj9 (cc_ok W) (fn95 W) (by simp only [Tryz.f95]; rfl) rfl rfl ?_
  have hk1:=Keeps.push h (.map [] 0)
  have hK1:KeysIs (h.push (.map [] 0)) h.next []:=⟨[],0,by simp,rfl⟩
  have hnx:h.next<(h.push (.map [] 0)).next:=by simp
  have hmk:aMakeMap h none=some (.map (some h.next),h.push (.map [] 0)):=rfl
  generalize h.push (.map [] 0)=h1 at hk1 hK1 hnx hmk
  have hlen1:=(hs.keeps hk1).len (W:=W)
  simp [push_cast,hmk,hlen1]
  refine loopN (cc_ok W) (CostI h v ps) ps.length ⟨by simp,0,[],by simp,hk1,hnx,hK1,rfl,by simp⟩ ?_
  rintro m e' h' ⟨hlen',i,names,him,hk,hnx',hK,hG,hh⟩
  match e',hlen' with
  | a0::a1::a2::a3::a4::a5::a6::a7::a8::a9::a10::a11::a12::a13::a14::a15::a16::a17::a18::a19::a20::a21::a22::a23::a24::a25::a26::a27::a28::a29::a30::a31::a32::a33::a34::a35::a36::a37::a38::a39::a40::a41::a42::a43::a44::a45::a46::a47::a48::a49::a50::a51::a52::a53::a54::a55::a56::a57::[],_=>
    simp at hh
    obtain ⟨rfl,rfl,rfl,rfl,rfl⟩:=hh
    have hs':=hs.keeps hk
    by_cases hlt:i<ps.length
    · have hlt':(i:Int)<(ps.length:Int):=by omega
      obtain ⟨m,rfl⟩:∃m',m=m' + 1:=⟨m - 1,by omega⟩
      have hx:ps[i]? =some ps[i]:=by simp [hlt]
      generalize ps[i]=x at hx
      obtain ⟨a',hix,hld⟩:=hs'.at (W:=W) hx
      have hld':=hld h' (Keeps.refl _)
      simp only [costG,hx] at hG
      simp [push_cast,hlt,hlt',hix,hld']
      refine jh9 (by simp [fn130]) (ip_ret W h' x) ?_
      have wi:IntKind.i64.wrap ((i:Int) + 1)=(i:Int) + 1:=wrap64 (by omega) (by omega)
      by_cases h0:(ipR x).2.2.2=0
      · rw [if_neg (by simp [h0])] at hG
        by_cases hi0:0<i
        · have hi0':(0:Int)<(i:Int):=by omega
          have wi1:IntKind.i64.wrap ((i:Int) - 1)=((i - 1:Nat):Int):=by rw [wrap64 (by omega) (by omega)]; omega
          have hy:ps[i - 1]? =some (ps.getD (i - 1) 0):=by
            have:i - 1<ps.length:=by omega
            simp [List.getD,this]
          obtain ⟨a2,hix2,hld2⟩:=hs'.at (W:=W) hy
          have hld2':=hld2 h' (Keeps.refl _)
          by_cases hle:x≤ps.getD (i - 1) 0
          · rw [if_pos ⟨hi0,hle⟩] at hG
            simp only [List.getD] at hle hld2'
            simp [push_cast,h0,hi0,hi0',wi1,hix2,hld2',hle]
            rw [←hG]
            exact ⟨⟨rfl,rfl⟩,hk⟩
          · rw [if_neg (fun hc=>hle hc.2)] at hG
            simp only [List.getD] at hle hld2'
            by_cases hl0:0<(ipR x).1
            · obtain ⟨h2,hm2,hK2,hn2,ho2⟩:=set_key2 (W:=W) hK (ipR x).1 (-1)
              by_cases hl2:(ipR x).1=2
              · obtain ⟨h3,hm3,hK3,hn3,ho3⟩:=set_key2 (W:=W) hK2 (ipR x).1 (ipR x).2.1
                have hnm:nmN names x=addN (addN names ((ipR x).1,-1)) ((ipR x).1,(ipR x).2.1):=by simp only [nmN,if_pos hl0,if_pos hl2]
                rw [hnm] at hG
                rw [hl2] at hm2 hm3
                simp [push_cast,h0,hi0,hi0',wi1,hix2,hld2',hle,hl2,build_arr,hm2,hm3,wi]
                exact ⟨m,by omega,by simp,i + 1,_,by omega,⟨by have:=hk.1; omega,fun j hj=>(ho3 j (by omega)).trans ((ho2 j (by omega)).trans (hk.2 j hj))⟩,by omega,hK3,hG,by simp⟩
              · have hnm:nmN names x=addN names ((ipR x).1,-1):=by simp only [nmN,if_pos hl0,if_neg hl2]
                rw [hnm] at hG
                simp [push_cast,h0,hi0,hi0',wi1,hix2,hld2',hle,hl0,hl2,build_arr,hm2,wi]
                exact ⟨m,by omega,by simp,i + 1,_,by omega,⟨by have:=hk.1; omega,fun j hj=>(ho2 j (by omega)).trans (hk.2 j hj)⟩,by omega,hK2,hG,by simp⟩
            · have hl2:¬(ipR x).1=2:=by omega
              have hnm:nmN names x=names:=by simp only [nmN,if_neg hl0,if_neg hl2]
              rw [hnm] at hG
              simp [push_cast,h0,hi0,hi0',wi1,hix2,hld2',hle,hl0,hl2,build_arr,wi]
              exact ⟨m,by omega,by simp,i + 1,_,by omega,hk,by omega,hK,hG,by simp⟩
        · have hi0':¬(0:Int)<(i:Int):=by omega
          rw [if_neg (fun hc=>hi0 hc.1)] at hG
          have wi1:True:=trivial
          have hix2:True:=trivial
          have hld2':True:=trivial
          have hle:True:=trivial
          by_cases hl0:0<(ipR x).1
          · obtain ⟨h2,hm2,hK2,hn2,ho2⟩:=set_key2 (W:=W) hK (ipR x).1 (-1)
            by_cases hl2:(ipR x).1=2
            · obtain ⟨h3,hm3,hK3,hn3,ho3⟩:=set_key2 (W:=W) hK2 (ipR x).1 (ipR x).2.1
              have hnm:nmN names x=addN (addN names ((ipR x).1,-1)) ((ipR x).1,(ipR x).2.1):=by simp only [nmN,if_pos hl0,if_pos hl2]
              rw [hnm] at hG
              rw [hl2] at hm2 hm3
              simp [push_cast,h0,hi0,hi0',wi1,hix2,hld2',hle,hl2,build_arr,hm2,hm3,wi]
              exact ⟨m,by omega,by simp,i + 1,_,by omega,⟨by have:=hk.1; omega,fun j hj=>(ho3 j (by omega)).trans ((ho2 j (by omega)).trans (hk.2 j hj))⟩,by omega,hK3,hG,by simp⟩
            · have hnm:nmN names x=addN names ((ipR x).1,-1):=by simp only [nmN,if_pos hl0,if_neg hl2]
              rw [hnm] at hG
              simp [push_cast,h0,hi0,hi0',wi1,hix2,hld2',hle,hl0,hl2,build_arr,hm2,wi]
              exact ⟨m,by omega,by simp,i + 1,_,by omega,⟨by have:=hk.1; omega,fun j hj=>(ho2 j (by omega)).trans (hk.2 j hj)⟩,by omega,hK2,hG,by simp⟩
          · have hl2:¬(ipR x).1=2:=by omega
            have hnm:nmN names x=names:=by simp only [nmN,if_neg hl0,if_neg hl2]
            rw [hnm] at hG
            simp [push_cast,h0,hi0,hi0',wi1,hix2,hld2',hle,hl0,hl2,build_arr,wi]
            exact ⟨m,by omega,by simp,i + 1,_,by omega,hk,by omega,hK,hG,by simp⟩
      · rw [if_pos (by simpa using h0)] at hG
        have hb:((ipR x).2.2.2 !=0)=true:=by simpa using h0
        simp (maxSteps:=2000000) [push_cast,h0,hb]
        rw [←hG]
        exact ⟨⟨rfl,rfl⟩,hk⟩
    · have hlt':¬(i:Int)<(ps.length:Int):=by omega
      have hi:m=0:=by omega
      subst hi
      simp only [costG] at hG
      obtain ⟨es,clock,hg,he⟩:=hK
      have hel:es.length=names.length:=by have:=congrArg List.length he; simpa using this
      have hlen2:=hs'.len (W:=W)
      have hlm:aLen (CC W) h' 193 (.map (some h.next))=some (.int .i64 names.length):=by simp [aLen,kind193,hg,hel]
      have hle:=(costG_le ps ps.length 0 []).2
      rw [show costG ps ps.length 0 []=costR ps from rfl, ←hG] at hle
      simp at hle
      have w1:IntKind.i64.wrap ((ps.length:Int) + (names.length:Int))=(ps.length:Int) + (names.length:Int):=wrap64 (by omega) (by omega)
      simp [push_cast,hlt,hlt',hlen2,hlm,w1]
      rw [←hG]
      exact ⟨⟨rfl,rfl⟩,hk⟩
def ndCost (nd:Nd):Int:=(costR (indR nd)).1
def usedG:List Nd→Int
  | []=>0
  | nd::l=>ndCost nd + usedG l
def usedR (M:MS):Int:=usedG M.nodes
theorem usedG_append:∀(l m:List Nd),usedG (l ++ m)=usedG l + usedG m
  | [],m=>by simp [usedG]
  | x::l,m=>by simp only [List.cons_append,usedG,usedG_append l m]; omega
theorem indR_len {h:AH} {r:NR} {nd:Nd} (hn:NodeIs h r nd) (hl:nd.slots.length<1099511627776):(indR nd).length<1099511627776:=by
  unfold indR
  split
  · simp; omega
  · rw [(sortI_perm _).length_eq]
    obtain ⟨mv,sv,_,hm,_⟩:=hn
    cases hr:r.m with
    | none=>
      rw [hr] at hm
      cases hb:nd.blocks with
      | none=>simp
      | some l=>rw [hb] at hm; exact hm.elim
    | some km=>
      rw [hr] at hm
      cases hb:nd.blocks with
      | none=>rw [hb] at hm; exact hm.elim
      | some l=>
        rw [hb] at hm
        obtain ⟨_,es,clock,_,hok,hes⟩:=hm
        have:=congrArg List.length hes
        simp at this
        have:=hok.few
        simp; omega
theorem ndCost_le {nd:Nd} (h:(indR nd).length<1099511627776):0≤ndCost nd∧ndCost nd<3298534883328:=by
  have:=costG_le (indR nd) (indR nd).length 0 []
  simp only [ndCost,costR]
  simp at this
  omega
theorem usedG_le:∀(l:List Nd),(∀nd∈l,(indR nd).length<1099511627776)→0≤usedG l∧usedG l≤3298534883328 * l.length
  | [],_=>by simp [usedG]
  | nd::l,h=>by
    have h1:=ndCost_le (h nd (by simp))
    have h2:=usedG_le l fun x hx=>h x (by simp [hx])
    simp only [usedG,List.length_cons]
    omega
def UsedI (h:AH) (mv sv:AV) (M:MS) (m:Nat) (e':Env) (h':AH):Prop:=
  e'.length=28∧∃i:Nat,i + m=M.nodes.length∧Keeps h h'∧
    (e'.getD 0 .undef=mv∧e'.getD 3 .undef= .int .i64 (usedG (M.nodes.take i))∧e'.getD 11 .undef=sv∧e'.getD 12 .undef= .int .i64 M.nodes.length∧e'.getD 13 .undef= .int .i64 i)
set_option maxRecDepth 100000 in
set_option maxHeartbeats 8000000 in
theorem used_ret (W:World) (h:AH) (R:MR) (M:MS) (hm:MIs h R M) (ok:MOk M):
    RetK (CC W) 54 [.ptr (some (.new R.km 0))] h (.int .i64 (usedR M)):=by
  refine jj9 (cc_ok W) (fn54 W) (by simp only [Tryz.f54]; rfl) rfl rfl ?_
  have hlen:aLen (CC W) h 85 (.sl (some (.new R.kn 0)) M.nodes.length M.nodes.length none)=some (.int .i64 M.nodes.length):=by simp [aLen,kind85]
  have hfew:=ok.few
  have hind:∀nd∈M.nodes,(indR nd).length<1099511627776:=fun nd hnd=>by
    obtain ⟨i,hi,he⟩:=List.getElem_of_mem hnd
    obtain ⟨r,nd',hr,hnd',hn⟩:=hm.node hi
    have:nd'=nd:=by rw [List.getElem?_eq_getElem hi,he] at hnd'; exact (Option.some.inj hnd').symm
    subst this
    exact indR_len hn (ok.short nd' hnd)
  simp [push_cast,fa88_0,ld85,ji9 hm.mod,jd9,hlen]
  refine loopN (cc_ok W) (UsedI h (.ptr (some (.new R.km 0))) (.sl (some (.new R.kn 0)) M.nodes.length M.nodes.length none) M) M.nodes.length ⟨by simp,0,by simp,Keeps.refl _,by simp [usedG]⟩ ?_
  rintro m e' h' ⟨hlen',i,him,hk,hh⟩
  match e',hlen' with
  | a0::a1::a2::a3::a4::a5::a6::a7::a8::a9::a10::a11::a12::a13::a14::a15::a16::a17::a18::a19::a20::a21::a22::a23::a24::a25::a26::a27::[],_=>
    simp at hh
    obtain ⟨rfl,rfl,rfl,rfl,rfl⟩:=hh
    have hm':=hm.keeps hk
    by_cases hlt:i<M.nodes.length
    · have hlt':(i:Int)<(M.nodes.length:Int):=by omega
      obtain ⟨r,nd,hr,hnd,hn⟩:=hm'.node hlt
      have hcn:=cell_nd (W:=W) hm' hr
      have hlow':∀k∈r.ids,k<h'.next:=fun k hk1=>hm'.low k (mem_ids hr hk1)
      have hshort:=ok.short nd (List.mem_of_getElem? hnd)
      have hin:=indR_len hn hshort
      have wi:IntKind.i64.wrap ((i:Int) + 1)=(i:Int) + 1:=wrap64 (by omega) (by omega)
      have htk:M.nodes.take (i + 1)=M.nodes.take i ++ [nd]:=by
        rw [List.take_add_one,hnd]; rfl
      have hu:=usedG_append (M.nodes.take i) [nd]
      simp only [usedG,Int.add_zero] at hu
      have hb1:=usedG_le (M.nodes.take i) fun x hx=>hind x (List.mem_of_mem_take hx)
      have hb2:=ndCost_le hin
      have hb3:(M.nodes.take i).length≤64:=by simp; omega
      have ws:IntKind.i64.wrap (usedG (M.nodes.take i) + (costR (indR nd)).1)=usedG (M.nodes.take i) + (costR (indR nd)).1:=by
        simp only [ndCost] at hb2
        exact wrap64 (by omega) (by omega)
      simp [push_cast,hlt,hlt',idx_nd hlt,ld89,hcn]
      refine jg9 (by simp [fn96]) (ind_ret W h' r nd hn hlow' hshort) fun v1 h1 hk1 hv1=> ?_
      simp [push_cast]
      refine jf9 (by simp [fn95]) (cost_ret W h1 v1 _ hv1 hin) fun h2 hk2=> ?_
      simp [push_cast,ws,wi]
      exact ⟨m - 1,by omega,by simp,i + 1,by omega,hk.trans (hk1.trans hk2),by simp [htk,hu,ndCost]⟩
    · have hlt':¬(i:Int)<(M.nodes.length:Int):=by omega
      have hi:M.nodes.take i=M.nodes:=List.take_of_length_le (by omega)
      simp [push_cast,hlt,hlt',hi,usedR]
      exact hk
theorem overlay_slt {x:Slt} {sp:List AV}:∀{l:List Slt} {j:Nat},j<l.length→overlay (sltCells l ++ sp) x.cells (2 * j)=sltCells (l.set j x) ++ sp
  | y::l,0,_=>by simp [overlay,sltCells,Slt.cells]
  | y::l,j + 1,h=>by
    have ih:=overlay_slt (x:=x) (sp:=sp) (l:=l) (j:=j) (by simpa using h)
    simp only [overlay,sltCells,Slt.cells,List.flatMap_cons,List.cons_append,List.nil_append,List.length_cons,List.length_nil,List.set_cons_succ] at ih ⊢
    rw [show 2 * (j + 1)=2 * j + 2 by omega,show 2 * j + 2 + (0 + 1 + 1)=(2 * j + (0 + 1 + 1)) + 2 by omega]
    simp only [List.take_succ_cons,List.drop_succ_cons,List.cons_append]
    rw [ih]
theorem overlay_end {l:List Slt} {x:Slt} {sp:List AV}:overlay (sltCells l ++ sp) x.cells (2 * l.length)=sltCells (l ++ [x]) ++ sp.drop 2:=by
  have hl:=sltCells_length l
  simp only [overlay, ←hl]
  rw [List.take_left',List.drop_append]
  · simp [sltCells,Slt.cells]
  · rfl
theorem st_slt {W:World} {h:AH} {ks j:Nat} {l:List Slt} {x:Slt} {sp:List AV} {t:TypeId} (hg:h.get ks=some (.cells (sltCells l ++ sp) t)) (hj:j<l.length):
    aStoreOp (CC W) h 159 (.ptr (some (.new ks (2 * j)))) (.agg [.str x.nm,.int .i64 x.ino])=some (h.set ks (.cells (sltCells (l.set j x) ++ sp) t)):=by
  have hl:=sltCells_length l
  have ho:=overlay_slt (x:=x) (sp:=sp) hj
  simp only [Slt.cells] at ho
  simp only [aStoreOp,aCellsOf,size159,aStore,hg]
  rw [if_pos (by rfl),if_pos ⟨by simp only [List.length_append,List.length_cons,List.length_nil]; omega,by rfl⟩,ho]
theorem build_slt {W:World} {s:List UInt8} {n:Int}:aBuild (CC W) 159 [(0,.str s),(1,.int .i64 n)]=some (.agg [.str s,.int .i64 n]):=rfl
theorem buildS_slt {W:World} {h:AH} {s:List UInt8} {n:Int}:aBuildSlice (CC W) h 91 1 [(0,.agg [.str s,.int .i64 n])]=some (.sl (some (.new h.next 0)) 1 1 none,h.push (.cells [.str s,.int .i64 n] 159)):=by
  simp only [aBuildSlice,kind91,size159]
  rfl
theorem append_slt {W:World} {h:AH} {sv:AV} {s:Option Nat} {l:List Slt} {x:Slt} (hs:SlotsIs h sv s l) (hlow:∀k,s=some k→k<h.next) (hl:l.length<1099511627776):
    ∃v' h' s',aAppend (CC W) (h.push (.cells [.str x.nm,.int .i64 x.ino] 159)) #[91,91] sv (.sl (some (.new h.next 0)) 1 1 none)=some (v',h')∧SlotsIs h' v' s' (l ++ [x])∧
      (∀k,k<h.next→s≠some k→h'.get k=h.get k)∧h.next≤h'.next∧(∃k,s'=some k∧(s=some k∨h.next≤k)∧k<h'.next):=by
  have hb:(CC W).bytes 159=24:=_root_.id rfl
  have hni:niOK (CC W) #[91,91]=true:=_root_.id rfl
  have hz:((CC W).zero 159).isSome=true:=_root_.id rfl
  obtain ⟨z,hz⟩:=Option.isSome_iff_exists.1 hz
  have hnews:aNews (CC W) (h.push (.cells [.str x.nm,.int .i64 x.ino] 159)) 2 (.sl (some (.new h.next 0)) 1 1 none)=some (1,[.str x.nm,.int .i64 x.ino]):=by
    simp [aNews,aCells]
  have hlen:=sltCells_length l
  have hxc:sltCells (l ++ [x])=sltCells l ++ [.str x.nm,.int .i64 x.ino]:=by simp [sltCells,Slt.cells]
  cases s with
  | none=>
    obtain ⟨rfl,rfl⟩:=hs
    refine ⟨.sl (some (.new (h.next + 1) 0)) 1 1 (some 2),(h.push (.cells [.str x.nm,.int .i64 x.ino] 159)).push (.cells [.str x.nm,.int .i64 x.ino] 159),some (h.next + 1),?_,⟨1,[],rfl,by simp [sltCells,Slt.cells],by simp [sltCells,Slt.cells]⟩,?_,by simp; omega,h.next + 1,rfl,.inr (by omega),by simp⟩
    · simp [aAppend,kind91,size159,hz,hb,hni,hnews]
    · intro k hk _; rw [AH.get_push,if_neg (by simp; omega),AH.get_push,if_neg (by omega)]
  | some ks=>
    obtain ⟨cap,sp,rfl,hg,hcap⟩:=hs
    have hks:=hlow ks rfl
    have hg':(h.push (.cells [.str x.nm,.int .i64 x.ino] 159)).get ks=some (.cells (sltCells l ++ sp) 159):=by
      rw [AH.get_push,if_neg (by omega)]; exact hg
    simp only [List.length_append,hlen] at hcap
    by_cases hc:l.length + 1≤cap
    · have ho:=overlay_end (l:=l) (x:=x) (sp:=sp)
      simp only [Slt.cells] at ho
      refine ⟨.sl (some (.new ks 0)) (l.length + 1) cap (some 2),(h.push (.cells [.str x.nm,.int .i64 x.ino] 159)).set ks (.cells (sltCells (l ++ [x]) ++ sp.drop 2) 159),some ks,?_,⟨cap,sp.drop 2,by simp,by simp,?_⟩,?_,by simp,ks,rfl,.inl rfl,by simp; omega⟩
      · simp [aAppend,kind91,size159,hz,hb,hni,hnews,hc,aStore,hg',AA.add,aOne,hlen]
        rw [Nat.mul_comm l.length 2,ho]
        exact ⟨by omega,rfl⟩
      · have:=sltCells_length (l ++ [x]); simp only [List.length_append,List.length_drop,this,List.length_cons,List.length_nil]; omega
      · intro k hk hne
        have:k≠ks:=fun e=>hne (by rw [e])
        simp [this]
        omega
    · have hsp:sp=[]:=by
        cases sp with
        | nil=>rfl
        | cons a b=>simp at hcap; omega
      subst hsp
      have hce:cap=l.length:=by simp at hcap; omega
      subst hce
      refine ⟨.sl (some (.new (h.next + 1) 0)) (l.length + 1) (l.length + 1) (some 2),((h.push (.cells [.str x.nm,.int .i64 x.ino] 159)).kill ks).push (.cells (sltCells (l ++ [x])) 159),some (h.next + 1),?_,⟨l.length + 1,[],by simp,by simp [AH.next_kill'],?_⟩,?_,by simp [AH.next_kill']; omega,h.next + 1,rfl,.inr (by omega),by simp [AH.next_kill']⟩
      · simp [aAppend,kind91,size159,hz,hb,hni,hnews,hg',AA.add,aOne,hlen,AH.next_kill',hxc]
        rw [if_neg (by omega),if_pos (by omega),if_pos (by omega)]
      · have:=sltCells_length (l ++ [x]); simp [this]
      · intro k hk hne
        have:k≠ks:=fun e=>hne (by rw [e])
        rw [AH.get_push,AH.next_kill',if_neg (by simp; omega),AH.get_kill',if_neg this,AH.get_push,if_neg (by omega)]
section
variable {W:World} {h:AH} {k:Nat} {a b c d e v:AV} {n:Int} {t:TypeId}
theorem st_nd1 (hg:h.get k=some (.cells [a,b,c,d,e] t)):aStoreOp (CC W) h 3 (.ptr (some (.new k 1))) (.int .i64 n)=some (h.set k (.cells [a,.int .i64 n,c,d,e] t)):=by
  simp only [aStoreOp,aCellsOf,size3,aStore,hg]
  rfl
theorem st_nd2 (hg:h.get k=some (.cells [a,b,c,d,e] t)):aStoreOp (CC W) h 3 (.ptr (some (.new k 2))) (.int .i64 n)=some (h.set k (.cells [a,b,.int .i64 n,d,e] t)):=by
  simp only [aStoreOp,aCellsOf,size3,aStore,hg]
  rfl
theorem st_nd3 {x:Option Nat} (hg:h.get k=some (.cells [a,b,c,d,e] t)):aStoreOp (CC W) h 90 (.ptr (some (.new k 3))) (.map x)=some (h.set k (.cells [a,b,c,.map x,e] t)):=by
  simp only [aStoreOp,aCellsOf,size90,aStore,hg]
  rfl
theorem st_nd4 {p:Option AA} {l cap:Nat} {g:Option Nat} (hg:h.get k=some (.cells [a,b,c,d,e] t)):aStoreOp (CC W) h 91 (.ptr (some (.new k 4))) (.sl p l cap g)=some (h.set k (.cells [a,b,c,d,.sl p l cap g] t)):=by
  simp only [aStoreOp,aCellsOf,size91,aStore,hg]
  rfl
end
theorem SlotsIs.isSl {h:AH} {v:AV} {s:Option Nat} {l:List Slt} (hi:SlotsIs h v s l):∃p c g,v= .sl p l.length c g:=by
  cases s with
  | none=>obtain ⟨rfl,rfl⟩:=hi; exact ⟨_,_,_,rfl⟩
  | some ks=>obtain ⟨cap,sp,rfl,_⟩:=hi; exact ⟨_,_,_,rfl⟩
theorem MOk.set {M:MS} (ok:MOk M) {i:Nat} {nd':Nd} (h1:nd'.slots.length<1099511627776) (h2:0≤nd'.size∧nd'.size<1099511627776) (h3:∀s∈nd'.slots,0≤s.ino∧s.ino<M.nodes.length) (h4:i=0→nd'.kind=2):MOk (M.set i nd') where
  root:=fun x hx=>by
    simp only [MS.set,List.getElem?_set] at hx
    split at hx
    · rename_i e
      split at hx
      · cases hx; exact h4 e
      · cases hx
    · exact ok.root x hx
  some:=by simp only [MS.set,List.length_set]; exact ok.some
  few:=by simp only [MS.set,List.length_set]; exact ok.few
  short:=fun x hx=>by
    rcases List.mem_or_eq_of_mem_set hx with h | rfl
    · exact ok.short x h
    · exact h1
  size:=fun x hx=>by
    rcases List.mem_or_eq_of_mem_set hx with h | rfl
    · exact ok.size x h
    · exact h2
  inos:=fun x hx=>by
    simp only [MS.set,List.length_set]
    rcases List.mem_or_eq_of_mem_set hx with h | rfl
    · exact ok.inos x h
    · exact h3
theorem MR.at_set {R:MR} {i:Nat} {r r':NR} (hr:R.nd[i]? =some r) (hk:r'.k=r.k) (q:Int):(R.set i r').at q=R.at q:=by
  have hil:i<R.nd.length:=(List.getElem?_eq_some_iff.1 hr).1
  simp only [MR.at,MR.set,List.getElem?_set]
  by_cases e:i=q.toNat
  · subst e
    have hge:R.nd[q.toNat]=r:=by rw [List.getElem?_eq_getElem hil] at hr; exact Option.some.inj hr
    simp [hil,hge,hk]
  · simp [e]
theorem MIs.setAt {h h':AH} {R:MR} {M:MS} (hm:MIs h R M) {i:Nat} {r r':NR} {nd':Nd} (hr:R.nd[i]? =some r) (hrk:r'.k=r.k)
    (hoff:∀k,k<h.next→k ∉ r.ids→h'.get k=h.get k) (hn:NodeIs h' r' nd')
    (hids:∀k∈r'.ids,(k∈r.ids∨h.next≤k)∧k<h'.next) (hnod:r'.ids.Nodup) (hnx:h.next≤h'.next):MIs h' (R.set i r') (M.set i nd')∧MStep h h' R (R.set i r')∧∀q,(R.set i r').at q=R.at q:=by
  have hlow:=hm.low
  have hhd:=hm.hd i r hr
  have h1:∀k,k=R.km∨k=R.kn∨k=R.kr→h'.get k=h.get k:=fun k hk=>by
    refine hoff k (hlow k (by simp [MR.ids]; rcases hk with h | h | h<;>simp [h])) fun hc=> ?_
    have:=hhd k hc; rcases hk with h | h | h<;>simp [h] at this
  refine ⟨hm.set hr (h1 _ (.inl rfl)) (h1 _ (.inr (.inr rfl))) ?_ ?_ hn hids hnod hnx,MStep.set hr (fun k hk=>(hids k hk).1) hnx fun k hk hn=>hoff k hk fun hc=>hn (mem_ids hr hc),fun q=>MR.at_set hr hrk q⟩
  · rw [h1 _ (.inr (.inl rfl)),hm.ptrs]
    congr 2
    simp only [ptrCells,List.map_set,hrk]
    have hil:i<R.nd.length:=(List.getElem?_eq_some_iff.1 hr).1
    apply List.ext_getElem?
    intro j
    rw [List.getElem?_set]
    split
    · rename_i e; subst e
      have hge:R.nd[i]=r:=by rw [List.getElem?_eq_getElem hil] at hr; exact Option.some.inj hr
      simp [hil,hge]
    · rfl
  · intro j r0 hne hj k hk
    exact hoff k (hlow k (mem_ids hj hk)) fun hc=>hm.sep j i r0 r hj hr hne k hk hc
theorem slots_cut {W:World} {ks cap:Nat} {l:List Slt} (hcap:l.length + 1≤cap):aSlice (CC W) 91 (.sl (some (.new ks 0)) (l.length + 1) cap (some 2)) none (some (.int .i64 (l.length:Int))) none=some (.sl (some (.new ks 0)) l.length cap (some 2)):=by
  simp only [aSlice,kind91,size159,aBounds_hi (show l.length≤cap by omega)]
  simp [AA.add]
theorem MS.set_back {M:MS} {i:Nat} {nd nd':Nd} (h:M.nodes[i]? =some nd):(M.set i nd').set i nd=M:=by
  have hi:=(List.getElem?_eq_some_iff.1 h)
  simp only [MS.set,List.set_set]
  have:M.nodes.set i nd=M.nodes:=by
    obtain ⟨hi,he⟩:=hi
    rw [←he]; exact List.set_getElem_self _
  rw [this]
theorem slots_ids {r:NR} {n k':Nat} (hown:r.ids.Nodup) (hlow:∀k∈r.ids,k<n) (hin:r.s=some k'∨n≤k'):({r with s:=some k'}:NR).ids.Nodup∧k'≠r.k∧r.m≠some k':=by
  have hk:k'≠r.k∧r.m≠some k':=by
    rcases hin with h | h
    · exact ⟨fun e=>by simp [NR.ids,h,e] at hown,fun e=>by simp [NR.ids,h,e] at hown⟩
    · exact ⟨fun e=>by have:=hlow r.k (by simp [NR.ids]); omega,fun e=>by have:=hlow k' (by simp [NR.ids,e]); omega⟩
  refine ⟨?_,hk⟩
  obtain ⟨k,m,s⟩:=r
  cases m with
  | none=>simp [NR.ids]; exact fun e=>hk.1 e.symm
  | some m=>
    simp [NR.ids] at hown hk ⊢
    exact ⟨⟨hown.1.1,fun e=>hk.1 e.symm⟩,hk.2⟩
def putR (M:MS) (i:Nat) (nm:List UInt8) (at_:Int):Bool×MS:=
  match M.nodes[i]? with
  | none=>(false,M)
  | some nd=>
    if 0≤placeR nd.slots [] then (true,M.set i {nd with slots:=nd.slots.set (placeR nd.slots []).toNat ⟨nm,at_⟩})
    else if M.data<usedR (M.set i {nd with slots:=nd.slots ++ [⟨nm,at_⟩],size:=nd.size + 32}) then (false,M)
    else (true,M.set i {nd with slots:=nd.slots ++ [⟨nm,at_⟩],size:=nd.size + 32})
def RetM (C:Cx) (f:FuncId) (args:List AV) (h:AH) (R:MR) (v:AV) (M':MS):Prop:=ACall C f args h (fun w h'=>∃R',w=v∧MIs h' R' M'∧MStep h h' R R') (fun _ _=>False)
def RetP (C:Cx) (f:FuncId) (args:List AV) (h:AH) (R:MR) (v:AV) (M':MS):Prop:=ACall C f args h (fun w h'=>∃R',w=v∧MIs h' R' M'∧MStep h h' R R'∧∀q,R'.at q=R.at q) (fun _ _=>False)
set_option maxRecDepth 100000 in
set_option maxHeartbeats 8000000 in
theorem put_ret (W:World) (h:AH) (R:MR) (M:MS) (hm:MIs h R M) (ok:MOk M) (i:Nat) (r:NR) (nd:Nd) (hr:R.nd[i]? =some r) (hnd:M.nodes[i]? =some nd) (nm:List UInt8) (at_:Int)
    (ha:0≤at_∧at_<M.nodes.length) (hl:nd.slots.length + 1<1099511627776) (hz:nd.size + 32<1099511627776):
    RetP (CC W) 71 [.ptr (some (.new R.km 0)),.ptr (some (.new r.k 0)),.str nm,.int .i64 at_] h R (.bool (putR M i nm at_).1) (putR M i nm at_).2:=by
  refine jj9 (cc_ok W) (fn71 W) (by simp only [Tryz.f71]; rfl) rfl rfl ?_
  have hn:=hm.each i r nd hr hnd
  have hlow:∀k∈r.ids,k<h.next:=fun k hk=>hm.low k (mem_ids hr hk)
  have hshort:=ok.short nd (List.mem_of_getElem? hnd)
  have hsize:=ok.size nd (List.mem_of_getElem? hnd)
  have hinos:=ok.inos nd (List.mem_of_getElem? hnd)
  simp only [putR,hnd]
  simp [push_cast]
  refine jf9 (by simp [fn82]) (place_ret W h r nd hn hlow [] hshort) fun h1 hk1=> ?_
  have hm1:=hm.keeps hk1
  have hn1:=hm1.each i r nd hr hnd
  have hlow1:∀k∈r.ids,k<h1.next:=fun k hk=>hm1.low k (mem_ids hr hk)
  obtain ⟨mv,sv,hc,hmp,hsl⟩:=_root_.id hn1
  have hrk:r.k<h1.next:=hlow1 r.k (by simp [NR.ids])
  have hown:=hm.own i r hr
  by_cases hp:0≤placeR nd.slots []
  · obtain ⟨j,x,e,hxj,_⟩:=placeR_lt (l:=nd.slots) (s:=[]) (by omega)
    obtain ⟨ks,hrs,cap,sp,rfl,hg,hcap⟩:=SlotsIs.at hsl hxj
    have hjl:j<nd.slots.length:=(List.getElem?_eq_some_iff.1 hxj).1
    rw [e] at hp ⊢
    have hst:=st_slt (W:=W) (x:=⟨nm,at_⟩) hg hjl
    simp only at hst
    simp [push_cast,hp,fa93_4,ld91,ji9 hc,jd9,idx_slt hjl,build_slt,hst]
    have hks:ks∈r.ids:=by simp [NR.ids,hrs]
    have hne:r.k≠ks:=by
      rintro rfl
      simp [NR.ids,hrs] at hown
    have hnm:r.m≠some ks:=fun e=>by simp [NR.ids,hrs,e] at hown
    obtain ⟨hA,hB,hP⟩:=hm1.setAt (h':=h1.set ks (.cells (sltCells (nd.slots.set j ⟨nm,at_⟩) ++ sp) 159)) (r':=r) (nd':={nd with slots:=nd.slots.set j ⟨nm,at_⟩}) hr rfl
      (fun k hk hno=>by have:k≠ks:=fun e=>hno (e ▸ hks); simp [this])
      ⟨mv,_,by simp [hne]; exact hc,hmp.same fun k hk=>by have:k≠ks:=fun e=>hnm (e ▸ hk); simp [this],by
        rw [hrs]
        refine ⟨cap,sp,by simp,by simp,?_⟩
        have h1:=sltCells_length (nd.slots.set j ⟨nm,at_⟩)
        have h2:=sltCells_length nd.slots
        simp only [List.length_append,h1,h2,List.length_set] at hcap ⊢; exact hcap⟩
      (fun k hk=>⟨.inl hk,by simp; exact hlow1 k hk⟩) hown (by simp)
    exact ⟨_,hA,(MStep.refl hk1).trans hB,hP⟩
  · have hp':¬(0≤placeR nd.slots []):=hp
    obtain ⟨v',h2,s',hap,hsl2,hoff2,hnx2,k',rfl,hin',hlt'⟩:=append_slt (W:=W) (x:=⟨nm,at_⟩) hsl (fun k hk=>hlow1 k (by simp [NR.ids,hk])) hshort
    obtain ⟨hnod',hk'1,hk'2⟩:=slots_ids hown hlow1 hin'
    have hrs:r.s≠some r.k:=fun e=>by simp [NR.ids,e] at hown
    have hc2:=(hoff2 r.k hrk hrs).trans hc
    obtain ⟨p',c',g',rfl⟩:=hsl2.isSl
    have hst4:=st_nd4 (W:=W) (p:=p') (l:=(nd.slots ++ [(⟨nm,at_⟩:Slt)]).length) (cap:=c') (g:=g') hc2
    have wsz:IntKind.i64.wrap (nd.size + 32)=nd.size + 32:=wrap64 (by omega) (by omega)
    have hc3:(h2.set r.k (.cells [.int .i64 nd.kind,.int .i64 nd.links,.int .i64 nd.size,mv,.sl p' (nd.slots ++ [(⟨nm,at_⟩:Slt)]).length c' g'] 93)).get r.k=some (.cells [.int .i64 nd.kind,.int .i64 nd.links,.int .i64 nd.size,mv,.sl p' (nd.slots ++ [(⟨nm,at_⟩:Slt)]).length c' g'] 93):=by simp
    have hst2:=st_nd2 (W:=W) (n:=nd.size + 32) hc3
    have hget3:∀k,k≠r.k→(h2.set r.k (.cells [.int .i64 nd.kind,.int .i64 nd.links,.int .i64 nd.size,mv,.sl p' (nd.slots ++ [(⟨nm,at_⟩:Slt)]).length c' g'] 93)).get k=h2.get k:=fun k hk=>by simp [hk]
    have hnx3:(h2.set r.k (.cells [.int .i64 nd.kind,.int .i64 nd.links,.int .i64 nd.size,mv,.sl p' (nd.slots ++ [(⟨nm,at_⟩:Slt)]).length c' g'] 93)).next=h2.next:=rfl
    generalize h2.set r.k (.cells [.int .i64 nd.kind,.int .i64 nd.links,.int .i64 nd.size,mv,.sl p' (nd.slots ++ [(⟨nm,at_⟩:Slt)]).length c' g'] 93)=h3 at hst4 hc3 hst2 hget3 hnx3
    have hc4:(h3.set r.k (.cells [.int .i64 nd.kind,.int .i64 nd.links,.int .i64 (nd.size + 32),mv,.sl p' (nd.slots ++ [(⟨nm,at_⟩:Slt)]).length c' g'] 93)).get r.k=some (.cells [.int .i64 nd.kind,.int .i64 nd.links,.int .i64 (nd.size + 32),mv,.sl p' (nd.slots ++ [(⟨nm,at_⟩:Slt)]).length c' g'] 93):=by simp
    have hget4:∀k,k≠r.k→(h3.set r.k (.cells [.int .i64 nd.kind,.int .i64 nd.links,.int .i64 (nd.size + 32),mv,.sl p' (nd.slots ++ [(⟨nm,at_⟩:Slt)]).length c' g'] 93)).get k=h2.get k:=fun k hk=>by simp [hk,hget3 k hk]
    have hnx4:(h3.set r.k (.cells [.int .i64 nd.kind,.int .i64 nd.links,.int .i64 (nd.size + 32),mv,.sl p' (nd.slots ++ [(⟨nm,at_⟩:Slt)]).length c' g'] 93)).next=h2.next:=hnx3
    generalize h3.set r.k (.cells [.int .i64 nd.kind,.int .i64 nd.links,.int .i64 (nd.size + 32),mv,.sl p' (nd.slots ++ [(⟨nm,at_⟩:Slt)]).length c' g'] 93)=h4 at hst2 hc4 hget4 hnx4
    obtain ⟨hA,hB,hP⟩:=hm1.setAt (h':=h4) (r':={r with s:=some k'}) (nd':={nd with slots:=nd.slots ++ [⟨nm,at_⟩],size:=nd.size + 32}) hr rfl
      (fun k hk hno=>by
        rw [hget4 k (fun e=>hno (by simp [NR.ids,e]))]
        exact hoff2 k hk fun e=>hno (by simp [NR.ids,e]))
      ⟨mv,_,hc4,hmp.same fun k hk=>by
          have h1:k≠r.k:=fun e=>by simp [NR.ids,hk,e] at hown
          rw [hget4 k h1]
          exact hoff2 k (hlow1 k (by simp [NR.ids,hk])) fun e=>by simp [NR.ids,hk,e] at hown,
        hsl2.same fun k hk=>hget4 k (by cases hk; exact hk'1)⟩
      (fun k hk=>by
        simp only [NR.ids,List.mem_cons,List.mem_append,Option.mem_toList] at hk
        rw [hnx4]
        rcases hk with rfl | hk | hk
        · exact ⟨.inl (by simp [NR.ids]),by omega⟩
        · exact ⟨.inl (by simp [NR.ids,hk]),by have:=hlow1 k (by simp [NR.ids,hk]); omega⟩
        · cases hk
          refine ⟨?_,hlt'⟩
          rcases hin' with h | h
          · exact .inl (by simp [NR.ids,h])
          · exact .inr h)
      hnod' (by omega)
    have okA:MOk (M.set i {nd with slots:=nd.slots ++ [⟨nm,at_⟩],size:=nd.size + 32}):=ok.set (by simp; exact hl) (by simp only; omega) (fun s hs=>by
      simp only [List.mem_append,List.mem_singleton] at hs
      rcases hs with h | rfl
      · exact hinos s h
      · exact ha) (fun e=>by subst e; exact ok.root nd hnd)
    simp only [List.length_append,List.length_cons,List.length_nil] at hst4 hst2 hc4
    simp [push_cast,hp',fa93_4,fa93_2,ld3,ld91,ji9 hc,jd9,build_slt,buildS_slt,hap,hst4,ji9 hc3,wsz,hst2]
    have hdat:∀h',Keeps h4 h'→aCell (CC W) h' (.new R.km 1)=some (.int .i64 M.data):=fun h' hk=>ji9 (o:=1) (hA.keeps hk).mod
    have hdat4:=hdat h4 (Keeps.refl _)
    have hback:=MS.set_back (nd':={nd with slots:=nd.slots ++ [⟨nm,at_⟩],size:=nd.size + 32}) hnd
    have hr1:(R.set i {r with s:=some k'}).nd[i]? =some {r with s:=some k'}:=by
      have:=(List.getElem?_eq_some_iff.1 hr).1
      simp [MR.set,this]
    generalize hM1:M.set i {nd with slots:=nd.slots ++ [⟨nm,at_⟩],size:=nd.size + 32}=M1 at hA okA hback ⊢
    have hu:RetK (CC W) 54 [.ptr (some (.new R.km 0))] h4 (.int .i64 (usedR M1)):=used_ret W h4 (R.set i {r with s:=some k'}) _ hA okA
    refine drawS [0,2,3,4,5,1,6] (by kernel_rfl) (by kernel_rfl) ?_
    simp [push_cast,zx9,zy9,SgO,opA,isE,isRead,zz9,ja9,jd9,fa88_1,ld3,hdat4]
    refine jb9 (f:=54) (args:=[.ptr (some (.new R.km 0))]) (by rfl) (by rfl) (by rfl) (by simp [fn54]) hu ?_
    rintro w h5 ⟨rfl,hk5⟩
    have hdat5:=hdat h5 hk5
    refine ⟨?_,?_⟩
    · simp [zz9,ja9,push_cast,opA,hdat5,ld3]
    · have hA5:=hA.keeps hk5
      by_cases hgt:M.data<usedR M1
      · simp [push_cast,zx9,zy9,SgO,opA,isE,isRead,zz9,ja9,hgt]
        refine draw1 (cc_ok W) [0,1,2,3,4,5,6,7,8,9,10,11,12,13,14] (by kernel_rfl) (by kernel_rfl) (by kernel_rfl) rfl ?_
        have hlow4:∀k∈({r with s:=some k'}:NR).ids,k<h4.next:=fun k hk=>hA.low k (mem_ids hr1 hk)
        have hc5:=(hk5.2 r.k (hlow4 r.k (by simp [NR.ids]))).trans hc4
        have hsl4:SlotsIs h4 (.sl p' (nd.slots ++ [(⟨nm,at_⟩:Slt)]).length c' g') (some k') (nd.slots ++ [⟨nm,at_⟩]):=hsl2.same fun k hk=>hget4 k (by cases hk; exact hk'1)
        have hsl5:=hsl4.same fun k hk=>hk5.2 k (hlow4 k (by cases hk; simp [NR.ids]))
        obtain ⟨cap,sp,hsl,hg5,hcap5⟩:=hsl5
        simp only [AV.sl.injEq] at hsl
        obtain ⟨rfl,_,rfl,rfl⟩:=hsl
        have hl1:=sltCells_length (nd.slots ++ [(⟨nm,at_⟩:Slt)])
        simp only [List.length_append,hl1,List.length_cons,List.length_nil] at hcap5
        have hcut:=slots_cut (W:=W) (ks:=k') (cap:=c') (l:=nd.slots) (by omega)
        have wl:IntKind.i64.wrap (nd.slots.length:Int)=(nd.slots.length:Int):=wrap64 (by omega) (by omega)
        have wz:IntKind.i64.wrap nd.size=nd.size:=wrap64 (by omega) (by omega)
        have hlen5:aLen (CC W) h5 91 (.sl (some (.new k' 0)) (nd.slots.length + 1) c' (some 2))=some (.int .i64 ((nd.slots.length:Int) + 1)):=by simp [aLen,kind91]
        have hst4':=st_nd4 (W:=W) (p:=some (.new k' 0)) (l:=nd.slots.length) (cap:=c') (g:=some 2) hc5
        simp only [List.length_append,List.length_cons,List.length_nil,Nat.zero_add] at hc5 hst4'
        have hc6:(h5.set r.k (.cells [.int .i64 nd.kind,.int .i64 nd.links,.int .i64 (nd.size + 32),mv,.sl (some (.new k' 0)) nd.slots.length c' (some 2)] 93)).get r.k=some (.cells [.int .i64 nd.kind,.int .i64 nd.links,.int .i64 (nd.size + 32),mv,.sl (some (.new k' 0)) nd.slots.length c' (some 2)] 93):=by simp
        have hst2':=st_nd2 (W:=W) (n:=nd.size) hc6
        simp [push_cast,fa93_4,fa93_2,ld3,ld91,ji9 hc5,ji9 hc6,jd9,hlen5,wl,wz,hcut,hst4',hst2']
        have hnext:((h5.set r.k (.cells [.int .i64 nd.kind,.int .i64 nd.links,.int .i64 (nd.size + 32),mv,.sl (some (.new k' 0)) nd.slots.length c' (some 2)] 93)).set r.k (.cells [.int .i64 nd.kind,.int .i64 nd.links,.int .i64 nd.size,mv,.sl (some (.new k' 0)) nd.slots.length c' (some 2)] 93)).next=h5.next:=rfl
        have hg6:∀k,k≠r.k→((h5.set r.k (.cells [.int .i64 nd.kind,.int .i64 nd.links,.int .i64 (nd.size + 32),mv,.sl (some (.new k' 0)) nd.slots.length c' (some 2)] 93)).set r.k (.cells [.int .i64 nd.kind,.int .i64 nd.links,.int .i64 nd.size,mv,.sl (some (.new k' 0)) nd.slots.length c' (some 2)] 93)).get k=h5.get k:=fun k hk=>by simp [hk]
        have hg6':((h5.set r.k (.cells [.int .i64 nd.kind,.int .i64 nd.links,.int .i64 (nd.size + 32),mv,.sl (some (.new k' 0)) nd.slots.length c' (some 2)] 93)).set r.k (.cells [.int .i64 nd.kind,.int .i64 nd.links,.int .i64 nd.size,mv,.sl (some (.new k' 0)) nd.slots.length c' (some 2)] 93)).get r.k=some (.cells [.int .i64 nd.kind,.int .i64 nd.links,.int .i64 nd.size,mv,.sl (some (.new k' 0)) nd.slots.length c' (some 2)] 93):=by simp
        generalize (h5.set r.k (.cells [.int .i64 nd.kind,.int .i64 nd.links,.int .i64 (nd.size + 32),mv,.sl (some (.new k' 0)) nd.slots.length c' (some 2)] 93)).set r.k (.cells [.int .i64 nd.kind,.int .i64 nd.links,.int .i64 nd.size,mv,.sl (some (.new k' 0)) nd.slots.length c' (some 2)] 93)=h6 at hnext hg6 hg6' ⊢
        have hlow5:∀k∈({r with s:=some k'}:NR).ids,k<h5.next:=fun k hk=>by have:=hk5.1; have:=hlow4 k hk; omega
        obtain ⟨hA6,hB6,hP6⟩:=hA5.setAt (h':=h6) (r':={r with s:=some k'}) (nd':=nd) hr1 rfl
          (fun k hk hno=>hg6 k fun e=>hno (by simp [NR.ids,e]))
          ⟨mv,_,hg6',(hmp.same fun k hk=>by
              have hne:k≠r.k:=fun e=>by simp [NR.ids,hk,e] at hown
              rw [hg6 k hne,hk5.2 k (hlow4 k (by simp [NR.ids,hk])),hget4 k hne]
              exact hoff2 k (hlow1 k (by simp [NR.ids,hk])) fun e=>by simp [NR.ids,hk,e] at hown),
            ⟨c',[.str nm,.int .i64 at_] ++ sp,rfl,by rw [hg6 k' hk'1,hg5]; simp [sltCells,Slt.cells],by
              have:=sltCells_length nd.slots
              simp only [List.length_append,this,List.length_cons,List.length_nil]; omega⟩⟩
          (fun k hk=>⟨.inl hk,by rw [hnext]; exact hlow5 k hk⟩) hnod' (by omega)
        rw [hback] at hA6
        exact ⟨_,hA6,(MStep.refl hk1).trans (hB.trans ((MStep.refl hk5).trans hB6)),fun q=>(hP6 q).trans (hP q)⟩
      · simp [push_cast,zx9,zy9,SgO,opA,isE,isRead,zz9,ja9,hgt]
        exact ⟨_,hA5,(MStep.refl hk1).trans (hB.trans (MStep.refl hk5)),hP⟩
def takeR (M:MS) (d j:Nat):MS:=match M.nodes[d]? with
  | none=>M
  | some nd=>M.set d {nd with slots:=nd.slots.set j ⟨[],0⟩}
theorem build_slt0 {W:World}:aBuild (CC W) 159 []=some (.agg [.str [],.int .i64 0]):=rfl
set_option maxRecDepth 100000 in
set_option maxHeartbeats 8000000 in
theorem take_ret (W:World) (h:AH) (R:MR) (M:MS) (hm:MIs h R M) (ok:MOk M) (v:AV) (l:List (List UInt8)) (hs:StrS W h v l) (hl:l.length<8796093022207) (hl0:l≠[])
    (d:Nat) (r:NR) (nd:Nd) (hd:(findR M l.dropLast 0).1=d) (hr:R.nd[d]? =some r) (hnd:M.nodes[d]? =some nd) (j:Nat) (hj:placeR nd.slots (l.getLast?.getD [])=j) (hjl:j<nd.slots.length):
    RetP (CC W) 80 [.ptr (some (.new R.km 0)),v] h R (.tup []) (takeR M d j):=by
  refine jj9 (cc_ok W) (fn80 W) (by simp only [Tryz.f80]; rfl) rfl rfl ?_
  obtain ⟨a,c,gr,rfl⟩:=hs.len
  have hpos:0<l.length:=List.length_pos_iff.2 hl0
  have hlen:∀h,aLen (CC W) h 37 (.sl a l.length c gr)=some (.int .i64 l.length):=fun h=>by simp [aLen,kind37]
  have wi:IntKind.i64.wrap ((l.length:Int) - 1)=((l.length - 1:Nat):Int):=by rw [wrap64 (by omega) (by omega)]; omega
  obtain ⟨v1,hv1,hs1⟩:=hs.slice (k:=l.length - 1) (by omega)
  rw [←List.dropLast_eq_take] at hs1
  simp [push_cast,hlen,wi,hv1]
  refine jf9 (by simp [fn78]) (find_ret W h R M hm ok v1 l.dropLast hs1 (by simp; omega)) fun h1 hk1=> ?_
  have hm1:=hm.keeps hk1
  have hs2:=hs.keeps hk1
  have hlast:l[l.length - 1]? =some (l.getLast?.getD []):=by
    rw [←List.getLast?_eq_getElem?,List.getLast?_eq_some_getLast hl0]; rfl
  obtain ⟨a',hix,hld⟩:=hs2.at hlast
  have hdn:d<M.nodes.length:=(List.getElem?_eq_some_iff.1 hnd).1
  have hn1:=hm1.each d r nd hr hnd
  obtain ⟨mv,sv,hc,hmp,hsl⟩:=_root_.id hn1
  have hlow1:∀k∈r.ids,k<h1.next:=fun k hk=>hm1.low k (mem_ids hr hk)
  have hshort:=ok.short nd (List.mem_of_getElem? hnd)
  have hown:=hm.own d r hr
  rw [hd]
  simp [push_cast,fa88_0,ld85,ji9 hm1.mod,jd9,idx_nd hdn,ld89,cell_nd hm1 hr]
  refine drawS [0,1,2,3,4,5,6,7,8,9,10,12,11,13,14] (by kernel_rfl) (by kernel_rfl) ?_
  simp [push_cast,zx9,zy9,SgO,opA,isE,isRead,jd9,fa93_4,ld91,ji9 hc,hlen,wi,hix,hld,build_slt0]
  refine jb9 (f:=82) (args:=[.ptr (some (.new r.k 0)),.str (l.getLast?.getD [])]) (by rfl) (by rfl) (by rfl) (by simp [fn82]) (place_ret W h1 r nd hn1 hlow1 _ hshort) ?_
  rintro w h2 ⟨rfl,hk2⟩
  have hm2:=hm1.keeps hk2
  have hc2:=(hk2.2 r.k (hlow1 r.k (by simp [NR.ids]))).trans hc
  obtain ⟨a2,hix2,hld2⟩:=(hs2.keeps hk2).at hlast
  rw [hix] at hix2
  simp only [Option.some.injEq,AV.ptr.injEq] at hix2
  subst hix2
  have hxj:nd.slots[j]? =some nd.slots[j]:=by simp [hjl]
  obtain ⟨ks,hrs,cap,sp,rfl,hg,hcap⟩:=SlotsIs.at hsl hxj
  have hks:ks∈r.ids:=by simp [NR.ids,hrs]
  have hg2:=(hk2.2 ks (hlow1 ks hks)).trans hg
  have hst:=st_slt (W:=W) (x:=⟨[],0⟩) hg2 hjl
  simp only at hst
  rw [hj]
  refine ⟨?_,?_⟩
  · simp [zz9,ja9,push_cast,opA,ld91,ji9 hc2,hlen,hld2]
  · simp [push_cast,zx9,zy9,SgO,opA,isE,isRead,idx_slt hjl]
    refine jc9 (h':=h2.set ks (.cells (sltCells (nd.slots.set j ⟨[],0⟩) ++ sp) 159)) (v:= .undef) (by rfl) (by simp [push_cast,hst]) ⟨?_,?_⟩
    · refine zz9 ▸ ⟨fun hc=>absurd (hc.symm.trans (show _=true by kernel_rfl)) (by decide),?_⟩
      refine zz9 ▸ ⟨fun hc=>absurd (hc.symm.trans (show _=true by kernel_rfl)) (by decide),?_⟩
      refine zz9 ▸ ⟨fun hc=>absurd (hc.symm.trans (show _=true by kernel_rfl)) (by decide),?_⟩
      exact ja9 ▸ trivial
    · have hne:r.k≠ks:=by
        rintro rfl
        simp [NR.ids,hrs] at hown
      have hnm:r.m≠some ks:=fun e=>by simp [NR.ids,hrs,e] at hown
      simp [push_cast,zy9]
      have hn2:=hm2.each d r nd hr hnd
      have hlow2:∀k∈r.ids,k<h2.next:=fun k hk=>hm2.low k (mem_ids hr hk)
      obtain ⟨hA,hB,hP⟩:=hm2.setAt (h':=h2.set ks (.cells (sltCells (nd.slots.set j ⟨[],0⟩) ++ sp) 159)) (r':=r) (nd':={nd with slots:=nd.slots.set j ⟨[],0⟩}) hr rfl
        (fun k hk hno=>by have:k≠ks:=fun e=>hno (e ▸ hks); simp [this])
        ⟨mv,_,by simp [hne]; exact hc2,hmp.same fun k hk=>by
            have h1:k≠ks:=fun e=>hnm (e ▸ hk)
            have h2:=hk2.2 k (hlow1 k (by simp [NR.ids,hk]))
            simp [h1,h2],by
          rw [hrs]
          refine ⟨cap,sp,by simp,by simp,?_⟩
          have h1:=sltCells_length (nd.slots.set j ⟨[],0⟩)
          have h2:=sltCells_length nd.slots
          simp only [List.length_append,h1,h2,List.length_set] at hcap ⊢; exact hcap⟩
        (fun k hk=>⟨.inl hk,by simp; exact hlow2 k hk⟩) hown (by simp)
      simp only [takeR,hnd]
      exact ⟨rfl,_,hA,((MStep.refl hk1).trans (MStep.refl hk2)).trans hB,hP⟩
def res6 (e:Int) (d:List UInt8) (k l s:Int) (n:AV):List AV:=[.int .i64 e,.str d,.int .i64 k,.int .i64 l,.int .i64 s,n]
def resE (e:Int):AV:= .agg (res6 e [] 0 0 0 (.sl none 0 0 none))
def res0:List AV:=[.int .i64 0,.str [],.int .i64 0,.int .i64 0,.int .i64 0,.sl none 0 0 none]
section
variable {W:World} {h:AH} {k:Nat}
theorem alloc_res:aAlloc (CC W) h 39=some (.ptr (some (.new h.next 0)),h.push (.cells res0 39)):=rfl
theorem build_res0:aBuild (CC W) 39 []=some (.agg res0):=rfl
theorem build_resE {e:Int}:aBuild (CC W) 39 [(0,.int .i64 e)]=some (resE e):=rfl
theorem st_res {a b c d e f:AV} {e1:Int} {d1:List UInt8} {k1 l1 s1:Int} {p:Option AA} {n q:Nat} {g:Option Nat} (hg:h.get k=some (.cells [a,b,c,d,e,f] 39)):
    aStoreOp (CC W) h 39 (.ptr (some (.new k 0))) (.agg [.int .i64 e1,.str d1,.int .i64 k1,.int .i64 l1,.int .i64 s1,.sl p n q g])=some (h.set k (.cells [.int .i64 e1,.str d1,.int .i64 k1,.int .i64 l1,.int .i64 s1,.sl p n q g] 39)):=by
  simp only [aStoreOp,aCellsOf,size39,aStore,hg]
  rfl
theorem ld_res {a b c d e f:AV} (hg:h.get k=some (.cells [a,b,c,d,e,f] 39)):aLoad (CC W) h 39 (.new k 0)=some (.agg [a,b,c,d,e,f]):=by
  unfold aLoad
  rw [ty39]
  show (aCells (CC W) h (.new k 0) 6).map AV.agg=_
  simp [aCells,hg]
theorem ld_resS {a b c d e f:AV}:aLoad (CC W) (h.set k (.cells [a,b,c,d,e,f] 39)) 39 (.new k 0)=some (.agg [a,b,c,d,e,f]):=ld_res (by simp)
theorem box_op {l:List AV}:aBox h 35 (.agg l)=some (.ptr (some (.new h.next 0)),h.push (.cells l 35)):=rfl
theorem box_nd {l:List AV}:aBox h 93 (.agg l)=some (.ptr (some (.new h.next 0)),h.push (.cells l 93)):=rfl
end
set_option maxHeartbeats 4000000 in
theorem failed_ret (W:World) (h:AH) (e:Int):RetK (CC W) 48 [.int .i64 e] h (resE e):=by
  refine jj9 (cc_ok W) (fn48 W) (by simp only [Tryz.f48]; rfl) rfl rfl ?_
  have hg:(h.push (.cells res0 39)).get h.next=some (.cells res0 39):=by simp
  have hst:=st_res (W:=W) (e1:=e) (d1:=[]) (k1:=0) (l1:=0) (s1:=0) (p:=none) (n:=0) (q:=0) (g:=none) hg
  have hg2:((h.push (.cells res0 39)).set h.next (.cells [.int .i64 e,.str [],.int .i64 0,.int .i64 0,.int .i64 0,.sl none 0 0 none] 39)).get h.next=some (.cells [.int .i64 e,.str [],.int .i64 0,.int .i64 0,.int .i64 0,.sl none 0 0 none] 39):=by simp
  have hld:=ld_res (W:=W) hg2
  simp [push_cast,alloc_res,build_resE,resE,res6,hst,hld]
  refine ⟨by simp,fun j hj=> ?_⟩
  have:j≠h.next:=by omega
  simp [this]
theorem MIs.same {h h':AH} {R:MR} {M:MS} (hm:MIs h R M) (hk:∀k∈R.ids,h'.get k=h.get k) (hnx:h.next≤h'.next):MIs h' R M where
  mod:=(hk _ (by simp [MR.ids])).trans hm.mod
  ptrs:=(hk _ (by simp [MR.ids])).trans hm.ptrs
  rows:=(hk _ (by simp [MR.ids])).trans hm.rows
  len:=hm.len
  each:=fun i r nd hr hn=>(hm.each i r nd hr hn).same fun k hk1=>hk k (mem_ids hr hk1)
  low:=fun k hk1=>Nat.lt_of_lt_of_le (hm.low k hk1) hnx
  heads:=hm.heads
  hd:=hm.hd
  own:=hm.own
  sep:=hm.sep
theorem st_ptr {W:World} {h:AH} {kn i k:Nat} {l:List NR} {t:TypeId} (hg:h.get kn=some (.cells (ptrCells l) t)) (hi:i<l.length) {m s:Option Nat}:
    aStoreOp (CC W) h 89 (.ptr (some (.new kn i))) (.ptr (some (.new k 0)))=some (h.set kn (.cells (ptrCells (l.set i ⟨k,m,s⟩)) t)):=by
  have ho:overlay (ptrCells l) [.ptr (some (.new k 0))] i=ptrCells (l.set i ⟨k,m,s⟩):=by
    simp only [ptrCells,List.map_set]
    rw [List.set_eq_take_append_cons_drop,if_pos (by simpa using hi)]
    simp [overlay]
  simp only [aStoreOp,aCellsOf,size89,aStore,hg]
  rw [if_pos (by rfl),if_pos ⟨by simp [ptrCells]; omega,by rfl⟩,ho]
theorem MIs.setNew {h h':AH} {R:MR} {M:MS} (hm:MIs h R M) {i:Nat} {r r':NR} {nd':Nd} (hr:R.nd[i]? =some r)
    (hptr:h'.get R.kn=some (.cells (ptrCells (R.nd.set i r')) 89)) (hoff:∀k,k<h.next→k≠R.kn→h'.get k=h.get k) (hn:NodeIs h' r' nd')
    (hids:∀k∈r'.ids,h.next≤k∧k<h'.next) (hnod:r'.ids.Nodup) (hnx:h.next≤h'.next):MIs h' (R.set i r') (M.set i nd')∧MStep h h' R (R.set i r'):=by
  have hlow:=hm.low
  refine ⟨hm.set hr ?_ ?_ hptr ?_ hn (fun k hk=>⟨.inr (hids k hk).1,(hids k hk).2⟩) hnod hnx,MStep.set hr (fun k hk=> .inr (hids k hk).1) hnx fun k hk hn=>hoff k hk fun e=>hn (by simp [MR.ids,e])⟩
  · exact hoff _ (hlow _ (by simp [MR.ids])) hm.heads.1
  · exact hoff _ (hlow _ (by simp [MR.ids])) fun e=>hm.heads.2.2 e.symm
  · intro j r0 hne hj k hk
    exact hoff k (hlow k (mem_ids hj hk)) (hm.hd j r0 hj k hk).2.1
structure Side (h h2:AH) (R:MR) (kb k0:Nat):Prop where
  keeps:Keeps h h2
  hb:h.next≤kb∧kb<h2.next
  h0:h.next≤k0∧k0<h2.next
  ne:kb≠k0
  low:∀k∈R.ids,k<h.next
theorem Side.start {h:AH} {R:MR} {M:MS} (hm:MIs h R M) (o1 o2:AObj):Side h ((h.push o1).push o2) R h.next (h.push o1).next where
  keeps:=(Keeps.push h o1).trans (Keeps.push _ o2)
  hb:=⟨Nat.le_refl _,by simp; omega⟩
  h0:=⟨by simp,by simp⟩
  ne:=by simp
  low:=hm.low
theorem Side.stay {h h2 h5:AH} {R R':MR} {kb k0 k:Nat} (s:Side h h2 R kb k0) (hB:MStep h2 h5 R R') (hk:k=kb∨k=k0):h5.get k=h2.get k:=by
  have hb:=s.hb
  have h0:=s.h0
  refine hB.off k (by rcases hk with rfl | rfl; exact hb.2; exact h0.2) fun hc=> ?_
  have:=s.low k hc
  rcases hk with rfl | rfl<;>omega
theorem Side.fin {h h2 h5:AH} {R R':MR} {M':MS} {kb k0:Nat} (s:Side h h2 R kb k0) (hA:MIs h5 R' M') (hB:MStep h2 h5 R R') (c:AObj):MIs (h5.set k0 c) R' M'∧MStep h (h5.set k0 c) R R':=by
  have hb:=s.hb
  have h0:=s.h0
  have hno:∀k∈R'.ids,k≠k0:=fun k hk e=>by
    subst e
    rcases hB.ids _ hk with h1 | h1
    · have:=s.low _ h1; omega
    · omega
  have hT:=(MStep.refl (R:=R) s.keeps).trans hB
  refine ⟨hA.same (fun k hk=>by simp [hno k hk]) (by simp),⟨by simp; exact hT.nx,fun k hk hn=> ?_,hT.ids,hT.hds⟩⟩
  have:k≠k0:=by omega
  simp [this]
  exact hT.off k hk hn
set_option maxHeartbeats 4000000 in
theorem create1_ret (W:World) (h:AH) (r:NR) (nd:Nd) (hn:NodeIs h r nd):
    ACall (CC W) 70 [.ptr (some (.new r.k 0))] h (fun w h'=>w= .bool (nd.kind==0)∧Keeps h h') (fun _ _=>False):=by
  refine jj9 (cc_ok W) (fn70 W) (by simp only [Tryz.f70]; rfl) rfl rfl ?_
  obtain ⟨mv,sv,hc,_,_⟩:=hn
  simp [push_cast,fa93_0,ld3,ji9 hc,jd9]
  exact Keeps.refl _
def freeR (M:MS):Int:=fstI (fun i=>match M.nodes[i]? with | some nd=>nd.kind==0 | none=>false) M.nodes.length
theorem free_ret (W:World) (h:AH) (R:MR) (M:MS) (hm:MIs h R M) (ok:MOk M):
    RetK (CC W) 69 [.sl (some (.new R.kn 0)) M.nodes.length M.nodes.length none,.fn (.func 70) [] []] h (.int .i64 (freeR M)):=by
  have hfew:=ok.few
  refine idxN_ret W h _ M.nodes.length [] _ (fun i=>match R.nd[i]? with | some r=> .ptr (some (.new r.k 0)) | none=> .bad) (by omega) (by simp [aLen,kind85]) (fun i hi=>⟨.new R.kn i,idx_nd hi,fun h' hk=> ?_⟩) fun i hi h' hk=> ?_
  · obtain ⟨r,nd,hr,hnd,hn⟩:=(hm.keeps hk).node hi
    rw [ld89,cell_nd (hm.keeps hk) hr,hr]
  · obtain ⟨r,nd,hr,hnd,hn⟩:=(hm.keeps hk).node hi
    simp only [hr,hnd]
    exact create1_ret W h' r nd hn
def newFile:Nd:=⟨1,1,0,some [],[]⟩
def newDir:Nd:=⟨2,1,0,none,[]⟩
def noNode:Nd:=⟨0,0,0,none,[]⟩
def createR (M:MS) (kind:Int) (l:List (List UInt8)):Int×MS:=
  if (parentR M l).2=0 then
    if freeR M<0 then (306,M)
    else match putR M (parentR M l).1.toNat (l.getLast?.getD []) (freeR M) with
      | (false,M1)=>(306,M1)
      | (true,M1)=>(0,M1.set (freeR M).toNat (if kind=2 then newDir else newFile))
  else ((parentR M l).2,M)
theorem parentR_ok {M:MS} {l:List (List UInt8)} (ok:MOk M) (h:(parentR M l).2=0):l≠[]∧∃i nd,(parentR M l).1=((i:Nat):Int)∧M.nodes[i]? =some nd∧nd.kind=2∧placeR nd.slots (l.getLast?.getD [])<0∧findR M l.dropLast 0=((i:Int),0):=by
  unfold parentR at h ⊢
  by_cases hl:l=[]
  · simp [hl] at h
  · rw [if_neg hl] at h ⊢
    refine ⟨hl,?_⟩
    obtain ⟨b0,b1⟩:=findR_lt ok l.dropLast 0 (by omega) (by have:=ok.some; omega)
    by_cases he:(findR M l.dropLast 0).2=0
    · rw [if_pos he] at h ⊢
      obtain ⟨q,hq⟩:=Int.eq_ofNat_of_zero_le b0
      rw [hq] at h b1 ⊢
      have hqn:q<M.nodes.length:=by omega
      have hnd:M.nodes[q]? =some M.nodes[q]:=by simp [hqn]
      simp only [Int.toNat_natCast,hnd] at h ⊢
      by_cases hk:M.nodes[q].kind=2
      · rw [if_pos hk] at h ⊢
        by_cases hp:placeR M.nodes[q].slots (l.getLast?.getD [])<0
        · rw [if_pos hp] at h ⊢
          exact ⟨q,M.nodes[q],rfl,hnd,hk,hp,Prod.ext hq he⟩
        · rw [if_neg hp] at h; simp at h
      · rw [if_neg hk] at h; simp at h
    · rw [if_neg he] at h; exact absurd h he
theorem putR_len {M:MS} {i:Nat} {nm:List UInt8} {a:Int}:(putR M i nm a).2.nodes.length=M.nodes.length:=by
  unfold putR
  split
  · rfl
  · split
    · simp [MS.set]
    · split<;>simp [MS.set]
theorem build_file {W:World} {x:Option Nat}:aBuild (CC W) 93 [(0,.int .i64 1),(1,.int .i64 1),(3,.map x)]=some (.agg [.int .i64 1,.int .i64 1,.int .i64 0,.map x,.sl none 0 0 none]):=rfl
theorem build_dir {W:World}:aBuild (CC W) 93 [(0,.int .i64 2),(1,.int .i64 1)]=some (.agg [.int .i64 2,.int .i64 1,.int .i64 0,.map none,.sl none 0 0 none]):=rfl
theorem aUn_not {b:Bool}:aUn .not (.bool b)=some (.bool (!b)):=rfl
theorem make_map {h:AH}:aMakeMap h none=some (.map (some h.next),h.push (.map [] 0)):=rfl
theorem new_file {W:World} {h:AH} {R:MR} {M:MS} (hm:MIs h R M) {q:Nat} (hq:q<M.nodes.length):
    ∃h' R',aStoreOp (CC W) ((h.push (.map [] 0)).push (.cells [.int .i64 1,.int .i64 1,.int .i64 0,.map (some h.next),.sl none 0 0 none] 93)) 89 (.ptr (some (.new R.kn q))) (.ptr (some (.new (h.next + 1) 0)))=some h'∧MIs h' R' (M.set q newFile)∧MStep h h' R R':=by
  obtain ⟨r,nd,hr,hnd,hn⟩:=hm.node hq
  have hql:q<R.nd.length:=by rw [hm.len]; exact hq
  have hkn:=hm.low R.kn (by simp [MR.ids])
  have hg:((h.push (.map [] 0)).push (.cells [.int .i64 1,.int .i64 1,.int .i64 0,.map (some h.next),.sl none 0 0 none] 93)).get R.kn=some (.cells (ptrCells R.nd) 89):=by
    rw [AH.get_push,if_neg (by simp; omega),AH.get_push,if_neg (by omega)]; exact hm.ptrs
  refine ⟨_,R.set q ⟨h.next + 1,some h.next,none⟩,st_ptr (W:=W) (m:=some h.next) (s:=none) hg hql,hm.setNew hr (by simp) ?_ ?_ ?_ ?_ (by simp; omega)⟩
  · intro k hk hne
    have h1:k≠h.next:=by omega
    have h2:k≠h.next + 1:=by omega
    simp [hne,h1,h2]
  · refine ⟨.map (some h.next),.sl none 0 0 none,?_,⟨rfl,[],0,?_,okEs_ok rfl,rfl⟩,⟨rfl,rfl⟩⟩
    · have:h.next + 1≠R.kn:=by omega
      simp [this,newFile]
    · have:h.next≠R.kn:=by omega
      simp [this]
  · intro k hk
    simp only [NR.ids,Option.toList,List.mem_cons,List.mem_append,List.not_mem_nil,or_false] at hk
    rcases hk with rfl | rfl<;>simp<;>omega
  · simp [NR.ids]
theorem new_dir {W:World} {h:AH} {R:MR} {M:MS} (hm:MIs h R M) {q:Nat} (hq:q<M.nodes.length):
    ∃h' R',aStoreOp (CC W) (h.push (.cells [.int .i64 2,.int .i64 1,.int .i64 0,.map none,.sl none 0 0 none] 93)) 89 (.ptr (some (.new R.kn q))) (.ptr (some (.new h.next 0)))=some h'∧MIs h' R' (M.set q newDir)∧MStep h h' R R':=by
  obtain ⟨r,nd,hr,hnd,hn⟩:=hm.node hq
  have hql:q<R.nd.length:=by rw [hm.len]; exact hq
  have hkn:=hm.low R.kn (by simp [MR.ids])
  have hg:(h.push (.cells [.int .i64 2,.int .i64 1,.int .i64 0,.map none,.sl none 0 0 none] 93)).get R.kn=some (.cells (ptrCells R.nd) 89):=by
    rw [AH.get_push,if_neg (by omega)]; exact hm.ptrs
  refine ⟨_,R.set q ⟨h.next,none,none⟩,st_ptr (W:=W) (m:=none) (s:=none) hg hql,hm.setNew hr (by simp) ?_ ?_ ?_ ?_ (by simp)⟩
  · intro k hk hne
    have h1:k≠h.next:=by omega
    simp [hne,h1]
  · refine ⟨.map none,.sl none 0 0 none,?_,rfl,⟨rfl,rfl⟩⟩
    have:h.next≠R.kn:=by omega
    simp [this,newDir]
  · intro k hk
    simp only [NR.ids,Option.toList,List.mem_cons,List.mem_append,List.not_mem_nil,or_false] at hk
    subst hk; simp
  · simp [NR.ids]
def opV (kd a n:Int) (p t dt:List UInt8):AV:= .agg [.int .i64 kd,.int .i64 a,.int .i64 n,.str p,.str t,.str dt]
set_option maxRecDepth 100000 in
set_option maxHeartbeats 8000000 in
theorem create_ret (W:World) (h:AH) (R:MR) (M:MS) (hm:MIs h R M) (ok:MOk M) (kd a n:Int) (p t dt:List UInt8) (v v2:AV) (l:List (List UInt8)) (hs:StrS W h v l) (hl:l.length<8796093022207)
    (hb:∀nd∈M.nodes,nd.slots.length + 1<1099511627776∧nd.size + 32<1099511627776):
    RetM (CC W) 35 [.ptr (some (.new R.km 0)),opV kd a n p t dt,v,v2] h R (resE (createR M kd l).1) (createR M kd l).2:=by
  refine jj9 (cc_ok W) (fn35 W) (by simp only [Tryz.f35]; rfl) rfl rfl ?_
  have hsd:=Side.start hm (.cells [.int .i64 kd,.int .i64 a,.int .i64 n,.str p,.str t,.str dt] 35) (.cells res0 39)
  have hbx:=box_op (h:=h) (l:=[.int .i64 kd,.int .i64 a,.int .i64 n,.str p,.str t,.str dt])
  have hal:=alloc_res (W:=W) (h:=h.push (.cells [.int .i64 kd,.int .i64 a,.int .i64 n,.str p,.str t,.str dt] 35))
  have hgb:((h.push (.cells [.int .i64 kd,.int .i64 a,.int .i64 n,.str p,.str t,.str dt] 35)).push (.cells res0 39)).get h.next=some (.cells [.int .i64 kd,.int .i64 a,.int .i64 n,.str p,.str t,.str dt] 35):=by simp
  have hg0:((h.push (.cells [.int .i64 kd,.int .i64 a,.int .i64 n,.str p,.str t,.str dt] 35)).push (.cells res0 39)).get (h.push (.cells [.int .i64 kd,.int .i64 a,.int .i64 n,.str p,.str t,.str dt] 35)).next=some (.cells res0 39):=by simp
  generalize (h.push (.cells [.int .i64 kd,.int .i64 a,.int .i64 n,.str p,.str t,.str dt] 35)).push (.cells res0 39)=h2 at hsd hal hgb hg0
  generalize h.push (.cells [.int .i64 kd,.int .i64 a,.int .i64 n,.str p,.str t,.str dt] 35)=h1 at hsd hbx hal hgb hg0
  generalize h1.next=k0 at hsd hal hg0
  generalize h.next=kb at hbx hgb hsd
  have hm2:=hm.keeps hsd.keeps
  have hs2:=hs.keeps hsd.keeps
  simp [push_cast,opV,hbx,hal]
  refine jf9 (by simp [fn68]) (parent_ret W h2 R M hm2 ok v l hs2 hl) fun h3 hk3=> ?_
  have hm3:=hm2.keeps hk3
  have hB3:MStep h2 h3 R R:=MStep.refl hk3
  by_cases he:(parentR M l).2=0
  · obtain ⟨hl0,i,nd,hi,hnd,hkd,hpl,_⟩:=parentR_ok ok he
    have hin:i<M.nodes.length:=(List.getElem?_eq_some_iff.1 hnd).1
    obtain ⟨r,nd',hr,hnd',hn3⟩:=hm3.node hin
    rw [hnd] at hnd'; cases hnd'
    have hf0:parentV R M l= .tup [.ptr (some (.new r.k 0)),.int .i64 0]:=by
      simp [parentV,he,hi,MR.at,hr]
    simp [push_cast,hf0,fa88_0,ld85,ji9 hm3.mod,jd9]
    refine jf9 (by simp [fn69]) (free_ret W h3 R M hm3 ok) fun h4 hk4=> ?_
    have hm4:=hm3.keeps hk4
    have hB4:MStep h2 h4 R R:=hB3.trans (MStep.refl hk4)
    have hs4:=(hs2.keeps hk3).keeps hk4
    obtain ⟨av,cv,gv,rfl⟩:=hs.len
    have hpos:0<l.length:=List.length_pos_iff.2 hl0
    have hlen:∀h,aLen (CC W) h 37 (.sl av l.length cv gv)=some (.int .i64 l.length):=fun h=>by simp [aLen,kind37]
    have wi:IntKind.i64.wrap ((l.length:Int) - 1)=((l.length - 1:Nat):Int):=by rw [wrap64 (by omega) (by omega)]; omega
    have hlast:l[l.length - 1]? =some (l.getLast?.getD []):=by
      rw [←List.getLast?_eq_getElem?,List.getLast?_eq_some_getLast hl0]; rfl
    obtain ⟨a',hix,hld⟩:=hs4.at hlast
    by_cases hfr:freeR M<0
    · have hcr:createR M kd l=(306,M):=by simp only [createR,if_pos he,if_pos hfr]
      rw [hcr]
      simp [push_cast,hfr]
      refine jf9 (by simp [fn48]) (failed_ret W h4 _) fun h5 hk5=> ?_
      have hg5:=((hsd.stay (hB4.trans (MStep.refl hk5)) (.inr rfl))).trans hg0
      have hst:=st_res (W:=W) (e1:=306) (d1:=[]) (k1:=0) (l1:=0) (s1:=0) (p:=none) (n:=0) (q:=0) (g:=none) hg5
      have hf:=hsd.fin (hm4.keeps hk5) (hB4.trans (MStep.refl hk5)) (.cells [.int .i64 306,.str [],.int .i64 0,.int .i64 0,.int .i64 0,.sl none 0 0 none] 39)
      simp [push_cast,resE,res6,hst,ld_resS]
      exact ⟨_,hf⟩
    · obtain ⟨q,hq,hqn,hq0⟩:=fstI_lt (p:=fun i=>match M.nodes[i]? with | some nd=>nd.kind==0 | none=>false) (n:=M.nodes.length) hfr
      have hfq:freeR M=(q:Int):=hq
      rw [hfq] at hfr ⊢
      simp [push_cast,hfr,hlen,wi,hix,hld]
      have hbn:=hb nd (List.mem_of_getElem? hnd)
      refine je9 (by simp [fn71]) (put_ret W h4 R M hm4 ok i r nd hr hnd (l.getLast?.getD []) q ⟨by omega,by omega⟩ hbn.1 hbn.2) fun w h5 ⟨R5,hw,hm5,hB5,_⟩=> ?_
      subst hw
      have hB5':MStep h2 h5 R R5:=hB4.trans hB5
      have hg5:=((hsd.stay hB5' (.inr rfl))).trans hg0
      have hgb5:=((hsd.stay hB5' (.inl rfl))).trans hgb
      cases hpr:(putR M i (l.getLast?.getD []) q).1 with
      | false=>
        have hcr:createR M kd l=(306,(putR M i (l.getLast?.getD []) q).2):=by
          simp only [createR,if_pos he,hfq,if_neg hfr,hi,Int.toNat_natCast]
          generalize putR M i (l.getLast?.getD []) q=pr at hpr ⊢
          obtain ⟨b,M1⟩:=pr
          simp only at hpr; subst hpr; rfl
        rw [hcr]
        simp [push_cast]
        refine jf9 (by simp [fn48]) (failed_ret W h5 _) fun h6 hk6=> ?_
        have hg6:=((hsd.stay (hB5'.trans (MStep.refl hk6)) (.inr rfl))).trans hg0
        have hst:=st_res (W:=W) (e1:=306) (d1:=[]) (k1:=0) (l1:=0) (s1:=0) (p:=none) (n:=0) (q:=0) (g:=none) hg6
        have hf:=hsd.fin (hm5.keeps hk6) (hB5'.trans (MStep.refl hk6)) (.cells [.int .i64 306,.str [],.int .i64 0,.int .i64 0,.int .i64 0,.sl none 0 0 none] 39)
        simp [push_cast,resE,res6,hst,ld_resS]
        exact ⟨_,hf⟩
      | true=>
        have hcr:createR M kd l=(0,(putR M i (l.getLast?.getD []) q).2.set q (if kd=2 then newDir else newFile)):=by
          simp only [createR,if_pos he,hfq,if_neg hfr,hi,Int.toNat_natCast]
          generalize putR M i (l.getLast?.getD []) q=pr at hpr ⊢
          obtain ⟨b,M1⟩:=pr
          simp only at hpr; subst hpr; rfl
        rw [hcr]
        have hq5:q<(putR M i (l.getLast?.getD []) q).2.nodes.length:=by rw [putR_len]; exact hqn
        generalize (putR M i (l.getLast?.getD []) q).2=M5 at hm5 hq5 ⊢
        obtain ⟨h6,R6,hst6,hm6,hB6⟩:=new_file (W:=W) hm5 hq5
        have hB6':=hB5'.trans hB6
        have hkm5:R5.km=R.km:=hB5.hds.1
        have hmod5:=hm5.mod
        rw [hkm5] at hmod5
        have hmod5':∀o,((h5.push (.map [] 0)).get R.km=some o↔h5.get R.km=some o):=fun o=>by
          have:=hm5.low R5.km (by simp [MR.ids])
          rw [hkm5] at this
          rw [AH.get_push,if_neg (by omega)]
        simp [push_cast,aUn_not,hkm5,fa88_0,ld85,ji9 hmod5,jd9,make_map,build_file,box_nd,idx_nd hq5,hst6]
        have hgb6:=((hsd.stay hB6' (.inl rfl))).trans hgb
        have hg06:=((hsd.stay hB6' (.inr rfl))).trans hg0
        have hkm6:R6.km=R.km:=hB6'.hds.1
        have hmod6:=hm6.mod
        rw [hkm6] at hmod6
        by_cases hk2:kd=2
        · have hq6:q<(M5.set q newFile).nodes.length:=by simp only [MS.set,List.length_set]; exact hq5
          obtain ⟨h7,R7,hst7,hm7,hB7⟩:=new_dir (W:=W) hm6 hq6
          have hB7':=hB6'.trans hB7
          have hg07:=((hsd.stay hB7' (.inr rfl))).trans hg0
          have hst:=st_res (W:=W) (e1:=0) (d1:=[]) (k1:=0) (l1:=0) (s1:=0) (p:=none) (n:=0) (q:=0) (g:=none) hg07
          have hset:(M5.set q newFile).set q newDir=M5.set q newDir:=by simp only [MS.set,List.set_set]
          rw [hset] at hm7
          have hf:=hsd.fin hm7 hB7' (.cells [.int .i64 0,.str [],.int .i64 0,.int .i64 0,.int .i64 0,.sl none 0 0 none] 39)
          simp [push_cast,hk2,fa35_0,ld3,ji9 hgb6,fa88_0,ld85,ji9 hmod6,jd9,build_dir,box_nd,idx_nd hq6,hst7,build_res0,res0,resE,res6,hst,ld_resS]
          exact ⟨_,hf⟩
        · have hst:=st_res (W:=W) (e1:=0) (d1:=[]) (k1:=0) (l1:=0) (s1:=0) (p:=none) (n:=0) (q:=0) (g:=none) hg06
          have hf:=hsd.fin hm6 hB6' (.cells [.int .i64 0,.str [],.int .i64 0,.int .i64 0,.int .i64 0,.sl none 0 0 none] 39)
          simp [push_cast,hk2,fa35_0,ld3,ji9 hgb6,build_res0,res0,resE,res6,hst,ld_resS]
          exact ⟨_,hf⟩
  · have hf0:parentV R M l= .tup [.ptr none,.int .i64 (parentR M l).2]:=by
      have:parentR M l=((parentR M l).1,(parentR M l).2):=rfl
      simp only [parentV,if_neg he]
    have hcr:createR M kd l=((parentR M l).2,M):=by simp only [createR,if_neg he]
    rw [hf0,hcr]
    simp [push_cast,he]
    refine jf9 (by simp [fn48]) (failed_ret W h3 _) fun h4 hk4=> ?_
    have hg4:=((hsd.stay (hB3.trans (MStep.refl hk4)) (.inr rfl))).trans hg0
    have hst:=st_res (W:=W) (e1:=(parentR M l).2) (d1:=[]) (k1:=0) (l1:=0) (s1:=0) (p:=none) (n:=0) (q:=0) (g:=none) hg4
    have hf:=hsd.fin (hm3.keeps hk4) (hB3.trans (MStep.refl hk4)) (.cells [.int .i64 (parentR M l).2,.str [],.int .i64 0,.int .i64 0,.int .i64 0,.sl none 0 0 none] 39)
    simp [push_cast,resE,res6,hst,ld_resS]
    exact ⟨_,hf⟩
def statV (M:MS) (l:List (List UInt8)):AV:=
  if (findR M l 0).2=0 then match M.nodes[(findR M l 0).1.toNat]? with
    | some nd=> .agg (res6 0 [] nd.kind nd.links nd.size (.sl none 0 0 none))
    | none=> .bad
  else resE (findR M l 0).2
theorem build_stat {W:World} {a b c:Int}:aBuild (CC W) 39 [(2,.int .i64 a),(3,.int .i64 b),(4,.int .i64 c)]=some (.agg [.int .i64 0,.str [],.int .i64 a,.int .i64 b,.int .i64 c,.sl none 0 0 none]):=rfl
set_option maxRecDepth 100000 in
set_option maxHeartbeats 8000000 in
theorem stat_ret (W:World) (h:AH) (R:MR) (M:MS) (hm:MIs h R M) (ok:MOk M) (kd a n:Int) (p t dt:List UInt8) (v v2:AV) (l:List (List UInt8)) (hs:StrS W h v l) (hl:l.length<8796093022207):
    RetM (CC W) 39 [.ptr (some (.new R.km 0)),opV kd a n p t dt,v,v2] h R (statV M l) M:=by
  refine jj9 (cc_ok W) (fn39 W) (by simp only [Tryz.f39]; rfl) rfl rfl ?_
  have hsd:=Side.start hm (.cells [.int .i64 kd,.int .i64 a,.int .i64 n,.str p,.str t,.str dt] 35) (.cells res0 39)
  have hbx:=box_op (h:=h) (l:=[.int .i64 kd,.int .i64 a,.int .i64 n,.str p,.str t,.str dt])
  have hal:=alloc_res (W:=W) (h:=h.push (.cells [.int .i64 kd,.int .i64 a,.int .i64 n,.str p,.str t,.str dt] 35))
  have hg0:((h.push (.cells [.int .i64 kd,.int .i64 a,.int .i64 n,.str p,.str t,.str dt] 35)).push (.cells res0 39)).get (h.push (.cells [.int .i64 kd,.int .i64 a,.int .i64 n,.str p,.str t,.str dt] 35)).next=some (.cells res0 39):=by simp
  generalize (h.push (.cells [.int .i64 kd,.int .i64 a,.int .i64 n,.str p,.str t,.str dt] 35)).push (.cells res0 39)=h2 at hsd hal hg0
  generalize h.push (.cells [.int .i64 kd,.int .i64 a,.int .i64 n,.str p,.str t,.str dt] 35)=h1 at hsd hbx hal hg0
  generalize h1.next=k0 at hsd hal hg0
  generalize h.next=kb at hbx hsd
  have hm2:=hm.keeps hsd.keeps
  have hs2:=hs.keeps hsd.keeps
  simp [push_cast,opV,hbx,hal]
  refine jf9 (by simp [fn78]) (find_ret W h2 R M hm2 ok v l hs2 hl) fun h3 hk3=> ?_
  have hm3:=hm2.keeps hk3
  have hB3:MStep h2 h3 R R:=MStep.refl hk3
  by_cases he:(findR M l 0).2=0
  · obtain ⟨b0,b1⟩:=findR_lt ok l 0 (by omega) (by have:=ok.some; omega)
    obtain ⟨q,hq⟩:=Int.eq_ofNat_of_zero_le b0
    have hqn:q<M.nodes.length:=by omega
    obtain ⟨r,nd,hr,hnd,hn⟩:=hm3.node hqn
    obtain ⟨mv,sv,hc,_,_⟩:=_root_.id hn
    have hv:statV M l= .agg (res6 0 [] nd.kind nd.links nd.size (.sl none 0 0 none)):=by
      simp only [statV,if_pos he,hq,Int.toNat_natCast,hnd]
    rw [hv,hq,he]
    simp [push_cast,fa88_0,ld85,ji9 hm3.mod,jd9,idx_nd hqn,ld89,cell_nd hm3 hr]
    refine draw1 (cc_ok W) [0,1,2,3,4,5,6,7,8,9,10,11,12,13] (by kernel_rfl) (by kernel_rfl) (by kernel_rfl) rfl ?_
    have hg3:=((hsd.stay hB3 (.inr rfl))).trans hg0
    have hst:=st_res (W:=W) (e1:=0) (d1:=[]) (k1:=nd.kind) (l1:=nd.links) (s1:=nd.size) (p:=none) (n:=0) (q:=0) (g:=none) hg3
    have hf:=hsd.fin hm3 hB3 (.cells [.int .i64 0,.str [],.int .i64 nd.kind,.int .i64 nd.links,.int .i64 nd.size,.sl none 0 0 none] 39)
    simp [push_cast,fa93_0,fa93_1,fa93_2,ld3,ji9 hc,jd9,build_stat,hst,ld_resS,res6]
    exact ⟨_,hf⟩
  · have hv:statV M l=resE (findR M l 0).2:=by simp only [statV,if_neg he]
    rw [hv]
    simp [push_cast,he]
    refine jf9 (by simp [fn48]) (failed_ret W h3 _) fun h4 hk4=> ?_
    have hg4:=((hsd.stay (hB3.trans (MStep.refl hk4)) (.inr rfl))).trans hg0
    have hst:=st_res (W:=W) (e1:=(findR M l 0).2) (d1:=[]) (k1:=0) (l1:=0) (s1:=0) (p:=none) (n:=0) (q:=0) (g:=none) hg4
    have hf:=hsd.fin (hm3.keeps hk4) (hB3.trans (MStep.refl hk4)) (.cells [.int .i64 (findR M l 0).2,.str [],.int .i64 0,.int .i64 0,.int .i64 0,.sl none 0 0 none] 39)
    simp [push_cast,resE,res6,hst,ld_resS]
    exact ⟨_,hf⟩
end Go.Proofs.YtbofhlifobjolaaGreatDoor.Ax
end
