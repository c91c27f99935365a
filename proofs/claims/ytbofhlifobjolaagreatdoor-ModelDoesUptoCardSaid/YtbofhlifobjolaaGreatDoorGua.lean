/- The texts BelowT, TreeW, TreeL, TreeD, IntsEq, KeepF, Room, RefNew, RfA, RfB, RfC, RfD, RfE, RfF, RfG, RfH, as one. -/
import Derived.Test.YtbofhlifobjolaaGreatDoorGta
import Derived.Test.YtbofhlifobjolaaGreatDoorGi
import Derived.Test.YtbofhlifobjolaaGreatDoorGh
import Derived.Test.YtbofhlifobjolaaGreatDoorGf
import Derived.Test.YtbofhlifobjolaaGreatDoorGtc
section
set_option linter.unusedVariables false
set_option linter.unusedSimpArgs false
namespace Go.Proofs.YtbofhlifobjolaaGreatDoor.Ax
open Go.RowKit
def OwnN (h:AH) (nv:AV) (l:List (List UInt8)):Prop:=(∃h0,OwnS h0 h nv l)∧(l=[]→nv= .sl none 0 0 none)
theorem alloc_file {W:World} {h:AH}:aAlloc (CC W) h 55=some (.ptr (some (.new h.next 0)),h.push (.cells [.str [],.int .i64 0,.int .i64 0,.int .i64 0,.int .i64 0,.sl none 0 0 none,.str []] 55)):=rfl
theorem build_fileR {W:World} {p:List UInt8} {a b c d:Int} {bv:AV} {h2:AH} {l:List Int} (hb:IntS h2 bv l):aBuild (CC W) 55 [(0,.str p),(1,.int .i64 a),(2,.int .i64 b),(3,.int .i64 c),(4,.int .i64 d),(5,bv)]=some (.agg [.str p,.int .i64 a,.int .i64 b,.int .i64 c,.int .i64 d,bv,.str []]):=by
  rcases hb with ⟨_,rfl⟩ | ⟨k,cap,gr,_,rfl,_⟩<;>rfl
theorem st_file {W:World} {h:AH} {k:Nat} {a b:List AV} (hg:h.get k=some (.cells a 55)) (ha:a.length=7) (hb:b.length=7) (hone:b.all aOne=true):aStoreOp (CC W) h 55 (.ptr (some (.new k 0))) (.agg b)=some (h.set k (.cells b 55)):=by
  simp only [aStoreOp,aCellsOf,size55,aStore,hg]
  rw [if_pos hb,if_pos ⟨by omega,hone⟩]
  have:overlay a b 0=b:=by simp [overlay,ha,hb]
  rw [this]
theorem keeps_setN {h h':AH} {k:Nat} {c:AObj} (hk:Keeps h h') (hn:h.next≤k):Keeps h (h'.set k c):=
  ⟨hk.1, fun j hj => by have : j ≠ k := by omega
                        simp [this]; exact hk.2 j hj⟩
theorem IntS.setF {h:AH} {v:AV} {l:List Int} {k:Nat} {x:List UInt8} {a:List AV} {t:TypeId} {c:AObj} (hi:IntS h v l) (hg:h.get k=some (.cells (.str x::a) t)):IntS (h.set k c) v l:=by
  rcases hi with h1 | ⟨j,cap,gr,h1,h2,h3⟩
  · exact .inl h1
  · have hne:j≠k:=by
      rintro rfl
      rw [h3] at hg
      simp only [Option.some.injEq,AObj.cells.injEq] at hg
      cases l<;>simp [ints] at hg
    exact .inr ⟨j,cap,gr,h1,h2,by simp [hne]; exact h3⟩
theorem flC_one {h:AH} {f:Fl} {bv:AV} (hb:IntS h bv f.blocks):(flC (f,bv)).all aOne=true:=by
  have:=flCs_one (ps:=[(f,bv)]) (h:=h) fun q hq=>by rw [List.mem_singleton] at hq; subst hq; exact hb
  simpa [flCs] using this
theorem text_add {x y:List UInt8} (h:x.length + y.length<4611686018427387904):aStr .add x y=some (.str (x ++ y)):=by
  have hm:IntKind.i64.max=9223372036854775807:=by decide
  simp only [aStr,hm]
  rw [if_neg (by omega)]
theorem join_len:∀{l:List (List UInt8)},(∀x∈l,x.length≤255)→(Lib.join l [47]).length≤256 * l.length
  | [],_=>by simp [Lib.join_nil]
  | x::l,h=>by
    have hc:∀{l:List (List UInt8)},(∀x∈l,x.length≤255)→(catR l).length≤256 * l.length:=by
      intro l
      induction l with
      | nil=>intro _; simp [catR]
      | cons y r ih=>
        intro h
        have h1:=h y (by simp)
        have h2:=ih fun z hz=>h z (by simp [hz])
        have e:catR (y::r)=47::y ++ catR r:=by simp [catR]
        rw [e]; simp; omega
    have h1:=hc h
    rw [←join_cat (x::l) (by simp)] at h1
    simp at h1 ⊢
    omega
def flD (names:List (List UInt8)) (i:Nat) (nd:Nd) (d:List UInt8):Fl:=⟨47::Lib.join names [47],i,nd.kind,nd.links,nd.size,indR nd,d⟩
def FileA (h:AH) (mv nv pv:AV) (names:List (List UInt8)) (i:Nat) (nd:Nd) (d:List UInt8) (e':Env) (h':AH):Prop:=
  e'.length=93∧Keeps h h'∧∃kf bv,h.next≤kf∧kf<h'.next∧h'.get kf=some (.cells (flC (flD names i nd d,bv)) 55)∧IntS h' bv (indR nd)∧
    (e'.getD 0 .undef=mv∧e'.getD 2 .undef=nv∧e'.getD 7 .undef=pv∧e'.getD 8 .undef= .ptr (some (.new kf 0)))
theorem IntS.off {h h':AH} {v:AV} {l:List Int} {k:Nat} {x:List UInt8} {a:List AV} {t:TypeId} (hi:IntS h v l) (hg:h.get k=some (.cells (.str x::a) t)) (hoff:∀j,j≠k→h'.get j=h.get j) (hn:h.next≤h'.next):IntS h' v l:=by
  rcases hi with h1 | ⟨j,cap,gr,h1,h2,h3⟩
  · exact .inl h1
  · have hne:j≠k:=by
      rintro rfl
      rw [h3] at hg
      simp only [Option.some.injEq,AObj.cells.injEq] at hg
      cases l<;>simp [ints] at hg
    exact .inr ⟨j,cap,gr,by omega,h2,by rw [hoff j hne]; exact h3⟩
theorem look_blkN {W:World} {h:AH} {v:AV} {m:Option Nat} {b:Option Blk} (hm:MapIs h v m b) (k:Int):
    aLookup (CC W) h 90 v (.int .i64 k) false=some (.str ((blkAt b k).getD [])):=by
  have hkd:(CC W).kind 90= .map 3 9:=rfl
  have hkey:aKey (CC W) 100 3 (.int .i64 k)=true:=rfl
  cases m with
  | none=>
    cases b with
    | some _=>exact hm.elim
    | none=>
      have hv:v= .map none:=hm
      subst hv
      simp only [aLookup,hkd,hkey,if_true]
      rfl
  | some km=>
    cases b with
    | none=>exact hm.elim
    | some l=>
      obtain ⟨rfl,es,clock,hg,hok,hes⟩:=hm
      have hf:=find_blk (W:=W) (k:=k) l es 0 hes
      simp only [aLookup,hkd,hkey,if_true,hg,hf,Option.bind,blkAt,Option.getD_some]
      cases fnd k l 0 with
      | none=>rfl
      | some p=>rfl
theorem datR_len {b:Option Blk} (h:∀x∈b.getD [],x.2.length=128):∀(l:List Int),(datR b l).length≤128 * l.length
  | []=>by simp [datR]
  | k::l=>by
    have h1:=datR_len h l
    have h2:((blkAt b k).getD []).length≤128:=by
      cases hb:blkAt b k with
      | none=>simp
      | some s=>
        simp only [blkAt,Option.map_eq_some_iff] at hb
        obtain ⟨p,hp,rfl⟩:=hb
        have:=h _ (fnd_mem hp)
        simp at this ⊢; omega
    have e:datR b (k::l)=(blkAt b k).getD [] ++ datR b l:=by simp [datR]
    rw [e]; simp; omega
theorem datR_snoc {b:Option Blk} {l:List Int} {k:Int}:datR b (l ++ [k])=datR b l ++ (blkAt b k).getD []:=by simp [datR]
theorem st_f6 {W:World} {h:AH} {k:Nat} {a0 a1 a2 a3 a4 a5:AV} {x y:List UInt8} {t:TypeId} (hg:h.get k=some (.cells [a0,a1,a2,a3,a4,a5,.str x] t)):
    aStoreOp (CC W) h 9 (.ptr (some (.new k 6))) (.str y)=some (h.set k (.cells [a0,a1,a2,a3,a4,a5,.str y] t)):=by
  simp only [aStoreOp,aCellsOf,size9,aStore,hg]
  rfl
def DatI (h2:AH) (mv nv pv bv:AV) (names:List (List UInt8)) (i:Nat) (nd:Nd) (kf:Nat) (m:Nat) (e':Env) (h':AH):Prop:=
  e'.length=93∧∃j,j + m=(indR nd).length∧h'.next=h2.next∧(∀k,k≠kf→h'.get k=h2.get k)∧h'.get kf=some (.cells (flC (flD names i nd (datR nd.blocks ((indR nd).take j)),bv)) 55)∧
    (e'.getD 0 .undef=mv∧e'.getD 2 .undef=nv∧e'.getD 7 .undef=pv∧e'.getD 8 .undef= .ptr (some (.new kf 0))∧e'.getD 46 .undef=bv∧e'.getD 47 .undef= .int .i64 (indR nd).length∧e'.getD 48 .undef= .int .i64 j)
theorem ld_file {W:World} {h:AH} {k:Nat} {f:Fl} {bv:AV} (hg:h.get k=some (.cells (flC (f,bv)) 55)):aLoad (CC W) h 55 (.new k 0)=some (.agg (flC (f,bv))):=by
  unfold aLoad
  rw [ty55]
  show (aCells (CC W) h (.new k 0) 7).map AV.agg=_
  simp only [aCells,hg]
  rfl
def TreeI (M:MS) (n:Nat) (h5:AH) (mv nv pv sv:AV) (names:List (List UInt8)) (i:Nat) (nd:Nd) (S:List (List UInt8)) (m:Nat) (e':Env) (h':AH):Prop:=
  e'.length=93∧∃j,j + m=S.length∧OwnF h5 h' (e'.getD 11 .undef) (flR names i nd::(S.take j).flatMap fun s=>treeR M n (names ++ [s]) (childR nd s))∧
    (e'.getD 0 .undef=mv∧e'.getD 2 .undef=nv∧e'.getD 7 .undef=pv∧e'.getD 66 .undef=sv∧e'.getD 67 .undef= .int .i64 S.length∧e'.getD 68 .undef= .int .i64 j)
def TreeK (M:MS) (n:Nat) (h5:AH) (mv nv pv sv:AV) (names:List (List UInt8)) (i:Nat) (nd:Nd) (S:List (List UInt8)) (j:Nat) (e':Env) (h':AH):Prop:=
  e'.length=93∧OwnF h5 h' (e'.getD 11 .undef) (flR names i nd::(S.take (j + 1)).flatMap fun s=>treeR M n (names ++ [s]) (childR nd s))∧
    (e'.getD 0 .undef=mv∧e'.getD 2 .undef=nv∧e'.getD 7 .undef=pv∧e'.getD 66 .undef=sv∧e'.getD 67 .undef= .int .i64 S.length∧e'.getD 68 .undef= .int .i64 j)
abbrev fl0:List AV:=[.str [],.int .i64 0,.int .i64 0,.int .i64 0,.int .i64 0,.sl none 0 0 none,.str []]
set_option maxRecDepth 100000 in
set_option maxHeartbeats 8000000 in
theorem below_tree (W:World) (R:MR) (M:MS) (ok:MOk M) (h128:∀nd∈M.nodes,∀x∈nd.blocks.getD [],x.2.length=128) (hnm:∀nd∈M.nodes,∀x∈nd.slots,x.nm.length≤255):
    ∀(n:Nat) (h:AH) (i:Nat) (names:List (List UInt8)) (nv:AV),MIs h R M→OwnN h nv names→Deep M n i→(treeR M n names i).length<1000000000000→(∀x∈names,x.length≤255)→names.length + n≤1000→
    RetQ (CC W) 55 [.ptr (some (.new R.km 0)),.int .i64 i,nv] h (fun w h'=>OwnF h h' w (treeR M n names i)):=by
  intro n
  induction n with
  | zero=>intro h i names nv _ _ hd; exact hd.elim
  | succ n ih=>
    intro h i names nv hm hn hdd hlen hns hdp
    obtain ⟨nd0,hnd0,hdeep⟩:=hdd
    refine jj9 (cc_ok W) (fn55 W) (by simp only [Tryz.f55]; rfl) rfl rfl ?_
    have hlt:i<M.nodes.length:=(List.getElem?_eq_some_iff.1 hnd0).1
    obtain ⟨r,nd,hr,hnd,hnod⟩:=hm.node hlt
    rw [hnd0] at hnd; cases hnd
    have hcn:=cell_nd (W:=W) hm hr
    obtain ⟨mv,sv,hc,hmp,hsl⟩:=_root_.id hnod
    have hshort:=ok.short nd0 (List.mem_of_getElem? hnd0)
    have hlow:∀k∈r.ids,k<h.next:=fun k hk1=>hm.low k (mem_ids hr hk1)
    obtain ⟨⟨h00,hos⟩,hnil⟩:=_root_.id hn
    have hjl:(Lib.join names [47]).length<1000000:=by have:=join_len hns; omega
    have hjn:=gojoin_ret W h nv names hos.strS (by omega) (by omega)
    have hadd:aStr .add [47] (Lib.join names [47])=some (.str (47::Lib.join names [47])):=text_add (x:=[47]) (by simp; omega)
    simp [push_cast,fa88_0,ld85,ji9 hm.mod,jd9,idx_nd hlt,ld89,hcn]
    refine wc_cut (FileA h (.ptr (some (.new R.km 0))) nv (.ptr (some (.new r.k 0))) names i nd0 []) ?_ ?_
    · refine drawSn [[0,3,4,5,6,7,8,9,10,11,12,13,14,15,16,1,2,17,18,19,20],[0,3,4,5,6,7,8,9,10,11,12,13,14,15,16,1,2,19,17,18,20],[0,3,4,5,6,7,8,9,10,11,12,13,14,15,16,19,1,2,17,18,20]] (by kernel_rfl) (by kernel_rfl) ?_
      intro L hL
      simp only [List.mem_cons,List.not_mem_nil,or_false] at hL
      rcases hL with rfl | rfl | rfl
      · simp [push_cast,zx9,zy9,SgO,opA,isE,isRead,fa93_0,fa93_1,fa93_2,ld3,ji9 hc,jd9]
        refine jb9 (f:=97) (args:=[nv,.str [47]]) (by rfl) (by rfl) (by rfl) (by simp [fn97]) (gojoin_ret W h nv names (hos.keeps (Keeps.refl h)).strS (by omega) (by omega)) ?_
        rintro w hj ⟨rfl,hjj⟩
        rw [hjj]
        clear hjj hj
        refine ⟨?_,?_⟩
        · simp [zz9,ja9,push_cast,opA,fa93_0,fa93_1,fa93_2,ld3,ji9 hc,jd9]
        simp [push_cast,zx9,zy9,SgO,opA,isE,isRead,hadd]
        refine jb9 (f:=96) (args:=[.ptr (some (.new r.k 0))]) (by rfl) (by rfl) (by rfl) (by simp [fn96]) (ind_ret W h r nd0 (hnod.same fun k hk=>(Keeps.refl h).2 k (hlow k hk)) (fun k hk=>Nat.lt_of_lt_of_le (hlow k hk) (Keeps.refl h).1) hshort) ?_
        rintro bv hI ⟨hkI,hbv⟩
        have hkI2:=(Keeps.refl h).trans hkI
        have hcI:=(hkI2.2 r.k (hlow r.k (by simp [NR.ids]))).trans hc
        refine ⟨?_,?_⟩
        · simp [zz9,ja9,push_cast,opA,fa93_0,fa93_1,fa93_2,ld3,ji9 hcI,jd9]
        simp [push_cast,zx9,zy9,SgO,opA,isE,isRead,build_fileR hbv]
        have hkP:=Keeps.push hI (.cells fl0 55)
        have hcP:=((hkI2.trans hkP).2 r.k (hlow r.k (by simp [NR.ids]))).trans hc
        have hkP2:=hkI2.trans hkP
        have hgP:(hI.push (.cells fl0 55)).get hI.next=some (.cells fl0 55):=by simp
        have hnP:hI.next<(hI.push (.cells fl0 55)).next:=by simp
        refine jc9 (v:= .ptr (some (.new hI.next 0))) (h':=hI.push (.cells fl0 55)) (by rfl) (by rfl) ?_
        generalize hI.push (.cells fl0 55)=hP at hkP hcP hkP2 hgP hnP ⊢
        generalize hkf:hI.next=kf at hgP hnP ⊢
        have hnI:h.next≤kf:=by rw [←hkf]; exact hkI2.1
        refine ⟨?_,?_⟩
        · simp [zz9,ja9,push_cast,opA,fa93_0,fa93_1,fa93_2,ld3,ji9 hcP,jd9]
        simp [push_cast,zx9,zy9,SgO,opA,isE,isRead]
        have hst:=st_file (W:=W) (h:=hP) (b:=flC (flD names i nd0 [],bv)) hgP (by rfl) (by rfl) (flC_one (h:=hP) (f:=flD names i nd0 []) (hbv.keeps hkP))
        refine jc9 (v:= .undef) (h':=hP.set kf (.cells (flC (flD names i nd0 [],bv)) 55)) (by rfl) (by simp [push_cast]; exact hst) ⟨?_,?_⟩
        · repeat refine zz9 ▸ ⟨fun hc=>absurd (hc.symm.trans (show _=true by kernel_rfl)) (by decide),?_⟩
          exact ja9 ▸ trivial
        simp [push_cast,zy9,thenQ]
        exact ⟨by simp,keeps_setN hkP2 hnI,kf,bv,hnI,by simp; exact hnP,by simp,((hbv.keeps hkP)).setF hgP,by simp⟩
      · simp [push_cast,zx9,zy9,SgO,opA,isE,isRead,fa93_0,fa93_1,fa93_2,ld3,ji9 hc,jd9]
        refine jb9 (f:=97) (args:=[nv,.str [47]]) (by rfl) (by rfl) (by rfl) (by simp [fn97]) (gojoin_ret W h nv names (hos.keeps (Keeps.refl h)).strS (by omega) (by omega)) ?_
        rintro w hj ⟨rfl,hjj⟩
        rw [hjj]
        clear hjj hj
        refine ⟨?_,?_⟩
        · simp [zz9,ja9,push_cast,opA,fa93_0,fa93_1,fa93_2,ld3,ji9 hc,jd9]
        simp [push_cast,zx9,zy9,SgO,opA,isE,isRead,hadd]
        have hkP:=Keeps.push h (.cells fl0 55)
        have hcP:=(((Keeps.refl h).trans hkP).2 r.k (hlow r.k (by simp [NR.ids]))).trans hc
        have hkP2:=(Keeps.refl h).trans hkP
        have hgP:(h.push (.cells fl0 55)).get h.next=some (.cells fl0 55):=by simp
        have hnP:h.next<(h.push (.cells fl0 55)).next:=by simp
        refine jc9 (v:= .ptr (some (.new h.next 0))) (h':=h.push (.cells fl0 55)) (by rfl) (by rfl) ?_
        generalize h.push (.cells fl0 55)=hP at hkP hcP hkP2 hgP hnP ⊢
        generalize hkf:h.next=kf at hgP hnP ⊢
        have hnI:h.next≤kf:=by rw [←hkf]; exact (Keeps.refl h).1
        refine ⟨?_,?_⟩
        · simp [zz9,ja9,push_cast,opA,fa93_0,fa93_1,fa93_2,ld3,ji9 hcP,jd9]
        simp [push_cast,zx9,zy9,SgO,opA,isE,isRead]
        refine jb9 (f:=96) (args:=[.ptr (some (.new r.k 0))]) (by rfl) (by rfl) (by rfl) (by simp [fn96]) (ind_ret W hP r nd0 (hnod.same fun k hk=>hkP2.2 k (hlow k hk)) (fun k hk=>Nat.lt_of_lt_of_le (hlow k hk) hkP2.1) hshort) ?_
        rintro bv hI ⟨hkI,hbv⟩
        have hkI2:=hkP2.trans hkI
        have hcI:=(hkI2.2 r.k (hlow r.k (by simp [NR.ids]))).trans hc
        refine ⟨?_,?_⟩
        · simp [zz9,ja9,push_cast,opA,fa93_0,fa93_1,fa93_2,ld3,ji9 hcI,jd9]
        simp [push_cast,zx9,zy9,SgO,opA,isE,isRead,build_fileR hbv]
        have hst:=st_file (W:=W) (h:=hI) (b:=flC (flD names i nd0 [],bv)) ((hkI.2 kf hnP).trans hgP) (by rfl) (by rfl) (flC_one (h:=hI) (f:=flD names i nd0 []) hbv)
        refine jc9 (v:= .undef) (h':=hI.set kf (.cells (flC (flD names i nd0 [],bv)) 55)) (by rfl) (by simp [push_cast]; exact hst) ⟨?_,?_⟩
        · repeat refine zz9 ▸ ⟨fun hc=>absurd (hc.symm.trans (show _=true by kernel_rfl)) (by decide),?_⟩
          exact ja9 ▸ trivial
        simp [push_cast,zy9,thenQ]
        exact ⟨by simp,keeps_setN hkI2 hnI,kf,bv,hnI,by simp; exact (Nat.lt_of_lt_of_le hnP hkI.1),by simp,(hbv).setF ((hkI.2 kf hnP).trans hgP),by simp⟩
      · simp [push_cast,zx9,zy9,SgO,opA,isE,isRead,fa93_0,fa93_1,fa93_2,ld3,ji9 hc,jd9]
        have hkP:=Keeps.push h (.cells fl0 55)
        have hcP:=(((Keeps.refl h).trans hkP).2 r.k (hlow r.k (by simp [NR.ids]))).trans hc
        have hkP2:=(Keeps.refl h).trans hkP
        have hgP:(h.push (.cells fl0 55)).get h.next=some (.cells fl0 55):=by simp
        have hnP:h.next<(h.push (.cells fl0 55)).next:=by simp
        refine jc9 (v:= .ptr (some (.new h.next 0))) (h':=h.push (.cells fl0 55)) (by rfl) (by rfl) ?_
        generalize h.push (.cells fl0 55)=hP at hkP hcP hkP2 hgP hnP ⊢
        generalize hkf:h.next=kf at hgP hnP ⊢
        have hnI:h.next≤kf:=by rw [←hkf]; exact (Keeps.refl h).1
        refine ⟨?_,?_⟩
        · simp [zz9,ja9,push_cast,opA,fa93_0,fa93_1,fa93_2,ld3,ji9 hcP,jd9]
        simp [push_cast,zx9,zy9,SgO,opA,isE,isRead]
        refine jb9 (f:=97) (args:=[nv,.str [47]]) (by rfl) (by rfl) (by rfl) (by simp [fn97]) (gojoin_ret W hP nv names (hos.keeps hkP2).strS (by omega) (by omega)) ?_
        rintro w hj ⟨rfl,hjj⟩
        rw [hjj]
        clear hjj hj
        refine ⟨?_,?_⟩
        · simp [zz9,ja9,push_cast,opA,fa93_0,fa93_1,fa93_2,ld3,ji9 hcP,jd9]
        simp [push_cast,zx9,zy9,SgO,opA,isE,isRead,hadd]
        refine jb9 (f:=96) (args:=[.ptr (some (.new r.k 0))]) (by rfl) (by rfl) (by rfl) (by simp [fn96]) (ind_ret W hP r nd0 (hnod.same fun k hk=>hkP2.2 k (hlow k hk)) (fun k hk=>Nat.lt_of_lt_of_le (hlow k hk) hkP2.1) hshort) ?_
        rintro bv hI ⟨hkI,hbv⟩
        have hkI2:=hkP2.trans hkI
        have hcI:=(hkI2.2 r.k (hlow r.k (by simp [NR.ids]))).trans hc
        refine ⟨?_,?_⟩
        · simp [zz9,ja9,push_cast,opA,fa93_0,fa93_1,fa93_2,ld3,ji9 hcI,jd9]
        simp [push_cast,zx9,zy9,SgO,opA,isE,isRead,build_fileR hbv]
        have hst:=st_file (W:=W) (h:=hI) (b:=flC (flD names i nd0 [],bv)) ((hkI.2 kf hnP).trans hgP) (by rfl) (by rfl) (flC_one (h:=hI) (f:=flD names i nd0 []) hbv)
        refine jc9 (v:= .undef) (h':=hI.set kf (.cells (flC (flD names i nd0 [],bv)) 55)) (by rfl) (by simp [push_cast]; exact hst) ⟨?_,?_⟩
        · repeat refine zz9 ▸ ⟨fun hc=>absurd (hc.symm.trans (show _=true by kernel_rfl)) (by decide),?_⟩
          exact ja9 ▸ trivial
        simp [push_cast,zy9,thenQ]
        exact ⟨by simp,keeps_setN hkI2 hnI,kf,bv,hnI,by simp; exact (Nat.lt_of_lt_of_le hnP hkI.1),by simp,(hbv).setF ((hkI.2 kf hnP).trans hgP),by simp⟩
    · rintro e2 h2 ⟨hlen2,hk2,kf,bv,hn1,hn2,hgf,hbv,hh2⟩
      obtain ⟨a0,a1,a2,a3,a4,a5,a6,a7,a8,a9,rS0,rfl,hS0⟩:=un10 hlen2
      obtain ⟨a10,a11,a12,a13,a14,a15,a16,a17,a18,a19,rS10,rfl,hS10⟩:=un10 hS0
      obtain ⟨a20,a21,a22,a23,a24,a25,a26,a27,a28,a29,rS20,rfl,hS20⟩:=un10 hS10
      obtain ⟨a30,a31,a32,a33,a34,a35,a36,a37,a38,a39,rS30,rfl,hS30⟩:=un10 hS20
      obtain ⟨a40,a41,a42,a43,a44,a45,a46,a47,a48,a49,rS40,rfl,hS40⟩:=un10 hS30
      obtain ⟨a50,a51,a52,a53,a54,a55,a56,a57,a58,a59,rS50,rfl,hS50⟩:=un10 hS40
      obtain ⟨a60,a61,a62,a63,a64,a65,a66,a67,a68,a69,rS60,rfl,hS60⟩:=un10 hS50
      obtain ⟨a70,a71,a72,a73,a74,a75,a76,a77,a78,a79,rS70,rfl,hS70⟩:=un10 hS60
      obtain ⟨a80,a81,a82,a83,a84,a85,a86,a87,a88,a89,rS80,rfl,hS80⟩:=un10 hS70
      obtain ⟨a90,rS90,rfl,hS90⟩:=un1 hS80
      obtain ⟨a91,rS91,rfl,hS91⟩:=un1 hS90
      obtain ⟨a92,rS92,rfl,hS92⟩:=un1 hS91
      obtain rfl:=un0 hS92
      clear hlen2 hS0 hS10 hS20 hS30 hS40 hS50 hS60 hS70 hS80 hS90 hS91 hS92
      simp at hh2
      obtain ⟨rfl,e2v,rfl,rfl⟩:=hh2
      obtain rfl:=e2v.symm
      have hrk:=hlow r.k (by simp [NR.ids])
      have hc2:=(hk2.2 r.k hrk).trans hc
      have hmp2:MapIs h2 mv r.m nd0.blocks:=hmp.same fun k hk=>hk2.2 k (hlow k (by simp [NR.ids,hk]))
      have hil:=indR_len hnod hshort
      simp [qa9,qb9,qc9,qd9,qe9,qf9,qg9,qh9,qi9,qk9,ql9,qm9,qn9,qo9,qp9,qq9,qr9,qs9,qt9,qu9,qv9,qw9,qx9,ev,qy9,qz9,za9,zb9,zc9,zd9,ze9,zf9,zg9,zh9,zi9,zj9,zk9,zl9,zm9,zn9,zo9,zp9,zq9,zr9,zs9,zt9,zu9,zv9,zw9,fa93_0,ld3,ji9 hc2,jd9]
      refine wc_cut (FileA h (.ptr (some (.new R.km 0))) nv (.ptr (some (.new r.k 0))) names i nd0 (if nd0.kind=1 then datR nd0.blocks (indR nd0) else [])) ?_ ?_
      · by_cases hkd:nd0.kind=1
        · have hln:=hbv.len (W:=W)
          have hgf':=hgf
          simp only [flC,flD] at hgf'
          simp [push_cast,hkd,fa55_5,ld53,ji9 hgf',hln]
          refine loopN (cc_ok W) (DatI h2 (.ptr (some (.new R.km 0))) nv (.ptr (some (.new r.k 0))) bv names i nd0 kf) (indR nd0).length ⟨by simp,0,by simp,rfl,fun _ _=>rfl,by simp [datR]; exact hgf,by simp⟩ ?_
          rintro m e3 h3 ⟨hlen3,j,hjm,hnx,hoff,hg3,hh3⟩
          obtain ⟨a0,a1,a2,a3,a4,a5,a6,a7,a8,a9,rS0,rfl,hS0⟩:=un10 hlen3
          obtain ⟨a10,a11,a12,a13,a14,a15,a16,a17,a18,a19,rS10,rfl,hS10⟩:=un10 hS0
          obtain ⟨a20,a21,a22,a23,a24,a25,a26,a27,a28,a29,rS20,rfl,hS20⟩:=un10 hS10
          obtain ⟨a30,a31,a32,a33,a34,a35,a36,a37,a38,a39,rS30,rfl,hS30⟩:=un10 hS20
          obtain ⟨a40,a41,a42,a43,a44,a45,a46,a47,a48,a49,rS40,rfl,hS40⟩:=un10 hS30
          obtain ⟨a50,a51,a52,a53,a54,a55,a56,a57,a58,a59,rS50,rfl,hS50⟩:=un10 hS40
          obtain ⟨a60,a61,a62,a63,a64,a65,a66,a67,a68,a69,rS60,rfl,hS60⟩:=un10 hS50
          obtain ⟨a70,a71,a72,a73,a74,a75,a76,a77,a78,a79,rS70,rfl,hS70⟩:=un10 hS60
          obtain ⟨a80,a81,a82,a83,a84,a85,a86,a87,a88,a89,rS80,rfl,hS80⟩:=un10 hS70
          obtain ⟨a90,rS90,rfl,hS90⟩:=un1 hS80
          obtain ⟨a91,rS91,rfl,hS91⟩:=un1 hS90
          obtain ⟨a92,rS92,rfl,hS92⟩:=un1 hS91
          obtain rfl:=un0 hS92
          clear hlen3 hS0 hS10 hS20 hS30 hS40 hS50 hS60 hS70 hS80 hS90 hS91 hS92
          simp at hh3
          obtain ⟨rfl,e2v,rfl,rfl,e46,rfl,rfl⟩:=hh3
          obtain rfl:=e2v.symm
          obtain rfl:=e46.symm
          by_cases hjl:j<(indR nd0).length
          · have hjl':(j:Int)<((indR nd0).length:Int):=by omega
            have hx:(indR nd0)[j]? =some (indR nd0)[j]:=by simp [hjl]
            have htk:(indR nd0).take (j + 1)=(indR nd0).take j ++ [(indR nd0)[j]]:=by rw [List.take_add_one,hx]; rfl
            generalize (indR nd0)[j]=x at hx htk
            have hb3:IntS h3 bv (indR nd0):=hbv.off hgf' hoff (by omega)
            obtain ⟨a',hix,hld⟩:=hb3.at (W:=W) hx
            have hld':=hld h3 (Keeps.refl _)
            have hc3:=(hoff r.k (by omega)).trans hc2
            have hmp3:MapIs h3 mv r.m nd0.blocks:=hmp2.same fun k hk=>hoff k (by have:=hlow k (by simp [NR.ids,hk]); omega)
            have hlk:=look_blkN (W:=W) hmp3 x
            have h128':=h128 nd0 (List.mem_of_getElem? hnd0)
            have d1:=datR_len h128' ((indR nd0).take j)
            have d2:=datR_len h128' ((indR nd0).take (j + 1))
            rw [htk,datR_snoc] at d2
            have hadd2:aStr .add (datR nd0.blocks ((indR nd0).take j)) ((blkAt nd0.blocks x).getD [])=some (.str (datR nd0.blocks ((indR nd0).take j) ++ (blkAt nd0.blocks x).getD [])):=text_add (by simp at d2; omega)
            have wj:IntKind.i64.wrap ((j:Int) + 1)=(j:Int) + 1:=wrap64 (by omega) (by omega)
            have hg3':=hg3
            simp only [flC,flD] at hg3'
            have hst:=st_f6 (W:=W) (y:=datR nd0.blocks ((indR nd0).take j) ++ (blkAt nd0.blocks x).getD []) hg3'
            obtain ⟨mq,hmq⟩:=hmp3.isMap
            simp [push_cast,hjl,hjl',hix,hld']
            refine drawS [0,1,2,3,4,5,6,7,8,9,10] (by kernel_rfl) (by kernel_rfl) ?_
            simp [push_cast,zx9,zy9,SgO,opA,isE,isRead,fa55_6,ld9,ji9 hg3',fa93_3,ld90,ji9 hc3,jd9,hlk,hadd2]
            refine jc9 (v:= .undef) (by rfl) (by simp [push_cast]; exact hst) ⟨?_,?_⟩
            · repeat refine zz9 ▸ ⟨fun hc=>absurd (hc.symm.trans (show _=true by kernel_rfl)) (by decide),?_⟩
              exact ja9 ▸ trivial
            · simp [push_cast,zy9,wj]
              exact ⟨m - 1,by omega,by simp,j + 1,by omega,by simp [hnx],fun k hk=>by simp [hk]; exact hoff k hk,by simp [htk,datR_snoc,flC,flD],by simp⟩
          · have hjl':¬(j:Int)<((indR nd0).length:Int):=by omega
            have htk:(indR nd0).take j=indR nd0:=List.take_of_length_le (by omega)
            rw [htk] at hg3
            simp [push_cast,hjl,hjl',thenQ]
            exact ⟨by simp,⟨by have:=hk2.1; omega,fun q hq=>(hoff q (by omega)).trans (hk2.2 q hq)⟩,kf,bv,hn1,by omega,hg3,hbv.off hgf' hoff (by omega),by simp⟩
        · simp [push_cast,hkd,thenQ]
          exact ⟨by simp,hk2,kf,bv,hn1,hn2,hgf,hbv,by simp⟩
      · rintro e3 h3 ⟨hlen3,hk3,kf3,bv3,hn3,hn4,hg3,hbv3,hh3⟩
        obtain ⟨a0,a1,a2,a3,a4,a5,a6,a7,a8,a9,rS0,rfl,hS0⟩:=un10 hlen3
        obtain ⟨a10,a11,a12,a13,a14,a15,a16,a17,a18,a19,rS10,rfl,hS10⟩:=un10 hS0
        obtain ⟨a20,a21,a22,a23,a24,a25,a26,a27,a28,a29,rS20,rfl,hS20⟩:=un10 hS10
        obtain ⟨a30,a31,a32,a33,a34,a35,a36,a37,a38,a39,rS30,rfl,hS30⟩:=un10 hS20
        obtain ⟨a40,a41,a42,a43,a44,a45,a46,a47,a48,a49,rS40,rfl,hS40⟩:=un10 hS30
        obtain ⟨a50,a51,a52,a53,a54,a55,a56,a57,a58,a59,rS50,rfl,hS50⟩:=un10 hS40
        obtain ⟨a60,a61,a62,a63,a64,a65,a66,a67,a68,a69,rS60,rfl,hS60⟩:=un10 hS50
        obtain ⟨a70,a71,a72,a73,a74,a75,a76,a77,a78,a79,rS70,rfl,hS70⟩:=un10 hS60
        obtain ⟨a80,a81,a82,a83,a84,a85,a86,a87,a88,a89,rS80,rfl,hS80⟩:=un10 hS70
        obtain ⟨a90,rS90,rfl,hS90⟩:=un1 hS80
        obtain ⟨a91,rS91,rfl,hS91⟩:=un1 hS90
        obtain ⟨a92,rS92,rfl,hS92⟩:=un1 hS91
        obtain rfl:=un0 hS92
        clear hlen3 hS0 hS10 hS20 hS30 hS40 hS50 hS60 hS70 hS80 hS90 hS91 hS92
        simp at hh3
        obtain ⟨rfl,e2v,rfl,rfl⟩:=hh3
        obtain rfl:=e2v.symm
        have hfl:flD names i nd0 (if nd0.kind=1 then datR nd0.blocks (indR nd0) else [])=flR names i nd0:=rfl
        rw [hfl] at hg3
        have hld3:=ld_file (W:=W) hg3
        have hbs:=build_fl (W:=W) (h:=h3) (f:=flR names i nd0) hbv3
        simp [push_cast,hld3,hbs]
        have hkP:=Keeps.push h3 (.cells (flC (flR names i nd0,bv3)) 55)
        have hgP:(h3.push (.cells (flC (flR names i nd0,bv3)) 55)).get h3.next=some (.cells (flC (flR names i nd0,bv3)) 55):=by simp
        have hnP:h3.next<(h3.push (.cells (flC (flR names i nd0,bv3)) 55)).next:=by simp
        generalize h3.push (.cells (flC (flR names i nd0,bv3)) 55)=h4 at hkP hgP hnP ⊢
        generalize h3.next=k4 at hgP hnP ⊢
        have hk4:=hk3.trans hkP
        refine jg9 (by simp [fn79]) (names_ret W h4 r nd0 (hnod.same fun k hk=>hk4.2 k (hlow k hk)) (fun k hk=>Nat.lt_of_lt_of_le (hlow k hk) hk4.1) hshort) fun sv5 h5 hk5 hos5=> ?_
        have hoF:OwnF h5 h5 (.sl (some (.new k4 0)) 1 1 none) [flR names i nd0]:=own_fl (Keeps.refl h5) ((hk5.2 k4 hnP).trans hgP) (Nat.lt_of_lt_of_le hnP hk5.1) ((hbv3.keeps hkP).keeps hk5)
        have hkh5:=hk4.trans hk5
        clear hgP hnP
        have hst5:=hos5.strS (W:=W)
        obtain ⟨na,nc,ng,hsv5⟩:=hos5.len
        have hmem:∀s∈sortT (nmsR nd0.slots),s∈nmsR nd0.slots:=fun s hs=>(List.mergeSort_perm _ _).mem_iff.1 hs
        have hS:(sortT (nmsR nd0.slots)).length<1099511627776:=by rw [show (sortT (nmsR nd0.slots)).length=(nmsR nd0.slots).length from (List.mergeSort_perm _ _).length_eq]; have:=nmsR_len nd0.slots; omega
        have htree:treeR M (n + 1) names i=flR names i nd0::(sortT (nmsR nd0.slots)).flatMap fun s=>treeR M n (names ++ [s]) (childR nd0 s):=by simp only [treeR,hnd0]
        rw [htree] at hlen ⊢
        generalize sortT (nmsR nd0.slots)=S at hos5 hst5 hsv5 hmem hS hlen ⊢
        subst hsv5
        simp [push_cast,aLen,kind37]
        refine loopN (cc_ok W) (TreeI M n h5 (.ptr (some (.new R.km 0))) nv (.ptr (some (.new r.k 0))) (.sl na S.length nc ng) names i nd0 S) S.length ⟨by simp,0,by simp,by simpa using hoF,by simp⟩ ?_
        rintro m e4 h6 ⟨hlen4,j,hjm,hoj,hh4⟩
        obtain ⟨a0,a1,a2,a3,a4,a5,a6,a7,a8,a9,rS0,rfl,hS0⟩:=un10 hlen4
        obtain ⟨a10,a11,a12,a13,a14,a15,a16,a17,a18,a19,rS10,rfl,hS10⟩:=un10 hS0
        obtain ⟨a20,a21,a22,a23,a24,a25,a26,a27,a28,a29,rS20,rfl,hS20⟩:=un10 hS10
        obtain ⟨a30,a31,a32,a33,a34,a35,a36,a37,a38,a39,rS30,rfl,hS30⟩:=un10 hS20
        obtain ⟨a40,a41,a42,a43,a44,a45,a46,a47,a48,a49,rS40,rfl,hS40⟩:=un10 hS30
        obtain ⟨a50,a51,a52,a53,a54,a55,a56,a57,a58,a59,rS50,rfl,hS50⟩:=un10 hS40
        obtain ⟨a60,a61,a62,a63,a64,a65,a66,a67,a68,a69,rS60,rfl,hS60⟩:=un10 hS50
        obtain ⟨a70,a71,a72,a73,a74,a75,a76,a77,a78,a79,rS70,rfl,hS70⟩:=un10 hS60
        obtain ⟨a80,a81,a82,a83,a84,a85,a86,a87,a88,a89,rS80,rfl,hS80⟩:=un10 hS70
        obtain ⟨a90,rS90,rfl,hS90⟩:=un1 hS80
        obtain ⟨a91,rS91,rfl,hS91⟩:=un1 hS90
        obtain ⟨a92,rS92,rfl,hS92⟩:=un1 hS91
        obtain rfl:=un0 hS92
        clear hlen4 hS0 hS10 hS20 hS30 hS40 hS50 hS60 hS70 hS80 hS90 hS91 hS92
        simp at hh4 hoj
        obtain ⟨rfl,e2v,rfl,rfl,rfl,rfl⟩:=hh4
        obtain rfl:=e2v.symm
        by_cases hjl:j<S.length
        · have hjl':(j:Int)<(S.length:Int):=by omega
          have wj:IntKind.i64.wrap ((j:Int) + 1)=(j:Int) + 1:=wrap64 (by omega) (by omega)
          have hx:S[j]? =some S[j]:=by simp [hjl]
          have htk:S.take (j + 1)=S.take j ++ [S[j]]:=by rw [List.take_add_one,hx]; rfl
          generalize S[j]=s at hx htk
          obtain ⟨a',hix,hld⟩:=(hst5.keeps hoj.1).at hx
          simp [push_cast,hjl,hjl',hix,hld]
          have hrk6:=hkh5.trans hoj.1
          have hkh6:Keeps h h6:=hrk6
          have hk6h6:Keeps h6 h6:=Keeps.refl h6
          have hc6:=(hkh6.2 r.k hrk).trans hc
          have hsS:=hmem s (List.mem_of_getElem? hx)
          obtain ⟨x0,hx0,hxs⟩:=List.mem_filterMap.1 hsS
          have hx0n:x0.nm=s∧s≠[]:=by
            by_cases e:x0.nm=[]
            · rw [if_pos e] at hxs; cases hxs
            · rw [if_neg e] at hxs; cases hxs; exact ⟨rfl,e⟩
          obtain ⟨hx0n,hsne⟩:=hx0n
          have hpl:¬placeR nd0.slots s<0:=fun hc=>placeR_neg.1 hc x0 hx0 hx0n
          obtain ⟨jj,x,hpe,hxj,hxn⟩:=placeR_lt hpl
          have hxm:=List.mem_of_getElem? hxj
          have hsl255:s.length≤255:=by rw [←hxn]; exact hnm nd0 (List.mem_of_getElem? hnd0) x hxm
          have hjj:jj<nd0.slots.length:=(List.getElem?_eq_some_iff.1 hxj).1
          obtain ⟨b0,b1⟩:=ok.inos nd0 (List.mem_of_getElem? hnd0) x hxm
          have hino:((x.ino.toNat:Nat):Int)=x.ino:=by omega
          have hchd:childR nd0 s=x.ino.toNat:=by simp only [childR,hpe,Int.toNat_natCast,hxj]
          obtain ⟨ks,hrs,cap,sp,hsv,hgs,hcap⟩:=SlotsIs.at hsl hxj
          rw [hsv] at hc hc6
          have hksl:ks<h.next:=hlow ks (by simp [NR.ids,hrs])
          have hg6:=(hkh6.2 ks hksl).trans hgs
          have hch:(S.take (j + 1)).flatMap (fun s=>treeR M n (names ++ [s]) (childR nd0 s))=(S.take j).flatMap (fun s=>treeR M n (names ++ [s]) (childR nd0 s)) ++ treeR M n (names ++ [s]) x.ino.toNat:=by
            rw [htk,List.flatMap_append]; simp [hchd]
          have hlen6:((S.take (j + 1)).flatMap fun s=>treeR M n (names ++ [s]) (childR nd0 s)).length<999999999999:=by
            have e:S=S.take (j + 1) ++ S.drop (j + 1):=(List.take_append_drop _ _).symm
            rw [e,List.flatMap_append] at hlen
            simp only [List.length_cons,List.length_append] at hlen
            omega
          refine wc_cut (TreeK M n h5 (.ptr (some (.new R.km 0))) nv (.ptr (some (.new r.k 0))) (.sl na S.length nc ng) names i nd0 S j) ?_ ?_
          · refine drawSn [[0,1,2,3,4,5,6,7,12,14,8,9,10,11,13,15,16,17,18,19],[0,1,2,3,4,5,6,7,12,14,8,9,10,11,15,13,16,17,18,19],[0,1,2,3,4,5,6,7,12,14,15,8,9,10,11,13,16,17,18,19]] (by kernel_rfl) (by kernel_rfl) ?_
            intro L hL
            simp only [List.mem_cons,List.not_mem_nil,or_false] at hL
            rcases hL with rfl | rfl | rfl
            · simp [push_cast,zx9,zy9,SgO,opA,isE,isRead,fa93_4,ld91,jd9,ji9 hc6,hpe,idx_slt hjj,fa159_1,ld3,ji9 hg6,sltCells_ino hxj]
              refine jb9 (f:=82) (args:=[.ptr (some (.new r.k 0)),.str s]) (by rfl) (by rfl) (by rfl) (by simp [fn82]) (place_ret W h6 r nd0 (hnod.same fun k hk=>hkh6.2 k (hlow k hk)) (fun k hk=>Nat.lt_of_lt_of_le (hlow k hk) hkh6.1) s hshort) ?_
              rintro w hP ⟨rfl,hkpP⟩
              have hkhP:=hkh6.trans hkpP
              have hk6hP:=hk6h6.trans hkpP
              have hchP:=(hkhP.2 r.k hrk).trans hc
              have hghP:=(hkhP.2 ks hksl).trans hgs
              refine ⟨?_,?_⟩
              · simp [zz9,ja9,push_cast,opA,fa93_4,ld91,jd9,fa159_1,ld3,ji9 hchP]
              simp [push_cast,zx9,zy9,SgO,opA,isE,isRead,hpe,idx_slt hjj,fa159_1,ld3,ji9 hghP,sltCells_ino hxj]
              replace hkhP:Keeps h hP:=hkhP
              have hkhPx:=hkhP
              refine jb9 (f:=98) (args:=[nv]) (by rfl) (by rfl) (by rfl) (by simp [fn98]) (cloneS_ret W h00 hP nv names (hos.keeps hkhP) hnil (by omega)) ?_
              rintro w hC ⟨hkpC,hoC⟩
              have hkhC:=hkhP.trans hkpC
              have hk6hC:=hk6hP.trans hkpC
              have hchC:=(hkhC.2 r.k hrk).trans hc
              have hghC:=(hkhC.2 ks hksl).trans hgs
              refine ⟨?_,?_⟩
              · simp [zz9,ja9,push_cast,opA,fa93_4,ld91,jd9,fa159_1,ld3,ji9 hchC,ji9 hghC,sltCells_ino hxj]
              simp [push_cast,zx9,zy9,SgO,opA,isE,isRead]
              obtain ⟨v8,hA,hap,hoA⟩:=append_str (W:=W) (x:=s) hoC (by omega)
              have hkpD:=Keeps.push hC (.cells [.str s] 9)
              refine jc9 (v:= .sl (some (.new hC.next 0)) 1 1 none) (h':=hC.push (.cells [.str s] 9)) (by rfl) (by simp [push_cast,build_str]) ?_
              generalize hC.push (.cells [.str s] 9)=hD at hkpD hap ⊢
              generalize hC.next=jb at hap ⊢
              have hkhD:=hkhC.trans hkpD
              have hchD:=(hkhD.2 r.k hrk).trans hc
              have hghD:=(hkhD.2 ks hksl).trans hgs
              refine ⟨?_,?_⟩
              · simp [zz9,ja9,push_cast,opA,fa93_4,ld91,jd9,fa159_1,ld3,ji9 hchD,ji9 hghD,sltCells_ino hxj]
              simp [push_cast,zx9,zy9,SgO,opA,isE,isRead]
              have hkhA:=hkhP.trans hoA.1
              have hk6hA:=hk6hP.trans hoA.1
              have hchA:=(hkhA.2 r.k hrk).trans hc
              have hghA:=(hkhA.2 ks hksl).trans hgs
              refine jc9 (v:=v8) (h':=hA) (by rfl) (by simp [push_cast,hap]) ⟨?_,?_⟩
              · simp [zz9,ja9,push_cast,opA,fa93_4,ld91,jd9,fa159_1,ld3,ji9 hchA,ji9 hghA,sltCells_ino hxj]
              simp [push_cast,zx9,zy9,SgO,opA,isE,isRead]
              have hdo:=ih hA x.ino.toNat (names ++ [s]) v8 (hm.keeps hkhA) ⟨⟨_,hoA⟩,by simp⟩ (hdeep x hxm (by rw [hxn]; exact hsne)) (by rw [hch,List.length_append] at hlen6; omega) (by intro y hy; rw [List.mem_append,List.mem_singleton] at hy; rcases hy with hy | rfl; exact hns y hy; exact hsl255) (by simp; omega)
              rw [hino] at hdo
              refine jb9 (f:=55) (args:=[.ptr (some (.new R.km 0)),.int .i64 x.ino,v8]) (by rfl) (by rfl) (by rfl) (by simp [fn55]) hdo ?_
              rintro w7 hF ⟨hkpF,hoR⟩
              refine ⟨?_,?_⟩
              · repeat refine zz9 ▸ ⟨fun hc=>absurd (hc.symm.trans (show _=true by kernel_rfl)) (by decide),?_⟩
                exact ja9 ▸ trivial
              simp [push_cast,zx9,zy9,SgO,opA,isE,isRead]
              obtain ⟨v9,hG,hap9,hoG⟩:=append_fls (W:=W) (hoj.keeps hk6hA) hoR (by rw [hch,List.length_append] at hlen6; simp only [List.length_cons]; omega)
              refine jc9 (v:=v9) (h':=hG) (by rfl) (by simp [push_cast,hap9]) ⟨?_,?_⟩
              · repeat refine zz9 ▸ ⟨fun hc=>absurd (hc.symm.trans (show _=true by kernel_rfl)) (by decide),?_⟩
                exact ja9 ▸ trivial
              simp [push_cast,zx9,zy9,SgO,opA,isE,isRead,thenQ]
              exact ⟨by simp,by rw [hch]; simpa using hoG,by simp⟩
            · simp [push_cast,zx9,zy9,SgO,opA,isE,isRead,fa93_4,ld91,jd9,ji9 hc6,hpe,idx_slt hjj,fa159_1,ld3,ji9 hg6,sltCells_ino hxj]
              refine jb9 (f:=82) (args:=[.ptr (some (.new r.k 0)),.str s]) (by rfl) (by rfl) (by rfl) (by simp [fn82]) (place_ret W h6 r nd0 (hnod.same fun k hk=>hkh6.2 k (hlow k hk)) (fun k hk=>Nat.lt_of_lt_of_le (hlow k hk) hkh6.1) s hshort) ?_
              rintro w hP ⟨rfl,hkpP⟩
              have hkhP:=hkh6.trans hkpP
              have hk6hP:=hk6h6.trans hkpP
              have hchP:=(hkhP.2 r.k hrk).trans hc
              have hghP:=(hkhP.2 ks hksl).trans hgs
              refine ⟨?_,?_⟩
              · simp [zz9,ja9,push_cast,opA,fa93_4,ld91,jd9,fa159_1,ld3,ji9 hchP]
              simp [push_cast,zx9,zy9,SgO,opA,isE,isRead,hpe,idx_slt hjj,fa159_1,ld3,ji9 hghP,sltCells_ino hxj]
              replace hkhP:Keeps h hP:=hkhP
              have hkhPx:=hkhP
              have hkpB:=Keeps.push hP (.cells [.str s] 9)
              have hgjB:(hP.push (.cells [.str s] 9)).get hP.next=some (.cells [.str s] 9):=by simp
              have hnjB:hP.next<(hP.push (.cells [.str s] 9)).next:=by simp
              refine jc9 (v:= .sl (some (.new hP.next 0)) 1 1 none) (h':=hP.push (.cells [.str s] 9)) (by rfl) (by simp [push_cast,build_str]) ?_
              generalize hP.push (.cells [.str s] 9)=hB at hkpB hgjB hnjB ⊢
              generalize hP.next=jb at hgjB hnjB ⊢
              have hkhB:=hkhP.trans hkpB
              have hk6hB:=hk6hP.trans hkpB
              have hchB:=(hkhB.2 r.k hrk).trans hc
              have hghB:=(hkhB.2 ks hksl).trans hgs
              refine ⟨?_,?_⟩
              · simp [zz9,ja9,push_cast,opA,fa93_4,ld91,jd9,fa159_1,ld3,ji9 hchB,ji9 hghB,sltCells_ino hxj]
              simp [push_cast,zx9,zy9,SgO,opA,isE,isRead]
              refine jb9 (f:=98) (args:=[nv]) (by rfl) (by rfl) (by rfl) (by simp [fn98]) (cloneS_ret W h00 hB nv names (hos.keeps hkhB) hnil (by omega)) ?_
              rintro w hC ⟨hkpC,hoC⟩
              have hkhC:=hkhB.trans hkpC
              have hk6hC:=hk6hB.trans hkpC
              have hchC:=(hkhC.2 r.k hrk).trans hc
              have hghC:=(hkhC.2 ks hksl).trans hgs
              refine ⟨?_,?_⟩
              · simp [zz9,ja9,push_cast,opA,fa93_4,ld91,jd9,fa159_1,ld3,ji9 hchC,ji9 hghC,sltCells_ino hxj]
              simp [push_cast,zx9,zy9,SgO,opA,isE,isRead]
              obtain ⟨v8,hA,hap,hoA⟩:=append_str1 (W:=W) hoC hnjB ((hkpC.2 jb hnjB).trans hgjB) (by omega)
              have hkhA:=hkhB.trans hoA.1
              have hk6hA:=hk6hB.trans hoA.1
              have hchA:=(hkhA.2 r.k hrk).trans hc
              have hghA:=(hkhA.2 ks hksl).trans hgs
              refine jc9 (v:=v8) (h':=hA) (by rfl) (by simp [push_cast,hap]) ⟨?_,?_⟩
              · simp [zz9,ja9,push_cast,opA,fa93_4,ld91,jd9,fa159_1,ld3,ji9 hchA,ji9 hghA,sltCells_ino hxj]
              simp [push_cast,zx9,zy9,SgO,opA,isE,isRead]
              have hdo:=ih hA x.ino.toNat (names ++ [s]) v8 (hm.keeps hkhA) ⟨⟨_,hoA⟩,by simp⟩ (hdeep x hxm (by rw [hxn]; exact hsne)) (by rw [hch,List.length_append] at hlen6; omega) (by intro y hy; rw [List.mem_append,List.mem_singleton] at hy; rcases hy with hy | rfl; exact hns y hy; exact hsl255) (by simp; omega)
              rw [hino] at hdo
              refine jb9 (f:=55) (args:=[.ptr (some (.new R.km 0)),.int .i64 x.ino,v8]) (by rfl) (by rfl) (by rfl) (by simp [fn55]) hdo ?_
              rintro w7 hF ⟨hkpF,hoR⟩
              refine ⟨?_,?_⟩
              · repeat refine zz9 ▸ ⟨fun hc=>absurd (hc.symm.trans (show _=true by kernel_rfl)) (by decide),?_⟩
                exact ja9 ▸ trivial
              simp [push_cast,zx9,zy9,SgO,opA,isE,isRead]
              obtain ⟨v9,hG,hap9,hoG⟩:=append_fls (W:=W) (hoj.keeps hk6hA) hoR (by rw [hch,List.length_append] at hlen6; simp only [List.length_cons]; omega)
              refine jc9 (v:=v9) (h':=hG) (by rfl) (by simp [push_cast,hap9]) ⟨?_,?_⟩
              · repeat refine zz9 ▸ ⟨fun hc=>absurd (hc.symm.trans (show _=true by kernel_rfl)) (by decide),?_⟩
                exact ja9 ▸ trivial
              simp [push_cast,zx9,zy9,SgO,opA,isE,isRead,thenQ]
              exact ⟨by simp,by rw [hch]; simpa using hoG,by simp⟩
            · simp [push_cast,zx9,zy9,SgO,opA,isE,isRead,fa93_4,ld91,jd9,ji9 hc6,hpe,idx_slt hjj,fa159_1,ld3,ji9 hg6,sltCells_ino hxj]
              have hkpB:=Keeps.push h6 (.cells [.str s] 9)
              have hgjB:(h6.push (.cells [.str s] 9)).get h6.next=some (.cells [.str s] 9):=by simp
              have hnjB:h6.next<(h6.push (.cells [.str s] 9)).next:=by simp
              refine jc9 (v:= .sl (some (.new h6.next 0)) 1 1 none) (h':=h6.push (.cells [.str s] 9)) (by rfl) (by simp [push_cast,build_str]) ?_
              generalize h6.push (.cells [.str s] 9)=hB at hkpB hgjB hnjB ⊢
              generalize h6.next=jb at hgjB hnjB ⊢
              have hkhB:=hkh6.trans hkpB
              have hk6hB:=hk6h6.trans hkpB
              have hchB:=(hkhB.2 r.k hrk).trans hc
              have hghB:=(hkhB.2 ks hksl).trans hgs
              refine ⟨?_,?_⟩
              · simp [zz9,ja9,push_cast,opA,fa93_4,ld91,jd9,fa159_1,ld3,ji9 hchB]
              simp [push_cast,zx9,zy9,SgO,opA,isE,isRead]
              refine jb9 (f:=82) (args:=[.ptr (some (.new r.k 0)),.str s]) (by rfl) (by rfl) (by rfl) (by simp [fn82]) (place_ret W hB r nd0 (hnod.same fun k hk=>hkhB.2 k (hlow k hk)) (fun k hk=>Nat.lt_of_lt_of_le (hlow k hk) hkhB.1) s hshort) ?_
              rintro w hP ⟨rfl,hkpP⟩
              have hkhP:=hkhB.trans hkpP
              have hk6hP:=hk6hB.trans hkpP
              have hchP:=(hkhP.2 r.k hrk).trans hc
              have hghP:=(hkhP.2 ks hksl).trans hgs
              refine ⟨?_,?_⟩
              · simp [zz9,ja9,push_cast,opA,fa93_4,ld91,jd9,fa159_1,ld3,ji9 hchP]
              simp [push_cast,zx9,zy9,SgO,opA,isE,isRead,hpe,idx_slt hjj,fa159_1,ld3,ji9 hghP,sltCells_ino hxj]
              have hgjP:=(hkpP.2 jb hnjB).trans hgjB
              have hnjP:=Nat.lt_of_lt_of_le hnjB hkpP.1
              replace hkhP:Keeps h hP:=hkhP
              have hkhPx:=hkhP
              refine jb9 (f:=98) (args:=[nv]) (by rfl) (by rfl) (by rfl) (by simp [fn98]) (cloneS_ret W h00 hP nv names (hos.keeps hkhP) hnil (by omega)) ?_
              rintro w hC ⟨hkpC,hoC⟩
              have hkhC:=hkhP.trans hkpC
              have hk6hC:=hk6hP.trans hkpC
              have hchC:=(hkhC.2 r.k hrk).trans hc
              have hghC:=(hkhC.2 ks hksl).trans hgs
              refine ⟨?_,?_⟩
              · simp [zz9,ja9,push_cast,opA,fa93_4,ld91,jd9,fa159_1,ld3,ji9 hchC,ji9 hghC,sltCells_ino hxj]
              simp [push_cast,zx9,zy9,SgO,opA,isE,isRead]
              obtain ⟨v8,hA,hap,hoA⟩:=append_str1 (W:=W) hoC hnjP ((hkpC.2 jb hnjP).trans hgjP) (by omega)
              have hkhA:=hkhP.trans hoA.1
              have hk6hA:=hk6hP.trans hoA.1
              have hchA:=(hkhA.2 r.k hrk).trans hc
              have hghA:=(hkhA.2 ks hksl).trans hgs
              refine jc9 (v:=v8) (h':=hA) (by rfl) (by simp [push_cast,hap]) ⟨?_,?_⟩
              · simp [zz9,ja9,push_cast,opA,fa93_4,ld91,jd9,fa159_1,ld3,ji9 hchA,ji9 hghA,sltCells_ino hxj]
              simp [push_cast,zx9,zy9,SgO,opA,isE,isRead]
              have hdo:=ih hA x.ino.toNat (names ++ [s]) v8 (hm.keeps hkhA) ⟨⟨_,hoA⟩,by simp⟩ (hdeep x hxm (by rw [hxn]; exact hsne)) (by rw [hch,List.length_append] at hlen6; omega) (by intro y hy; rw [List.mem_append,List.mem_singleton] at hy; rcases hy with hy | rfl; exact hns y hy; exact hsl255) (by simp; omega)
              rw [hino] at hdo
              refine jb9 (f:=55) (args:=[.ptr (some (.new R.km 0)),.int .i64 x.ino,v8]) (by rfl) (by rfl) (by rfl) (by simp [fn55]) hdo ?_
              rintro w7 hF ⟨hkpF,hoR⟩
              refine ⟨?_,?_⟩
              · repeat refine zz9 ▸ ⟨fun hc=>absurd (hc.symm.trans (show _=true by kernel_rfl)) (by decide),?_⟩
                exact ja9 ▸ trivial
              simp [push_cast,zx9,zy9,SgO,opA,isE,isRead]
              obtain ⟨v9,hG,hap9,hoG⟩:=append_fls (W:=W) (hoj.keeps hk6hA) hoR (by rw [hch,List.length_append] at hlen6; simp only [List.length_cons]; omega)
              refine jc9 (v:=v9) (h':=hG) (by rfl) (by simp [push_cast,hap9]) ⟨?_,?_⟩
              · repeat refine zz9 ▸ ⟨fun hc=>absurd (hc.symm.trans (show _=true by kernel_rfl)) (by decide),?_⟩
                exact ja9 ▸ trivial
              simp [push_cast,zx9,zy9,SgO,opA,isE,isRead,thenQ]
              exact ⟨by simp,by rw [hch]; simpa using hoG,by simp⟩
          · rintro e5 h7 ⟨hlen5,ho7,hh5⟩
            obtain ⟨a0,a1,a2,a3,a4,a5,a6,a7,a8,a9,rS0,rfl,hS0⟩:=un10 hlen5
            obtain ⟨a10,a11,a12,a13,a14,a15,a16,a17,a18,a19,rS10,rfl,hS10⟩:=un10 hS0
            obtain ⟨a20,a21,a22,a23,a24,a25,a26,a27,a28,a29,rS20,rfl,hS20⟩:=un10 hS10
            obtain ⟨a30,a31,a32,a33,a34,a35,a36,a37,a38,a39,rS30,rfl,hS30⟩:=un10 hS20
            obtain ⟨a40,a41,a42,a43,a44,a45,a46,a47,a48,a49,rS40,rfl,hS40⟩:=un10 hS30
            obtain ⟨a50,a51,a52,a53,a54,a55,a56,a57,a58,a59,rS50,rfl,hS50⟩:=un10 hS40
            obtain ⟨a60,a61,a62,a63,a64,a65,a66,a67,a68,a69,rS60,rfl,hS60⟩:=un10 hS50
            obtain ⟨a70,a71,a72,a73,a74,a75,a76,a77,a78,a79,rS70,rfl,hS70⟩:=un10 hS60
            obtain ⟨a80,a81,a82,a83,a84,a85,a86,a87,a88,a89,rS80,rfl,hS80⟩:=un10 hS70
            obtain ⟨a90,rS90,rfl,hS90⟩:=un1 hS80
            obtain ⟨a91,rS91,rfl,hS91⟩:=un1 hS90
            obtain ⟨a92,rS92,rfl,hS92⟩:=un1 hS91
            obtain rfl:=un0 hS92
            clear hlen5 hS0 hS10 hS20 hS30 hS40 hS50 hS60 hS70 hS80 hS90 hS91 hS92
            simp at hh5 ho7
            obtain ⟨rfl,e2w,rfl,rfl,rfl,rfl⟩:=hh5
            obtain rfl:=e2w.symm
            simp [push_cast,wj]
            exact ⟨m - 1,by omega,by simp,j + 1,by omega,by simpa using ho7,by simp⟩
        · have hjl':¬(j:Int)<(S.length:Int):=by omega
          have htk:S.take j=S:=List.take_of_length_le (by omega)
          rw [htk] at hoj
          simp [push_cast,hjl,hjl']
          exact ⟨hkh5.trans hoj.1,hoj.le hkh5⟩
set_option maxHeartbeats 4000000 in
theorem tree_ret (W:World) (R:MR) (M:MS) (ok:MOk M) (h128:∀nd∈M.nodes,∀x∈nd.blocks.getD [],x.2.length=128) (hnm:∀nd∈M.nodes,∀x∈nd.slots,x.nm.length≤255)
    (n:Nat) (h:AH) (hm:MIs h R M) (hd:Deep M n 0) (hlen:(treeR M n [] 0).length<1000000000000) (hn:n≤1000):
    RetQ (CC W) 21 [.ptr (some (.new R.km 0))] h (fun w h'=>OwnF h h' w (treeR M n [] 0)):=by
  refine jj9 (cc_ok W) (fn21 W) (by simp only [Tryz.f21]; rfl) rfl rfl ?_
  have hb:=below_tree W R M ok h128 hnm n h 0 [] (.sl none 0 0 none) hm ⟨⟨h,OwnS.start h⟩,fun _=>rfl⟩ hd hlen (by simp) (by simpa using hn)
  simp [push_cast,aEq,kind25,kindEq1,aEq1]
  refine jg9 (by simp [fn55]) hb fun w h1 hk1 ho=> ?_
  simp [push_cast]
  exact ⟨hk1,ho⟩
def liveR (l:List Nd):Nat:=l.countP fun nd=>nd.kind !=0
def LiveI (h:AH) (mv sv:AV) (M:MS) (m:Nat) (e':Env) (h':AH):Prop:=
  e'.length=29∧∃i:Nat,i + m=M.nodes.length∧h'=h∧
    (e'.getD 0 .undef=mv∧e'.getD 4 .undef= .int .i64 (liveR (M.nodes.take i):Nat)∧e'.getD 12 .undef=sv∧e'.getD 13 .undef= .int .i64 M.nodes.length∧e'.getD 14 .undef= .int .i64 i)
set_option maxRecDepth 100000 in
set_option maxHeartbeats 8000000 in
theorem usedB_ret (W:World) (h:AH) (R:MR) (M:MS) (hm:MIs h R M) (ok:MOk M):
    RetQ (CC W) 19 [.ptr (some (.new R.km 0))] h (fun w _=>w= .tup [.int .i64 (usedR M),.int .i64 (liveR M.nodes:Nat)]):=by
  refine jj9 (cc_ok W) (fn19 W) (by simp only [Tryz.f19]; rfl) rfl rfl ?_
  have hlen:aLen (CC W) h 85 (.sl (some (.new R.kn 0)) M.nodes.length M.nodes.length none)=some (.int .i64 M.nodes.length):=by simp [aLen,kind85]
  have hfew:=ok.few
  simp [push_cast,aEq,kind25,kindEq1,aEq1,fa88_0,ld85,ji9 hm.mod,jd9,hlen]
  refine loopN (cc_ok W) (LiveI h (.ptr (some (.new R.km 0))) (.sl (some (.new R.kn 0)) M.nodes.length M.nodes.length none) M) M.nodes.length ⟨by simp,0,by simp,rfl,by simp [liveR]⟩ ?_
  rintro m e' h' ⟨hlen',i,him,rfl,hh⟩
  match e',hlen' with
  | a0::a1::a2::a3::a4::a5::a6::a7::a8::a9::a10::a11::a12::a13::a14::a15::a16::a17::a18::a19::a20::a21::a22::a23::a24::a25::a26::a27::a28::[],_=>
    simp at hh
    obtain ⟨rfl,rfl,rfl,rfl,rfl⟩:=hh
    by_cases hlt:i<M.nodes.length
    · have hlt':(i:Int)<(M.nodes.length:Int):=by omega
      obtain ⟨r,nd,hr,hnd,hn⟩:=hm.node hlt
      have hcn:=cell_nd (W:=W) hm hr
      obtain ⟨mv,sv,hc,hmp,hsl⟩:=_root_.id hn
      have wi:IntKind.i64.wrap ((i:Int) + 1)=(i:Int) + 1:=wrap64 (by omega) (by omega)
      have htk:M.nodes.take (i + 1)=M.nodes.take i ++ [nd]:=by
        rw [List.take_add_one,hnd]; rfl
      have hle:liveR (M.nodes.take i)≤64:=Nat.le_trans (List.countP_le_length) (by simp; omega)
      have hstep:liveR (M.nodes.take (i + 1))=liveR (M.nodes.take i) + if nd.kind=0 then 0 else 1:=by
        rw [htk]; simp [liveR]
      obtain ⟨c,hcc⟩:∃c,c=liveR (M.nodes.take i):=⟨_,rfl⟩
      rw [←hcc] at hle hstep ⊢
      have wc:IntKind.i64.wrap ((c:Int) + 1)=(c:Int) + 1:=wrap64 (by omega) (by omega)
      by_cases hkd:nd.kind=0
      · rw [if_pos hkd] at hstep
        simp [push_cast,hlt,hlt',idx_nd hlt,ld89,hcn,jd9,fa93_0,ld3,ji9 hc,hkd,wi]
        exact ⟨m - 1,by omega,by simp,i + 1,by omega,rfl,by simp [hstep]⟩
      · rw [if_neg hkd] at hstep
        simp [push_cast,hlt,hlt',idx_nd hlt,ld89,hcn,jd9,fa93_0,ld3,ji9 hc,hkd,wi,wc]
        exact ⟨m - 1,by omega,by simp,i + 1,by omega,rfl,by simp [hstep]⟩
    · have hlt':¬(i:Int)<(M.nodes.length:Int):=by omega
      have hi:M.nodes.take i=M.nodes:=List.take_of_length_le (by omega)
      rw [hi]
      simp [push_cast,hlt,hlt']
      refine jf9 (by simp [fn54]) (used_ret W h' R M hm ok) fun h2 hk2=> ?_
      simp [push_cast]
      exact hk2
def pathsR (M:MS):Nat→Names→Nat→List Names
  | 0,_,_=>[]
  | n + 1,names,i=>match M.nodes[i]? with
    | none=>[]
    | some nd=>names::(sortT (nmsR nd.slots)).flatMap fun s=>pathsR M n (names ++ [s]) (childR nd s)
theorem flatMap_len {α β γ:Type} {f:α→List β} {g:α→List γ}:∀(l:List α),(∀x∈l,(f x).length=(g x).length)→(l.flatMap f).length=(l.flatMap g).length
  | [],_=>rfl
  | x::l,h=>by
    simp only [List.flatMap_cons,List.length_append]
    rw [h x (by simp),flatMap_len l fun y hy=>h y (by simp [hy])]
theorem pathsR_len (M:MS):∀(n:Nat) (names:Names) (i:Nat),(treeR M n names i).length=(pathsR M n names i).length:=by
  intro n
  induction n with
  | zero=>intro names i; rfl
  | succ n ih=>
    intro names i
    cases hnd:M.nodes[i]? with
    | none=>simp only [treeR,pathsR,hnd]; rfl
    | some nd=>
      simp only [treeR,pathsR,hnd,List.length_cons]
      rw [flatMap_len _ fun s _=>ih (names ++ [s]) _]
theorem sort_mem {l:List Slt} {s:List UInt8} (h:s∈sortT (nmsR l)):s≠[]∧∃x∈l,x.nm=s:=by
  have h1:s∈nmsR l:=(List.mergeSort_perm _ _).mem_iff.1 h
  obtain ⟨x,hx,he⟩:=List.mem_filterMap.1 h1
  by_cases e:x.nm=[]
  · rw [if_pos e] at he; cases he
  · rw [if_neg e] at he; cases he; exact ⟨e,x,hx,rfl⟩
theorem slots_dir {M:MS} {t:Nat} (h:Fine M t) {i:Nat} {nd:Nd} {x:Slt} (hnd:M.nodes[i]? =some nd) (hx:x∈nd.slots):nd.kind=2:=by
  have hok:=h.at hnd
  rcases hok.kind with k | k | k
  · rw [hok.free k] at hx; simp [noNode] at hx
  · obtain ⟨b,_,_,e,_⟩:=hok.file k; rw [e] at hx; cases hx
  · exact k
theorem child_path {M:MS} {t:Nat} (h:Fine M t) {names:Names} {i:Nat} {nd:Nd} {s:List UInt8} (hp:Path M names 0 i) (hnd:M.nodes[i]? =some nd) (hs:s∈sortT (nmsR nd.slots)):Path M (names ++ [s]) 0 (childR nd s):=by
  obtain ⟨hne,x0,hx0,hx0n⟩:=sort_mem hs
  have hpl:¬placeR nd.slots s<0:=fun hc=>placeR_neg.1 hc x0 hx0 hx0n
  obtain ⟨j,x,e,hx,hxn⟩:=placeR_lt hpl
  have hm:=List.mem_of_getElem? hx
  refine path_append.2 ⟨i,hp,nd,x,hnd,slots_dir h hnd hm,hm,hxn,?_⟩
  simp only [childR,e,Int.toNat_natCast,hx]
  rfl
theorem paths_mem {M:MS} {t:Nat} (h:Fine M t):∀(n:Nat) (names:Names) (i:Nat),Good names→Path M names 0 i→∀p∈pathsR M n names i,Good p∧(∃q,Path M p 0 q)∧names<+:p:=by
  intro n
  induction n with
  | zero=>intro names i _ _ p hp; cases hp
  | succ n ih=>
    intro names i hg hp p hpm
    simp only [pathsR] at hpm
    split at hpm
    · cases hpm
    · rename_i nd hnd
      rw [List.mem_cons] at hpm
      rcases hpm with rfl | hpm
      · exact ⟨hg,⟨i,hp⟩,List.prefix_refl _⟩
      · obtain ⟨s,hs,hpm⟩:=List.mem_flatMap.1 hpm
        obtain ⟨a,b,c⟩:=ih (names ++ [s]) _ (fun y hy=>by
          rw [List.mem_append,List.mem_singleton] at hy
          rcases hy with hy | rfl
          · exact hg y hy
          · exact (sort_mem hs).1) (child_path h hp hnd hs) p hpm
        exact ⟨a,b,(List.prefix_append _ _).trans c⟩
theorem nms_nodup {l:List Slt} (hu:Uniq l):(sortT (nmsR l)).Nodup:=by
  refine (List.mergeSort_perm _ _).nodup_iff.2 ?_
  rw [nmsR,List.nodup_iff_pairwise_ne,List.pairwise_filterMap]
  rw [List.pairwise_iff_getElem]
  intro i j hi hj hij a ha b hb he
  subst he
  by_cases e1:l[i].nm=[]
  · rw [if_pos e1] at ha; cases ha
  · by_cases e2:l[j].nm=[]
    · rw [if_pos e2] at hb; cases hb
    · rw [if_neg e1] at ha; rw [if_neg e2] at hb
      cases ha
      have:=hu i j l[i] l[j] (by simp) (by simp) (by injection hb with hb; exact hb.symm) e1
      omega
theorem paths_nodup {M:MS} {t:Nat} (h:Fine M t):∀(n:Nat) (names:Names) (i:Nat),Good names→Path M names 0 i→(pathsR M n names i).Nodup:=by
  intro n
  induction n with
  | zero=>intro names i _ _; exact List.nodup_nil
  | succ n ih=>
    intro names i hg hp
    simp only [pathsR]
    split
    · exact List.nodup_nil
    · rename_i nd hnd
      have hgood:∀s∈sortT (nmsR nd.slots),Good (names ++ [s]):=fun s hs y hy=>by
        rw [List.mem_append,List.mem_singleton] at hy
        rcases hy with hy | rfl
        · exact hg y hy
        · exact (sort_mem hs).1
      have hpre:∀s∈sortT (nmsR nd.slots),∀p∈pathsR M n (names ++ [s]) (childR nd s),(names ++ [s])<+:p:=fun s hs p hpm=>(paths_mem h n _ _ (hgood s hs) (child_path h hp hnd hs) p hpm).2.2
      rw [List.nodup_cons]
      refine ⟨fun hm=> ?_,?_⟩
      · obtain ⟨s,hs,hpm⟩:=List.mem_flatMap.1 hm
        have:=(hpre s hs _ hpm).length_le
        simp at this
        omega
      · rw [List.nodup_iff_pairwise_ne,List.pairwise_flatMap]
        refine ⟨fun s hs=>List.nodup_iff_pairwise_ne.1 (ih _ _ (hgood s hs) (child_path h hp hnd hs)),?_⟩
        have hnd2:(sortT (nmsR nd.slots)).Nodup:=by
          by_cases hk:nd.kind=2
          · exact nms_nodup ((h.at hnd).dir hk).2.2.2.2.2
          · have:nd.slots=[]:=by
              cases hsl:nd.slots with
              | nil=>rfl
              | cons x r=>exact absurd (slots_dir h hnd (x:=x) (by rw [hsl]; simp)) hk
            rw [this]; exact (List.mergeSort_perm _ _).nodup_iff.2 (by simp [nmsR])
        refine List.Pairwise.imp_of_mem ?_ (List.nodup_iff_pairwise_ne.1 hnd2)
        intro s s' hs hs' hne x hx y hy he
        subst he
        have h1:=hpre s hs x hx
        have h2:=hpre s' hs' x hy
        have:=List.prefix_of_prefix_length_le h1 h2 (by simp)
        have:=this.eq_of_length (by simp)
        simp at this
        exact hne this
noncomputable def codeR (M:MS) (T:Nat) (p:Names):Nat:=
  if p=[] then 64 * T else match M.nodes[(findR M p.dropLast 0).1.toNat]? with
    | some nd=>(findR M p.dropLast 0).1.toNat * T + (placeR nd.slots (p.getLast?.getD [])).toNat
    | none=>0
theorem code_at {M:MS} {t:Nat} (h:Fine M t) (ht:t<1000000) {p:Names} {q:Nat} (hg:Good p) (hp:Path M p 0 q) (hne:p≠[]):
    ∃d nd j x,Path M p.dropLast 0 d∧M.nodes[d]? =some nd∧nd.kind=2∧nd.slots[j]? =some x∧x.nm=p.getLast?.getD []∧d<64∧j<t∧∀T,codeR M T p=d * T + j:=by
  obtain ⟨d,nd,x,h1,h2,h3,h4,h5,h6⟩:=path_last hne hp
  have hf:findR M p.dropLast 0=((d:Int),0):=find_of_path h ht hg.drop h1
  have hpl:¬placeR nd.slots (p.getLast?.getD [])<0:=fun hc=>placeR_neg.1 hc x h4 h5
  obtain ⟨j,y,e,hy,hyn⟩:=placeR_lt hpl
  have hd:=(List.getElem?_eq_some_iff.1 h2).1
  have hj:=(List.getElem?_eq_some_iff.1 hy).1
  have hfew:=h.few
  have hsl:=((h.at h2).dir h3).2.2.1
  refine ⟨d,nd,j,y,h1,h2,h3,hy,hyn,by omega,by omega,fun T=> ?_⟩
  simp only [codeR,if_neg hne,hf,Int.toNat_natCast,h2,e]
theorem tree_len {M:MS} {t:Nat} (h:Fine M t) (ht:t<1000000) (n:Nat):(treeR M n [] 0).length≤64 * (t + 1) + 1:=by
  rw [pathsR_len]
  have hg0:Good ([]:Names):=fun x hx=>by cases hx
  have hp0:Path M [] 0 0:=rfl
  have hmem:=paths_mem h n [] 0 hg0 hp0
  have hnd:=paths_nodup h n [] 0 hg0 hp0
  generalize pathsR M n [] 0=L at hmem hnd
  have hlt:∀p∈L,p≠[]→∃d nd j x,Path M p.dropLast 0 d∧M.nodes[d]? =some nd∧nd.kind=2∧nd.slots[j]? =some x∧x.nm=p.getLast?.getD []∧d<64∧j<t∧∀T,codeR M T p=d * T + j:=fun p hp hne=>by
    obtain ⟨a,⟨q,b⟩,_⟩:=hmem p hp
    exact code_at h ht a b hne
  have hn:(L.map (codeR M (t + 1))).Nodup:=by
    rw [List.nodup_iff_pairwise_ne,List.pairwise_map]
    refine List.Pairwise.imp_of_mem ?_ (List.nodup_iff_pairwise_ne.1 hnd)
    intro p p' hp hp' hne he
    apply hne
    by_cases e1:p=[]
    · by_cases e2:p'=[]
      · rw [e1,e2]
      · exfalso
        obtain ⟨d,nd,j,x,_,_,_,_,_,hd,hj,hc⟩:=hlt p' hp' e2
        rw [hc] at he
        simp only [codeR,if_pos e1] at he
        have:d * (t + 1)≤63 * (t + 1):=Nat.mul_le_mul_right _ (by omega)
        omega
    · obtain ⟨d,nd,j,x,h1,h2,h3,h4,h5,hd,hj,hc⟩:=hlt p hp e1
      by_cases e2:p'=[]
      · exfalso
        rw [hc] at he
        simp only [codeR,if_pos e2] at he
        have:d * (t + 1)≤63 * (t + 1):=Nat.mul_le_mul_right _ (by omega)
        omega
      · obtain ⟨d',nd',j',x',h1',h2',h3',h4',h5',hd',hj',hc'⟩:=hlt p' hp' e2
        rw [hc,hc'] at he
        have hdd:d=d':=by
          have a:(d * (t + 1) + j) / (t + 1)=(d' * (t + 1) + j') / (t + 1):=by rw [he]
          rw [Nat.mul_comm d,Nat.mul_comm d',Nat.mul_add_div (by omega),Nat.mul_add_div (by omega),Nat.div_eq_of_lt (by omega),Nat.div_eq_of_lt (by omega)] at a
          omega
        subst hdd
        have hjj:j=j':=by omega
        subst hjj
        rw [h2] at h2'; cases h2'
        rw [h4] at h4'; cases h4'
        have ga:=(hmem p hp).1
        have gb:=(hmem p' hp').1
        have e:=path_dir h ht p.dropLast.length (Nat.le_refl _) ga.drop gb.drop h1 h1' h2 h3
        have l1:p=p.dropLast ++ [p.getLast?.getD []]:=by
          rw [List.getLast?_eq_some_getLast e1]; exact (List.dropLast_concat_getLast e1).symm
        have l2:p'=p'.dropLast ++ [p'.getLast?.getD []]:=by
          rw [List.getLast?_eq_some_getLast e2]; exact (List.dropLast_concat_getLast e2).symm
        rw [l1,l2,e, ←h5, ←h5']
  have:=nodup_le (64 * (t + 1) + 1) _ hn fun c hc=>by
    obtain ⟨p,hp,rfl⟩:=List.mem_map.1 hc
    by_cases e:p=[]
    · simp only [codeR,if_pos e]; omega
    · obtain ⟨d,nd,j,x,_,_,_,_,_,hd,hj,hcc⟩:=hlt p hp e
      rw [hcc]
      have:d * (t + 1)≤63 * (t + 1):=Nat.mul_le_mul_right _ (by omega)
      omega
  simpa using this
def treeM (M:MS):List Fl:=treeR M (M.nodes.length + 1) [] 0
theorem fine128 {M:MS} {t:Nat} (h:Fine M t):∀nd∈M.nodes,∀x∈nd.blocks.getD [],x.2.length=128:=by
  intro nd hn x hx
  have hok:=h.each nd hn
  rcases hok.kind with k | k | k
  · rw [hok.free k] at hx; simp [noNode] at hx
  · obtain ⟨b,e,hb,_⟩:=hok.file k
    rw [e] at hx
    exact (hb x hx).1
  · rw [(hok.dir k).1] at hx; simp at hx
theorem tree_fine (W:World) (R:MR) (M:MS) (t:Nat) (hf:Fine M t) (ht:t<1000000) (hs:ShortM M) (h:AH) (hm:MIs h R M):
    RetQ (CC W) 21 [.ptr (some (.new R.km 0))] h (fun w h'=>OwnF h h' w (treeM M)):=by
  have hl:=tree_len hf ht (M.nodes.length + 1)
  have hfew:=hf.few
  exact tree_ret W R M (hf.ok ht) (fine128 hf) (fun nd hn x hx=>by have:=hs nd hn x hx; omega) _ h hm (deep_root hf ht) (by omega) (by omega)
theorem used_fine (W:World) (R:MR) (M:MS) (t:Nat) (hf:Fine M t) (ht:t<1000000) (h:AH) (hm:MIs h R M):
    RetQ (CC W) 19 [.ptr (some (.new R.km 0))] h (fun w _=>w= .tup [.int .i64 (usedR M),.int .i64 (liveR M.nodes:Nat)]):=
  usedB_ret W h R M hm (hf.ok ht)
theorem IntS.isSl {h:AH} {v:AV} {l:List Int} (hi:IntS h v l):∃p c g,v= .sl p l.length c g:=by
  rcases hi with ⟨rfl,rfl⟩ | ⟨k,cap,gr,_,rfl,_⟩<;>exact ⟨_,_,_,rfl⟩
def EqJ (va vb:AV) (a b:List Int) (h:AH) (m:Nat) (e':Env) (h':AH):Prop:=
  h'=h∧e'.length=26∧∃k:Nat,k + m=a.length∧a.take k=b.take k∧(e'.getD 0 .undef=va∧e'.getD 1 .undef=vb∧e'.getD 12 .undef= .int .i64 a.length∧e'.getD 13 .undef= .int .i64 k)
theorem take_nextI {a b:List Int} {k:Nat} {x:Int} (h:a.take k=b.take k) (hx:a[k]? =some x) (hy:b[k]? =some x):a.take (k + 1)=b.take (k + 1):=by
  rw [List.take_add_one,List.take_add_one,h,hx,hy]
set_option maxHeartbeats 4000000 in
set_option maxRecDepth 20000 in
theorem ints_ret (W:World) (h:AH) (va vb:AV) (a b:List Int) (ha:IntS h va a) (hb:IntS h vb b) (hla:a.length<9223372036854775808):
    RetH (CC W) 26 [va,vb] h (.bool (decide (a=b))):=by
  refine jj9 (cc_ok W) (fn26 W) (by simp only [Tryz.f26]; rfl) rfl rfl ?_
  obtain ⟨pa,ca,ga,rfl⟩:=ha.isSl
  obtain ⟨pb,cb,gb,rfl⟩:=hb.isSl
  by_cases hlen:a.length=b.length
  · have hlen':((a.length:Int) !=(b.length:Int))=false:=by simp [hlen]
    simp [push_cast,aLen,kind53,hlen']
    refine loopN (cc_ok W) (EqJ (.sl pa a.length ca ga) (.sl pb b.length cb gb) a b h) a.length ⟨rfl,by simp,0,by simp,by simp,by simp⟩ ?_
    rintro m e' h' ⟨rfl,hl,k,hkm,htk,hh⟩
    match e',hl with
    | a0::a1::a2::a3::a4::a5::a6::a7::a8::a9::a10::a11::a12::a13::a14::a15::a16::a17::a18::a19::a20::a21::a22::a23::a24::a25::[],_=>
      simp at hh
      obtain ⟨rfl,rfl,rfl,rfl,rfl⟩:=hh
      by_cases hlt:k<a.length
      · have hlt':(k:Int)<(a.length:Int):=by omega
        have hx:a[k]? =some a[k]:=by simp [hlt]
        obtain ⟨a',hix,hld0⟩:=ha.at (W:=W) hx
        have hld:=hld0 _ (Keeps.refl _)
        have hy:b[k]? =some (b[k]'(by omega)):=by simp [show k<b.length by omega]
        obtain ⟨b',hiy,hldy0⟩:=hb.at (W:=W) hy
        have hldy:=hldy0 _ (Keeps.refl _)
        clear hld0 hldy0
        have wk:IntKind.i64.wrap ((k:Int) + 1)=(k:Int) + 1:=wrap64 (by omega) (by omega)
        generalize a[k]=x at hx hld
        generalize b[k]'(by omega)=y at hy hldy
        by_cases hxy:x=y
        · subst hxy
          have hb1:(x==x)=true:=by simp
          simp [push_cast,hlt,hlt']
          refine draw1 (cc_ok W) [0,1,2,3,4,5,6,7,8] (by kernel_rfl) (by kernel_rfl) (by kernel_rfl) rfl ?_
          simp [push_cast,hix,hld,hiy,hldy,hb1,wk]
          exact ⟨m - 1,by omega,rfl,by simp,k + 1,by omega,take_nextI htk hx hy,by simp⟩
        · have hb1:(x==y)=false:=by rw [beq_eq_false_iff_ne]; exact hxy
          have hne:a≠b:=by intro e; subst e; rw [hx] at hy; exact hxy (Option.some.inj hy)
          simp [push_cast,hlt,hlt']
          refine draw1 (cc_ok W) [0,1,2,3,4,5,6,7,8] (by kernel_rfl) (by kernel_rfl) (by kernel_rfl) rfl ?_
          simp [push_cast,hix,hld,hiy,hldy,hb1,hne,hxy]
      · have hlt':¬(k:Int)<(a.length:Int):=by omega
        have he:a=b:=by
          have h1:a.take k=a:=List.take_of_length_le (by omega)
          have h2:b.take k=b:=List.take_of_length_le (by omega)
          rw [←h1,htk,h2]
        rw [decide_eq_true he]
        simp [push_cast,hlt,hlt']
  · have hlen':((a.length:Int) !=(b.length:Int))=true:=by rw [bne_iff_ne]; omega
    have hne:a≠b:=by intro e; exact hlen (by rw [e])
    simp [push_cast,aLen,kind53,hlen',hne]
def Room (M:MS):Prop:=usedR M≤M.data
def KeysN (M:MS):Prop:=∀nd∈M.nodes,((nd.blocks.getD []).map (·.1)).Nodup
theorem ind_eq {nd nd':Nd} (hk:nd'.kind=nd.kind) (hb:nd'.blocks=nd.blocks) (hs:nd'.slots.length=nd.slots.length):ndCost nd'=ndCost nd:=by
  simp only [ndCost,indR,hk,hb,hs]
theorem ndCost_pos (nd:Nd):0≤ndCost nd:=(costG_le (indR nd) (indR nd).length 0 []).1
theorem usedG_set:∀{l:List Nd} {i:Nat} {nd nd':Nd},l[i]? =some nd→usedG (l.set i nd')=usedG l - ndCost nd + ndCost nd'
  | [],i,nd,nd',h=>by simp at h
  | x::l,0,nd,nd',h=>by
    simp at h; subst h
    simp only [List.set_cons_zero,usedG]; omega
  | x::l,i + 1,nd,nd',h=>by
    have ih:=usedG_set (nd':=nd') (show l[i]? =some nd by simpa using h)
    simp only [List.set_cons_succ,usedG]; omega
theorem used_set {M:MS} {i:Nat} {nd nd':Nd} (h:M.nodes[i]? =some nd):usedR (M.set i nd')=usedR M - ndCost nd + ndCost nd':=usedG_set h
theorem room_set {M:MS} (hr:Room M) {i:Nat} {nd':Nd} (h:∀nd,M.nodes[i]? =some nd→ndCost nd'≤ndCost nd):Room (M.set i nd'):=by
  cases hnd:M.nodes[i]? with
  | none=>
    have:M.set i nd'=M:=by
      simp only [MS.set]
      rw [List.set_eq_of_length_le (by simpa using hnd)]
    rw [this]; exact hr
  | some nd=>
    have:=h nd hnd
    have h2:=used_set (nd':=nd') hnd
    show usedR (M.set i nd')≤M.data
    have:usedR M≤M.data:=hr
    omega
theorem cost_noNode:ndCost noNode=0:=by decide
theorem cost_newDir:ndCost newDir=0:=by decide
theorem cost_newFile:ndCost newFile=0:=by decide
theorem room_zero {M:MS} (hr:Room M) {i:Nat} {nd':Nd} (h:ndCost nd'=0):Room (M.set i nd'):=room_set hr fun nd _=>by rw [h]; exact ndCost_pos nd
theorem put_room {M:MS} (hr:Room M) {i:Nat} {nm:List UInt8} {a:Int}:Room (putR M i nm a).2:=by
  unfold putR
  split
  · exact hr
  · rename_i nd hnd
    split
    · refine room_set hr fun x hx=> ?_
      rw [hnd] at hx; cases hx
      exact Int.le_of_eq (ind_eq rfl rfl (by simp))
    · split
      · exact hr
      · rename_i h
        exact Int.not_lt.1 h
theorem take_room {M:MS} (hr:Room M) {d j:Nat}:Room (takeR M d j):=by
  unfold takeR
  split
  · exact hr
  · rename_i nd hnd
    refine room_set hr fun x hx=> ?_
    rw [hnd] at hx; cases hx
    exact Int.le_of_eq (ind_eq rfl rfl (by simp))
theorem addN_up (l:List (Int×Int)) (k:Int×Int):l.length≤(addN l k).length:=by
  unfold addN; split<;>simp
theorem nmN_up (l:List (Int×Int)) (x:Int):l.length≤(nmN l x).length:=by
  unfold nmN
  simp only
  split
  · split
    · exact Nat.le_trans (addN_up _ _) (addN_up _ _)
    · exact addN_up _ _
  · split
    · exact addN_up _ _
    · exact Nat.le_refl _
theorem nmF_len:∀(ps:List Int) (l:List (Int×Int)),l.length≤(ps.foldl nmN l).length
  | [],l=>Nat.le_refl _
  | x::ps,l=>Nat.le_trans (nmN_up l x) (nmF_len ps _)
theorem ipR_ok {x:Int} (h0:0≤x) (h1:x<4166):(ipR x).2.2.2=0:=by
  unfold ipR
  rw [if_neg (by omega),if_neg (by omega)]
  split
  · rfl
  · split<;>rfl
theorem costG_up {ps:List Int} (hp:ps.Pairwise (· < ·)) (hr:∀x∈ps,0≤x∧x<4166):∀(n i:Nat) (l:List (Int×Int)),i + n=ps.length→(costG ps n i l).1=ps.length + ((ps.drop i).foldl nmN l).length
  | 0,i,l,h=>by
    rw [List.drop_of_length_le (by omega)]
    simp [costG]
  | n + 1,i,l,h=>by
    have hi:i<ps.length:=by omega
    have hx:ps[i]? =some ps[i]:=by simp [hi]
    have hd:ps.drop i=ps[i]::ps.drop (i + 1):=List.drop_eq_getElem_cons hi
    obtain ⟨r0,r1⟩:=hr ps[i] (by simp)
    have ih:=costG_up hp hr n (i + 1) (nmN l ps[i]) (by omega)
    unfold costG
    rw [hx]
    simp only
    rw [if_neg (by rw [ipR_ok r0 r1]; simp),if_neg,ih,hd]
    · rfl
    · rintro ⟨h0,hle⟩
      have hgd:ps.getD (i - 1) 0=ps[i - 1]'(by omega):=by
        rw [List.getD_eq_getElem?_getD,List.getElem?_eq_getElem (by omega)]; rfl
      rw [hgd] at hle
      have:=(List.pairwise_iff_getElem.1 hp) (i - 1) i (by omega) hi (by omega)
      omega
theorem costR_up {ps:List Int} (hp:ps.Pairwise (· < ·)) (hr:∀x∈ps,0≤x∧x<4166):(costR ps).1=ps.length + (ps.foldl nmN []).length:=by
  have:=costG_up hp hr ps.length 0 [] (by omega)
  simpa [costR] using this
theorem cost_take {ps:List Int} (hp:ps.Pairwise (· < ·)) (hr:∀x∈ps,0≤x∧x<4166) (m:Nat):(costR (ps.take m)).1≤(costR ps).1:=by
  rw [costR_up hp hr,costR_up (hp.sublist (List.take_sublist _ _)) fun x hx=>hr x (List.mem_of_mem_take hx)]
  have h1:ps.foldl nmN []=(ps.drop m).foldl nmN ((ps.take m).foldl nmN []):=by
    rw [←List.foldl_append,List.take_append_drop]
  have h2:=nmF_len (ps.drop m) ((ps.take m).foldl nmN [])
  rw [h1]
  have h3:(ps.take m).length≤ps.length:=by simp; omega
  omega
theorem filter_take {p:Int→Bool} (hp:∀x y,x≤y→p y=true→p x=true):∀(l:List Int),l.Pairwise (· < ·)→∃m,l.filter p=l.take m
  | [],_=>⟨0,rfl⟩
  | x::l,h=>by
    cases hx:p x with
    | true=>
      obtain ⟨m,hm⟩:=filter_take hp l (List.pairwise_cons.1 h).2
      exact ⟨m + 1,by simp [hx,hm]⟩
    | false=>
      refine ⟨0,?_⟩
      rw [List.take_zero,List.filter_eq_nil_iff]
      intro y hy hc
      rw [List.mem_cons] at hy
      rcases hy with rfl | hy
      · rw [hx] at hc; cases hc
      · have:=hp x y (by have:=(List.pairwise_cons.1 h).1 y hy; omega) hc
        rw [hx] at this; cases this
theorem sort_strict {l:List Int} (h:l.Nodup):(sortI l).Pairwise (· < ·):=by
  have h1:=(sortI_perm l).nodup_iff.2 h
  have h2:=sortI_sorted l
  rw [List.nodup_iff_pairwise_ne] at h1
  exact h2.imp₂ (fun a b h3 h4=>by omega) h1
theorem trB_keys (N:Int):∀(b:Blk),(trB N b).map (·.1)=(b.map (·.1)).filter fun k=>decide (0<N - k * 128)
  | []=>rfl
  | x::b=>by
    have ih:=trB_keys N b
    unfold trB at ih ⊢
    rw [List.filterMap_cons,List.map_cons,List.filter_cons]
    by_cases h:N - x.1 * 128≤0
    · have e:trK N x.1 x.2=none:=by unfold trK; rw [if_pos h]
      rw [e]
      simp only [Option.map_none]
      rw [ih,if_neg (by simp; omega)]
    · have e:∃s,trK N x.1 x.2=some s:=by
        unfold trK; rw [if_neg h]
        split<;>exact ⟨_,rfl⟩
      obtain ⟨s,e⟩:=e
      rw [e]
      simp only [Option.map_some,List.map_cons]
      rw [ih,if_pos (by simp; omega)]
theorem tr_cost {b:Blk} {N:Int} (hb:BOk b) (hk:(b.map (·.1)).Nodup):(costR (sortI ((trB N b).map (·.1)))).1≤(costR (sortI (b.map (·.1)))).1:=by
  have hs:=sort_strict hk
  have hr:∀x∈sortI (b.map (·.1)),0≤x∧x<4166:=fun x hx=>by
    obtain ⟨y,hy,rfl⟩:=List.mem_map.1 ((sortI_perm _).mem_iff.1 hx)
    exact (hb y hy).2
  obtain ⟨m,hm⟩:=filter_take (p:=fun k=>decide (0<N - k * 128)) (fun x y h1 h2=>by simp at h2 ⊢; omega) _ hs
  have he:sortI ((trB N b).map (·.1))=(sortI (b.map (·.1))).filter fun k=>decide (0<N - k * 128):=by
    rw [trB_keys]
    refine List.Perm.eq_of_pairwise (le:=fun a b:Int=>a≤b) (fun a b _ _ h1 h2=>Int.le_antisymm h1 h2) (sortI_sorted _) ((sortI_sorted _).filter _) ?_
    exact (sortI_perm _).trans ((sortI_perm _).symm.filter _)
  rw [he,hm]
  exact cost_take hs hr m
theorem file_kind {M:MS} {l:List (List UInt8)} (h:(fileR M l).2=0) {nd:Nd} (hn:M.nodes[(fileR M l).1.toNat]? =some nd):nd.kind≠2:=by
  unfold fileR at h hn
  split at h
  · rename_i h1
    rw [if_pos h1] at hn
    cases hx:M.nodes[(findR M l 0).1.toNat]? with
    | none=>rw [hx] at h; simp at h
    | some x=>
      rw [hx] at h hn
      simp only at h hn
      by_cases hk:x.kind=2
      · rw [if_pos hk] at h; simp at h
      · rw [if_neg hk] at hn
        rw [hx] at hn; cases hn; exact hk
  · rename_i h1
    exact absurd h h1
theorem do_room {M:MS} {t:Nat} (hf:Fine M t) (hk:KeysN M) (h:Room M) (o:Opn):Room (doR M o).2:=by
  unfold doR
  split
  · exact h
  · split
    · exact h
    · split
      · exact h
      · have hcreate:∀k l,Room (createR M k l).2:=fun k l=>by
          unfold createR
          split
          · split
            · exact h
            · have hp:=put_room (i:=(parentR M l).1.toNat) (nm:=l.getLast?.getD []) (a:=freeR M) h
              split
              · rename_i M1 e; rw [e] at hp; exact hp
              · rename_i M1 e; rw [e] at hp
                refine room_zero hp ?_
                split
                · exact cost_newDir
                · exact cost_newFile
          · exact h
        have hwrite:∀a d l,Room (writeR M a d l).2:=fun a d l=>by
          unfold writeR
          split
          · exact h
          · split
            · split
              · exact h
              · split
                · exact h
                · split
                  · rename_i nd hnd
                    split
                    · exact h
                    · rename_i hc
                      have e1:=used_set (nd':={nd with blocks:=nd.blocks.map (wrB a.toNat d)}) hnd
                      have e2:=used_set (nd':={nd with size:=max nd.size (a + d.length),blocks:=nd.blocks.map (wrB a.toNat d)}) hnd
                      have e3:ndCost {nd with size:=max nd.size (a + d.length),blocks:=nd.blocks.map (wrB a.toNat d)}=ndCost {nd with blocks:=nd.blocks.map (wrB a.toNat d)}:=ind_eq rfl rfl rfl
                      have h3:=Int.not_lt.1 hc
                      show usedR (M.set (fileR M l).1.toNat {nd with size:=max nd.size (a + d.length),blocks:=nd.blocks.map (wrB a.toNat d)})≤M.data
                      omega
                  · exact h
            · exact h
        have htrunc:∀n l,Room (truncR M n l).2:=fun n l=>by
          unfold truncR
          split
          · exact h
          · split
            · exact h
            · split
              · rename_i hfi
                split
                · rename_i nd hnd
                  refine room_set h fun x hx=> ?_
                  rw [hnd] at hx; cases hx
                  have hkd:=file_kind hfi hnd
                  have hm:=List.mem_of_getElem? hnd
                  have hkn:=hk nd hm
                  simp only [ndCost,indR,if_neg hkd]
                  cases hb:nd.blocks with
                  | none=>simp
                  | some b=>
                    rw [hb] at hkn
                    have hok:=hf.each nd hm
                    have hb2:BOk b:=by
                      rcases hok.kind with k | k | k
                      · rw [hok.free k] at hb; cases hb
                      · obtain ⟨b',e,hb',_⟩:=hok.file k
                        rw [hb] at e; cases e; exact hb'
                      · exact absurd k hkd
                    exact tr_cost hb2 hkn
                · exact h
              · exact h
        have hlink:∀l l2,Room (linkR M l l2).2:=fun l l2=>by
          have hp:=put_room (i:=(parentR M l2).1.toNat) (nm:=l2.getLast?.getD []) (a:=(fileR M l).1) h
          unfold linkR
          repeat' split
          all_goals first | exact h | exact hp | (rename_i x hx; refine room_set hp fun y hy=> ?_; rw [hx] at hy; cases hy; exact Int.le_of_eq (ind_eq rfl rfl rfl))
        have hunlink:∀l,Room (unlinkR M l).2:=fun l=>by
          unfold unlinkR
          split
          · split
            · exact h
            · rename_i nd hnd
              have ht:=take_room (d:=(findR M l.dropLast 0).1.toNat) (j:=(placeR nd.slots (l.getLast?.getD [])).toNat) h
              split
              · exact h
              · rename_i x hx
                have h2:=room_set (i:=(fileR M l).1.toNat) (nd':={x with links:=x.links - 1}) ht fun y hy=>by rw [hx] at hy; cases hy; exact Int.le_of_eq (ind_eq rfl rfl rfl)
                split
                · exact room_zero h2 cost_noNode
                · exact h2
          · exact h
        have hrmdir:∀l,Room (rmdirR M l).2:=fun l=>by
          unfold rmdirR
          repeat' split
          all_goals first | exact h | exact room_zero (take_room h) cost_noNode
        have hrename:∀p q l l2,Room (renameR M p q l l2).2:=fun p q l l2=>by
          unfold renameR
          repeat' split
          all_goals first | exact h | exact put_room (take_room h)
        unfold opR
        split
        all_goals first | exact h | exact hcreate _ _ | exact hwrite _ _ _ | exact htrunc _ _ | exact hlink _ _ | exact hunlink _ | exact hrmdir _ | exact hrename _ _ _ _
theorem new_room {n:Nat} {c:Int} (h:0≤c):Room (newM n c):=by
  have hr:∀k,usedG (List.replicate k noNode)=0:=fun k=>by
    induction k with
    | zero=>rfl
    | succ k ih=>rw [List.replicate_succ]; simp only [usedG,ih,cost_noNode]; rfl
  have h0:ndCost rootNd=0:=by decide
  show usedG (rootNd::List.replicate (n - 1) noNode)≤c
  simp only [usedG,hr,h0]
  omega
theorem MIs.keysN {h:AH} {R:MR} {M:MS} (hm:MIs h R M):KeysN M:=by
  intro nd hnd
  obtain ⟨i,hi,he⟩:=List.getElem_of_mem hnd
  obtain ⟨r,nd',hr,hnd',hn⟩:=hm.node hi
  have:nd'=nd:=by rw [List.getElem?_eq_getElem hi,he] at hnd'; exact (Option.some.inj hnd').symm
  subst this
  obtain ⟨mv,sv,_,hmp,_⟩:=hn
  cases hb:nd'.blocks with
  | none=>simp
  | some b=>
    cases hrm:r.m with
    | none=>rw [hb,hrm] at hmp; exact hmp.elim
    | some km=>
      rw [hb,hrm] at hmp
      obtain ⟨_,es,cl,_,hok,hes⟩:=hmp
      have:=intKey_blocks hes
      simp only [Option.getD_some, ←this]
      exact hok.keys
def TabI (h1:AH) (kb N:Nat) (m:Nat) (e':Env) (h':AH):Prop:=
  h'=h1∧e'.length=12∧∃i:Nat,i + m=N∧(e'.getD 1 .undef= .ptr (some (.new kb 0))∧e'.getD 3 .undef= .int .i64 i)
set_option maxHeartbeats 4000000 in
theorem tab_ret (W:World) (h:AH) (b j n:Int) (n0:1≤n) (n1:n≤64):
    RetK (CC W) 83 [.agg [.int .i64 b,.int .i64 j,.int .i64 n]] h (.int .i64 ((n + 3) / 4)):=by
  refine jj9 (cc_ok W) (fn83 W) (by simp only [Tryz.f83]; rfl) rfl rfl ?_
  have hbx:=box_shape (h:=h) (l:=[.int .i64 b,.int .i64 j,.int .i64 n])
  have hk1:Keeps h (h.push (.cells [.int .i64 b,.int .i64 j,.int .i64 n] 23)):=Keeps.push _ _
  have hgb:(h.push (.cells [.int .i64 b,.int .i64 j,.int .i64 n] 23)).get h.next=some (.cells [.int .i64 b,.int .i64 j,.int .i64 n] 23):=by simp
  generalize h.push (.cells [.int .i64 b,.int .i64 j,.int .i64 n] 23)=h1 at hbx hk1 hgb
  generalize h.next=kb at hbx hgb
  obtain ⟨N,hN⟩:=Int.eq_ofNat_of_zero_le (show 0≤(n + 3) / 4 by omega)
  rw [hN]
  simp [push_cast,hbx]
  refine loopN (cc_ok W) (TabI h1 kb N) N ⟨rfl,by simp,0,by simp,by simp⟩ ?_
  rintro m e' h' ⟨rfl,hlen',i,him,hh⟩
  match e',hlen' with
  | a0::a1::a2::a3::a4::a5::a6::a7::a8::a9::a10::a11::[],_=>
    simp at hh
    obtain ⟨rfl,rfl⟩:=hh
    have w4:IntKind.i64.wrap (4 * (i:Int))=4 * (i:Int):=wrap64 (by omega) (by omega)
    have w1:IntKind.i64.wrap ((i:Int) + 1)=(i:Int) + 1:=wrap64 (by omega) (by omega)
    by_cases hlt:i<N
    · have hc:4 * (i:Int)<n:=by omega
      simp [push_cast,fa23_2,ld3,ji9 hgb,jd9,w4,w1,hc]
      exact ⟨m - 1,by omega,rfl,by simp,i + 1,by omega,by simp⟩
    · have hc:¬4 * (i:Int)<n:=by omega
      have hi:i=N:=by omega
      simp [push_cast,fa23_2,ld3,ji9 hgb,jd9,w4,w1,hc]
      exact ⟨by omega,hk1⟩
set_option maxHeartbeats 4000000 in
theorem rdata_ret (W:World) (h:AH) (b j n:Int) (n0:1≤n) (n1:n≤64) (j0:0≤j) (j1:j≤1000):
    RetK (CC W) 46 [.agg [.int .i64 b,.int .i64 j,.int .i64 n]] h (.int .i64 (dataR b j n)):=by
  refine jj9 (cc_ok W) (fn46 W) (by simp only [Tryz.f46]; rfl) rfl rfl ?_
  have hbx:=box_shape (h:=h) (l:=[.int .i64 b,.int .i64 j,.int .i64 n])
  have hk1:Keeps h (h.push (.cells [.int .i64 b,.int .i64 j,.int .i64 n] 23)):=Keeps.push _ _
  have hgb:(h.push (.cells [.int .i64 b,.int .i64 j,.int .i64 n] 23)).get h.next=some (.cells [.int .i64 b,.int .i64 j,.int .i64 n] 23):=by simp
  have hn1:h.next<(h.push (.cells [.int .i64 b,.int .i64 j,.int .i64 n] 23)).next:=by simp
  generalize h.push (.cells [.int .i64 b,.int .i64 j,.int .i64 n] 23)=h1 at hbx hk1 hgb hn1
  generalize h.next=kb at hbx hgb hn1
  have w1:IntKind.i64.wrap (2 + j)=2 + j:=wrap64 (by omega) (by omega)
  have w2:IntKind.i64.wrap (2 + j + (n + 3) / 4)=2 + j + (n + 3) / 4:=wrap64 (by omega) (by omega)
  simp [push_cast,hbx]
  refine drawS [0,1,2,3,4,5,6] (by kernel_rfl) (by kernel_rfl) ?_
  simp [push_cast,zx9,zy9,SgO,opA,isE,isRead,fa23_1,ld3,ld_shape hgb,ji9 hgb,jd9,w1]
  refine jb9 (f:=83) (args:=[.agg [.int .i64 b,.int .i64 j,.int .i64 n]]) (by rfl) (by rfl) (by rfl) (by simp [fn83]) (tab_ret W h1 b j n n0 n1) ?_
  rintro w h2 ⟨rfl,hk2⟩
  have hgb2:=(hk2.2 kb hn1).trans hgb
  refine ⟨?_,?_⟩
  · simp [zz9,ja9,push_cast,opA,fa23_1,ld3,ld_shape hgb2,ji9 hgb2,jd9]
  simp [push_cast,zx9,zy9,SgO,opA,isE,isRead,w2]
  exact ⟨rfl,hk1.trans hk2⟩
set_option maxHeartbeats 8000000 in
theorem right_ret (W:World) (h:AH) (b j n c:Int) (hs:shapeR b j n=some c):
    RetK (CC W) 45 [.agg [.int .i64 b,.int .i64 j,.int .i64 n]] h (.bool true):=by
  obtain ⟨b0,b1,j0,j1,n0,n1,hc⟩:16≤b∧b≤1024∧8≤j∧j≤256∧1≤n∧n≤64∧2 + j + (n + 3) / 4 + 4≤b:=by
    unfold shapeR at hs
    split at hs
    · rename_i hc
      simp only [inB,Bool.and_eq_true,decide_eq_true_eq] at hc
      split at hs
      · cases hs
      · rename_i h4
        simp only [dataR] at h4
        omega
    · cases hs
  refine jj9 (cc_ok W) (fn45 W) (by simp only [Tryz.f45]; rfl) rfl rfl ?_
  have hbx:=box_shape (h:=h) (l:=[.int .i64 b,.int .i64 j,.int .i64 n])
  have hk1:Keeps h (h.push (.cells [.int .i64 b,.int .i64 j,.int .i64 n] 23)):=Keeps.push _ _
  have hgb:(h.push (.cells [.int .i64 b,.int .i64 j,.int .i64 n] 23)).get h.next=some (.cells [.int .i64 b,.int .i64 j,.int .i64 n] 23):=by simp
  have hn1:h.next<(h.push (.cells [.int .i64 b,.int .i64 j,.int .i64 n] 23)).next:=by simp
  generalize h.push (.cells [.int .i64 b,.int .i64 j,.int .i64 n] 23)=h1 at hbx hk1 hgb hn1
  generalize h.next=kb at hbx hgb hn1
  have w1:IntKind.i64.wrap (2 + j)=2 + j:=wrap64 (by omega) (by omega)
  have w2:IntKind.i64.wrap (2 + j + (n + 3) / 4)=2 + j + (n + 3) / 4:=wrap64 (by omega) (by omega)
  have w3:IntKind.i64.wrap (2 + j + (n + 3) / 4 + 4)=2 + j + (n + 3) / 4 + 4:=wrap64 (by omega) (by omega)
  simp [push_cast,hbx]
  refine drawS [0,1,2,3,4,5,6,7,8,9,10,11,12,13,14,15,16,17,18,19,20,21,22,23,24,25,26,27,28,29,30,31,32,36,37,33,34,35,38,39,40] (by kernel_rfl) (by kernel_rfl) ?_
  simp [push_cast,zx9,zy9,SgO,opA,isE,isRead,fa23_0,fa23_1,fa23_2,ld3,ld_shape hgb,ji9 hgb,jd9,w1,b0,b1,j0,j1,n0,n1]
  refine jb9 (f:=83) (args:=[.agg [.int .i64 b,.int .i64 j,.int .i64 n]]) (by rfl) (by rfl) (by rfl) (by simp [fn83]) (tab_ret W h1 b j n n0 n1) ?_
  rintro w h2 ⟨rfl,hk2⟩
  have hgb2:=(hk2.2 kb hn1).trans hgb
  refine ⟨?_,?_⟩
  · simp [zz9,ja9,push_cast,opA,fa23_0,fa23_1,fa23_2,ld3,ld_shape hgb2,ji9 hgb2,jd9]
  simp [push_cast,zx9,zy9,SgO,opA,isE,isRead,w2,w3,hc]
  exact hk1.trans hk2
def zN:List AV:=[.int .i64 0,.int .i64 0,.int .i64 0,.sl none 0 0 none,.sl none 0 0 none,.sl none 0 0 none,.sl none 0 0 none]
theorem build_zn {W:World}:aBuild (CC W) 100 []=some (.agg zN):=rfl
theorem build_zs {W:World} {h:AH}:aBuildSlice (CC W) h 58 1 [(0,.agg zN)]=some (.sl (some (.new h.next 0)) 1 1 none,h.push (.cells zN 100)):=by
  simp only [aBuildSlice,kind58,size100,zero100]
  rfl
theorem repZ_len {l:List AV}:∀n,(repZ n l).length=n * l.length
  | 0=>by simp [repZ]
  | n + 1=>by
    have ih:=repZ_len (l:=l) n
    simp only [repZ,List.replicate_succ,List.flatten_cons,List.length_append] at ih ⊢
    rw [ih,Nat.add_mul]; omega
theorem repZ_snoc {l:List AV} (n:Nat):repZ n l ++ l=repZ (n + 1) l:=by
  simp only [repZ,List.replicate_succ',List.flatten_append,List.flatten_cons,List.flatten_nil,List.append_nil]
def NdV (lo:Nat) (h:AH) (v:AV) (i:Nat):Prop:=
  i=0∧v= .sl none 0 0 none∨∃k,lo≤k∧k<h.next∧h.get k=some (.cells (repZ i zN) 100)∧v= .sl (some (.new k 0)) i i (some 7)
theorem append_zn {W:World} {lo:Nat} {h:AH} {v:AV} {i:Nat} (hv:NdV lo h v i) (hlo:lo≤h.next) (hi:i<64):
    ∃v' h',aAppend (CC W) (h.push (.cells zN 100)) #[58,58] v (.sl (some (.new h.next 0)) 1 1 none)=some (v',h')∧h.next<h'.next∧(∃p,h.next≤p∧p<h'.next∧h'.get p=some (.cells (repZ (i + 1) zN) 100)∧v'= .sl (some (.new p 0)) (i + 1) (i + 1) (some 7))∧∀q,q<lo→h'.get q=h.get q:=by
  have hb:(CC W).bytes 100=120:=_root_.id rfl
  have hni:niOK (CC W) #[58,58]=true:=_root_.id rfl
  have hnews:aNews (CC W) (h.push (.cells zN 100)) 7 (.sl (some (.new h.next 0)) 1 1 none)=some (1,zN):=by
    simp [aNews,aCells,zN]
  have hone:zN.all aOne=true:=rfl
  rcases hv with ⟨rfl,rfl⟩ | ⟨k,h1,h2,h3,rfl⟩
  · refine ⟨.sl (some (.new (h.next + 1) 0)) 1 1 (some 7),(h.push (.cells zN 100)).push (.cells zN 100),?_,by simp; omega,⟨h.next + 1,by omega,by simp,by simp [repZ],rfl⟩,fun q hq=> ?_⟩
    · simp [aAppend,kind58,size100,zero100,hb,hni,hnews]
    · rw [AH.get_push,if_neg (by simp; omega),AH.get_push,if_neg (by omega)]
  · have hne:k≠h.next:=by omega
    have hlen:(repZ i zN).length=i * 7:=repZ_len i
    have hsn:=repZ_snoc (l:=zN) i
    generalize repZ (i + 1) zN=c2 at hsn
    generalize repZ i zN=c1 at h3 hlen hsn
    subst hsn
    refine ⟨.sl (some (.new (h.next + 1) 0)) (i + 1) (i + 1) (some 7),((h.push (.cells zN 100)).kill k).push (.cells (c1 ++ zN) 100),?_,by simp [AH.next_kill']; omega,⟨h.next + 1,by omega,by simp [AH.next_kill'],by simp [AH.next_kill'],rfl⟩,fun q hq=> ?_⟩
    · by_cases hi0:i=0
      · subst hi0
        have:c1=[]:=List.length_eq_zero_iff.1 (by omega)
        subst this
        simp [aAppend,kind58,size100,zero100,hb,hni,hnews,hne,h3,hlen,AH.next_kill']
        try simpa using hone
      · simp [aAppend,kind58,size100,zero100,hb,hni,hnews,hne,h3,hlen,AH.next_kill',hi0]
        rw [if_neg (by omega),if_pos (by omega)]
        try simpa using hone
    · rw [AH.get_push,AH.next_kill',if_neg (by simp; omega),AH.get_kill',if_neg (by omega),AH.get_push,if_neg (by omega)]
theorem build_rmod {W:World} {c:Int}:aBuild (CC W) 60 [(1,.int .i64 c)]=some (.agg [.sl none 0 0 none,.int .i64 c]):=rfl
theorem box_rmod {h:AH} {l:List AV}:aBox h 60 (.agg l)=some (.ptr (some (.new h.next 0)),h.push (.cells l 60)):=rfl
theorem st_rmod {W:World} {h:AH} {k:Nat} {a b:AV} {t:TypeId} {p:Option AA} {l cap:Nat} {g:Option Nat} (hg:h.get k=some (.cells [a,b] t)):aStoreOp (CC W) h 58 (.ptr (some (.new k 0))) (.sl p l cap g)=some (h.set k (.cells [.sl p l cap g,b] t)):=by
  simp only [aStoreOp,aCellsOf,size58,aStore,hg]
  rfl
theorem build_rn {W:World}:aBuild (CC W) 100 [(0,.int .i64 2),(1,.int .i64 1)]=some (.agg [.int .i64 2,.int .i64 1,.int .i64 0,.sl none 0 0 none,.sl none 0 0 none,.sl none 0 0 none,.sl none 0 0 none]):=rfl
def RfI (h0:AH) (kb km:Nat) (b j n c:Int) (N:Nat) (m:Nat) (e':Env) (h':AH):Prop:=
  e'.length=39∧∃(i:Nat) (v:AV),i + m=N∧(h0.next≤kb∧kb<km∧km<h'.next)∧(∀q,q<h0.next→h'.get q=h0.get q)∧h'.get kb=some (.cells [.int .i64 b,.int .i64 j,.int .i64 n] 23)∧h'.get km=some (.cells [v,.int .i64 c] 60)∧NdV (km + 1) h' v i∧
    (e'.getD 1 .undef= .ptr (some (.new kb 0))∧e'.getD 4 .undef= .ptr (some (.new km 0))∧e'.getD 5 .undef= .int .i64 i)
def OwnL {α:Type} (f:α→AV) (t:TypeId) (A:Nat→Prop) (h:AH) (v:AV) (l:List α):Prop:=
  (l=[]∧v= .sl none 0 0 none)∨∃k,A k∧k<h.next∧l≠[]∧h.get k=some (.cells (l.map f) t)∧v= .sl (some (.new k 0)) l.length l.length (some 1)
abbrev OwI:=OwnL (fun n:Int=>AV.int .i64 n) 3
abbrev OwT:=OwnL AV.str 9
section
variable {α:Type} {f:α→AV} {t T:TypeId} {A B:Nat→Prop} {h h':AH} {v:AV} {l:List α} {W:World}
theorem OwnL.keep (ho:OwnL f t A h v l) (hk:Keeps h h'):OwnL f t A h' v l:=by
  rcases ho with ho | ⟨k,a,b,c,d,e⟩
  · exact .inl ho
  · exact .inr ⟨k,a,Nat.lt_of_lt_of_le b hk.1,c,(hk.2 k b).trans d,e⟩
theorem OwnL.off (ho:OwnL f t A h v l) (hn:h.next≤h'.next) (hk:∀k,A k→k<h.next→h'.get k=h.get k):OwnL f t A h' v l:=by
  rcases ho with ho | ⟨k,a,b,c,d,e⟩
  · exact .inl ho
  · exact .inr ⟨k,a,Nat.lt_of_lt_of_le b hn,c,(hk k a b).trans d,e⟩
theorem OwnL.imp (ho:OwnL f t A h v l) (hA:∀k,k<h.next→A k→B k):OwnL f t B h v l:=by
  rcases ho with ho | ⟨k,a,b,c⟩
  · exact .inl ho
  · exact .inr ⟨k,hA k b a,b,c⟩
theorem OwnL.len (ho:OwnL f t A h v l) (hk:(CC W).kind T= .slice t) {h2:AH}:aLen (CC W) h2 T v=some (.int .i64 l.length):=by
  rcases ho with ⟨rfl,rfl⟩ | ⟨k,_,_,_,hg,rfl⟩<;>simp [aLen,hk]
theorem OwnL.at (ho:OwnL f t A h v l) (hk:(CC W).kind T= .slice t) (hs:(CC W).size t=some 1) {i:Nat} {x:α} (hx:l[i]? =some x):∃k,A k∧k<h.next∧aIndexAddr (CC W) T v (.int .i64 (i:Int))=some (.ptr (some (.new k i)))∧aCell (CC W) h (.new k i)=some (f x):=by
  rcases ho with ⟨rfl,rfl⟩ | ⟨k,a,b,_,hg,rfl⟩
  · simp at hx
  · have hi:=(List.getElem?_eq_some_iff.1 hx).1
    refine ⟨k,a,b,?_,?_⟩
    · simp only [aIndexAddr,hk,hs]
      rw [if_pos (by omega)]
      simp [AA.add]
    · simp only [aCell,hg,List.getElem?_map,hx,Option.map]
theorem OwnL.one (ho:OwnL f t A h v l):aOne v=true:=by
  rcases ho with ⟨_,rfl⟩ | ⟨k,_,_,_,_,rfl⟩<;>rfl
theorem OwnL.isSl (ho:OwnL f t A h v l):∃p n c g,v= .sl p n c g:=by
  rcases ho with ⟨_,rfl⟩ | ⟨k,_,_,_,_,rfl⟩<;>exact ⟨_,_,_,_,rfl⟩
theorem OwT.strS {l:List (List UInt8)} (ho:OwT A h v l):StrS W h v l:=by
  rcases ho with ⟨rfl,rfl⟩ | ⟨k,a,b,_,hg,rfl⟩
  · exact StrS.nil
  · refine ⟨_,l.length,some 1,rfl,⟨Nat.le_refl _,.inr rfl⟩,fun i x hx=>⟨_,rfl,b,?_,⟨_,hg⟩⟩⟩
    simp only [AA.add,aCell,hg,Nat.zero_add,List.getElem?_map,hx,Option.map]
theorem OwnL.app1 (ho:OwnL f t A h v l) (hk:(CC W).kind T= .slice t) (hs:(CC W).size t=some 1) {z:AV} (hz:(CC W).zero t=some [z]) {b:Nat} (hb:(CC W).bytes t=b) (hb1:0<b∧b≤1000) (hni:niOK (CC W) #[T,T]=true) {x:α} (hone:aOne (f x)=true) (hl:l.length<1000000000):
    ∃v' h',aAppend (CC W) (h.push (.cells [f x] t)) #[T,T] v (.sl (some (.new h.next 0)) 1 1 none)=some (v',h')∧OwnL f t (fun k=>h.next≤k) h' v' (l ++ [x])∧h.next≤h'.next∧∀j,j<h.next→(∀k n c g,v= .sl (some (.new k 0)) n c g→j≠k)→h'.get j=h.get j:=by
  have hnews:aNews (CC W) (h.push (.cells [f x] t)) 1 (.sl (some (.new h.next 0)) 1 1 none)=some (1,[f x]):=by
    simp [aNews,aCells]
  have hbig:(l.length + 1) * b≤140737488355328:=by
    have:=Nat.mul_le_mul (show l.length + 1≤1000000000 by omega) hb1.2
    omega
  rcases ho with ⟨rfl,rfl⟩ | ⟨k,a,hkn,hne,hg,rfl⟩
  · refine ⟨.sl (some (.new (h.next + 1) 0)) 1 1 (some 1),(h.push (.cells [f x] t)).push (.cells [f x] t),?_,.inr ⟨h.next + 1,by omega,by simp,by simp,by simp,by simp⟩,by simp; omega,fun j hj _=> ?_⟩
    · simp at hbig
      have hb0:¬b=0:=by omega
      simp [aAppend,hk,hs,hz,hb,hni,hnews,hone,hb0,hbig]
    · rw [AH.get_push,if_neg (by simp; omega),AH.get_push,if_neg (by omega)]
  · have hll:0<l.length:=List.length_pos_iff.2 hne
    have hg':(h.push (.cells [f x] t)).get k=some (.cells (l.map f) t):=by
      rw [AH.get_push,if_neg (by omega)]; exact hg
    have hnx:(l ++ [x]).map f=l.map f ++ [f x]:=by simp
    have hlen:(l.map f).length=l.length:=by simp
    refine ⟨.sl (some (.new (h.next + 1) 0)) (l.length + 1) (l.length + 1) (some 1),((h.push (.cells [f x] t)).kill k).push (.cells (l.map f ++ [f x]) t),?_,.inr ⟨h.next + 1,by omega,by simp [AH.next_kill'],by simp,?_,by simp⟩,by simp [AH.next_kill']; omega,fun j hj hjk=> ?_⟩
    · generalize l.map f=cs at *
      have hb0:¬b=0:=by omega
      simp [aAppend,hk,hs,hz,hb,hni,hnews,hg',hlen,AH.next_kill',hone,hb0,hbig]
      exact hb1.1
    · rw [AH.get_push,AH.next_kill',if_pos (by simp),hnx]
    · have:=hjk k _ _ _ rfl
      rw [AH.get_push,AH.next_kill',if_neg (by simp; omega),AH.get_kill',if_neg this,AH.get_push,if_neg (by omega)]
theorem OwnL.copy (ho:OwnL f t A h v l) (hk:(CC W).kind T= .slice t) (hs:(CC W).size t=some 1) {z:AV} (hz:(CC W).zero t=some [z]) {b:Nat} (hb:(CC W).bytes t=b) (hb1:0<b∧b≤1000) (hni:niOK (CC W) #[T,T]=true) (hone:∀x,aOne (f x)=true) (hl:l.length<1000000000):
    ∃v' h',aAppend (CC W) h #[T,T] (.sl none 0 0 none) v=some (v',h')∧OwnL f t (fun k=>h.next≤k) h' v' l∧Keeps h h':=by
  rcases ho with ⟨rfl,rfl⟩ | ⟨k,a,hkn,hne,hg,rfl⟩
  · refine ⟨.sl none 0 0 none,h,?_,.inl ⟨rfl,rfl⟩,Keeps.refl _⟩
    have hb0:¬b=0:=by omega
    simp [aAppend,hk,hs,hz,hni,aNews,hb,hb0]
  · have hll:0<l.length:=List.length_pos_iff.2 hne
    have hlen:(l.map f).length=l.length:=by simp
    have hnews:aNews (CC W) h 1 (.sl (some (.new k 0)) l.length l.length (some 1))=some (l.length,l.map f):=by
      simp [aNews,aCells,hg,hne]
      exact List.take_of_length_le (by simp)
    have hbig:l.length * b≤140737488355328:=by
      have:=Nat.mul_le_mul (show l.length≤1000000000 by omega) hb1.2
      omega
    have hall:(l.map f).all aOne=true:=by
      rw [List.all_eq_true]
      intro y hy
      obtain ⟨x,_,rfl⟩:=List.mem_map.1 hy
      exact hone x
    refine ⟨.sl (some (.new h.next 0)) l.length l.length (some 1),h.push (.cells (l.map f) t),?_,.inr ⟨h.next,Nat.le_refl _,by simp,hne,by simp,rfl⟩,Keeps.push _ _⟩
    generalize l.map f=cs at *
    have hb0:¬b=0:=by omega
    have hl0:¬l.length=0:=by omega
    simp [aAppend,hk,hs,hz,hb,hni,hnews,hbig,hb0,hl0]
end
def ixR (nd:Nd):List Int:=sortI ((nd.blocks.getD []).map (·.1))
def dtR (nd:Nd):List (List UInt8):=(ixR nd).map fun k=>(blkAt nd.blocks k).getD []
def NdC (A:Nat→Prop) (h:AH) (cs:List AV) (nd:Nd):Prop:=∃iv dv nv sv,cs=[.int .i64 nd.kind,.int .i64 nd.links,.int .i64 nd.size,iv,dv,nv,sv]∧OwI A h iv (ixR nd)∧OwT A h dv (dtR nd)∧OwT A h nv (nd.slots.map (·.nm))∧OwI A h sv (nd.slots.map (·.ino))
theorem NdC.keep {A:Nat→Prop} {h h':AH} {cs:List AV} {nd:Nd} (hn:NdC A h cs nd) (hk:Keeps h h'):NdC A h' cs nd:=by
  obtain ⟨a,b,c,d,e,f,g,i,j⟩:=hn
  exact ⟨a,b,c,d,e,f.keep hk,g.keep hk,i.keep hk,j.keep hk⟩
theorem NdC.off {A:Nat→Prop} {h h':AH} {cs:List AV} {nd:Nd} (hn:NdC A h cs nd) (hx:h.next≤h'.next) (hk:∀k,A k→k<h.next→h'.get k=h.get k):NdC A h' cs nd:=by
  obtain ⟨a,b,c,d,e,f,g,i,j⟩:=hn
  exact ⟨a,b,c,d,e,f.off hx hk,g.off hx hk,i.off hx hk,j.off hx hk⟩
theorem NdC.imp {A B:Nat→Prop} {h:AH} {cs:List AV} {nd:Nd} (hn:NdC A h cs nd) (hA:∀k,k<h.next→A k→B k):NdC B h cs nd:=by
  obtain ⟨a,b,c,d,e,f,g,i,j⟩:=hn
  exact ⟨a,b,c,d,e,f.imp hA,g.imp hA,i.imp hA,j.imp hA⟩
theorem NdC.len {A:Nat→Prop} {h:AH} {cs:List AV} {nd:Nd} (hn:NdC A h cs nd):cs.length=7:=by
  obtain ⟨a,b,c,d,rfl,_⟩:=hn; rfl
theorem NdC.ones {A:Nat→Prop} {h:AH} {cs:List AV} {nd:Nd} (hn:NdC A h cs nd):cs.all aOne=true:=by
  obtain ⟨a,b,c,d,rfl,f,g,i,j⟩:=hn
  simp only [List.all_cons,List.all_nil,f.one,g.one,i.one,j.one]
  rfl
def RIs (A:Nat→Prop) (h:AH) (km kl:Nat) (M:MS):Prop:=∃css:List (List AV),css.length=M.nodes.length∧(∀(i:Nat) cs nd,css[i]? =some cs→M.nodes[i]? =some nd→NdC (fun k=>A k∧k≠km∧k≠kl) h cs nd)∧
  h.get kl=some (.cells css.flatten 100)∧h.get km=some (.cells [.sl (some (.new kl 0)) M.nodes.length M.nodes.length (some 7),.int .i64 M.data] 60)∧km<h.next∧kl<h.next∧km≠kl
theorem RIs.keep {A:Nat→Prop} {h h':AH} {km kl:Nat} {M:MS} (hr:RIs A h km kl M) (hk:Keeps h h'):RIs A h' km kl M:=by
  obtain ⟨css,a,b,c,d,e,f,g⟩:=hr
  exact ⟨css,a,fun i cs nd h1 h2=>(b i cs nd h1 h2).keep hk,(hk.2 kl f).trans c,(hk.2 km e).trans d,Nat.lt_of_lt_of_le e hk.1,Nat.lt_of_lt_of_le f hk.1,g⟩
section
variable {W:World} {A:Nat→Prop} {h:AH} {km kl:Nat} {M:MS}
theorem idx_rn {n i:Nat} (hi:i<n):aIndexAddr (CC W) 58 (.sl (some (.new kl 0)) n n (some 7)) (.int .i64 (i:Int))=some (.ptr (some (.new kl (i * 7)))):=by
  simp only [aIndexAddr,kind58,size100]
  rw [if_pos (by omega)]
  simp [AA.add]
theorem flatt_get {n:Nat} (us:List (List AV)) (hn:∀u∈us,u.length=n) {i:Nat} {u:List AV} (hu:us[i]? =some u) {j:Nat} (hj:j<n):us.flatten[i * n + j]? =u[j]? :=by
  obtain ⟨h1,h2⟩:=flatt_at us hn i u hu
  rw [←h2,List.getElem?_take,if_pos hj,List.getElem?_drop]
theorem RIs.node (hr:RIs A h km kl M) {i:Nat} {nd:Nd} (hi:M.nodes[i]? =some nd):∃cs,NdC (fun k=>A k∧k≠km∧k≠kl) h cs nd∧aLoad (CC W) h 100 (.new kl (i * 7))=some (.agg cs)∧∀j,j<7→aCell (CC W) h (.new kl (i * 7 + j))=cs[j]? :=by
  obtain ⟨css,a,b,c,d,e,f,g⟩:=hr
  have hil:=(List.getElem?_eq_some_iff.1 hi).1
  obtain ⟨cs,hcs⟩:∃cs,css[i]? =some cs:=⟨css[i]'(by omega),by simp⟩
  have hall:∀u∈css,u.length=7:=fun u hu=>by
    obtain ⟨q,hq⟩:=List.getElem?_of_mem hu
    have hql:=(List.getElem?_eq_some_iff.1 hq).1
    exact (b q u (M.nodes[q]'(by omega)) hq (by simp)).len
  obtain ⟨h1,h2⟩:=flatt_at css hall i cs hcs
  refine ⟨cs,b i cs nd hcs hi,?_,fun j hj=> ?_⟩
  · unfold aLoad
    rw [ty100]
    show (aCells (CC W) h (.new kl (i * 7)) 7).map AV.agg=_
    simp only [aCells,c,if_pos h1,h2]
    rfl
  · simp only [aCell,c]
    exact flatt_get css hall hcs hj
theorem box_rn {l:List AV}:aBox h 100 (.agg l)=some (.ptr (some (.new h.next 0)),h.push (.cells l 100)):=rfl
end
def SlotI (h1:AH) (nv:AV) (nm:List UInt8) (n:Nat) (p:Nat→Bool) (m:Nat) (e':Env) (h':AH):Prop:=
  e'.length=20∧h'=h1∧∃i:Nat,i + m=n∧(∀j,j<i→p j=false)∧(e'.getD 1 .undef= .str nm∧nv=e'.getD 8 .undef∧e'.getD 9 .undef= .int .i64 n∧e'.getD 10 .undef= .int .i64 i)
set_option maxHeartbeats 4000000 in
set_option maxRecDepth 20000 in
theorem slot_ret (W:World) (A:Nat→Prop) (h:AH) (cs:List AV) (nd:Nd) (hn:NdC A h cs nd) (nm:List UInt8) (hl:nd.slots.length<1000000000):
    RetK (CC W) 100 [.agg cs,.str nm] h (.int .i64 (placeR nd.slots nm)):=by
  refine jj9 (cc_ok W) (fn100 W) (by simp only [Tryz.f100]; rfl) rfl rfl ?_
  obtain ⟨iv,dv,nv,sv,rfl,_,_,hnv,_⟩:=hn
  have hbx:=box_rn (h:=h) (l:=[.int .i64 nd.kind,.int .i64 nd.links,.int .i64 nd.size,iv,dv,nv,sv])
  have hk1:=Keeps.push h (.cells [.int .i64 nd.kind,.int .i64 nd.links,.int .i64 nd.size,iv,dv,nv,sv] 100)
  have hg1:(h.push (.cells [.int .i64 nd.kind,.int .i64 nd.links,.int .i64 nd.size,iv,dv,nv,sv] 100)).get h.next=some (.cells [.int .i64 nd.kind,.int .i64 nd.links,.int .i64 nd.size,iv,dv,nv,sv] 100):=by simp
  generalize h.push (.cells [.int .i64 nd.kind,.int .i64 nd.links,.int .i64 nd.size,iv,dv,nv,sv] 100)=h1 at hbx hk1 hg1
  generalize h.next=kb at hbx hg1
  have hnv1:=hnv.keep hk1
  have hln:=hnv1.len (W:=W) (T:=37) (kind37 W) (h2:=h1)
  simp only [List.length_map] at hln
  simp [push_cast,hbx,fa100_5,ld37,ji9 hg1,jd9,hln]
  refine loopN (cc_ok W) (SlotI h1 nv nm nd.slots.length (fun i=>match nd.slots[i]? with | some s=>s.nm==nm | none=>false)) nd.slots.length ⟨by simp,rfl,0,by simp,fun j hj=>by omega,by simp⟩ ?_
  rintro m e' h' ⟨hlen',rfl,i,him,hno,hh⟩
  obtain ⟨a0,a1,a2,a3,a4,a5,a6,a7,a8,a9,rS0,rfl,hS0⟩:=un10 hlen'
  obtain ⟨a10,a11,a12,a13,a14,a15,a16,a17,a18,a19,rS10,rfl,hS10⟩:=un10 hS0
  obtain rfl:=un0 hS10
  clear hlen' hS0 hS10
  simp at hh
  obtain ⟨rfl,hv8,rfl,rfl⟩:=hh
  subst hv8
  by_cases hlt:i<nd.slots.length
  · have hlt':(i:Int)<(nd.slots.length:Int):=by omega
    have wi:IntKind.i64.wrap ((i:Int) + 1)=(i:Int) + 1:=wrap64 (by omega) (by omega)
    obtain ⟨s,hy⟩:∃s,nd.slots[i]? =some s:=⟨nd.slots[i],by simp [hlt]⟩
    obtain ⟨k,_,_,hix,hld⟩:=hnv1.at (W:=W) (T:=37) (kind37 W) (size9 W) (i:=i) (x:=s.nm) (by rw [List.getElem?_map,hy]; rfl)
    by_cases hb:s.nm=nm
    · simp [push_cast,hlt',hix,ld9,hld,aStr,hb]
      exact ⟨(fstI_some hlt (by simp [hy,hb]) hno).symm,hk1⟩
    · simp [push_cast,hlt',hix,ld9,hld,aStr,hb,wi]
      exact ⟨m - 1,by omega,by simp,rfl,i + 1,by omega,fun j hj=>by
        rcases Nat.lt_or_ge j i with h1 | h1
        · exact hno j h1
        · rw [show j=i by omega]; simp [hy,hb],by simp⟩
  · have hlt':¬(i:Int)<(nd.slots.length:Int):=by omega
    simp [push_cast,hlt']
    exact ⟨(fstI_none fun j hj=>hno j (by omega)).symm,hk1⟩
def RfdI (h:AH) (v mv:AV) (M:MS) (l:List (List UInt8)) (m:Nat) (e':Env) (h':AH):Prop:=
  e'.length=49∧∃(i q:Nat),i + m=l.length∧Keeps h h'∧q<M.nodes.length∧findR M (l.drop i) q=findR M l 0∧(mv=e'.getD 0 .undef∧e'.getD 6 .undef= .int .i64 q∧v=e'.getD 10 .undef∧e'.getD 11 .undef= .int .i64 l.length∧e'.getD 12 .undef= .int .i64 i)
set_option maxHeartbeats 8000000 in
set_option maxRecDepth 20000 in
theorem rfind_ret (W:World) (A:Nat→Prop) (h:AH) (km kl:Nat) (M:MS) (hr:RIs A h km kl M) (ok:MOk M) (hlen:∀nd∈M.nodes,nd.slots.length<1000000000) (v:AV) (l:List (List UInt8)) (hs:StrS W h v l) (hl:l.length<1000000000):
    RetK (CC W) 120 [.ptr (some (.new km 0)),v] h (.tup [.int .i64 (findR M l 0).1,.int .i64 (findR M l 0).2]):=by
  refine jj9 (cc_ok W) (fn120 W) (by simp only [Tryz.f120]; rfl) rfl rfl ?_
  obtain ⟨sa,sc,sg,rfl⟩:=hs.len
  have hlv:aLen (CC W) h 37 (.sl sa l.length sc sg)=some (.int .i64 l.length):=by simp [aLen,kind37]
  have hso:=ok.some
  have hfew:=ok.few
  simp [push_cast,hlv]
  refine loopN (cc_ok W) (RfdI h (.sl sa l.length sc sg) (.ptr (some (.new km 0))) M l) l.length ⟨by simp,0,0,by simp,Keeps.refl _,hso,by simp,by simp⟩ ?_
  rintro m e' h' ⟨hlen',i,q,him,hk,hq,hf,hh⟩
  obtain ⟨a0,a1,a2,a3,a4,a5,a6,a7,a8,a9,rS0,rfl,hS0⟩:=un10 hlen'
  obtain ⟨a10,a11,a12,a13,a14,a15,a16,a17,a18,a19,rS10,rfl,hS10⟩:=un10 hS0
  obtain ⟨a20,a21,a22,a23,a24,a25,a26,a27,a28,a29,rS20,rfl,hS20⟩:=un10 hS10
  obtain ⟨a30,a31,a32,a33,a34,a35,a36,a37,a38,a39,rS30,rfl,hS30⟩:=un10 hS20
  obtain ⟨a40,rS40,rfl,hS40⟩:=un1 hS30
  obtain ⟨a41,rS41,rfl,hS41⟩:=un1 hS40
  obtain ⟨a42,rS42,rfl,hS42⟩:=un1 hS41
  obtain ⟨a43,rS43,rfl,hS43⟩:=un1 hS42
  obtain ⟨a44,rS44,rfl,hS44⟩:=un1 hS43
  obtain ⟨a45,rS45,rfl,hS45⟩:=un1 hS44
  obtain ⟨a46,rS46,rfl,hS46⟩:=un1 hS45
  obtain ⟨a47,rS47,rfl,hS47⟩:=un1 hS46
  obtain ⟨a48,rS48,rfl,hS48⟩:=un1 hS47
  obtain rfl:=un0 hS48
  clear hlen' hS0 hS10 hS20 hS30 hS40 hS41 hS42 hS43 hS44 hS45 hS46 hS47 hS48
  simp at hh
  obtain ⟨hv0,rfl,hv10,rfl,rfl⟩:=hh
  subst hv0 hv10
  have hr':=hr.keep hk
  by_cases hlt:i<l.length
  · have hlt':(i:Int)<(l.length:Int):=by omega
    have wi:IntKind.i64.wrap ((i:Int) + 1)=(i:Int) + 1:=wrap64 (by omega) (by omega)
    obtain ⟨s,hx⟩:∃s,l[i]? =some s:=⟨l[i],by simp [hlt]⟩
    have hdrop:l.drop i=s::l.drop (i + 1):=by
      rw [List.drop_eq_getElem_cons hlt,(List.getElem?_eq_some_iff.1 hx).2]
    obtain ⟨a',hix,hld⟩:=(hs.keeps hk).at hx
    obtain ⟨nd,hnd⟩:∃nd,M.nodes[q]? =some nd:=⟨M.nodes[q],by simp [hq]⟩
    obtain ⟨cs,hnc,hldn,hcell⟩:=hr'.node (W:=W) hnd
    obtain ⟨iv,dv,nv,sv,rfl,_,_,hnv,hsv⟩:=_root_.id hnc
    have c0:=hcell 0 (by omega)
    have c6:=hcell 6 (by omega)
    simp at c0 c6
    obtain ⟨_,_,_,_,hgm,_⟩:=_root_.id hr'
    have hshort:=hlen nd (List.mem_of_getElem? hnd)
    rw [hdrop,findR_cons] at hf
    simp only [Int.toNat_natCast,hnd] at hf
    by_cases hkd:nd.kind=2
    · have hkd':(nd.kind !=2)=false:=by simpa using hkd
      simp only [hkd,if_true] at hf
      simp [push_cast,hlt,hlt',hix,hld,fa60_0,ld58,ji9 hgm,jd9,idx_rn hq,fa100_0,ld3,c0,hkd',hldn]
      refine jf9 (by simp [fn100]) (slot_ret W _ h' _ nd hnc s hshort) fun h2 hk2=> ?_
      have hr2:=hr'.keep hk2
      obtain ⟨_,_,_,_,hgm2,_⟩:=_root_.id hr2
      obtain ⟨cs2,hnc2,_,hcell2⟩:=hr2.node (W:=W) hnd
      obtain ⟨iv2,dv2,nv2,sv2,rfl,_,_,_,hsv2⟩:=_root_.id hnc2
      have d6:=hcell2 6 (by omega)
      simp at d6
      by_cases hp:placeR nd.slots s<0
      · simp only [hp,if_true] at hf
        simp [push_cast,hp]
        rw [←hf]
        exact ⟨⟨rfl,rfl⟩,hk.trans hk2⟩
      · simp only [hp,if_false] at hf
        obtain ⟨j,x,e,hxj,_⟩:=placeR_lt hp
        rw [e] at hf hp ⊢
        simp only [Int.toNat_natCast,hxj] at hf
        obtain ⟨o1,o2⟩:=ok.inos nd (List.mem_of_getElem? hnd) x (List.mem_of_getElem? hxj)
        obtain ⟨q2,hq2⟩:=Int.eq_ofNat_of_zero_le o1
        obtain ⟨k,_,_,hix2,hld2⟩:=hsv2.at (W:=W) (T:=53) (kind53 W) (size3 W) (i:=j) (x:=x.ino) (by rw [List.getElem?_map,hxj]; rfl)
        rw [hq2] at hld2 hf o2
        have hp':¬(j:Int)<0:=by omega
        simp [push_cast,hp',fa60_0,ld58,ji9 hgm2,jd9,idx_rn hq,fa100_6,ld53,ld3,d6,hix2,hld2,wi]
        exact ⟨m - 1,by omega,by simp,i + 1,q2,by omega,hk.trans hk2,by omega,hf,by simp⟩
    · have hkd':(nd.kind !=2)=true:=by simpa using hkd
      simp only [hkd,if_false] at hf
      simp [push_cast,hlt,hlt',hix,hld,fa60_0,ld58,ji9 hgm,jd9,idx_rn hq,fa100_0,ld3,c0,hkd']
      rw [←hf]
      exact ⟨⟨rfl,rfl⟩,hk⟩
  · have hlt':¬(i:Int)<(l.length:Int):=by omega
    have hdrop:l.drop i=[]:=List.drop_of_length_le (by omega)
    rw [hdrop] at hf
    simp only [findR] at hf
    simp [push_cast,hlt,hlt']
    rw [←hf]
    exact ⟨⟨rfl,rfl⟩,hk⟩
set_option maxHeartbeats 4000000 in
theorem last_ret (W:World) (h:AH) (v:AV) (l:List (List UInt8)) (hs:StrS W h v l) (hl:l.length<1000000000) (h0:l≠[]):
    RetK (CC W) 123 [v] h (.str (l.getLast?.getD [])):=by
  refine jj9 (cc_ok W) (fn123 W) (by simp only [Tryz.f123]; rfl) rfl rfl ?_
  obtain ⟨sa,sc,sg,rfl⟩:=hs.len
  have hlv:aLen (CC W) h 37 (.sl sa l.length sc sg)=some (.int .i64 l.length):=by simp [aLen,kind37]
  have hpos:0<l.length:=List.length_pos_iff.2 h0
  obtain ⟨N,hN⟩:∃N,l.length=N + 1:=⟨l.length - 1,by omega⟩
  have wi:IntKind.i64.wrap ((l.length:Int) - 1)=(N:Int):=by rw [wrap64 (by omega) (by omega)]; omega
  have hlast:l[N]? =some (l.getLast?.getD []):=by
    have:N=l.length - 1:=by omega
    rw [this, ←List.getLast?_eq_getElem?,List.getLast?_eq_some_getLast h0]; rfl
  obtain ⟨a',hix,hld⟩:=hs.at hlast
  simp [push_cast,hlv,wi,hix,hld]
  exact Keeps.refl _
set_option maxHeartbeats 4000000 in
theorem up_ret (W:World) (h:AH) (v:AV) (l:List (List UInt8)) (hs:StrS W h v l) (hl:l.length<1000000000) (h0:l≠[]):
    RetQ (CC W) 148 [v] h (fun w h'=>StrS W h' w l.dropLast):=by
  refine jj9 (cc_ok W) (fn148 W) (by simp only [Tryz.f148]; rfl) rfl rfl ?_
  obtain ⟨sa,sc,sg,rfl⟩:=hs.len
  have hlv:aLen (CC W) h 37 (.sl sa l.length sc sg)=some (.int .i64 l.length):=by simp [aLen,kind37]
  have hpos:0<l.length:=List.length_pos_iff.2 h0
  obtain ⟨N,hN⟩:∃N,l.length=N + 1:=⟨l.length - 1,by omega⟩
  have wi:IntKind.i64.wrap ((l.length:Int) - 1)=(N:Int):=by rw [wrap64 (by omega) (by omega)]; omega
  obtain ⟨v1,hv1,hs1⟩:=hs.slice (k:=N) (by omega)
  have:N=l.length - 1:=by omega
  have hd:l.take N=l.dropLast:=by rw [List.dropLast_eq_take,this]
  rw [hd] at hs1
  simp [push_cast,hlv,wi,hv1]
  exact ⟨Keeps.refl _,hs1⟩
section
variable {α:Type} {f:α→AV} {t T:TypeId} {A B:Nat→Prop} {h h':AH} {v:AV} {l:List α} {W:World}
theorem OwnL.set (ho:OwnL f t A h v l) (hk:(CC W).kind T= .slice t) (hs:(CC W).size t=some 1) {i:Nat} (hi:i<l.length) {x:α} (hx:aCellsOf (f x)=some [f x]) (hone:aOne (f x)=true):
    ∃k h',A k∧k<h.next∧(∃c,h.get k=some (.cells c t))∧aIndexAddr (CC W) T v (.int .i64 (i:Int))=some (.ptr (some (.new k i)))∧aStoreOp (CC W) h t (.ptr (some (.new k i))) (f x)=some h'∧OwnL f t A h' v (l.set i x)∧h'.next=h.next∧∀j,j≠k→h'.get j=h.get j:=by
  rcases ho with ⟨rfl,rfl⟩ | ⟨k,a,b,hne,hg,rfl⟩
  · simp at hi
  · refine ⟨k,h.set k (.cells ((l.map f).set i (f x)) t),a,b,⟨_,hg⟩,?_,?_,.inr ⟨k,a,by simpa using b,by simp [hne],by simp,by simp⟩,rfl,fun j hj=>by simp [hj]⟩
    · simp only [aIndexAddr,hk,hs]
      rw [if_pos (by omega)]
      simp [AA.add]
    · simp only [aStoreOp,hx,hs,aStore,hg]
      rw [if_pos (show [f x].length=1 from rfl),if_pos ⟨by simp; omega,by simp [hone]⟩,overlay_one (by simpa using hi)]
end
section
variable {W:World} {A:Nat→Prop} {h:AH} {km kl:Nat} {M:MS}
theorem overlay_flat {n:Nat} {cs:List AV} (hc:cs.length=n):∀(us:List (List AV)),(∀u∈us,u.length=n)→∀i,i<us.length→overlay us.flatten cs (i * n)=(us.set i cs).flatten
  | [],_,i,hi=>by simp at hi
  | u::us,hn,0,_=>by
    have hu:=hn u (by simp)
    simp only [overlay,List.flatten_cons,Nat.zero_mul,List.take_zero,List.nil_append,Nat.zero_add,List.set_cons_zero]
    rw [List.drop_left' (by rw [hu,hc])]
  | u::us,hn,i + 1,hi=>by
    have hu:=hn u (by simp)
    have ih:=overlay_flat hc us (fun w hw=>hn w (by simp [hw])) i (by simpa using hi)
    simp only [overlay] at ih
    have e:(i + 1) * n=n + i * n:=by rw [Nat.add_mul]; omega
    have e2:n + i * n + cs.length=n + (i * n + cs.length):=by omega
    simp only [overlay,List.flatten_cons,e,List.set_cons_succ]
    rw [←hu,List.take_length_add_append,List.append_assoc,List.append_assoc,hu,e2, ←hu,List.drop_length_add_append,hu, ←List.append_assoc (us.flatten.take (i * n)),ih]
def OffR (km kl:Nat) (h h':AH):Prop:=h.next≤h'.next∧∀j,j<h.next→j≠km→j≠kl→h'.get j=h.get j
theorem OffR.refl:OffR km kl h h:=⟨Nat.le_refl _,fun _ _ _ _=>rfl⟩
theorem OffR.ofKeeps {h':AH} (hk:Keeps h h'):OffR km kl h h':=⟨hk.1,fun j hj _ _=>hk.2 j hj⟩
theorem OffR.trans {h1 h2:AH} (a:OffR km kl h h1) (b:OffR km kl h1 h2):OffR km kl h h2:=⟨Nat.le_trans a.1 b.1,fun j hj h1 h2=>(b.2 j (Nat.lt_of_lt_of_le hj a.1) h1 h2).trans (a.2 j hj h1 h2)⟩
theorem MS.set_len {M:MS} {i:Nat} {nd:Nd}:(M.set i nd).nodes.length=M.nodes.length:=by simp [MS.set]
theorem RIs.setNode (hr:RIs A h km kl M) {i:Nat} (hi:i<M.nodes.length) {cs:List AV} {nd:Nd} (hn:NdC (fun k=>A k∧k≠km∧k≠kl) h cs nd):
    ∃h',aStoreOp (CC W) h 100 (.ptr (some (.new kl (i * 7)))) (.agg cs)=some h'∧RIs A h' km kl (M.set i nd)∧OffR km kl h h'∧h'.next=h.next:=by
  obtain ⟨css,a,b,c,d,e,f,g⟩:=hr
  have hall:∀u∈css,u.length=7:=fun u hu=>by
    obtain ⟨q,hq⟩:=List.getElem?_of_mem hu
    have hql:=(List.getElem?_eq_some_iff.1 hq).1
    exact (b q u (M.nodes[q]'(by omega)) hq (by simp)).len
  have hil:i<css.length:=by omega
  obtain ⟨h1,h2⟩:=flatt_at css hall i css[i] (by simp)
  refine ⟨h.set kl (.cells (css.set i cs).flatten 100),?_,?_,⟨Nat.le_refl _,fun j hj h1 h2=>by simp [h2]⟩,rfl⟩
  · simp only [aStoreOp,aCellsOf,size100,aStore,c]
    rw [if_pos hn.len,if_pos ⟨by rw [hn.len]; exact h1,hn.ones⟩,overlay_flat hn.len css hall i hil]
  · have hoff:∀k,(A k∧k≠km∧k≠kl)→k<h.next→(h.set kl (.cells (css.set i cs).flatten 100)).get k=h.get k:=fun k hk _=>by simp [hk.2.2]
    refine ⟨css.set i cs,by simp [MS.set,a],fun j cs' nd' h3 h4=> ?_,by simp,?_,by simpa using e,by simpa using f,g⟩
    · by_cases e:i=j
      · subst e
        rw [List.getElem?_set_self hil] at h3
        simp only [MS.set] at h4
        rw [List.getElem?_set_self hi] at h4
        cases h3; cases h4
        exact hn.off (Nat.le_refl _) hoff
      · rw [List.getElem?_set_ne e] at h3
        simp only [MS.set] at h4
        rw [List.getElem?_set_ne e] at h4
        exact (b j cs' nd' h3 h4).off (Nat.le_refl _) hoff
    · rw [MS.set_len]
      simp only [MS.set]
      rw [AH.get_set,if_neg g]
      exact d
theorem RIs.setLinks (hr:RIs A h km kl M) {i:Nat} {nd:Nd} (hi:M.nodes[i]? =some nd) (n:Int):
    ∃h',aStoreOp (CC W) h 3 (.ptr (some (.new kl (i * 7 + 1)))) (.int .i64 n)=some h'∧RIs A h' km kl (M.set i {nd with links:=n})∧OffR km kl h h'∧h'.next=h.next:=by
  obtain ⟨css,a,b,c,d,e,f,g⟩:=hr
  have hil:=(List.getElem?_eq_some_iff.1 hi).1
  have hall:∀u∈css,u.length=7:=fun u hu=>by
    obtain ⟨q,hq⟩:=List.getElem?_of_mem hu
    have hql:=(List.getElem?_eq_some_iff.1 hq).1
    exact (b q u (M.nodes[q]'(by omega)) hq (by simp)).len
  obtain ⟨cs,hcs⟩:∃cs,css[i]? =some cs:=⟨css[i]'(by omega),by simp⟩
  have hnc:=b i cs nd hcs hi
  obtain ⟨iv,dv,nv,sv,rfl,g1,g2,g3,g4⟩:=_root_.id hnc
  have hnc2:NdC (fun k=>A k∧k≠km∧k≠kl) h [.int .i64 nd.kind,.int .i64 n,.int .i64 nd.size,iv,dv,nv,sv] {nd with links:=n}:=⟨iv,dv,nv,sv,rfl,g1,g2,g3,g4⟩
  obtain ⟨h',hst,hr2,ho,hn⟩:=RIs.setNode (W:=W) (⟨css,a,b,c,d,e,f,g⟩:RIs A h km kl M) hil hnc2
  refine ⟨h',?_,hr2,ho,hn⟩
  obtain ⟨h1,h2⟩:=flatt_at css hall i _ hcs
  have hf:=overlay_flat (n:=7) (cs:=[.int .i64 nd.kind,.int .i64 n,.int .i64 nd.size,iv,dv,nv,sv]) rfl css hall i (by omega)
  simp only [aStoreOp,aCellsOf,size100,aStore,c] at hst
  rw [if_pos (show ([AV.int .i64 nd.kind,.int .i64 n,.int .i64 nd.size,iv,dv,nv,sv]:List AV).length=7 from rfl),if_pos ⟨h1,hnc2.ones⟩] at hst
  simp only [aStoreOp,aCellsOf,size3,aStore,c]
  rw [if_pos (show ([AV.int .i64 n]:List AV).length=1 from rfl),if_pos ⟨by show i * 7 + 1 + 1≤_; omega,rfl⟩, ←hst]
  congr 3
  rw [overlay_one (by omega)]
  rw [hf]
  have h3:css.flatten=(css.set i [.int .i64 nd.kind,.int .i64 nd.links,.int .i64 nd.size,iv,dv,nv,sv]).flatten:=by rw [set_sameL hcs]
  have hf2:=overlay_flat (n:=7) (cs:=[.int .i64 nd.kind,.int .i64 nd.links,.int .i64 nd.size,iv,dv,nv,sv]) rfl css hall i (by omega)
  rw [←hf]
  have hcc:(css.flatten.drop (i * 7)).take 7=[.int .i64 nd.kind,.int .i64 nd.links,.int .i64 nd.size,iv,dv,nv,sv]:=h2
  generalize css.flatten=F at *
  apply List.ext_getElem?
  intro j
  simp only [overlay,List.length_cons,List.length_nil]
  have hget:∀q,q<7→F[i * 7 + q]? =([.int .i64 nd.kind,.int .i64 nd.links,.int .i64 nd.size,iv,dv,nv,sv]:List AV)[q]? :=fun q hq=>by
    rw [←hcc,List.getElem?_take,if_pos hq,List.getElem?_drop]
  rcases Nat.lt_or_ge j (i * 7) with h5 | h5
  · rw [List.getElem?_set_ne (by omega),List.append_assoc,List.getElem?_append_left (by simp; omega),List.getElem?_take,if_pos h5]
  · obtain ⟨q,rfl⟩:∃q,j=i * 7 + q:=⟨j - i * 7,by omega⟩
    have htl:(F.take (i * 7)).length=i * 7:=by simp; omega
    rw [List.append_assoc,List.getElem?_append_right (by omega),htl,Nat.add_sub_cancel_left]
    rcases Nat.lt_or_ge q 7 with h6 | h6
    · rw [List.getElem?_append_left (by simpa using h6)]
      by_cases h7:q=1
      · subst h7
        rw [List.getElem?_set_self (by omega)]; rfl
      · rw [List.getElem?_set_ne (by omega),hget q h6]
        rcases (by omega:q=0∨q=2∨q=3∨q=4∨q=5∨q=6) with rfl | rfl | rfl | rfl | rfl | rfl<;>rfl
    · rw [List.getElem?_set_ne (by omega),List.getElem?_append_right (by simpa using h6),List.getElem?_drop]
      congr 1
      simp; omega
end
section
variable {W:World} {h:AH} {k:Nat} {a b c d e f g:AV} {t:TypeId} {p:Option AA} {n q:Nat} {gr:Option Nat}
theorem st_rn3 (hg:h.get k=some (.cells [a,b,c,d,e,f,g] t)):aStoreOp (CC W) h 53 (.ptr (some (.new k 3))) (.sl p n q gr)=some (h.set k (.cells [a,b,c,.sl p n q gr,e,f,g] t)):=by
  simp only [aStoreOp,aCellsOf,size53,aStore,hg]; rfl
theorem st_rn4 (hg:h.get k=some (.cells [a,b,c,d,e,f,g] t)):aStoreOp (CC W) h 37 (.ptr (some (.new k 4))) (.sl p n q gr)=some (h.set k (.cells [a,b,c,d,.sl p n q gr,f,g] t)):=by
  simp only [aStoreOp,aCellsOf,size37,aStore,hg]; rfl
theorem st_rn5 (hg:h.get k=some (.cells [a,b,c,d,e,f,g] t)):aStoreOp (CC W) h 37 (.ptr (some (.new k 5))) (.sl p n q gr)=some (h.set k (.cells [a,b,c,d,e,.sl p n q gr,g] t)):=by
  simp only [aStoreOp,aCellsOf,size37,aStore,hg]; rfl
theorem st_rn6 (hg:h.get k=some (.cells [a,b,c,d,e,f,g] t)):aStoreOp (CC W) h 53 (.ptr (some (.new k 6))) (.sl p n q gr)=some (h.set k (.cells [a,b,c,d,e,f,.sl p n q gr] t)):=by
  simp only [aStoreOp,aCellsOf,size53,aStore,hg]; rfl
theorem st_rn2 {x:Int} (hg:h.get k=some (.cells [a,b,c,d,e,f,g] t)):aStoreOp (CC W) h 3 (.ptr (some (.new k 2))) (.int .i64 x)=some (h.set k (.cells [a,b,.int .i64 x,d,e,f,g] t)):=by
  simp only [aStoreOp,aCellsOf,size3,aStore,hg]; rfl
theorem st_rn0 {x:Int} (hg:h.get k=some (.cells [a,b,c,d,e,f,g] t)):aStoreOp (CC W) h 3 (.ptr (some (.new k 0))) (.int .i64 x)=some (h.set k (.cells [.int .i64 x,b,c,d,e,f,g] t)):=by
  simp only [aStoreOp,aCellsOf,size3,aStore,hg]; rfl
theorem ld_rn (hg:h.get k=some (.cells [a,b,c,d,e,f,g] t)):aLoad (CC W) h 100 (.new k 0)=some (.agg [a,b,c,d,e,f,g]):=by
  unfold aLoad
  rw [ty100]
  show (aCells (CC W) h (.new k 0) 7).map AV.agg=_
  simp only [aCells,hg]
  rfl
theorem alloc_rn:aAlloc (CC W) h 100=some (.ptr (some (.new h.next 0)),h.push (.cells zN 100)):=rfl
theorem st_rnA {cs z:List AV} (hg:h.get k=some (.cells z t)) (hz:z.length=7) (hc:cs.length=7) (h1:cs.all aOne=true):aStoreOp (CC W) h 100 (.ptr (some (.new k 0))) (.agg cs)=some (h.set k (.cells cs t)):=by
  simp only [aStoreOp,aCellsOf,size100,aStore,hg]
  rw [if_pos hc,if_pos ⟨by omega,h1⟩]
  have:overlay z cs 0=cs:=by simp [overlay,hz,hc]
  rw [this]
end
def NdShort (nd:Nd):Prop:=(ixR nd).length<1000000000∧nd.slots.length<1000000000
set_option maxHeartbeats 8000000 in
set_option maxRecDepth 20000 in
theorem own_ret (W:World) (A:Nat→Prop) (h:AH) (cs:List AV) (nd:Nd) (hn:NdC A h cs nd) (hl:NdShort nd):
    RetQ (CC W) 87 [.agg cs] h (fun w h'=>∃cs',w= .agg cs'∧NdC (fun k=>h.next≤k) h' cs' nd):=by
  refine jj9 (cc_ok W) (fn87 W) (by simp only [Tryz.f87]; rfl) rfl rfl ?_
  obtain ⟨iv,dv,nv,sv,rfl,hi,hd,hnm,hsi⟩:=hn
  have hbx:=box_rn (h:=h) (l:=[.int .i64 nd.kind,.int .i64 nd.links,.int .i64 nd.size,iv,dv,nv,sv])
  have hk1:=Keeps.push h (.cells [.int .i64 nd.kind,.int .i64 nd.links,.int .i64 nd.size,iv,dv,nv,sv] 100)
  have hg1:(h.push (.cells [.int .i64 nd.kind,.int .i64 nd.links,.int .i64 nd.size,iv,dv,nv,sv] 100)).get h.next=some (.cells [.int .i64 nd.kind,.int .i64 nd.links,.int .i64 nd.size,iv,dv,nv,sv] 100):=by simp
  have hn1:h.next<(h.push (.cells [.int .i64 nd.kind,.int .i64 nd.links,.int .i64 nd.size,iv,dv,nv,sv] 100)).next:=by simp
  generalize h.push (.cells [.int .i64 nd.kind,.int .i64 nd.links,.int .i64 nd.size,iv,dv,nv,sv] 100)=h1 at hbx hk1 hg1 hn1
  obtain ⟨kb,hkb⟩:∃kb,kb=h.next:=⟨_,rfl⟩
  rw [←hkb] at hbx hg1 hn1
  have hal:=alloc_rn (W:=W) (h:=h1)
  have hk2:=Keeps.push h1 (.cells zN 100)
  have hz2:(h1.push (.cells zN 100)).get h1.next=some (.cells zN 100):=by simp
  have hn2:h1.next<(h1.push (.cells zN 100)).next:=by simp
  have hg2:=(hk2.2 kb hn1).trans hg1
  have hnb2:kb<(h1.push (.cells zN 100)).next:=Nat.lt_of_lt_of_le hn1 hk2.1
  generalize h1.push (.cells zN 100)=h2 at hal hk2 hz2 hn2 hg2 hnb2
  generalize hkz:h1.next=kz at hal hz2 hn2
  have hk02:=hk1.trans hk2
  have bi:(CC W).bytes 3=8:=_root_.id rfl
  have bs:(CC W).bytes 9=16:=_root_.id rfl
  obtain ⟨iv',h3,ap3,oi,hk3⟩:=(hi.keep hk02).copy (W:=W) (T:=53) (kind53 W) (size3 W) (zero3 W) bi (by omega) (_root_.id rfl) (fun _=>rfl) hl.1
  have hd3:=(hd.keep hk02).keep hk3
  obtain ⟨dv',h4,ap4,od,hk4⟩:=hd3.copy (W:=W) (T:=37) (kind37 W) (size9 W) (zero9 W) bs (by omega) (_root_.id rfl) (fun _=>rfl) (by simp [dtR]; exact hl.1)
  have hm4:=((hnm.keep hk02).keep hk3).keep hk4
  obtain ⟨nv',h5,ap5,on,hk5⟩:=hm4.copy (W:=W) (T:=37) (kind37 W) (size9 W) (zero9 W) bs (by omega) (_root_.id rfl) (fun _=>rfl) (by simp; exact hl.2)
  have hs5:=(((hsi.keep hk02).keep hk3).keep hk4).keep hk5
  obtain ⟨sv',h6,ap6,os,hk6⟩:=hs5.copy (W:=W) (T:=53) (kind53 W) (size3 W) (zero3 W) bi (by omega) (_root_.id rfl) (fun _=>rfl) (by simp; exact hl.2)
  have hg3:=(hk3.2 kb hnb2).trans hg2
  have hnb3:=Nat.lt_of_lt_of_le hnb2 hk3.1
  have hg4:=(hk4.2 kb hnb3).trans hg3
  have hnb4:=Nat.lt_of_lt_of_le hnb3 hk4.1
  have hg5:=(hk5.2 kb hnb4).trans hg4
  have hnb5:=Nat.lt_of_lt_of_le hnb4 hk5.1
  have hg6:=(hk6.2 kb hnb5).trans hg5
  have hnb6:=Nat.lt_of_lt_of_le hnb5 hk6.1
  have hk26:=(((hk3.trans hk4).trans hk5).trans hk6)
  have hz6:=(hk26.2 kz hn2).trans hz2
  obtain ⟨p1,m1,q1,g1,rfl⟩:=oi.isSl
  obtain ⟨p2,m2,q2,g2,rfl⟩:=od.isSl
  obtain ⟨p3,m3,q3,g3,rfl⟩:=on.isSl
  obtain ⟨p4,m4,q4,g4,rfl⟩:=os.isSl
  have hbz:kb≠kz:=by omega
  have s1:=st_rn3 (W:=W) (p:=p1) (n:=m1) (q:=q1) (gr:=g1) hg6
  have k1:(h6.set kb (.cells [.int .i64 nd.kind,.int .i64 nd.links,.int .i64 nd.size,.sl p1 m1 q1 g1,dv,nv,sv] 100)).get kb=some (.cells [.int .i64 nd.kind,.int .i64 nd.links,.int .i64 nd.size,.sl p1 m1 q1 g1,dv,nv,sv] 100):=by simp
  have s2:=st_rn4 (W:=W) (p:=p2) (n:=m2) (q:=q2) (gr:=g2) k1
  generalize hE7:h6.set kb (.cells [.int .i64 nd.kind,.int .i64 nd.links,.int .i64 nd.size,.sl p1 m1 q1 g1,dv,nv,sv] 100)=h7 at s1 s2 k1
  have k2:(h7.set kb (.cells [.int .i64 nd.kind,.int .i64 nd.links,.int .i64 nd.size,.sl p1 m1 q1 g1,.sl p2 m2 q2 g2,nv,sv] 100)).get kb=some (.cells [.int .i64 nd.kind,.int .i64 nd.links,.int .i64 nd.size,.sl p1 m1 q1 g1,.sl p2 m2 q2 g2,nv,sv] 100):=by simp
  have s3:=st_rn5 (W:=W) (p:=p3) (n:=m3) (q:=q3) (gr:=g3) k2
  generalize hE8:h7.set kb (.cells [.int .i64 nd.kind,.int .i64 nd.links,.int .i64 nd.size,.sl p1 m1 q1 g1,.sl p2 m2 q2 g2,nv,sv] 100)=h8 at s2 s3 k2
  have k3:(h8.set kb (.cells [.int .i64 nd.kind,.int .i64 nd.links,.int .i64 nd.size,.sl p1 m1 q1 g1,.sl p2 m2 q2 g2,.sl p3 m3 q3 g3,sv] 100)).get kb=some (.cells [.int .i64 nd.kind,.int .i64 nd.links,.int .i64 nd.size,.sl p1 m1 q1 g1,.sl p2 m2 q2 g2,.sl p3 m3 q3 g3,sv] 100):=by simp
  have s4:=st_rn6 (W:=W) (p:=p4) (n:=m4) (q:=q4) (gr:=g4) k3
  generalize hE9:h8.set kb (.cells [.int .i64 nd.kind,.int .i64 nd.links,.int .i64 nd.size,.sl p1 m1 q1 g1,.sl p2 m2 q2 g2,.sl p3 m3 q3 g3,sv] 100)=h9 at s3 s4 k3
  have k4:(h9.set kb (.cells [.int .i64 nd.kind,.int .i64 nd.links,.int .i64 nd.size,.sl p1 m1 q1 g1,.sl p2 m2 q2 g2,.sl p3 m3 q3 g3,.sl p4 m4 q4 g4] 100)).get kb=some (.cells [.int .i64 nd.kind,.int .i64 nd.links,.int .i64 nd.size,.sl p1 m1 q1 g1,.sl p2 m2 q2 g2,.sl p3 m3 q3 g3,.sl p4 m4 q4 g4] 100):=by simp
  have hset:∀q,q≠kb→(h9.set kb (.cells [.int .i64 nd.kind,.int .i64 nd.links,.int .i64 nd.size,.sl p1 m1 q1 g1,.sl p2 m2 q2 g2,.sl p3 m3 q3 g3,.sl p4 m4 q4 g4] 100)).get q=h6.get q:=fun q hq=>by
    rw [←hE9, ←hE8, ←hE7]; simp [hq]
  have hnx:(h9.set kb (.cells [.int .i64 nd.kind,.int .i64 nd.links,.int .i64 nd.size,.sl p1 m1 q1 g1,.sl p2 m2 q2 g2,.sl p3 m3 q3 g3,.sl p4 m4 q4 g4] 100)).next=h6.next:=by
    rw [←hE9, ←hE8, ←hE7]; simp
  generalize h9.set kb (.cells [.int .i64 nd.kind,.int .i64 nd.links,.int .i64 nd.size,.sl p1 m1 q1 g1,.sl p2 m2 q2 g2,.sl p3 m3 q3 g3,.sl p4 m4 q4 g4] 100)=hA at s4 k4 hset hnx
  have hld:=ld_rn (W:=W) k4
  have hzA:=(hset kz (Ne.symm hbz)).trans hz6
  have s5:=st_rnA (W:=W) (cs:=[.int .i64 nd.kind,.int .i64 nd.links,.int .i64 nd.size,.sl p1 m1 q1 g1,.sl p2 m2 q2 g2,.sl p3 m3 q3 g3,.sl p4 m4 q4 g4]) hzA rfl rfl rfl
  have hkz1:(hA.set kz (.cells [.int .i64 nd.kind,.int .i64 nd.links,.int .i64 nd.size,.sl p1 m1 q1 g1,.sl p2 m2 q2 g2,.sl p3 m3 q3 g3,.sl p4 m4 q4 g4] 100)).get kz=some (.cells [.int .i64 nd.kind,.int .i64 nd.links,.int .i64 nd.size,.sl p1 m1 q1 g1,.sl p2 m2 q2 g2,.sl p3 m3 q3 g3,.sl p4 m4 q4 g4] 100):=by simp
  have hldz:=ld_rn (W:=W) hkz1
  simp [push_cast,hbx,hal,fa100_3,fa100_4,fa100_5,fa100_6,ld53,ld37,ji9 hg2,ji9 hg3,ji9 hg4,ji9 hg5,jd9,ap3,ap4,ap5,ap6,s1,s2,s3,s4,hld,s5,hldz]
  have hk06:=hk02.trans hk26
  have hF:∀q,q≠kb→q≠kz→(hA.set kz (.cells [.int .i64 nd.kind,.int .i64 nd.links,.int .i64 nd.size,.sl p1 m1 q1 g1,.sl p2 m2 q2 g2,.sl p3 m3 q3 g3,.sl p4 m4 q4 g4] 100)).get q=h6.get q:=fun q h1 h2=>by simp [h2,hset q h1]
  have hlo:=hk1.1
  have hlo2:=hk2.1
  refine ⟨⟨by simp [hnx]; exact hk06.1,fun q hq=>by rw [hF q (by omega) (by omega)]; exact hk06.2 q hq⟩,_,_,_,_,rfl,?_,?_,?_,?_⟩
  · refine ((oi.keep (hk4.trans (hk5.trans hk6))).imp (B:=fun k=>h2.next≤k) fun k _ h=>h).off (by simp [hnx]) (fun k h1 _=>hF k (by omega) (by omega)) |>.imp fun k _ h=>by omega
  · refine ((od.keep (hk5.trans hk6)).imp (B:=fun k=>h2.next≤k) fun k _ h=>Nat.le_trans hk3.1 h).off (by simp [hnx]) (fun k h1 _=>hF k (by omega) (by omega)) |>.imp fun k _ h=>by omega
  · refine ((on.keep hk6).imp (B:=fun k=>h2.next≤k) fun k _ h=>Nat.le_trans (Nat.le_trans hk3.1 hk4.1) h).off (by simp [hnx]) (fun k h1 _=>hF k (by omega) (by omega)) |>.imp fun k _ h=>by omega
  · refine (os.imp (B:=fun k=>h2.next≤k) fun k _ h=>Nat.le_trans (Nat.le_trans (Nat.le_trans hk3.1 hk4.1) hk5.1) h).off (by simp [hnx]) (fun k h1 _=>hF k (by omega) (by omega)) |>.imp fun k _ h=>by omega
theorem OwnL.diff {α:Type} {f:α→AV} {t t':TypeId} {A:Nat→Prop} {h:AH} {v:AV} {l:List α} {j:Nat} {c:List AV} (ho:OwnL f t A h v l) (hg:h.get j=some (.cells c t')) (ht:t≠t'):∀k n c g,v= .sl (some (.new k 0)) n c g→j≠k:=fun k n c' g hv=>by
  rcases ho with ⟨_,rfl⟩ | ⟨k',_,_,_,hg',rfl⟩
  · cases hv
  · simp only [AV.sl.injEq,Option.some.injEq,AA.new.injEq] at hv
    rintro rfl
    rw [hv.1.1] at hg'
    rw [hg'] at hg
    simp at hg
    exact ht hg.2
theorem buildS_s {W:World} {h:AH} {x:List UInt8}:aBuildSlice (CC W) h 37 1 [(0,.str x)]=some (.sl (some (.new h.next 0)) 1 1 none,h.push (.cells [.str x] 9)):=by
  simp only [aBuildSlice,kind37,size9,zero9]; rfl
theorem buildS_i {W:World} {h:AH} {x:Int}:aBuildSlice (CC W) h 53 1 [(0,.int .i64 x)]=some (.sl (some (.new h.next 0)) 1 1 none,h.push (.cells [.int .i64 x] 3)):=by
  simp only [aBuildSlice,kind53,size3,zero3]; rfl
theorem bytes_s {W:World}:(CC W).bytes 9=16:=_root_.id rfl
theorem bytes_i {W:World}:(CC W).bytes 3=8:=_root_.id rfl
def ShortR (M:MS):Prop:=∀nd∈M.nodes,NdShort nd
theorem RIs.mod {A:Nat→Prop} {h:AH} {km kl:Nat} {M:MS} (hr:RIs A h km kl M):h.get km=some (.cells [.sl (some (.new kl 0)) M.nodes.length M.nodes.length (some 7),.int .i64 M.data] 60):=by
  obtain ⟨_,_,_,_,d,_⟩:=hr; exact d
theorem OwnL.none {α:Type} {f:α→AV} {t:TypeId} {A:Nat→Prop} {h:AH} {v:AV} (ho:OwnL f t A h v ([]:List α)):v= .sl none 0 0 none:=by
  rcases ho with ⟨_,h⟩ | ⟨k,_,_,h,_⟩
  · exact h
  · exact absurd rfl h
set_option maxHeartbeats 8000000 in
set_option maxRecDepth 20000 in
theorem rparent_ret (W:World) (A:Nat→Prop) (h:AH) (km kl:Nat) (M:MS) (hr:RIs A h km kl M) (ok:MOk M) (hsh:ShortR M) (v:AV) (l:List (List UInt8)) (hs:StrS W h v l) (hl:l.length<1000000000):
    RetK (CC W) 121 [.ptr (some (.new km 0)),v] h (.tup [.int .i64 (if (parentR M l).2=0 then (parentR M l).1 else 0),.int .i64 (parentR M l).2]):=by
  refine jj9 (cc_ok W) (fn121 W) (by simp only [Tryz.f121]; rfl) rfl rfl ?_
  obtain ⟨sa,sc,sg,rfl⟩:=hs.len
  have hlv:aLen (CC W) h 37 (.sl sa l.length sc sg)=some (.int .i64 l.length):=by simp [aLen,kind37]
  by_cases hl0:l=[]
  · subst hl0
    simp at hlv
    simp [push_cast,hlv,parentR]
    exact Keeps.refl _
  have hpos:0<l.length:=List.length_pos_iff.2 hl0
  have hne:((l.length:Int)==0)=false:=by simp only [beq_eq_false_iff_ne,ne_eq]; omega
  simp [push_cast,hlv,hne]
  refine jg9 (by simp [fn148]) (up_ret W h _ l hs hl hl0) fun v1 h1 hk1 hs1=> ?_
  simp [push_cast]
  refine jf9 (by simp [fn120]) (rfind_ret W A h1 km kl M (hr.keep hk1) ok (fun nd hn=>(hsh nd hn).2) v1 l.dropLast hs1 (by simp; omega)) fun h2 hk2=> ?_
  have hr2:=(hr.keep hk1).keep hk2
  have hs2:=(hs.keeps hk1).keeps hk2
  obtain ⟨b0,b1⟩:=findR_lt ok l.dropLast 0 (by omega) (by have:=ok.some; omega)
  unfold parentR
  rw [if_neg hl0]
  generalize findR M l.dropLast 0=fe at b0 b1 ⊢
  obtain ⟨fi,e⟩:=fe
  obtain ⟨q,rfl⟩:=Int.eq_ofNat_of_zero_le b0
  have hqn:q<M.nodes.length:=by simpa using b1
  obtain ⟨nd,hnd⟩:∃nd,M.nodes[q]? =some nd:=⟨M.nodes[q],by simp [hqn]⟩
  obtain ⟨cs,hnc,hldn,hcell⟩:=hr2.node (W:=W) hnd
  obtain ⟨iv,dv,nv,sv,rfl,_,_,hnv,hsv⟩:=_root_.id hnc
  have c0:=hcell 0 (by omega)
  simp at c0
  have hgm:=hr2.mod
  have hshort:=hsh nd (List.mem_of_getElem? hnd)
  by_cases h0:e=0
  case neg=>
    have h0':(e !=0)=true:=by simpa using h0
    simp [push_cast,h0,h0']
    exact hk1.trans hk2
  subst h0
  simp only [if_true,Int.toNat_natCast,hnd]
  by_cases hkd:nd.kind=2
  case neg=>
    have hkd':(nd.kind !=2)=true:=by simpa using hkd
    simp [push_cast,hkd,hkd',fa60_0,ld58,ji9 hgm,jd9,idx_rn hqn,fa100_0,ld3,c0]
    exact hk1.trans hk2
  have hkd':(nd.kind !=2)=false:=by simpa using hkd
  simp [push_cast,hkd,hkd',fa60_0,ld58,ji9 hgm,jd9,idx_rn hqn,fa100_0,ld3,c0]
  refine drawS [0,1,2,3,4,5,6,7,8,9,10] (by kernel_rfl) (by kernel_rfl) ?_
  simp [push_cast,zx9,zy9,SgO,opA,isE,isRead,fa60_0,ld58,ji9 hgm,jd9,idx_rn hqn,hldn]
  refine jb9 (f:=123) (args:=[.sl sa l.length sc sg]) (by rfl) (by rfl) (by rfl) (by simp [fn123]) (last_ret W h2 _ l hs2 hl hl0) fun w h3 ⟨hw3,hk3⟩=> ?_
  subst hw3
  have hr3:=hr2.keep hk3
  have hgm3:=hr3.mod
  obtain ⟨cs3,hnc3,hldn3,_⟩:=hr3.node (W:=W) hnd
  have hcs3:cs3=[.int .i64 nd.kind,.int .i64 nd.links,.int .i64 nd.size,iv,dv,nv,sv]:=by
    obtain ⟨_,_,_,hg2,_⟩:=hr2
    obtain ⟨_,_,_,hg3,_⟩:=hr3
    have h1:aLoad (CC W) h3 100 (.new kl (q * 7))=aLoad (CC W) h2 100 (.new kl (q * 7)):=by
      unfold aLoad
      rw [ty100]
      show (aCells (CC W) h3 (.new kl (q * 7)) 7).map AV.agg=(aCells (CC W) h2 (.new kl (q * 7)) 7).map AV.agg
      simp only [aCells]
      have:=hk3.2 kl (by
        obtain ⟨_,_,_,_,_,_,f,_⟩:=hr.keep (hk1.trans hk2); exact f)
      rw [this]
    rw [hldn,hldn3] at h1
    simpa using h1
  subst hcs3
  refine ⟨by simp [zz9,ja9,push_cast,opA,fa60_0,ld58,ji9 hgm3,jd9,idx_rn hqn,hldn3],?_⟩
  simp [push_cast,zx9,zy9,SgO,opA,isE,isRead]
  refine jb9 (f:=100) (args:=[.agg [.int .i64 nd.kind,.int .i64 nd.links,.int .i64 nd.size,iv,dv,nv,sv],.str (l.getLast?.getD [])]) (by rfl) (by rfl) (by rfl) (by simp [fn100]) (slot_ret W _ h3 _ nd hnc3 _ hshort.2) fun w h4 ⟨hw4,hk4⟩=> ?_
  subst hw4
  have hr4:=hr3.keep hk4
  have hgm4:=hr4.mod
  have hld4:aLoad (CC W) h4 100 (.new kl (q * 7))=some (.agg [.int .i64 nd.kind,.int .i64 nd.links,.int .i64 nd.size,iv,dv,nv,sv]):=by
    have h1:aLoad (CC W) h4 100 (.new kl (q * 7))=aLoad (CC W) h3 100 (.new kl (q * 7)):=by
      unfold aLoad
      rw [ty100]
      show (aCells (CC W) h4 (.new kl (q * 7)) 7).map AV.agg=(aCells (CC W) h3 (.new kl (q * 7)) 7).map AV.agg
      simp only [aCells]
      have:=hk4.2 kl (by
        obtain ⟨_,_,_,_,_,_,f,_⟩:=hr3; exact f)
      rw [this]
    rw [h1,hldn3]
  refine ⟨by simp [zz9,ja9,push_cast,opA,fa60_0,ld58,ji9 hgm4,jd9,idx_rn hqn,hld4],?_⟩
  have hkF:=((hk1.trans hk2).trans hk3).trans hk4
  by_cases hp:placeR nd.slots (l.getLast?.getD [])<0
  · have hp':¬0≤placeR nd.slots (l.getLast?.getD []):=by omega
    simp [push_cast,zx9,zy9,SgO,opA,isE,isRead,hp,hp']
    exact hkF
  · have hp':0≤placeR nd.slots (l.getLast?.getD []):=by omega
    simp [push_cast,zx9,zy9,SgO,opA,isE,isRead,hp,hp']
    exact hkF
theorem nd_box {W:World} (h:AH) {cs:List AV} (hl:cs.length=7) (h1:cs.all aOne=true):∃hp h2,aAlloc (CC W) h 100=some (.ptr (some (.new h.next 0)),hp)∧aStoreOp (CC W) hp 100 (.ptr (some (.new h.next 0))) (.agg cs)=some h2∧Keeps h h2∧h.next<h2.next∧h2.get h.next=some (.cells cs 100):=by
  have hst:=st_rnA (W:=W) (t:=100) (h:=h.push (.cells zN 100)) (k:=h.next) (z:=zN) (by simp) rfl hl h1
  exact ⟨_,_,alloc_rn,hst,(Keeps.push _ _).set (Nat.le_refl _) _,by simp,by simp⟩
def putQ (M:MS) (d:Nat) (nm:List UInt8) (a:Int):MS:=match M.nodes[d]? with
  | none=>M
  | some nd=>if 0≤placeR nd.slots [] then M.set d {nd with slots:=nd.slots.set (placeR nd.slots []).toNat ⟨nm,a⟩}
    else M.set d {nd with slots:=nd.slots ++ [⟨nm,a⟩],size:=nd.size + 32}
def RetU (W:World) (f:FuncId) (args:List AV) (h:AH) (A:Nat→Prop) (km kl:Nat) (P:AV→Prop) (M':MS):Prop:=ACall (CC W) f args h (fun w h'=>P w∧RIs A h' km kl M'∧OffR km kl h h') (fun _ _=>False)
set_option maxHeartbeats 16000000 in
set_option maxRecDepth 20000 in
theorem rput_ret (W:World) (A:Nat→Prop) (h:AH) (hA:∀k,h.next≤k→A k) (km kl:Nat) (M:MS) (hr:RIs A h km kl M) (hsh:ShortR M) (d:Nat) (nd:Nd) (hnd:M.nodes[d]? =some nd) (hix:ixR nd=[]) (hz:0≤nd.size∧nd.size<1000000000) (nm:List UInt8) (a:Int):
    RetU W 122 [.ptr (some (.new km 0)),.int .i64 d,.str nm,.int .i64 a] h A km kl (fun _=>True) (putQ M d nm a):=by
  refine jj9 (cc_ok W) (fn122 W) (by simp only [Tryz.f122]; rfl) rfl rfl ?_
  have hdn:=(List.getElem?_eq_some_iff.1 hnd).1
  have hgm:=hr.mod
  obtain ⟨cs,hnc,hldn,hcell⟩:=hr.node (W:=W) hnd
  have hshort:=hsh nd (List.mem_of_getElem? hnd)
  have hkm:km<h.next:=by obtain ⟨_,_,_,_,_,e,f,_⟩:=hr; exact e
  have hkl:kl<h.next:=by obtain ⟨_,_,_,_,_,e,f,_⟩:=hr; exact f
  simp [push_cast,fa60_0,ld58,ji9 hgm,jd9,idx_rn hdn,hldn]
  refine jg9 (by simp [fn87]) (own_ret W _ h cs nd hnc hshort) fun w h1 hk1 ⟨cs',hw,hn1⟩=> ?_
  subst hw
  obtain ⟨h1p,h2,hal,hst,hk2,hb2,hg2⟩:=nd_box (W:=W) h1 hn1.len hn1.ones
  obtain ⟨kb,hkb⟩:∃kb,kb=h1.next:=⟨_,rfl⟩
  rw [←hkb] at hal hst hg2 hb2
  have hkb1:h.next≤kb:=by rw [hkb]; exact hk1.1
  have hn2:=(hn1.imp (B:=fun k=>h.next≤k∧k<kb) fun k hk h0=>⟨h0,by omega⟩).keep hk2
  obtain ⟨iv,dv,nv,sv,rfl,oi,od,on,os⟩:=_root_.id hn2
  have od2:OwT (fun k=>h.next≤k∧k<kb) h2 dv (dtR nd):=od
  have hdt:dtR nd=[]:=by simp [dtR,hix]
  rw [hix] at oi
  rw [hdt] at od
  obtain rfl:=oi.none
  obtain rfl:=od.none
  have hldb:=ld_rn (W:=W) hg2
  simp [push_cast,hal,hst,hldb]
  refine jf9 (by simp [fn100]) (slot_ret W _ h2 _ nd hn2 [] hshort.2) fun h3 hk3=> ?_
  have hk03:=(hk1.trans hk2).trans hk3
  have hg3:=(hk3.2 kb hb2).trans hg2
  have hb3:kb<h3.next:=Nat.lt_of_lt_of_le hb2 hk3.1
  have on3:=on.keep hk3
  have os3:=os.keep hk3
  have fin:∀(h5:AH) (nd':Nd) (nv' sv':AV),Keeps h h5→h5.get kb=some (.cells [.int .i64 nd'.kind,.int .i64 nd'.links,.int .i64 nd'.size,.sl none 0 0 none,.sl none 0 0 none,nv',sv'] 100)→ixR nd'=[]→dtR nd'=[]→OwT (fun k=>h.next≤k) h5 nv' (nd'.slots.map (·.nm))→OwI (fun k=>h.next≤k) h5 sv' (nd'.slots.map (·.ino))→
      ∃h6,aStoreOp (CC W) h5 100 (.ptr (some (.new kl (d * 7)))) (.agg [.int .i64 nd'.kind,.int .i64 nd'.links,.int .i64 nd'.size,.sl none 0 0 none,.sl none 0 0 none,nv',sv'])=some h6∧RIs A h6 km kl (M.set d nd')∧OffR km kl h h6:=fun h5 nd' nv' sv' hk5 hg5 hi5 hd5 on5 os5=>by
    have hr5:=hr.keep hk5
    have hnc5:NdC (fun k=>A k∧k≠km∧k≠kl) h5 [.int .i64 nd'.kind,.int .i64 nd'.links,.int .i64 nd'.size,.sl none 0 0 none,.sl none 0 0 none,nv',sv'] nd':=⟨_,_,_,_,rfl,by rw [hi5]; exact .inl ⟨rfl,rfl⟩,by rw [hd5]; exact .inl ⟨rfl,rfl⟩,on5.imp fun k _ hk=>⟨hA k hk,by omega,by omega⟩,os5.imp fun k _ hk=>⟨hA k hk,by omega,by omega⟩⟩
    obtain ⟨h6,s1,s2,s3,_⟩:=hr5.setNode (W:=W) hdn hnc5
    exact ⟨h6,s1,s2,(OffR.ofKeeps hk5).trans s3⟩
  by_cases hp:0≤placeR nd.slots []
  · obtain ⟨j,x,e,hxj,_⟩:=placeR_lt (l:=nd.slots) (s:=[]) (by omega)
    have hjl:j<nd.slots.length:=(List.getElem?_eq_some_iff.1 hxj).1
    obtain ⟨kn,h4,an,_,⟨cn,hcn⟩,ixn,stn,on4,nx4,off4⟩:=on3.set (W:=W) (T:=37) (kind37 W) (size9 W) (i:=j) (by simpa using hjl) (x:=nm) rfl rfl
    have os4:OwI (fun k=>h.next≤k∧k<kb) h4 sv (nd.slots.map (·.ino)):=by
      rcases os3 with h0 | ⟨k,a1,a2,a3,a4,a5⟩
      · exact .inl h0
      · have:k≠kn:=fun e=>by rw [e,hcn] at a4; simp at a4
        exact .inr ⟨k,a1,by omega,a3,(off4 k this).trans a4,a5⟩
    obtain ⟨ks,h5,as',_,⟨cs5,hcs5⟩,ixs,sts,os5,nx5,off5⟩:=os4.set (W:=W) (T:=53) (kind53 W) (size3 W) (i:=j) (by simpa using hjl) (x:=a) rfl rfl
    have on5:OwT (fun k=>h.next≤k∧k<kb) h5 nv ((nd.slots.map (·.nm)).set j nm):=by
      rcases on4 with h0 | ⟨k,a1,a2,a3,a4,a5⟩
      · exact .inl h0
      · have:k≠ks:=fun e=>by rw [e,hcs5] at a4; simp at a4
        exact .inr ⟨k,a1,by omega,a3,(off5 k this).trans a4,a5⟩
    have hg4:=(off4 kb (by omega)).trans hg3
    have hg5:=(off5 kb (by omega)).trans hg4
    have hk5:Keeps h h5:=⟨by have:=hk03.1; omega,fun q hq=>by rw [off5 q (by omega),off4 q (by omega)]; exact hk03.2 q hq⟩
    have hnd':putQ M d nm a=M.set d {nd with slots:=nd.slots.set j ⟨nm,a⟩}:=by
      simp only [putQ,hnd,e,Int.toNat_natCast]
      rw [if_pos (by omega)]
    obtain ⟨h6,s1,s2,s3⟩:=fin h5 {nd with slots:=nd.slots.set j ⟨nm,a⟩} nv sv hk5 hg5 hix hdt (by
        have:=on5.imp (B:=fun k=>h.next≤k) fun k _ hk=>hk.1
        simpa [List.map_set] using this) (by
        have:=os5.imp (B:=fun k=>h.next≤k) fun k _ hk=>hk.1
        simpa [List.map_set] using this)
    have hgm5:=(hr.keep hk5).mod
    have hld5:=ld_rn (W:=W) hg5
    have hp':(0:Int)≤(j:Int):=by omega
    rw [hnd',e]
    simp [push_cast,hp',fa100_5,fa100_6,ld37,ld53,ji9 hg3,ji9 hg4,jd9,ixn,stn,ixs,sts]
    refine drawS [0,1,2,3,4,5,6,7] (by kernel_rfl) (by kernel_rfl) ?_
    simp [push_cast,zx9,zy9,SgO,opA,isE,isRead,fa60_0,ld58,ji9 hgm5,jd9,idx_rn hdn,hld5]
    refine jc9 (h':=h6) (v:= .undef) (by rfl) (by simp [push_cast,s1]) ⟨?_,?_⟩
    · simp only [zz9,ja9]; exact ⟨fun hr=>absurd hr (by decide),fun hr=>absurd hr (by decide),trivial⟩
    simp [zx9,zy9,SgO,opA,isE,isRead,push_cast]
    exact ⟨s2,s3⟩
  · have hnd':putQ M d nm a=M.set d {nd with slots:=nd.slots ++ [⟨nm,a⟩],size:=nd.size + 32}:=by
      simp only [putQ,hnd,if_neg hp]
    have hp':¬0≤placeR nd.slots []:=hp
    have hdif:(9:TypeId)≠3:=by decide
    have hsb:=hshort.2
    obtain ⟨nv',h4,ap4,on4,nx4,off4⟩:=on3.app1 (W:=W) (T:=37) (kind37 W) (size9 W) (zero9 W) bytes_s (by omega) (_root_.id rfl) (x:=nm) rfl (by simpa using hsb)
    have dkb:=on3.diff hg3 (by decide)
    have hg4:=(off4 kb hb3 dkb).trans hg3
    have os4:OwI (fun k=>h.next≤k∧k<kb) h4 sv (nd.slots.map (·.ino)):=by
      rcases os3 with h0 | ⟨k,a1,a2,a3,a4,a5⟩
      · exact .inl h0
      · exact .inr ⟨k,a1,by omega,a3,(off4 k a2 (on3.diff a4 (by decide))).trans a4,a5⟩
    obtain ⟨p3,m3,q3,g3,rfl⟩:=on4.isSl
    have s4:=st_rn5 (W:=W) (p:=p3) (n:=m3) (q:=q3) (gr:=g3) hg4
    have hg5:(h4.set kb (.cells [.int .i64 nd.kind,.int .i64 nd.links,.int .i64 nd.size,.sl none 0 0 none,.sl none 0 0 none,.sl p3 m3 q3 g3,sv] 100)).get kb=some (.cells [.int .i64 nd.kind,.int .i64 nd.links,.int .i64 nd.size,.sl none 0 0 none,.sl none 0 0 none,.sl p3 m3 q3 g3,sv] 100):=by simp
    have off5:∀j,j≠kb→(h4.set kb (.cells [.int .i64 nd.kind,.int .i64 nd.links,.int .i64 nd.size,.sl none 0 0 none,.sl none 0 0 none,.sl p3 m3 q3 g3,sv] 100)).get j=h4.get j:=fun j hj=>by simp [hj]
    have nx5:(h4.set kb (.cells [.int .i64 nd.kind,.int .i64 nd.links,.int .i64 nd.size,.sl none 0 0 none,.sl none 0 0 none,.sl p3 m3 q3 g3,sv] 100)).next=h4.next:=rfl
    generalize h4.set kb (.cells [.int .i64 nd.kind,.int .i64 nd.links,.int .i64 nd.size,.sl none 0 0 none,.sl none 0 0 none,.sl p3 m3 q3 g3,sv] 100)=h5 at s4 hg5 off5 nx5
    have on5:OwT (fun k=>h3.next≤k) h5 (.sl p3 m3 q3 g3) (nd.slots.map (·.nm) ++ [nm]):=on4.off (by omega) fun k hk _=>off5 k (by omega)
    have os5:OwI (fun k=>h.next≤k∧k<kb) h5 sv (nd.slots.map (·.ino)):=os4.off (by omega) fun k hk _=>off5 k (by omega)
    obtain ⟨sv',h6,ap6,os6,nx6,off6⟩:=os5.app1 (W:=W) (T:=53) (kind53 W) (size3 W) (zero3 W) bytes_i (by omega) (_root_.id rfl) (x:=a) rfl (by simpa using hsb)
    have hg6:=(off6 kb (by omega) (os5.diff hg5 (by decide))).trans hg5
    have on6:OwT (fun k=>h3.next≤k) h6 (.sl p3 m3 q3 g3) (nd.slots.map (·.nm) ++ [nm]):=by
      rcases on5 with h0 | ⟨k,a1,a2,a3,a4,a5⟩
      · exact .inl h0
      · exact .inr ⟨k,a1,by omega,a3,(off6 k a2 (os5.diff a4 (by decide))).trans a4,a5⟩
    obtain ⟨p4,m4,q4,g4,rfl⟩:=os6.isSl
    have s6:=st_rn6 (W:=W) (p:=p4) (n:=m4) (q:=q4) (gr:=g4) hg6
    have hg7:(h6.set kb (.cells [.int .i64 nd.kind,.int .i64 nd.links,.int .i64 nd.size,.sl none 0 0 none,.sl none 0 0 none,.sl p3 m3 q3 g3,.sl p4 m4 q4 g4] 100)).get kb=some (.cells [.int .i64 nd.kind,.int .i64 nd.links,.int .i64 nd.size,.sl none 0 0 none,.sl none 0 0 none,.sl p3 m3 q3 g3,.sl p4 m4 q4 g4] 100):=by simp
    have off7:∀j,j≠kb→(h6.set kb (.cells [.int .i64 nd.kind,.int .i64 nd.links,.int .i64 nd.size,.sl none 0 0 none,.sl none 0 0 none,.sl p3 m3 q3 g3,.sl p4 m4 q4 g4] 100)).get j=h6.get j:=fun j hj=>by simp [hj]
    have nx7:(h6.set kb (.cells [.int .i64 nd.kind,.int .i64 nd.links,.int .i64 nd.size,.sl none 0 0 none,.sl none 0 0 none,.sl p3 m3 q3 g3,.sl p4 m4 q4 g4] 100)).next=h6.next:=rfl
    generalize h6.set kb (.cells [.int .i64 nd.kind,.int .i64 nd.links,.int .i64 nd.size,.sl none 0 0 none,.sl none 0 0 none,.sl p3 m3 q3 g3,.sl p4 m4 q4 g4] 100)=h7 at s6 hg7 off7 nx7
    have s7:=st_rn2 (W:=W) (x:=nd.size + 32) hg7
    have hg8:(h7.set kb (.cells [.int .i64 nd.kind,.int .i64 nd.links,.int .i64 (nd.size + 32),.sl none 0 0 none,.sl none 0 0 none,.sl p3 m3 q3 g3,.sl p4 m4 q4 g4] 100)).get kb=some (.cells [.int .i64 nd.kind,.int .i64 nd.links,.int .i64 (nd.size + 32),.sl none 0 0 none,.sl none 0 0 none,.sl p3 m3 q3 g3,.sl p4 m4 q4 g4] 100):=by simp
    have off8:∀j,j≠kb→(h7.set kb (.cells [.int .i64 nd.kind,.int .i64 nd.links,.int .i64 (nd.size + 32),.sl none 0 0 none,.sl none 0 0 none,.sl p3 m3 q3 g3,.sl p4 m4 q4 g4] 100)).get j=h7.get j:=fun j hj=>by simp [hj]
    have nx8:(h7.set kb (.cells [.int .i64 nd.kind,.int .i64 nd.links,.int .i64 (nd.size + 32),.sl none 0 0 none,.sl none 0 0 none,.sl p3 m3 q3 g3,.sl p4 m4 q4 g4] 100)).next=h7.next:=rfl
    generalize h7.set kb (.cells [.int .i64 nd.kind,.int .i64 nd.links,.int .i64 (nd.size + 32),.sl none 0 0 none,.sl none 0 0 none,.sl p3 m3 q3 g3,.sl p4 m4 q4 g4] 100)=h8 at s7 hg8 off8 nx8
    have hlo:=hk03.1
    have hk8:Keeps h h8:=⟨by omega,fun q hq=>by
      have n1:q≠kb:=by omega
      rw [off8 q n1,off7 q n1,off6 q (by omega) (fun k n c g hv=>by
        rcases os5 with ⟨_,h0⟩ | ⟨k',a1,_,_,_,a5⟩
        · rw [h0] at hv; cases hv
        · rw [a5] at hv
          simp only [AV.sl.injEq,Option.some.injEq,AA.new.injEq] at hv
          omega),off5 q n1,off4 q (by omega) (fun k n c g hv=>by
        rcases on3 with ⟨_,h0⟩ | ⟨k',a1,_,_,_,a5⟩
        · rw [h0] at hv; cases hv
        · rw [a5] at hv
          simp only [AV.sl.injEq,Option.some.injEq,AA.new.injEq] at hv
          omega)]
      exact hk03.2 q hq⟩
    have on8:OwT (fun k=>h.next≤k) h8 (.sl p3 m3 q3 g3) (nd.slots.map (·.nm) ++ [nm]):=(on6.off (by omega) fun k hk _=>by rw [off8 k (by omega),off7 k (by omega)]).imp fun k _ hk=>by omega
    have os8:OwI (fun k=>h.next≤k) h8 (.sl p4 m4 q4 g4) (nd.slots.map (·.ino) ++ [a]):=(os6.off (by omega) fun k hk _=>by rw [off8 k (by omega),off7 k (by omega)]).imp fun k _ hk=>by omega
    obtain ⟨h9,t1,t2,t3⟩:=fin h8 {nd with slots:=nd.slots ++ [⟨nm,a⟩],size:=nd.size + 32} _ _ hk8 hg8 hix hdt (by simpa using on8) (by simpa using os8)
    have hgm8:=(hr.keep hk8).mod
    have hld8:=ld_rn (W:=W) hg8
    have wz:IntKind.i64.wrap (nd.size + 32)=nd.size + 32:=wrap64 (by omega) (by omega)
    rw [hnd']
    simp [push_cast,hp',fa100_2,fa100_5,fa100_6,ld37,ld53,ld3,ji9 hg3,ji9 hg5,ji9 hg7,jd9,buildS_s,ap4,s4,buildS_i,ap6,s6,wz,s7]
    refine drawS [0,1,2,3,4,5,6,7] (by kernel_rfl) (by kernel_rfl) ?_
    simp [push_cast,zx9,zy9,SgO,opA,isE,isRead,fa60_0,ld58,ji9 hgm8,jd9,idx_rn hdn,hld8]
    refine jc9 (h':=h9) (v:= .undef) (by rfl) (by simp [push_cast,t1]) ⟨?_,?_⟩
    · simp only [zz9,ja9]; exact ⟨fun hr=>absurd hr (by decide),fun hr=>absurd hr (by decide),trivial⟩
    simp [zx9,zy9,SgO,opA,isE,isRead,push_cast]
    exact ⟨t2,t3⟩
set_option maxHeartbeats 16000000 in
set_option maxRecDepth 20000 in
theorem rtake_ret (W:World) (A:Nat→Prop) (h:AH) (hA:∀k,h.next≤k→A k) (km kl:Nat) (M:MS) (hr:RIs A h km kl M) (ok:MOk M) (hsh:ShortR M) (v:AV) (l:List (List UInt8)) (hs:StrS W h v l) (hl:l.length<1000000000) (hl0:l≠[]) (d:Nat) (nd:Nd) (hnd:M.nodes[d]? =some nd) (hix:ixR nd=[]) (hfd:(findR M l.dropLast 0).1=(d:Int)) (j:Nat) (hj:placeR nd.slots (l.getLast?.getD [])=(j:Int)) (hjl:j<nd.slots.length):
    RetU W 125 [.ptr (some (.new km 0)),v] h A km kl (fun _=>True) (takeR M d j):=by
  refine jj9 (cc_ok W) (fn125 W) (by simp only [Tryz.f125]; rfl) rfl rfl ?_
  have hdn:=(List.getElem?_eq_some_iff.1 hnd).1
  have hshort:=hsh nd (List.mem_of_getElem? hnd)
  have hkm:km<h.next:=by obtain ⟨_,_,_,_,_,e,f,_⟩:=hr; exact e
  have hkl:kl<h.next:=by obtain ⟨_,_,_,_,_,e,f,_⟩:=hr; exact f
  simp [push_cast]
  refine jg9 (by simp [fn148]) (up_ret W h _ l hs hl hl0) fun v1 ha hka hs1=> ?_
  simp [push_cast]
  refine jf9 (by simp [fn120]) (rfind_ret W A ha km kl M (hr.keep hka) ok (fun nd hn=>(hsh nd hn).2) v1 l.dropLast hs1 (by simp; omega)) fun h0 hkb=> ?_
  have hk00:=hka.trans hkb
  have hr0:=hr.keep hk00
  have hs0:=hs.keeps hk00
  have hgm:=hr0.mod
  obtain ⟨cs,hnc,hldn,hcell⟩:=hr0.node (W:=W) hnd
  rw [hfd]
  simp [push_cast,fa60_0,ld58,ji9 hgm,jd9,idx_rn hdn,hldn]
  refine jg9 (by simp [fn87]) (own_ret W _ h0 cs nd hnc hshort) fun w h1 hk1 ⟨cs',hw,hn1⟩=> ?_
  subst hw
  obtain ⟨h1p,h2,hal,hst,hk2,hb2,hg2⟩:=nd_box (W:=W) h1 hn1.len hn1.ones
  obtain ⟨kb,hkb'⟩:∃kb,kb=h1.next:=⟨_,rfl⟩
  rw [←hkb'] at hal hst hg2 hb2
  have hkb1:h0.next≤kb:=by rw [hkb']; exact hk1.1
  have hn2:=(hn1.imp (B:=fun k=>h0.next≤k∧k<kb) fun k hk h0=>⟨h0,by omega⟩).keep hk2
  obtain ⟨iv,dv,nv,sv,rfl,oi,od,on,os⟩:=_root_.id hn2
  have hdt:dtR nd=[]:=by simp [dtR,hix]
  rw [hix] at oi
  rw [hdt] at od
  obtain rfl:=oi.none
  obtain rfl:=od.none
  have hldb:=ld_rn (W:=W) hg2
  have hs2:=(hs0.keeps hk1).keeps hk2
  simp [push_cast,hal,hst]
  refine drawS [0,1,2,3,4] (by kernel_rfl) (by kernel_rfl) ?_
  simp [push_cast,zx9,zy9,SgO,opA,isE,isRead,hldb]
  refine jb9 (f:=123) (args:=[v]) (by rfl) (by rfl) (by rfl) (by simp [fn123]) (last_ret W h2 _ l hs2 hl hl0) fun w h2b ⟨hw3,hk2b⟩=> ?_
  subst hw3
  have hg2b:=(hk2b.2 kb hb2).trans hg2
  have hb2b:kb<h2b.next:=Nat.lt_of_lt_of_le hb2 hk2b.1
  have hldb2:=ld_rn (W:=W) hg2b
  refine ⟨by simp [zz9,ja9,push_cast,opA,hldb2],?_⟩
  simp [push_cast,zx9,zy9,SgO,opA,isE,isRead]
  refine jb9 (f:=100) (args:=[.agg [.int .i64 nd.kind,.int .i64 nd.links,.int .i64 nd.size,.sl none 0 0 none,.sl none 0 0 none,nv,sv],.str (l.getLast?.getD [])]) (by rfl) (by rfl) (by rfl) (by simp [fn100]) (slot_ret W _ h2b _ nd (hn2.keep hk2b) _ hshort.2) fun w h3 ⟨hw4,hk3'⟩=> ?_
  subst hw4
  have hk3:=hk2b.trans hk3'
  have hg3x:=(hk3'.2 kb hb2b).trans hg2b
  have hldb3:=ld_rn (W:=W) hg3x
  refine ⟨by simp [zz9,ja9,push_cast,opA,hldb3],?_⟩
  simp [push_cast,zx9,zy9,SgO,opA,isE,isRead,hj]
  have hk03:=(hk1.trans hk2).trans hk3
  clear hg3x
  have hg3:=(hk3.2 kb hb2).trans hg2
  have hb3:kb<h3.next:=Nat.lt_of_lt_of_le hb2 hk3.1
  have on3:=on.keep hk3
  have os3:=os.keep hk3
  have fin:∀(h5:AH) (nd':Nd) (nv' sv':AV),Keeps h0 h5→h5.get kb=some (.cells [.int .i64 nd'.kind,.int .i64 nd'.links,.int .i64 nd'.size,.sl none 0 0 none,.sl none 0 0 none,nv',sv'] 100)→ixR nd'=[]→dtR nd'=[]→OwT (fun k=>h0.next≤k) h5 nv' (nd'.slots.map (·.nm))→OwI (fun k=>h0.next≤k) h5 sv' (nd'.slots.map (·.ino))→
      ∃h6,aStoreOp (CC W) h5 100 (.ptr (some (.new kl (d * 7)))) (.agg [.int .i64 nd'.kind,.int .i64 nd'.links,.int .i64 nd'.size,.sl none 0 0 none,.sl none 0 0 none,nv',sv'])=some h6∧RIs A h6 km kl (M.set d nd')∧OffR km kl h0 h6:=fun h5 nd' nv' sv' hk5 hg5 hi5 hd5 on5 os5=>by
    have hr5:=hr0.keep hk5
    have hnc5:NdC (fun k=>A k∧k≠km∧k≠kl) h5 [.int .i64 nd'.kind,.int .i64 nd'.links,.int .i64 nd'.size,.sl none 0 0 none,.sl none 0 0 none,nv',sv'] nd':=⟨_,_,_,_,rfl,by rw [hi5]; exact .inl ⟨rfl,rfl⟩,by rw [hd5]; exact .inl ⟨rfl,rfl⟩,on5.imp fun k _ hk=>⟨hA k (Nat.le_trans hk00.1 hk),by have:=hk00.1; omega,by have:=hk00.1; omega⟩,os5.imp fun k _ hk=>⟨hA k (Nat.le_trans hk00.1 hk),by have:=hk00.1; omega,by have:=hk00.1; omega⟩⟩
    obtain ⟨h6,s1,s2,s3,_⟩:=hr5.setNode (W:=W) hdn hnc5
    exact ⟨h6,s1,s2,(OffR.ofKeeps hk5).trans s3⟩
  · obtain ⟨kn,h4,an,_,⟨cn,hcn⟩,ixn,stn,on4,nx4,off4⟩:=on3.set (W:=W) (T:=37) (kind37 W) (size9 W) (i:=j) (by simpa using hjl) (x:=[]) rfl rfl
    have os4:OwI (fun k=>h0.next≤k∧k<kb) h4 sv (nd.slots.map (·.ino)):=by
      rcases os3 with h0 | ⟨k,a1,a2,a3,a4,a5⟩
      · exact .inl h0
      · have:k≠kn:=fun e=>by rw [e,hcn] at a4; simp at a4
        exact .inr ⟨k,a1,by omega,a3,(off4 k this).trans a4,a5⟩
    obtain ⟨ks,h5,as',_,⟨cs5,hcs5⟩,ixs,sts,os5,nx5,off5⟩:=os4.set (W:=W) (T:=53) (kind53 W) (size3 W) (i:=j) (by simpa using hjl) (x:=0) rfl rfl
    have on5:OwT (fun k=>h0.next≤k∧k<kb) h5 nv ((nd.slots.map (·.nm)).set j []):=by
      rcases on4 with h0 | ⟨k,a1,a2,a3,a4,a5⟩
      · exact .inl h0
      · have:k≠ks:=fun e=>by rw [e,hcs5] at a4; simp at a4
        exact .inr ⟨k,a1,by omega,a3,(off5 k this).trans a4,a5⟩
    have hg4:=(off4 kb (by omega)).trans hg3
    have hg5:=(off5 kb (by omega)).trans hg4
    have hk5:Keeps h0 h5:=⟨by have:=hk03.1; omega,fun q hq=>by rw [off5 q (by omega),off4 q (by omega)]; exact hk03.2 q hq⟩
    have hnd':takeR M d j=M.set d {nd with slots:=nd.slots.set j ⟨[],0⟩}:=by
      simp only [takeR,hnd]
    obtain ⟨h6,s1,s2,s3⟩:=fin h5 {nd with slots:=nd.slots.set j ⟨[],0⟩} nv sv hk5 hg5 hix hdt (by
        have:=on5.imp (B:=fun k=>h0.next≤k) fun k _ hk=>hk.1
        simpa [List.map_set] using this) (by
        have:=os5.imp (B:=fun k=>h0.next≤k) fun k _ hk=>hk.1
        simpa [List.map_set] using this)
    have hgm5:=(hr0.keep hk5).mod
    have hld5:=ld_rn (W:=W) hg5
    rw [hnd']
    simp [push_cast,fa100_5,fa100_6,ld37,ld53,ji9 hg3,ji9 hg4,jd9,ixn,stn,ixs,sts]
    refine drawS [0,1,2,3,4,5,6,7] (by kernel_rfl) (by kernel_rfl) ?_
    simp [push_cast,zx9,zy9,SgO,opA,isE,isRead,fa60_0,ld58,ji9 hgm5,jd9,idx_rn hdn,hld5]
    refine jc9 (h':=h6) (v:= .undef) (by rfl) (by simp [push_cast,s1]) ⟨?_,?_⟩
    · simp only [zz9,ja9]; exact ⟨fun hr=>absurd hr (by decide),fun hr=>absurd hr (by decide),trivial⟩
    simp [zx9,zy9,SgO,opA,isE,isRead,push_cast]
    exact ⟨s2,(OffR.ofKeeps hk00).trans s3⟩
theorem StrS.offR {W:World} {A:Nat→Prop} {h h':AH} {km kl:Nat} {M:MS} {v:AV} {l:List (List UInt8)} (hs:StrS W h v l) (hr:RIs A h km kl M) (ho:OffR km kl h h'):StrS W h' v l:=by
  obtain ⟨css,_,_,hgl,hgm,_⟩:=hr
  obtain ⟨a,c,gr,hv,hcl,hc⟩:=hs
  refine ⟨a,c,gr,hv,hcl,fun k x hx=> ?_⟩
  obtain ⟨a',ha,hb,hcell,ht⟩:=hc k x hx
  cases a' with
  | base b o=>exact ⟨_,ha,trivial,hcell,trivial⟩
  | new j o=>
    obtain ⟨cs,htx⟩:=ht
    have h1:j≠kl:=by
      rintro rfl
      rw [htx] at hgl; simp at hgl
    have h2:j≠km:=by
      rintro rfl
      rw [htx] at hgm; simp at hgm
    have h3:=ho.2 j hb h2 h1
    refine ⟨_,ha,Nat.lt_of_lt_of_le hb ho.1,?_,⟨cs,h3.trans htx⟩⟩
    simp only [AA.add,aCell] at hcell ⊢
    rw [h3]; exact hcell
structure ROk (M:MS):Prop where
  ok:MOk M
  sh:ShortR M
  dir:∀nd∈M.nodes,nd.kind=2→ixR nd=[]∧0≤nd.size∧nd.size<1000000000
theorem ShortR.set {M:MS} (hs:ShortR M) {i:Nat} {nd:Nd} (hn:NdShort nd):ShortR (M.set i nd):=fun x hx=>by
  simp only [MS.set] at hx
  rcases List.mem_or_eq_of_mem_set hx with h | rfl
  · exact hs x h
  · exact hn
theorem MS.set_other {M:MS} {i d:Nat} {nd:Nd} (h:i≠d):(M.set i nd).nodes[d]? =M.nodes[d]? :=by
  simp only [MS.set]; rw [List.getElem?_set_ne h]
theorem ix_new (k l:Int) (b:Option Blk) (hb:b.getD []=[]):ixR ⟨k,l,0,b,[]⟩=[]:=by
  simp only [ixR,hb]; rfl
theorem ndc_new {A:Nat→Prop} {h:AH} (k l:Int) (b:Option Blk) (hb:b.getD []=[]):NdC A h [.int .i64 k,.int .i64 l,.int .i64 0,.sl none 0 0 none,.sl none 0 0 none,.sl none 0 0 none,.sl none 0 0 none] ⟨k,l,0,b,[]⟩:=by
  have h1:=ix_new k l b hb
  exact ⟨_,_,_,_,rfl,by rw [h1]; exact .inl ⟨rfl,rfl⟩,by simp only [dtR,h1]; exact .inl ⟨rfl,rfl⟩,.inl ⟨rfl,rfl⟩,.inl ⟨rfl,rfl⟩⟩
theorem short_new (k l:Int) (b:Option Blk) (hb:b.getD []=[]):NdShort ⟨k,l,0,b,[]⟩:=by
  refine ⟨?_,?_⟩
  · rw [ix_new k l b hb]; simp
  · simp
def createQ (M:MS) (kd:Int) (l:List (List UInt8)):Int×MS:=
  if (parentR M l).2=0 then
    if freeR M<0 then (306,M)
    else (0,putQ (M.set (freeR M).toNat (if kd=2 then newDir else newFile)) (parentR M l).1.toNat (l.getLast?.getD []) (freeR M))
  else ((parentR M l).2,M)
def CrI (h1:AH) (km:Nat) (kd:Int) (v:AV) (d:Nat) (M:MS) (n:Nat) (e':Env) (h':AH):Prop:=
  e'.length=64∧h'=h1∧∃i:Nat,i + n=M.nodes.length∧(∀j,j<i→(match M.nodes[j]? with | some nd=>nd.kind==0 | none=>false)=false)∧(e'.getD 0 .undef= .ptr (some (.new km 0))∧e'.getD 1 .undef= .int .i64 kd∧v=e'.getD 2 .undef∧e'.getD 7 .undef= .int .i64 d∧e'.getD 9 .undef= .int .i64 i)
theorem build_rn1 {W:World}:aBuild (CC W) 100 [(0,.int .i64 1),(1,.int .i64 1)]=some (.agg [.int .i64 1,.int .i64 1,.int .i64 0,.sl none 0 0 none,.sl none 0 0 none,.sl none 0 0 none,.sl none 0 0 none]):=rfl
set_option maxHeartbeats 16000000 in
set_option maxRecDepth 20000 in
theorem rcreate_ret (W:World) (A:Nat→Prop) (h:AH) (hA:∀k,h.next≤k→A k) (km kl:Nat) (M:MS) (hr:RIs A h km kl M) (ro:ROk M) (kd:Int) (v:AV) (l:List (List UInt8)) (hs:StrS W h v l) (hl:l.length<1000000000):
    RetU W 92 [.ptr (some (.new km 0)),.int .i64 kd,v] h A km kl (fun w=>w= .int .i64 (createQ M kd l).1) (createQ M kd l).2:=by
  refine jj9 (cc_ok W) (fn92 W) (by simp only [Tryz.f92]; rfl) rfl rfl ?_
  have hfew:=ro.ok.few
  have hkm:km<h.next:=by obtain ⟨_,_,_,_,_,e,f,_⟩:=hr; exact e
  have hkl:kl<h.next:=by obtain ⟨_,_,_,_,_,e,f,_⟩:=hr; exact f
  simp [push_cast]
  refine jf9 (by simp [fn121]) (rparent_ret W A h km kl M hr ro.ok ro.sh v l hs hl) fun h1 hk1=> ?_
  have hr1:=hr.keep hk1
  have hs1:=hs.keeps hk1
  unfold createQ
  by_cases he:(parentR M l).2=0
  case neg=>
    have he':((parentR M l).2 !=0)=true:=by simpa using he
    simp [push_cast,he,he']
    exact ⟨hr1,OffR.ofKeeps hk1⟩
  obtain ⟨hl0,d,nd,hpd,hnd,hkd,hpl,hfd⟩:=parentR_ok ro.ok he
  rw [if_pos he,hpd,Int.toNat_natCast]
  have hgm:=hr1.mod
  have hlenL:aLen (CC W) h1 58 (.sl (some (.new kl 0)) M.nodes.length M.nodes.length (some 7))=some (.int .i64 M.nodes.length):=by simp [aLen,kind58]
  simp [push_cast,he]
  refine loopN (cc_ok W) (CrI h1 km kd v d M) M.nodes.length ⟨by simp,rfl,0,by simp,fun j hj=>by omega,by simp⟩ ?_
  rintro n e' h' ⟨hlen',rfl,i,him,hno,hh⟩
  obtain ⟨a0,a1,a2,a3,a4,a5,a6,a7,a8,a9,rS0,rfl,hS0⟩:=un10 hlen'
  obtain ⟨a10,a11,a12,a13,a14,a15,a16,a17,a18,a19,rS10,rfl,hS10⟩:=un10 hS0
  obtain ⟨a20,a21,a22,a23,a24,a25,a26,a27,a28,a29,rS20,rfl,hS20⟩:=un10 hS10
  obtain ⟨a30,a31,a32,a33,a34,a35,a36,a37,a38,a39,rS30,rfl,hS30⟩:=un10 hS20
  obtain ⟨a40,a41,a42,a43,a44,a45,a46,a47,a48,a49,rS40,rfl,hS40⟩:=un10 hS30
  obtain ⟨a50,a51,a52,a53,a54,a55,a56,a57,a58,a59,rS50,rfl,hS50⟩:=un10 hS40
  obtain ⟨a60,rS60,rfl,hS60⟩:=un1 hS50
  obtain ⟨a61,rS61,rfl,hS61⟩:=un1 hS60
  obtain ⟨a62,rS62,rfl,hS62⟩:=un1 hS61
  obtain ⟨a63,rS63,rfl,hS63⟩:=un1 hS62
  obtain rfl:=un0 hS63
  clear hlen' hS0 hS10 hS20 hS30 hS40 hS50 hS60 hS61 hS62 hS63
  simp at hh
  obtain ⟨rfl,rfl,hv2,rfl,rfl⟩:=hh
  subst hv2
  by_cases hlt:i<M.nodes.length
  case neg=>
    have hlt':¬(i:Int)<(M.nodes.length:Int):=by omega
    have hie:((i:Int)==(M.nodes.length:Int))=true:=by simp only [beq_iff_eq]; omega
    have hfr:freeR M= -1:=fstI_none fun j hj=>hno j (by omega)
    have hfn:freeR M<0:=by omega
    simp [push_cast,hlt',fa60_0,ld58,ji9 hgm,jd9,hlenL,hie,hfn]
    exact ⟨hr1,OffR.ofKeeps hk1⟩
  have hlt':(i:Int)<(M.nodes.length:Int):=by omega
  have wi:IntKind.i64.wrap ((i:Int) + 1)=(i:Int) + 1:=wrap64 (by omega) (by omega)
  obtain ⟨ndi,hndi⟩:∃ndi,M.nodes[i]? =some ndi:=⟨M.nodes[i],by simp [hlt]⟩
  obtain ⟨csi,hnci,_,hcelli⟩:=hr1.node (W:=W) hndi
  obtain ⟨iv,dv,nv,sv,rfl,_⟩:=_root_.id hnci
  have c0:=hcelli 0 (by omega)
  simp at c0
  by_cases hki:ndi.kind=0
  case neg=>
    have hki':(ndi.kind !=0)=true:=by simpa using hki
    simp [push_cast,hlt',fa60_0,ld58,ji9 hgm,jd9,hlenL,idx_rn hlt,fa100_0,ld3,c0,hki',wi]
    exact ⟨n - 1,by omega,by simp,rfl,i + 1,by omega,fun j hj=>by
      rcases Nat.lt_or_ge j i with h1 | h1
      · exact hno j h1
      · rw [show j=i by omega]; simp [hndi,hki],by simp⟩
  have hki':(ndi.kind !=0)=false:=by simpa using hki
  have hfr:freeR M=(i:Int):=fstI_some hlt (by simp [hndi,hki]) hno
  have hfn:¬freeR M<0:=by omega
  have hie:((i:Int)==(M.nodes.length:Int))=false:=by simp only [beq_eq_false_iff_ne,ne_eq]; omega
  have hid:i≠d:=by
    rintro rfl
    rw [hnd] at hndi; cases hndi
    rw [hki] at hkd; cases hkd
  rw [if_neg hfn,hfr,Int.toNat_natCast]
  obtain ⟨hixd,hz⟩:=ro.dir nd (List.mem_of_getElem? hnd) hkd
  have rest:∀(h5:AH) (kb:Nat) (x:Nd) (k:Int),x=⟨k,1,0,x.blocks,[]⟩→x.blocks.getD []=[]→Keeps h' h5→h5.get kb=some (.cells [.int .i64 k,.int .i64 1,.int .i64 0,.sl none 0 0 none,.sl none 0 0 none,.sl none 0 0 none,.sl none 0 0 none] 100)→
      ∃h6,aStoreOp (CC W) h5 100 (.ptr (some (.new kl (i * 7)))) (.agg [.int .i64 k,.int .i64 1,.int .i64 0,.sl none 0 0 none,.sl none 0 0 none,.sl none 0 0 none,.sl none 0 0 none])=some h6∧RIs A h6 km kl (M.set i x)∧OffR km kl h' h6∧h6.next=h5.next∧StrS W h6 v l:=fun h5 kb x k hx hxb hk5 hg5=>by
    have hnc:NdC (fun k=>A k∧k≠km∧k≠kl) h5 [.int .i64 k,.int .i64 1,.int .i64 0,.sl none 0 0 none,.sl none 0 0 none,.sl none 0 0 none,.sl none 0 0 none] x:=by
      rw [hx]; exact ndc_new k 1 _ hxb
    obtain ⟨h6,s1,s2,s3,s4⟩:=(hr1.keep hk5).setNode (W:=W) hlt hnc
    exact ⟨h6,s1,s2,(OffR.ofKeeps hk5).trans s3,s4,hs1.offR hr1 ((OffR.ofKeeps hk5).trans s3)⟩
  have hgm:=hr1.mod
  have hnx:=hk1.1
  have tail:∀(h6:AH) (x:Nd),RIs A h6 km kl (M.set i x)→OffR km kl h' h6→NdShort x→ACall (CC W) 122 [.ptr (some (.new km 0)),.int .i64 d,.str (l.getLast?.getD []),.int .i64 i] h6 (fun _ h7=>RIs A h7 km kl (putQ (M.set i x) d (l.getLast?.getD []) i)∧OffR km kl h h7) (fun _ _=>False):=fun h6 x hr6 ho6 hsx=>by
    refine (rput_ret W A h6 (fun k hk=>hA k (by have:=ho6.1; omega)) km kl (M.set i x) hr6 (ro.sh.set hsx) d nd (by rw [MS.set_other hid]; exact hnd) hixd hz _ _).mono (fun w h7 hw=>⟨hw.2.1,((OffR.ofKeeps hk1).trans ho6).trans hw.2.2⟩) fun _ _ h=>h
  obtain ⟨h5p,h5,hal,hst,hk5,hb5,hg5⟩:=nd_box (W:=W) h' (cs:=[.int .i64 1,.int .i64 1,.int .i64 0,.sl none 0 0 none,.sl none 0 0 none,.sl none 0 0 none,.sl none 0 0 none]) rfl rfl
  obtain ⟨kb,hkb⟩:∃kb,kb=h'.next:=⟨_,rfl⟩
  rw [←hkb] at hal hst hb5 hg5
  by_cases hk2:kd=2
  · have s0:=st_rn0 (W:=W) (x:=2) hg5
    have hk6:Keeps h' (h5.set kb (.cells [.int .i64 2,.int .i64 1,.int .i64 0,.sl none 0 0 none,.sl none 0 0 none,.sl none 0 0 none,.sl none 0 0 none] 100)):=hk5.set (by omega) _
    have hg6:(h5.set kb (.cells [.int .i64 2,.int .i64 1,.int .i64 0,.sl none 0 0 none,.sl none 0 0 none,.sl none 0 0 none,.sl none 0 0 none] 100)).get kb=some (.cells [.int .i64 2,.int .i64 1,.int .i64 0,.sl none 0 0 none,.sl none 0 0 none,.sl none 0 0 none,.sl none 0 0 none] 100):=by simp
    generalize h5.set kb (.cells [.int .i64 2,.int .i64 1,.int .i64 0,.sl none 0 0 none,.sl none 0 0 none,.sl none 0 0 none,.sl none 0 0 none] 100)=h6 at s0 hk6 hg6
    rw [if_pos hk2]
    have hld6:=ld_rn (W:=W) hg6
    have hgm6:=(hr1.keep hk6).mod
    obtain ⟨h7,t1,t2,t3,t4,t5⟩:=rest h6 kb newDir 2 rfl rfl hk6 hg6
    simp [push_cast,hlt',fa60_0,ld58,ji9 hgm,jd9,hlenL,idx_rn hlt,fa100_0,ld3,c0,hki',hie,build_rn1,hal,hst,hk2,s0]
    refine drawS [0,1,2,3,4,5,6,7] (by kernel_rfl) (by kernel_rfl) ?_
    simp [push_cast,zx9,zy9,SgO,opA,isE,isRead,fa60_0,ld58,ji9 hgm6,jd9,idx_rn hlt,hld6]
    refine jc9 (h':=h7) (v:= .undef) (by rfl) (by simp [push_cast,t1]) ⟨?_,?_⟩
    · simp only [zz9,ja9]; exact ⟨fun hr=>absurd hr (by decide),fun hr=>absurd hr (by decide),trivial⟩
    simp [zx9,zy9,SgO,opA,isE,isRead,push_cast]
    refine jf9 (by simp [fn123]) (last_ret W h7 _ l t5 hl hl0) fun h8 hk8=> ?_
    simp [push_cast]
    refine je9 (by simp [fn122]) (tail h8 newDir (t2.keep hk8) (t3.trans (OffR.ofKeeps hk8)) (short_new _ _ _ rfl)) fun w h9 ⟨u1,u2⟩=> ?_
    simp [push_cast]
    exact ⟨u1,u2⟩
  · have hk6:=hk5
    have hg6:=hg5
    have hk2':(kd==2)=false:=by simpa using hk2
    rw [if_neg hk2]
    have hld6:=ld_rn (W:=W) hg6
    have hgm6:=(hr1.keep hk6).mod
    obtain ⟨h7,t1,t2,t3,t4,t5⟩:=rest h5 kb newFile 1 rfl rfl hk6 hg6
    simp [push_cast,hlt',fa60_0,ld58,ji9 hgm,jd9,hlenL,idx_rn hlt,fa100_0,ld3,c0,hki',hie,build_rn1,hal,hst,hk2']
    refine drawS [0,1,2,3,4,5,6,7] (by kernel_rfl) (by kernel_rfl) ?_
    simp [push_cast,zx9,zy9,SgO,opA,isE,isRead,fa60_0,ld58,ji9 hgm6,jd9,idx_rn hlt,hld6]
    refine jc9 (h':=h7) (v:= .undef) (by rfl) (by simp [push_cast,t1]) ⟨?_,?_⟩
    · simp only [zz9,ja9]; exact ⟨fun hr=>absurd hr (by decide),fun hr=>absurd hr (by decide),trivial⟩
    simp [zx9,zy9,SgO,opA,isE,isRead,push_cast]
    refine jf9 (by simp [fn123]) (last_ret W h7 _ l t5 hl hl0) fun h8 hk8=> ?_
    simp [push_cast]
    refine je9 (by simp [fn122]) (tail h8 newFile (t2.keep hk8) (t3.trans (OffR.ofKeeps hk8)) (short_new _ _ _ rfl)) fun w h9 ⟨u1,u2⟩=> ?_
    simp [push_cast]
    exact ⟨u1,u2⟩
def Bg3I (h:AH) (va vb:AV) (a b:List (List UInt8)) (n:Nat) (e':Env) (h':AH):Prop:=
  e'.length=27∧h'=h∧∃i:Nat,i + n=b.length∧a.take i=b.take i∧(va=e'.getD 0 .undef∧vb=e'.getD 1 .undef∧e'.getD 7 .undef= .int .i64 b.length∧e'.getD 8 .undef= .int .i64 i)
set_option maxHeartbeats 4000000 in
set_option maxRecDepth 20000 in
theorem begins13_ret (W:World) (h:AH) (va vb:AV) (a b:List (List UInt8)) (ha:StrS W h va a) (hb:StrS W h vb b) (hlt:b.length<a.length) (hl:a.length<1000000000):
    RetH (CC W) 124 [va,vb] h (.bool (decide (a.take b.length=b))):=by
  refine jj9 (cc_ok W) (fn124 W) (by simp only [Tryz.f124]; rfl) rfl rfl ?_
  obtain ⟨aa,ac,ag,rfl⟩:=ha.len
  obtain ⟨ba,bc,bg,rfl⟩:=hb.len
  have hla:aLen (CC W) h 37 (.sl aa a.length ac ag)=some (.int .i64 a.length):=by simp [aLen,kind37]
  have hlb:aLen (CC W) h 37 (.sl ba b.length bc bg)=some (.int .i64 b.length):=by simp [aLen,kind37]
  simp [push_cast,hlb]
  refine loopN (cc_ok W) (Bg3I h (.sl aa a.length ac ag) (.sl ba b.length bc bg) a b) b.length ⟨by simp,rfl,0,by simp,by simp,by simp⟩ ?_
  rintro m e' h' ⟨hlen',rfl,i,him,htk,hh⟩
  obtain ⟨a0,a1,a2,a3,a4,a5,a6,a7,a8,a9,rS0,rfl,hS0⟩:=un10 hlen'
  obtain ⟨a10,a11,a12,a13,a14,a15,a16,a17,a18,a19,rS10,rfl,hS10⟩:=un10 hS0
  obtain ⟨a20,rS20,rfl,hS20⟩:=un1 hS10
  obtain ⟨a21,rS21,rfl,hS21⟩:=un1 hS20
  obtain ⟨a22,rS22,rfl,hS22⟩:=un1 hS21
  obtain ⟨a23,rS23,rfl,hS23⟩:=un1 hS22
  obtain ⟨a24,rS24,rfl,hS24⟩:=un1 hS23
  obtain ⟨a25,rS25,rfl,hS25⟩:=un1 hS24
  obtain ⟨a26,rS26,rfl,hS26⟩:=un1 hS25
  obtain rfl:=un0 hS26
  clear hlen' hS0 hS10 hS20 hS21 hS22 hS23 hS24 hS25 hS26
  simp at hh
  obtain ⟨hv0,hv1,rfl,rfl⟩:=hh
  subst hv0 hv1
  by_cases hi:i<b.length
  · have hi':(i:Int)<(b.length:Int):=by omega
    have hia:¬(a.length:Int)≤(i:Int):=by omega
    have wi:IntKind.i64.wrap ((i:Int) + 1)=(i:Int) + 1:=wrap64 (by omega) (by omega)
    obtain ⟨x,hx⟩:∃x,a[i]? =some x:=⟨a[i]'(by omega),by simp⟩
    obtain ⟨y,hy⟩:∃y,b[i]? =some y:=⟨b[i],by simp [hi]⟩
    obtain ⟨pa,hixa,hlda⟩:=ha.at hx
    obtain ⟨pb,hixb,hldb⟩:=hb.at hy
    by_cases hxy:x=y
    · have htk2:a.take (i + 1)=b.take (i + 1):=by
        rw [List.take_add_one,List.take_add_one,hx,hy,htk,hxy]
      simp [push_cast,hi']
      refine draw1 (cc_ok W) [0,1,2,3,4,5,6,7,8,9,10,11,12,13,14] (by kernel_rfl) (by kernel_rfl) (by kernel_rfl) rfl ?_
      simp [push_cast,hla,hia,hixa,hlda,hixb,hldb,aStr,hxy,wi]
      exact ⟨m - 1,by omega,by simp,rfl,i + 1,by omega,htk2,by simp⟩
    · have hne:¬a.take b.length=b:=fun hc=>by
        have h1:(a.take b.length)[i]? =some x:=by rw [List.getElem?_take,if_pos hi]; exact hx
        rw [hc,hy] at h1
        exact hxy (Option.some.inj h1).symm
      simp [push_cast,hi']
      refine draw1 (cc_ok W) [0,1,2,3,4,5,6,7,8,9,10,11,12,13,14] (by kernel_rfl) (by kernel_rfl) (by kernel_rfl) rfl ?_
      simp [push_cast,hla,hia,hixa,hlda,hixb,hldb,aStr,hxy,hne]
  · have hi':¬(i:Int)<(b.length:Int):=by omega
    have hib:i=b.length:=by omega
    rw [hib,List.take_length] at htk
    simp [push_cast,hi',htk]
def linkQ (M:MS) (l l2:List (List UInt8)):Int×MS:=
  if (findR M l 0).2=0 then
    match M.nodes[(findR M l 0).1.toNat]? with
    | none=>(0,M)
    | some nd=>if nd.kind=2 then (304,M) else if nd.links=100 then (310,M)
      else if (parentR M l2).2=0 then
        (0,(putQ M (parentR M l2).1.toNat (l2.getLast?.getD []) (findR M l 0).1).set (findR M l 0).1.toNat {nd with links:=nd.links + 1})
      else ((parentR M l2).2,M)
  else ((findR M l 0).2,M)
theorem putQ_other {M:MS} {d i:Nat} {nm:List UInt8} {a:Int} (h:d≠i):(putQ M d nm a).nodes[i]? =M.nodes[i]? :=by
  unfold putQ
  split
  · rfl
  · split<;>exact MS.set_other h
set_option maxHeartbeats 16000000 in
set_option maxRecDepth 20000 in
theorem rlink_ret (W:World) (A:Nat→Prop) (h:AH) (hA:∀k,h.next≤k→A k) (km kl:Nat) (M:MS) (hr:RIs A h km kl M) (ro:ROk M) (hlk:∀nd∈M.nodes,0≤nd.links∧nd.links<1000000000) (v v2:AV) (l l2:List (List UInt8)) (hs:StrS W h v l) (hl:l.length<1000000000) (hs2:StrS W h v2 l2) (hl2:l2.length<1000000000):
    RetU W 90 [.ptr (some (.new km 0)),v,v2] h A km kl (fun w=>w= .int .i64 (linkQ M l l2).1) (linkQ M l l2).2:=by
  refine jj9 (cc_ok W) (fn90 W) (by simp only [Tryz.f90]; rfl) rfl rfl ?_
  simp [push_cast]
  refine jf9 (by simp [fn120]) (rfind_ret W A h km kl M hr ro.ok (fun nd hn=>(ro.sh nd hn).2) v l hs hl) fun h1 hk1=> ?_
  have hr1:=hr.keep hk1
  obtain ⟨b0,b1⟩:=findR_lt ro.ok l 0 (by omega) (by have:=ro.ok.some; omega)
  unfold linkQ
  by_cases he:(findR M l 0).2=0
  case neg=>
    have he':((findR M l 0).2 !=0)=true:=by simpa using he
    simp [push_cast,he,he']
    exact ⟨hr1,OffR.ofKeeps hk1⟩
  rw [if_pos he]
  obtain ⟨i,hi⟩:=Int.eq_ofNat_of_zero_le b0
  rw [hi] at b1
  have hin:i<M.nodes.length:=by omega
  obtain ⟨nd,hnd⟩:∃nd,M.nodes[i]? =some nd:=⟨M.nodes[i],by simp [hin]⟩
  rw [hi,Int.toNat_natCast,hnd]
  dsimp only
  have hgm:=hr1.mod
  obtain ⟨cs,hnc,_,hcell⟩:=hr1.node (W:=W) hnd
  obtain ⟨iv,dv,nv,sv,rfl,_⟩:=_root_.id hnc
  have c0:=hcell 0 (by omega)
  have c1:=hcell 1 (by omega)
  simp at c0 c1
  obtain ⟨lk1,lk2⟩:=hlk nd (List.mem_of_getElem? hnd)
  by_cases hkd:nd.kind=2
  · have hkd':(nd.kind==2)=true:=by simpa using hkd
    simp [push_cast,he,fa60_0,ld58,ji9 hgm,jd9,idx_rn hin,fa100_0,ld3,c0,hkd']
    rw [if_pos hkd]
    exact ⟨rfl,hr1,OffR.ofKeeps hk1⟩
  have hkd':(nd.kind==2)=false:=by simpa using hkd
  rw [if_neg hkd]
  by_cases hlk:nd.links=100
  · have hlk':(nd.links==100)=true:=by simpa using hlk
    simp [push_cast,he,fa60_0,ld58,ji9 hgm,jd9,idx_rn hin,fa100_0,fa100_1,ld3,c0,c1,hkd',hlk']
    rw [if_pos hlk]
    exact ⟨rfl,hr1,OffR.ofKeeps hk1⟩
  have hlk':(nd.links==100)=false:=by simpa using hlk
  rw [if_neg hlk]
  simp [push_cast,he,fa60_0,ld58,ji9 hgm,jd9,idx_rn hin,fa100_0,fa100_1,ld3,c0,c1,hkd',hlk']
  have hs21:=hs2.keeps hk1
  refine jf9 (by simp [fn121]) (rparent_ret W A h1 km kl M hr1 ro.ok ro.sh v2 l2 hs21 hl2) fun h2 hk2=> ?_
  have hr2:=hr1.keep hk2
  have hk02:=hk1.trans hk2
  by_cases hep:(parentR M l2).2=0
  case neg=>
    have hep':((parentR M l2).2 !=0)=true:=by simpa using hep
    simp [push_cast,hep,hep']
    exact ⟨hr2,OffR.ofKeeps hk02⟩
  obtain ⟨hl0,d,ndd,hpd,hndd,hkdd,hpl,hfd⟩:=parentR_ok ro.ok hep
  obtain ⟨hixd,hz⟩:=ro.dir ndd (List.mem_of_getElem? hndd) hkdd
  have hdi:d≠i:=by
    rintro rfl
    rw [hnd] at hndd; cases hndd
    exact hkd hkdd
  rw [if_pos hep,hpd,Int.toNat_natCast]
  simp [push_cast,hep]
  have hs22:=hs21.keeps hk2
  refine jf9 (by simp [fn123]) (last_ret W h2 _ l2 hs22 hl2 hl0) fun h3 hk3=> ?_
  have hr3:=hr2.keep hk3
  have hk03:=hk02.trans hk3
  simp [push_cast]
  refine je9 (by simp [fn122]) (rput_ret W A h3 (fun k hk=>hA k (by have:=hk03.1; omega)) km kl M hr3 ro.sh d ndd hndd hixd hz _ _) fun w h4 ⟨_,hr4,ho4⟩=> ?_
  have hnd4:(putQ M d (l2.getLast?.getD []) i).nodes[i]? =some nd:=by rw [putQ_other hdi]; exact hnd
  have hgm4:=hr4.mod
  obtain ⟨cs4,hnc4,_,hcell4⟩:=hr4.node (W:=W) hnd4
  obtain ⟨iv4,dv4,nv4,sv4,rfl,_⟩:=_root_.id hnc4
  have d1:=hcell4 1 (by omega)
  simp at d1
  have hin4:=(List.getElem?_eq_some_iff.1 hnd4).1
  obtain ⟨h5,t1,t2,t3,t4⟩:=hr4.setLinks (W:=W) hnd4 (nd.links + 1)
  have wl:IntKind.i64.wrap (nd.links + 1)=nd.links + 1:=wrap64 (by omega) (by omega)
  simp [push_cast]
  refine drawS [0,1,2,3,4,5,6,7,8,9,10,11,12,13,14,15,16] (by kernel_rfl) (by kernel_rfl) ?_
  simp [push_cast,zx9,zy9,SgO,opA,isE,isRead,fa60_0,ld58,ji9 hgm4,jd9,idx_rn hin4,fa100_1,ld3,d1,wl]
  refine jc9 (h':=h5) (v:= .undef) (by rfl) (by simp [push_cast,t1]) ⟨?_,?_⟩
  · simp only [zz9,ja9]; exact ⟨fun hr=>absurd hr (by decide),fun hr=>absurd hr (by decide),fun hr=>absurd hr (by decide),trivial⟩
  simp [zx9,zy9,SgO,opA,isE,isRead,push_cast]
  exact ⟨t2,((OffR.ofKeeps hk03).trans ho4).trans t3⟩
def DirR (M:MS):Prop:=∀nd∈M.nodes,nd.kind=2→ixR nd=[]∧0≤nd.size∧nd.size<1000000000
theorem take_short {M:MS} (hs:ShortR M) {d j:Nat}:ShortR (takeR M d j):=by
  unfold takeR
  split
  · exact hs
  · rename_i nd hnd
    have:=hs nd (List.mem_of_getElem? hnd)
    exact hs.set ⟨this.1,by simpa using this.2⟩
theorem take_dir {M:MS} (hs:DirR M) {d j:Nat}:DirR (takeR M d j):=by
  unfold takeR
  split
  · exact hs
  · rename_i nd hnd
    intro x hx hk
    simp only [MS.set] at hx
    rcases List.mem_or_eq_of_mem_set hx with h | rfl
    · exact hs x h hk
    · exact hs nd (List.mem_of_getElem? hnd) hk
theorem take_at {M:MS} {d j i:Nat} {nd:Nd} (hi:M.nodes[i]? =some nd):∃x,(takeR M d j).nodes[i]? =some x∧x.kind=nd.kind∧x.links=nd.links:=by
  have hl:i<(takeR M d j).nodes.length:=by rw [takeR_len]; exact (List.getElem?_eq_some_iff.1 hi).1
  obtain ⟨x,hx⟩:∃x,(takeR M d j).nodes[i]? =some x:=⟨(takeR M d j).nodes[i],by simp [hl]⟩
  obtain ⟨y,h1,h2,h3,_⟩:=takeR_links hx
  rw [hi] at h1; cases h1
  exact ⟨x,hx,h3.symm,h2.symm⟩
def renameQ (M:MS) (l l2:List (List UInt8)):Int×MS:=
  if l=[] then (309,M) else
  if (findR M l 0).2=0 then
    match M.nodes[(findR M l 0).1.toNat]? with
    | none=>(0,M)
    | some nd=>if nd.kind=2∧l.length<l2.length∧l2.take l.length=l then (309,M)
      else if (parentR M l2).2=0 then
        match M.nodes[(findR M l.dropLast 0).1.toNat]? with
        | none=>(0,M)
        | some ndd=>(0,putQ (takeR M (findR M l.dropLast 0).1.toNat (placeR ndd.slots (l.getLast?.getD [])).toNat) (parentR M l2).1.toNat (l2.getLast?.getD []) (findR M l 0).1)
      else ((parentR M l2).2,M)
  else ((findR M l 0).2,M)
set_option maxHeartbeats 16000000 in
set_option maxRecDepth 20000 in
theorem rrename_ret (W:World) (A:Nat→Prop) (h:AH) (hA:∀k,h.next≤k→A k) (km kl:Nat) (M:MS) (hr:RIs A h km kl M) (ro:ROk M) (v v2:AV) (l l2:List (List UInt8)) (hs:StrS W h v l) (hl:l.length<1000000000) (hs2:StrS W h v2 l2) (hl2:l2.length<1000000000):
    RetU W 91 [.ptr (some (.new km 0)),v,v2] h A km kl (fun w=>w= .int .i64 (renameQ M l l2).1) (renameQ M l l2).2:=by
  refine jj9 (cc_ok W) (fn91 W) (by simp only [Tryz.f91]; rfl) rfl rfl ?_
  obtain ⟨sa,sc,sg,hv⟩:=hs.len
  obtain ⟨ta,tc,tg,hv2⟩:=hs2.len
  have hlv:∀h',aLen (CC W) h' 37 v=some (.int .i64 l.length):=fun h'=>by rw [hv]; simp [aLen,kind37]
  have hlv2:∀h',aLen (CC W) h' 37 v2=some (.int .i64 l2.length):=fun h'=>by rw [hv2]; simp [aLen,kind37]
  by_cases hl0:l=[]
  · have h0:(l.length:Int)=0:=by simp [hl0]
    have hQ:renameQ M l l2=(309,M):=by simp only [renameQ,if_pos hl0]
    rw [hQ]
    simp [push_cast,hlv,h0]
    exact ⟨hr,OffR.refl⟩
  have hpos:0<l.length:=List.length_pos_iff.2 hl0
  have h0:((l.length:Int)==0)=false:=by simp only [beq_eq_false_iff_ne,ne_eq]; omega
  simp [push_cast,hlv,h0]
  refine jf9 (by simp [fn120]) (rfind_ret W A h km kl M hr ro.ok (fun nd hn=>(ro.sh nd hn).2) v l hs hl) fun h1 hk1=> ?_
  have hr1:=hr.keep hk1
  have hs1:=hs.keeps hk1
  have hs21:=hs2.keeps hk1
  obtain ⟨b0,b1⟩:=findR_lt ro.ok l 0 (by omega) (by have:=ro.ok.some; omega)
  by_cases he:(findR M l 0).2=0
  case neg=>
    have he':((findR M l 0).2 !=0)=true:=by simpa using he
    have hQ:renameQ M l l2=((findR M l 0).2,M):=by simp only [renameQ,if_neg hl0,if_neg he]
    rw [hQ]
    simp [push_cast,he,he']
    exact ⟨hr1,OffR.ofKeeps hk1⟩
  obtain ⟨i,hi⟩:=Int.eq_ofNat_of_zero_le b0
  obtain ⟨d,ndd,j,x,hfd,hndd,hkdd,hpj,hxj,hxi,hxn⟩:=findR_last ro.ok hl0 (i:=i) (by rw [←hi]; exact Prod.ext rfl he)
  rw [hi] at b1
  have hin:i<M.nodes.length:=by omega
  obtain ⟨nd,hnd⟩:∃nd,M.nodes[i]? =some nd:=⟨M.nodes[i],by simp [hin]⟩
  have hQ:renameQ M l l2=if nd.kind=2∧l.length<l2.length∧l2.take l.length=l then (309,M) else if (parentR M l2).2=0 then (0,putQ (takeR M d j) (parentR M l2).1.toNat (l2.getLast?.getD []) i) else ((parentR M l2).2,M):=by
    simp only [renameQ,if_neg hl0,if_pos he,hi,Int.toNat_natCast,hnd,hfd,hndd,hpj]
  rw [hQ,hi]
  have hjl:j<ndd.slots.length:=(List.getElem?_eq_some_iff.1 hxj).1
  have hgm:=hr1.mod
  obtain ⟨cs,hnc,_,hcell⟩:=hr1.node (W:=W) hnd
  obtain ⟨iv,dv,nv,sv,rfl,_⟩:=_root_.id hnc
  have c0:=hcell 0 (by omega)
  simp at c0
  obtain ⟨hixd,hz⟩:=ro.dir ndd (List.mem_of_getElem? hndd) hkdd
  have tail:∀(h2:AH),Keeps h1 h2→¬(nd.kind=2∧l.length<l2.length∧l2.take l.length=l)→ACall (CC W) 121 [.ptr (some (.new km 0)),v2] h2 (fun w h3=>w= .tup [.int .i64 (if (parentR M l2).2=0 then (parentR M l2).1 else 0),.int .i64 (parentR M l2).2]∧Keeps h2 h3) (fun _ _=>False):=fun h2 hk2 _=>rparent_ret W A h2 km kl M (hr1.keep hk2) ro.ok ro.sh v2 l2 (hs21.keeps hk2) hl2
  by_cases hbad:nd.kind=2∧l.length<l2.length∧l2.take l.length=l
  · obtain ⟨hkd,hll,htk⟩:=hbad
    have hkd':(nd.kind==2)=true:=by simpa using hkd
    have hll':(l.length:Int)<(l2.length:Int):=by omega
    rw [if_pos ⟨hkd,hll,htk⟩]
    simp [push_cast,he,fa60_0,ld58,ji9 hgm,jd9,idx_rn hin,fa100_0,ld3,c0,hkd',hlv,hlv2,hll']
    refine jh9 (by simp [fn124]) (begins13_ret W h1 v2 v l2 l hs21 hs1 hll hl2) ?_
    simp [push_cast,htk]
    exact ⟨hr1,OffR.ofKeeps hk1⟩
  rw [if_neg hbad]
  have fin:∀(h3:AH),Keeps h1 h3→(parentR M l2).2=0→∃d2:Nat,(parentR M l2).1=(d2:Int)∧l2≠[]∧ACall (CC W) 125 [.ptr (some (.new km 0)),v] h3 (fun _ h4=>RIs A h4 km kl (takeR M d j)∧OffR km kl h h4∧StrS W h4 v2 l2) (fun _ _=>False)∧
      ∀h4,RIs A h4 km kl (takeR M d j)→OffR km kl h h4→ACall (CC W) 122 [.ptr (some (.new km 0)),.int .i64 d2,.str (l2.getLast?.getD []),.int .i64 i] h4 (fun _ h5=>RIs A h5 km kl (putQ (takeR M d j) d2 (l2.getLast?.getD []) i)∧OffR km kl h h5) (fun _ _=>False):=fun h3 hk3 hep=>by
    obtain ⟨hl20,d2,nd2,hpd,hnd2,hkd2,hpl,hfd2⟩:=parentR_ok ro.ok hep
    have hk03:=hk1.trans hk3
    have hr3:=hr1.keep hk3
    refine ⟨d2,hpd,hl20,?_,fun h4 hr4 ho4=> ?_⟩
    · exact (rtake_ret W A h3 (fun k hk=>hA k (by have:=hk03.1; omega)) km kl M hr3 ro.ok ro.sh v l (hs1.keeps hk3) hl hl0 d ndd hndd hixd (by rw [hfd]) j hpj hjl).mono (fun w h4 hw=>⟨hw.2.1,(OffR.ofKeeps hk03).trans hw.2.2,(hs21.keeps hk3).offR hr3 hw.2.2⟩) fun _ _ h=>h
    · obtain ⟨x2,hx2,hx2k,_⟩:=take_at (d:=d) (j:=j) hnd2
      have hdir:=take_dir (d:=d) (j:=j) ro.dir x2 (List.mem_of_getElem? hx2) (by rw [hx2k]; exact hkd2)
      exact (rput_ret W A h4 (fun k hk=>hA k (by have:=ho4.1; omega)) km kl _ hr4 (take_short ro.sh) d2 x2 hx2 hdir.1 hdir.2 _ _).mono (fun w h5 hw=>⟨hw.2.1,ho4.trans hw.2.2⟩) fun _ _ h=>h
  by_cases hkd:nd.kind=2
  · have hkd':(nd.kind==2)=true:=by simpa using hkd
    by_cases hll:l.length<l2.length
    · have hll':(l.length:Int)<(l2.length:Int):=by omega
      have htk:¬l2.take l.length=l:=fun hc=>hbad ⟨hkd,hll,hc⟩
      simp [push_cast,he,fa60_0,ld58,ji9 hgm,jd9,idx_rn hin,fa100_0,ld3,c0,hkd',hlv,hlv2,hll']
      refine jh9 (by simp [fn124]) (begins13_ret W h1 v2 v l2 l hs21 hs1 hll hl2) ?_
      simp [push_cast,htk]
      refine je9 (by simp [fn121]) (tail h1 (Keeps.refl h1) hbad) fun w h3 ⟨hw,hk3⟩=> ?_
      subst hw
      have hk13:=(Keeps.refl h1).trans hk3
      by_cases hep:(parentR M l2).2=0
      case neg=>
        have hep':((parentR M l2).2 !=0)=true:=by simpa using hep
        simp [push_cast,hep,hep']
        exact ⟨hr1.keep hk13,OffR.ofKeeps (hk1.trans hk13)⟩
      obtain ⟨d2,hpd,hl20,htake,hput⟩:=fin h3 hk13 hep
      rw [if_pos hep,hpd,Int.toNat_natCast]
      simp [push_cast,hep]
      refine je9 (by simp [fn125]) htake fun w h4 ⟨hr4,ho4,hs4⟩=> ?_
      simp [push_cast]
      refine jf9 (by simp [fn123]) (last_ret W h4 v2 l2 hs4 hl2 hl20) fun h5 hk5=> ?_
      simp [push_cast]
      refine je9 (by simp [fn122]) (hput h5 (hr4.keep hk5) (ho4.trans (OffR.ofKeeps hk5))) fun w h6 ⟨u1,u2⟩=> ?_
      simp [push_cast]
      exact ⟨u1,u2⟩
    · have hll':¬(l.length:Int)<(l2.length:Int):=by omega
      simp [push_cast,he,fa60_0,ld58,ji9 hgm,jd9,idx_rn hin,fa100_0,ld3,c0,hkd',hlv,hlv2,hll']
      refine je9 (by simp [fn121]) (tail h1 (Keeps.refl h1) hbad) fun w h3 ⟨hw,hk3⟩=> ?_
      subst hw
      have hk13:=(Keeps.refl h1).trans hk3
      by_cases hep:(parentR M l2).2=0
      case neg=>
        have hep':((parentR M l2).2 !=0)=true:=by simpa using hep
        simp [push_cast,hep,hep']
        exact ⟨hr1.keep hk13,OffR.ofKeeps (hk1.trans hk13)⟩
      obtain ⟨d2,hpd,hl20,htake,hput⟩:=fin h3 hk13 hep
      rw [if_pos hep,hpd,Int.toNat_natCast]
      simp [push_cast,hep]
      refine je9 (by simp [fn125]) htake fun w h4 ⟨hr4,ho4,hs4⟩=> ?_
      simp [push_cast]
      refine jf9 (by simp [fn123]) (last_ret W h4 v2 l2 hs4 hl2 hl20) fun h5 hk5=> ?_
      simp [push_cast]
      refine je9 (by simp [fn122]) (hput h5 (hr4.keep hk5) (ho4.trans (OffR.ofKeeps hk5))) fun w h6 ⟨u1,u2⟩=> ?_
      simp [push_cast]
      exact ⟨u1,u2⟩
  · have hkd':(nd.kind==2)=false:=by simpa using hkd
    simp [push_cast,he,fa60_0,ld58,ji9 hgm,jd9,idx_rn hin,fa100_0,ld3,c0,hkd']
    refine je9 (by simp [fn121]) (tail h1 (Keeps.refl h1) hbad) fun w h3 ⟨hw,hk3⟩=> ?_
    subst hw
    have hk13:=(Keeps.refl h1).trans hk3
    by_cases hep:(parentR M l2).2=0
    case neg=>
      have hep':((parentR M l2).2 !=0)=true:=by simpa using hep
      simp [push_cast,hep,hep']
      exact ⟨hr1.keep hk13,OffR.ofKeeps (hk1.trans hk13)⟩
    obtain ⟨d2,hpd,hl20,htake,hput⟩:=fin h3 hk13 hep
    rw [if_pos hep,hpd,Int.toNat_natCast]
    simp [push_cast,hep]
    refine je9 (by simp [fn125]) htake fun w h4 ⟨hr4,ho4,hs4⟩=> ?_
    simp [push_cast]
    refine jf9 (by simp [fn123]) (last_ret W h4 v2 l2 hs4 hl2 hl20) fun h5 hk5=> ?_
    simp [push_cast]
    refine je9 (by simp [fn122]) (hput h5 (hr4.keep hk5) (ho4.trans (OffR.ofKeeps hk5))) fun w h6 ⟨u1,u2⟩=> ?_
    simp [push_cast]
    exact ⟨u1,u2⟩
def fullB (nd:Nd):Bool:=nd.slots.any (fun s=>decide (s.nm≠[]))
def lessQ (M:MS) (i:Nat):MS:=match M.nodes[i]? with
  | none=>M
  | some x=>if x.links - 1=0 then (M.set i {x with links:=x.links - 1}).set i noNode else M.set i {x with links:=x.links - 1}
def removeQ (M:MS) (kd:Int) (l:List (List UInt8)):Int×MS:=
  if l=[] then (if kd=9 then 304 else 309,M) else
  if (findR M l 0).2=0 then
    match M.nodes[(findR M l 0).1.toNat]?,M.nodes[(findR M l.dropLast 0).1.toNat]? with
    | some nd,some ndd=>
      if kd=9∧nd.kind=2 then (304,M) else if kd≠9∧nd.kind≠2 then (303,M) else if kd≠9∧fullB nd=true then (305,M)
      else (0,lessQ (takeR M (findR M l.dropLast 0).1.toNat (placeR ndd.slots (l.getLast?.getD [])).toNat) (findR M l 0).1.toNat)
    | _,_=>(0,M)
  else ((findR M l 0).2,M)
def RmI (h1:AH) (km:Nat) (v nv:AV) (i:Nat) (nd:Nd) (n:Nat) (e':Env) (h':AH):Prop:=
  e'.length=96∧h'=h1∧∃q:Nat,q + n=nd.slots.length∧(∀j s,j<q→nd.slots[j]? =some s→s.nm=[])∧(e'.getD 0 .undef= .ptr (some (.new km 0))∧v=e'.getD 2 .undef∧e'.getD 7 .undef= .int .i64 i∧nv=e'.getD 52 .undef∧e'.getD 53 .undef= .int .i64 nd.slots.length∧e'.getD 54 .undef= .int .i64 q)
set_option maxHeartbeats 16000000 in
set_option maxRecDepth 20000 in
theorem rremove_ret (W:World) (A:Nat→Prop) (h:AH) (hA:∀k,h.next≤k→A k) (km kl:Nat) (M:MS) (hr:RIs A h km kl M) (ro:ROk M) (hlk:∀nd∈M.nodes,0≤nd.links∧nd.links<1000000000) (kd:Int) (v:AV) (l:List (List UInt8)) (hs:StrS W h v l) (hl:l.length<1000000000):
    RetU W 93 [.ptr (some (.new km 0)),.int .i64 kd,v] h A km kl (fun w=>w= .int .i64 (removeQ M kd l).1) (removeQ M kd l).2:=by
  refine jj9 (cc_ok W) (fn93 W) (by simp only [Tryz.f93]; rfl) rfl rfl ?_
  obtain ⟨sa,sc,sg,hv⟩:=hs.len
  have hlv:∀h',aLen (CC W) h' 37 v=some (.int .i64 l.length):=fun h'=>by rw [hv]; simp [aLen,kind37]
  by_cases hl0:l=[]
  · have h0:(l.length:Int)=0:=by simp [hl0]
    by_cases hk9:kd=9
    · have hQ:removeQ M kd l=(304,M):=by simp only [removeQ,if_pos hl0,if_pos hk9]
      rw [hQ]
      simp [push_cast,hlv,h0,hk9]
      exact ⟨hr,OffR.refl⟩
    · have hk9':(kd==9)=false:=by simpa using hk9
      have hQ:removeQ M kd l=(309,M):=by simp only [removeQ,if_pos hl0,if_neg hk9]
      rw [hQ]
      simp [push_cast,hlv,h0,hk9']
      exact ⟨hr,OffR.refl⟩
  have hpos:0<l.length:=List.length_pos_iff.2 hl0
  have h0:((l.length:Int)==0)=false:=by simp only [beq_eq_false_iff_ne,ne_eq]; omega
  simp [push_cast,hlv,h0]
  refine jf9 (by simp [fn120]) (rfind_ret W A h km kl M hr ro.ok (fun nd hn=>(ro.sh nd hn).2) v l hs hl) fun h1 hk1=> ?_
  have hr1:=hr.keep hk1
  have hs1:=hs.keeps hk1
  obtain ⟨b0,b1⟩:=findR_lt ro.ok l 0 (by omega) (by have:=ro.ok.some; omega)
  by_cases he:(findR M l 0).2=0
  case neg=>
    have he':((findR M l 0).2 !=0)=true:=by simpa using he
    have hQ:removeQ M kd l=((findR M l 0).2,M):=by simp only [removeQ,if_neg hl0,if_neg he]
    rw [hQ]
    simp [push_cast,he,he']
    exact ⟨hr1,OffR.ofKeeps hk1⟩
  obtain ⟨i,hi⟩:=Int.eq_ofNat_of_zero_le b0
  obtain ⟨d,ndd,j,x,hfd,hndd,hkdd,hpj,hxj,hxi,hxn⟩:=findR_last ro.ok hl0 (i:=i) (by rw [←hi]; exact Prod.ext rfl he)
  rw [hi] at b1
  have hin:i<M.nodes.length:=by omega
  obtain ⟨nd,hnd⟩:∃nd,M.nodes[i]? =some nd:=⟨M.nodes[i],by simp [hin]⟩
  have hjl:j<ndd.slots.length:=(List.getElem?_eq_some_iff.1 hxj).1
  obtain ⟨hixd,hz⟩:=ro.dir ndd (List.mem_of_getElem? hndd) hkdd
  have hQ:removeQ M kd l=if kd=9∧nd.kind=2 then (304,M) else if kd≠9∧nd.kind≠2 then (303,M) else if kd≠9∧fullB nd=true then (305,M) else (0,lessQ (takeR M d j) i):=by
    simp only [removeQ,if_neg hl0,if_pos he,hi,Int.toNat_natCast,hnd,hfd,hndd,hpj]
  rw [hQ,hi]
  have hgm:=hr1.mod
  obtain ⟨cs,hnc,_,hcell⟩:=hr1.node (W:=W) hnd
  obtain ⟨iv,dv,nv,sv,rfl,_,_,hnv,_⟩:=_root_.id hnc
  have c0:=hcell 0 (by omega)
  have c5:=hcell 5 (by omega)
  simp at c0 c5
  have htake:=rtake_ret W A h1 (fun k hk=>hA k (by have:=hk1.1; omega)) km kl M hr1 ro.ok ro.sh v l hs1 hl hl0 d ndd hndd hixd (by rw [hfd]) j hpj hjl
  obtain ⟨x1,hx1,hx1k,hx1l⟩:=take_at (d:=d) (j:=j) hnd
  obtain ⟨lk1,lk2⟩:=hlk nd (List.mem_of_getElem? hnd)
  have hin1:=(List.getElem?_eq_some_iff.1 hx1).1
  have hL:lessQ (takeR M d j) i=if x1.links - 1=0 then ((takeR M d j).set i {x1 with links:=x1.links - 1}).set i noNode else (takeR M d j).set i {x1 with links:=x1.links - 1}:=by
    simp only [lessQ,hx1]
  have wl:IntKind.i64.wrap (x1.links - 1)=x1.links - 1:=wrap64 (by omega) (by omega)
  by_cases hk9:kd=9
  · have hk9':(kd==9)=true:=by simpa using hk9
    by_cases hkd:nd.kind=2
    · have hkd':(nd.kind==2)=true:=by simpa using hkd
      rw [if_pos ⟨hk9,hkd⟩]
      simp [push_cast,he,hk9',fa60_0,ld58,ji9 hgm,jd9,idx_rn hin,fa100_0,ld3,c0,hkd']
      exact ⟨hr1,OffR.ofKeeps hk1⟩
    have hkd':(nd.kind==2)=false:=by simpa using hkd
    rw [if_neg (fun hc=>hkd hc.2),if_neg (fun hc=>hc.1 hk9),if_neg (fun hc=>hc.1 hk9),hL]
    simp [push_cast,he,hk9',fa60_0,ld58,ji9 hgm,jd9,idx_rn hin,fa100_0,ld3,c0,hkd']
    refine je9 (by simp [fn125]) htake fun w h4 ⟨_,hr4,ho4⟩=> ?_
    have hgm4:=hr4.mod
    obtain ⟨cs4,hnc4,_,hcell4⟩:=hr4.node (W:=W) hx1
    obtain ⟨iv4,dv4,nv4,sv4,rfl,_⟩:=_root_.id hnc4
    have d1:=hcell4 1 (by omega)
    simp at d1
    obtain ⟨h5,t1,t2,t3,t4⟩:=hr4.setLinks (W:=W) hx1 (x1.links - 1)
    have hx5:((takeR M d j).set i {x1 with links:=x1.links - 1}).nodes[i]? =some {x1 with links:=x1.links - 1}:=by simp [MS.set,hin1]
    have hin5:=(List.getElem?_eq_some_iff.1 hx5).1
    have hgm5:=t2.mod
    obtain ⟨cs5,hnc5,_,hcell5⟩:=t2.node (W:=W) hx5
    obtain ⟨iv5,dv5,nv5,sv5,rfl,_⟩:=_root_.id hnc5
    have e1:=hcell5 1 (by omega)
    simp at e1
    simp [push_cast]
    refine drawS [0,1,2,3,4,5,6,7,8,9,10,11,12,13,14,15,16] (by kernel_rfl) (by kernel_rfl) ?_
    simp [push_cast,zx9,zy9,SgO,opA,isE,isRead,fa60_0,ld58,ji9 hgm4,jd9,idx_rn hin1,fa100_1,ld3,d1,wl]
    refine jc9 (h':=h5) (v:= .undef) (by rfl) (by simp [push_cast,t1]) ⟨?_,?_⟩
    · simp only [zz9,ja9]; exact ⟨fun hr=>absurd hr (by decide),fun hr=>absurd hr (by decide),fun hr=>absurd hr (by decide),trivial⟩
    have hoff:=((OffR.ofKeeps hk1).trans ho4).trans t3
    by_cases hz0:x1.links - 1=0
    · have hz0':(x1.links - 1==0)=true:=by simpa using hz0
      rw [if_pos hz0]
      have hnc6:NdC (fun k=>A k∧k≠km∧k≠kl) h5 zN noNode:=ndc_new 0 0 none rfl
      obtain ⟨h6,u1,u2,u3,u4⟩:=t2.setNode (W:=W) hin5 hnc6
      simp [zx9,zy9,SgO,opA,isE,isRead,push_cast,fa60_0,ld58,ji9 hgm5,jd9,idx_rn hin5,fa100_1,ld3,e1,hz0',build_zn,u1]
      exact ⟨u2,hoff.trans u3⟩
    · have hz0':(x1.links - 1==0)=false:=by simpa using hz0
      rw [if_neg hz0]
      simp [zx9,zy9,SgO,opA,isE,isRead,push_cast,fa60_0,ld58,ji9 hgm5,jd9,idx_rn hin5,fa100_1,ld3,e1,hz0']
      exact ⟨t2,hoff⟩
  · have hk9':(kd==9)=false:=by simpa using hk9
    rw [if_neg (fun hc=>hk9 hc.1)]
    by_cases hkd:nd.kind=2
    case neg=>
      have hkd':(nd.kind !=2)=true:=by simpa using hkd
      rw [if_pos ⟨hk9,hkd⟩]
      simp [push_cast,he,hk9',fa60_0,ld58,ji9 hgm,jd9,idx_rn hin,fa100_0,ld3,c0,hkd']
      exact ⟨hr1,OffR.ofKeeps hk1⟩
    have hkd':(nd.kind !=2)=false:=by simpa using hkd
    rw [if_neg (fun hc=>hc.2 hkd)]
    have hln:=hnv.len (W:=W) (T:=37) (kind37 W) (h2:=h1)
    simp only [List.length_map] at hln
    have hshort:=(ro.sh nd (List.mem_of_getElem? hnd)).2
    simp [push_cast,he,hk9',fa60_0,ld58,ji9 hgm,jd9,idx_rn hin,fa100_0,fa100_5,ld3,ld37,c0,c5,hkd',hln]
    refine loopN (cc_ok W) (RmI h1 km v nv i nd) nd.slots.length ⟨by simp,rfl,0,by simp,fun j s hj=>by omega,by simp⟩ ?_
    rintro n e' h' ⟨hlen',rfl,q,hqm,hno,hh⟩
    obtain ⟨a0,a1,a2,a3,a4,a5,a6,a7,a8,a9,rS0,rfl,hS0⟩:=un10 hlen'
    obtain ⟨a10,a11,a12,a13,a14,a15,a16,a17,a18,a19,rS10,rfl,hS10⟩:=un10 hS0
    obtain ⟨a20,a21,a22,a23,a24,a25,a26,a27,a28,a29,rS20,rfl,hS20⟩:=un10 hS10
    obtain ⟨a30,a31,a32,a33,a34,a35,a36,a37,a38,a39,rS30,rfl,hS30⟩:=un10 hS20
    obtain ⟨a40,a41,a42,a43,a44,a45,a46,a47,a48,a49,rS40,rfl,hS40⟩:=un10 hS30
    obtain ⟨a50,a51,a52,a53,a54,a55,a56,a57,a58,a59,rS50,rfl,hS50⟩:=un10 hS40
    obtain ⟨a60,a61,a62,a63,a64,a65,a66,a67,a68,a69,rS60,rfl,hS60⟩:=un10 hS50
    obtain ⟨a70,a71,a72,a73,a74,a75,a76,a77,a78,a79,rS70,rfl,hS70⟩:=un10 hS60
    obtain ⟨a80,a81,a82,a83,a84,a85,a86,a87,a88,a89,rS80,rfl,hS80⟩:=un10 hS70
    obtain ⟨a90,rS90,rfl,hS90⟩:=un1 hS80
    obtain ⟨a91,rS91,rfl,hS91⟩:=un1 hS90
    obtain ⟨a92,rS92,rfl,hS92⟩:=un1 hS91
    obtain ⟨a93,rS93,rfl,hS93⟩:=un1 hS92
    obtain ⟨a94,rS94,rfl,hS94⟩:=un1 hS93
    obtain ⟨a95,rS95,rfl,hS95⟩:=un1 hS94
    obtain rfl:=un0 hS95
    clear hlen' hS0 hS10 hS20 hS30 hS40 hS50 hS60 hS70 hS80 hS90 hS91 hS92 hS93 hS94 hS95
    simp at hh
    obtain ⟨rfl,hv2,rfl,hv52,rfl,rfl⟩:=hh
    subst hv2 hv52
    by_cases hlt:q<nd.slots.length
    · have hlt':(q:Int)<(nd.slots.length:Int):=by omega
      have wq:IntKind.i64.wrap ((q:Int) + 1)=(q:Int) + 1:=wrap64 (by omega) (by omega)
      obtain ⟨s,hy⟩:∃s,nd.slots[q]? =some s:=⟨nd.slots[q],by simp [hlt]⟩
      obtain ⟨k,_,_,hix,hld⟩:=hnv.at (W:=W) (T:=37) (kind37 W) (size9 W) (i:=q) (x:=s.nm) (by rw [List.getElem?_map,hy]; rfl)
      by_cases hb:s.nm=[]
      · simp [push_cast,hlt',hix,ld9,hld,aStr,hb,wq]
        exact ⟨n - 1,by omega,by simp,rfl,q + 1,by omega,fun j s' hj hs'=>by
          rcases Nat.lt_or_ge j q with h1 | h1
          · exact hno j s' h1 hs'
          · have:j=q:=by omega
            subst this
            rw [hy] at hs'; cases hs'; exact hb,by simp⟩
      · have hany:fullB nd=true:=List.any_eq_true.2 ⟨s,List.mem_of_getElem? hy,by simpa using hb⟩
        rw [if_pos ⟨hk9,hany⟩]
        simp [push_cast,hlt',hix,ld9,hld,aStr,hb]
        exact ⟨hr1,OffR.ofKeeps hk1⟩
    have hlt':¬(q:Int)<(nd.slots.length:Int):=by omega
    have hany:¬fullB nd=true:=fun hc=>by
      obtain ⟨s,hs,hn⟩:=List.any_eq_true.1 hc
      obtain ⟨j,hj⟩:=List.getElem?_of_mem hs
      have:=(List.getElem?_eq_some_iff.1 hj).1
      exact (of_decide_eq_true hn) (hno j s (by omega) hj)
    rw [if_neg (fun hc=>hany hc.2),hL]
    simp [push_cast,hlt']
    refine je9 (by simp [fn125]) htake fun w h4 ⟨_,hr4,ho4⟩=> ?_
    have hgm4:=hr4.mod
    obtain ⟨cs4,hnc4,_,hcell4⟩:=hr4.node (W:=W) hx1
    obtain ⟨iv4,dv4,nv4,sv4,rfl,_⟩:=_root_.id hnc4
    have d1:=hcell4 1 (by omega)
    simp at d1
    obtain ⟨h5,t1,t2,t3,t4⟩:=hr4.setLinks (W:=W) hx1 (x1.links - 1)
    have hx5:((takeR M d j).set i {x1 with links:=x1.links - 1}).nodes[i]? =some {x1 with links:=x1.links - 1}:=by simp [MS.set,hin1]
    have hin5:=(List.getElem?_eq_some_iff.1 hx5).1
    have hgm5:=t2.mod
    obtain ⟨cs5,hnc5,_,hcell5⟩:=t2.node (W:=W) hx5
    obtain ⟨iv5,dv5,nv5,sv5,rfl,_⟩:=_root_.id hnc5
    have e1:=hcell5 1 (by omega)
    simp at e1
    simp [push_cast]
    refine drawS [0,1,2,3,4,5,6,7,8,9,10,11,12,13,14,15,16] (by kernel_rfl) (by kernel_rfl) ?_
    simp [push_cast,zx9,zy9,SgO,opA,isE,isRead,fa60_0,ld58,ji9 hgm4,jd9,idx_rn hin1,fa100_1,ld3,d1,wl]
    refine jc9 (h':=h5) (v:= .undef) (by rfl) (by simp [push_cast,t1]) ⟨?_,?_⟩
    · simp only [zz9,ja9]; exact ⟨fun hr=>absurd hr (by decide),fun hr=>absurd hr (by decide),fun hr=>absurd hr (by decide),trivial⟩
    have hoff:=((OffR.ofKeeps hk1).trans ho4).trans t3
    by_cases hz0:x1.links - 1=0
    · have hz0':(x1.links - 1==0)=true:=by simpa using hz0
      rw [if_pos hz0]
      have hnc6:NdC (fun k=>A k∧k≠km∧k≠kl) h5 zN noNode:=ndc_new 0 0 none rfl
      obtain ⟨h6,u1,u2,u3,u4⟩:=t2.setNode (W:=W) hin5 hnc6
      simp [zx9,zy9,SgO,opA,isE,isRead,push_cast,fa60_0,ld58,ji9 hgm5,jd9,idx_rn hin5,fa100_1,ld3,e1,hz0',build_zn,u1]
      exact ⟨u2,hoff.trans u3⟩
    · have hz0':(x1.links - 1==0)=false:=by simpa using hz0
      rw [if_neg hz0]
      simp [zx9,zy9,SgO,opA,isE,isRead,push_cast,fa60_0,ld58,ji9 hgm5,jd9,idx_rn hin5,fa100_1,ld3,e1,hz0']
      exact ⟨t2,hoff⟩
end Go.Proofs.YtbofhlifobjolaaGreatDoor.Ax
end
