/- The texts Unlink, UnlinkW, LinkW, SortS, Names, RmdirW, ListW, Bld, Blk, ReadW, Row, RefName, Name, Cut, Index, GenSplit, Splits, DoW, Over, as one. -/
import Derived.Test.YtbofhlifobjolaaGreatDoorGf
import Derived.Test.YtbofhlifobjolaaGreatDoorGe
import Derived.Test.YtbofhlifobjolaaGreatDoorGd
import Derived.Test.YtbofhlifobjolaaGreatDoorGbb
import Derived.KernelRfl
import Derived.Test.YtbofhlifobjolaaGreatDoorGc
import Derived.Lib.IndexLaws
section
set_option linter.unusedVariables false
set_option linter.unusedSimpArgs false
namespace Go.Proofs.YtbofhlifobjolaaGreatDoor.Ax
open Go.RowKit
theorem fileR_ok {M:MS} {l:List (List UInt8)} (ok:MOk M) (h:(fileR M l).2=0):l≠[]∧∃i nd,fileR M l=(((i:Nat):Int),0)∧findR M l 0=((i:Int),0)∧M.nodes[i]? =some nd∧nd.kind≠2:=by
  unfold fileR at h ⊢
  obtain ⟨b0,b1⟩:=findR_lt ok l 0 (by omega) (by have:=ok.some; omega)
  by_cases he:(findR M l 0).2=0
  · rw [if_pos he] at h ⊢
    obtain ⟨q,hq⟩:=Int.eq_ofNat_of_zero_le b0
    rw [hq] at h b1 ⊢
    have hqn:q<M.nodes.length:=by omega
    have hnd:M.nodes[q]? =some M.nodes[q]:=by simp [hqn]
    simp only [Int.toNat_natCast,hnd] at h ⊢
    by_cases hk:M.nodes[q].kind=2
    · rw [if_pos hk] at h; simp at h
    · have hf:findR M l 0=((q:Int),0):=Prod.ext hq he
      refine ⟨?_,q,M.nodes[q],by rw [if_neg hk]; exact hf,hf,hnd,hk⟩
      rintro rfl
      simp only [findR,Prod.mk.injEq] at hf
      obtain rfl:q=0:=by omega
      exact hk (ok.root _ hnd)
  · rw [if_neg he] at h; exact absurd h he
theorem findR_last {M:MS} {l:List (List UInt8)} {i:Int} (ok:MOk M) (hl:l≠[]) (h:findR M l 0=(i,0)):
    ∃(d:Nat) (nd:Nd) (j:Nat) (x:Slt),findR M l.dropLast 0=((d:Int),0)∧M.nodes[d]? =some nd∧nd.kind=2∧placeR nd.slots (l.getLast?.getD [])=(j:Int)∧nd.slots[j]? =some x∧x.ino=i∧x.nm=l.getLast?.getD []:=by
  have hl2:l=l.dropLast ++ [l.getLast?.getD []]:=by
    rw [List.getLast?_eq_some_getLast hl]; exact (List.dropLast_concat_getLast hl).symm
  obtain ⟨b0,b1⟩:=findR_lt ok l.dropLast 0 (by omega) (by have:=ok.some; omega)
  rw [hl2,findR_append] at h
  by_cases he:(findR M l.dropLast 0).2=0
  · rw [if_pos he] at h
    obtain ⟨q,hq⟩:=Int.eq_ofNat_of_zero_le b0
    rw [hq] at h b1
    have hqn:q<M.nodes.length:=by omega
    have hnd:M.nodes[q]? =some M.nodes[q]:=by simp [hqn]
    rw [findR_cons] at h
    simp only [Int.toNat_natCast,hnd] at h
    by_cases hk:M.nodes[q].kind=2
    · rw [if_pos hk] at h
      by_cases hp:placeR M.nodes[q].slots (l.getLast?.getD [])<0
      · rw [if_pos hp] at h; simp at h
      · rw [if_neg hp] at h
        obtain ⟨j,x,e,hx,hn⟩:=placeR_lt hp
        rw [e] at h
        simp only [Int.toNat_natCast,hx,findR,Prod.mk.injEq,and_true] at h
        exact ⟨q,_,j,x,Prod.ext hq he,hnd,hk,e,hx,h,hn⟩
    · rw [if_neg hk] at h; simp at h
  · rw [if_neg he] at h
    simp only [Prod.mk.injEq] at h
    exact absurd h.2 he
theorem set_links {W:World} {h:AH} {R:MR} {M:MS} (hm:MIs h R M) {i:Nat} {r:NR} {x:Nd} (hr:R.nd[i]? =some r) (hx:M.nodes[i]? =some x) (n:Int):
    ∃h',aStoreOp (CC W) h 3 (.ptr (some (.new r.k 1))) (.int .i64 n)=some h'∧MIs h' (R.set i r) (M.set i {x with links:=n})∧MStep h h' R (R.set i r)∧(∀q,(R.set i r).at q=R.at q)∧(∃mv sv,h'.get r.k=some (.cells [.int .i64 x.kind,.int .i64 n,.int .i64 x.size,mv,sv] 93)):=by
  have hn:=hm.each i r x hr hx
  have hlow:∀k∈r.ids,k<h.next:=fun k hk=>hm.low k (mem_ids hr hk)
  have hown:=hm.own i r hr
  obtain ⟨mv,sv,hc,hmp,hsl⟩:=_root_.id hn
  refine ⟨_,st_nd1 hc,?_⟩
  obtain ⟨hA,hB,hP⟩:=hm.setAt (h':=h.set r.k (.cells [.int .i64 x.kind,.int .i64 n,.int .i64 x.size,mv,sv] 93)) (r':=r) (nd':={x with links:=n}) hr rfl
    (fun k hk hno=>by have:k≠r.k:=fun e=>hno (by simp [NR.ids,e]); simp [this])
    ⟨mv,sv,by simp,hmp.same fun k hk=>by
        have:k≠r.k:=fun e=>by simp [NR.ids,hk,e] at hown
        simp [this],hsl.same fun k hk=>by
        have:k≠r.k:=fun e=>by simp [NR.ids,hk,e] at hown
        simp [this]⟩
    (fun k hk=>⟨.inl hk,by simp; exact hlow k hk⟩) hown (by simp)
  exact ⟨hA,hB,hP,mv,sv,by simp⟩
theorem build_no {W:World}:aBuild (CC W) 93 []=some (.agg [.int .i64 0,.int .i64 0,.int .i64 0,.map none,.sl none 0 0 none]):=rfl
theorem new_none {W:World} {h:AH} {R:MR} {M:MS} (hm:MIs h R M) {q:Nat} (hq:q<M.nodes.length):
    ∃h' R',aStoreOp (CC W) (h.push (.cells [.int .i64 0,.int .i64 0,.int .i64 0,.map none,.sl none 0 0 none] 93)) 89 (.ptr (some (.new R.kn q))) (.ptr (some (.new h.next 0)))=some h'∧MIs h' R' (M.set q noNode)∧MStep h h' R R':=by
  obtain ⟨r,nd,hr,hnd,hn⟩:=hm.node hq
  have hql:q<R.nd.length:=by rw [hm.len]; exact hq
  have hkn:=hm.low R.kn (by simp [MR.ids])
  have hg:(h.push (.cells [.int .i64 0,.int .i64 0,.int .i64 0,.map none,.sl none 0 0 none] 93)).get R.kn=some (.cells (ptrCells R.nd) 89):=by
    rw [AH.get_push,if_neg (by omega)]; exact hm.ptrs
  refine ⟨_,R.set q ⟨h.next,none,none⟩,st_ptr (W:=W) (m:=none) (s:=none) hg hql,hm.setNew hr (by simp) ?_ ?_ ?_ ?_ (by simp)⟩
  · intro k hk hne
    have h1:k≠h.next:=by omega
    simp [hne,h1]
  · refine ⟨.map none,.sl none 0 0 none,?_,rfl,⟨rfl,rfl⟩⟩
    have:h.next≠R.kn:=by omega
    simp [this,noNode]
  · intro k hk
    simp only [NR.ids,Option.toList,List.mem_cons,List.mem_append,List.not_mem_nil,or_false] at hk
    subst hk; simp
  · simp [NR.ids]
def unlinkR (M:MS) (l:List (List UInt8)):Int×MS:=
  if (fileR M l).2=0 then
    match M.nodes[(findR M l.dropLast 0).1.toNat]? with
    | none=>(0,M)
    | some nd=>
      match (takeR M (findR M l.dropLast 0).1.toNat (placeR nd.slots (l.getLast?.getD [])).toNat).nodes[(fileR M l).1.toNat]? with
      | none=>(0,M)
      | some x=>
        if x.links - 1=0 then (0,((takeR M (findR M l.dropLast 0).1.toNat (placeR nd.slots (l.getLast?.getD [])).toNat).set (fileR M l).1.toNat {x with links:=x.links - 1}).set (fileR M l).1.toNat noNode)
        else (0,(takeR M (findR M l.dropLast 0).1.toNat (placeR nd.slots (l.getLast?.getD [])).toNat).set (fileR M l).1.toNat {x with links:=x.links - 1})
  else ((fileR M l).2,M)
theorem takeR_len {M:MS} {d j:Nat}:(takeR M d j).nodes.length=M.nodes.length:=by
  unfold takeR; split<;>simp [MS.set]
theorem takeR_links {M:MS} {d j i:Nat} {x:Nd} (h:(takeR M d j).nodes[i]? =some x):∃y,M.nodes[i]? =some y∧y.links=x.links∧y.kind=x.kind∧y.size=x.size∧y.blocks=x.blocks:=by
  unfold takeR at h
  split at h
  · exact ⟨x,h,rfl,rfl,rfl,rfl⟩
  · rename_i nd hnd
    simp only [MS.set,List.getElem?_set] at h
    split at h
    · rename_i e; subst e
      split at h
      · cases h; exact ⟨nd,hnd,rfl,rfl,rfl,rfl⟩
      · cases h
    · exact ⟨x,h,rfl,rfl,rfl,rfl⟩
set_option maxRecDepth 100000 in
set_option maxHeartbeats 8000000 in
theorem unlink_ret (W:World) (h:AH) (R:MR) (M:MS) (hm:MIs h R M) (ok:MOk M) (kd a n:Int) (p t dt:List UInt8) (v v2:AV) (l:List (List UInt8)) (hs:StrS W h v l) (hl:l.length<8796093022207)
    (hlk:∀nd∈M.nodes,0≤nd.links∧nd.links<1099511627776):
    RetM (CC W) 42 [.ptr (some (.new R.km 0)),opV kd a n p t dt,v,v2] h R (resE (unlinkR M l).1) (unlinkR M l).2:=by
  refine jj9 (cc_ok W) (fn42 W) (by simp only [Tryz.f42]; rfl) rfl rfl ?_
  have hsd:=Side.start hm (.cells [.int .i64 kd,.int .i64 a,.int .i64 n,.str p,.str t,.str dt] 35) (.cells res0 39)
  have hbx:=box_op (h:=h) (l:=[.int .i64 kd,.int .i64 a,.int .i64 n,.str p,.str t,.str dt])
  have hal:=alloc_res (W:=W) (h:=h.push (.cells [.int .i64 kd,.int .i64 a,.int .i64 n,.str p,.str t,.str dt] 35))
  have hg0:((h.push (.cells [.int .i64 kd,.int .i64 a,.int .i64 n,.str p,.str t,.str dt] 35)).push (.cells res0 39)).get (h.push (.cells [.int .i64 kd,.int .i64 a,.int .i64 n,.str p,.str t,.str dt] 35)).next=some (.cells res0 39):=by simp
  generalize (h.push (.cells [.int .i64 kd,.int .i64 a,.int .i64 n,.str p,.str t,.str dt] 35)).push (.cells res0 39)=h2 at hsd hal hg0
  generalize h.push (.cells [.int .i64 kd,.int .i64 a,.int .i64 n,.str p,.str t,.str dt] 35)=h1 at hsd hbx hal hg0
  generalize h1.next=k0 at hsd hal hg0
  generalize h.next=kb at hbx hsd
  have hm2:=hm.keeps hsd.keeps
  have hs2:=hs.keeps hsd.keeps
  simp [push_cast,opV,hbx,hal]
  refine jf9 (by simp [fn72]) (file_ret W h2 R M hm2 ok v l hs2 hl) fun h3 hk3=> ?_
  have hm3:=hm2.keeps hk3
  have hs3:=hs2.keeps hk3
  have hB3:MStep h2 h3 R R:=MStep.refl hk3
  by_cases he:(fileR M l).2=0
  · obtain ⟨hl0,i,nd,hfi,hfd,hnd,hkd⟩:=fileR_ok ok he
    obtain ⟨d,ndd,j,x,hd,hndd,hkdd,hj,hxj,hxi,_⟩:=findR_last ok hl0 hfd
    have hin:i<M.nodes.length:=(List.getElem?_eq_some_iff.1 hnd).1
    have hdn:d<M.nodes.length:=(List.getElem?_eq_some_iff.1 hndd).1
    obtain ⟨rd,ndd',hrd,hndd',_⟩:=hm3.node hdn
    rw [hndd] at hndd'; cases hndd'
    obtain ⟨r,nd',hr,hnd',_⟩:=hm3.node hin
    rw [hnd] at hnd'; cases hnd'
    have hjl:=(List.getElem?_eq_some_iff.1 hxj).1
    have hv:fileV R M l= .tup [.ptr (some (.new r.k 0)),.int .i64 i,.int .i64 0]:=by
      simp [fileV,hfi,MR.at,hr]
    rw [hv]
    simp [push_cast]
    refine je9 (by simp [fn80]) (take_ret W h3 R M hm3 ok v l hs3 hl hl0 d rd ndd (by rw [hd]) hrd hndd j hj hjl) fun w h4 ⟨R4,hw,hm4,hB4,hP4⟩=> ?_
    have hB4':=hB3.trans hB4
    have hin4:i<(takeR M d j).nodes.length:=by rw [takeR_len]; exact hin
    obtain ⟨r4,x4,hr4,hx4,hn4⟩:=hm4.node hin4
    have hrk:r4.k=r.k:=by
      have:=hP4 (i:Int)
      simp [MR.at,hr4,hr] at this
      exact this
    obtain ⟨mv,sv,hc4,_,_⟩:=_root_.id hn4
    obtain ⟨y,hy,hyl,_⟩:=takeR_links hx4
    have hlks:=hlk y (List.mem_of_getElem? hy)
    obtain ⟨n1,hn1⟩:∃n1,x4.links - 1=n1:=⟨_,rfl⟩
    have wl:IntKind.i64.wrap (x4.links - 1)=n1:=by rw [wrap64 (by omega) (by omega)]; exact hn1
    obtain ⟨h5,hst5,hm5,hB5,hP5,mv5,sv5,hc5⟩:=set_links (W:=W) hm4 hr4 hx4 n1
    have hB5':=hB4'.trans hB5
    rw [hrk] at hst5 hc4 hc5
    have hg05:=((hsd.stay hB5' (.inr rfl))).trans hg0
    have hun:unlinkR M l=(0,if n1=0 then ((takeR M d j).set i {x4 with links:=n1}).set i noNode else (takeR M d j).set i {x4 with links:=n1}):=by
      simp only [unlinkR,if_pos he,hd,Int.toNat_natCast,hndd,hj,hfi,hx4,hn1]
      by_cases hz:n1=0
      · simp only [if_pos hz,if_true]
      · simp only [if_neg hz,if_true]
    rw [hun]
    have hst:=st_res (W:=W) (e1:=0) (d1:=[]) (k1:=0) (l1:=0) (s1:=0) (p:=none) (n:=0) (q:=0) (g:=none) hg05
    have hkm5:(R4.set i r4).km=R.km:=hB5'.hds.1
    have hmod5:=hm5.mod
    rw [hkm5] at hmod5
    by_cases hz:n1=0
    · have hin5:i<((takeR M d j).set i {x4 with links:=n1}).nodes.length:=by simp only [MS.set,List.length_set]; exact hin4
      obtain ⟨h6,R6,hst6,hm6,hB6⟩:=new_none (W:=W) hm5 hin5
      have hB6':=hB5'.trans hB6
      have hg06:=((hsd.stay hB6' (.inr rfl))).trans hg0
      have hst0:=st_res (W:=W) (e1:=0) (d1:=[]) (k1:=0) (l1:=0) (s1:=0) (p:=none) (n:=0) (q:=0) (g:=none) hg06
      have hf:=hsd.fin hm6 hB6' (.cells [.int .i64 0,.str [],.int .i64 0,.int .i64 0,.int .i64 0,.sl none 0 0 none] 39)
      rw [if_pos hz]
      subst hz
      simp [push_cast,fa93_1,ld3,ji9 hc4,ji9 hc5,jd9,wl,hst5,fa88_0,ld85,ji9 hmod5,build_no,box_nd,idx_nd hin5,hst6,build_res0,res0,resE,res6,hst0,ld_resS]
      exact ⟨_,hf⟩
    · have hf:=hsd.fin hm5 hB5' (.cells [.int .i64 0,.str [],.int .i64 0,.int .i64 0,.int .i64 0,.sl none 0 0 none] 39)
      rw [if_neg hz]
      simp [push_cast,fa93_1,ld3,ji9 hc4,ji9 hc5,jd9,wl,hst5,hz,build_res0,res0,resE,res6,hst,ld_resS]
      exact ⟨_,hf⟩
  · have hv:fileV R M l= .tup [.ptr none,.int .i64 (fileR M l).1,.int .i64 (fileR M l).2]:=by simp only [fileV,if_neg he]
    have hun:unlinkR M l=((fileR M l).2,M):=by simp only [unlinkR,if_neg he]
    rw [hv,hun]
    simp [push_cast,he]
    refine jf9 (by simp [fn48]) (failed_ret W h3 _) fun h4 hk4=> ?_
    have hg4:=((hsd.stay (hB3.trans (MStep.refl hk4)) (.inr rfl))).trans hg0
    have hst:=st_res (W:=W) (e1:=(fileR M l).2) (d1:=[]) (k1:=0) (l1:=0) (s1:=0) (p:=none) (n:=0) (q:=0) (g:=none) hg4
    have hf:=hsd.fin (hm3.keeps hk4) (hB3.trans (MStep.refl hk4)) (.cells [.int .i64 (fileR M l).2,.str [],.int .i64 0,.int .i64 0,.int .i64 0,.sl none 0 0 none] 39)
    simp [push_cast,resE,res6,hst,ld_resS]
    exact ⟨_,hf⟩
def linkR (M:MS) (l l2:List (List UInt8)):Int×MS:=
  if (fileR M l).2=0 then
    match M.nodes[(fileR M l).1.toNat]? with
    | none=>(0,M)
    | some nd=>
      if nd.links=100 then (310,M)
      else if (parentR M l2).2=0 then
        if (putR M (parentR M l2).1.toNat (l2.getLast?.getD []) (fileR M l).1).1=true then
          match (putR M (parentR M l2).1.toNat (l2.getLast?.getD []) (fileR M l).1).2.nodes[(fileR M l).1.toNat]? with
          | none=>(0,M)
          | some x=>(0,(putR M (parentR M l2).1.toNat (l2.getLast?.getD []) (fileR M l).1).2.set (fileR M l).1.toNat {x with links:=x.links + 1})
        else (306,(putR M (parentR M l2).1.toNat (l2.getLast?.getD []) (fileR M l).1).2)
      else ((parentR M l2).2,M)
  else ((fileR M l).2,M)
theorem putR_links {M:MS} {d i:Nat} {nm:List UInt8} {a:Int} {x:Nd} (h:(putR M d nm a).2.nodes[i]? =some x):∃y,M.nodes[i]? =some y∧y.links=x.links∧y.kind=x.kind∧y.blocks=x.blocks:=by
  have key:∀(nd nd':Nd),M.nodes[d]? =some nd→nd'.links=nd.links→nd'.kind=nd.kind→nd'.blocks=nd.blocks→(M.set d nd').nodes[i]? =some x→∃y,M.nodes[i]? =some y∧y.links=x.links∧y.kind=x.kind∧y.blocks=x.blocks:=by
    intro nd nd' hnd h1 h2 h3 hh
    simp only [MS.set,List.getElem?_set] at hh
    split at hh
    · rename_i e; subst e
      split at hh
      · cases hh; exact ⟨nd,hnd,h1.symm,h2.symm,h3.symm⟩
      · cases hh
    · exact ⟨x,hh,rfl,rfl,rfl⟩
  unfold putR at h
  split at h
  · exact ⟨x,h,rfl,rfl,rfl⟩
  · rename_i nd hnd
    split at h
    · exact key nd _ hnd (by rfl) (by rfl) (by rfl) h
    · split at h
      · exact ⟨x,h,rfl,rfl,rfl⟩
      · exact key nd _ hnd (by rfl) (by rfl) (by rfl) h
set_option maxRecDepth 100000 in
set_option maxHeartbeats 8000000 in
theorem link_ret (W:World) (h:AH) (R:MR) (M:MS) (hm:MIs h R M) (ok:MOk M) (kd a n:Int) (p t dt:List UInt8) (v v2:AV) (l l2:List (List UInt8)) (hs:StrS W h v l) (hl:l.length<8796093022207) (hq:StrS W h v2 l2) (hl2:l2.length<8796093022207)
    (hlk:∀nd∈M.nodes,0≤nd.links∧nd.links<1099511627776) (hb:∀nd∈M.nodes,nd.slots.length + 1<1099511627776∧nd.size + 32<1099511627776):
    RetM (CC W) 41 [.ptr (some (.new R.km 0)),opV kd a n p t dt,v,v2] h R (resE (linkR M l l2).1) (linkR M l l2).2:=by
  refine jj9 (cc_ok W) (fn41 W) (by simp only [Tryz.f41]; rfl) rfl rfl ?_
  have hsd:=Side.start hm (.cells [.int .i64 kd,.int .i64 a,.int .i64 n,.str p,.str t,.str dt] 35) (.cells res0 39)
  have hbx:=box_op (h:=h) (l:=[.int .i64 kd,.int .i64 a,.int .i64 n,.str p,.str t,.str dt])
  have hal:=alloc_res (W:=W) (h:=h.push (.cells [.int .i64 kd,.int .i64 a,.int .i64 n,.str p,.str t,.str dt] 35))
  have hg0:((h.push (.cells [.int .i64 kd,.int .i64 a,.int .i64 n,.str p,.str t,.str dt] 35)).push (.cells res0 39)).get (h.push (.cells [.int .i64 kd,.int .i64 a,.int .i64 n,.str p,.str t,.str dt] 35)).next=some (.cells res0 39):=by simp
  generalize (h.push (.cells [.int .i64 kd,.int .i64 a,.int .i64 n,.str p,.str t,.str dt] 35)).push (.cells res0 39)=h2 at hsd hal hg0
  generalize h.push (.cells [.int .i64 kd,.int .i64 a,.int .i64 n,.str p,.str t,.str dt] 35)=h1 at hsd hbx hal hg0
  generalize h1.next=k0 at hsd hal hg0
  generalize h.next=kb at hbx hsd
  have hm2:=hm.keeps hsd.keeps
  have hs2:=hs.keeps hsd.keeps
  have hq2:=hq.keeps hsd.keeps
  simp [push_cast,opV,hbx,hal]
  refine jf9 (by simp [fn72]) (file_ret W h2 R M hm2 ok v l hs2 hl) fun h3 hk3=> ?_
  have hm3:=hm2.keeps hk3
  have hq3:=hq2.keeps hk3
  have hB3:MStep h2 h3 R R:=MStep.refl hk3
  by_cases he:(fileR M l).2=0
  · obtain ⟨hl0,i,nd,hfi,hfd,hnd,hkd⟩:=fileR_ok ok he
    have hin:i<M.nodes.length:=(List.getElem?_eq_some_iff.1 hnd).1
    obtain ⟨r,nd',hr,hnd',hn3⟩:=hm3.node hin
    rw [hnd] at hnd'; cases hnd'
    obtain ⟨mv,sv,hc3,_,_⟩:=_root_.id hn3
    have hv:fileV R M l= .tup [.ptr (some (.new r.k 0)),.int .i64 i,.int .i64 0]:=by
      simp [fileV,hfi,MR.at,hr]
    have hln:linkR M l l2=if nd.links=100 then ((310:Int),M)
      else if (parentR M l2).2=0 then
        if (putR M (parentR M l2).1.toNat (l2.getLast?.getD []) i).1=true then
          match (putR M (parentR M l2).1.toNat (l2.getLast?.getD []) i).2.nodes[i]? with
          | none=>(0,M)
          | some x=>(0,(putR M (parentR M l2).1.toNat (l2.getLast?.getD []) i).2.set i {x with links:=x.links + 1})
        else (306,(putR M (parentR M l2).1.toNat (l2.getLast?.getD []) i).2)
      else ((parentR M l2).2,M):=by
      simp only [linkR,if_pos he,hfi,Int.toNat_natCast,hnd,if_true]
    rw [hv]
    by_cases h100:nd.links=100
    · rw [hln,if_pos h100]
      simp [push_cast,fa93_1,ld3,ji9 hc3,jd9,h100]
      refine jf9 (by simp [fn48]) (failed_ret W h3 _) fun h9 hk9=> ?_
      have hg9:=((hsd.stay (hB3.trans (MStep.refl hk9)) (.inr rfl))).trans hg0
      have hst:=st_res (W:=W) (e1:=310) (d1:=[]) (k1:=0) (l1:=0) (s1:=0) (p:=none) (n:=0) (q:=0) (g:=none) hg9
      have hf:=hsd.fin (hm3.keeps hk9) (hB3.trans (MStep.refl hk9)) (.cells [.int .i64 310,.str [],.int .i64 0,.int .i64 0,.int .i64 0,.sl none 0 0 none] 39)
      simp [push_cast,resE,res6,hst,ld_resS]
      exact ⟨_,hf⟩
    · rw [if_neg h100] at hln
      simp [push_cast,fa93_1,ld3,ji9 hc3,jd9,h100]
      refine jf9 (by simp [fn68]) (parent_ret W h3 R M hm3 ok v2 l2 hq3 hl2) fun h4 hk4=> ?_
      have hm4:=hm3.keeps hk4
      have hq4:=hq3.keeps hk4
      have hB4:MStep h2 h4 R R:=hB3.trans (MStep.refl hk4)
      by_cases hp:(parentR M l2).2=0
      · obtain ⟨hl20,d,ndd,hd,hndd,hkdd,hpl,_⟩:=parentR_ok ok hp
        have hdn:d<M.nodes.length:=(List.getElem?_eq_some_iff.1 hndd).1
        obtain ⟨rd,ndd',hrd,hndd',_⟩:=hm4.node hdn
        rw [hndd] at hndd'; cases hndd'
        rw [if_pos hp,hd,Int.toNat_natCast] at hln
        have hpv:parentV R M l2= .tup [.ptr (some (.new rd.k 0)),.int .i64 0]:=by
          simp [parentV,hp,hd,MR.at,hrd]
        rw [hpv]
        obtain ⟨av,cv,gv,rfl⟩:=hq.len
        have hpos:0<l2.length:=List.length_pos_iff.2 hl20
        have hlen:∀h,aLen (CC W) h 37 (.sl av l2.length cv gv)=some (.int .i64 l2.length):=fun h=>by simp [aLen,kind37]
        have wi:IntKind.i64.wrap ((l2.length:Int) - 1)=((l2.length - 1:Nat):Int):=by rw [wrap64 (by omega) (by omega)]; omega
        have hlast:l2[l2.length - 1]? =some (l2.getLast?.getD []):=by
          rw [←List.getLast?_eq_getElem?,List.getLast?_eq_some_getLast hl20]; rfl
        obtain ⟨a',hix,hld⟩:=hq4.at hlast
        simp [push_cast,hlen,wi,hix,hld]
        have hbn:=hb ndd (List.mem_of_getElem? hndd)
        refine je9 (by simp [fn71]) (put_ret W h4 R M hm4 ok d rd ndd hrd hndd (l2.getLast?.getD []) i ⟨by omega,by omega⟩ hbn.1 hbn.2) fun w h5 ⟨R5,hw,hm5,hB5,hP5⟩=> ?_
        subst hw
        have hB5':MStep h2 h5 R R5:=hB4.trans hB5
        have hq5:i<(putR M d (l2.getLast?.getD []) i).2.nodes.length:=by rw [putR_len]; exact hin
        obtain ⟨r5,x5,hr5,hx5,hn5⟩:=hm5.node hq5
        have hlkx:=putR_links hx5
        cases hpr:(putR M d (l2.getLast?.getD []) i).1 with
        | false=>
          rw [if_neg (by rw [hpr]; simp)] at hln
          rw [hln]
          simp [push_cast,aUn_not]
          refine jf9 (by simp [fn48]) (failed_ret W h5 _) fun h9 hk9=> ?_
          have hg9:=((hsd.stay (hB5'.trans (MStep.refl hk9)) (.inr rfl))).trans hg0
          have hst:=st_res (W:=W) (e1:=306) (d1:=[]) (k1:=0) (l1:=0) (s1:=0) (p:=none) (n:=0) (q:=0) (g:=none) hg9
          have hf:=hsd.fin (hm5.keeps hk9) (hB5'.trans (MStep.refl hk9)) (.cells [.int .i64 306,.str [],.int .i64 0,.int .i64 0,.int .i64 0,.sl none 0 0 none] 39)
          simp [push_cast,resE,res6,hst,ld_resS]
          exact ⟨_,hf⟩
        | true=>
          rw [if_pos hpr,hx5] at hln
          rw [hln]
          have hrk:r5.k=r.k:=by
            have:=hP5 (i:Int)
            simp [MR.at,hr5,hr] at this
            exact this
          obtain ⟨mv5,sv5,hc5,_,_⟩:=_root_.id hn5
          obtain ⟨y,hy,hyl,_⟩:=hlkx
          have hlks:=hlk y (List.mem_of_getElem? hy)
          have wl:IntKind.i64.wrap (x5.links + 1)=x5.links + 1:=wrap64 (by omega) (by omega)
          obtain ⟨h6,hst6,hm6,hB6,hP6,mv6,sv6,hc6⟩:=set_links (W:=W) hm5 hr5 hx5 (x5.links + 1)
          rw [hrk] at hst6 hc5
          have hB6':=hB5'.trans hB6
          have hg06:=((hsd.stay hB6' (.inr rfl))).trans hg0
          have hst:=st_res (W:=W) (e1:=0) (d1:=[]) (k1:=0) (l1:=0) (s1:=0) (p:=none) (n:=0) (q:=0) (g:=none) hg06
          have hf:=hsd.fin hm6 hB6' (.cells [.int .i64 0,.str [],.int .i64 0,.int .i64 0,.int .i64 0,.sl none 0 0 none] 39)
          simp [push_cast,aUn_not,fa93_1,ld3,ji9 hc5,jd9,wl,hst6,build_res0,res0,resE,res6,hst,ld_resS]
          exact ⟨_,hf⟩
      · rw [if_neg hp] at hln
        have hpv:parentV R M l2= .tup [.ptr none,.int .i64 (parentR M l2).2]:=by simp only [parentV,if_neg hp]
        rw [hpv,hln]
        simp [push_cast,hp]
        refine jf9 (by simp [fn48]) (failed_ret W h4 _) fun h9 hk9=> ?_
        have hg9:=((hsd.stay (hB4.trans (MStep.refl hk9)) (.inr rfl))).trans hg0
        have hst:=st_res (W:=W) (e1:=(parentR M l2).2) (d1:=[]) (k1:=0) (l1:=0) (s1:=0) (p:=none) (n:=0) (q:=0) (g:=none) hg9
        have hf:=hsd.fin (hm4.keeps hk9) (hB4.trans (MStep.refl hk9)) (.cells [.int .i64 (parentR M l2).2,.str [],.int .i64 0,.int .i64 0,.int .i64 0,.sl none 0 0 none] 39)
        simp [push_cast,resE,res6,hst,ld_resS]
        exact ⟨_,hf⟩
  · have hv:fileV R M l= .tup [.ptr none,.int .i64 (fileR M l).1,.int .i64 (fileR M l).2]:=by simp only [fileV,if_neg he]
    have hun:linkR M l l2=((fileR M l).2,M):=by simp only [linkR,if_neg he]
    rw [hv,hun]
    simp [push_cast,he]
    refine jf9 (by simp [fn48]) (failed_ret W h3 _) fun h9 hk9=> ?_
    have hg9:=((hsd.stay (hB3.trans (MStep.refl hk9)) (.inr rfl))).trans hg0
    have hst:=st_res (W:=W) (e1:=(fileR M l).2) (d1:=[]) (k1:=0) (l1:=0) (s1:=0) (p:=none) (n:=0) (q:=0) (g:=none) hg9
    have hf:=hsd.fin (hm3.keeps hk9) (hB3.trans (MStep.refl hk9)) (.cells [.int .i64 (fileR M l).2,.str [],.int .i64 0,.int .i64 0,.int .i64 0,.sl none 0 0 none] 39)
    simp [push_cast,resE,res6,hst,ld_resS]
    exact ⟨_,hf⟩
end Go.Proofs.YtbofhlifobjolaaGreatDoor.Ax
end
section
set_option linter.unusedVariables false
set_option linter.unusedSimpArgs false
namespace Go.Proofs.YtbofhlifobjolaaGreatDoor.Ax
open Go.RowKit Go.Maps Go.Sort Go.Shelf
def sortT (l:List (List UInt8)):List (List UInt8):=l.mergeSort fun x y=>decide (x≤y)
theorem Rel.aheadN {W0 W:World} {ρ:Rho} {h:AH} (R:Rel W0 ρ h W):∀n,Rel W0 ρ h (Go.Sort.ahead W n)
  | 0=>R
  | n + 1=>by rw [←ahead_drew]; exact (R.aheadN n).drew
theorem below_grow (W:World) (os:Array Obj):Below W.heap.size W (grow W os):=
  ⟨rfl,rfl,rfl,by simp [grow],fun j hj=>by simp [grow,Array.getElem?_append_left hj]⟩
set_option maxHeartbeats 2000000 in
theorem sortS_ret (W:World) (h:AH) (k cap:Nat) (gr:Option Nat) (l:List (List UInt8)) (t:TypeId) (hg:h.get k=some (.cells (l.map .str) t)) (hl:l.length<4611686018427387904) (hne:0<l.length):
    ACall (CC W) 112 [.sl (some (.new k 0)) l.length cap gr] h (fun w h'=>w= .tup []∧h'=h.set k (.cells ((sortT l).map .str) t)) (fun _ _=>False):=by
  intro ρ W1 vs R hv
  simp only [VsRel,VRel] at hv
  obtain ⟨X,xs,e1,⟨r,A,cap',hr,rfl,h1,h2,h3,h4⟩,rfl⟩:=hv
  obtain ⟨r',hr',hb0,c,fr,hb,hz,hl1,hall,hfr⟩:=R.live k _ hg
  rw [hr] at hr'; cases hr'
  have h0:=R.home r (List.mem_of_getElem? hr)
  rcases h4 with ⟨rfl,_⟩ | h4
  case inr=>omega
  rw [h0] at e1 hl1
  have ev:vs= #[.slice (some ⟨r.b,0,none⟩) l.length cap']:=Array.toList_inj.1 e1
  rw [ev]
  have hlt:r.b<W1.heap.size:=(Array.getElem?_eq_some_iff.1 hb).1
  simp only [List.length_map,Nat.zero_add] at hl1
  have hcell:∀(j:Nat) (x:List UInt8),l[j]? =some x→c[j]? =some (encStr x):=fun j x hx=>by
    obtain ⟨V,hV,hVr⟩:=hall j (.str x) (by simp [hx])
    rw [h0,Nat.zero_add] at hV
    simp only [VRel] at hVr
    subst hVr
    exact hV
  have hH:Holds encStr W1 r.b 0 l.toArray:=fun j hj=>by
    have hj':j<l.length:=by simpa using hj
    have hx:l[j]? =some l[j]:=by simp [hj']
    have hc:=hcell j _ hx
    refine ⟨?_,?_⟩
    · simp [World.cell?,hb,hc,hj']
    · have:=hfr j (by omega)
      simp only [World.frozen?,hb,Nat.zero_add]
      simpa using this
  refine (AnyM.slices_Sort_string Sh.sortS r.b 0 cap' l W1 hH hlt hl).mono fun e W' ⟨he,n,os,hw⟩=> ?_
  subst he
  subst hw
  have hsl:(sortT l).length=l.length:=(List.mergeSort_perm l _).length_eq
  have hput:(putRow encStr (Go.Sort.ahead W1 n) r.b 0 (sortT l).toArray).heap[r.b]? =some (.cells (putCells encStr 0 (sortT l).toArray c) t fr):=by
    have hb':(Go.Sort.ahead W1 n).heap[r.b]? =some (.cells c t fr):=hb
    show ((Go.Sort.ahead W1 n).heap.modify r.b (onCells (putCells encStr 0 (sortT l).toArray)))[r.b]? =_
    rw [Array.getElem?_modify,if_pos rfl,hb']
    rfl
  have R2:=(R.aheadN n).set hg (.cells ((sortT l).map .str) t) hr (W':=putRow encStr (Go.Sort.ahead W1 n) r.b 0 (sortT l).toArray)
    (fun j hj=>by simp [putRow,mapBlock,Array.getElem?_modify,hj.symm]) (by simp) rfl rfl rfl
    ⟨_,fr,hput,by simp [putCells,hz],by rw [h0]; simp only [List.length_map,hsl]; omega,fun i v hi=>by
      simp only [List.getElem?_map,Option.map_eq_some_iff] at hi
      obtain ⟨x,hx,rfl⟩:=hi
      have hil:i<(sortT l).length:=(List.getElem?_eq_some_iff.1 hx).1
      have hic:i<c.size:=by omega
      refine ⟨encStr x,?_,rfl⟩
      rw [h0,Nat.zero_add]
      simp only [putCells,Array.getElem?_mapIdx]
      have:(sortT l).toArray[i]! =x:=by simp [hx]
      simp [hic,hil,this]
      rw [List.getElem?_eq_getElem hil] at hx
      exact Option.some.inj hx,fun j hj=>hfr j (by simpa [putCells] using hj)⟩
  exact ⟨ρ,.tup [],_,List.prefix_refl _,R2.belowEnd (below_grow _ os),by simp [VRel,VsRel],rfl,rfl⟩
theorem sortS_zero (W:World) (h:AH) (v:AV) (hz:∀ρ V,VRel ρ v V→∃p cap,V= .slice p 0 cap):ACall (CC W) 112 [v] h (fun w h'=>w= .tup []∧h'=h) (fun _ _=>False):=by
  refine ret_of_calls fun ρ W1 vs R hv=> ?_
  simp only [VsRel] at hv
  obtain ⟨X,xs,e1,hX,rfl⟩:=hv
  obtain ⟨p,cap,rfl⟩:=hz ρ X hX
  have ev:vs= #[.slice p 0 cap]:=Array.toList_inj.1 e1
  rw [ev]
  refine (AnyM.slices_Sort_string_none Sh.sortS p cap W1).mono fun e W' ⟨he,hw⟩=> ?_
  subst he; subst hw
  exact ⟨⟨_,rfl,by simp [VRel,VsRel]⟩,Below.refl _ _⟩
theorem sortO_ret (W:World) (h0 h:AH) (v:AV) (l:List (List UInt8)) (ho:OwnS h0 h v l) (hl:l.length<4611686018427387904):
    ACall (CC W) 112 [v] h (fun w h'=>w= .tup []∧OwnS h0 h' v (sortT l)) (fun _ _=>False):=by
  obtain ⟨hk,⟨rfl,rfl⟩ | ⟨k,h1,h2,h3,rfl⟩⟩:=ho
  · exact (sortS_zero W h _ fun ρ V hV=>by simp only [VRel] at hV; obtain ⟨_,_,_,rfl⟩:=hV; exact ⟨_,_,rfl⟩).mono (fun w h' ⟨a,b⟩=>⟨a,by rw [b]; exact hk,.inl ⟨by simp [sortT],rfl⟩⟩) fun _ _ x=>x
  · by_cases hne:0<l.length
    · refine (sortS_ret W h k l.length (some 1) l 9 h3 hl hne).mono (fun w h' ⟨a,b⟩=>⟨a,?_⟩) fun _ _ x=>x
      have hsl:(sortT l).length=l.length:=(List.mergeSort_perm l _).length_eq
      subst b
      refine ⟨⟨by simp; exact hk.1,fun j hj=> ?_⟩,.inr ⟨k,h1,by simp; exact h2,by simp,by rw [hsl]⟩⟩
      have:j≠k:=by omega
      simp [this]
      exact hk.2 j hj
    · obtain rfl:l=[]:=List.eq_nil_of_length_eq_zero (by omega)
      refine (sortS_zero W h _ fun ρ V hV=> ?_).mono (fun w h' ⟨a,b⟩=>⟨a,by rw [b]; exact hk,.inr ⟨k,h1,by rw [b]; exact h2,by rw [b]; simpa [sortT] using h3,by simp [sortT]⟩⟩) fun _ _ x=>x
      simp only [VRel] at hV
      obtain ⟨r,A,cap',_,rfl,_⟩:=hV
      exact ⟨_,_,rfl⟩
end Go.Proofs.YtbofhlifobjolaaGreatDoor.Ax
end
section
set_option linter.unusedVariables false
set_option linter.unusedSimpArgs false
namespace Go.Proofs.YtbofhlifobjolaaGreatDoor.Ax
open Go.RowKit
def nmsR (l:List Slt):List (List UInt8):=l.filterMap fun s=>if s.nm=[] then none else some s.nm
theorem OwnS.keeps {h0 h h':AH} {v:AV} {l:List (List UInt8)} (ho:OwnS h0 h v l) (hk:Keeps h h'):OwnS h0 h' v l:=by
  obtain ⟨a,b⟩:=ho
  refine ⟨a.trans hk,?_⟩
  rcases b with b | ⟨k,h1,h2,h3,h4⟩
  · exact .inl b
  · exact .inr ⟨k,h1,Nat.lt_of_lt_of_le h2 hk.1,(hk.2 k h2).trans h3,h4⟩
section
variable {W:World} {h:AH}
theorem alloc_slt:aAlloc (CC W) h 159=some (.ptr (some (.new h.next 0)),h.push (.cells [.str [],.int .i64 0] 159)):=rfl
theorem st_slt0 {a b:AV} {k:Nat} {s:List UInt8} {n:Int} (hg:h.get k=some (.cells [a,b] 159)):
    aStoreOp (CC W) h 159 (.ptr (some (.new k 0))) (.agg [.str s,.int .i64 n])=some (h.set k (.cells [.str s,.int .i64 n] 159)):=by
  simp only [aStoreOp,aCellsOf,size159,aStore,hg]
  rfl
end
def NamesI (h:AH) (sv:AV) (l:List Slt) (m:Nat) (e':Env) (h':AH):Prop:=
  e'.length=27∧∃i:Nat,i + m=l.length∧OwnS h h' (e'.getD 3 .undef) (nmsR (l.take i))∧
    (e'.getD 9 .undef=sv∧e'.getD 10 .undef= .int .i64 l.length∧e'.getD 11 .undef= .int .i64 i)
theorem nmsR_len (l:List Slt):(nmsR l).length≤l.length:=List.length_filterMap_le _ _
set_option maxRecDepth 100000 in
set_option maxHeartbeats 8000000 in
theorem names_ret (W:World) (h:AH) (r:NR) (nd:Nd) (hn:NodeIs h r nd) (hlow:∀k∈r.ids,k<h.next) (hl:nd.slots.length<1099511627776):
    RetQ (CC W) 79 [.ptr (some (.new r.k 0))] h (fun v h'=>OwnS h h' v (sortT (nmsR nd.slots))):=by
  refine jj9 (cc_ok W) (fn79 W) (by simp only [Tryz.f79]; rfl) rfl rfl ?_
  obtain ⟨mv,sv,hc,hmp,hsl⟩:=_root_.id hn
  have hlen:=hsl.len (W:=W)
  simp [push_cast,fa93_4,ld91,ji9 hc,jd9,hlen]
  refine loopN (cc_ok W) (NamesI h sv nd.slots) nd.slots.length ⟨by simp,0,by simp,OwnS.start h,by simp⟩ ?_
  rintro m e' h' ⟨hlen',i,him,ho,hh⟩
  match e',hlen' with
  | a0::a1::a2::a3::a4::a5::a6::a7::a8::a9::a10::a11::a12::a13::a14::a15::a16::a17::a18::a19::a20::a21::a22::a23::a24::a25::a26::[],_=>
    simp at hh ho
    obtain ⟨rfl,rfl,rfl⟩:=hh
    by_cases hlt:i<nd.slots.length
    · have hlt':(i:Int)<(nd.slots.length:Int):=by omega
      have wi:IntKind.i64.wrap ((i:Int) + 1)=(i:Int) + 1:=wrap64 (by omega) (by omega)
      have hx:nd.slots[i]? =some nd.slots[i]:=by simp [hlt]
      have htk:nd.slots.take (i + 1)=nd.slots.take i ++ [nd.slots[i]]:=by rw [List.take_add_one,hx]; rfl
      have hnl:(nmsR (nd.slots.take i)).length<8796093022207:=by
        have:=nmsR_len (nd.slots.take i); simp at this; omega
      generalize nd.slots[i]=x at hx htk
      obtain ⟨ks,hrs,cap,sp,rfl,hg,hcap⟩:=SlotsIs.at hsl hx
      have hg':=(ho.1.2 ks (hlow ks (by simp [NR.ids,hrs]))).trans hg
      have hld:=ld_slt (W:=W) (t:=159) hg' hx
      simp only [Slt.cells] at hld
      have hst:=st_slt0 (W:=W) (a:= .str []) (b:= .int .i64 0) (h:=h'.push (.cells [.str [],.int .i64 0] 159)) (k:=h'.next) (s:=x.nm) (n:=x.ino) (by simp)
      have hk2:Keeps h' ((h'.push (.cells [.str [],.int .i64 0] 159)).set h'.next (.cells [.str x.nm,.int .i64 x.ino] 159)):=⟨by simp,fun j hj=>by
        have:j≠h'.next:=by omega
        simp [this]⟩
      have hgn:((h'.push (.cells [.str [],.int .i64 0] 159)).set h'.next (.cells [.str x.nm,.int .i64 x.ino] 159)).get h'.next=some (.cells [.str x.nm,.int .i64 x.ino] 159):=by simp
      generalize (h'.push (.cells [.str [],.int .i64 0] 159)).set h'.next (.cells [.str x.nm,.int .i64 x.ino] 159)=h2 at hst hk2 hgn
      have ho2:=ho.keeps hk2
      by_cases hnm:x.nm=[]
      · have hne:nmsR (nd.slots.take (i + 1))=nmsR (nd.slots.take i):=by
          rw [htk]; simp [nmsR,hnm]
        rw [hnm] at hst hgn
        simp [push_cast,hlt,hlt',idx_slt hlt,hld,hnm,alloc_slt,hst,fa159_0,ld9,ji9 hgn,aStr,wi]
        exact ⟨m - 1,by omega,by simp,i + 1,by omega,by rw [hne]; exact ho2,by simp⟩
      · have hne:nmsR (nd.slots.take (i + 1))=nmsR (nd.slots.take i) ++ [x.nm]:=by
          rw [htk]; simp [nmsR,hnm]
        obtain ⟨v',h3,hap,ho3⟩:=append_str (W:=W) (x:=x.nm) ho2 hnl
        simp [push_cast,hlt,hlt',idx_slt hlt,hld,hnm,alloc_slt,hst,fa159_0,ld9,ji9 hgn,aStr,wi,build_str,hap]
        exact ⟨m - 1,by omega,by simp,i + 1,by omega,by rw [hne]; exact ho3,by simp⟩
    · have hlt':¬(i:Int)<(nd.slots.length:Int):=by omega
      have hi:nd.slots.take i=nd.slots:=List.take_of_length_le (by omega)
      rw [hi] at ho
      have hnl:(nmsR nd.slots).length<4611686018427387904:=by
        have:=nmsR_len nd.slots; omega
      simp [push_cast,hlt,hlt']
      refine je9 (by simp [fn112]) (sortO_ret W h h' _ _ ho hnl) fun w h2 ⟨hw,ho2⟩=> ?_
      subst hw
      simp [push_cast]
      exact ⟨ho2.1,ho2⟩
def rmdirR (M:MS) (l:List (List UInt8)):Int×MS:=
  if l=[] then (309,M)
  else if (findR M l 0).2=0 then
    match M.nodes[(findR M l 0).1.toNat]?,M.nodes[(findR M l.dropLast 0).1.toNat]? with
    | some nd,some ndd=>
      if nd.kind=2 then
        if 0<(nmsR nd.slots).length then (305,M)
        else (0,(takeR M (findR M l.dropLast 0).1.toNat (placeR ndd.slots (l.getLast?.getD [])).toNat).set (findR M l 0).1.toNat noNode)
      else (303,M)
    | _,_=>(0,M)
  else ((findR M l 0).2,M)
set_option maxRecDepth 100000 in
set_option maxHeartbeats 8000000 in
theorem rmdir_ret (W:World) (h:AH) (R:MR) (M:MS) (hm:MIs h R M) (ok:MOk M) (kd a n:Int) (p t dt:List UInt8) (v v2:AV) (l:List (List UInt8)) (hs:StrS W h v l) (hl:l.length<8796093022207):
    RetM (CC W) 43 [.ptr (some (.new R.km 0)),opV kd a n p t dt,v,v2] h R (resE (rmdirR M l).1) (rmdirR M l).2:=by
  refine jj9 (cc_ok W) (fn43 W) (by simp only [Tryz.f43]; rfl) rfl rfl ?_
  have hsd:=Side.start hm (.cells [.int .i64 kd,.int .i64 a,.int .i64 n,.str p,.str t,.str dt] 35) (.cells res0 39)
  have hbx:=box_op (h:=h) (l:=[.int .i64 kd,.int .i64 a,.int .i64 n,.str p,.str t,.str dt])
  have hal:=alloc_res (W:=W) (h:=h.push (.cells [.int .i64 kd,.int .i64 a,.int .i64 n,.str p,.str t,.str dt] 35))
  have hg0:((h.push (.cells [.int .i64 kd,.int .i64 a,.int .i64 n,.str p,.str t,.str dt] 35)).push (.cells res0 39)).get (h.push (.cells [.int .i64 kd,.int .i64 a,.int .i64 n,.str p,.str t,.str dt] 35)).next=some (.cells res0 39):=by simp
  generalize (h.push (.cells [.int .i64 kd,.int .i64 a,.int .i64 n,.str p,.str t,.str dt] 35)).push (.cells res0 39)=h2 at hsd hal hg0
  generalize h.push (.cells [.int .i64 kd,.int .i64 a,.int .i64 n,.str p,.str t,.str dt] 35)=h1 at hsd hbx hal hg0
  generalize h1.next=k0 at hsd hal hg0
  generalize h.next=kb at hbx hsd
  have hm2:=hm.keeps hsd.keeps
  have hs2:=hs.keeps hsd.keeps
  obtain ⟨av,cv,gv,rfl⟩:=hs.len
  have hlen:∀h,aLen (CC W) h 37 (.sl av l.length cv gv)=some (.int .i64 l.length):=fun h=>by simp [aLen,kind37]
  have hB2:MStep h2 h2 R R:=MStep.refl (Keeps.refl _)
  by_cases hl0:l=[]
  · have hr:rmdirR M l=(309,M):=by simp only [rmdirR,if_pos hl0]
    rw [hr]
    simp [push_cast,opV,hbx,hal,hlen,hl0]
    refine jf9 (by simp [fn48]) (failed_ret W h2 _) fun h9 hk9=> ?_
    have hg9:=((hsd.stay (hB2.trans (MStep.refl hk9)) (.inr rfl))).trans hg0
    have hst:=st_res (W:=W) (e1:=309) (d1:=[]) (k1:=0) (l1:=0) (s1:=0) (p:=none) (n:=0) (q:=0) (g:=none) hg9
    have hf:=hsd.fin (hm2.keeps hk9) (hB2.trans (MStep.refl hk9)) (.cells [.int .i64 309,.str [],.int .i64 0,.int .i64 0,.int .i64 0,.sl none 0 0 none] 39)
    simp [push_cast,resE,res6,hst,ld_resS]
    exact ⟨_,hf⟩
  · have hpos:0<l.length:=List.length_pos_iff.2 hl0
    have hne:¬(l.length:Int)=0:=by omega
    simp [push_cast,opV,hbx,hal,hlen,hl0,hne]
    refine jf9 (by simp [fn78]) (find_ret W h2 R M hm2 ok _ l hs2 hl) fun h3 hk3=> ?_
    have hm3:=hm2.keeps hk3
    have hs3:=hs2.keeps hk3
    have hB3:MStep h2 h3 R R:=MStep.refl hk3
    by_cases he:(findR M l 0).2=0
    · obtain ⟨b0,b1⟩:=findR_lt ok l 0 (by omega) (by have:=ok.some; omega)
      obtain ⟨i,hi⟩:=Int.eq_ofNat_of_zero_le b0
      have hfd:findR M l 0=((i:Int),0):=Prod.ext hi he
      obtain ⟨d,ndd,j,x,hd,hndd,hkdd,hj,hxj,hxi,_⟩:=findR_last ok hl0 hfd
      have hin:i<M.nodes.length:=by omega
      have hdn:d<M.nodes.length:=(List.getElem?_eq_some_iff.1 hndd).1
      obtain ⟨rd,ndd',hrd,hndd',_⟩:=hm3.node hdn
      rw [hndd] at hndd'; cases hndd'
      obtain ⟨r,nd,hr,hnd,hn3⟩:=hm3.node hin
      obtain ⟨mv,sv,hc3,_,_⟩:=_root_.id hn3
      have hjl:=(List.getElem?_eq_some_iff.1 hxj).1
      have hlow3:∀k∈r.ids,k<h3.next:=fun k hk=>hm3.low k (mem_ids hr hk)
      have hrm:rmdirR M l=if nd.kind=2 then
          if 0<(nmsR nd.slots).length then ((305:Int),M) else (0,(takeR M d j).set i noNode)
        else (303,M):=by
        simp only [rmdirR,if_neg hl0,if_pos he,hfd,hd,Int.toNat_natCast,hnd,hndd,hj,if_true]
      rw [hfd]
      by_cases hkd:nd.kind=2
      · rw [if_pos hkd] at hrm
        simp [push_cast,fa88_0,ld85,ji9 hm3.mod,jd9,idx_nd hin,ld89,cell_nd hm3 hr,fa93_0,ld3,ji9 hc3,hkd]
        refine jg9 (by simp [fn79]) (names_ret W h3 r nd hn3 hlow3 (ok.short nd (List.mem_of_getElem? hnd))) fun v4 h4 hk4 ho4=> ?_
        have hm4:=hm3.keeps hk4
        have hs4:=hs3.keeps hk4
        have hB4:MStep h2 h4 R R:=hB3.trans (MStep.refl hk4)
        obtain ⟨a4,c4,g4,rfl⟩:=ho4.len
        have hsl:(sortT (nmsR nd.slots)).length=(nmsR nd.slots).length:=(List.mergeSort_perm _ _).length_eq
        rw [hsl]
        have hlen4:∀h,aLen (CC W) h 37 (.sl a4 (nmsR nd.slots).length c4 g4)=some (.int .i64 (nmsR nd.slots).length):=fun h=>by simp [aLen,kind37]
        by_cases hz:0<(nmsR nd.slots).length
        · have hz':(0:Int)<((nmsR nd.slots).length:Int):=by omega
          rw [if_pos hz] at hrm
          rw [hrm]
          simp [push_cast,hlen4,hz,hz']
          refine jf9 (by simp [fn48]) (failed_ret W h4 _) fun h9 hk9=> ?_
          have hg9:=((hsd.stay (hB4.trans (MStep.refl hk9)) (.inr rfl))).trans hg0
          have hst:=st_res (W:=W) (e1:=305) (d1:=[]) (k1:=0) (l1:=0) (s1:=0) (p:=none) (n:=0) (q:=0) (g:=none) hg9
          have hf:=hsd.fin (hm4.keeps hk9) (hB4.trans (MStep.refl hk9)) (.cells [.int .i64 305,.str [],.int .i64 0,.int .i64 0,.int .i64 0,.sl none 0 0 none] 39)
          simp [push_cast,resE,res6,hst,ld_resS]
          exact ⟨_,hf⟩
        · have hz':¬(0:Int)<((nmsR nd.slots).length:Int):=by omega
          rw [if_neg hz] at hrm
          rw [hrm]
          simp [push_cast,hlen4,hz,hz']
          refine je9 (by simp [fn80]) (take_ret W h4 R M hm4 ok _ l hs4 hl hl0 d rd ndd (by rw [hd]) hrd hndd j hj hjl) fun w h5 ⟨R5,hw,hm5,hB5,hP5⟩=> ?_
          have hB5':=hB4.trans hB5
          have hin5:i<(takeR M d j).nodes.length:=by rw [takeR_len]; exact hin
          obtain ⟨h6,R6,hst6,hm6,hB6⟩:=new_none (W:=W) hm5 hin5
          have hB6':=hB5'.trans hB6
          have hkm5:R5.km=R.km:=hB5'.hds.1
          have hmod5:=hm5.mod
          rw [hkm5] at hmod5
          have hg06:=((hsd.stay hB6' (.inr rfl))).trans hg0
          have hst:=st_res (W:=W) (e1:=0) (d1:=[]) (k1:=0) (l1:=0) (s1:=0) (p:=none) (n:=0) (q:=0) (g:=none) hg06
          have hf:=hsd.fin hm6 hB6' (.cells [.int .i64 0,.str [],.int .i64 0,.int .i64 0,.int .i64 0,.sl none 0 0 none] 39)
          simp [push_cast,fa88_0,ld85,ji9 hmod5,jd9,build_no,box_nd,idx_nd hin5,hst6,build_res0,res0,resE,res6,hst,ld_resS]
          exact ⟨_,hf⟩
      · rw [if_neg hkd] at hrm
        rw [hrm]
        simp [push_cast,fa88_0,ld85,ji9 hm3.mod,jd9,idx_nd hin,ld89,cell_nd hm3 hr,fa93_0,ld3,ji9 hc3,hkd]
        refine jf9 (by simp [fn48]) (failed_ret W h3 _) fun h9 hk9=> ?_
        have hg9:=((hsd.stay (hB3.trans (MStep.refl hk9)) (.inr rfl))).trans hg0
        have hst:=st_res (W:=W) (e1:=303) (d1:=[]) (k1:=0) (l1:=0) (s1:=0) (p:=none) (n:=0) (q:=0) (g:=none) hg9
        have hf:=hsd.fin (hm3.keeps hk9) (hB3.trans (MStep.refl hk9)) (.cells [.int .i64 303,.str [],.int .i64 0,.int .i64 0,.int .i64 0,.sl none 0 0 none] 39)
        simp [push_cast,resE,res6,hst,ld_resS]
        exact ⟨_,hf⟩
    · have hun:rmdirR M l=((findR M l 0).2,M):=by simp only [rmdirR,if_neg hl0,if_neg he]
      rw [hun]
      simp [push_cast,he]
      refine jf9 (by simp [fn48]) (failed_ret W h3 _) fun h9 hk9=> ?_
      have hg9:=((hsd.stay (hB3.trans (MStep.refl hk9)) (.inr rfl))).trans hg0
      have hst:=st_res (W:=W) (e1:=(findR M l 0).2) (d1:=[]) (k1:=0) (l1:=0) (s1:=0) (p:=none) (n:=0) (q:=0) (g:=none) hg9
      have hf:=hsd.fin (hm3.keeps hk9) (hB3.trans (MStep.refl hk9)) (.cells [.int .i64 (findR M l 0).2,.str [],.int .i64 0,.int .i64 0,.int .i64 0,.sl none 0 0 none] 39)
      simp [push_cast,resE,res6,hst,ld_resS]
      exact ⟨_,hf⟩
structure Res where
  e:Int
  data:List UInt8
  kind:Int
  links:Int
  size:Int
  names:List (List UInt8)
def Res.err (e:Int):Res:=⟨e,[],0,0,0,[]⟩
def NmS (h0 h:AH) (nv:AV) (l:List (List UInt8)):Prop:=l=[]∧nv= .sl none 0 0 none∨∃k,h0.next≤k∧k<h.next∧h.get k=some (.cells (l.map .str) 9)∧nv= .sl (some (.new k 0)) l.length l.length (some 1)
def ResIs (h0 h:AH) (w:AV) (r:Res):Prop:=∃nv,w= .agg (res6 r.e r.data r.kind r.links r.size nv)∧NmS h0 h nv r.names
theorem ResIs.err {h0 h:AH} {e:Int}:ResIs h0 h (resE e) (Res.err e):=⟨_,rfl,.inl ⟨rfl,rfl⟩⟩
def RetO (W:World) (f:FuncId) (args:List AV) (h:AH) (R:MR) (r:Res) (M':MS):Prop:=ACall (CC W) f args h (fun w h'=>∃R',ResIs h h' w r∧MIs h' R' M'∧MStep h h' R R') (fun _ _=>False)
theorem RetM.retO {W:World} {f:FuncId} {args:List AV} {h:AH} {R:MR} {e:Int} {M':MS} (hr:RetM (CC W) f args h R (resE e) M'):RetO W f args h R (Res.err e) M':=
  hr.mono (fun w h' ⟨R',hw,a,b⟩=>⟨R',hw ▸ ResIs.err,a,b⟩) fun _ _ x=>x
theorem OwnS.setOther {h00 h0 h:AH} {v:AV} {l:List (List UInt8)} (ho:OwnS h0 h v l) {k0:Nat} (hk:k0<h0.next) (hn:h00.next≤h0.next) (c:AObj):NmS h00 (h.set k0 c) v l:=by
  obtain ⟨_,⟨rfl,rfl⟩ | ⟨k,h1,h2,h3,rfl⟩⟩:=ho
  · exact .inl ⟨rfl,rfl⟩
  · have:k≠k0:=by omega
    exact .inr ⟨k,by omega,h2,by simp [this]; exact h3,rfl⟩
theorem NmS.setOther {h0 h:AH} {v:AV} {l:List (List UInt8)} (ho:NmS h0 h v l) {k0:Nat} (hk:k0<h0.next) {h00:AH} (hn:h00.next≤h0.next) (c:AObj):NmS h00 (h.set k0 c) v l:=by
  rcases ho with ⟨rfl,rfl⟩ | ⟨k,h1,h2,h3,rfl⟩
  · exact .inl ⟨rfl,rfl⟩
  · have:k≠k0:=by omega
    exact .inr ⟨k,by omega,h2,by simp [this]; exact h3,rfl⟩
theorem NmS.isSl {h0 h:AH} {v:AV} {l:List (List UInt8)} (ho:NmS h0 h v l):∃p n c g,v= .sl p n c g:=by
  rcases ho with ⟨_,rfl⟩ | ⟨k,_,_,_,rfl⟩<;>exact ⟨_,_,_,_,rfl⟩
theorem build_names {W:World} {p:Option AA} {n c:Nat} {g:Option Nat}:aBuild (CC W) 39 [(5,.sl p n c g)]=some (.agg [.int .i64 0,.str [],.int .i64 0,.int .i64 0,.int .i64 0,.sl p n c g]):=rfl
def listR (M:MS) (l:List (List UInt8)):Res:=
  if (findR M l 0).2=0 then
    match M.nodes[(findR M l 0).1.toNat]? with
    | some nd=>if nd.kind=2 then ⟨0,[],0,0,0,sortT (nmsR nd.slots)⟩ else Res.err 303
    | none=>Res.err 303
  else Res.err (findR M l 0).2
set_option maxRecDepth 100000 in
set_option maxHeartbeats 8000000 in
theorem list_ret (W:World) (h:AH) (R:MR) (M:MS) (hm:MIs h R M) (ok:MOk M) (kd a n:Int) (p t dt:List UInt8) (v v2:AV) (l:List (List UInt8)) (hs:StrS W h v l) (hl:l.length<8796093022207):
    RetO W 40 [.ptr (some (.new R.km 0)),opV kd a n p t dt,v,v2] h R (listR M l) M:=by
  refine jj9 (cc_ok W) (fn40 W) (by simp only [Tryz.f40]; rfl) rfl rfl ?_
  have hsd:=Side.start hm (.cells [.int .i64 kd,.int .i64 a,.int .i64 n,.str p,.str t,.str dt] 35) (.cells res0 39)
  have hbx:=box_op (h:=h) (l:=[.int .i64 kd,.int .i64 a,.int .i64 n,.str p,.str t,.str dt])
  have hal:=alloc_res (W:=W) (h:=h.push (.cells [.int .i64 kd,.int .i64 a,.int .i64 n,.str p,.str t,.str dt] 35))
  have hg0:((h.push (.cells [.int .i64 kd,.int .i64 a,.int .i64 n,.str p,.str t,.str dt] 35)).push (.cells res0 39)).get (h.push (.cells [.int .i64 kd,.int .i64 a,.int .i64 n,.str p,.str t,.str dt] 35)).next=some (.cells res0 39):=by simp
  generalize (h.push (.cells [.int .i64 kd,.int .i64 a,.int .i64 n,.str p,.str t,.str dt] 35)).push (.cells res0 39)=h2 at hsd hal hg0
  generalize h.push (.cells [.int .i64 kd,.int .i64 a,.int .i64 n,.str p,.str t,.str dt] 35)=h1 at hsd hbx hal hg0
  generalize h1.next=k0 at hsd hal hg0
  generalize h.next=kb at hbx hsd
  have hm2:=hm.keeps hsd.keeps
  have hs2:=hs.keeps hsd.keeps
  simp [push_cast,opV,hbx,hal]
  refine jf9 (by simp [fn78]) (find_ret W h2 R M hm2 ok _ l hs2 hl) fun h3 hk3=> ?_
  have hm3:=hm2.keeps hk3
  have hB3:MStep h2 h3 R R:=MStep.refl hk3
  by_cases he:(findR M l 0).2=0
  · obtain ⟨b0,b1⟩:=findR_lt ok l 0 (by omega) (by have:=ok.some; omega)
    obtain ⟨i,hi⟩:=Int.eq_ofNat_of_zero_le b0
    have hfd:findR M l 0=((i:Int),0):=Prod.ext hi he
    have hin:i<M.nodes.length:=by omega
    obtain ⟨r,nd,hr,hnd,hn3⟩:=hm3.node hin
    obtain ⟨mv,sv,hc3,_,_⟩:=_root_.id hn3
    have hlow3:∀k∈r.ids,k<h3.next:=fun k hk=>hm3.low k (mem_ids hr hk)
    have hls:listR M l=if nd.kind=2 then ⟨0,[],0,0,0,sortT (nmsR nd.slots)⟩ else Res.err 303:=by
      simp only [listR,hfd,Int.toNat_natCast,hnd,if_true]
    rw [hfd]
    by_cases hkd:nd.kind=2
    · rw [if_pos hkd] at hls
      rw [hls]
      simp [push_cast,fa88_0,ld85,ji9 hm3.mod,jd9,idx_nd hin,ld89,cell_nd hm3 hr,fa93_0,ld3,ji9 hc3,hkd]
      refine jg9 (by simp [fn79]) (names_ret W h3 r nd hn3 hlow3 (ok.short nd (List.mem_of_getElem? hnd))) fun v4 h4 hk4 ho4=> ?_
      have hm4:=hm3.keeps hk4
      have hB4:MStep h2 h4 R R:=hB3.trans (MStep.refl hk4)
      have hss:=ho4.setOther (h00:=h) (k0:=k0) (by have:=hsd.h0; have:=hk3.1; omega) (by have:=hsd.keeps.1; have:=hk3.1; omega)
      obtain ⟨a4,c4,g4,rfl⟩:=ho4.len
      have hg04:=((hsd.stay hB4 (.inr rfl))).trans hg0
      have hst:=st_res (W:=W) (e1:=0) (d1:=[]) (k1:=0) (l1:=0) (s1:=0) (p:=a4) (n:=(sortT (nmsR nd.slots)).length) (q:=c4) (g:=g4) hg04
      have hf:=hsd.fin hm4 hB4 (.cells [.int .i64 0,.str [],.int .i64 0,.int .i64 0,.int .i64 0,.sl a4 (sortT (nmsR nd.slots)).length c4 g4] 39)
      simp [push_cast,build_names,res6,hst,ld_resS]
      exact ⟨⟨_,rfl,hss _⟩,_,hf⟩
    · rw [if_neg hkd] at hls
      rw [hls]
      simp [push_cast,fa88_0,ld85,ji9 hm3.mod,jd9,idx_nd hin,ld89,cell_nd hm3 hr,fa93_0,ld3,ji9 hc3,hkd]
      refine jf9 (by simp [fn48]) (failed_ret W h3 _) fun h9 hk9=> ?_
      have hg9:=((hsd.stay (hB3.trans (MStep.refl hk9)) (.inr rfl))).trans hg0
      have hst:=st_res (W:=W) (e1:=303) (d1:=[]) (k1:=0) (l1:=0) (s1:=0) (p:=none) (n:=0) (q:=0) (g:=none) hg9
      have hf:=hsd.fin (hm3.keeps hk9) (hB3.trans (MStep.refl hk9)) (.cells [.int .i64 303,.str [],.int .i64 0,.int .i64 0,.int .i64 0,.sl none 0 0 none] 39)
      simp [push_cast,resE,res6,hst,ld_resS]
      exact ⟨⟨_,rfl,.inl ⟨rfl,rfl⟩⟩,_,hf⟩
  · have hun:listR M l=Res.err (findR M l 0).2:=by simp only [listR,if_neg he]
    rw [hun]
    simp [push_cast,he]
    refine jf9 (by simp [fn48]) (failed_ret W h3 _) fun h9 hk9=> ?_
    have hg9:=((hsd.stay (hB3.trans (MStep.refl hk9)) (.inr rfl))).trans hg0
    have hst:=st_res (W:=W) (e1:=(findR M l 0).2) (d1:=[]) (k1:=0) (l1:=0) (s1:=0) (p:=none) (n:=0) (q:=0) (g:=none) hg9
    have hf:=hsd.fin (hm3.keeps hk9) (hB3.trans (MStep.refl hk9)) (.cells [.int .i64 (findR M l 0).2,.str [],.int .i64 0,.int .i64 0,.int .i64 0,.sl none 0 0 none] 39)
    simp [push_cast,resE,res6,hst,ld_resS]
    exact ⟨⟨_,rfl,.inl ⟨rfl,rfl⟩⟩,_,hf⟩
def Bld (h0 h:AH) (kb:Nat) (l:List UInt8):Prop:=
  Keeps h0 h∧h0.next≤kb∧kb<h.next∧∃av bv,h.get kb=some (.cells [av,bv] 146)∧(av= .ptr none∨av= .ptr (some (.new kb 0)))∧
    (l=[]∧bv= .sl none 0 0 none∨l≠[]∧∃k,h0.next≤k∧k<h.next∧k≠kb∧h.get k=some (.cells (bcells l) 5)∧bv= .sl (some (.new k 0)) l.length l.length (some 1))
section
variable {W:World} {h:AH} {k:Nat} {a b:AV} {t:TypeId}
theorem st_bld0 {k2 o:Nat} (hg:h.get k=some (.cells [a,b] t)):aStoreOp (CC W) h 144 (.ptr (some (.new k 0))) (.ptr (some (.new k2 o)))=some (h.set k (.cells [.ptr (some (.new k2 o)),b] t)):=by
  simp only [aStoreOp,aCellsOf,size144,aStore,hg]
  rfl
theorem st_bld1 {p:Option AA} {n c:Nat} {g:Option Nat} (hg:h.get k=some (.cells [a,b] t)):aStoreOp (CC W) h 51 (.ptr (some (.new k 1))) (.sl p n c g)=some (h.set k (.cells [a,.sl p n c g] t)):=by
  simp only [aStoreOp,aCellsOf,size51,aStore,hg]
  rfl
theorem conv_bp (hg:h.get k=some (.cells [a,b] 146)):aConv (CC W) h 144 211 (.ptr (some (.new k 0)))=some (.ptr (some (.new k 0))):=by
  simp only [aConv,kind144,kind211,hg,size146]
  rfl
theorem conv_pb (hg:h.get k=some (.cells [a,b] 146)):aConv (CC W) h 211 144 (.ptr (some (.new k 0)))=some (.ptr (some (.new k 0))):=by
  simp only [aConv,kind144,kind211,hg,size146]
  rfl
theorem sameA_one {v:AV}:sameA [v]=some v:=rfl
end
set_option maxHeartbeats 4000000 in
theorem copy_ret (W:World) (h0 h:AH) (kb:Nat) (l:List UInt8) (hb:Bld h0 h kb l):
    ACall (CC W) 111 [.ptr (some (.new kb 0))] h (fun w h'=>w= .tup []∧Bld h0 h' kb l) (fun _ _=>False):=by
  refine jj9 (cc_ok W) (fn111 W) (by simp only [Tryz.f111]; rfl) rfl rfl ?_
  obtain ⟨h1,h2,h3,av,bv,hg,hav,hbv⟩:=hb
  rcases hav with rfl | rfl
  · have hst:=st_bld0 (W:=W) (k2:=kb) (o:=0) hg
    simp [push_cast,fa146_0,ld144,ji9 hg,jd9,aEq,kind144,kindEq1,aEq1,conv_bp hg,conv_pb hg,sameA_one,hst]
    refine ⟨rfl,⟨by simp; exact h1.1,fun j hj=> ?_⟩,h2,by simp; exact h3,.ptr (some (.new kb 0)),bv,by simp,.inr rfl,?_⟩
    · have:j≠kb:=by omega
      simp [this]
      exact h1.2 j hj
    · rcases hbv with hbv | ⟨k0,k,k1,k2,k3,k4,k5⟩
      · exact .inl hbv
      · exact .inr ⟨k0,k,k1,by simp; exact k2,k3,by simp [k3]; exact k4,k5⟩
  · simp [push_cast,fa146_0,ld144,ji9 hg,jd9,aEq,kind144,kindEq1,aEq1]
    exact ⟨rfl,h1,h2,h3,_,bv,hg,.inr rfl,hbv⟩
theorem build_byte {W:World} {h:AH} {n:Int}:aBuildSlice (CC W) h 51 1 [(0,.int .u8 n)]=some (.sl (some (.new h.next 0)) 1 1 none,h.push (.cells [.int .u8 n] 5)):=by
  simp only [aBuildSlice,kind51,size5,zero5]
  rfl
def BldB (h0 h:AH) (kb:Nat) (bv:AV) (l:List UInt8):Prop:=
  l=[]∧bv= .sl none 0 0 none∨l≠[]∧∃k,h0.next≤k∧k<h.next∧k≠kb∧h.get k=some (.cells (bcells l) 5)∧bv= .sl (some (.new k 0)) l.length l.length (some 1)
theorem append_byte {W:World} {h0 h:AH} {kb:Nat} {bv:AV} {l:List UInt8} (x:UInt8) (hb:BldB h0 h kb bv l) (hkb:kb<h.next) (h0n:h0.next≤h.next) (hl:l.length<8796093022207):
    ∃k' h',aAppend (CC W) (h.push (.cells [.int .u8 x.toNat] 5)) #[51,51] bv (.sl (some (.new h.next 0)) 1 1 none)=some (.sl (some (.new k' 0)) (l.length + 1) (l.length + 1) (some 1),h')∧
      h0.next≤k'∧k'<h'.next∧k'≠kb∧h'.get k'=some (.cells (bcells (l ++ [x])) 5)∧h'.get kb=h.get kb∧h.next≤h'.next∧∀j,j<h0.next→h'.get j=h.get j:=by
  have hb':(CC W).bytes 5=1:=_root_.id rfl
  have hni:niOK (CC W) #[51,51]=true:=_root_.id rfl
  have hnews:aNews (CC W) (h.push (.cells [.int .u8 x.toNat] 5)) 1 (.sl (some (.new h.next 0)) 1 1 none)=some (1,[.int .u8 x.toNat]):=by
    simp [aNews,aCells]
  rcases hb with ⟨rfl,rfl⟩ | ⟨_,k,h1,h2,h3,h4,rfl⟩
  · refine ⟨h.next + 1,(h.push (.cells [.int .u8 x.toNat] 5)).push (.cells [.int .u8 x.toNat] 5),?_,by omega,by simp,by omega,by simp [bcells],?_,by simp; omega,fun j hj=> ?_⟩
    · simp [aAppend,kind51,size5,zero5,hb',hni,hnews]
    · rw [AH.get_push,if_neg (by simp; omega),AH.get_push,if_neg (by omega)]
    · rw [AH.get_push,if_neg (by simp; omega),AH.get_push,if_neg (by omega)]
  · have hne:k≠h.next:=by omega
    have hbl:(bcells l).length=l.length:=bcells_length l
    refine ⟨h.next + 1,((h.push (.cells [.int .u8 x.toNat] 5)).kill k).push (.cells (bcells l ++ [.int .u8 x.toNat]) 5),?_,by omega,by simp [AH.next_kill'],by omega,by simp [AH.next_kill',bcells],?_,by simp [AH.next_kill']; omega,fun j hj=> ?_⟩
    · simp [aAppend,kind51,size5,zero5,hb',hni,hnews,hne,h4,AH.next_kill',aOne,hbl]
      rw [if_neg (by omega),if_pos (by omega)]
    · rw [AH.get_push,AH.next_kill',if_neg (by simp; omega),AH.get_kill',if_neg (by omega),AH.get_push,if_neg (by omega)]
    · rw [AH.get_push,AH.next_kill',if_neg (by simp; omega),AH.get_kill',if_neg (by omega),AH.get_push,if_neg (by omega)]
set_option maxHeartbeats 4000000 in
theorem wb_ret (W:World) (h0 h:AH) (kb:Nat) (l:List UInt8) (x:UInt8) (hb:Bld h0 h kb l) (hl:l.length<8796093022207):
    ACall (CC W) 76 [.ptr (some (.new kb 0)),.int .u8 x.toNat] h (fun w h'=>w= .nilifc∧Bld h0 h' kb (l ++ [x])) (fun _ _=>False):=by
  refine jj9 (cc_ok W) (fn76 W) (by simp only [Tryz.f76]; rfl) rfl rfl ?_
  simp [push_cast]
  refine je9 (by simp [fn111]) (copy_ret W h0 h kb l hb) fun w h1 ⟨hw,hb1⟩=> ?_
  obtain ⟨k1,k2,k3,av,bv,hg,hav,hbv⟩:=hb1
  obtain ⟨k',h2,hap,c1,c2,c3,c4,c5,c6,c7⟩:=append_byte (W:=W) x hbv k3 (by omega) hl
  have hg2:=c5.trans hg
  have hst:=st_bld1 (W:=W) (p:=some (.new k' 0)) (n:=l.length + 1) (c:=l.length + 1) (g:=some 1) hg2
  simp [push_cast,fa146_1,ld51,ji9 hg,jd9,build_byte,hap,hst]
  have hB:Bld h0 (h2.set kb (.cells [av,.sl (some (.new k' 0)) (l.length + 1) (l.length + 1) (some 1)] 146)) kb (l ++ [x]):=by
    refine ⟨⟨by simp; have:=k1.1; omega,fun j hj=> ?_⟩,k2,by simp; omega,av,.sl (some (.new k' 0)) (l.length + 1) (l.length + 1) (some 1),by simp,hav,.inr ⟨by simp,k',c1,by simp; exact c2,c3,by simp [c3]; exact c4,by simp⟩⟩
    have:j≠kb:=by omega
    simp [this]
    exact (c7 j hj).trans (k1.2 j hj)
  exact hB
theorem bcells_read2 (l:List UInt8):(bcells l).mapM byteOf2=some l:=by
  induction l with
  | nil=>rfl
  | cons b l ih=>
    have hlt:(b.toNat:Int)<256:=by have:=b.toNat_lt; omega
    simp only [bcells,List.map_cons,List.mapM_cons,byteOf2] at ih ⊢
    rw [ih]
    simp [hlt]
theorem sgE_eval {C:Cx} {Q:Post} {ops:Array Oper} {ks:List Fr} {e:Env} {h:AH} {rs:List (Nat×AV×Env)} {i:Nat} {o:Oper} {rest:List Nat} {v:AV} (h1:zb9 C o (ev e) h=some v) (hk:StayR C ops i rs h∧Sg C Q ops rest rs ks (za9 e o.dst v) h):SgE C Q ops i o rest rs ks e h:=by
  refine ⟨?_⟩
  simp only [opWp,h1]
  exact hk
set_option maxRecDepth 100000 in
set_option maxHeartbeats 4000000 in
theorem str_ret (W:World) (h0 h:AH) (kb:Nat) (l:List UInt8) (hb:Bld h0 h kb l) (hl:l.length<8796093022207):
    ACall (CC W) 77 [.ptr (some (.new kb 0))] h (fun w h'=>w= .str l∧Keeps h0 h') (fun _ _=>False):=by
  refine jj9 (cc_ok W) (fn77 W) (by simp only [Tryz.f77]; rfl) rfl rfl ?_
  obtain ⟨k1,k2,k3,av,bv,hg,hav,hbv⟩:=hb
  simp [push_cast]
  refine drawS [0,1,2,3,5,6,7,8,9,4,10,11] (by kernel_rfl) (by kernel_rfl) ?_
  rcases hbv with ⟨rfl,rfl⟩ | ⟨hne,k,c1,c2,c3,c4,rfl⟩
  · simp [push_cast,zx9,zy9,SgO,opA,isE,isRead,jd9,fa146_1,ld51,ji9 hg,aLen,kind51]
    refine sgE_eval (v:= .ptr none) (by rfl) ⟨?_,?_⟩
    · simp [zz9,ja9,push_cast,opA,ld51,ji9 hg,aLen,kind51]
    · simp [push_cast,zx9,zy9,SgO,opA,isE,isRead]
      refine jc9 (v:= .str []) (h':=h) (by rfl) (by rfl) ⟨?_,?_⟩
      · simp [zz9,ja9,push_cast,opA,ld51,ji9 hg,aLen,kind51]
      · simp [push_cast,zx9,zy9,SgO,opA,isE,isRead]
        exact k1
  · have hpos:0<l.length:=List.length_pos_iff.2 hne
    simp [push_cast,zx9,zy9,SgO,opA,isE,isRead,jd9,fa146_1,ld51,ji9 hg,aLen,kind51]
    refine sgE_eval (v:= .ptr (some (.new k 0))) (by simp [push_cast,aSliceData]; omega) ⟨?_,?_⟩
    · simp [zz9,ja9,push_cast,opA,ld51,ji9 hg,aLen,kind51]
    · simp [push_cast,zx9,zy9,SgO,opA,isE,isRead]
      have hbl:(bcells l).length=l.length:=bcells_length l
      have hus:aUnsafeStr (CC W) h #[181,3] (.ptr (some (.new k 0))) (.int .i64 (l.length:Int))=some (.str l,h.kill k):=by
        have hm:(l.length:Int)≠0:=by omega
        have htk:(bcells l).take (l.length:Int).toNat=bcells l:=by rw [List.take_of_length_le (by simp [hbl])]
        simp only [aUnsafeStr,if_neg hm,c4,kind181,size5,htk,bcells_read2]
        rw [if_pos ⟨trivial,trivial,by omega,by omega,by omega⟩]
      refine jc9 (v:= .str l) (h':=h.kill k) (by rfl) (by simp [push_cast,hus]) ⟨?_,?_⟩
      · refine zz9 ▸ ⟨fun hc=>absurd (hc.symm.trans (show _=true by kernel_rfl)) (by decide),?_⟩
        refine zz9 ▸ ⟨fun hc=>absurd (hc.symm.trans (show _=true by kernel_rfl)) (by decide),?_⟩
        refine zz9 ▸ ⟨fun hc=>absurd (hc.symm.trans (show _=true by kernel_rfl)) (by decide),?_⟩
        exact ja9 ▸ trivial
      · simp [push_cast,zx9,zy9,SgO,opA,isE,isRead]
        refine ⟨by simp [AH.next_kill']; exact k1.1,fun j hj=> ?_⟩
        have:j≠k:=by omega
        rw [AH.get_kill',if_neg this]
        exact k1.2 j hj
def fnd (k:Int):Blk→Nat→Option (Nat×List UInt8)
  | [],_=>none
  | x::l,i=>if x.1=k then some (i,x.2) else fnd k l (i + 1)
theorem eq_int {W:World} {a b:Int}:aEqIn (CC W) 100 3 (.int .i64 a) (.int .i64 b)=some (a==b):=rfl
theorem find_blk {W:World} {k:Int}:∀(l:Blk) (es:List AEnt) (i:Nat),es.map (fun e=>(e.key,e.val))=l.map entOf→
    aFind (CC W) 3 (.int .i64 k) es i=some ((fnd k l i).map fun p=>(p.1,.str p.2))
  | [],es,i,h=>by
    simp at h; subst h
    simp [aFind,fnd]
  | x::l,es,i,h=>by
    cases es with
    | nil=>simp at h
    | cons e es=>
      simp only [List.map_cons,List.cons.injEq] at h
      obtain ⟨h1,h2⟩:=h
      simp only [entOf,Prod.mk.injEq] at h1
      obtain ⟨hk,hv⟩:=h1
      unfold aFind
      rw [hk,eq_int]
      by_cases he:x.1=k
      · have hb:(k==x.1)=true:=by simp [he]
        simp only [hb,hv,fnd,if_pos he,Option.map_some]
      · have hb:(k==x.1)=false:=by simpa using fun h=>he h.symm
        simp only [hb,fnd,if_neg he]
        exact find_blk l es (i + 1) h2
def blkAt (b:Option Blk) (k:Int):Option (List UInt8):=(fnd k (b.getD []) 0).map (·.2)
theorem look_blk {W:World} {h:AH} {v:AV} {m:Option Nat} {b:Option Blk} (hm:MapIs h v m b) (k:Int):
    aLookup (CC W) h 90 v (.int .i64 k) true=some (match blkAt b k with | some s=> .tup [.str s,.bool true] | none=> .tup [.str [],.bool false]):=by
  have hkd:(CC W).kind 90= .map 3 9:=rfl
  have hkey:aKey (CC W) 100 3 (.int .i64 k)=true:=rfl
  cases m with
  | none=>
    cases b with
    | some _=>exact hm.elim
    | none=>
      have hv:v= .map none:=hm
      subst hv
      simp only [aLookup,hkd,hkey,if_true]
      rfl
  | some km=>
    cases b with
    | none=>exact hm.elim
    | some l=>
      obtain ⟨rfl,es,clock,hg,hok,hes⟩:=hm
      have hf:=find_blk (W:=W) (k:=k) l es 0 hes
      simp only [aLookup,hkd,hkey,if_true,hg,hf,Option.bind,blkAt,Option.getD_some]
      cases fnd k l 0 with
      | none=>rfl
      | some p=>rfl
def byteAt (b:Option Blk) (k:Nat):UInt8:=match blkAt b ((k / 128:Nat):Int) with
  | some s=>(s[k % 128]?).getD 0
  | none=>0
def bytesAt (b:Option Blk) (a n:Nat):List UInt8:=(List.range n).map fun i=>byteAt b (a + i)
def readR (M:MS) (a n:Int) (l:List (List UInt8)):Res:=
  if a<0∨n<0∨1024<n then Res.err 309
  else if (fileR M l).2=0 then
    match M.nodes[(fileR M l).1.toNat]? with
    | some nd=>⟨0,bytesAt nd.blocks a.toNat (min n (max (nd.size - a) 0)).toNat,0,0,0,[]⟩
    | none=>Res.err 0
  else Res.err (fileR M l).2
theorem alloc_bld {W:World} {h:AH}:aAlloc (CC W) h 146=some (.ptr (some (.new h.next 0)),h.push (.cells [.ptr none,.sl none 0 0 none] 146)):=rfl
theorem build_data {W:World} {s:List UInt8}:aBuild (CC W) 39 [(1,.str s)]=some (.agg [.int .i64 0,.str s,.int .i64 0,.int .i64 0,.int .i64 0,.sl none 0 0 none]):=rfl
theorem aMax2 {k:IntKind} {x y:Int}:aMax [.int k x,.int k y]=some (.int k (max x y)):=by
  simp only [aMax,List.foldlM_cons,List.foldlM_nil,bind,Option.bind,pure]
  congr 2
  split<;>omega
theorem aMin2 {k:IntKind} {x y:Int}:aMin [.int k x,.int k y]=some (.int k (min x y)):=by
  simp only [aMin,List.foldlM_cons,List.foldlM_nil,bind,Option.bind,pure]
  congr 2
  split<;>omega
theorem bytesAt_succ {b:Option Blk} {a i:Nat}:bytesAt b a (i + 1)=bytesAt b a i ++ [byteAt b (a + i)]:=by
  simp only [bytesAt,List.range_succ,List.map_append,List.map_cons,List.map_nil]
theorem fnd_mem {k:Int}:∀{l:Blk} {i:Nat} {p:Nat×List UInt8},fnd k l i=some p→(k,p.2)∈l
  | x::l,i,p,h=>by
    unfold fnd at h
    split at h
    · rename_i e; cases h; simp [←e]
    · exact List.mem_cons_of_mem _ (fnd_mem h)
def ReadI (h4:AH) (kb kB k0:Nat) (fp:AV) (b:Option Blk) (A many:Nat) (m:Nat) (e':Env) (h':AH):Prop:=
  e'.length=82∧∃i:Nat,i + m=many∧Bld h4 h' kB (bytesAt b A i)∧
    (e'.getD 5 .undef= .ptr (some (.new kb 0))∧e'.getD 8 .undef= .ptr (some (.new k0 0))∧e'.getD 9 .undef=fp∧e'.getD 13 .undef= .ptr (some (.new kB 0))∧e'.getD 54 .undef= .int .i64 many∧e'.getD 55 .undef= .int .i64 i)
set_option maxRecDepth 100000 in
set_option maxHeartbeats 8000000 in
theorem read_ret (W:World) (h:AH) (R:MR) (M:MS) (hm:MIs h R M) (ok:MOk M) (kd a n:Int) (p t dt:List UInt8) (v v2:AV) (l:List (List UInt8)) (hs:StrS W h v l) (hl:l.length<8796093022207) (ha:a<9223372036854775808) (ha': -9223372036854775808≤a)
    (h128:∀nd∈M.nodes,∀x∈nd.blocks.getD [],x.2.length=128):
    RetO W 38 [.ptr (some (.new R.km 0)),opV kd a n p t dt,v,v2] h R (readR M a n l) M:=by
  refine jj9 (cc_ok W) (fn38 W) (by simp only [Tryz.f38]; rfl) rfl rfl ?_
  have hsd:=Side.start hm (.cells [.int .i64 kd,.int .i64 a,.int .i64 n,.str p,.str t,.str dt] 35) (.cells res0 39)
  have hbx:=box_op (h:=h) (l:=[.int .i64 kd,.int .i64 a,.int .i64 n,.str p,.str t,.str dt])
  have hal:=alloc_res (W:=W) (h:=h.push (.cells [.int .i64 kd,.int .i64 a,.int .i64 n,.str p,.str t,.str dt] 35))
  have hgb:((h.push (.cells [.int .i64 kd,.int .i64 a,.int .i64 n,.str p,.str t,.str dt] 35)).push (.cells res0 39)).get h.next=some (.cells [.int .i64 kd,.int .i64 a,.int .i64 n,.str p,.str t,.str dt] 35):=by simp
  have hg0:((h.push (.cells [.int .i64 kd,.int .i64 a,.int .i64 n,.str p,.str t,.str dt] 35)).push (.cells res0 39)).get (h.push (.cells [.int .i64 kd,.int .i64 a,.int .i64 n,.str p,.str t,.str dt] 35)).next=some (.cells res0 39):=by simp
  generalize (h.push (.cells [.int .i64 kd,.int .i64 a,.int .i64 n,.str p,.str t,.str dt] 35)).push (.cells res0 39)=h2 at hsd hal hgb hg0
  generalize h.push (.cells [.int .i64 kd,.int .i64 a,.int .i64 n,.str p,.str t,.str dt] 35)=h1 at hsd hbx hal hgb hg0
  generalize h1.next=k0 at hsd hal hg0
  generalize h.next=kb at hbx hgb hsd
  have hm2:=hm.keeps hsd.keeps
  have hs2:=hs.keeps hsd.keeps
  have hB2:MStep h2 h2 R R:=MStep.refl (Keeps.refl _)
  by_cases h1:a<0
  · have hr:readR M a n l=Res.err 309:=by simp only [readR,if_pos (Or.inl h1)]
    rw [hr]
    simp (maxSteps:=2000000) [push_cast,opV,hbx,hal,fa35_1,fa35_2,ld3,ji9 hgb,h1]
    refine jf9 (by simp [fn48]) (failed_ret W h2 _) fun h9 hk9=> ?_
    have hg9:=((hsd.stay (hB2.trans (MStep.refl hk9)) (.inr rfl))).trans hg0
    have hst:=st_res (W:=W) (e1:=309) (d1:=[]) (k1:=0) (l1:=0) (s1:=0) (p:=none) (n:=0) (q:=0) (g:=none) hg9
    have hf:=hsd.fin (hm2.keeps hk9) (hB2.trans (MStep.refl hk9)) (.cells [.int .i64 309,.str [],.int .i64 0,.int .i64 0,.int .i64 0,.sl none 0 0 none] 39)
    simp [push_cast,resE,res6,hst,ld_resS]
    exact ⟨⟨_,rfl,.inl ⟨rfl,rfl⟩⟩,_,hf⟩
  · by_cases h2n:n<0
    · have hr:readR M a n l=Res.err 309:=by simp only [readR,if_pos (Or.inr (Or.inl h2n))]
      rw [hr]
      simp (maxSteps:=2000000) [push_cast,opV,hbx,hal,fa35_1,fa35_2,ld3,ji9 hgb,h1,h2n]
      refine jf9 (by simp [fn48]) (failed_ret W h2 _) fun h9 hk9=> ?_
      have hg9:=((hsd.stay (hB2.trans (MStep.refl hk9)) (.inr rfl))).trans hg0
      have hst:=st_res (W:=W) (e1:=309) (d1:=[]) (k1:=0) (l1:=0) (s1:=0) (p:=none) (n:=0) (q:=0) (g:=none) hg9
      have hf:=hsd.fin (hm2.keeps hk9) (hB2.trans (MStep.refl hk9)) (.cells [.int .i64 309,.str [],.int .i64 0,.int .i64 0,.int .i64 0,.sl none 0 0 none] 39)
      simp [push_cast,resE,res6,hst,ld_resS]
      exact ⟨⟨_,rfl,.inl ⟨rfl,rfl⟩⟩,_,hf⟩
    · by_cases h3n:1024<n
      · have hr:readR M a n l=Res.err 309:=by simp only [readR,if_pos (Or.inr (Or.inr h3n))]
        rw [hr]
        simp (maxSteps:=2000000) [push_cast,opV,hbx,hal,fa35_1,fa35_2,ld3,ji9 hgb,h1,h2n,h3n]
        refine jf9 (by simp [fn48]) (failed_ret W h2 _) fun h9 hk9=> ?_
        have hg9:=((hsd.stay (hB2.trans (MStep.refl hk9)) (.inr rfl))).trans hg0
        have hst:=st_res (W:=W) (e1:=309) (d1:=[]) (k1:=0) (l1:=0) (s1:=0) (p:=none) (n:=0) (q:=0) (g:=none) hg9
        have hf:=hsd.fin (hm2.keeps hk9) (hB2.trans (MStep.refl hk9)) (.cells [.int .i64 309,.str [],.int .i64 0,.int .i64 0,.int .i64 0,.sl none 0 0 none] 39)
        simp [push_cast,resE,res6,hst,ld_resS]
        exact ⟨⟨_,rfl,.inl ⟨rfl,rfl⟩⟩,_,hf⟩
      · have hrd : readR M a n l = if (fileR M l).2 = 0 then
            match M.nodes[(fileR M l).1.toNat]? with
            | some nd=>⟨0,bytesAt nd.blocks a.toNat (min n (max (nd.size - a) 0)).toNat,0,0,0,[]⟩
            | none=>Res.err 0
          else Res.err (fileR M l).2:=by
          simp only [readR]
          rw [if_neg (by omega)]
        simp (maxSteps:=2000000) [push_cast,opV,hbx,hal,fa35_1,fa35_2,ld3,ji9 hgb,h1,h2n,h3n]
        refine jf9 (by simp [fn72]) (file_ret W h2 R M hm2 ok v l hs2 hl) fun h3 hk3=> ?_
        have hm3:=hm2.keeps hk3
        have hB3:MStep h2 h3 R R:=MStep.refl hk3
        have hgb3:=((hsd.stay hB3 (.inl rfl))).trans hgb
        by_cases he:(fileR M l).2=0
        · rw [if_pos he] at hrd
          obtain ⟨hl0,i,nd,hfi,hfd,hnd,hkd⟩:=fileR_ok ok he
          have hin:i<M.nodes.length:=(List.getElem?_eq_some_iff.1 hnd).1
          obtain ⟨r,nd',hr,hnd',hn3⟩:=hm3.node hin
          rw [hnd] at hnd'; cases hnd'
          obtain ⟨mv,sv,hc3,hmp3,_⟩:=_root_.id hn3
          have hv:fileV R M l= .tup [.ptr (some (.new r.k 0)),.int .i64 i,.int .i64 0]:=by
            simp [fileV,hfi,MR.at,hr]
          simp only [hfi,Int.toNat_natCast,hnd] at hrd
          rw [hv,hrd]
          simp [push_cast]
          refine draw1 (cc_ok W) [0,1,2,3,4,5,6,7,8,9,10,11] (by kernel_rfl) (by kernel_rfl) (by kernel_rfl) rfl ?_
          have hsz:=ok.size nd (List.mem_of_getElem? hnd)
          have ws:IntKind.i64.wrap (nd.size - a)=nd.size - a:=wrap64 (by omega) (by omega)
          simp [push_cast,fa35_1,fa35_2,fa93_2,ld3,ji9 hgb3,ji9 hc3,jd9,ws,alloc_bld,aMax2,aMin2]
          obtain ⟨A,rfl⟩:=Int.eq_ofNat_of_zero_le (show 0≤a by omega)
          obtain ⟨many,hmy⟩:=Int.eq_ofNat_of_zero_le (show 0≤min n (max (nd.size - (A:Int)) 0) by omega)
          have hmb:many≤1024:=by omega
          rw [hmy]
          simp only [Int.toNat_natCast]
          have hbl:Bld h3 (h3.push (.cells [.ptr none,.sl none 0 0 none] 146)) h3.next []:=⟨Keeps.push _ _,Nat.le_refl _,by simp,.ptr none,.sl none 0 0 none,by simp,.inl rfl,.inl ⟨rfl,rfl⟩⟩
          refine loopN (cc_ok W) (ReadI h3 kb h3.next k0 (.ptr (some (.new r.k 0))) nd.blocks A many) many ⟨by simp,0,by simp,hbl,by simp⟩ ?_
          rintro m e' h' ⟨hlen',i,him,hb,hh⟩
          match e',hlen' with
          | a0::a1::a2::a3::a4::a5::a6::a7::a8::a9::a10::a11::a12::a13::a14::a15::a16::a17::a18::a19::a20::a21::a22::a23::a24::a25::a26::a27::a28::a29::a30::a31::a32::a33::a34::a35::a36::a37::a38::a39::a40::a41::a42::a43::a44::a45::a46::a47::a48::a49::a50::a51::a52::a53::a54::a55::a56::a57::a58::a59::a60::a61::a62::a63::a64::a65::a66::a67::a68::a69::a70::a71::a72::a73::a74::a75::a76::a77::a78::a79::a80::a81::[],_=>
            simp at hh
            obtain ⟨rfl,rfl,rfl,rfl,rfl,rfl⟩:=hh
            have hK:=hb.1
            have hkb3:kb<h3.next:=by have:=hsd.hb; have:=hk3.1; omega
            have hgb':=(hK.2 kb hkb3).trans hgb3
            have hrk3:=hm3.low r.k (mem_ids hr (by simp [NR.ids]))
            have hc':=(hK.2 r.k hrk3).trans hc3
            have hmp':=hmp3.same fun k hk=>hK.2 k (hm3.low k (mem_ids hr (by simp [NR.ids,hk])))
            have hbn:(bytesAt nd.blocks A i).length<8796093022207:=by simp [bytesAt]; omega
            by_cases hlt:i<many
            · have hlt':(i:Int)<(many:Int):=by omega
              have wi:IntKind.i64.wrap ((i:Int) + 1)=(i:Int) + 1:=wrap64 (by omega) (by omega)
              by_cases hbig:(A:Int) + i<9223372036854775808
              · have wa:IntKind.i64.wrap ((A:Int) + (i:Int))=(A:Int) + (i:Int):=wrap64 (by omega) hbig
                have wq:IntKind.i64.wrap (Int.tdiv ((A:Int) + (i:Int)) 128)=(((A + i) / 128:Nat):Int):=by
                  rw [Int.tdiv_eq_ediv_of_nonneg (by omega),wrap64 (by omega) (by omega)]; omega
                have wr:Int.tmod ((A:Int) + (i:Int)) 128=(((A + i) % 128:Nat):Int):=by
                  rw [Int.tmod_eq_emod_of_nonneg (by omega)]; omega
                have hlk:=look_blk (W:=W) hmp' (((A + i) / 128:Nat):Int)
                generalize hq:(((A + i) / 128:Nat):Int)=q at wq hlk
                generalize hr2:(A + i) % 128=rr at wr
                have hrr:rr<128:=by omega
                cases hbk:blkAt nd.blocks q with
                | some s=>
                  have hs128:s.length=128:=by
                    unfold blkAt at hbk
                    cases hf:fnd q (nd.blocks.getD []) 0 with
                    | none=>rw [hf] at hbk; simp at hbk
                    | some pp=>
                      rw [hf] at hbk; simp at hbk
                      rw [←hbk]
                      exact h128 nd (List.mem_of_getElem? hnd) _ (fnd_mem hf)
                  have hxs:s[rr]? =some s[rr]:=by simp [hs128,hrr]
                  have hix:aIndex (CC W) 9 (.str s) (.int .i64 (rr:Int))=some (.int .u8 (s[rr]).toNat):=by
                    simp only [aIndex,kind9,Int.toNat_natCast,hxs,Option.map_some]
                    rw [if_pos (by omega)]
                  have hby:byteAt nd.blocks (A + i)=s[rr]:=by
                    simp only [byteAt,hq,hbk,hr2,hxs,Option.getD_some]
                  rw [hbk] at hlk
                  simp [push_cast,hlt,hlt',fa35_1,fa93_3,ld3,ld90,ji9 hgb',ji9 hc',jd9,wa,wq,wr,hlk,hix]
                  refine je9 (by simp [fn76]) (wb_ret W h3 h' _ _ _ hb hbn) fun w h5 ⟨hw,hb5⟩=> ?_
                  simp [push_cast,wi]
                  exact ⟨m - 1,by omega,by simp,i + 1,by omega,by rw [bytesAt_succ,hby]; exact hb5,by simp⟩
                | none=>
                  have hby:byteAt nd.blocks (A + i)=0:=by simp only [byteAt,hq,hbk]
                  rw [hbk] at hlk
                  simp [push_cast,hlt,hlt',fa35_1,fa93_3,ld3,ld90,ji9 hgb',ji9 hc',jd9,wa,wq,hlk]
                  refine je9 (by simp [fn76]) (wb_ret W h3 h' _ _ (0:UInt8) hb hbn) fun w h5 ⟨hw,hb5⟩=> ?_
                  simp [push_cast,wi]
                  exact ⟨m - 1,by omega,by simp,i + 1,by omega,by rw [bytesAt_succ,hby]; exact hb5,by simp⟩
              · exfalso; omega
            · have hlt':¬(i:Int)<(many:Int):=by omega
              obtain rfl:i=many:=by omega
              simp [push_cast,hlt,hlt']
              refine je9 (by simp [fn77]) (str_ret W h3 h' _ _ hb hbn) fun w h5 ⟨hw,hk5⟩=> ?_
              subst hw
              have hB5:=hB3.trans (MStep.refl hk5)
              have hg05:=((hsd.stay hB5 (.inr rfl))).trans hg0
              have hst:=st_res (W:=W) (e1:=0) (d1:=bytesAt nd.blocks A i) (k1:=0) (l1:=0) (s1:=0) (p:=none) (n:=0) (q:=0) (g:=none) hg05
              have hf:=hsd.fin (hm3.keeps hk5) hB5 (.cells [.int .i64 0,.str (bytesAt nd.blocks A i),.int .i64 0,.int .i64 0,.int .i64 0,.sl none 0 0 none] 39)
              simp [push_cast,build_data,hst,ld_resS]
              exact ⟨⟨_,rfl,.inl ⟨rfl,rfl⟩⟩,_,hf⟩
        · rw [if_neg he] at hrd
          have hv:fileV R M l= .tup [.ptr none,.int .i64 (fileR M l).1,.int .i64 (fileR M l).2]:=by simp only [fileV,if_neg he]
          rw [hv,hrd]
          simp [push_cast,he]
          refine jf9 (by simp [fn48]) (failed_ret W h3 _) fun h9 hk9=> ?_
          have hg9:=((hsd.stay (hB3.trans (MStep.refl hk9)) (.inr rfl))).trans hg0
          have hst:=st_res (W:=W) (e1:=(fileR M l).2) (d1:=[]) (k1:=0) (l1:=0) (s1:=0) (p:=none) (n:=0) (q:=0) (g:=none) hg9
          have hf:=hsd.fin (hm3.keeps hk9) (hB3.trans (MStep.refl hk9)) (.cells [.int .i64 (fileR M l).2,.str [],.int .i64 0,.int .i64 0,.int .i64 0,.sl none 0 0 none] 39)
          simp [push_cast,resE,res6,hst,ld_resS]
          exact ⟨⟨_,rfl,.inl ⟨rfl,rfl⟩⟩,_,hf⟩
def rowAt (km i:Nat):List AV:=((rowCells km).drop (3 * i)).take 3
theorem rowAt_eq (km:Nat):∀i,i<11→∃b f,rowAt km i=[.int .i64 ((i:Int) + 1),.bool b,.fn (.func f) [.ptr (some (.new km 0))] []]∧f<100
  | 0,_=>⟨_,_,rfl,by decide⟩
  | 1,_=>⟨_,_,rfl,by decide⟩
  | 2,_=>⟨_,_,rfl,by decide⟩
  | 3,_=>⟨_,_,rfl,by decide⟩
  | 4,_=>⟨_,_,rfl,by decide⟩
  | 5,_=>⟨_,_,rfl,by decide⟩
  | 6,_=>⟨_,_,rfl,by decide⟩
  | 7,_=>⟨_,_,rfl,by decide⟩
  | 8,_=>⟨_,_,rfl,by decide⟩
  | 9,_=>⟨_,_,rfl,by decide⟩
  | 10,_=>⟨_,_,rfl,by decide⟩
  | n + 11,h=>by omega
def rowR (kd:Int):Int:=fstI (fun i=>(i:Int) + 1==kd) 11
section
variable {W:World} {h:AH}
theorem idx_row {kr i:Nat} (hi:i<11):aIndexAddr (CC W) 86 (.sl (some (.new kr 0)) 11 11 none) (.int .i64 (i:Int))=some (.ptr (some (.new kr (3 * i)))):=by
  simp only [aIndexAddr,kind86,size96]
  rw [if_pos (by omega)]
  simp [AA.add,Nat.mul_comm]
theorem ld_row {kr km i:Nat} {t:TypeId} (hg:h.get kr=some (.cells (rowCells km) t)) (hi:i<11):aLoad (CC W) h 96 (.new kr (3 * i))=some (.agg (rowAt km i)):=by
  have hl:(rowCells km).length=33:=rfl
  unfold aLoad
  rw [ty96]
  show (aCells (CC W) h (.new kr (3 * i)) 3).map AV.agg=_
  simp only [aCells,hg]
  rw [if_pos (by omega)]
  rfl
theorem box_row {l:List AV}:aBox h 96 (.agg l)=some (.ptr (some (.new h.next 0)),h.push (.cells l 96)):=rfl
end
set_option maxHeartbeats 4000000 in
theorem do1_ret (W:World) (h:AH) (kb:Nat) (q kd:Int) (b:Bool) (f:FuncId) (km:Nat) (cs:List AV) (t:TypeId) (hb:kb<h.next) (hg:h.get kb=some (.cells (.int .i64 kd::cs) t)):
    ACall (CC W) 50 [.agg [.int .i64 q,.bool b,.fn (.func f) [.ptr (some (.new km 0))] []],.ptr (some (.new kb 0))] h (fun w h'=>w= .bool (q==kd)∧Keeps h h') (fun _ _=>False):=by
  refine jj9 (cc_ok W) (fn50 W) (by simp only [Tryz.f50]; rfl) rfl rfl ?_
  have hg1:(h.push (.cells [.int .i64 q,.bool b,.fn (.func f) [.ptr (some (.new km 0))] []] 96)).get h.next=some (.cells [.int .i64 q,.bool b,.fn (.func f) [.ptr (some (.new km 0))] []] 96):=by simp
  have hg2:(h.push (.cells [.int .i64 q,.bool b,.fn (.func f) [.ptr (some (.new km 0))] []] 96)).get kb=some (.cells (.int .i64 kd::cs) t):=by rw [AH.get_push,if_neg (by omega)]; exact hg
  have hk:=Keeps.push h (.cells [.int .i64 q,.bool b,.fn (.func f) [.ptr (some (.new km 0))] []] 96)
  have hbx:=box_row (h:=h) (l:=[.int .i64 q,.bool b,.fn (.func f) [.ptr (some (.new km 0))] []])
  generalize h.push (.cells [.int .i64 q,.bool b,.fn (.func f) [.ptr (some (.new km 0))] []] 96)=h1 at hg1 hg2 hk hbx
  simp [push_cast,hbx,fa96_0,fa35_0,ld3,ji9 hg1,ji9 hg2]
  exact hk
theorem row_ret (W:World) (h:AH) (R:MR) (M:MS) (hm:MIs h R M) (kb:Nat) (kd:Int) (cs:List AV) (t:TypeId) (hb:kb<h.next) (hg:h.get kb=some (.cells (.int .i64 kd::cs) t)):
    RetK (CC W) 49 [.sl (some (.new R.kr 0)) 11 11 none,.fn (.func 50) [] [.ptr (some (.new kb 0))]] h (.int .i64 (rowR kd)):=by
  refine idxR_ret W h _ 11 [.ptr (some (.new kb 0))] _ (fun i=> .agg (rowAt R.km i)) (by omega) (by simp [aLen,kind86]) (fun i hi=>⟨.new R.kr (3 * i),idx_row hi,fun h' hk=> ?_⟩) fun i hi h' hk=> ?_
  · exact ld_row (hm.keeps hk).rows hi
  · obtain ⟨b,f,he,_⟩:=rowAt_eq R.km i hi
    simp only [he]
    exact do1_ret W h' kb _ kd b f R.km cs t (Nat.lt_of_lt_of_le hb hk.1) ((hk.2 kb hb).trans hg)
def badByte (b:UInt8):Bool:=b==47 || b==0
def nameR (s:List UInt8):Int:=if s=[]∨s=[46]∨s=[46,46] then 309 else if s.any badByte then 309 else if 24<s.length then 308 else 0
def NameI (s:List UInt8) (h:AH) (m:Nat) (e':Env) (h':AH):Prop:=
  h'=h∧e'.length=33∧∃k:Nat,k + m=s.length∧(∀j x,j<k→s[j]? =some x→badByte x=false)∧(e'.getD 0 .undef= .str s∧e'.getD 3 .undef= .int .i64 k)
theorem byte_eq (x y:UInt8):((x.toNat:Int)==(y.toNat:Int))=(x==y):=by
  rw [Bool.eq_iff_iff,beq_iff_eq,beq_iff_eq, ←UInt8.toNat_inj]
  omega
theorem get_byte (s:List UInt8) (i:Nat) (x:UInt8) (h:s[i]? =some x):(ByteArray.mk s.toArray).get! i=x:=by
  obtain ⟨hi,rfl⟩:=List.getElem?_eq_some_iff.1 h
  simp [ByteArray.get!,hi]
theorem dec_small (s:List UInt8) (i:Nat) (x:UInt8) (h:s[i]? =some x) (hx:x.toNat<128):Utf8.decode ⟨s.toArray⟩ i=(x.toNat,1):=by
  have:=get_byte s i x h
  simp [Utf8.decode,this,hx]
theorem dec_big (s:List UInt8) (i:Nat) (x:UInt8) (h:s[i]? =some x) (hx:128≤x.toNat):
    128≤(Utf8.decode ⟨s.toArray⟩ i).1∧1≤(Utf8.decode ⟨s.toArray⟩ i).2∧∀j,j<(Utf8.decode ⟨s.toArray⟩ i).2→∃y,s[i + j]? =some y∧128≤y.toNat:=by
  have g0:=get_byte s i x h
  have hsz:(ByteArray.mk s.toArray).size=s.length:=by simp [ByteArray.size]
  have one:∀j,j<1→∃y,s[i + j]? =some y∧128≤y.toNat:=by
    intro j hj; obtain rfl:j=0:=by omega
    exact ⟨x,by simpa using h,hx⟩
  have cont:∀k,(decide (i + k<(ByteArray.mk s.toArray).size) && ((ByteArray.mk s.toArray).get! (i + k)).toNat / 64==2)=true→∃y,s[i + k]? =some y∧128≤y.toNat:=by
    intro k hk
    rw [hsz] at hk
    simp only [Bool.and_eq_true,decide_eq_true_eq,beq_iff_eq] at hk
    have hy:s[i + k]? =some s[i + k]:=by simp [hk.1]
    refine ⟨_,hy,?_⟩
    rw [get_byte s _ _ hy] at hk
    omega
  unfold Utf8.decode
  simp only [Nat.add_zero,g0]
  rw [if_neg (by omega)]
  split
  · rename_i hc
    simp only [Bool.and_eq_true] at hc
    split
    · rename_i hge
      refine ⟨hge,by simp,fun j hj=> ?_⟩
      simp only at hj
      have:j=0∨j=1:=by omega
      rcases this with rfl | rfl
      · exact one 0 (by omega)
      · exact cont 1 (by simpa using hc.2)
    · exact ⟨by simp [Utf8.runeError],by simp,one⟩
  · split
    · rename_i hc
      simp only [Bool.and_eq_true] at hc
      split
      · rename_i hge
        simp only [Bool.and_eq_true,decide_eq_true_eq] at hge
        refine ⟨by simp only; omega,by simp,fun j hj=> ?_⟩
        simp only at hj
        have:j=0∨j=1∨j=2:=by omega
        rcases this with rfl | rfl | rfl
        · exact one 0 (by omega)
        · exact cont 1 (by simpa using hc.1.2)
        · exact cont 2 (by simpa using hc.2)
      · exact ⟨by simp [Utf8.runeError],by simp,one⟩
    · split
      · rename_i hc
        simp only [Bool.and_eq_true] at hc
        split
        · rename_i hge
          simp only [Bool.and_eq_true,decide_eq_true_eq] at hge
          refine ⟨by simp only; omega,by simp,fun j hj=> ?_⟩
          simp only at hj
          have:j=0∨j=1∨j=2∨j=3:=by omega
          rcases this with rfl | rfl | rfl | rfl
          · exact one 0 (by omega)
          · exact cont 1 (by simpa using hc.1.1.2)
          · exact cont 2 (by simpa using hc.1.2)
          · exact cont 3 (by simpa using hc.2)
        · exact ⟨by simp [Utf8.runeError],by simp,one⟩
      · exact ⟨by simp [Utf8.runeError],by simp,one⟩
theorem dec_bad (s:List UInt8) (i:Nat) (hi:i<s.length):∃r w,Utf8.decode ⟨s.toArray⟩ i=(r,w)∧1≤w∧i + w≤s.length∧((r:Int)==47)=(s[i]==47)∧((r:Int)==0)=(s[i]==0)∧
    (badByte s[i]=false→∀j x,j<i + w→i≤j→s[j]? =some x→badByte x=false):=by
  have h:s[i]? =some s[i]:=by simp [hi]
  rcases Nat.lt_or_ge s[i].toNat 128 with hx | hx
  · refine ⟨_,_,dec_small s i _ h hx,by omega,by omega,byte_eq s[i] 47,byte_eq s[i] 0,fun hb j x hj hj2 hs=> ?_⟩
    obtain rfl:j=i:=by omega
    rw [h] at hs; simp at hs; subst hs; exact hb
  · obtain ⟨h1,h2,h3⟩:=dec_big s i _ h hx
    generalize Utf8.decode ⟨s.toArray⟩ i=d at h1 h2 h3 ⊢
    obtain ⟨r,w⟩:=d
    simp only at h1 h2 h3
    refine ⟨r,w,rfl,h2,?_,?_,?_,fun hb j x hj hj2 hs=> ?_⟩
    · obtain ⟨y,hy,_⟩:=h3 (w - 1) (by omega)
      have:=(List.getElem?_eq_some_iff.1 hy).1
      omega
    · have e1:(s[i]==47)=false:=by rw [beq_eq_false_iff_ne]; intro e; rw [e] at hx; simp at hx
      rw [e1,beq_eq_false_iff_ne]; omega
    · have e1:(s[i]==0)=false:=by rw [beq_eq_false_iff_ne]; intro e; rw [e] at hx; simp at hx
      rw [e1,beq_eq_false_iff_ne]; omega
    · obtain ⟨y,hy,hy2⟩:=h3 (j - i) (by omega)
      rw [show i + (j - i)=j by omega,hs] at hy
      simp at hy; subst hy
      unfold badByte
      simp only [Bool.or_eq_false_iff,beq_eq_false_iff_ne]
      constructor<;>(intro e; rw [e] at hy2; simp at hy2)
def NameJ (s:List UInt8) (h:AH) (m:Nat) (e':Env) (h':AH):Prop:=
  (h'.next=h.next + 1∧∀k,k<h.next→h'.get k=h.get k)∧e'.length=29∧∃k:Nat,k + m=s.length∧h'.get h.next=some (.siter s k)∧(∀j x,j<k→s[j]? =some x→badByte x=false)∧(e'.getD 0 .undef= .str s∧e'.getD 16 .undef= .ptr (some (.new h.next 0)))
set_option maxHeartbeats 2000000 in
set_option maxRecDepth 20000 in
theorem name_ret (W:World) (s:List UInt8):RetX (CC W) 86 [.str s] (.int .i64 (nameR s)):=by
  intro h
  refine jj9 (cc_ok W) (fn86 W) (by simp only [Tryz.f86]; rfl) rfl rfl ?_
  by_cases h1:s=[]
  · simp [push_cast,aStr,h1,nameR,Keeps.refl]
  · by_cases h2:s=[46]
    · simp [push_cast,aStr,h2,nameR,Keeps.refl]
    · by_cases h3:s=[46,46]
      · simp [push_cast,aStr,h3,nameR,Keeps.refl]
      · have b1:(s==[])=false:=by rw [beq_eq_false_iff_ne]; exact h1
        have b2:(s==[46])=false:=by rw [beq_eq_false_iff_ne]; exact h2
        have b3:(s==[46,46])=false:=by rw [beq_eq_false_iff_ne]; exact h3
        simp [push_cast,aStr,b1,b2,b3,h1,h2,h3,aRange,kind9]
        refine loopN (cc_ok W) (NameJ s h) s.length ⟨⟨by simp,fun k hk=>by rw [AH.get_push,if_neg (by omega)]⟩,by simp,0,by simp,by simp,fun j x hj=>by omega,by simp⟩ ?_
        rintro m e' h' ⟨⟨hn,hkeep⟩,hl,k,hk,hit,hno,hh⟩
        have hK:Keeps h h':=⟨by omega,hkeep⟩
        match e',hl with
        | a0::a1::a2::a3::a4::a5::a6::a7::a8::a9::a10::a11::a12::a13::a14::a15::a16::a17::a18::a19::a20::a21::a22::a23::a24::a25::a26::a27::a28::[],_=>
          simp at hh
          obtain ⟨rfl,rfl⟩:=hh
          by_cases hlt:k<s.length
          · obtain ⟨r,w,hd,hw1,hw2,c1,c2,hnb⟩:=dec_bad s k hlt
            cases hb:badByte s[k] with
            | true=>
              have hany:s.any badByte=true:=by
                rw [List.any_eq_true]; exact ⟨s[k],List.getElem_mem hlt,hb⟩
              have hres:nameR s=309:=by simp [nameR,h1,h2,h3,hany]
              unfold badByte at hb
              have hK2:Keeps h (h'.set h.next (.siter s (k + w))):=hK.set (Nat.le_refl _) _
              cases d1:(s[k]==47)<;>cases d2:(s[k]==0)<;>simp [d1,d2] at hb<;>simp [push_cast,aNextS,hit,hlt,hd,c1,c2,d1,d2,hres,hK2]
            | false=>
              have hb':=hb
              unfold badByte at hb'
              simp only [Bool.or_eq_false_iff] at hb'
              simp [push_cast,aNextS,hit,hlt,hd,c1,c2,hb'.1,hb'.2]
              refine ⟨m - w,by omega,⟨by simpa using hn,fun j hj=>by rw [AH.get_set,if_neg (by omega)]; exact hkeep j hj⟩,by simp,k + w,by omega,by simp,fun j y hj hy=> ?_,by simp⟩
              rcases Nat.lt_or_ge j k with h | h
              · exact hno j y h hy
              · exact hnb hb j y hj h hy
          · have hany:s.any badByte=false:=by
              rw [List.any_eq_false]
              intro x hx
              obtain ⟨j,hj⟩:=List.getElem?_of_mem hx
              have hjl:j<s.length:=by
                rcases Nat.lt_or_ge j s.length with h | h
                · exact h
                · rw [List.getElem?_eq_none h] at hj; simp at hj
              have:=hno j x (by omega) hj
              simp [this]
            by_cases hlen:24<s.length
            · have hres:nameR s=308:=by simp [nameR,h1,h2,h3,hany,hlen]
              simp [push_cast,aNextS,hit,hlt,aLen,kind9,hlen,hres,hK]
              try omega
            · have hres:nameR s=0:=by simp [nameR,h1,h2,h3,hany,hlen]
              simp [push_cast,aNextS,hit,hlt,aLen,kind9,hlen,hres,hK]
              try omega
def hasP (s p:List UInt8):Bool:=p.isPrefixOf s
theorem take_beq (s p:List UInt8) (h:p.length≤s.length):(s.take p.length==p)=hasP s p:=by
  unfold hasP
  rw [Bool.eq_iff_iff,beq_iff_eq,List.isPrefixOf_iff_prefix,List.prefix_iff_eq_take]
  exact eq_comm
set_option maxRecDepth 20000 in
theorem hasPrefix_ret (W:World) (s p:List UInt8):Ret (CC W) 144 [.str s,.str p] (.bool (hasP s p)):=by
  intro h
  refine jj9 (cc_ok W) (fn144 W) (by simp only [Tryz.f144]; rfl) rfl rfl ?_
  by_cases hl:p.length≤s.length
  · have hb:=take_beq s p hl
    simp [push_cast,aLen,kind9,hl,aSlice,aBounds,aBound,aStr,hb]
  · have hb:hasP s p=false:=by
      unfold hasP
      rw [Bool.eq_false_iff]; intro hh
      rw [List.isPrefixOf_iff_prefix] at hh
      exact hl hh.length_le
    simp [push_cast,aLen,kind9,hl,hb]
def cutP (s p:List UInt8):List UInt8:=if hasP s p then s.drop p.length else s
theorem hasP_len {s p:List UInt8} (h:hasP s p=true):p.length≤s.length:=by
  unfold hasP at h
  rw [List.isPrefixOf_iff_prefix] at h
  exact h.length_le
set_option maxRecDepth 20000 in
theorem cutPrefix_ret (W:World) (s p:List UInt8):Ret (CC W) 117 [.str s,.str p] (.tup [.str (cutP s p),.bool (hasP s p)]):=by
  intro h
  refine jj9 (cc_ok W) (fn117 W) (by simp only [Tryz.f117]; rfl) rfl rfl ?_
  simp [push_cast]
  refine callK_Ret (by simp [fn144]) (hasPrefix_ret W s p) ?_
  cases hp:hasP s p with
  | false=>simp [push_cast,aUn,cutP,hp]
  | true=>
    have hl:=hasP_len hp
    simp [push_cast,aUn,cutP,hp,aLen,kind9,aSlice,aBounds,aBound,hl]
set_option maxRecDepth 20000 in
theorem CutPrefix_ret (W:World) (s p:List UInt8):Ret (CC W) 84 [.str s,.str p] (.tup [.str (cutP s p),.bool (hasP s p)]):=by
  intro h
  refine jj9 (cc_ok W) (fn84 W) (by simp only [Tryz.f84]; rfl) rfl rfl ?_
  simp [push_cast]
  refine callK_Ret (by simp [fn117]) (cutPrefix_ret W s p) ?_
  simp [push_cast]
set_option maxRecDepth 20000 in
theorem indexByte_ret (W:World) (s:List UInt8) (c:UInt8):Ret (CC W) 189 [.str s,.int .u8 c.toNat] (.int .i64 (Lib.indexByte s c)):=by
  intro h
  refine jj9 (cc_ok W) (fn189 W) (by simp only [Tryz.f189]; rfl) rfl rfl ?_
  simp [push_cast,indexByteA]
set_option maxHeartbeats 2000000 in
set_option maxRecDepth 20000 in
theorem index_ret (W:World) (s:List UInt8) (c:UInt8):Ret (CC W) 176 [.str s,.str [c]] (.int .i64 (Lib.indexByte s c)):=by
  intro h
  refine jj9 (cc_ok W) (fn176 W) (by simp only [Tryz.f176]; rfl) rfl rfl ?_
  by_cases hs:s=[c]
  · subst hs
    simp [push_cast,aLen,kind9,aIndex,aStr,Lib.indexByte]
  · have hs':([c]==s)=false:=by
      rw [beq_eq_false_iff_ne]; exact fun e=>hs e.symm
    simp [push_cast,aLen,kind9,aIndex,aStr,hs']
    refine callK_Ret (by simp [fn189]) (indexByte_ret W s c) ?_
    simp [push_cast]
set_option maxRecDepth 20000 in
theorem Index_ret (W:World) (s:List UInt8) (c:UInt8):Ret (CC W) 147 [.str s,.str [c]] (.int .i64 (Lib.indexByte s c)):=by
  intro h
  refine jj9 (cc_ok W) (fn147 W) (by simp only [Tryz.f147]; rfl) rfl rfl ?_
  simp [push_cast]
  refine callK_Ret (by simp [fn176]) (index_ret W s c) ?_
  simp [push_cast]
set_option maxRecDepth 20000 in
theorem Count_ret (W:World) (s:List UInt8) (c:UInt8):Ret (CC W) 146 [.str s,.str [c]] (.int .i64 (Lib.countByte s c)):=by
  intro h
  refine jj9 (cc_ok W) (fn146 W) (by simp only [Tryz.f146]; rfl) rfl rfl ?_
  simp [push_cast,aLen,kind9,aIndex,countA]
def pieces:List UInt8→List (List UInt8)
  | []=>[[]]
  | c::s=>if c=47 then []::pieces s else match pieces s with
    | []=>[[c]]
    | p::ps=>(c::p)::ps
theorem pieces_ne (s:List UInt8):pieces s≠[]:=by
  cases s with
  | nil=>simp [pieces]
  | cons c s => unfold pieces; split; · simp
                · split<;>simp
theorem pieces_length (s:List UInt8):(pieces s).length=s.count 47 + 1:=by
  induction s with
  | nil=>rfl
  | cons c s ih=>
    unfold pieces
    split
    · rename_i h; subst h; simp [ih]
    · rename_i h
      rw [List.count_cons_of_ne h]
      cases hp:pieces s with
      | nil=>exact absurd hp (pieces_ne s)
      | cons p ps=>rw [hp] at ih; simpa using ih
theorem pieces_miss (s:List UInt8) (h:s.count 47=0):pieces s=[s]:=by
  induction s with
  | nil=>rfl
  | cons c s ih=>
    have hc:c≠47:=by intro e; subst e; simp at h
    rw [List.count_cons_of_ne hc] at h
    unfold pieces
    rw [if_neg hc,ih h]
theorem pieces_hit (s:List UInt8) (h:s.count 47≠0):∃m:Nat,Lib.indexByte s 47=(m:Int)∧m<s.length∧pieces s=s.take m::pieces (s.drop (m + 1))∧s.count 47=1 + (s.drop (m + 1)).count 47:=by
  induction s with
  | nil=>simp at h
  | cons c s ih=>
    by_cases hc:c=47
    · subst hc
      refine ⟨0,by simp [Lib.indexByte],by simp,?_,?_⟩
      · conv=>lhs; unfold pieces
        simp
      · simp; omega
    · rw [List.count_cons_of_ne hc] at h
      obtain ⟨m,h1,h2,h3,h4⟩:=ih h
      refine ⟨m + 1,?_,by simp; omega,?_,?_⟩
      · unfold Lib.indexByte
        have e1:(c==47)=false:=by rw [beq_eq_false_iff_ne]; exact hc
        have e2:(Lib.indexByte s 47== -1)=false:=by rw [beq_eq_false_iff_ne,h1]; omega
        simp [e1,e2,h1]
      · conv=>lhs; unfold pieces
        rw [if_neg hc,h3]
        simp
      · rw [List.count_cons_of_ne hc,h4]
        simp
def GenI (s:List UInt8) (h:AH) (m:Nat) (e':Env) (h':AH):Prop:=
  (h'.next=h.next + 1∧∀k,k<h.next→h'.get k=h.get k)∧e'.length=66∧∃done r,pieces s=done ++ pieces r∧done.length + r.count 47=s.count 47∧m=r.count 47∧r.length≤s.length∧
    h'.get h.next=some (.cells (scells done (s.count 47 + 1)) 9)∧(e'.getD 0 .undef= .str r∧e'.getD 1 .undef= .str [47]∧e'.getD 2 .undef= .int .i64 0∧e'.getD 3 .undef= .int .i64 (s.count 47:Nat)∧
      e'.getD 9 .undef= .sl (some (.new h.next 0)) (s.count 47 + 1) (s.count 47 + 1) none∧e'.getD 10 .undef= .int .i64 (done.length:Nat))
theorem repZ_str (n:Nat):repZ n [AV.str []]=scells [] n:=by
  induction n with
  | zero=>rfl
  | succ n ih=>simp [repZ,scells,List.replicate_succ]
set_option maxHeartbeats 4000000 in
set_option maxRecDepth 20000 in
theorem genSplit_ret (W:World) (s:List UInt8) (hs:s.length<8796093022207) (h:AH):RetQ (CC W) 118 [.str s,.str [47],.int .i64 0,.int .i64 (-1)] h fun v h'=>StrS W h' v (pieces s):=by
  refine jj9 (cc_ok W) (fn118 W) (by simp only [Tryz.f118]; rfl) rfl rfl ?_
  have hcl:s.count 47≤s.length:=List.count_le_length
  have hcb:Lib.countByte s 47=s.count 47:=rfl
  have w1:IntKind.i64.wrap ((s.count 47:Int) + 1)=(s.count 47:Int) + 1:=wrap64 (by omega) (by omega)
  have w2:IntKind.i64.wrap ((s.length:Int) + 1)=(s.length:Int) + 1:=wrap64 (by omega) (by omega)
  have w3:IntKind.i64.wrap ((s.count 47:Int) + 1 - 1)=(s.count 47:Int):=(wrap64 (by omega) (by omega)).trans (by omega)
  have w0:IntKind.i64.wrap (s.count 47:Int)=(s.count 47:Int):=wrap64 (by omega) (by omega)
  have hm:aMin [.int .i64 ((s.count 47:Int) + 1),.int .i64 ((s.length:Int) + 1)]=some (.int .i64 ((s.count 47:Int) + 1)):=by
    simp only [aMin,List.foldlM_cons,List.foldlM_nil]
    by_cases hlt:((s.length:Int) + 1)<((s.count 47:Int) + 1)
    · omega
    · rw [if_neg hlt]; rfl
  have hmk:aMakeSlice (CC W) h 37 (.int .i64 ((s.count 47:Int) + 1)) (.int .i64 ((s.count 47:Int) + 1))=some (.sl (some (.new h.next 0)) (s.count 47 + 1) (s.count 47 + 1) none,h.push (.cells (scells [] (s.count 47 + 1)) 9)):=by
    have hb:(CC W).bytes 9=16:=_root_.id rfl
    simp only [aMakeSlice,kind37,size9,zero9,hb,repZ_str]
    rw [if_pos ⟨by omega,by omega,by omega,by omega,by omega⟩]
    have e:((s.count 47:Int) + 1).toNat=s.count 47 + 1:=by omega
    rw [e]
  simp [push_cast,aStr]
  refine callK_Ret (by simp [fn146]) (Count_ret W s 47) ?_
  simp [push_cast,aLen,kind9,hcb,w1,w2,hm,hmk,w3]
  refine loopN (cc_ok W) (GenI s h) (s.count 47) ⟨⟨by simp,fun k hk=>by rw [AH.get_push,if_neg (by omega)]⟩,by simp,[],s,by simp,by simp,rfl,Nat.le_refl _,by simp,by simp [w0]⟩ ?_
  rintro m e' h' ⟨⟨hn,hkeep⟩,hl,done,r,hp,hcnt,rfl,hrl,hg,hh⟩
  match e',hl with
  | a0::a1::a2::a3::a4::a5::a6::a7::a8::a9::a10::a11::a12::a13::a14::a15::a16::a17::a18::a19::a20::a21::a22::a23::a24::a25::a26::a27::a28::a29::a30::a31::a32::a33::a34::a35::a36::a37::a38::a39::a40::a41::a42::a43::a44::a45::a46::a47::a48::a49::a50::a51::a52::a53::a54::a55::a56::a57::a58::a59::a60::a61::a62::a63::a64::a65::[],_=>
    simp at hh
    obtain ⟨rfl,rfl,rfl,rfl,rfl,rfl⟩:=hh
    have hdl:done.length<s.count 47 + 1:=by omega
    have hix:aIndexAddr (CC W) 37 (.sl (some (.new h.next 0)) (s.count 47 + 1) (s.count 47 + 1) none) (.int .i64 (done.length:Nat))=some (.ptr (some (.new h.next done.length))):=by
      rw [idx_str hdl]; simp [AA.add]
    by_cases hz:r.count 47=0
    · have c1:¬((done.length:Int)<(s.count 47:Int)):=by omega
      have c2:¬(done.length<s.count 47):=by omega
      have w4:IntKind.i64.wrap ((done.length:Int) + 1)=(done.length:Int) + 1:=wrap64 (by omega) (by omega)
      have hsl:∀x:AH,aSlice (CC W) 37 (.sl (some (.new h.next 0)) (s.count 47 + 1) (s.count 47 + 1) none) none (some (.int .i64 ((done.length:Int) + 1))) none=some (.sl (some (.new h.next 0)) (done.length + 1) (s.count 47 + 1) none):=by
        intro x
        have:=aBounds_hi (len:=s.count 47 + 1) (cap:=s.count 47 + 1) (n:=done.length + 1) (by omega)
        simp only [Int.natCast_add,Int.cast_ofNat_Int] at this
        simp only [aSlice,kind37,size9,this]
        simp [AA.add]
      have hst:=store_str (W:=W) (x:=r) hg hdl
      simp [push_cast,c1,c2,hix,hst,w4,hsl h']
      refine ⟨⟨by simp; omega,fun j hj=>by rw [AH.get_set,if_neg (by omega)]; exact hkeep j hj⟩,?_⟩
      rw [hp,pieces_miss r hz]
      refine StrS.new (k:=h.next) (m:=done ++ [r]) (by rw [AH.get_set,if_pos rfl]) (by simp; omega) (by simp) (fun j x hx=>hx) (by omega)
    · have c1:((done.length:Int)<(s.count 47:Int)):=by omega
      have c2:(done.length<s.count 47):=by omega
      obtain ⟨q,hq,hql,hpq,hcq⟩:=pieces_hit r hz
      simp [push_cast,c1,c2]
      refine callK_Ret (by simp [fn147]) (Index_ret W r 47) ?_
      rw [hq]
      have c3:¬((q:Int)<0):=by omega
      have w4:IntKind.i64.wrap ((q:Int) + 0)=(q:Int):=by rw [wrap64 (by omega) (by omega)]; omega
      have w4':IntKind.i64.wrap (q:Int)=(q:Int):=wrap64 (by omega) (by omega)
      have w5:IntKind.i64.wrap ((q:Int) + 1)=(q:Int) + 1:=wrap64 (by omega) (by omega)
      have w6:IntKind.i64.wrap ((done.length:Int) + 1)=(done.length:Int) + 1:=wrap64 (by omega) (by omega)
      have hst:=store_str (W:=W) (x:=r.take q) hg hdl
      have s1:aSlice (CC W) 9 (.str r) none (some (.int .i64 (q:Int))) none=some (.str (r.take q)):=by
        exact slice_hi (by omega)
      have s2:aSlice (CC W) 9 (.str r) (some (.int .i64 ((q:Int) + 1))) none none=some (.str (r.drop (q + 1))):=by
        have:=slice_lo (W:=W) (r:=r) (q:=q + 1) (by omega)
        simpa using this
      simp [push_cast,c3,w4,w4',w5,w6,hix,hst,s1,s2,aLen,kind9]
      refine ⟨(r.drop (q + 1)).count 47,by omega,⟨by simpa using hn,fun j hj=>by rw [AH.get_set,if_neg (by omega)]; exact hkeep j hj⟩,by simp,done ++ [r.take q],r.drop (q + 1),by rw [hp,hpq]; simp,by simp; omega,rfl,by simp; omega,by simp,by simp⟩
set_option maxRecDepth 20000 in
theorem Split_ret (W:World) (s:List UInt8) (hs:s.length<8796093022207) (h:AH):RetQ (CC W) 85 [.str s,.str [47]] h fun v h'=>StrS W h' v (pieces s):=by
  refine jj9 (cc_ok W) (fn85 W) (by simp only [Tryz.f85]; rfl) rfl rfl ?_
  simp [push_cast]
  refine jg9 (by simp [fn118]) (genSplit_ret W s hs h) fun v h' hk hv=> ?_
  simp [push_cast]
  exact ⟨hk,hv⟩
def judge (l:List (List UInt8)):List (List UInt8)×Int:=match l.find? (fun s=>nameR s !=0) with
  | some s=>([],nameR s)
  | none=>if 8<l.length then ([],308) else (l,0)
theorem judge_bad {l r:List (List UInt8)} {s:List UInt8} (h:∀x∈l,nameR x=0) (hs:nameR s≠0):judge (l ++ s::r)=([],nameR s):=by
  have:(l ++ s::r).find? (fun s=>nameR s !=0)=some s:=by
    rw [List.find?_append]
    have:l.find? (fun s=>nameR s !=0)=none:=by
      rw [List.find?_eq_none]; intro x hx; simp [h x hx]
    simp [this,hs]
  simp [judge,this]
theorem judge_ok {l:List (List UInt8)} (h:∀x∈l,nameR x=0):judge l=if 8<l.length then ([],308) else (l,0):=by
  have:l.find? (fun s=>nameR s !=0)=none:=by
    rw [List.find?_eq_none]; intro x hx; simp [h x hx]
  simp [judge,this]
def splitR:List UInt8→List (List UInt8)×Int
  | []=>([],309)
  | c::r=>if c=47 then if r=[] then ([],0) else judge (pieces r) else ([],309)
def SplitQ (W:World) (p:List UInt8) (v:AV) (h:AH):Prop:=∃sl,v= .tup [sl,.int .i64 (splitR p).2]∧StrS W h sl (splitR p).1
def SpI (W:World) (h1:AH) (sl:AV) (l:List (List UInt8)) (m:Nat) (e':Env) (h':AH):Prop:=
  Keeps h1 h'∧e'.length=39∧∃k:Nat,k + m=l.length∧(∀j x,j<k→l[j]? =some x→nameR x=0)∧(e'.getD 6 .undef=sl∧e'.getD 23 .undef=sl∧e'.getD 24 .undef= .int .i64 l.length∧e'.getD 25 .undef= .int .i64 k)
set_option maxHeartbeats 4000000 in
set_option maxRecDepth 20000 in
theorem split_ret (W:World) (p:List UInt8) (hp:p.length<8796093022207) (h:AH):RetQ (CC W) 51 [.str p] h (SplitQ W p):=by
  refine jj9 (cc_ok W) (fn51 W) (by simp only [Tryz.f51]; rfl) rfl rfl ?_
  simp [push_cast]
  refine callK_Ret (by simp [fn84]) (CutPrefix_ret W p [47]) ?_
  match p,hp with
  | [],_=> 
    simp [push_cast,aUn,hasP,Keeps.refl]
    exact ⟨_,rfl,StrS.nil⟩
  | c::r,hp=>
    by_cases hc:c=47
    · subst hc
      by_cases hr:r=[]
      · subst hr
        simp [push_cast,aUn,aStr,hasP,cutP,Keeps.refl]
        exact ⟨_,rfl,StrS.nil⟩
      · have b1:(r==[])=false:=by rw [beq_eq_false_iff_ne]; exact hr
        simp [push_cast,aUn,aStr,hasP,cutP,b1,hr]
        refine jg9 (by simp [fn85]) (Split_ret W r (by simp at hp; omega) h) fun v h1 hk1 hv=> ?_
        have hS:splitR (47::r)=judge (pieces r):=by simp [splitR,hr]
        have hSQ:SplitQ W (47::r)=fun v h=>∃sl,v= .tup [sl,.int .i64 (judge (pieces r)).2]∧StrS W h sl (judge (pieces r)).1:=by
          funext v h; simp only [SplitQ,hS]
        rw [hSQ]
        obtain ⟨a,cp,gr,rfl⟩:=hv.len
        have hpl:(pieces r).length≤r.length + 1:=by
          rw [pieces_length]; have:=List.count_le_length (a:=(47:UInt8)) (l:=r); omega
        generalize pieces r=l at hv hpl ⊢
        simp at hp
        simp [push_cast,aLen,kind37]
        refine loopN (cc_ok W) (SpI W h1 (.sl a l.length cp gr) l) l.length ⟨Keeps.refl _,by simp,0,by simp,fun j x hj=>by omega,by simp⟩ ?_
        rintro m e' h' ⟨hk2,hl,k,hkm,hno,hh⟩
        have hkk:=hk1.trans hk2
        match e',hl with
        | a0::a1::a2::a3::a4::a5::a6::a7::a8::a9::a10::a11::a12::a13::a14::a15::a16::a17::a18::a19::a20::a21::a22::a23::a24::a25::a26::a27::a28::a29::a30::a31::a32::a33::a34::a35::a36::a37::a38::[],_=>
          simp at hh
          obtain ⟨rfl,rfl,rfl,rfl⟩:=hh
          by_cases hlt:k<l.length
          · have hx:l[k]? =some l[k]:=by simp [hlt]
            obtain ⟨a',hix,hld⟩:=(hv.keeps hk2).at hx
            have hlt':(k:Int)<(l.length:Int):=by omega
            have wk:IntKind.i64.wrap ((k:Int) + 1)=(k:Int) + 1:=wrap64 (by omega) (by omega)
            generalize l[k]=x at hx hld
            simp [push_cast,hlt,hlt',hix,hld]
            refine callK_RetX (by simp [fn86]) (name_ret W x) fun h3 hk3=> ?_
            by_cases hn:nameR x=0
            · simp [push_cast,hn,wk]
              refine ⟨m - 1,by omega,hk2.trans hk3,by simp,k + 1,by omega,fun j y hj hy=> ?_,by simp⟩
              rcases Nat.lt_or_ge j k with h | h
              · exact hno j y h hy
              · obtain rfl:j=k:=by omega
                rw [hx] at hy; simp at hy; subst hy; exact hn
            · have hsp:l=l.take k ++ x::l.drop (k + 1):=by
                have h1:=List.take_append_drop k l
                rw [List.drop_eq_getElem_cons hlt] at h1
                have:l[k]=x:=by
                  have:=hx; rw [List.getElem?_eq_getElem hlt] at this; exact Option.some.inj this
                rw [this] at h1
                exact h1.symm
              have hj:judge l=([],nameR x):=by
                rw [hsp]
                refine judge_bad (fun y hy=> ?_) hn
                obtain ⟨j,hj⟩:=List.getElem?_of_mem hy
                rw [List.getElem?_take] at hj
                split at hj
                · rename_i hjk; exact hno j y hjk hj
                · simp at hj
              simp [push_cast,hn,hj]
              exact ⟨hkk.trans hk3,StrS.nil⟩
          · have hall:∀x∈l,nameR x=0:=by
              intro x hx
              obtain ⟨j,hj⟩:=List.getElem?_of_mem hx
              exact hno j x (by have:=(List.getElem?_eq_some_iff.1 hj).1; omega) hj
            have hlt':¬(k:Int)<(l.length:Int):=by omega
            by_cases h8:8<l.length
            · have hj:judge l=([],308):=by rw [judge_ok hall,if_pos h8]
              have h8':(8:Int)<(l.length:Int):=by omega
              simp [push_cast,hlt,hlt',aLen,kind37,h8,h8',hj]
              exact ⟨hkk,StrS.nil⟩
            · have hj:judge l=(l,0):=by rw [judge_ok hall,if_neg h8]
              have h8':¬(8:Int)<(l.length:Int):=by omega
              simp [push_cast,hlt,hlt',aLen,kind37,h8,h8',hj]
              exact ⟨hkk,hv.keeps hk2⟩
    · have hb:hasP (c::r) [47]=false:=by
        have hc':¬(47:UInt8)=c:=fun e=>hc e.symm
        simp [hasP,List.isPrefixOf,hc']
      simp [push_cast,aUn,hb,Keeps.refl]
      refine ⟨_,by simp [splitR,hc]; rfl,by simp [splitR,hc]; exact StrS.nil⟩
theorem ld_op {W:World} {h:AH} {k:Nat} {a b c d e f:AV} (hg:h.get k=some (.cells [a,b,c,d,e,f] 35)):aLoad (CC W) h 35 (.new k 0)=some (.agg [a,b,c,d,e,f]):=by
  unfold aLoad
  rw [ty35]
  show (aCells (CC W) h (.new k 0) 6).map AV.agg=_
  simp [aCells,hg]
set_option maxRecDepth 100000 in
set_option maxHeartbeats 8000000 in
theorem do_ret (W:World) (h:AH) (R:MR) (M M':MS) (hm:MIs h R M) (kd a n:Int) (p t dt:List UInt8) (hp:p.length<8796093022207) (ht:t.length<8796093022207) (res:Res)
    (hno:rowR kd<0→res=Res.err 309∧M'=M) (hsp:¬rowR kd<0→(splitR p).2≠0→res=Res.err (splitR p).2∧M'=M)
    (hgo:∀i:Nat,rowR kd=i→i<11→(splitR p).2=0→∀(to:Bool) (f:FuncId),rowAt R.km i=[.int .i64 ((i:Int) + 1),.bool to,.fn (.func f) [.ptr (some (.new R.km 0))] []]→
      (to=true→(splitR t).2≠0→res=Res.err (splitR t).2∧M'=M)∧
      ((to=true→(splitR t).2=0)→((CC W).fn f).isSome=true∧∀h1 v v2,MIs h1 R M→StrS W h1 v (splitR p).1→StrS W h1 v2 (if to=true then (splitR t).1 else [])→RetO W f [.ptr (some (.new R.km 0)),opV kd a n p t dt,v,v2] h1 R res M')):
    RetO W 17 [.ptr (some (.new R.km 0)),opV kd a n p t dt] h R res M':=by
  refine jj9 (cc_ok W) (fn17 W) (by simp only [Tryz.f17]; rfl) rfl rfl ?_
  have hsd:=Side.start hm (.cells [.int .i64 kd,.int .i64 a,.int .i64 n,.str p,.str t,.str dt] 35) (.cells res0 39)
  have hbx:=box_op (h:=h) (l:=[.int .i64 kd,.int .i64 a,.int .i64 n,.str p,.str t,.str dt])
  have hal:=alloc_res (W:=W) (h:=h.push (.cells [.int .i64 kd,.int .i64 a,.int .i64 n,.str p,.str t,.str dt] 35))
  have hgb:((h.push (.cells [.int .i64 kd,.int .i64 a,.int .i64 n,.str p,.str t,.str dt] 35)).push (.cells res0 39)).get h.next=some (.cells [.int .i64 kd,.int .i64 a,.int .i64 n,.str p,.str t,.str dt] 35):=by simp
  have hg0:((h.push (.cells [.int .i64 kd,.int .i64 a,.int .i64 n,.str p,.str t,.str dt] 35)).push (.cells res0 39)).get (h.push (.cells [.int .i64 kd,.int .i64 a,.int .i64 n,.str p,.str t,.str dt] 35)).next=some (.cells res0 39):=by simp
  generalize (h.push (.cells [.int .i64 kd,.int .i64 a,.int .i64 n,.str p,.str t,.str dt] 35)).push (.cells res0 39)=h2 at hsd hal hgb hg0
  generalize h.push (.cells [.int .i64 kd,.int .i64 a,.int .i64 n,.str p,.str t,.str dt] 35)=h1 at hsd hbx hal hgb hg0
  generalize h1.next=k0 at hsd hal hg0
  generalize h.next=kb at hbx hgb hsd
  have hm2:=hm.keeps hsd.keeps
  have hB2:MStep h2 h2 R R:=MStep.refl (Keeps.refl _)
  simp [push_cast,opV,hbx,hal,aEq,kind25,kindEq1,aEq1,fa88_2,ld86,ji9 hm2.mod,jd9]
  refine jf9 (by simp [fn49]) (row_ret W h2 R M hm2 kb kd _ _ hsd.hb.2 hgb) fun h3 hk3=> ?_
  have hm3:=hm2.keeps hk3
  have hB3:MStep h2 h3 R R:=MStep.refl hk3
  have hgb3:=((hsd.stay hB3 (.inl rfl))).trans hgb
  by_cases hneg:rowR kd<0
  · obtain ⟨rfl,rfl⟩:=hno hneg
    simp [push_cast,hneg]
    refine jf9 (by simp [fn48]) (failed_ret W h3 _) fun h9 hk9=> ?_
    have hg9:=((hsd.stay (hB3.trans (MStep.refl hk9)) (.inr rfl))).trans hg0
    have hst:=st_res (W:=W) (e1:=309) (d1:=[]) (k1:=0) (l1:=0) (s1:=0) (p:=none) (n:=0) (q:=0) (g:=none) hg9
    have hf:=hsd.fin (hm3.keeps hk9) (hB3.trans (MStep.refl hk9)) (.cells [.int .i64 309,.str [],.int .i64 0,.int .i64 0,.int .i64 0,.sl none 0 0 none] 39)
    simp [push_cast,resE,res6,hst,ld_resS]
    exact ⟨⟨_,rfl,.inl ⟨rfl,rfl⟩⟩,_,hf⟩
  · obtain ⟨i,hi,hi11,_⟩:=fstI_lt (p:=fun i=>(i:Int) + 1==kd) (n:=11) hneg
    have hri:rowR kd=(i:Int):=hi
    have hneg':¬(i:Int)<0:=by omega
    rw [hri]
    simp [push_cast,hneg',fa35_3,ld9,ji9 hgb3]
    refine jg9 (by simp [fn51]) (split_ret W p hp h3) fun w4 h4 hk4 hq4=> ?_
    obtain ⟨sl,rfl,hs4⟩:=hq4
    have hm4:=hm3.keeps hk4
    have hB4:MStep h2 h4 R R:=hB3.trans (MStep.refl hk4)
    have hgb4:=((hsd.stay hB4 (.inl rfl))).trans hgb
    by_cases he:(splitR p).2=0
    · obtain ⟨to,f,hrow,hf100⟩:=rowAt_eq R.km i hi11
      have n1:f≠141:=fun e=>by subst e; exact absurd hf100 (by decide)
      have n2:f≠175:=fun e=>by subst e; exact absurd hf100 (by decide)
      have n4:f≠110:=fun e=>by subst e; exact absurd hf100 (by decide)
      have n3:f≠203:=fun e=>by subst e; exact absurd hf100 (by decide)
      obtain ⟨hg1,hg2⟩:=hgo i hri hi11 he to f hrow
      have hc1:∀h',MIs h' R M→aCell (CC W) h' (.new R.kr (3 * i + 1))=some (.bool to):=fun h' hmm=>by
        rw [ji9 hmm.rows]
        have:=congrArg (fun q=>q[1]?) hrow
        simpa [rowAt,List.getElem?_take,List.getElem?_drop] using this
      have hc2:∀h',MIs h' R M→aCell (CC W) h' (.new R.kr (3 * i + 2))=some (.fn (.func f) [.ptr (some (.new R.km 0))] []):=fun h' hmm=>by
        rw [ji9 hmm.rows]
        have:=congrArg (fun q=>q[2]?) hrow
        simpa [rowAt,List.getElem?_take,List.getElem?_drop] using this
      simp [push_cast,he,fa88_2,ld86,ji9 hm4.mod,jd9,idx_row hi11,fa96_1,ld4,hc1 h4 hm4]
      cases to with
      | true=>
        simp [push_cast,fa35_4,ld9,ji9 hgb4]
        refine jg9 (by simp [fn51]) (split_ret W t ht h4) fun w5 h5 hk5 hq5=> ?_
        obtain ⟨sl5,rfl,hs5⟩:=hq5
        have hm5:=hm4.keeps hk5
        have hB5:MStep h2 h5 R R:=hB4.trans (MStep.refl hk5)
        have hgb5:=((hsd.stay hB5 (.inl rfl))).trans hgb
        by_cases he5:(splitR t).2=0
        · obtain ⟨hf,hop⟩:=hg2 fun _=>he5
          simp [push_cast,he5]
          refine draw1 (cc_ok W) [0,1,2,3,4,5,6,7,8,9,10,11,12] (by kernel_rfl) (by kernel_rfl) (by kernel_rfl) rfl ?_
          simp [push_cast,fa88_2,ld86,ji9 hm5.mod,jd9,idx_row hi11,fa96_2,ld94,hc2 h5 hm5,ld_op hgb5,n1,n2,n3,n4]
          refine je9 hf (hop h5 _ _ hm5 (hs4.keeps hk5) (by simpa using hs5)) fun w6 h6 ⟨R6,hres,hm6,hB6⟩=> ?_
          obtain ⟨nv,rfl,hnm⟩:=hres
          have hB6':=hB5.trans hB6
          have hg06:=((hsd.stay hB6' (.inr rfl))).trans hg0
          have hnn:=hnm.setOther (k0:=k0) (by have:=hsd.h0; have:=hB5.nx; omega) (h00:=h) (by have:=hsd.keeps.1; have:=hB5.nx; omega)
          obtain ⟨pv,nn,cv,gv,rfl⟩:=hnm.isSl
          have hst:=st_res (W:=W) (e1:=res.e) (d1:=res.data) (k1:=res.kind) (l1:=res.links) (s1:=res.size) (p:=pv) (n:=nn) (q:=cv) (g:=gv) hg06
          have hf2:=hsd.fin hm6 hB6' (.cells [.int .i64 res.e,.str res.data,.int .i64 res.kind,.int .i64 res.links,.int .i64 res.size,.sl pv nn cv gv] 39)
          simp [push_cast,res6,hst,ld_resS]
          exact ⟨⟨_,rfl,hnn _⟩,_,hf2⟩
        · obtain ⟨rfl,rfl⟩:=hg1 rfl he5
          simp [push_cast,he5]
          refine jf9 (by simp [fn48]) (failed_ret W h5 _) fun h9 hk9=> ?_
          have hg9:=((hsd.stay (hB5.trans (MStep.refl hk9)) (.inr rfl))).trans hg0
          have hst:=st_res (W:=W) (e1:=(splitR t).2) (d1:=[]) (k1:=0) (l1:=0) (s1:=0) (p:=none) (n:=0) (q:=0) (g:=none) hg9
          have hf:=hsd.fin (hm5.keeps hk9) (hB5.trans (MStep.refl hk9)) (.cells [.int .i64 (splitR t).2,.str [],.int .i64 0,.int .i64 0,.int .i64 0,.sl none 0 0 none] 39)
          simp [push_cast,resE,res6,hst,ld_resS]
          exact ⟨⟨_,rfl,.inl ⟨rfl,rfl⟩⟩,_,hf⟩
      | false=>
        obtain ⟨hf,hop⟩:=hg2 fun h=>by cases h
        simp [push_cast]
        refine draw1 (cc_ok W) [0,1,2,3,4,5,6,7,8,9,10,11,12] (by kernel_rfl) (by kernel_rfl) (by kernel_rfl) rfl ?_
        simp [push_cast,fa88_2,ld86,ji9 hm4.mod,jd9,idx_row hi11,fa96_2,ld94,hc2 h4 hm4,ld_op hgb4,n1,n2,n3,n4]
        refine je9 hf (hop h4 _ _ hm4 hs4 (by simpa using StrS.nil)) fun w6 h6 ⟨R6,hres,hm6,hB6⟩=> ?_
        obtain ⟨nv,rfl,hnm⟩:=hres
        have hB6':=hB4.trans hB6
        have hg06:=((hsd.stay hB6' (.inr rfl))).trans hg0
        have hnn:=hnm.setOther (k0:=k0) (by have:=hsd.h0; have:=hB4.nx; omega) (h00:=h) (by have:=hsd.keeps.1; have:=hB4.nx; omega)
        obtain ⟨pv,nn,cv,gv,rfl⟩:=hnm.isSl
        have hst:=st_res (W:=W) (e1:=res.e) (d1:=res.data) (k1:=res.kind) (l1:=res.links) (s1:=res.size) (p:=pv) (n:=nn) (q:=cv) (g:=gv) hg06
        have hf2:=hsd.fin hm6 hB6' (.cells [.int .i64 res.e,.str res.data,.int .i64 res.kind,.int .i64 res.links,.int .i64 res.size,.sl pv nn cv gv] 39)
        simp [push_cast,res6,hst,ld_resS]
        exact ⟨⟨_,rfl,hnn _⟩,_,hf2⟩
    · obtain ⟨rfl,rfl⟩:=hsp hneg he
      simp [push_cast,he]
      refine jf9 (by simp [fn48]) (failed_ret W h4 _) fun h9 hk9=> ?_
      have hg9:=((hsd.stay (hB4.trans (MStep.refl hk9)) (.inr rfl))).trans hg0
      have hst:=st_res (W:=W) (e1:=(splitR p).2) (d1:=[]) (k1:=0) (l1:=0) (s1:=0) (p:=none) (n:=0) (q:=0) (g:=none) hg9
      have hf:=hsd.fin (hm4.keeps hk9) (hB4.trans (MStep.refl hk9)) (.cells [.int .i64 (splitR p).2,.str [],.int .i64 0,.int .i64 0,.int .i64 0,.sl none 0 0 none] 39)
      simp [push_cast,resE,res6,hst,ld_resS]
      exact ⟨⟨_,rfl,.inl ⟨rfl,rfl⟩⟩,_,hf⟩
def overR (b s:List UInt8) (k:Nat):List UInt8:=b.take k ++ s ++ b.drop (k + s.length)
set_option maxHeartbeats 4000000 in
theorem over_ret (W:World) (h:AH) (b s:List UInt8) (k:Nat) (hk:k + s.length≤b.length) (hb:b.length<8796093022207):
    RetH (CC W) 75 [.str b,.str s,.int .i64 (k:Int)] h (.str (overR b s k)):=by
  refine jj9 (cc_ok W) (fn75 W) (by simp only [Tryz.f75]; rfl) rfl rfl ?_
  have wi:IntKind.i64.wrap ((k:Int) + (s.length:Int))=((k + s.length:Nat):Int):=by rw [wrap64 (by omega) (by omega)]; omega
  have h1:=slice_hi (W:=W) (r:=b) (q:=k) (by omega)
  have h2:=slice_lo (W:=W) (r:=b) (q:=k + s.length) hk
  simp [push_cast]
  refine draw1 (cc_ok W) [0,1,2,3,4,5,6,7,8,9,10,11,12] (by kernel_rfl) (by kernel_rfl) (by kernel_rfl) rfl ?_
  simp only [Int.natCast_add] at wi h2
  have m1:¬(9223372036854775807:Int)<((min k b.length:Nat):Int) + (s.length:Int):=by omega
  have m2:¬(9223372036854775807:Int)<((min k b.length:Nat):Int) + (s.length:Int) + ((b.length - (k + s.length):Nat):Int):=by omega
  simp [push_cast,h1,aLen,kind9,wi,h2,aStr,overR,m1,m2]
theorem repZ_bytes:∀n:Nat,repZ n [AV.int .u8 0]=bcells (List.replicate n 0)
  | 0=>rfl
  | n + 1=>by
    have ih:=repZ_bytes n
    simp [repZ,bcells,List.replicate_succ] at ih ⊢
theorem mk_zeros {W:World} {h:AH} {n:Nat} (hn:n≤1000000):aMakeSlice (CC W) h 51 (.int .i64 (n:Int)) (.int .i64 (n:Int))=some (.sl (some (.new h.next 0)) n n none,h.push (.cells (bcells (List.replicate n 0)) 5)):=by
  have hb:(CC W).bytes 5=1:=_root_.id rfl
  simp only [aMakeSlice,kind51,size5,zero5,hb,Int.toNat_natCast,repZ_bytes]
  rw [if_pos ⟨by omega,by omega,by omega,by omega,by omega⟩]
theorem conv_zeros {W:World} {h:AH} {k n:Nat} (hg:h.get k=some (.cells (bcells (List.replicate n 0)) 5)):aConv (CC W) h 51 9 (.sl (some (.new k 0)) n n none)=some (.str (List.replicate n 0)):=by
  simp only [aConv,kind51,kind9,kind5]
  by_cases h0:n=0
  · subst h0; rfl
  · rw [if_neg h0]
    have hl:(bcells (List.replicate n 0)).length=n:=by simp [bcells_length]
    have ht:(bcells (List.replicate n 0)).take n=bcells (List.replicate n 0):=List.take_of_length_le (by omega)
    simp [aCells,hg,hl,ht,bcells_read]
set_option maxHeartbeats 4000000 in
theorem zeros_ret (W:World) (h:AH) (n:Nat) (hn:n≤1000000):RetK (CC W) 74 [.int .i64 (n:Int)] h (.str (List.replicate n 0)):=by
  refine jj9 (cc_ok W) (fn74 W) (by simp only [Tryz.f74]; rfl) rfl rfl ?_
  have hcv:=conv_zeros (W:=W) (h:=h.push (.cells (bcells (List.replicate n 0)) 5)) (k:=h.next) (n:=n) (by simp)
  simp [push_cast,mk_zeros hn,hcv]
  exact Keeps.push _ _
end Go.Proofs.YtbofhlifobjolaaGreatDoor.Ax
end
