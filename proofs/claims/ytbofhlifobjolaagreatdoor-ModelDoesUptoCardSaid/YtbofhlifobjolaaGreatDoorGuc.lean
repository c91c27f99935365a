/- The texts RfS, RfT, RfU, RfV, RfW, RfX, RfY, RgA, RgB, RgC, RgD, qt9, RgF, RgG, as one. -/
import Derived.Test.YtbofhlifobjolaaGreatDoorGub
import Derived.Test.YtbofhlifobjolaaGreatDoorGua
import Derived.Test.YtbofhlifobjolaaGreatDoorGta
import Derived.Test.YtbofhlifobjolaaGreatDoorGi
section
set_option linter.unusedVariables false
set_option linter.unusedSimpArgs false
namespace Go.Proofs.YtbofhlifobjolaaGreatDoor.Ax
open Go.RowKit
structure FileOk (nd:Nd):Prop where
  sl:nd.slots=[]
  sz:0≤nd.size∧nd.size<1000000000
  bl:∃bl,nd.blocks=some bl∧BOk bl∧(bl.map (·.1)).Nodup
  ix:(ixR nd).length<100000
def withinQ (M:MS) (o:Opn) (l:List (List UInt8)):Res×MS:=
  if oddQ o≠0 then (Res.err (oddQ o),M)
  else if (findR M l 0).2≠0 then (Res.err (findR M l 0).2,M)
  else match M.nodes[(findR M l 0).1.toNat]? with
    | none=>(Res.err 0,M)
    | some nd=>
      if o.kd=6 then (⟨0,[],nd.kind,nd.links,nd.size,[]⟩,M)
      else if o.kd=7 then if nd.kind=2 then (⟨0,[],0,0,0,sortT (nmsR nd.slots)⟩,M) else (Res.err 303,M)
      else if nd.kind=2 then (Res.err 304,M)
      else if o.kd=5 then (⟨0,bytesAt nd.blocks o.at_.toNat (min o.n (max (nd.size - o.at_) 0)).toNat,0,0,0,[]⟩,M)
      else if o.kd=4 then (Res.err 0,M.set (findR M l 0).1.toNat {nd with size:=o.n,blocks:=nd.blocks.map (trB o.n)})
      else if o.d=[] then (Res.err 0,M)
      else if 533248 - (o.d.length:Int)<o.at_ then (Res.err 307,M)
      else (Res.err 0,M.set (findR M l 0).1.toNat {nd with size:=max nd.size (o.at_ + o.d.length),blocks:=nd.blocks.map (wrB o.at_.toNat o.d)})
theorem RIs.imp {A B:Nat→Prop} {h:AH} {km kl:Nat} {M:MS} (hr:RIs A h km kl M) (hA:∀k,k<h.next→A k→B k):RIs B h km kl M:=by
  obtain ⟨css,a,b,c,d,e,f,g⟩:=hr
  exact ⟨css,a,fun i cs nd h1 h2=>(b i cs nd h1 h2).imp fun k hk ⟨x,y⟩=>⟨hA k hk x,y⟩,c,d,e,f,g⟩
theorem RIs.setOther {A:Nat→Prop} {h:AH} {km kl:Nat} {M:MS} {j:Nat} {c:AObj} (hr:RIs A h km kl M) (hj:j≠km∧j≠kl) (hA:∀k,A k→k≠j):RIs A (h.set j c) km kl M:=by
  obtain ⟨css,a,b,c',d,e,f,g⟩:=hr
  refine ⟨css,a,fun i cs nd h1 h2=>(b i cs nd h1 h2).off (Nat.le_refl _) fun k hk _=> ?_,?_,?_,e,f,g⟩
  · rw [AH.get_set,if_neg (hA k hk.1)]
  · rw [AH.get_set,if_neg (Ne.symm hj.2)]; exact c'
  · rw [AH.get_set,if_neg (Ne.symm hj.1)]; exact d
theorem OffR.set {km kl:Nat} {h hx:AH} {j:Nat} (ho:OffR km kl h hx) (hj:h.next≤j) (c:AObj):OffR km kl h (hx.set j c):=
  ⟨ho.1,fun q h1 h2 h3=>by rw [AH.get_set,if_neg (by omega)]; exact ho.2 q h1 h2 h3⟩
def ResR (h0 h:AH) (w:AV) (r:Res):Prop:=∃nv,w= .agg (res6 r.e r.data r.kind r.links r.size nv)∧OwT (fun k=>h0.next≤k) h nv r.names
theorem ResR.err {h0 h:AH} {e:Int}:ResR h0 h (resE e) (Res.err e):=⟨_,rfl,.inl ⟨rfl,rfl⟩⟩
def RetV (W:World) (f:FuncId) (args:List AV) (h:AH) (A:Nat→Prop) (km kl:Nat) (r:Res) (M':MS):Prop:=ACall (CC W) f args h (fun w h'=>ResR h h' w r∧RIs A h' km kl M'∧OffR km kl h h') (fun _ _=>False)
theorem fin_res {A:Nat→Prop} {h hx:AH} {km kl k6:Nat} {M:MS} (c:AObj) (hr:RIs (fun k=>A k∧k≠k6) hx km kl M) (ho:OffR km kl h hx) (hk:h.next≤k6) (hkm:k6≠km∧k6≠kl):RIs A (hx.set k6 c) km kl M∧OffR km kl h (hx.set k6 c):=
  ⟨(hr.setOther hkm fun _ h=>h.2).imp fun _ _ h=>h.1,ho.set hk c⟩
set_option maxHeartbeats 32000000 in
set_option maxRecDepth 20000 in
theorem rwithin_ret (W:World) (A:Nat→Prop) (h:AH) (hA:∀k,h.next≤k→A k) (km kl:Nat) (M:MS) (hr:RIs A h km kl M) (ro:ROk M) (o:Opn) (hat:o.at_<9223372036854775808) (hkd3:o.kd≠6∧o.kd≠7∧o.kd≠5∧o.kd≠4→o.kd=3) (v:AV) (l:List (List UInt8)) (hs:StrS W h v l) (hl:l.length<1000000000)
    (hfile:∀(i:Nat) nd,findR M l 0=((i:Int),0)→M.nodes[i]? =some nd→nd.kind≠2→FileOk nd):
    RetV W 94 [.ptr (some (.new km 0)),.agg o.cells,v] h A km kl (withinQ M o l).1 (withinQ M o l).2:=by
  refine jj9 (cc_ok W) (fn94 W) (by simp only [Tryz.f94]; rfl) rfl rfl ?_
  have hkm0:km<h.next:=by obtain ⟨_,_,_,_,_,h5,h6,_⟩:=_root_.id hr; exact h5
  have hkl0:kl<h.next:=by obtain ⟨_,_,_,_,_,h5,h6,_⟩:=_root_.id hr; exact h6
  have hbx:=box_op (h:=h) (l:=o.cells)
  have hk1:=Keeps.push h (.cells o.cells 35)
  have hg1:(h.push (.cells o.cells 35)).get h.next=some (.cells o.cells 35):=by simp
  have hn1:h.next<(h.push (.cells o.cells 35)).next:=by simp
  generalize h.push (.cells o.cells 35)=h1 at hbx hk1 hg1 hn1
  obtain ⟨k4,hk4e⟩:∃k4,k4=h.next:=⟨_,rfl⟩
  rw [←hk4e] at hbx hg1 hn1
  have hal:=alloc_res (W:=W) (h:=h1)
  have hk2:=Keeps.push h1 (.cells res0 39)
  have hz2:(h1.push (.cells res0 39)).get h1.next=some (.cells res0 39):=by simp
  have hn2:h1.next<(h1.push (.cells res0 39)).next:=by simp
  generalize h1.push (.cells res0 39)=h2 at hal hk2 hz2 hn2
  obtain ⟨k6,hk6e⟩:∃k6,k6=h1.next:=⟨_,rfl⟩
  rw [←hk6e] at hal hz2 hn2
  have hk02:=hk1.trans hk2
  have hk60:h.next≤k6:=by have:=hk1.1; omega
  have hkm:k6≠km∧k6≠kl:=⟨by omega,by omega⟩
  have hg2:=(hk2.2 k4 hn1).trans hg1
  have hn42:k4<h2.next:=Nat.lt_of_lt_of_le hn1 hk2.1
  have hld2:aLoad (CC W) h2 35 (.new k4 0)=some (.agg o.cells):=by
    simp only [Opn.cells] at hg2 ⊢; exact ld_op hg2
  have hr2:RIs (fun k=>A k∧k≠k6) h2 km kl M:=(hr.imp (B:=fun k=>A k∧k≠k6) fun k hk hAk=>⟨hAk,by omega⟩).keep hk02
  have hs2:=hs.keeps hk02
  have hA2:∀{hh:AH},h2.next≤hh.next→∀k,hh.next≤k→A k∧k≠k6:=fun hle k hk=>⟨hA k (by have:=hk02.1; omega),by omega⟩
  simp [push_cast,hbx,hal,hld2]
  refine jf9 (by simp [fn126]) (rodd_ret W h2 o) fun h3 hk3=> ?_
  have hr3:=hr2.keep hk3
  have hs3:=hs2.keeps hk3
  have hz3:=(hk3.2 k6 hn2).trans hz2
  have hg3:=(hk3.2 k4 hn42).trans hg2
  have hk03:=hk02.trans hk3
  by_cases ho:oddQ o=0
  case neg=>
    have ho':(oddQ o !=0)=true:=by simpa using ho
    have hQ:withinQ M o l=(Res.err (oddQ o),M):=by simp only [withinQ,ne_eq,ho,not_false_eq_true,if_true]
    rw [hQ]
    simp [push_cast,ho']
    refine jf9 (by simp [fn88]) (rfails_ret W h3 (oddQ o)) fun h4 hk4=> ?_
    have hz4:=(hk4.2 k6 (Nat.lt_of_lt_of_le hn2 hk3.1)).trans hz3
    have hst:=st_res (W:=W) (e1:=oddQ o) (d1:=[]) (k1:=0) (l1:=0) (s1:=0) (p:=none) (n:=0) (q:=0) (g:=none) hz4
    simp [push_cast,resE,res6,hst,ld_resS]
    exact ⟨ResR.err,fin_res _ (hr3.keep hk4) (OffR.ofKeeps (hk03.trans hk4)) hk60 hkm⟩
  have ho':(oddQ o !=0)=false:=by simpa using ho
  simp [push_cast,ho']
  refine jf9 (by simp [fn120]) (rfind_ret W _ h3 km kl M hr3 ro.ok (fun nd hn=>(ro.sh nd hn).2) v l hs3 hl) fun h4 hk4=> ?_
  have hr4:=hr3.keep hk4
  have hz4:=(hk4.2 k6 (Nat.lt_of_lt_of_le hn2 hk3.1)).trans hz3
  have hg4:=(hk4.2 k4 (Nat.lt_of_lt_of_le hn42 hk3.1)).trans hg3
  have hk04:=hk03.trans hk4
  have hn4:h2.next≤h4.next:=(hk3.trans hk4).1
  obtain ⟨b0,b1⟩:=findR_lt ro.ok l 0 (by omega) (by have:=ro.ok.some; omega)
  by_cases he:(findR M l 0).2=0
  case neg=>
    have he':((findR M l 0).2 !=0)=true:=by simpa using he
    have hQ:withinQ M o l=(Res.err (findR M l 0).2,M):=by simp only [withinQ,ne_eq,ho,not_true_eq_false,if_false,he,not_false_eq_true,if_true]
    rw [hQ]
    simp [push_cast,he']
    refine jf9 (by simp [fn88]) (rfails_ret W h4 (findR M l 0).2) fun h5 hk5=> ?_
    have hz5:=(hk5.2 k6 (Nat.lt_of_lt_of_le hn2 hn4)).trans hz4
    have hst:=st_res (W:=W) (e1:=(findR M l 0).2) (d1:=[]) (k1:=0) (l1:=0) (s1:=0) (p:=none) (n:=0) (q:=0) (g:=none) hz5
    simp [push_cast,resE,res6,hst,ld_resS]
    exact ⟨ResR.err,fin_res _ (hr4.keep hk5) (OffR.ofKeeps (hk04.trans hk5)) hk60 hkm⟩
  have he':((findR M l 0).2 !=0)=false:=by simpa using he
  obtain ⟨i,hi⟩:=Int.eq_ofNat_of_zero_le b0
  have hfind:findR M l 0=((i:Int),0):=Prod.ext hi he
  rw [hi] at b1
  have hin:i<M.nodes.length:=by omega
  obtain ⟨nd,hnd⟩:∃nd,M.nodes[i]? =some nd:=⟨M.nodes[i],by simp [hin]⟩
  have hf:=hfile i nd hfind hnd
  have hgm4:=hr4.mod
  obtain ⟨cs,hnc4,hldn,_⟩:=hr4.node (W:=W) hnd
  obtain ⟨hp,h5,hal5,hst5,hk5,hlt5,hg5⟩:=nd_box (W:=W) h4 hnc4.len hnc4.ones
  obtain ⟨kb,hkbe⟩:∃kb,kb=h4.next:=⟨_,rfl⟩
  rw [←hkbe] at hal5 hst5 hlt5 hg5
  have hnc:=hnc4.keep hk5
  obtain ⟨iv,dv,nv,sv,rfl,_⟩:=_root_.id hnc
  have hr5:=hr4.keep hk5
  have hgm:=hr5.mod
  have hz5:=(hk5.2 k6 (Nat.lt_of_lt_of_le hn2 hn4)).trans hz4
  have hgo:=(hk5.2 k4 (Nat.lt_of_lt_of_le hn42 hn4)).trans hg4
  have hk05:=hk04.trans hk5
  have hn65:k6<h5.next:=Nat.lt_of_lt_of_le hn2 (Nat.le_trans hn4 hk5.1)
  have hn45:k4<h5.next:=Nat.lt_of_lt_of_le hn42 (Nat.le_trans hn4 hk5.1)
  have hldb:=ld_rn (W:=W) hg5
  simp only [Opn.cells] at hgo
  have hQ:withinQ M o l=if o.kd=6 then (⟨0,[],nd.kind,nd.links,nd.size,[]⟩,M)
      else if o.kd=7 then if nd.kind=2 then (⟨0,[],0,0,0,sortT (nmsR nd.slots)⟩,M) else (Res.err 303,M)
      else if nd.kind=2 then (Res.err 304,M)
      else if o.kd=5 then (⟨0,bytesAt nd.blocks o.at_.toNat (min o.n (max (nd.size - o.at_) 0)).toNat,0,0,0,[]⟩,M)
      else if o.kd=4 then (Res.err 0,M.set i {nd with size:=o.n,blocks:=nd.blocks.map (trB o.n)})
      else if o.d=[] then (Res.err 0,M)
      else if 533248 - (o.d.length:Int)<o.at_ then (Res.err 307,M)
      else (Res.err 0,M.set i {nd with size:=max nd.size (o.at_ + o.d.length),blocks:=nd.blocks.map (wrB o.at_.toNat o.d)}):=by
    simp only [withinQ,ne_eq,ho,not_true_eq_false,if_false,he,hi,Int.toNat_natCast,hnd]
  rw [hQ]
  have hshort:=ro.sh nd (List.mem_of_getElem? hnd)
  have hfail:∀(e:Int) (hh:AH),Keeps h5 hh→∀h',Keeps hh h'→aStoreOp (CC W) h' 39 (.ptr (some (.new k6 0))) (.agg [.int .i64 e,.str [],.int .i64 0,.int .i64 0,.int .i64 0,.sl none 0 0 none])=some (h'.set k6 (.cells [.int .i64 e,.str [],.int .i64 0,.int .i64 0,.int .i64 0,.sl none 0 0 none] 39)):=fun e hh hkh h' hk'=>
    st_res (((hkh.trans hk').2 k6 hn65).trans hz5)
  simp [push_cast,he',hi,fa60_0,ld58,ji9 hgm4,jd9,idx_rn hin,hldn,hal5,hst5]
  by_cases k6':o.kd=6
  · have kb6:(o.kd==6)=true:=by simpa using k6'
    have hst:=st_res (W:=W) (e1:=0) (d1:=[]) (k1:=nd.kind) (l1:=nd.links) (s1:=nd.size) (p:=none) (n:=0) (q:=0) (g:=none) hz5
    rw [if_pos k6']
    simp [push_cast,fa35_0,ji9 hgo,kb6,fa100_0,fa100_1,fa100_2,ld3,ji9 hg5,build_stat,hst,ld_resS]
    exact ⟨⟨_,rfl,.inl ⟨rfl,rfl⟩⟩,fin_res _ hr5 (OffR.ofKeeps hk05) hk60 hkm⟩
  have kb6:(o.kd==6)=false:=by simpa using k6'
  rw [if_neg k6']
  by_cases k7:o.kd=7
  · have kb7:(o.kd==7)=true:=by simpa using k7
    rw [if_pos k7]
    by_cases hkd:nd.kind=2
    case neg=>
      have hkd':(nd.kind !=2)=true:=by simpa using hkd
      rw [if_neg hkd]
      simp [push_cast,fa35_0,ji9 hgo,kb6,kb7,fa100_0,ld3,ji9 hg5,hkd']
      refine jf9 (by simp [fn88]) (rfails_ret W h5 303) fun h6 hk6=> ?_
      simp [push_cast,resE,res6,hfail 303 h5 (Keeps.refl _) h6 hk6,ld_resS]
      exact ⟨ResR.err,fin_res _ (hr5.keep hk6) (OffR.ofKeeps (hk05.trans hk6)) hk60 hkm⟩
    have hkd':(nd.kind !=2)=false:=by simpa using hkd
    rw [if_pos hkd]
    simp [push_cast,fa35_0,ji9 hgo,kb6,kb7,fa100_0,ld3,ji9 hg5,hkd',hldb]
    refine jg9 (by simp [fn99]) (rsorted_ret W _ h5 _ nd hnc hshort) fun w h6 hk6 hw=> ?_
    obtain ⟨p,n,q,g,rfl⟩:=hw.isSl
    have hz6:=(hk6.2 k6 hn65).trans hz5
    have hst:=st_res (W:=W) (e1:=0) (d1:=[]) (k1:=0) (l1:=0) (s1:=0) (p:=p) (n:=n) (q:=q) (g:=g) hz6
    simp [push_cast,build_names,hst,ld_resS]
    refine ⟨⟨_,rfl,?_⟩,fin_res _ (hr5.keep hk6) (OffR.ofKeeps (hk05.trans hk6)) hk60 hkm⟩
    refine OwnL.imp (A:=fun k=>h5.next≤k) (OwnL.off (h:=h6) hw (Nat.le_refl _) fun k hk _=> ?_) fun k _ hk=> ?_
    · have:h5.next≤k:=hk
      rw [AH.get_set,if_neg (by omega)]
    · have:h5.next≤k:=hk
      have:=hk05.1
      show h.next≤k
      omega
  have kb7:(o.kd==7)=false:=by simpa using k7
  rw [if_neg k7]
  by_cases hkd:nd.kind=2
  · have hkd':(nd.kind==2)=true:=by simpa using hkd
    rw [if_pos hkd]
    simp [push_cast,fa35_0,ji9 hgo,kb6,kb7,fa100_0,ld3,ji9 hg5,hkd']
    refine jf9 (by simp [fn88]) (rfails_ret W h5 304) fun h6 hk6=> ?_
    simp [push_cast,resE,res6,hfail 304 h5 (Keeps.refl _) h6 hk6,ld_resS]
    exact ⟨ResR.err,fin_res _ (hr5.keep hk6) (OffR.ofKeeps (hk05.trans hk6)) hk60 hkm⟩
  have hkd':(nd.kind==2)=false:=by simpa using hkd
  rw [if_neg hkd]
  obtain ⟨hsl,hsz,⟨bl,hbl,hbo,hky⟩,hix⟩:=hf hkd
  by_cases k5:o.kd=5
  · have kb5:(o.kd==5)=true:=by simpa using k5
    rw [if_pos k5]
    have hq:0≤o.at_∧0≤o.n∧o.n≤1024:=by
      simp only [oddQ,k5] at ho
      simp at ho
      omega
    simp [push_cast,fa35_0,fa35_1,fa35_2,ji9 hgo,kb6,kb7,kb5,fa100_0,ld3,ji9 hg5,hkd',hldb]
    refine jf9 (by simp [fn127]) (rbytes_ret W _ h5 _ nd hnc hshort (fun k s hk=>(hbo _ (blkAt_mem (by rw [←hbl]; exact hk))).1) hsz o.at_ o.n ⟨hq.1,hat⟩ hq.2) fun h6 hk6=> ?_
    have hz6:=(hk6.2 k6 hn65).trans hz5
    have hst:=st_res (W:=W) (e1:=0) (d1:=bytesAt nd.blocks o.at_.toNat (min o.n (max (nd.size - o.at_) 0)).toNat) (k1:=0) (l1:=0) (s1:=0) (p:=none) (n:=0) (q:=0) (g:=none) hz6
    simp [push_cast,build_data,hst,ld_resS]
    exact ⟨⟨_,rfl,.inl ⟨rfl,rfl⟩⟩,fin_res _ (hr5.keep hk6) (OffR.ofKeeps (hk05.trans hk6)) hk60 hkm⟩
  have kb5:(o.kd==5)=false:=by simpa using k5
  rw [if_neg k5]
  by_cases k4':o.kd=4
  · have kb4:(o.kd==4)=true:=by simpa using k4'
    rw [if_pos k4']
    have hq:0≤o.n∧o.n≤533248:=by
      simp only [oddQ,k4'] at ho
      simp at ho
      omega
    simp [push_cast,fa35_0,ji9 hgo,kb6,kb7,kb5,kb4,fa100_0,ld3,ji9 hg5,hkd']
    refine drawS [0,1,2,3,4,5,6,7,8,9,10] (by kernel_rfl) (by kernel_rfl) ?_
    simp [push_cast,zx9,zy9,SgO,opA,isE,isRead,fa60_0,fa35_2,ld3,ld58,ji9 hgm,ji9 hgo,jd9,hldb]
    refine jb9 (f:=128) (args:=[.agg [.int .i64 nd.kind,.int .i64 nd.links,.int .i64 nd.size,iv,dv,nv,sv],.int .i64 o.n]) (by rfl) (by rfl) (by rfl) (by simp [fn128]) (rcut_ret W _ h5 _ nd hnc hshort (by omega) hsl bl hbl hbo o.n hq) fun w h6 ⟨hk6,cs',hw,hnc6⟩=> ?_
    subst hw
    have hr6:=hr5.keep hk6
    have hz6:=(hk6.2 k6 hn65).trans hz5
    have hgo6:=(hk6.2 k4 hn45).trans hgo
    have hg6:=(hk6.2 kb hlt5).trans hg5
    have hgm6:=hr6.mod
    have hldb6:=ld_rn (W:=W) hg6
    refine ⟨by simp [zz9,ja9,push_cast,opA,fa60_0,fa35_2,ld3,ld58,ji9 hgm6,ji9 hgo6,jd9,hldb6],?_⟩
    obtain ⟨h7,u1,u2,u3,u4⟩:=hr6.setNode (W:=W) hin (hnc6.imp (B:=fun k=>(A k∧k≠k6)∧k≠km∧k≠kl) fun k _ hk=>by
      have:=hk05.1
      exact ⟨⟨hA k (by omega),by omega⟩,by omega,by omega⟩)
    simp [push_cast,zx9,zy9,SgO,opA,isE,isRead,idx_rn hin]
    refine jc9 (h':=h7) (v:= .undef) (by rfl) (by simp [push_cast,u1]) ⟨?_,?_⟩
    · simp only [zz9,ja9]; exact ⟨fun hr=>absurd hr (by decide),fun hr=>absurd hr (by decide),fun hr=>absurd hr (by decide),trivial⟩
    have hz7:h7.get k6=some (.cells res0 39):=(u3.2 k6 (Nat.lt_of_lt_of_le hn65 hk6.1) hkm.1 hkm.2).trans hz6
    have hst:=st_res (W:=W) (e1:=0) (d1:=[]) (k1:=0) (l1:=0) (s1:=0) (p:=none) (n:=0) (q:=0) (g:=none) hz7
    simp [push_cast,zx9,zy9,SgO,opA,isE,isRead,build_res0,res0,hst,ld_resS]
    rw [hbl]
    exact ⟨ResR.err,fin_res _ u2 ((OffR.ofKeeps (hk05.trans hk6)).trans u3) hk60 hkm⟩
  have kb4:(o.kd==4)=false:=by simpa using k4'
  rw [if_neg k4']
  by_cases hd0:o.d=[]
  · have hd0':(o.d==[])=true:=by simpa using hd0
    rw [if_pos hd0]
    have hst:=st_res (W:=W) (e1:=0) (d1:=[]) (k1:=0) (l1:=0) (s1:=0) (p:=none) (n:=0) (q:=0) (g:=none) hz5
    simp [push_cast,fa35_0,fa35_5,ji9 hgo,kb6,kb7,kb5,kb4,fa100_0,ld3,ld9,ji9 hg5,hkd',aStr,hd0,build_res0,res0,hst,ld_resS]
    exact ⟨ResR.err,fin_res _ hr5 (OffR.ofKeeps hk05) hk60 hkm⟩
  have hd0':(o.d==[])=false:=by simpa using hd0
  rw [if_neg hd0]
  have hlen:∀hh,aLen (CC W) hh 9 (.str o.d)=some (.int .i64 o.d.length):=fun hh=>by simp [aLen,kind9]
  have hk3:¬(o.kd=3)∨(0≤o.at_∧o.d.length≤1024):=by
    by_cases k3:o.kd=3
    · simp only [oddQ,k3] at ho
      simp at ho
      exact .inr ⟨by omega,by omega⟩
    · exact .inl k3
  obtain ⟨ha0,hd1⟩:0≤o.at_∧o.d.length≤1024:=hk3.resolve_left (fun hc=>hc (hkd3 ⟨k6',k7,k5,k4'⟩))
  obtain ⟨a,ha⟩:=Int.eq_ofNat_of_zero_le ha0
  have wsub:IntKind.i64.wrap (533248 - (o.d.length:Int))=533248 - (o.d.length:Int):=wrap64 (by omega) (by omega)
  by_cases hbig:533248 - (o.d.length:Int)<o.at_
  · rw [if_pos hbig]
    obtain ⟨X,hX⟩:∃X,X=533248 - (o.d.length:Int):=⟨_,rfl⟩
    rw [←hX] at hbig wsub
    simp [push_cast,fa35_0,fa35_1,fa35_5,ji9 hgo,kb6,kb7,kb5,kb4,fa100_0,ld3,ld9,ji9 hg5,hkd',aStr,hd0,hlen,wsub, ←hX,hbig]
    refine jf9 (by simp [fn88]) (rfails_ret W h5 307) fun h6 hk6=> ?_
    simp [push_cast,resE,res6,hfail 307 h5 (Keeps.refl _) h6 hk6,ld_resS]
    exact ⟨ResR.err,fin_res _ (hr5.keep hk6) (OffR.ofKeeps (hk05.trans hk6)) hk60 hkm⟩
  rw [if_neg hbig]
  have hbnd:a + o.d.length≤533248:=by omega
  obtain ⟨X,hX⟩:∃X,X=533248 - (o.d.length:Int):=⟨_,rfl⟩
  rw [←hX] at hbig wsub
  simp [push_cast,fa35_0,fa35_1,fa35_5,ji9 hgo,kb6,kb7,kb5,kb4,fa100_0,ld3,ld9,ji9 hg5,hkd',aStr,hd0,hlen,wsub, ←hX,hbig]
  refine drawS [0,1,2,3,4,5,6,7,8,9,10,11,12] (by kernel_rfl) (by kernel_rfl) ?_
  simp [push_cast,zx9,zy9,SgO,opA,isE,isRead,fa60_0,fa35_1,fa35_5,ld3,ld9,ld58,ji9 hgm,ji9 hgo,jd9,hldb]
  have hwc:=rwritten_ret W _ h5 _ nd hnc hshort hix hsl hsz bl hbl hbo hky a o.d hd1 hbnd
  rw [←ha] at hwc
  refine jb9 (f:=129) (args:=[.agg [.int .i64 nd.kind,.int .i64 nd.links,.int .i64 nd.size,iv,dv,nv,sv],.int .i64 o.at_,.str o.d]) (by rfl) (by rfl) (by rfl) (by simp [fn129]) hwc fun w h6 ⟨hk6,cs',hw,hnc6⟩=> ?_
  subst hw
  have hr6:=hr5.keep hk6
  have hz6:=(hk6.2 k6 hn65).trans hz5
  have hgo6:=(hk6.2 k4 hn45).trans hgo
  have hg6:=(hk6.2 kb hlt5).trans hg5
  have hgm6:=hr6.mod
  have hldb6:=ld_rn (W:=W) hg6
  refine ⟨by simp [zz9,ja9,push_cast,opA,fa60_0,fa35_1,fa35_5,ld3,ld9,ld58,ji9 hgm6,ji9 hgo6,jd9,hldb6],?_⟩
  obtain ⟨h7,u1,u2,u3,u4⟩:=hr6.setNode (W:=W) hin (hnc6.imp (B:=fun k=>(A k∧k≠k6)∧k≠km∧k≠kl) fun k _ hk=>by
    have:=hk05.1
    rcases hk with hk | hk
    · exact hk
    · exact ⟨⟨hA k (by omega),by omega⟩,by omega,by omega⟩)
  simp [push_cast,zx9,zy9,SgO,opA,isE,isRead,idx_rn hin]
  refine jc9 (h':=h7) (v:= .undef) (by rfl) (by simp [push_cast,u1]) ⟨?_,?_⟩
  · simp only [zz9,ja9]; exact ⟨fun hr=>absurd hr (by decide),fun hr=>absurd hr (by decide),fun hr=>absurd hr (by decide),fun hr=>absurd hr (by decide),trivial⟩
  have hz7:h7.get k6=some (.cells res0 39):=(u3.2 k6 (Nat.lt_of_lt_of_le hn65 hk6.1) hkm.1 hkm.2).trans hz6
  have hst:=st_res (W:=W) (e1:=0) (d1:=[]) (k1:=0) (l1:=0) (s1:=0) (p:=none) (n:=0) (q:=0) (g:=none) hz7
  simp [push_cast,zx9,zy9,SgO,opA,isE,isRead,build_res0,res0,hst,ld_resS]
  have hta:o.at_.toNat=a:=by rw [ha]; rfl
  rw [hbl,hta]
  exact ⟨ResR.err,fin_res _ u2 ((OffR.ofKeeps (hk05.trans hk6)).trans u3) hk60 hkm⟩
set_option maxHeartbeats 2000000 in
set_option maxRecDepth 20000 in
theorem refName_ret (W:World) (s:List UInt8) (hs:s.length<9223372036854775808):Ret (CC W) 119 [.str s] (.int .i64 (nameR s)):=by
  intro h
  refine jj9 (cc_ok W) (fn119 W) (by simp only [Tryz.f119]; rfl) rfl rfl ?_
  by_cases h1:s=[]
  · simp [push_cast,aStr,h1,nameR]
  · by_cases h2:s=[46]
    · simp [push_cast,aStr,h2,nameR]
    · by_cases h3:s=[46,46]
      · simp [push_cast,aStr,h3,nameR]
      · have b1:(s==[])=false:=by rw [beq_eq_false_iff_ne]; exact h1
        have b2:(s==[46])=false:=by rw [beq_eq_false_iff_ne]; exact h2
        have b3:(s==[46,46])=false:=by rw [beq_eq_false_iff_ne]; exact h3
        simp [push_cast,aStr,b1,b2,b3,h1,h2,h3]
        refine loopN (cc_ok W) (NameI s h) s.length ⟨rfl,by simp,0,by simp,fun j x hj=>by omega,by simp⟩ ?_
        rintro m e' h' ⟨rfl,hl,k,hk,hno,hh⟩
        match e',hl with
        | a0::a1::a2::a3::a4::a5::a6::a7::a8::a9::a10::a11::a12::a13::a14::a15::a16::a17::a18::a19::a20::a21::a22::a23::a24::a25::a26::a27::a28::a29::a30::a31::a32::[],_=>
          simp at hh
          obtain ⟨rfl,rfl⟩:=hh
          by_cases hlt:k<s.length
          · have hwk:IntKind.i64.wrap ((k:Int) + 1)=(k:Int) + 1:=wrap64 (by omega) (by omega)
            have hx:s[k]? =some s[k]:=by simp [hlt]
            have c1:((s[k].toNat:Int)==47)=(s[k]==47):=byte_eq s[k] 47
            have c2:((s[k].toNat:Int)==0)=(s[k]==0):=byte_eq s[k] 0
            cases hb:badByte s[k] with
            | true=>
              have hany:s.any badByte=true:=by
                rw [List.any_eq_true]; exact ⟨s[k],List.mem_of_getElem? hx,hb⟩
              have hres:nameR s=309:=by simp [nameR,h1,h2,h3,hany]
              unfold badByte at hb
              cases d1:(s[k]==47)<;>cases d2:(s[k]==0)<;>simp [d1,d2] at hb<;>simp [push_cast,aLen,kind9,hlt,aIndex,hx,c1,c2,d1,d2,hres]
            | false=>
              have hb':=hb
              unfold badByte at hb'
              simp only [Bool.or_eq_false_iff] at hb'
              simp [push_cast,aLen,kind9,hlt,aIndex,hx,c1,c2,hb'.1,hb'.2,hwk]
              refine ⟨m - 1,by omega,rfl,by simp,k + 1,by omega,fun j y hj hy=> ?_,by simp⟩
              rcases Nat.lt_or_ge j k with h | h
              · exact hno j y h hy
              · obtain rfl:j=k:=by omega
                rw [hx] at hy; simp at hy; subst hy; exact hb
          · have hany:s.any badByte=false:=by
              rw [List.any_eq_false]
              intro x hx
              obtain ⟨j,hj⟩:=List.getElem?_of_mem hx
              have hjl:j<s.length:=by
                rcases Nat.lt_or_ge j s.length with h | h
                · exact h
                · rw [List.getElem?_eq_none h] at hj; simp at hj
              have:=hno j x (by omega) hj
              simp [this]
            by_cases hlen:24<s.length
            · have hres:nameR s=308:=by simp [nameR,h1,h2,h3,hany,hlen]
              simp [push_cast,aLen,kind9,hlt,hlen,hres]
              omega
            · have hres:nameR s=0:=by simp [nameR,h1,h2,h3,hany,hlen]
              simp [push_cast,aLen,kind9,hlt,hlen,hres]
              omega
theorem pieces_end (r:List UInt8) (h:∀x∈r,x≠47):pieces r=[r]:=
  pieces_miss r (List.count_eq_zero.2 fun hm=>h 47 hm rfl)
theorem pieces_cut (a b:List UInt8) (h:∀x∈a,x≠47):pieces (a ++ 47::b)=a::pieces b:=by
  induction a with
  | nil=>simp [pieces]
  | cons c a ih=>
    have hc:c≠47:=h c (by simp)
    have ih:=ih fun x hx=>h x (by simp [hx])
    show pieces (c::(a ++ 47::b))=_
    conv=>lhs; unfold pieces
    rw [if_neg hc,ih]
theorem pieces_part {p:List UInt8} {a b:Nat} (hab:a≤b) (hb:b<p.length) (h:∀j x,a≤j→j<b→p[j]? =some x→x≠47) (h47:p[b]? =some 47):
    pieces (p.drop a)=(p.take b).drop a::pieces (p.drop (b + 1)):=by
  have e:p.drop a=(p.take b).drop a ++ 47::p.drop (b + 1):=by
    have h1:p.drop b=47::p.drop (b + 1):=by
      rw [List.drop_eq_getElem_cons hb]
      rw [List.getElem?_eq_getElem hb] at h47
      rw [Option.some.inj h47]
    rw [←h1]
    have h2:=List.take_append_drop b p
    conv=>lhs; rw [←h2]
    rw [List.drop_append_of_le_length (by simp; omega)]
  rw [e]
  refine pieces_cut _ _ fun x hx=> ?_
  obtain ⟨j,hj⟩:=List.getElem?_of_mem hx
  rw [List.getElem?_drop,List.getElem?_take] at hj
  split at hj
  · exact h (a + j) x (by omega) (by omega) hj
  · simp at hj
theorem pieces_last {p:List UInt8} {a:Nat} (h:∀j x,a≤j→p[j]? =some x→x≠47):pieces (p.drop a)=[(p.take p.length).drop a]:=by
  rw [List.take_length]
  refine pieces_end _ fun x hx=> ?_
  obtain ⟨j,hj⟩:=List.getElem?_of_mem hx
  rw [List.getElem?_drop] at hj
  exact h (a + j) x (by omega) hj
def RsI (h:AH) (p:List UInt8) (m:Nat) (e':Env) (h':AH):Prop:=
  e'.length=54∧∃(i fr:Nat) (sl:AV) (done:List (List UInt8)),OwnS h h' sl done∧i + m=p.length + 1∧1≤fr∧(∀x∈done,nameR x=0)∧done.length≤i∧(fr≤i∧i≤p.length∧pieces (p.drop 1)=done ++ pieces (p.drop fr)∨i=p.length + 1∧pieces (p.drop 1)=done)∧(∀j x,fr≤j→j<i→p[j]? =some x→x≠47)∧
    (e'.getD 0 .undef= .str p∧e'.getD 4 .undef=sl∧e'.getD 5 .undef= .int .i64 fr∧e'.getD 6 .undef= .int .i64 i)
set_option maxHeartbeats 4000000 in
set_option maxRecDepth 20000 in
theorem refSplit_ret (W:World) (p:List UInt8) (hp:p.length<8796093022207) (h:AH):RetQ (CC W) 89 [.str p] h (SplitQ W p):=by
  refine jj9 (cc_ok W) (fn89 W) (by simp only [Tryz.f89]; rfl) rfl rfl ?_
  match p,hp with
  | [],_=> 
    simp [push_cast,aStr,Keeps.refl]
    exact ⟨_,rfl,StrS.nil⟩
  | c::r,hp=>
    have e0:(c::r)[0]? =some c:=rfl
    by_cases hc:c=47
    · subst hc
      by_cases hr:r=[]
      · subst hr
        simp [push_cast,aStr,aIndex,kind9,Keeps.refl]
        exact ⟨_,rfl,StrS.nil⟩
      · have b1:(47::r==[47])=false:=by rw [beq_eq_false_iff_ne]; simpa using hr
        have b2:(47::r==[])=false:=by rw [beq_eq_false_iff_ne]; simp
        simp [push_cast,aStr,aIndex,kind9,b1,b2,hr]
        have hS:splitR (47::r)=judge (pieces ((47::r:List UInt8).drop 1)):=by simp [splitR,hr]
        have hSQ:SplitQ W (47::r)=fun v h=>∃sl,v= .tup [sl,.int .i64 (judge (pieces ((47::r:List UInt8).drop 1))).2]∧StrS W h sl (judge (pieces ((47::r:List UInt8).drop 1))).1:=by
          funext v h; simp only [SplitQ,hS]
        rw [hSQ]
        have hp1:1≤(47::r).length:=by simp
        generalize (47::r:List UInt8)=p at hp hp1 ⊢
        refine loopN (cc_ok W) (RsI h p) p.length ⟨by simp,1,1,.sl none 0 0 none,[],OwnS.start h,by omega,Nat.le_refl _,by simp,by simp,.inl ⟨Nat.le_refl _,hp1,rfl⟩,fun j x h1 h2=>by omega,by simp⟩ ?_
        rintro m e' h' ⟨hl,i,fr,sl,done,ho,him,hfr,hok,hdl,hst,hno,hh⟩
        have hk:=ho.1
        match e',hl with
        | a0::a1::a2::a3::a4::a5::a6::a7::a8::a9::a10::a11::a12::a13::a14::a15::a16::a17::a18::a19::a20::a21::a22::a23::a24::a25::a26::a27::a28::a29::a30::a31::a32::a33::a34::a35::a36::a37::a38::a39::a40::a41::a42::a43::a44::a45::a46::a47::a48::a49::a50::a51::a52::a53::[],_=>
          simp at hh
          obtain ⟨rfl,rfl,rfl,rfl⟩:=hh
          rcases hst with ⟨hfi,hip,hpc⟩ | ⟨rfl,hpc⟩
          · have hle:(i:Int)≤(p.length:Int):=by omega
            have wi:IntKind.i64.wrap ((i:Int) + 1)=(i:Int) + 1:=wrap64 (by omega) (by omega)
            obtain ⟨v',h2,hap,ho2⟩:=append_str (W:=W) (x:=(p.take i).drop fr) ho (by omega)
            by_cases hgo:i<p.length∧p[i]? ≠some 47
            · obtain ⟨hlt,hne⟩:=hgo
              have hx:p[i]? =some p[i]:=by simp [hlt]
              have hlt':(i:Int)<(p.length:Int):=by omega
              have hb:p[i]≠47:=by intro e; rw [hx,e] at hne; exact hne rfl
              have c1:((p[i].toNat:Int) !=47)=true:=by
                rw [bne_iff_ne]; intro e; exact hb (UInt8.toNat_inj.1 (by simpa using (show p[i].toNat=47 by omega)))
              have e1:(aIndex (CC W) 9 (.str p) (.int .i64 (i:Int)))=some (.int .u8 p[i].toNat):=by
                simp [aIndex,kind9,hx]
              simp [push_cast,aLen,kind9,hle,hip,hlt,hlt',e1,c1,wi]
              refine ⟨m - 1,by omega,by simp,i + 1,fr,a4,done,ho,by omega,hfr,hok,by omega,.inl ⟨by omega,by omega,hpc⟩,fun j x h1 h2 h3=> ?_,by simp⟩
              rcases Nat.lt_or_ge j i with h | h
              · exact hno j x h1 h h3
              · obtain rfl:j=i:=by omega
                rw [hx] at h3; simp at h3; subst h3; exact hb
            · have hcut:pieces (p.drop 1)=done ++ (p.take i).drop fr::(if i<p.length then pieces (p.drop (i + 1)) else []):=by
                rw [hpc]
                by_cases hlt:i<p.length
                · have h47:p[i]? =some 47:=by
                    apply Classical.byContradiction; intro hne; exact hgo ⟨hlt,hne⟩
                  rw [if_pos hlt,pieces_part hfi hlt hno h47]
                · rw [if_neg hlt]
                  have hie:i=p.length:=by omega
                  subst hie
                  rw [pieces_last fun j x h1 h2=>hno j x h1 (List.getElem?_eq_some_iff.1 h2).1 h2]
              have hsl:(p.take i).drop fr=(p.take i).drop fr:=rfl
              have s1:=slice_part (W:=W) hfi hip
              have hsm:((p.take i).drop fr).length<9223372036854775808:=by simp; omega
              have hgo':((decide ((i:Int)<(p.length:Int)))=true→∃z:Int,aIndex (CC W) 9 (.str p) (.int .i64 (i:Int))=some (.int .u8 z)∧(z !=47)=false):=by
                intro hlt
                have hlt':i<p.length:=by simpa using hlt
                have h47:p[i]? =some 47:=by
                  apply Classical.byContradiction; intro hne; exact hgo ⟨hlt',hne⟩
                refine ⟨47,?_,by decide⟩
                simp [aIndex,kind9,h47]
              generalize (p.take i).drop fr=x at s1 hap ho2 hcut hsm
              by_cases hn:nameR x=0
              · by_cases hlt:i<p.length
                · have hlt':(i:Int)<(p.length:Int):=by omega
                  obtain ⟨z,hz,hz2⟩:=hgo' (by simpa using hlt)
                  simp [push_cast,aLen,kind9,hle,hip,hlt,hlt',hz,hz2,s1]
                  refine callK_Ret (by simp [fn119]) (refName_ret W x hsm) ?_
                  simp [push_cast,hn,s1,build_str,hap,wi]
                  refine ⟨m - 1,by omega,by simp,i + 1,i + 1,v',done ++ [x],ho2,by omega,by omega,?_,by simp; omega,.inl ⟨by omega,by omega,by rw [hcut,if_pos hlt]; simp⟩,fun j x h1 h2=>by omega,by simp⟩
                  intro y hy; simp at hy; rcases hy with hy | rfl
                  · exact hok y hy
                  · exact hn
                · have hlt':¬(i:Int)<(p.length:Int):=by omega
                  simp [push_cast,aLen,kind9,hle,hip,hlt,hlt',s1]
                  refine callK_Ret (by simp [fn119]) (refName_ret W x hsm) ?_
                  simp [push_cast,hn,s1,build_str,hap,wi]
                  refine ⟨m - 1,by omega,by simp,i + 1,i + 1,v',done ++ [x],ho2,by omega,by omega,?_,by simp; omega,.inr ⟨by omega,by rw [hcut,if_neg hlt]⟩,fun j x h1 h2=>by omega,by simp⟩
                  intro y hy; simp at hy; rcases hy with hy | rfl
                  · exact hok y hy
                  · exact hn
              · have hj:judge (pieces (p.drop 1))=([],nameR x):=by rw [hcut]; exact judge_bad hok hn
                rw [hj]
                by_cases hlt:i<p.length
                · have hlt':(i:Int)<(p.length:Int):=by omega
                  obtain ⟨z,hz,hz2⟩:=hgo' (by simpa using hlt)
                  simp [push_cast,aLen,kind9,hle,hip,hlt,hlt',hz,hz2,s1]
                  refine callK_Ret (by simp [fn119]) (refName_ret W x hsm) ?_
                  simp [push_cast,hn]
                  exact ⟨hk,StrS.nil⟩
                · have hlt':¬(i:Int)<(p.length:Int):=by omega
                  simp [push_cast,aLen,kind9,hle,hip,hlt,hlt',s1]
                  refine callK_Ret (by simp [fn119]) (refName_ret W x hsm) ?_
                  simp [push_cast,hn]
                  exact ⟨hk,StrS.nil⟩
          · have hle:¬(((p.length:Int) + 1≤(p.length:Int))):=by omega
            have hle':¬(p.length + 1≤p.length):=by omega
            obtain ⟨a,cp,gr,rfl⟩:=ho.len
            rw [hpc,judge_ok hok]
            by_cases h8:8<done.length
            · have h8':(8:Int)<(done.length:Int):=by omega
              simp [push_cast,aLen,kind9,kind37,hle,hle',h8,h8']
              exact ⟨hk,StrS.nil⟩
            · have h8':¬(8:Int)<(done.length:Int):=by omega
              simp [push_cast,aLen,kind9,kind37,hle,hle',h8,h8']
              exact ⟨hk,ho.strS⟩
    · have c1:((c.toNat:Int) !=47)=true:=by
        rw [bne_iff_ne]; intro e; exact hc (UInt8.toNat_inj.1 (by simpa using (show c.toNat=47 by omega)))
      have b2:(c::r==[])=false:=by rw [beq_eq_false_iff_ne]; simp
      simp [push_cast,aStr,aIndex,kind9,c1,b2,Keeps.refl]
      refine ⟨_,by simp [splitR,hc]; rfl,by simp [splitR,hc]; exact StrS.nil⟩
def rdoQ (M:MS) (o:Opn):Res×MS:=
  if o.kd<1∨11<o.kd then (Res.err 309,M)
  else if (splitR o.p).2≠0 then (Res.err (splitR o.p).2,M)
  else if o.kd=8∨o.kd=11 then
    if (splitR o.t).2≠0 then (Res.err (splitR o.t).2,M)
    else if o.kd=8 then errM (linkQ M (splitR o.p).1 (splitR o.t).1)
    else errM (renameQ M (splitR o.p).1 (splitR o.t).1)
  else if o.kd=1∨o.kd=2 then errM (createQ M o.kd (splitR o.p).1)
  else if o.kd=9∨o.kd=10 then errM (removeQ M o.kd (splitR o.p).1)
  else withinQ M o (splitR o.p).1
structure RFine (M:MS):Prop where
  ro:ROk M
  lk:∀nd∈M.nodes,0≤nd.links∧nd.links<1000000000
  fl:∀l:List (List UInt8),(∀x∈l,x≠[])→∀(i:Nat) nd,findR M l 0=((i:Int),0)→M.nodes[i]? =some nd→nd.kind≠2→FileOk nd
theorem splitR_short9 (p:List UInt8):(splitR p).1.length<1000000000:=by
  by_cases h:(splitR p).2=0
  · have:=(splitR_ok h).2; omega
  · rw [splitR_nil h]; decide
set_option maxHeartbeats 32000000 in
set_option maxRecDepth 20000 in
theorem rdo_ret (W:World) (A:Nat→Prop) (h:AH) (hA:∀k,h.next≤k→A k) (km kl:Nat) (M:MS) (hr:RIs A h km kl M) (rf:RFine M) (o:Opn) (hat:o.at_<9223372036854775808) (hpl:o.p.length<8796093022207) (htl:o.t.length<8796093022207):
    RetV W 53 [.ptr (some (.new km 0)),.agg o.cells] h A km kl (rdoQ M o).1 (rdoQ M o).2:=by
  refine jj9 (cc_ok W) (fn53 W) (by simp only [Tryz.f53]; rfl) rfl rfl ?_
  have hkm0:km<h.next:=by obtain ⟨_,_,_,_,_,h5,h6,_⟩:=_root_.id hr; exact h5
  have hkl0:kl<h.next:=by obtain ⟨_,_,_,_,_,h5,h6,_⟩:=_root_.id hr; exact h6
  have hbx:=box_op (h:=h) (l:=o.cells)
  have hk1:=Keeps.push h (.cells o.cells 35)
  have hg1:(h.push (.cells o.cells 35)).get h.next=some (.cells o.cells 35):=by simp
  have hn1:h.next<(h.push (.cells o.cells 35)).next:=by simp
  generalize h.push (.cells o.cells 35)=h1 at hbx hk1 hg1 hn1
  obtain ⟨k4,hk4e⟩:∃k4,k4=h.next:=⟨_,rfl⟩
  rw [←hk4e] at hbx hg1 hn1
  have hal:=alloc_res (W:=W) (h:=h1)
  have hk2:=Keeps.push h1 (.cells res0 39)
  have hz2:(h1.push (.cells res0 39)).get h1.next=some (.cells res0 39):=by simp
  have hn2:h1.next<(h1.push (.cells res0 39)).next:=by simp
  generalize h1.push (.cells res0 39)=h2 at hal hk2 hz2 hn2
  obtain ⟨k6,hk6e⟩:∃k6,k6=h1.next:=⟨_,rfl⟩
  rw [←hk6e] at hal hz2 hn2
  have hk02:=hk1.trans hk2
  have hk60:h.next≤k6:=by have:=hk1.1; omega
  have hkm:k6≠km∧k6≠kl:=⟨by omega,by omega⟩
  have hg2:=(hk2.2 k4 hn1).trans hg1
  have hn42:k4<h2.next:=Nat.lt_of_lt_of_le hn1 hk2.1
  simp only [Opn.cells] at hg2
  have hr2:RIs (fun k=>A k∧k≠k6) h2 km kl M:=(hr.imp (B:=fun k=>A k∧k≠k6) fun k hk hAk=>⟨hAk,by omega⟩).keep hk02
  have hA2:∀{hh:AH},h2.next≤hh.next→∀k,hh.next≤k→A k∧k≠k6:=fun hle k hk=>⟨hA k (by have:=hk02.1; omega),by omega⟩
  have hfl:∀(e:Int) (M':MS) (hh:AH),h2.next≤hh.next→hh.get k6=some (.cells res0 39)→RIs (fun k=>A k∧k≠k6) hh km kl M'→OffR km kl h hh→∀h',Keeps hh h'→
      aStoreOp (CC W) h' 39 (.ptr (some (.new k6 0))) (.agg [.int .i64 e,.str [],.int .i64 0,.int .i64 0,.int .i64 0,.sl none 0 0 none])=some (h'.set k6 (.cells [.int .i64 e,.str [],.int .i64 0,.int .i64 0,.int .i64 0,.sl none 0 0 none] 39))∧
      (ResR h (h'.set k6 (.cells [.int .i64 e,.str [],.int .i64 0,.int .i64 0,.int .i64 0,.sl none 0 0 none] 39)) (.agg [.int .i64 e,.str [],.int .i64 0,.int .i64 0,.int .i64 0,.sl none 0 0 none]) (Res.err e)∧RIs A (h'.set k6 (.cells [.int .i64 e,.str [],.int .i64 0,.int .i64 0,.int .i64 0,.sl none 0 0 none] 39)) km kl M'∧OffR km kl h (h'.set k6 (.cells [.int .i64 e,.str [],.int .i64 0,.int .i64 0,.int .i64 0,.sl none 0 0 none] 39))):=fun e M' hh hle hz hrr hoo h' hk'=>
    ⟨st_res ((hk'.2 k6 (Nat.lt_of_lt_of_le hn2 hle)).trans hz),ResR.err,fin_res _ (hrr.keep hk') (hoo.trans (OffR.ofKeeps hk')) hk60 hkm⟩
  simp [push_cast,hbx,hal]
  by_cases hlow:o.kd<1
  · have hQ:rdoQ M o=(Res.err 309,M):=by simp only [rdoQ,if_pos (Or.inl hlow)]
    rw [hQ]
    simp [push_cast,fa35_0,ld3,ji9 hg2,jd9,hlow]
    refine jf9 (by simp [fn88]) (rfails_ret W h2 309) fun h3 hk3=> ?_
    obtain ⟨a1,a2⟩:=hfl 309 M h2 (Nat.le_refl _) hz2 hr2 (OffR.ofKeeps hk02) h3 hk3
    simp [push_cast,resE,res6,a1,ld_resS]
    exact a2
  by_cases hhigh:11<o.kd
  · have hQ:rdoQ M o=(Res.err 309,M):=by simp only [rdoQ,if_pos (Or.inr hhigh)]
    rw [hQ]
    simp [push_cast,fa35_0,ld3,ji9 hg2,jd9,hlow,hhigh]
    refine jf9 (by simp [fn88]) (rfails_ret W h2 309) fun h3 hk3=> ?_
    obtain ⟨a1,a2⟩:=hfl 309 M h2 (Nat.le_refl _) hz2 hr2 (OffR.ofKeeps hk02) h3 hk3
    simp [push_cast,resE,res6,a1,ld_resS]
    exact a2
  simp [push_cast,fa35_0,fa35_3,ld3,ld9,ji9 hg2,jd9,hlow,hhigh]
  refine jg9 (by simp [fn89]) (refSplit_ret W o.p hpl h2) fun w h3 hk3 ⟨sl,hw,hs3⟩=> ?_
  subst hw
  have hr3:=hr2.keep hk3
  have hg3:=(hk3.2 k4 hn42).trans hg2
  have hz3:=(hk3.2 k6 hn2).trans hz2
  have hn43:k4<h3.next:=Nat.lt_of_lt_of_le hn42 hk3.1
  have hn63:k6<h3.next:=Nat.lt_of_lt_of_le hn2 hk3.1
  by_cases he:(splitR o.p).2=0
  case neg=>
    have he':((splitR o.p).2 !=0)=true:=by simpa using he
    have hQ:rdoQ M o=(Res.err (splitR o.p).2,M):=by simp only [rdoQ,if_neg (show ¬(o.kd<1∨11<o.kd) by omega),ne_eq,he,not_false_eq_true,if_true]
    rw [hQ]
    simp [push_cast,he']
    refine jf9 (by simp [fn88]) (rfails_ret W h3 (splitR o.p).2) fun h4 hk4=> ?_
    obtain ⟨a1,a2⟩:=hfl (splitR o.p).2 M h3 hk3.1 hz3 hr3 (OffR.ofKeeps (hk02.trans hk3)) h4 hk4
    simp [push_cast,resE,res6,a1,ld_resS]
    exact a2
  have he':((splitR o.p).2 !=0)=false:=by simpa using he
  have hsh:=splitR_short9 o.p
  have hne:=splitR_ne he
  by_cases hto:o.kd=8∨o.kd=11
  · have c1:(o.kd==8)=true∨(o.kd==8)=false∧(o.kd==11)=true:=by
      rcases hto with h | h
      · exact .inl (by simpa using h)
      · exact .inr ⟨by simp [h],by simpa using h⟩
    have hsht:=splitR_short9 o.t
    have key:∀(X:Bool),X=(o.kd==8)→True:=fun _ _=>trivial
    have hstep2:RetQ (CC W) 89 [.str o.t] h3 (SplitQ W o.t):=refSplit_ret W o.t htl h3
    rcases c1 with c8 | ⟨c8,c11⟩
    · have k8:o.kd=8:=by simpa using c8
      simp [push_cast,he',fa35_0,fa35_4,ld3,ld9,ji9 hg3,jd9,c8]
      refine jg9 (by simp [fn89]) hstep2 fun w h4 hk4 ⟨sl2,hw,hs4⟩=> ?_
      subst hw
      have hr4:=hr3.keep hk4
      have hg4:=(hk4.2 k4 hn43).trans hg3
      have hz4:=(hk4.2 k6 hn63).trans hz3
      by_cases ht:(splitR o.t).2=0
      case neg=>
        have ht':((splitR o.t).2 !=0)=true:=by simpa using ht
        have hQ:rdoQ M o=(Res.err (splitR o.t).2,M):=by simp only [rdoQ,if_neg (show ¬(o.kd<1∨11<o.kd) by omega),ne_eq,he,not_true_eq_false,if_false,if_pos hto,ht,not_false_eq_true,if_true]
        rw [hQ]
        simp [push_cast,ht']
        refine jf9 (by simp [fn88]) (rfails_ret W h4 (splitR o.t).2) fun h5 hk5=> ?_
        obtain ⟨a1,a2⟩:=hfl (splitR o.t).2 M h4 (hk3.trans hk4).1 hz4 hr4 (OffR.ofKeeps ((hk02.trans hk3).trans hk4)) h5 hk5
        simp [push_cast,resE,res6,a1,ld_resS]
        exact a2
      have ht':((splitR o.t).2 !=0)=false:=by simpa using ht
      have hQ:rdoQ M o=errM (linkQ M (splitR o.p).1 (splitR o.t).1):=by simp only [rdoQ,if_neg (show ¬(o.kd<1∨11<o.kd) by omega),ne_eq,he,not_true_eq_false,if_false,if_pos hto,ht,if_pos k8]
      rw [hQ]
      simp [push_cast,ht',fa35_0,ld3,ji9 hg4,jd9,c8]
      refine je9 (by simp [fn90]) (rlink_ret W _ h4 (hA2 (hk3.trans hk4).1) km kl M hr4 rf.ro rf.lk sl sl2 _ _ (hs3.keeps hk4) hsh hs4 hsht) fun w h5 ⟨hw,hr5,ho5⟩=> ?_
      subst hw
      have hz5:h5.get k6=some (.cells res0 39):=(ho5.2 k6 (Nat.lt_of_lt_of_le hn63 hk4.1) hkm.1 hkm.2).trans hz4
      simp [push_cast]
      refine jf9 (by simp [fn88]) (rfails_ret W h5 _) fun h6 hk6=> ?_
      obtain ⟨a1,a2⟩:=hfl (linkQ M (splitR o.p).1 (splitR o.t).1).1 _ h5 (Nat.le_trans (hk3.trans hk4).1 ho5.1) hz5 hr5 ((OffR.ofKeeps ((hk02.trans hk3).trans hk4)).trans ho5) h6 hk6
      simp [push_cast,resE,res6,a1,ld_resS]
      exact a2
    · have k11:o.kd=11:=by simpa using c11
      have k8:¬o.kd=8:=by omega
      simp [push_cast,he',fa35_0,fa35_4,ld3,ld9,ji9 hg3,jd9,c8,c11]
      refine jg9 (by simp [fn89]) hstep2 fun w h4 hk4 ⟨sl2,hw,hs4⟩=> ?_
      subst hw
      have hr4:=hr3.keep hk4
      have hg4:=(hk4.2 k4 hn43).trans hg3
      have hz4:=(hk4.2 k6 hn63).trans hz3
      by_cases ht:(splitR o.t).2=0
      case neg=>
        have ht':((splitR o.t).2 !=0)=true:=by simpa using ht
        have hQ:rdoQ M o=(Res.err (splitR o.t).2,M):=by simp only [rdoQ,if_neg (show ¬(o.kd<1∨11<o.kd) by omega),ne_eq,he,not_true_eq_false,if_false,if_pos hto,ht,not_false_eq_true,if_true]
        rw [hQ]
        simp [push_cast,ht']
        refine jf9 (by simp [fn88]) (rfails_ret W h4 (splitR o.t).2) fun h5 hk5=> ?_
        obtain ⟨a1,a2⟩:=hfl (splitR o.t).2 M h4 (hk3.trans hk4).1 hz4 hr4 (OffR.ofKeeps ((hk02.trans hk3).trans hk4)) h5 hk5
        simp [push_cast,resE,res6,a1,ld_resS]
        exact a2
      have ht':((splitR o.t).2 !=0)=false:=by simpa using ht
      have hQ:rdoQ M o=errM (renameQ M (splitR o.p).1 (splitR o.t).1):=by simp only [rdoQ,if_neg (show ¬(o.kd<1∨11<o.kd) by omega),ne_eq,he,not_true_eq_false,if_false,if_pos hto,ht,if_neg k8]
      rw [hQ]
      simp [push_cast,ht',fa35_0,ld3,ji9 hg4,jd9,c8]
      refine je9 (by simp [fn91]) (rrename_ret W _ h4 (hA2 (hk3.trans hk4).1) km kl M hr4 rf.ro sl sl2 _ _ (hs3.keeps hk4) hsh hs4 hsht) fun w h5 ⟨hw,hr5,ho5⟩=> ?_
      subst hw
      have hz5:h5.get k6=some (.cells res0 39):=(ho5.2 k6 (Nat.lt_of_lt_of_le hn63 hk4.1) hkm.1 hkm.2).trans hz4
      simp [push_cast]
      refine jf9 (by simp [fn88]) (rfails_ret W h5 _) fun h6 hk6=> ?_
      obtain ⟨a1,a2⟩:=hfl (renameQ M (splitR o.p).1 (splitR o.t).1).1 _ h5 (Nat.le_trans (hk3.trans hk4).1 ho5.1) hz5 hr5 ((OffR.ofKeeps ((hk02.trans hk3).trans hk4)).trans ho5) h6 hk6
      simp [push_cast,resE,res6,a1,ld_resS]
      exact a2
  have c8:(o.kd==8)=false:=by simp only [beq_eq_false_iff_ne]; omega
  have c11:(o.kd==11)=false:=by simp only [beq_eq_false_iff_ne]; omega
  have hQ0:rdoQ M o=if o.kd=1∨o.kd=2 then errM (createQ M o.kd (splitR o.p).1) else if o.kd=9∨o.kd=10 then errM (removeQ M o.kd (splitR o.p).1) else withinQ M o (splitR o.p).1:=by
    simp only [rdoQ,if_neg (show ¬(o.kd<1∨11<o.kd) by omega),ne_eq,he,not_true_eq_false,if_false,if_neg hto]
  rw [hQ0]
  have hnle:h2.next≤h3.next:=hk3.1
  by_cases hcr:o.kd=1∨o.kd=2
  · rw [if_pos hcr]
    have hmk:∀w h4,(w=AV.int .i64 (createQ M o.kd (splitR o.p).1).1∧RIs (fun k=>A k∧k≠k6) h4 km kl (createQ M o.kd (splitR o.p).1).2∧OffR km kl h3 h4)→h4.get k6=some (.cells res0 39):=fun w h4 hh=>(hh.2.2.2 k6 hn63 hkm.1 hkm.2).trans hz3
    have hcall:=rcreate_ret W _ h3 (hA2 hnle) km kl M hr3 rf.ro o.kd sl _ hs3 hsh
    rcases (show (o.kd==1)=true∨(o.kd==1)=false∧(o.kd==2)=true by rcases hcr with h | h<;>simp [h]) with d1 | ⟨d1,d2⟩
    · simp [push_cast,he',fa35_0,ld3,ji9 hg3,jd9,c8,c11,d1]
      refine je9 (by simp [fn92]) hcall fun w h4 hh=> ?_
      have hz4:=hmk w h4 hh
      obtain ⟨hw,hr4,ho4⟩:=hh
      subst hw
      simp [push_cast]
      refine jf9 (by simp [fn88]) (rfails_ret W h4 _) fun h5 hk5=> ?_
      obtain ⟨a1,a2⟩:=hfl (createQ M o.kd (splitR o.p).1).1 _ h4 (Nat.le_trans hnle ho4.1) hz4 hr4 ((OffR.ofKeeps (hk02.trans hk3)).trans ho4) h5 hk5
      simp [push_cast,resE,res6,a1,ld_resS]
      exact a2
    · simp [push_cast,he',fa35_0,ld3,ji9 hg3,jd9,c8,c11,d1,d2]
      refine je9 (by simp [fn92]) hcall fun w h4 hh=> ?_
      have hz4:=hmk w h4 hh
      obtain ⟨hw,hr4,ho4⟩:=hh
      subst hw
      simp [push_cast]
      refine jf9 (by simp [fn88]) (rfails_ret W h4 _) fun h5 hk5=> ?_
      obtain ⟨a1,a2⟩:=hfl (createQ M o.kd (splitR o.p).1).1 _ h4 (Nat.le_trans hnle ho4.1) hz4 hr4 ((OffR.ofKeeps (hk02.trans hk3)).trans ho4) h5 hk5
      simp [push_cast,resE,res6,a1,ld_resS]
      exact a2
  rw [if_neg hcr]
  have d1:(o.kd==1)=false:=by simp only [beq_eq_false_iff_ne]; omega
  have d2:(o.kd==2)=false:=by simp only [beq_eq_false_iff_ne]; omega
  by_cases hrm:o.kd=9∨o.kd=10
  · rw [if_pos hrm]
    have hmk:∀w h4,(w=AV.int .i64 (removeQ M o.kd (splitR o.p).1).1∧RIs (fun k=>A k∧k≠k6) h4 km kl (removeQ M o.kd (splitR o.p).1).2∧OffR km kl h3 h4)→h4.get k6=some (.cells res0 39):=fun w h4 hh=>(hh.2.2.2 k6 hn63 hkm.1 hkm.2).trans hz3
    have hcall:=rremove_ret W _ h3 (hA2 hnle) km kl M hr3 rf.ro rf.lk o.kd sl _ hs3 hsh
    rcases (show (o.kd==9)=true∨(o.kd==9)=false∧(o.kd==10)=true by rcases hrm with h | h<;>simp [h]) with d9 | ⟨d9,d10⟩
    · simp [push_cast,he',fa35_0,ld3,ji9 hg3,jd9,c8,c11,d1,d2,d9]
      refine je9 (by simp [fn93]) hcall fun w h4 hh=> ?_
      have hz4:=hmk w h4 hh
      obtain ⟨hw,hr4,ho4⟩:=hh
      subst hw
      simp [push_cast]
      refine jf9 (by simp [fn88]) (rfails_ret W h4 _) fun h5 hk5=> ?_
      obtain ⟨a1,a2⟩:=hfl (removeQ M o.kd (splitR o.p).1).1 _ h4 (Nat.le_trans hnle ho4.1) hz4 hr4 ((OffR.ofKeeps (hk02.trans hk3)).trans ho4) h5 hk5
      simp [push_cast,resE,res6,a1,ld_resS]
      exact a2
    · simp [push_cast,he',fa35_0,ld3,ji9 hg3,jd9,c8,c11,d1,d2,d9,d10]
      refine je9 (by simp [fn93]) hcall fun w h4 hh=> ?_
      have hz4:=hmk w h4 hh
      obtain ⟨hw,hr4,ho4⟩:=hh
      subst hw
      simp [push_cast]
      refine jf9 (by simp [fn88]) (rfails_ret W h4 _) fun h5 hk5=> ?_
      obtain ⟨a1,a2⟩:=hfl (removeQ M o.kd (splitR o.p).1).1 _ h4 (Nat.le_trans hnle ho4.1) hz4 hr4 ((OffR.ofKeeps (hk02.trans hk3)).trans ho4) h5 hk5
      simp [push_cast,resE,res6,a1,ld_resS]
      exact a2
  rw [if_neg hrm]
  have d9:(o.kd==9)=false:=by simp only [beq_eq_false_iff_ne]; omega
  have d10:(o.kd==10)=false:=by simp only [beq_eq_false_iff_ne]; omega
  have hld:aLoad (CC W) h3 35 (.new k4 0)=some (.agg o.cells):=by
    simp only [Opn.cells]; exact ld_op hg3
  simp [push_cast,he',fa35_0,ld3,ji9 hg3,jd9,c8,c11,d1,d2,d9,d10,hld]
  refine je9 (by simp [fn94]) (rwithin_ret W _ h3 (hA2 hnle) km kl M hr3 rf.ro o hat (fun hh=>by omega) sl _ hs3 hsh (fun i nd=>rf.fl _ hne i nd)) fun w h4 ⟨⟨nv,hw,hnv⟩,hr4,ho4⟩=> ?_
  subst hw
  obtain ⟨p,n,q,g,rfl⟩:=hnv.isSl
  have hz4:h4.get k6=some (.cells res0 39):=(ho4.2 k6 hn63 hkm.1 hkm.2).trans hz3
  have hst:=st_res (W:=W) (e1:=(withinQ M o (splitR o.p).1).1.e) (d1:=(withinQ M o (splitR o.p).1).1.data) (k1:=(withinQ M o (splitR o.p).1).1.kind) (l1:=(withinQ M o (splitR o.p).1).1.links) (s1:=(withinQ M o (splitR o.p).1).1.size) (p:=p) (n:=n) (q:=q) (g:=g) hz4
  simp [push_cast,res6,hst,ld_resS]
  refine ⟨⟨_,rfl,?_⟩,fin_res _ hr4 ((OffR.ofKeeps (hk02.trans hk3)).trans ho4) hk60 hkm⟩
  refine OwnL.imp (A:=fun k=>h3.next≤k) (OwnL.off (h:=h4) hnv (Nat.le_refl _) fun k hk _=> ?_) fun k _ hk=> ?_
  · have:h3.next≤k:=hk
    rw [AH.get_set,if_neg (by omega)]
  · have:h3.next≤k:=hk
    have:=(hk02.trans hk3).1
    show h.next≤k
    omega
def PlI (h:AH) (y:Int) (n:Nat) (e':Env) (h':AH):Prop:=
  e'.length=31∧h'=h∧∃k:Nat,(k:Int) + n=y / 64∧(e'.getD 0 .undef= .int .i64 (y - 64 * k)∧e'.getD 6 .undef= .int .i64 k)
set_option maxHeartbeats 4000000 in
set_option maxRecDepth 20000 in
theorem rplace_ret (W:World) (h:AH) (x:Int) (hx:0≤x∧x<4166):
    RetH (CC W) 101 [.int .i64 x] h (.tup [.int .i64 (ipR x).1,.int .i64 (ipR x).2.1,.int .i64 (ipR x).2.2.1,.int .i64 (ipR x).2.2.2]):=by
  refine jj9 (cc_ok W) (fn101 W) (by simp only [Tryz.f101]; rfl) rfl rfl ?_
  have h0:¬x<0:=by omega
  have h1:¬(4166≤x):=by omega
  by_cases h2:x<6
  · simp [push_cast,h0,h1,h2,ipR]
  have w1:IntKind.i64.wrap (x - 6)=x - 6:=wrap64 (by omega) (by omega)
  by_cases h3:x<70
  · have h4:x - 6<64:=by omega
    simp [push_cast,h0,h1,h2,h3,ipR,w1,h4]
  have h4:¬x - 6<64:=by omega
  have w2:IntKind.i64.wrap (x - 6 - 64)=x - 70:=by rw [wrap64 (by omega) (by omega)]; omega
  have hip:ipR x=(2,(x - 70) / 64,(x - 70) % 64,0):=by
    simp only [ipR,if_neg h0,if_neg h1,if_neg h2,if_neg h3,Int.tdiv_eq_ediv_of_nonneg (show 0≤x - 70 by omega),Int.tmod_eq_emod_of_nonneg (show 0≤x - 70 by omega)]
  rw [hip]
  obtain ⟨y,hy⟩:∃y,y=x - 70:=⟨_,rfl⟩
  rw [←hy] at w2 ⊢
  simp [push_cast,h0,h1,h2,w1,h4,w2]
  refine loopN (cc_ok W) (PlI h y) (y / 64).toNat ⟨by simp,rfl,0,by omega,by simp⟩ ?_
  rintro n e' h' ⟨hlen',rfl,k,hkn,hh⟩
  obtain ⟨a0,a1,a2,a3,a4,a5,a6,a7,a8,a9,rS0,rfl,hS0⟩:=un10 hlen'
  obtain ⟨a10,a11,a12,a13,a14,a15,a16,a17,a18,a19,rS10,rfl,hS10⟩:=un10 hS0
  obtain ⟨a20,a21,a22,a23,a24,a25,a26,a27,a28,a29,rS20,rfl,hS20⟩:=un10 hS10
  obtain ⟨a30,rS30,rfl,hS30⟩:=un1 hS20
  obtain rfl:=un0 hS30
  clear hlen' hS0 hS10 hS20 hS30
  simp at hh
  obtain ⟨rfl,rfl⟩:=hh
  obtain ⟨z,hz⟩:∃z,z=y - 64 * (k:Int):=⟨_,rfl⟩
  rw [←hz]
  by_cases hlt:64≤z
  · have w3:IntKind.i64.wrap (z - 64)=z - 64:=wrap64 (by omega) (by omega)
    have w4:IntKind.i64.wrap ((k:Int) + 1)=(k:Int) + 1:=wrap64 (by omega) (by omega)
    simp [push_cast,hlt,w3,w4]
    exact ⟨n - 1,by omega,by simp,rfl,k + 1,by omega,by simp; omega⟩
  · have e1:(k:Int)=y / 64:=by omega
    have e2:z=y % 64:=by omega
    simp [push_cast,hlt]
    exact ⟨e1,e2⟩
structure CostOk (ps:List Int):Prop where
  up:ps.Pairwise (· < ·)
  b:∀x∈ps,0≤x∧x<4166
structure NmR (rest:List Int) (names:List (Int×Int)) (s:Bool) (lst:Int):Prop where
  s1:s=true↔(1,-1)∈names
  s2:(2,-1)∈names↔0≤lst
  lo: -1≤lst
  top:∀q,0≤q→(2,q)∈names→q≤lst
  has:0≤lst→(2,lst)∈names
  rest:∀y∈rest,(ipR y).1=2→lst≤(ipR y).2.1
theorem ipR_two {x:Int} (hx:0≤x∧x<4166):((ipR x).1=0∧x<6∨(ipR x).1=1∧6≤x∧x<70∨(ipR x).1=2∧70≤x∧(ipR x).2.1=(x - 70) / 64)∧(ipR x).2.2.2=0:=by
  have h0:¬x<0:=by omega
  have h1:¬(4166≤x):=by omega
  by_cases h2:x<6
  · have e:ipR x=(0,x,0,0):=by simp only [ipR,if_neg h0,if_neg h1,if_pos h2]
    rw [e]; exact ⟨.inl ⟨rfl,h2⟩,rfl⟩
  by_cases h3:x<70
  · have e:ipR x=(1,x - 6,0,0):=by simp only [ipR,if_neg h0,if_neg h1,if_neg h2,if_pos h3]
    rw [e]; exact ⟨.inr (.inl ⟨rfl,by omega,h3⟩),rfl⟩
  · have e:ipR x=(2,(x - 70) / 64,(x - 70).tmod 64,0):=by simp only [ipR,if_neg h0,if_neg h1,if_neg h2,if_neg h3,Int.tdiv_eq_ediv_of_nonneg (show 0≤x - 70 by omega)]
    rw [e]; exact ⟨.inr (.inr ⟨rfl,by omega,rfl⟩),rfl⟩
theorem addN_in {l:List (Int×Int)} {k:Int×Int} (h:k∈l):addN l k=l:=by simp [addN,h]
theorem addN_out {l:List (Int×Int)} {k:Int×Int} (h:k ∉ l):addN l k=l ++ [k]:=by simp [addN,h]
theorem nm_step {ps:List Int} (ok:CostOk ps) {i:Nat} {x:Int} (hx:ps[i]? =some x) {names:List (Int×Int)} {s:Bool} {lst:Int} (hn:NmR (ps.drop i) names s lst):
    ((ipR x).1=0∧nmN names x=names∧NmR (ps.drop (i + 1)) names s lst)∨
    ((ipR x).1=1∧s=true∧nmN names x=names∧NmR (ps.drop (i + 1)) names s lst)∨
    ((ipR x).1=1∧s=false∧NmR (ps.drop (i + 1)) (nmN names x) true lst∧(nmN names x).length=names.length + 1)∨
    ((ipR x).1=2∧lst<0∧(ipR x).2.1≠lst∧NmR (ps.drop (i + 1)) (nmN names x) s (ipR x).2.1∧(nmN names x).length=names.length + 2)∨
    ((ipR x).1=2∧¬lst<0∧(ipR x).2.1=lst∧nmN names x=names∧NmR (ps.drop (i + 1)) names s lst)∨
    ((ipR x).1=2∧¬lst<0∧(ipR x).2.1≠lst∧NmR (ps.drop (i + 1)) (nmN names x) s (ipR x).2.1∧(nmN names x).length=names.length + 1):=by
  obtain ⟨s1,s2,lo,top,has,rest⟩:=hn
  have hil:=(List.getElem?_eq_some_iff.1 hx).1
  have hd:ps.drop i=x::ps.drop (i + 1):=by rw [List.drop_eq_getElem_cons hil]; congr 1; exact (List.getElem?_eq_some_iff.1 hx).2
  have hup:∀y∈ps.drop (i + 1),x<y:=by
    have:=ok.up.sublist (List.drop_sublist i ps)
    rw [hd,List.pairwise_cons] at this
    exact this.1
  have hrb:∀y∈ps.drop (i + 1),0≤y∧y<4166:=fun y hy=>ok.b y (List.mem_of_mem_drop hy)
  have hr2:∀y∈ps.drop (i + 1),(ipR y).1=2→lst≤(ipR y).2.1:=fun y hy=>rest y (by rw [hd]; simp [hy])
  have hxb:=ok.b x (List.mem_of_getElem? hx)
  obtain ⟨hlv,_⟩:=ipR_two hxb
  rcases hlv with ⟨e,_⟩ | ⟨e,_,_⟩ | ⟨e,hge,hp⟩
  · exact .inl ⟨e,by simp [nmN,e],⟨s1,s2,lo,top,has,hr2⟩⟩
  · cases s with
    | true=>exact .inr (.inl ⟨e,rfl,by simp [nmN,e,addN_in (s1.1 rfl)],⟨s1,s2,lo,top,has,hr2⟩⟩)
    | false=>
      have hni:((1,-1):Int×Int) ∉ names:=fun hc=>by have:=s1.2 hc; cases this
      have hnm:nmN names x=names ++ [(1,-1)]:=by simp [nmN,e,addN_out hni]
      refine .inr (.inr (.inl ⟨e,rfl,?_,by rw [hnm]; simp⟩))
      rw [hnm]
      exact ⟨by simp,by simpa using s2,lo,fun q hq hm=>top q hq (by simpa using hm),fun hl=>by simp [has hl],hr2⟩
  · have hnext:∀y∈ps.drop (i + 1),(ipR y).1=2→(ipR x).2.1≤(ipR y).2.1:=fun y hy h2=>by
      obtain ⟨hl2,_⟩:=ipR_two (hrb y hy)
      rcases hl2 with ⟨e2,_⟩ | ⟨e2,_⟩ | ⟨_,_,hpy⟩
      · omega
      · omega
      · have:=hup y hy
        rw [hp,hpy]; omega
    have hge0:0≤(ipR x).2.1:=by rw [hp]; omega
    have hlx:lst≤(ipR x).2.1:=rest x (by rw [hd]; simp) e
    generalize hP:(ipR x).2.1=p at *
    have hnm0:nmN names x=addN (addN names (2,-1)) (2,p):=by simp [nmN,e,hP]
    by_cases hl:lst<0
    · have hni:((2,-1):Int×Int) ∉ names:=fun hc=>by have:=s2.1 hc; omega
      have hni2:((2,p):Int×Int) ∉ names ++ [(2,-1)]:=fun hc=>by
        simp at hc
        rcases hc with hc | hc
        · have:=top p hge0 hc; omega
        · omega
      have hnm:nmN names x=names ++ [(2,-1)] ++ [(2,p)]:=by rw [hnm0,addN_out hni,addN_out hni2]
      refine .inr (.inr (.inr (.inl ⟨e,hl,by omega,?_,by rw [hnm]; simp⟩)))
      rw [hnm]
      refine ⟨by simpa using s1,by simp; omega,by omega,fun q hq hm=> ?_,fun _=>by simp,hnext⟩
      simp at hm
      rcases hm with hm | hm | hm
      · have:=top q hq hm; omega
      · omega
      · omega
    · have hin:((2,-1):Int×Int)∈names:=s2.2 (by omega)
      by_cases he:p=lst
      · have hin2:((2,p):Int×Int)∈names:=by rw [he]; exact has (by omega)
        exact .inr (.inr (.inr (.inr (.inl ⟨e,hl,he,by rw [hnm0,addN_in hin,addN_in hin2],⟨s1,s2,lo,top,has,hr2⟩⟩))))
      · have hni2:((2,p):Int×Int) ∉ names:=fun hc=>by have:=top p hge0 hc; omega
        have hnm:nmN names x=names ++ [(2,p)]:=by rw [hnm0,addN_in hin,addN_out hni2]
        refine .inr (.inr (.inr (.inr (.inr ⟨e,hl,he,?_,by rw [hnm]; simp⟩))))
        rw [hnm]
        refine ⟨by simpa using s1,?_,by omega,fun q hq hm=> ?_,fun _=>by simp,hnext⟩
        · simp only [List.mem_append,hin,true_or,true_iff]; omega
        · simp at hm
          rcases hm with hm | hm
          · have:=top q hq hm; omega
          · omega
def CqI (h:AH) (v:AV) (ps:List Int) (m:Nat) (e':Env) (h':AH):Prop:=
  e'.length=72∧h'=h∧∃(i:Nat) (names:List (Int×Int)) (s:Bool) (lst:Int),i + m=ps.length∧costG ps m i names=costR ps∧NmR (ps.drop i) names s lst∧names.length≤2 * i∧
    (v=e'.getD 0 .undef∧e'.getD 4 .undef= .int .i64 ((ps.length:Int) + names.length)∧e'.getD 5 .undef= .bool s∧e'.getD 6 .undef= .int .i64 lst∧v=e'.getD 15 .undef∧e'.getD 16 .undef= .int .i64 ps.length∧e'.getD 17 .undef= .int .i64 i)
set_option maxHeartbeats 16000000 in
set_option maxRecDepth 20000 in
theorem rcost_ret (W:World) (h:AH) (v:AV) (ps:List Int) (hs:IntS h v ps) (ok:CostOk ps) (hl:ps.length<1000000000):
    RetK (CC W) 57 [v] h (.tup [.int .i64 (costR ps).1,.int .i64 0]):=by
  refine jj9 (cc_ok W) (fn57 W) (by simp only [Tryz.f57]; rfl) rfl rfl ?_
  have hlen1:=hs.len (W:=W)
  simp [push_cast,hlen1]
  refine loopN (cc_ok W) (CqI h v ps) ps.length ⟨by simp,rfl,0,[],false,-1,by simp,rfl,⟨by simp,by simp,by omega,by simp,by omega,fun y hy h2=> ?_⟩,by simp,by simp⟩ ?_
  · obtain ⟨hl2,_⟩:=ipR_two (ok.b y (List.mem_of_mem_drop hy))
    rcases hl2 with ⟨e2,_⟩ | ⟨e2,_⟩ | ⟨_,_,hpy⟩
    · omega
    · omega
    · rw [hpy]; omega
  rintro n e' h' ⟨hlen',rfl,i,names,s,lst,him,hG,hN,hnl,hh⟩
  obtain ⟨a0,a1,a2,a3,a4,a5,a6,a7,a8,a9,rS0,rfl,hS0⟩:=un10 hlen'
  obtain ⟨a10,a11,a12,a13,a14,a15,a16,a17,a18,a19,rS10,rfl,hS10⟩:=un10 hS0
  obtain ⟨a20,a21,a22,a23,a24,a25,a26,a27,a28,a29,rS20,rfl,hS20⟩:=un10 hS10
  obtain ⟨a30,a31,a32,a33,a34,a35,a36,a37,a38,a39,rS30,rfl,hS30⟩:=un10 hS20
  obtain ⟨a40,a41,a42,a43,a44,a45,a46,a47,a48,a49,rS40,rfl,hS40⟩:=un10 hS30
  obtain ⟨a50,a51,a52,a53,a54,a55,a56,a57,a58,a59,rS50,rfl,hS50⟩:=un10 hS40
  obtain ⟨a60,a61,a62,a63,a64,a65,a66,a67,a68,a69,rS60,rfl,hS60⟩:=un10 hS50
  obtain ⟨a70,rS70,rfl,hS70⟩:=un1 hS60
  obtain ⟨a71,rS71,rfl,hS71⟩:=un1 hS70
  obtain rfl:=un0 hS71
  clear hlen' hS0 hS10 hS20 hS30 hS40 hS50 hS60 hS70 hS71
  simp at hh
  obtain ⟨hv0,rfl,rfl,rfl,hv15,rfl,rfl⟩:=hh
  subst hv0
  subst hv15
  by_cases hlt:i<ps.length
  case neg=>
    have hlt':¬(i:Int)<(ps.length:Int):=by omega
    have hn0:n=0:=by omega
    subst hn0
    simp only [costG] at hG
    rw [←hG]
    simp [push_cast,hlt']
    exact Keeps.refl _
  have hlt':(i:Int)<(ps.length:Int):=by omega
  obtain ⟨n,rfl⟩:∃n',n=n' + 1:=⟨n - 1,by omega⟩
  obtain ⟨x,hx⟩:∃x,ps[i]? =some x:=⟨ps[i],by simp [hlt]⟩
  obtain ⟨a',hix,hld⟩:=hs.at (W:=W) hx
  have hld':=hld h' (Keeps.refl _)
  have hxb:=ok.b x (List.mem_of_getElem? hx)
  have hip0:=(ipR_two hxb).2
  simp only [costG,hx] at hG
  rw [if_neg (by simp [hip0])] at hG
  have wi:IntKind.i64.wrap ((i:Int) + 1)=(i:Int) + 1:=wrap64 (by omega) (by omega)
  have wc1:IntKind.i64.wrap ((ps.length:Int) + (names.length:Int) + 1)=(ps.length:Int) + (names.length:Int) + 1:=wrap64 (by omega) (by omega)
  have wc2:IntKind.i64.wrap ((ps.length:Int) + (names.length:Int) + 1 + 1)=(ps.length:Int) + (names.length:Int) + 1 + 1:=wrap64 (by omega) (by omega)
  simp [push_cast,hlt',hix,hld']
  refine jh9 (by simp [fn101]) (rplace_ret W h' x hxb) ?_
  have hstep:=nm_step ok hx hN
  have hxn0:(ipR x).1=0→((ipR x).1==1)=false∧((ipR x).1==2)=false:=fun e=>by simp [e]
  have htest:∀(hpos:0<i),∃a2 y,aIndexAddr (CC W) 53 v (.int .i64 ((i - 1:Nat):Int))=some (.ptr (some a2))∧aLoad (CC W) h' 3 a2=some (.int .i64 y)∧¬x≤y∧ps.getD (i - 1) 0=y:=fun hpos=>by
    have hy:ps[i - 1]? =some (ps[i - 1]'(by omega)):=by simp [show i - 1<ps.length by omega]
    obtain ⟨a2,hix2,hld2⟩:=hs.at (W:=W) hy
    refine ⟨a2,_,hix2,hld2 h' (Keeps.refl _),?_,by simp [List.getD,hy]⟩
    have:=List.pairwise_iff_getElem.1 ok.up (i - 1) i (by omega) hlt (by omega)
    have e:ps[i]=x:=(List.getElem?_eq_some_iff.1 hx).2
    omega
  by_cases hpos:0<i
  · obtain ⟨a2,y,hix2,hld2,hxy,hyd⟩:=htest hpos
    have hpos':(0:Int)<(i:Int):=by omega
    have wi1:IntKind.i64.wrap ((i:Int) - 1)=((i - 1:Nat):Int):=by rw [wrap64 (by omega) (by omega)]; omega
    rw [if_neg (fun hc=>hxy (by rw [hyd] at hc; exact hc.2))] at hG
    rcases hstep with ⟨e,hm,hN2⟩ | ⟨e,hs1,hm,hN2⟩ | ⟨e,hs1,hN2,hm⟩ | ⟨e,hl0,hne,hN2,hm⟩ | ⟨e,hl0,hne,hm,hN2⟩ | ⟨e,hl0,hne,hN2,hm⟩
    · simp [push_cast,hpos,hpos',wi1,hix2,hld2,hxy,hip0,e,wi,aUn_not']
      rw [hm] at hG
      exact ⟨n,by omega,by simp,rfl,i + 1,names,_,_,by omega,hG,hN2,by omega,by simp⟩
    · simp [push_cast,hpos,hpos',wi1,hix2,hld2,hxy,hip0,e,hs1,wi,aUn_not']
      rw [hm] at hG
      exact ⟨n,by omega,by simp,rfl,i + 1,names,_,_,by omega,hG,hN2,by omega,by simp [hs1]⟩
    · simp [push_cast,hpos,hpos',wi1,hix2,hld2,hxy,hip0,e,hs1,wc1,wi,aUn_not']
      exact ⟨n,by omega,by simp,rfl,i + 1,nmN names x,_,_,by omega,hG,hN2,by omega,by simp [hm]; try omega⟩
    · have hnb:((ipR x).2.1 !=lst)=true:=by simpa using hne
      simp [push_cast,hpos,hpos',wi1,hix2,hld2,hxy,hip0,e,hl0,hnb,wc1,wc2,wi,aUn_not']
      exact ⟨n,by omega,by simp,rfl,i + 1,nmN names x,_,_,by omega,hG,hN2,by omega,by simp [hm]; try omega⟩
    · simp [push_cast,hpos,hpos',wi1,hix2,hld2,hxy,hip0,e,hl0,hne,wi,aUn_not']
      rw [hm] at hG
      exact ⟨n,by omega,by simp,rfl,i + 1,names,_,_,by omega,hG,hN2,by omega,by simp [hne]⟩
    · have hnb:((ipR x).2.1 !=lst)=true:=by simpa using hne
      simp [push_cast,hpos,hpos',wi1,hix2,hld2,hxy,hip0,e,hl0,hnb,wc1,wi,aUn_not']
      exact ⟨n,by omega,by simp,rfl,i + 1,nmN names x,_,_,by omega,hG,hN2,by omega,by simp [hm]; try omega⟩
  · have hpos':¬(0:Int)<(i:Int):=by omega
    rw [if_neg (fun hc=>hpos hc.1)] at hG
    rcases hstep with ⟨e,hm,hN2⟩ | ⟨e,hs1,hm,hN2⟩ | ⟨e,hs1,hN2,hm⟩ | ⟨e,hl0,hne,hN2,hm⟩ | ⟨e,hl0,hne,hm,hN2⟩ | ⟨e,hl0,hne,hN2,hm⟩
    · simp [push_cast,hpos,hpos',hip0,e,wi,aUn_not']
      rw [hm] at hG
      exact ⟨n,by omega,by simp,rfl,i + 1,names,_,_,by omega,hG,hN2,by omega,by simp⟩
    · simp [push_cast,hpos,hpos',hip0,e,hs1,wi,aUn_not']
      rw [hm] at hG
      exact ⟨n,by omega,by simp,rfl,i + 1,names,_,_,by omega,hG,hN2,by omega,by simp [hs1]⟩
    · simp [push_cast,hpos,hpos',hip0,e,hs1,wc1,wi,aUn_not']
      exact ⟨n,by omega,by simp,rfl,i + 1,nmN names x,_,_,by omega,hG,hN2,by omega,by simp [hm]; try omega⟩
    · have hnb:((ipR x).2.1 !=lst)=true:=by simpa using hne
      simp [push_cast,hpos,hpos',hip0,e,hl0,hnb,wc1,wc2,wi,aUn_not']
      exact ⟨n,by omega,by simp,rfl,i + 1,nmN names x,_,_,by omega,hG,hN2,by omega,by simp [hm]; try omega⟩
    · simp [push_cast,hpos,hpos',hip0,e,hl0,hne,wi,aUn_not']
      rw [hm] at hG
      exact ⟨n,by omega,by simp,rfl,i + 1,names,_,_,by omega,hG,hN2,by omega,by simp [hne]⟩
    · have hnb:((ipR x).2.1 !=lst)=true:=by simpa using hne
      simp [push_cast,hpos,hpos',hip0,e,hl0,hnb,wc1,wi,aUn_not']
      exact ⟨n,by omega,by simp,rfl,i + 1,nmN names x,_,_,by omega,hG,hN2,by omega,by simp [hm]; try omega⟩
theorem OwnL.intS {A:Nat→Prop} {h:AH} {v:AV} {l:List Int} (ho:OwI A h v l):IntS h v l:=by
  rcases ho with h0 | ⟨k,a1,a2,a3,a4,a5⟩
  · exact .inl h0
  · exact .inr ⟨k,_,_,a2,a5,a4⟩
theorem OwI.more {W:World} {hb h:AH} {v:AV} {m:List Int} (hk:Keeps hb h) (hm:OwI (fun k=>hb.next≤k) h v m) (x:Int) (hl:m.length<1000000000):
    ∃v' h',aAppend (CC W) (h.push (.cells [.int .i64 x] 3)) #[53,53] v (.sl (some (.new h.next 0)) 1 1 none)=some (v',h')∧Keeps hb h'∧OwI (fun k=>hb.next≤k) h' v' (m ++ [x]):=by
  obtain ⟨v',h',hap,hm',hn,hoff⟩:=hm.app1 (W:=W) (T:=53) (kind53 W) (size3 W) (zero3 W) bytes_i (by omega) (_root_.id rfl) (x:=x) rfl hl
  have hlo:=hk.1
  refine ⟨v',h',hap,⟨by omega,fun j hj=>(hoff j (by omega) fun k n c g hv=> ?_).trans (hk.2 j hj)⟩,hm'.imp fun k _ hk=>by omega⟩
  rcases hm with ⟨_,h0⟩ | ⟨k',a1,_,_,_,a5⟩
  · rw [h0] at hv; cases hv
  · rw [a5] at hv
    simp only [AV.sl.injEq,Option.some.injEq,AA.new.injEq] at hv
    omega
def InI (hb:AH) (kb L:Nat) (n:Nat) (e':Env) (h':AH):Prop:=
  e'.length=23∧Keeps hb h'∧∃(i:Nat),i + n=(L + 3) / 4∧OwI (fun k=>hb.next≤k) h' (e'.getD 3 .undef) ((List.range i).map Int.ofNat)∧
    (e'.getD 1 .undef= .ptr (some (.new kb 0))∧e'.getD 4 .undef= .int .i64 i)
set_option maxHeartbeats 8000000 in
set_option maxRecDepth 20000 in
theorem rind_ret (W:World) (A:Nat→Prop) (h:AH) (cs:List AV) (nd:Nd) (hn:NdC A h cs nd) (hl:NdShort nd):
    RetQ (CC W) 58 [.agg cs] h (fun w h'=>OwI (fun k=>A k∨h.next≤k) h' w (indR nd)):=by
  refine jj9 (cc_ok W) (fn58 W) (by simp only [Tryz.f58]; rfl) rfl rfl ?_
  obtain ⟨iv,dv,nv,sv,rfl,hi,_,hnv,_⟩:=hn
  have hbx:=box_rn (h:=h) (l:=[.int .i64 nd.kind,.int .i64 nd.links,.int .i64 nd.size,iv,dv,nv,sv])
  have hk1:=Keeps.push h (.cells [.int .i64 nd.kind,.int .i64 nd.links,.int .i64 nd.size,iv,dv,nv,sv] 100)
  have hg1:(h.push (.cells [.int .i64 nd.kind,.int .i64 nd.links,.int .i64 nd.size,iv,dv,nv,sv] 100)).get h.next=some (.cells [.int .i64 nd.kind,.int .i64 nd.links,.int .i64 nd.size,iv,dv,nv,sv] 100):=by simp
  have hn1:h.next<(h.push (.cells [.int .i64 nd.kind,.int .i64 nd.links,.int .i64 nd.size,iv,dv,nv,sv] 100)).next:=by simp
  generalize h.push (.cells [.int .i64 nd.kind,.int .i64 nd.links,.int .i64 nd.size,iv,dv,nv,sv] 100)=h1 at hbx hk1 hg1 hn1
  obtain ⟨kb,hkb⟩:∃kb,kb=h.next:=⟨_,rfl⟩
  rw [←hkb] at hbx hg1 hn1
  by_cases hkd:nd.kind=2
  case neg=>
    have hkd':(nd.kind !=2)=true:=by simpa using hkd
    have hx:indR nd=ixR nd:=by simp only [indR,if_neg hkd]; rfl
    rw [hx]
    simp [push_cast,hbx,fa100_0,fa100_3,ld3,ld53,ji9 hg1,jd9,hkd']
    exact ⟨hk1,(hi.keep hk1).imp fun k _ ha=> .inl ha⟩
  have hkd':(nd.kind !=2)=false:=by simpa using hkd
  have hx:indR nd=(List.range ((nd.slots.length + 3) / 4)).map Int.ofNat:=by simp only [indR,if_pos hkd]
  rw [hx]
  have hln:∀h2,aLen (CC W) h2 37 nv=some (.int .i64 nd.slots.length):=fun h2=>by
    have:=(hnv.keep hk1).len (W:=W) (T:=37) (kind37 W) (h2:=h2)
    simpa using this
  have hsl:=hl.2
  simp [push_cast,hbx,fa100_0,ld3,ji9 hg1,jd9,hkd']
  refine loopN (cc_ok W) (InI h1 kb nd.slots.length) ((nd.slots.length + 3) / 4) ⟨by simp,Keeps.refl _,0,by simp,.inl ⟨by simp,by simp⟩,by simp⟩ ?_
  rintro n e' h' ⟨hlen',hk,i,him,hov,hh⟩
  obtain ⟨a0,a1,a2,a3,a4,a5,a6,a7,a8,a9,rS0,rfl,hS0⟩:=un10 hlen'
  obtain ⟨a10,a11,a12,a13,a14,a15,a16,a17,a18,a19,rS10,rfl,hS10⟩:=un10 hS0
  obtain ⟨a20,rS20,rfl,hS20⟩:=un1 hS10
  obtain ⟨a21,rS21,rfl,hS21⟩:=un1 hS20
  obtain ⟨a22,rS22,rfl,hS22⟩:=un1 hS21
  obtain rfl:=un0 hS22
  clear hlen' hS0 hS10 hS20 hS21 hS22
  simp at hh hov
  obtain ⟨rfl,rfl⟩:=hh
  have hg':=(hk.2 kb hn1).trans hg1
  have w4:IntKind.i64.wrap (4 * (i:Int))=4 * (i:Int):=wrap64 (by omega) (by omega)
  have wi:IntKind.i64.wrap ((i:Int) + 1)=(i:Int) + 1:=wrap64 (by omega) (by omega)
  by_cases hlt:4 * i<nd.slots.length
  · have hlt':4 * (i:Int)<(nd.slots.length:Int):=by omega
    obtain ⟨v',h2,hap,hk2,hov2⟩:=OwI.more (W:=W) hk hov (i:Int) (by simp; omega)
    simp [push_cast,fa100_5,ld37,ji9 hg',jd9,hln,w4,hlt',buildS_i,hap,wi]
    refine ⟨n - 1,by omega,by simp,hk2,i + 1,by omega,?_,by simp⟩
    rw [List.range_succ,List.map_append]
    exact hov2
  · have hlt':¬4 * (i:Int)<(nd.slots.length:Int):=by omega
    have he:i=(nd.slots.length + 3) / 4:=by omega
    simp [push_cast,fa100_5,ld37,ji9 hg',jd9,hln,w4,hlt']
    rw [←he]
    exact ⟨hk1.trans hk,hov.imp fun k _ h2=> .inr (Nat.le_trans hk1.1 h2)⟩
def RuI (h:AH) (km kl:Nat) (M:MS) (n:Nat) (e':Env) (h':AH):Prop:=
  e'.length=28∧Keeps h h'∧∃i:Nat,i + n=M.nodes.length∧
    (e'.getD 3 .undef= .int .i64 (usedG (M.nodes.take i))∧e'.getD 11 .undef= .sl (some (.new kl 0)) M.nodes.length M.nodes.length (some 7)∧e'.getD 12 .undef= .int .i64 M.nodes.length∧e'.getD 13 .undef= .int .i64 i)
set_option maxHeartbeats 8000000 in
set_option maxRecDepth 20000 in
theorem rused_ret (W:World) (A:Nat→Prop) (h:AH) (km kl:Nat) (M:MS) (hr:RIs A h km kl M) (hsh:ShortR M) (hfew:M.nodes.length≤64) (hco:∀nd∈M.nodes,CostOk (indR nd)):
    RetK (CC W) 23 [.ptr (some (.new km 0))] h (.int .i64 (usedR M)):=by
  refine jj9 (cc_ok W) (fn23 W) (by simp only [Tryz.f23]; rfl) rfl rfl ?_
  have hgm:=hr.mod
  have hlen:∀hh,aLen (CC W) hh 58 (.sl (some (.new kl 0)) M.nodes.length M.nodes.length (some 7))=some (.int .i64 M.nodes.length):=fun hh=>by simp [aLen,kind58]
  have hind:∀nd∈M.nodes,(indR nd).length<1000000000:=fun nd hnd=>by
    have:=hsh nd hnd
    unfold indR
    split
    · simp; have:=this.2; omega
    · exact this.1
  simp [push_cast,fa60_0,ld58,ji9 hgm,jd9,hlen]
  refine loopN (cc_ok W) (RuI h km kl M) M.nodes.length ⟨by simp,Keeps.refl _,0,by simp,by simp [usedG]⟩ ?_
  rintro n e' h' ⟨hlen',hk,i,him,hh⟩
  obtain ⟨a0,a1,a2,a3,a4,a5,a6,a7,a8,a9,rS0,rfl,hS0⟩:=un10 hlen'
  obtain ⟨a10,a11,a12,a13,a14,a15,a16,a17,a18,a19,rS10,rfl,hS10⟩:=un10 hS0
  obtain ⟨a20,rS20,rfl,hS20⟩:=un1 hS10
  obtain ⟨a21,rS21,rfl,hS21⟩:=un1 hS20
  obtain ⟨a22,rS22,rfl,hS22⟩:=un1 hS21
  obtain ⟨a23,rS23,rfl,hS23⟩:=un1 hS22
  obtain ⟨a24,rS24,rfl,hS24⟩:=un1 hS23
  obtain ⟨a25,rS25,rfl,hS25⟩:=un1 hS24
  obtain ⟨a26,rS26,rfl,hS26⟩:=un1 hS25
  obtain ⟨a27,rS27,rfl,hS27⟩:=un1 hS26
  obtain rfl:=un0 hS27
  clear hlen' hS0 hS10 hS20 hS21 hS22 hS23 hS24 hS25 hS26 hS27
  simp at hh
  obtain ⟨rfl,rfl,rfl,rfl⟩:=hh
  have hr':=hr.keep hk
  by_cases hlt:i<M.nodes.length
  case neg=>
    have hlt':¬(i:Int)<(M.nodes.length:Int):=by omega
    have hi:M.nodes.take i=M.nodes:=List.take_of_length_le (by omega)
    simp [push_cast,hlt',hi,usedR]
    exact hk
  have hlt':(i:Int)<(M.nodes.length:Int):=by omega
  obtain ⟨nd,hnd⟩:∃nd,M.nodes[i]? =some nd:=⟨M.nodes[i],by simp [hlt]⟩
  have hm:=List.mem_of_getElem? hnd
  have hshort:=hsh nd hm
  have hin:=hind nd hm
  have wi:IntKind.i64.wrap ((i:Int) + 1)=(i:Int) + 1:=wrap64 (by omega) (by omega)
  have htk:M.nodes.take (i + 1)=M.nodes.take i ++ [nd]:=by rw [List.take_add_one,hnd]; rfl
  have hu:=usedG_append (M.nodes.take i) [nd]
  simp only [usedG,Int.add_zero] at hu
  have hb1:=usedG_le (M.nodes.take i) fun x hx=>by have:=hind x (List.mem_of_mem_take hx); omega
  have hb2:=ndCost_le (nd:=nd) (by omega)
  have hb3:(M.nodes.take i).length≤64:=by simp; omega
  have ws:IntKind.i64.wrap (usedG (M.nodes.take i) + (costR (indR nd)).1)=usedG (M.nodes.take i) + (costR (indR nd)).1:=by
    simp only [ndCost] at hb2
    exact wrap64 (by omega) (by omega)
  obtain ⟨cs,hnc,hldn,_⟩:=hr'.node (W:=W) hnd
  obtain ⟨hp,h5,hal5,hst5,hk5,hlt5,hg5⟩:=nd_box (W:=W) h' hnc.len hnc.ones
  obtain ⟨kb,hkbe⟩:∃kb,kb=h'.next:=⟨_,rfl⟩
  rw [←hkbe] at hal5 hst5 hlt5 hg5
  have hnc5:=hnc.keep hk5
  obtain ⟨iv,dv,nv,sv,rfl,_⟩:=_root_.id hnc5
  have hldb:=ld_rn (W:=W) hg5
  simp [push_cast,hlt',idx_rn hlt,hldn,hal5,hst5,hldb]
  refine jg9 (by simp [fn58]) (rind_ret W _ h5 _ nd hnc5 hshort) fun v1 h6 hk6 hv1=> ?_
  simp [push_cast]
  refine jf9 (by simp [fn57]) (rcost_ret W h6 v1 _ hv1.intS (hco nd hm) hin) fun h7 hk7=> ?_
  simp [push_cast,ws,wi]
  exact ⟨n - 1,by omega,by simp,hk.trans (hk5.trans (hk6.trans hk7)),i + 1,by omega,by simp [htk,hu,ndCost]⟩
def RnI (h:AH) (km kl:Nat) (M:MS) (n:Nat) (e':Env) (h':AH):Prop:=
  e'.length=22∧Keeps h h'∧∃i:Nat,i + n=M.nodes.length∧
    (e'.getD 3 .undef= .int .i64 (liveR (M.nodes.take i):Nat)∧e'.getD 9 .undef= .sl (some (.new kl 0)) M.nodes.length M.nodes.length (some 7)∧e'.getD 10 .undef= .int .i64 M.nodes.length∧e'.getD 11 .undef= .int .i64 i)
set_option maxHeartbeats 8000000 in
set_option maxRecDepth 20000 in
theorem rinodes_ret (W:World) (A:Nat→Prop) (h:AH) (km kl:Nat) (M:MS) (hr:RIs A h km kl M) (hfew:M.nodes.length≤64):
    RetK (CC W) 24 [.ptr (some (.new km 0))] h (.int .i64 (liveR M.nodes:Nat)):=by
  refine jj9 (cc_ok W) (fn24 W) (by simp only [Tryz.f24]; rfl) rfl rfl ?_
  have hgm:=hr.mod
  have hlen:∀hh,aLen (CC W) hh 58 (.sl (some (.new kl 0)) M.nodes.length M.nodes.length (some 7))=some (.int .i64 M.nodes.length):=fun hh=>by simp [aLen,kind58]
  simp [push_cast,fa60_0,ld58,ji9 hgm,jd9,hlen]
  refine loopN (cc_ok W) (RnI h km kl M) M.nodes.length ⟨by simp,Keeps.refl _,0,by simp,by simp [liveR]⟩ ?_
  rintro n e' h' ⟨hlen',hk,i,him,hh⟩
  obtain ⟨a0,a1,a2,a3,a4,a5,a6,a7,a8,a9,rS0,rfl,hS0⟩:=un10 hlen'
  obtain ⟨a10,a11,a12,a13,a14,a15,a16,a17,a18,a19,rS10,rfl,hS10⟩:=un10 hS0
  obtain ⟨a20,rS20,rfl,hS20⟩:=un1 hS10
  obtain ⟨a21,rS21,rfl,hS21⟩:=un1 hS20
  obtain rfl:=un0 hS21
  clear hlen' hS0 hS10 hS20 hS21
  simp at hh
  obtain ⟨rfl,rfl,rfl,rfl⟩:=hh
  have hr':=hr.keep hk
  by_cases hlt:i<M.nodes.length
  case neg=>
    have hlt':¬(i:Int)<(M.nodes.length:Int):=by omega
    have hi:M.nodes.take i=M.nodes:=List.take_of_length_le (by omega)
    simp [push_cast,hlt',hi]
    exact hk
  have hlt':(i:Int)<(M.nodes.length:Int):=by omega
  obtain ⟨nd,hnd⟩:∃nd,M.nodes[i]? =some nd:=⟨M.nodes[i],by simp [hlt]⟩
  have wi:IntKind.i64.wrap ((i:Int) + 1)=(i:Int) + 1:=wrap64 (by omega) (by omega)
  have htk:M.nodes.take (i + 1)=M.nodes.take i ++ [nd]:=by rw [List.take_add_one,hnd]; rfl
  have hcl:liveR (M.nodes.take (i + 1))=liveR (M.nodes.take i) + if nd.kind !=0 then 1 else 0:=by
    rw [htk]; simp only [liveR,List.countP_append,List.countP_cons,List.countP_nil,Nat.zero_add]
  have hb:liveR (M.nodes.take i)≤i:=by
    have:=List.countP_le_length (p:=fun nd:Nd=>nd.kind !=0) (l:=M.nodes.take i)
    simp at this; simp only [liveR]; omega
  generalize liveR (M.nodes.take i)=c at hcl hb
  have wc:IntKind.i64.wrap ((c:Int) + 1)=(c:Int) + 1:=wrap64 (by omega) (by omega)
  obtain ⟨cs,hnc,hldn,_⟩:=hr'.node (W:=W) hnd
  obtain ⟨hp,h5,hal5,hst5,hk5,hlt5,hg5⟩:=nd_box (W:=W) h' hnc.len hnc.ones
  obtain ⟨kb,hkbe⟩:∃kb,kb=h'.next:=⟨_,rfl⟩
  rw [←hkbe] at hal5 hst5 hlt5 hg5
  obtain ⟨iv,dv,nv,sv,rfl,_⟩:=_root_.id hnc
  by_cases hkd:nd.kind=0
  · have hkd':(nd.kind !=0)=false:=by simpa using hkd
    rw [hkd'] at hcl
    simp [push_cast,hlt',idx_rn hlt,hldn,hal5,hst5,fa100_0,ld3,ji9 hg5,jd9,hkd',wi]
    exact ⟨n - 1,by omega,by simp,hk.trans hk5,i + 1,by omega,by simp [hcl]⟩
  · have hkd':(nd.kind !=0)=true:=by simpa using hkd
    rw [hkd'] at hcl
    simp [push_cast,hlt',idx_rn hlt,hldn,hal5,hst5,fa100_0,ld3,ji9 hg5,jd9,hkd',wi,wc]
    exact ⟨n - 1,by omega,by simp,hk.trans hk5,i + 1,by omega,by simp [hcl]⟩
theorem RIs.off {A:Nat→Prop} {h h':AH} {km kl:Nat} {M:MS} (hr:RIs A h km kl M) (hn:h.next≤h'.next) (hk:∀k,k<h.next→(A k∨k=km∨k=kl)→h'.get k=h.get k):RIs A h' km kl M:=by
  obtain ⟨css,a,b,c,d,e,f,g⟩:=hr
  exact ⟨css,a,fun i cs nd h1 h2=>(b i cs nd h1 h2).off hn fun k hk1 hk2=>hk k hk2 (.inl hk1.1),(hk kl f (.inr (.inr rfl))).trans c,(hk km e (.inr (.inl rfl))).trans d,by omega,by omega,g⟩
theorem append_rn {W:World} {h:AH} {v:AV} {css:List (List AV)} {cs:List AV} (hv:css=[]∧v= .sl none 0 0 none∨∃k,k<h.next∧h.get k=some (.cells css.flatten 100)∧v= .sl (some (.new k 0)) css.length css.length (some 7)) (h7:∀u∈css,u.length=7) (hc:cs.length=7) (h1:cs.all aOne=true) (hi:css.length<64):
    ∃h' p,aAppend (CC W) (h.push (.cells cs 100)) #[58,58] v (.sl (some (.new h.next 0)) 1 1 none)=some (.sl (some (.new p 0)) (css.length + 1) (css.length + 1) (some 7),h')∧h.next≤p∧p<h'.next∧h'.get p=some (.cells (css ++ [cs]).flatten 100)∧∀q,q<h.next→(∀k n c g,v= .sl (some (.new k 0)) n c g→q≠k)→h'.get q=h.get q:=by
  have hb:(CC W).bytes 100=120:=_root_.id rfl
  have hni:niOK (CC W) #[58,58]=true:=_root_.id rfl
  have htk:cs.take 7=cs:=List.take_of_length_le (by omega)
  have hnews:aNews (CC W) (h.push (.cells cs 100)) 7 (.sl (some (.new h.next 0)) 1 1 none)=some (1,cs):=by
    obtain ⟨a,b,c,d,e,f,g,rfl⟩:∃a b c d e f g,cs=[a,b,c,d,e,f,g]:=by
      match cs,hc with
      | [a,b,c,d,e,f,g],_=>exact ⟨a,b,c,d,e,f,g,rfl⟩
    simp [aNews,aCells]
  rcases hv with ⟨rfl,rfl⟩ | ⟨k,h2,h3,rfl⟩
  · refine ⟨(h.push (.cells cs 100)).push (.cells cs 100),h.next + 1,?_,by omega,by simp,by simp,fun q hq _=> ?_⟩
    · simp [aAppend,kind58,size100,zero100,hb,hni,hnews]
      try simpa using h1
    · rw [AH.get_push,if_neg (by simp; omega),AH.get_push,if_neg (by omega)]
  · have hne:k≠h.next:=by omega
    have hlen:css.flatten.length=css.length * 7:=by
      clear h3 hi
      induction css with
      | nil=>simp
      | cons u us ih=>
        have:=h7 u (by simp)
        have:=ih fun x hx=>h7 x (by simp [hx])
        simp only [List.flatten_cons,List.length_append,List.length_cons]; omega
    have hsn:css.flatten ++ cs=(css ++ [cs]).flatten:=by simp
    generalize css.length=i at *
    generalize (css ++ [cs]).flatten=c2 at hsn
    generalize css.flatten=c1 at h3 hlen hsn
    subst hsn
    refine ⟨((h.push (.cells cs 100)).kill k).push (.cells (c1 ++ cs) 100),h.next + 1,?_,by omega,by simp [AH.next_kill'],by simp [AH.next_kill'],fun q hq hqk=> ?_⟩
    · by_cases hi0:i=0
      · subst hi0
        have:c1=[]:=List.length_eq_zero_iff.1 (by omega)
        subst this
        simp [aAppend,kind58,size100,zero100,hb,hni,hnews,hne,h3,hlen,AH.next_kill']
        try simpa using h1
      · simp [aAppend,kind58,size100,zero100,hb,hni,hnews,hne,h3,hlen,AH.next_kill',hi0]
        rw [if_neg (by omega),if_pos (by omega)]
        try simpa using h1
    · have:=hqk k _ _ _ rfl
      rw [AH.get_push,AH.next_kill',if_neg (by simp; omega),AH.get_kill',if_neg (by omega),AH.get_push,if_neg (by omega)]
def CpI (h:AH) (km kl kw:Nat) (M:MS) (n:Nat) (e':Env) (h':AH):Prop:=
  e'.length=34∧Keeps h h'∧h.next≤kw∧kw<h'.next∧∃(i:Nat) (v:AV) (css:List (List AV)),i + n=M.nodes.length∧css.length=i∧h'.get kw=some (.cells [v,.int .i64 M.data] 60)∧
    (css=[]∧v= .sl none 0 0 none∨∃k,h.next≤k∧k≠kw∧k<h'.next∧h'.get k=some (.cells css.flatten 100)∧v= .sl (some (.new k 0)) css.length css.length (some 7))∧
    (∀(j:Nat) cs nd,css[j]? =some cs→M.nodes[j]? =some nd→NdC (fun k=>h.next≤k∧k≠kw∧∀q n c g,v= .sl (some (.new q 0)) n c g→k≠q) h' cs nd)∧
    (e'.getD 3 .undef= .ptr (some (.new kw 0))∧e'.getD 15 .undef= .sl (some (.new kl 0)) M.nodes.length M.nodes.length (some 7)∧e'.getD 16 .undef= .int .i64 M.nodes.length∧e'.getD 17 .undef= .int .i64 i)
set_option maxHeartbeats 16000000 in
set_option maxRecDepth 20000 in
theorem rcopied_ret (W:World) (A:Nat→Prop) (h:AH) (km kl:Nat) (M:MS) (hr:RIs A h km kl M) (hsh:ShortR M) (hfew:M.nodes.length≤64) (h0:0<M.nodes.length):
    RetQ (CC W) 52 [.ptr (some (.new km 0))] h (fun w h'=>∃kw kq,w= .ptr (some (.new kw 0))∧h.next≤kw∧h.next≤kq∧RIs (fun k=>h.next≤k) h' kw kq M):=by
  refine jj9 (cc_ok W) (fn52 W) (by simp only [Tryz.f52]; rfl) rfl rfl ?_
  have hgm:=hr.mod
  have hlen:∀hh,aLen (CC W) hh 58 (.sl (some (.new kl 0)) M.nodes.length M.nodes.length (some 7))=some (.int .i64 M.nodes.length):=fun hh=>by simp [aLen,kind58]
  have hk1:=Keeps.push h (.cells [.sl none 0 0 none,.int .i64 M.data] 60)
  have hg1:(h.push (.cells [.sl none 0 0 none,.int .i64 M.data] 60)).get h.next=some (.cells [.sl none 0 0 none,.int .i64 M.data] 60):=by simp
  have hn1:h.next<(h.push (.cells [.sl none 0 0 none,.int .i64 M.data] 60)).next:=by simp
  have hbx:=box_rmod (h:=h) (l:=[.sl none 0 0 none,.int .i64 M.data])
  generalize h.push (.cells [.sl none 0 0 none,.int .i64 M.data] 60)=h1 at hbx hk1 hg1 hn1
  obtain ⟨kw,hkw⟩:∃kw,kw=h.next:=⟨_,rfl⟩
  rw [←hkw] at hbx hg1 hn1
  have hgm1:=(hr.keep hk1).mod
  simp [push_cast,fa60_0,fa60_1,ld3,ld58,ji9 hgm,jd9,build_rmod,hbx,ji9 hgm1,hlen]
  refine loopN (cc_ok W) (CpI h km kl kw M) M.nodes.length ⟨by simp,hk1,by omega,hn1,0,.sl none 0 0 none,[],by simp,rfl,hg1,.inl ⟨rfl,rfl⟩,fun j cs nd hj=>by simp at hj,by simp⟩ ?_
  rintro n e' h' ⟨hlen',hk,hlo,hkwn,i,v,css,him,hcl,hgw,hv,hnd,hh⟩
  obtain ⟨a0,a1,a2,a3,a4,a5,a6,a7,a8,a9,rS0,rfl,hS0⟩:=un10 hlen'
  obtain ⟨a10,a11,a12,a13,a14,a15,a16,a17,a18,a19,rS10,rfl,hS10⟩:=un10 hS0
  obtain ⟨a20,a21,a22,a23,a24,a25,a26,a27,a28,a29,rS20,rfl,hS20⟩:=un10 hS10
  obtain ⟨a30,rS30,rfl,hS30⟩:=un1 hS20
  obtain ⟨a31,rS31,rfl,hS31⟩:=un1 hS30
  obtain ⟨a32,rS32,rfl,hS32⟩:=un1 hS31
  obtain ⟨a33,rS33,rfl,hS33⟩:=un1 hS32
  obtain rfl:=un0 hS33
  clear hlen' hS0 hS10 hS20 hS30 hS31 hS32 hS33
  simp at hh
  obtain ⟨rfl,rfl,rfl,rfl⟩:=hh
  have hr':=hr.keep hk
  by_cases hlt:i<M.nodes.length
  case neg=>
    have hlt':¬(i:Int)<(M.nodes.length:Int):=by omega
    have hi:i=M.nodes.length:=by omega
    simp [push_cast,hlt']
    rcases hv with ⟨rfl,_⟩ | ⟨k,a1,a2,a3,a4,rfl⟩
    · simp at hcl; omega
    · exact ⟨hk,by omega,k,a1,css,by omega,fun j cs nd h1 h2=>(hnd j cs nd h1 h2).imp fun q _ ⟨b1,b2,b3⟩=>⟨b1,b2,b3 _ _ _ _ rfl⟩,a4,by rw [hgw,hcl,hi],hkwn,a3,Ne.symm a2⟩
  have hlt':(i:Int)<(M.nodes.length:Int):=by omega
  have wi:IntKind.i64.wrap ((i:Int) + 1)=(i:Int) + 1:=wrap64 (by omega) (by omega)
  obtain ⟨nd,hnd1⟩:∃nd,M.nodes[i]? =some nd:=⟨M.nodes[i],by simp [hlt]⟩
  have hshort:=hsh nd (List.mem_of_getElem? hnd1)
  obtain ⟨cs,hnc,hldn,_⟩:=hr'.node (W:=W) hnd1
  obtain ⟨hp,h5,hal5,hst5,hk5,hlt5,hg5⟩:=nd_box (W:=W) h' hnc.len hnc.ones
  obtain ⟨kb,hkbe⟩:∃kb,kb=h'.next:=⟨_,rfl⟩
  rw [←hkbe] at hal5 hst5 hlt5 hg5
  have hnc5:=hnc.keep hk5
  obtain ⟨iv,dv,nv,sv,rfl,_⟩:=_root_.id hnc5
  have hldb:=ld_rn (W:=W) hg5
  have hgw5:=(hk5.2 kw hkwn).trans hgw
  have hisl:∃p n c g,v= .sl p n c g:=by
    rcases hv with ⟨_,rfl⟩ | ⟨k,_,_,_,_,rfl⟩<;>exact ⟨_,_,_,_,rfl⟩
  obtain ⟨vp,vn,vc,vg,hve⟩:=hisl
  have hld58:∀hh:AH,hh.get kw=some (.cells [v,.int .i64 M.data] 60)→aCell (CC W) hh (.new kw 0)=some v:=fun hh hg=>by rw [ji9 hg]; rfl
  simp [push_cast,hlt',idx_rn hlt,hldn,hal5,hst5]
  refine drawS [0,1,2,3,4,5,6,7,8,9,10,11] (by kernel_rfl) (by kernel_rfl) ?_
  simp [push_cast,zx9,zy9,SgO,opA,isE,isRead,fa60_0,ld58,hld58 _ hgw5,jd9,hldb]
  refine jb9 (f:=87) (args:=[.agg [.int .i64 nd.kind,.int .i64 nd.links,.int .i64 nd.size,iv,dv,nv,sv]]) (by rfl) (by rfl) (by rfl) (by simp [fn87]) (own_ret W _ h5 _ nd hnc5 hshort) fun w h6 ⟨hk6,cs',hw,hnc6⟩=> ?_
  subst hw
  have hgw6:=(hk6.2 kw (Nat.lt_of_lt_of_le hkwn hk5.1)).trans hgw5
  have hg6:=(hk6.2 kb hlt5).trans hg5
  have hldb6:=ld_rn (W:=W) hg6
  refine ⟨by simp [zz9,ja9,push_cast,opA,fa60_0,ld58,hld58 _ hgw6,jd9,hldb6],?_⟩
  have hk06:=hk.trans (hk5.trans hk6)
  have hv6:css=[]∧v= .sl none 0 0 none∨∃k,k<h6.next∧h6.get k=some (.cells css.flatten 100)∧v= .sl (some (.new k 0)) css.length css.length (some 7):=by
    rcases hv with h1 | ⟨k,a1,a2,a3,a4,a5⟩
    · exact .inl h1
    · exact .inr ⟨k,Nat.lt_of_lt_of_le a3 (hk5.trans hk6).1,((hk5.trans hk6).2 k a3).trans a4,a5⟩
  have h7:∀u∈css,u.length=7:=fun u hu=>by
    obtain ⟨q,hq⟩:=List.getElem?_of_mem hu
    have hql:=(List.getElem?_eq_some_iff.1 hq).1
    exact (hnd q u (M.nodes[q]'(by omega)) hq (by simp)).len
  obtain ⟨h8,p,hap,p1,p2,p3,hold⟩:=append_rn (W:=W) hv6 h7 hnc6.len hnc6.ones (by omega)
  have hbs:aBuildSlice (CC W) h6 58 1 [(0,.agg cs')]=some (.sl (some (.new h6.next 0)) 1 1 none,h6.push (.cells cs' 100)):=by
    obtain ⟨a,b,c,d,e,f,g,rfl⟩:∃a b c d e f g,cs'=[a,b,c,d,e,f,g]:=by
      have:=hnc6.len
      match cs',this with
      | [a,b,c,d,e,f,g],_=>exact ⟨a,b,c,d,e,f,g,rfl⟩
    have ho:=hnc6.ones
    simp only [aBuildSlice,kind58,size100,zero100]
    rfl
  have hk7:=Keeps.push h6 (.cells cs' 100)
  have hkw6:kw<h6.next:=Nat.lt_of_lt_of_le hkwn (hk5.trans hk6).1
  have hkb6:kb<h6.next:=Nat.lt_of_lt_of_le hlt5 hk6.1
  have hgw7:=(hk7.2 kw hkw6).trans hgw6
  have hg7:=(hk7.2 kb hkb6).trans hg6
  have hldb7:=ld_rn (W:=W) hg7
  have hkwv:∀k n c g,v= .sl (some (.new k 0)) n c g→kw≠k:=fun k n c g hvk=>by
    rcases hv with ⟨_,h0⟩ | ⟨k',_,a2,_,_,a5⟩
    · rw [h0] at hvk; cases hvk
    · rw [a5] at hvk
      simp only [AV.sl.injEq,Option.some.injEq,AA.new.injEq] at hvk
      omega
  have hgw8:=(hold kw hkw6 hkwv).trans hgw6
  simp [push_cast,zx9,zy9,SgO,opA,isE,isRead]
  refine jc9 (h':=h6.push (.cells cs' 100)) (v:= .sl (some (.new h6.next 0)) 1 1 none) (by rfl) (by simp [push_cast,hbs]) ⟨?_,?_⟩
  · simp [zz9,ja9,push_cast,opA,fa60_0,ld58,hld58 _ hgw7,jd9,hldb7]
  simp [push_cast,zx9,zy9,SgO,opA,isE,isRead]
  refine jc9 (h':=h8) (v:= .sl (some (.new p 0)) (css.length + 1) (css.length + 1) (some 7)) (by rfl) (by simp [push_cast,hap]) ⟨?_,?_⟩
  · simp only [zz9,ja9]; exact ⟨fun hr=>absurd hr (by decide),fun hr=>absurd hr (by decide),trivial⟩
  have hst:=st_rmod (W:=W) (p:=some (.new p 0)) (l:=css.length + 1) (cap:=css.length + 1) (g:=some 7) hgw8
  simp [push_cast,zx9,zy9,SgO,opA,isE,isRead,fa60_0,jd9]
  refine jc9 (h':=h8.set kw (.cells [.sl (some (.new p 0)) (css.length + 1) (css.length + 1) (some 7),.int .i64 M.data] 60)) (v:= .undef) (by rfl) (by simp [push_cast,hst]) ⟨?_,?_⟩
  · simp only [zz9,ja9]; exact ⟨fun hr=>absurd hr (by decide),fun hr=>absurd hr (by decide),trivial⟩
  simp [push_cast,zx9,zy9,SgO,opA,isE,isRead,wi]
  have hle6:=hk06.1
  have hwlo:∀q,q<h.next→(∀k n c g,v= .sl (some (.new k 0)) n c g→q≠k):=fun q hq k n c g hvk=>by
    rcases hv with ⟨_,h0⟩ | ⟨k',a1,a2,_,_,a5⟩
    · rw [h0] at hvk; cases hvk
    · rw [a5] at hvk
      simp only [AV.sl.injEq,Option.some.injEq,AA.new.injEq] at hvk
      omega
  refine ⟨n - 1,by omega,by simp,⟨by simp; omega,fun q hq=> ?_⟩,hlo,by simp; omega,i + 1,.sl (some (.new p 0)) (css.length + 1) (css.length + 1) (some 7),css ++ [cs'],by omega,by simp [hcl],by simp,.inr ⟨p,by omega,by omega,by simp; omega,?_,by simp⟩,fun j c nd' hj hnd'=> ?_,by simp⟩
  · rw [AH.get_set,if_neg (by omega),hold q (by omega) (hwlo q hq)]
    exact hk06.2 q hq
  · rw [AH.get_set,if_neg (by omega)]; exact p3
  · by_cases hji:j<css.length
    · rw [List.getElem?_append_left hji] at hj
      have h1:=(((hnd j c nd' hj hnd').keep hk5).keep hk6).imp (B:=fun k=>(h.next≤k∧k≠kw∧∀q n c g,v= .sl (some (.new q 0)) n c g→k≠q)∧k<h6.next) fun k hk hh=>⟨hh,hk⟩
      refine (h1.off (h':=h8.set kw (.cells [.sl (some (.new p 0)) (css.length + 1) (css.length + 1) (some 7),.int .i64 M.data] 60)) (by simp; omega) fun k hk1 hk2=> ?_).imp fun k _ hh=>⟨hh.1.1,hh.1.2.1,fun q n c g hq=> ?_⟩
      · rw [AH.get_set,if_neg hk1.1.2.1]
        exact hold k hk2 hk1.1.2.2
      · have:=hh.2
        simp only [AV.sl.injEq,Option.some.injEq,AA.new.injEq] at hq
        omega
    · rw [List.getElem?_append_right (by omega)] at hj
      have hj0:j - css.length=0:=by
        rcases Nat.eq_zero_or_pos (j - css.length) with h | h
        · exact h
        · rw [List.getElem?_eq_none (by simp; omega)] at hj; cases hj
      rw [hj0] at hj
      simp at hj
      subst hj
      have hji':j=i:=by omega
      subst hji'
      rw [hnd1] at hnd'
      cases hnd'
      have hle5:=(hk.trans hk5).1
      have hkw5:kw<h5.next:=Nat.lt_of_lt_of_le hkwn hk5.1
      have h1:=hnc6.imp (B:=fun k=>h5.next≤k∧k<h6.next) fun k hk hh=>⟨hh,hk⟩
      refine (h1.off (h':=h8.set kw (.cells [.sl (some (.new p 0)) (css.length + 1) (css.length + 1) (some 7),.int .i64 M.data] 60)) (by simp; omega) fun k hk1 hk2=> ?_).imp fun k _ hh=>⟨by omega,by omega,fun q n c g hq=> ?_⟩
      · rw [AH.get_set,if_neg (by omega)]
        refine hold k hk2 fun q n c g hvk=> ?_
        rcases hv with ⟨_,h0⟩ | ⟨k',_,a2,a3,_,a5⟩
        · rw [h0] at hvk; cases hvk
        · rw [a5] at hvk
          simp only [AV.sl.injEq,Option.some.injEq,AA.new.injEq] at hvk
          have:=hk5.1
          omega
      · have:=hh.2
        simp only [AV.sl.injEq,Option.some.injEq,AA.new.injEq] at hq
        omega
def doQ (M:MS) (o:Opn):Res×MS:=
  if (rdoQ M o).1.e=0 then if (rdoQ M o).2.data<usedR (rdoQ M o).2 then (Res.err 306,M) else rdoQ M o
  else ((rdoQ M o).1,M)
structure UOk (M:MS):Prop where
  sh:ShortR M
  few:M.nodes.length≤64
  co:∀nd∈M.nodes,CostOk (indR nd)
set_option maxHeartbeats 32000000 in
set_option maxRecDepth 20000 in
theorem rDo_ret (W:World) (A:Nat→Prop) (h:AH) (hA:∀k,h.next≤k→A k) (km kl:Nat) (M:MS) (hr:RIs A h km kl M) (rf:RFine M) (o:Opn) (hat:o.at_<9223372036854775808) (hpl:o.p.length<8796093022207) (htl:o.t.length<8796093022207)
    (hu:(rdoQ M o).1.e=0→UOk (rdoQ M o).2) (hdat:(rdoQ M o).2.data=M.data):
    ACall (CC W) 18 [.ptr (some (.new km 0)),.agg o.cells] h (fun w h'=>∃kl',ResR h h' w (doQ M o).1∧RIs A h' km kl' (doQ M o).2∧OffR km kl h h'∧(kl'=kl∨h.next≤kl')) (fun _ _=>False):=by
  refine jj9 (cc_ok W) (fn18 W) (by simp only [Tryz.f18]; rfl) rfl rfl ?_
  have hkm0:km<h.next:=by obtain ⟨_,_,_,_,_,h5,h6,_⟩:=_root_.id hr; exact h5
  have hkl0:kl<h.next:=by obtain ⟨_,_,_,_,_,h5,h6,_⟩:=_root_.id hr; exact h6
  have hne:km≠kl:=by obtain ⟨_,_,_,_,_,h5,h6,h7⟩:=_root_.id hr; exact h7
  have hbx:=box_op (h:=h) (l:=o.cells)
  have hk1:=Keeps.push h (.cells o.cells 35)
  have hg1:(h.push (.cells o.cells 35)).get h.next=some (.cells o.cells 35):=by simp
  have hn1:h.next<(h.push (.cells o.cells 35)).next:=by simp
  generalize h.push (.cells o.cells 35)=h1 at hbx hk1 hg1 hn1
  obtain ⟨k3,hk3e⟩:∃k3,k3=h.next:=⟨_,rfl⟩
  rw [←hk3e] at hbx hg1 hn1
  have hal:=alloc_res (W:=W) (h:=h1)
  have hk2:=Keeps.push h1 (.cells res0 39)
  have hz2:(h1.push (.cells res0 39)).get h1.next=some (.cells res0 39):=by simp
  have hn2:h1.next<(h1.push (.cells res0 39)).next:=by simp
  generalize h1.push (.cells res0 39)=h2 at hal hk2 hz2 hn2
  obtain ⟨k4,hk4e⟩:∃k4,k4=h1.next:=⟨_,rfl⟩
  rw [←hk4e] at hal hz2 hn2
  have hk02:=hk1.trans hk2
  have hk40:h.next≤k4:=by have:=hk1.1; omega
  have hg2:=(hk2.2 k3 hn1).trans hg1
  have hn32:k3<h2.next:=Nat.lt_of_lt_of_le hn1 hk2.1
  have hle2:=hk02.1
  have hr2:=hr.keep hk02
  simp [push_cast,hbx,hal]
  refine jg9 (by simp [fn52]) (rcopied_ret W A h2 km kl M hr2 rf.ro.sh rf.ro.ok.few rf.ro.ok.some) fun w h3 hk3 ⟨kw,kq,hw,hkw,hkq,hrw⟩=> ?_
  subst hw
  have hk03:=hk02.trans hk3
  have hle3:=hk3.1
  have hr3:RIs (fun k=>A k∧(k<h.next∨h3.next≤k)) h3 km kl M:=(hr.imp (B:=fun k=>A k∧(k<h.next∨h3.next≤k)) fun k hk hAk=>⟨hAk,.inl hk⟩).keep hk03
  have hg3:=(hk3.2 k3 hn32).trans hg2
  have hz3:=(hk3.2 k4 hn2).trans hz2
  have hld3:aLoad (CC W) h3 35 (.new k3 0)=some (.agg o.cells):=by
    simp only [Opn.cells] at hg3 ⊢; exact ld_op hg3
  simp [push_cast,hld3]
  refine je9 (by simp [fn53]) (rdo_ret W _ h3 (fun k hk=>⟨hA k (by omega),.inr hk⟩) km kl M hr3 rf o hat hpl htl) fun w h4 ⟨⟨nv,hw,hnv⟩,hr4,ho4⟩=> ?_
  subst hw
  have hle4:=ho4.1
  obtain ⟨p,n,q,g,rfl⟩:=hnv.isSl
  have hz4:h4.get k4=some (.cells res0 39):=(ho4.2 k4 (by omega) (by omega) (by omega)).trans hz3
  have hrw4:RIs (fun k=>h2.next≤k∧k<h3.next) h4 kw kq M:=by
    have hlt:kw<h3.next∧kq<h3.next:=by obtain ⟨_,_,_,_,_,h5,h6,h7⟩:=_root_.id hrw; exact ⟨h5,h6⟩
    refine (hrw.imp (B:=fun k=>h2.next≤k∧k<h3.next) fun k hk hh=>⟨hh,hk⟩).off hle4 fun k hk hh=>ho4.2 k hk ?_ ?_
    · rcases hh with hh | hh | hh<;>omega
    · rcases hh with hh | hh | hh<;>omega
  have hQ:doQ M o=if (rdoQ M o).1.e=0 then if (rdoQ M o).2.data<usedR (rdoQ M o).2 then (Res.err 306,M) else rdoQ M o else ((rdoQ M o).1,M):=rfl
  generalize rdoQ M o=rm at hnv hr4 hu hQ hdat
  obtain ⟨r,M'⟩:=rm
  simp only at hnv hr4 hu hQ hdat
  rw [hQ]
  have hal5:=alloc_res (W:=W) (h:=h4)
  obtain ⟨k6,hk6e⟩:∃k6,k6=h4.next:=⟨_,rfl⟩
  have hp5:(h4.push (.cells res0 39)).get h4.next=some (.cells [.int .i64 0,.str [],.int .i64 0,.int .i64 0,.int .i64 0,.sl none 0 0 none] 39):=by simp [res0]
  have hst5:=st_res (W:=W) (e1:=r.e) (d1:=r.data) (k1:=r.kind) (l1:=r.links) (s1:=r.size) (p:=p) (n:=n) (q:=q) (g:=g) hp5
  have hk5:Keeps h4 ((h4.push (.cells res0 39)).set h4.next (.cells [.int .i64 r.e,.str r.data,.int .i64 r.kind,.int .i64 r.links,.int .i64 r.size,.sl p n q g] 39)):=(Keeps.push h4 _).set (Nat.le_refl _) _
  have hg5:((h4.push (.cells res0 39)).set h4.next (.cells [.int .i64 r.e,.str r.data,.int .i64 r.kind,.int .i64 r.links,.int .i64 r.size,.sl p n q g] 39)).get h4.next=some (.cells [.int .i64 r.e,.str r.data,.int .i64 r.kind,.int .i64 r.links,.int .i64 r.size,.sl p n q g] 39):=by simp
  have hn5:h4.next<((h4.push (.cells res0 39)).set h4.next (.cells [.int .i64 r.e,.str r.data,.int .i64 r.kind,.int .i64 r.links,.int .i64 r.size,.sl p n q g] 39)).next:=by simp
  generalize h4.push (.cells res0 39)=hp at hal5 hst5 hk5 hg5 hn5
  generalize hp.set h4.next (.cells [.int .i64 r.e,.str r.data,.int .i64 r.kind,.int .i64 r.links,.int .i64 r.size,.sl p n q g] 39)=h5 at hst5 hk5 hg5 hn5
  rw [←hk6e] at hal5 hst5 hg5 hn5
  have hr5:=hr4.keep hk5
  have hgm5:=hr5.mod
  have hrw5:=hrw4.keep hk5
  have hz5:=(hk5.2 k4 (by omega)).trans hz4
  have hle5:=hk5.1
  have hld5:=ld_res (W:=W) hg5
  have hoff5:OffR km kl h h5:=((OffR.ofKeeps hk03).trans ho4).trans (OffR.ofKeeps hk5)
  have hkwq:kw<h3.next∧kq<h3.next∧kw≠kq:=by obtain ⟨_,_,_,_,_,h5,h6,h7⟩:=_root_.id hrw; exact ⟨h5,h6,h7⟩
  have hback:∀hh:AH,h5.next≤hh.next→(∀k,k<h5.next→k≠k6→hh.get k=h5.get k)→
      ∃h',aStoreOp (CC W) hh 58 (.ptr (some (.new km 0))) (.sl (some (.new kq 0)) M.nodes.length M.nodes.length (some 7))=some h'∧RIs (fun k=>A k∧k≠k4) h' km kq M∧OffR km kl h h'∧h'.next=hh.next∧∀k,k≠km→h'.get k=hh.get k:=fun hh hle hkeep=>by
    have hgmh:hh.get km=some (.cells [.sl (some (.new kl 0)) M'.nodes.length M'.nodes.length (some 7),.int .i64 M'.data] 60):=(hkeep km (by omega) (by omega)).trans hgm5
    have hd:M'.data=M.data:=hdat
    refine ⟨_,st_rmod hgmh,?_,⟨by simp; have:=hoff5.1; omega,fun j hj h1 h2=> ?_⟩,by simp,fun k hk=>by simp [hk]⟩
    · obtain ⟨css,a,b,c,d,e,f,gg⟩:=hrw5
      refine ⟨css,a,fun i cs nd h1 h2=> ?_,?_,?_,?_,?_,?_⟩
      · refine ((b i cs nd h1 h2).off (h':=hh.set km (.cells [.sl (some (.new kq 0)) M.nodes.length M.nodes.length (some 7),.int .i64 M'.data] 60)) (by simpa using hle) fun k hk1 hk2=> ?_).imp fun k _ hk=>⟨⟨hA k (by omega),by omega⟩,by omega,by omega⟩
        rw [AH.get_set,if_neg (by omega)]; exact hkeep k hk2 (by omega)
      · rw [AH.get_set,if_neg (by omega)]; exact (hkeep kq (by omega) (by omega)).trans c
      · rw [AH.get_set,if_pos rfl,hd]
      · simp; omega
      · simp; omega
      · omega
    · rw [AH.get_set,if_neg h1,hkeep j (by have:=hoff5.1; omega) (by omega)]
      exact hoff5.2 j hj h1 h2
  have hgw5:=hrw5.mod
  have hnames:∀hh:AH,h5.next≤hh.next→(∀k,k<h5.next→k≠k6→k≠km→k≠k4→hh.get k=h5.get k)→ResR h hh (.agg (res6 r.e r.data r.kind r.links r.size (.sl p n q g))) r:=fun hh hle hkeep=>by
    refine ⟨_,rfl,?_⟩
    have h1:=(hnv.imp (B:=fun k=>h3.next≤k∧k<h4.next) fun k hk hh=>⟨hh,hk⟩).keep hk5
    exact (OwnL.off (h:=h5) h1 hle fun k hk hk2=>hkeep k hk2 (by omega) (by omega) (by omega)).imp fun k _ hk=>by omega
  have hkm:k4≠km∧k4≠kl:=⟨by omega,by omega⟩
  have hkm':k4≠km∧k4≠kq:=⟨by omega,by omega⟩
  simp [push_cast,hal5,res6,hst5]
  refine drawS [0,1,2,3,4,6,7,8,9,5,10,11] (by kernel_rfl) (by kernel_rfl) ?_
  by_cases he:r.e=0
  case neg=>
    have he':(r.e==0)=false:=by simpa using he
    have he2:(r.e !=0)=true:=by simpa using he
    rw [if_neg he]
    obtain ⟨h6,u1,u2,u3,u4,u5⟩:=hback h5 (Nat.le_refl _) (fun _ _ _=>rfl)
    have hg6:=(u5 k6 (by omega)).trans hg5
    have hld6:=ld_res (W:=W) hg6
    have hz6:=(u5 k4 (by omega)).trans hz5
    have hst:=st_res (W:=W) (e1:=r.e) (d1:=r.data) (k1:=r.kind) (l1:=r.links) (s1:=r.size) (p:=p) (n:=n) (q:=q) (g:=g) hz6
    simp [push_cast,zx9,zy9,SgO,opA,isE,isRead,fa39_0,ld26,ji9 hg5,jd9,he',he2,fa60_0,ld58,ji9 hgw5,u1,hld6,hst,ld_resS]
    refine ⟨hnames _ (by simp; omega) fun k hk h1 h2 h3=> ?_,kq,(u2.setOther hkm' fun _ h=>h.2).imp fun _ _ h=>h.1,u3.set hk40 _,.inr (by omega)⟩
    rw [AH.get_set,if_neg h3]; exact u5 k h2
  have he':(r.e==0)=true:=by simpa using he
  rw [if_pos he]
  have hU:=hu he
  simp [push_cast,zx9,zy9,SgO,opA,isE,isRead,fa39_0,ld26,ji9 hg5,jd9,he',fa60_1,ld3,ji9 hgm5]
  refine jb9 (f:=23) (args:=[.ptr (some (.new km 0))]) (by rfl) (by rfl) (by rfl) (by simp [fn23]) (rused_ret W _ h5 km kl M' hr5 hU.sh hU.few hU.co) fun w h6 ⟨hw,hk6⟩=> ?_
  subst hw
  have hg6:=(hk6.2 k6 hn5).trans hg5
  have hgm6:=(hr5.keep hk6).mod
  have hgw6:=(hrw5.keep hk6).mod
  have hle6:=hk6.1
  refine ⟨by simp [zz9,ja9,push_cast,opA,fa39_0,ld26,ji9 hg6,jd9,fa60_1,ld3,ji9 hgm6],?_⟩
  have hz6:=(hk6.2 k4 (by omega)).trans hz5
  by_cases hbig:M'.data<usedR M'
  · rw [if_pos hbig]
    have hs6:=st_res (W:=W) (e1:=306) (d1:=[]) (k1:=0) (l1:=0) (s1:=0) (p:=none) (n:=0) (q:=0) (g:=none) hg6
    have hg7:(h6.set k6 (.cells [.int .i64 306,.str [],.int .i64 0,.int .i64 0,.int .i64 0,.sl none 0 0 none] 39)).get k6=some (.cells [.int .i64 306,.str [],.int .i64 0,.int .i64 0,.int .i64 0,.sl none 0 0 none] 39):=by simp
    obtain ⟨h8,u1,u2,u3,u4,u5⟩:=hback (h6.set k6 (.cells [.int .i64 306,.str [],.int .i64 0,.int .i64 0,.int .i64 0,.sl none 0 0 none] 39)) (by simp; omega) (fun k hk h1=>by rw [AH.get_set,if_neg h1]; exact hk6.2 k hk)
    have hz7:(h6.set k6 (.cells [.int .i64 306,.str [],.int .i64 0,.int .i64 0,.int .i64 0,.sl none 0 0 none] 39)).get k4=some (.cells res0 39):=by rw [AH.get_set,if_neg (by omega)]; exact hz6
    have hgw7:(h6.set k6 (.cells [.int .i64 306,.str [],.int .i64 0,.int .i64 0,.int .i64 0,.sl none 0 0 none] 39)).get kw=some (.cells [.sl (some (.new kq 0)) M.nodes.length M.nodes.length (some 7),.int .i64 M.data] 60):=by rw [AH.get_set,if_neg (by omega)]; exact hgw6
    generalize h6.set k6 (.cells [.int .i64 306,.str [],.int .i64 0,.int .i64 0,.int .i64 0,.sl none 0 0 none] 39)=h7 at hs6 hg7 u1 u3 u4 u5 hz7 hgw7
    have hg8:=(u5 k6 (by omega)).trans hg7
    have hld8:=ld_res (W:=W) hg8
    have hz8:=(u5 k4 (by omega)).trans hz7
    have hst:=st_res (W:=W) (e1:=306) (d1:=[]) (k1:=0) (l1:=0) (s1:=0) (p:=none) (n:=0) (q:=0) (g:=none) hz8
    simp [push_cast,zx9,zy9,SgO,opA,isE,isRead,fa60_0,fa60_1,ld3,ji9 hgm6,jd9,hbig,build_resE,resE,res6,hs6,fa39_0,ld26,ji9 hg7,ld58,ji9 hgw7,u1,hld8,hst,ld_resS]
    exact ⟨ResR.err,kq,(u2.setOther hkm' fun _ h=>h.2).imp fun _ _ h=>h.1,u3.set hk40 _,.inr (by omega)⟩
  · rw [if_neg hbig]
    have hld6:=ld_res (W:=W) hg6
    have hst:=st_res (W:=W) (e1:=r.e) (d1:=r.data) (k1:=r.kind) (l1:=r.links) (s1:=r.size) (p:=p) (n:=n) (q:=q) (g:=g) hz6
    rw [he] at hg6 hld6 hst
    simp [push_cast,zx9,zy9,SgO,opA,isE,isRead,fa60_0,fa60_1,ld3,ji9 hgm6,jd9,hbig,fa39_0,ld26,ji9 hg6,hld6,hst,ld_resS]
    refine ⟨?_,kl,((hr5.keep hk6).imp (B:=fun k=>A k∧k≠k4) fun k _ h=>⟨h.1,by omega⟩).setOther hkm (fun _ h=>h.2) |>.imp fun _ _ h=>h.1,(hoff5.trans (OffR.ofKeeps hk6)).set hk40 _,.inl rfl⟩
    have:=hnames (h6.set k4 (.cells [.int .i64 0,.str r.data,.int .i64 r.kind,.int .i64 r.links,.int .i64 r.size,.sl p n q g] 39)) (by simp; omega) fun k hk h1 h2 h3=>by rw [AH.get_set,if_neg h3]; exact hk6.2 k hk
    rw [he] at this
    exact this
structure NdU (c:Nat) (nd:Nd):Prop where
  sl:nd.slots.length≤c
  bo:BOk (nd.blocks.getD [])
  ky:((nd.blocks.getD []).map (·.1)).Nodup
def US (c:Nat) (M:MS):Prop:=M.nodes.length≤64∧∀nd∈M.nodes,NdU c nd
theorem NdU.mono {c d:Nat} {nd:Nd} (h:NdU c nd) (hd:c≤d):NdU d nd:=⟨Nat.le_trans h.sl hd,h.bo,h.ky⟩
theorem US.mono {c d:Nat} {M:MS} (h:US c M) (hd:c≤d):US d M:=⟨h.1,fun nd hn=>(h.2 nd hn).mono hd⟩
theorem US.set {c:Nat} {M:MS} (h:US c M) {i:Nat} {nd:Nd} (hn:NdU c nd):US c (M.set i nd):=by
  refine ⟨by simp only [MS.set,List.length_set]; exact h.1,fun x hx=> ?_⟩
  simp only [MS.set] at hx
  rcases List.mem_or_eq_of_mem_set hx with hx | rfl
  · exact h.2 x hx
  · exact hn
theorem US.at {c:Nat} {M:MS} (h:US c M) {i:Nat} {nd:Nd} (hi:M.nodes[i]? =some nd):NdU c nd:=h.2 nd (List.mem_of_getElem? hi)
theorem strict_len {n:Int}:∀(l:List Int) (a:Int),l.Pairwise (· < ·)→(∀x∈l,a≤x∧x<n)→a≤n→(l.length:Int)≤n - a
  | [],a,_,_,h=>by simp; omega
  | x::l,a,hp,hb,h=>by
    have h1:=hb x (by simp)
    have h2:=strict_len l (x + 1) (List.pairwise_cons.1 hp).2 (fun y hy=>⟨by have:=(List.pairwise_cons.1 hp).1 y hy; omega,(hb y (by simp [hy])).2⟩) (by omega)
    simp only [List.length_cons]; omega
theorem sort_in {b:Blk} (hb:BOk b):∀x∈sortI (b.map (·.1)),0≤x∧x<4166:=fun x hx=>by
  obtain ⟨y,hy,rfl⟩:=List.mem_map.1 ((sortI_perm _).mem_iff.1 hx)
  exact (hb y hy).2
theorem NdU.ix {c:Nat} {nd:Nd} (h:NdU c nd):(ixR nd).length≤4166:=by
  have:=strict_len (n:=4166) (ixR nd) 0 (sort_strict h.ky) (sort_in h.bo) (by omega)
  omega
theorem NdU.short {c:Nat} {nd:Nd} (h:NdU c nd) (hc:c<1000000):NdShort nd:=⟨by have:=h.ix; omega,by have:=h.sl; omega⟩
theorem NdU.cost {c:Nat} {nd:Nd} (h:NdU c nd) (hc:c≤16000):CostOk (indR nd):=by
  by_cases hk:nd.kind=2
  · have hs:=h.sl
    simp only [indR,if_pos hk]
    refine ⟨?_,fun x hx=> ?_⟩
    · rw [List.pairwise_map]
      exact List.pairwise_lt_range.imp fun {a b} hab=>by show (a:Int)<(b:Int); omega
    · obtain ⟨y,hy,rfl⟩:=List.mem_map.1 hx
      have:=List.mem_range.1 hy
      show (0:Int)≤(y:Int)∧(y:Int)<4166
      omega
  · simp only [indR,if_neg hk]
    exact ⟨sort_strict h.ky,sort_in h.bo⟩
theorem US.uok {c:Nat} {M:MS} (h:US c M) (hc:c≤16000):UOk M:=⟨fun nd hn=>(h.2 nd hn).short (by omega),h.1,fun nd hn=>(h.2 nd hn).cost hc⟩
theorem bok_nil:BOk []:=fun x hx=>by cases hx
theorem ndU_bare {k l s:Int} {b:Option Blk} (hb:b.getD []=[]) {c:Nat}:NdU c ⟨k,l,s,b,[]⟩:=⟨by simp,by rw [hb]; exact bok_nil,by rw [hb]; simp⟩
theorem Fine.us {M:MS} {t:Nat} (h:Fine M t) (hk:KeysN M):US t M:=by
  refine ⟨h.few,fun nd hn=> ?_⟩
  have ho:=h.each nd hn
  rcases ho.kind with k | k | k
  · rw [ho.free k]; exact ndU_bare rfl
  · obtain ⟨b,e,hb,hs,_⟩:=ho.file k
    exact ⟨by rw [hs]; simp,by rw [e]; exact hb,hk nd hn⟩
  · obtain ⟨e,_,hs,_⟩:=ho.dir k
    exact ⟨hs,by rw [e]; exact bok_nil,by rw [e]; simp⟩
theorem Fine.rfine {M:MS} {t:Nat} (h:Fine M t) (ht:t<10000) (hk:KeysN M):RFine M:=by
  have hu:=h.us hk
  refine ⟨⟨h.ok (by omega),fun nd hn=>(hu.2 nd hn).short (by omega),fun nd hn hkd=> ?_⟩,fun nd hn=> ?_,fun l hl i nd hf hn hkd=> ?_⟩
  · obtain ⟨e,_,hs,hz,_⟩:=(h.each nd hn).dir hkd
    exact ⟨by simp only [ixR,e]; rfl,by omega,by omega⟩
  · have ho:=h.each nd hn
    rcases ho.kind with k | k | k
    · rw [ho.free k]; decide
    · obtain ⟨_,_,_,_,e1,e2,_⟩:=ho.file k; omega
    · obtain ⟨_,e,_⟩:=ho.dir k; omega
  · have hfr:(fileR M l).2=0:=by simp only [fileR,hf,Int.toNat_natCast,hn,if_neg hkd]; simp
    obtain ⟨_,i',nd',_,_,_,_,hfi,hfd,hnd',hk1,_⟩:=h.file (by omega) hl hfr
    rw [hf] at hfd
    have hii:i=i':=by have:=congrArg Prod.fst hfd; simp at this; omega
    subst hii
    rw [hn] at hnd'; cases hnd'
    obtain ⟨b,e,hb,hs,e1,e2,e3,e4,_⟩:=(h.at hn).file hk1
    have hkn:=hk nd (List.mem_of_getElem? hn)
    rw [e] at hkn
    have:=(hu.at hn).ix
    exact ⟨hs,by omega,⟨b,e,hb,hkn⟩,by omega⟩
theorem putQ_us {c:Nat} {M:MS} (h:US c M) {d:Nat} {nm:List UInt8} {a:Int}:US (c + 1) (putQ M d nm a):=by
  unfold putQ
  split
  · exact h.mono (by omega)
  · rename_i nd hnd
    obtain ⟨s,b,k⟩:=h.at hnd
    split
    · exact (h.mono (by omega)).set ⟨by simp; omega,b,k⟩
    · exact (h.mono (by omega)).set ⟨by simp; omega,b,k⟩
theorem takeR_us {c:Nat} {M:MS} (h:US c M) {d j:Nat}:US c (takeR M d j):=by
  unfold takeR
  split
  · exact h
  · rename_i nd hnd
    obtain ⟨s,b,k⟩:=h.at hnd
    exact h.set ⟨by simpa using s,b,k⟩
theorem lessQ_us {c:Nat} {M:MS} (h:US c M) {i:Nat}:US c (lessQ M i):=by
  unfold lessQ
  split
  · exact h
  · rename_i nd hnd
    obtain ⟨s,b,k⟩:=h.at hnd
    split
    · have h1:NdU c noNode:=ndU_bare (b:=none) rfl
      have h2:NdU c {nd with links:=nd.links - 1}:=⟨s,b,k⟩
      exact (h.set h2).set h1
    · exact h.set ⟨s,b,k⟩
theorem wrF_keys {a:Nat} {d:List UInt8}:∀(n i:Nat) (b:Blk),(b.map (·.1)).Nodup→((wrF a d n i b).map (·.1)).Nodup
  | 0,i,b,h=>h
  | n + 1,i,b,h=>by
    unfold wrF
    split
    · refine wrF_keys n (i + 1) _ ?_
      unfold wrStep
      exact setB_keys h
    · exact h
theorem within_us {c:Nat} {M:MS} (h:US c M) {t:Nat} (hf:Fine M t) (ht:t<10000) (hk:KeysN M) {o:Opn} {l:List (List UInt8)} (hl:∀x∈l,x≠[]) (h3:o.kd≠6∧o.kd≠7∧o.kd≠5∧o.kd≠4→o.kd=3):US c (withinQ M o l).2:=by
  have rf:=hf.rfine ht hk
  unfold withinQ
  split
  · exact h
  split
  · exact h
  rename_i ho he
  split
  · exact h
  rename_i nd hnd
  split
  · exact h
  split
  · split<;>exact h
  split
  · exact h
  rename_i k6 k7 k2
  have ok:=hf.ok (show t<1000000 by omega)
  obtain ⟨b0,b1⟩:=findR_lt ok l 0 (by omega) (by have:=ok.some; omega)
  obtain ⟨i,hi⟩:=Int.eq_ofNat_of_zero_le b0
  have hfi:findR M l 0=((i:Int),0):=Prod.ext hi (by simpa using he)
  have hfo:=rf.fl l hl i nd hfi (by rw [hi] at hnd; simpa using hnd) k2
  obtain ⟨hs,_,⟨bl,e,hb,hky⟩,_⟩:=hfo
  have hu:=h.at hnd
  split
  · exact h
  split
  · refine h.set ⟨hu.sl,?_,?_⟩
    · rw [e]; exact trB_ok hb
    · rw [e]
      show ((trB o.n bl).map (·.1)).Nodup
      rw [trB_keys]; exact hky.filter _
  split
  · exact h
  split
  · exact h
  rename_i k5 k4 kd ks
  have hk3:o.kd=3:=h3 ⟨k6,k7,k5,k4⟩
  have hodd:0≤o.at_∧o.d.length≤1024:=by
    simp only [oddQ,hk3] at ho
    simp at ho
    omega
  refine h.set ⟨hu.sl,?_,?_⟩
  · rw [e]; exact (wrB_byte hb (by omega) hodd.2).1
  · rw [e]
    show ((wrB o.at_.toNat o.d bl).map (·.1)).Nodup
    unfold wrB
    exact wrF_keys _ _ _ hky
theorem rdo_us {M:MS} {t:Nat} (hf:Fine M t) (ht:t<10000) (hk:KeysN M) (o:Opn):US (t + 1) (rdoQ M o).2:=by
  have h:=hf.us hk
  have h1:US (t + 1) M:=h.mono (by omega)
  unfold rdoQ
  split
  · exact h1
  split
  · exact h1
  rename_i h0 he
  have hne:=splitR_ne (p:=o.p) (by simpa using he)
  split
  · split
    · exact h1
    split
    · show US (t + 1) (linkQ M _ _).2
      unfold linkQ
      split
      · split
        · exact h1
        rename_i nd hnd
        split
        · exact h1
        split
        · exact h1
        split
        · have hu:=h.at hnd
          exact (putQ_us h).set ⟨by have:=hu.sl; simp; omega,hu.bo,hu.ky⟩
        · exact h1
      · exact h1
    · show US (t + 1) (renameQ M _ _).2
      unfold renameQ
      split
      · exact h1
      split
      · split
        · exact h1
        split
        · exact h1
        split
        · split
          · exact h1
          · exact putQ_us (takeR_us h)
        · exact h1
      · exact h1
  split
  · show US (t + 1) (createQ M _ _).2
    unfold createQ
    split
    · split
      · exact h1
      · refine putQ_us (h.set ?_)
        split<;>exact ndU_bare rfl
    · exact h1
  split
  · show US (t + 1) (removeQ M _ _).2
    unfold removeQ
    split
    · exact h1
    split
    · split
      · split
        · exact h1
        split
        · exact h1
        split
        · exact h1
        · exact lessQ_us (takeR_us h1)
      · exact h1
    · exact h1
  · exact within_us h1 hf ht hk hne (fun hh=>by omega)
theorem putQ_data {M:MS} {d:Nat} {nm:List UInt8} {a:Int}:(putQ M d nm a).data=M.data:=by
  unfold putQ
  split
  · rfl
  · split<;>rfl
theorem takeR_data {M:MS} {d j:Nat}:(takeR M d j).data=M.data:=by
  unfold takeR
  split<;>rfl
theorem lessQ_data {M:MS} {i:Nat}:(lessQ M i).data=M.data:=by
  unfold lessQ
  split
  · rfl
  · split<;>rfl
theorem rdo_data {M:MS} {o:Opn}:(rdoQ M o).2.data=M.data:=by
  unfold rdoQ
  split
  · rfl
  split
  · rfl
  split
  · split
    · rfl
    split
    · show (linkQ M _ _).2.data=_
      unfold linkQ
      repeat' split
      all_goals first | rfl | exact putQ_data
    · show (renameQ M _ _).2.data=_
      unfold renameQ
      repeat' split
      all_goals first | rfl | exact putQ_data.trans takeR_data
  split
  · show (createQ M _ _).2.data=_
    unfold createQ
    repeat' split
    all_goals first | rfl | exact putQ_data
  split
  · show (removeQ M _ _).2.data=_
    unfold removeQ
    repeat' split
    all_goals first | rfl | exact lessQ_data.trans takeR_data
  · unfold withinQ
    repeat' split
    all_goals rfl
def chkE (M:MS) (q:Int×MS):Int×MS:=if q.1=0 then if q.2.data<usedR q.2 then (306,M) else q else (q.1,M)
def chk (M:MS) (q:Res×MS):Res×MS:=if q.1.e=0 then if q.2.data<usedR q.2 then (Res.err 306,M) else q else (q.1,M)
theorem chk_errM {M:MS} {q:Int×MS}:chk M (errM q)=errM (chkE M q):=by
  obtain ⟨e,N⟩:=q
  unfold chk chkE errM
  by_cases h:e=0
  · subst h
    simp only [Res.err,if_true]
    split<;>rfl
  · simp only [Res.err,h,if_false]
theorem doQ_chk {M:MS} {o:Opn}:doQ M o=chk M (rdoQ M o):=rfl
theorem chkE_bad {M N:MS} {e:Int} (h:e≠0):chkE M (e,N)=(e,M):=by simp [chkE,h]
theorem chkE_room {M N:MS} (h:Room N):chkE M (0,N)=(0,N):=by
  have:¬N.data<usedR N:=Int.not_lt.2 h
  simp [chkE,this]
theorem putQ_in {M:MS} {d:Nat} {nd:Nd} {nm:List UInt8} {a:Int} (hd:M.nodes[d]? =some nd) (h:0≤placeR nd.slots []):usedR (putQ M d nm a)=usedR M:=by
  simp only [putQ,hd,if_pos h]
  have h2:=ind_eq (nd:=nd) (nd':={nd with slots:=nd.slots.set (placeR nd.slots []).toNat ⟨nm,a⟩}) rfl rfl (by simp)
  rw [used_set hd,h2]; omega
theorem putR_eq {M:MS} (hr:Room M) {d:Nat} {nd:Nd} {nm:List UInt8} {a:Int} (hd:M.nodes[d]? =some nd):putR M d nm a=if M.data<usedR (putQ M d nm a) then (false,M) else (true,putQ M d nm a):=by
  by_cases h:0≤placeR nd.slots []
  · have h1:=putQ_in (nm:=nm) (a:=a) hd h
    rw [if_neg (by rw [h1]; exact Int.not_lt.2 hr)]
    simp only [putR,putQ,hd,if_pos h]
  · simp only [putR,putQ,hd,if_neg h]
theorem used_links {M:MS} {i:Nat} {nd:Nd} (hi:M.nodes[i]? =some nd) {n:Int}:usedR (M.set i {nd with links:=n})=usedR M:=by
  rw [used_set hi,ind_eq (nd:=nd) (nd':={nd with links:=n}) rfl rfl rfl]; omega
theorem set_comm2 {M:MS} {i d:Nat} {x y:Nd} (h:i≠d):(M.set i x).set d y=(M.set d y).set i x:=by
  simp only [MS.set]
  rw [List.set_comm _ _ h]
theorem create_eq {M:MS} {t:Nat} (hf:Fine M t) (ht:t<10000) (hr:Room M) (k:Int) (l:List (List UInt8)):chkE M (createQ M k l)=createR M k l:=by
  have ok:=hf.ok (show t<1000000 by omega)
  unfold createQ createR
  by_cases he:(parentR M l).2=0
  case neg=>rw [if_neg he,if_neg he]; exact chkE_bad he
  rw [if_pos he,if_pos he]
  obtain ⟨hl0,d,nd,hp1,hnd,hkd,_,_⟩:=parentR_ok ok he
  by_cases hfr:freeR M<0
  · rw [if_pos hfr,if_pos hfr]; exact chkE_bad (by decide)
  rw [if_neg hfr,if_neg hfr]
  obtain ⟨i,hi,hil,hx⟩:=fstI_lt hfr
  have hfi:freeR M=(i:Int):=hi
  have hni:M.nodes[i]? =some M.nodes[i]:=by simp [hil]
  simp only [hni,beq_iff_eq] at hx
  have hno:M.nodes[i]=noNode:=(hf.at hni).free hx
  have hid:i≠d:=fun e=>by subst e; rw [hni] at hnd; cases hnd; omega
  rw [hfi,hp1,Int.toNat_natCast,Int.toNat_natCast]
  have hc:ndCost (if k=2 then newDir else newFile)=0:=by
    split
    · exact cost_newDir
    · exact cost_newFile
  generalize (if k=2 then newDir else newFile)=new at hc ⊢
  have hcomm:putQ (M.set i new) d (l.getLast?.getD []) (i:Int)=(putQ M d (l.getLast?.getD []) (i:Int)).set i new:=by
    simp only [putQ,MS.set_other hid,hnd]
    split
    · exact set_comm2 hid
    · exact set_comm2 hid
  have hn2:(putQ M d (l.getLast?.getD []) (i:Int)).nodes[i]? =some noNode:=by
    rw [putQ_other (Ne.symm hid),hni,hno]
  have hu:usedR ((putQ M d (l.getLast?.getD []) (i:Int)).set i new)=usedR (putQ M d (l.getLast?.getD []) (i:Int)):=by
    rw [used_set hn2,hc,cost_noNode]; omega
  have hd:((putQ M d (l.getLast?.getD []) (i:Int)).set i new).data=M.data:=putQ_data
  rw [hcomm,putR_eq hr hnd]
  simp only [chkE,if_true,hd,hu]
  split<;>rfl
theorem file_eq {M:MS} (ok:MOk M) (l:List (List UInt8)):∃i nd,(findR M l 0).1=((i:Nat):Int)∧M.nodes[i]? =some nd∧
    fileR M l=if (findR M l 0).2=0 then if nd.kind=2 then (0,304) else findR M l 0 else (0,(findR M l 0).2):=by
  obtain ⟨b0,b1⟩:=findR_lt ok l 0 (by omega) (by have:=ok.some; omega)
  obtain ⟨i,hi⟩:=Int.eq_ofNat_of_zero_le b0
  have hin:i<M.nodes.length:=by omega
  refine ⟨i,M.nodes[i],hi,by simp [hin],?_⟩
  have hnd:M.nodes[i]? =some M.nodes[i]:=by simp [hin]
  simp only [fileR,hi,Int.toNat_natCast,hnd]
theorem link_eq {M:MS} {t:Nat} (hf:Fine M t) (ht:t<10000) (hr:Room M) (l l2:List (List UInt8)):chkE M (linkQ M l l2)=linkR M l l2:=by
  have ok:=hf.ok (show t<1000000 by omega)
  obtain ⟨i,nd,hi,hnd,hfe⟩:=file_eq ok l
  unfold linkQ linkR
  by_cases he:(findR M l 0).2=0
  case neg=>
    rw [if_neg he] at hfe
    rw [if_neg he,hfe,if_neg he]
    exact chkE_bad he
  rw [if_pos he] at hfe
  rw [if_pos he,hi,Int.toNat_natCast]
  simp only [hnd]
  by_cases hk:nd.kind=2
  · rw [if_pos hk] at hfe
    rw [if_pos hk,hfe]
    exact chkE_bad (by decide)
  rw [if_neg hk] at hfe
  have hf1:fileR M l=((i:Int),0):=by rw [hfe]; exact Prod.ext hi he
  rw [if_neg hk,hf1]
  simp only [if_true,Int.toNat_natCast,hnd]
  by_cases h100:nd.links=100
  · rw [if_pos h100,if_pos h100]; exact chkE_bad (by decide)
  rw [if_neg h100,if_neg h100]
  by_cases hp:(parentR M l2).2=0
  case neg=>rw [if_neg hp,if_neg hp]; exact chkE_bad hp
  rw [if_pos hp,if_pos hp]
  obtain ⟨hl0,d,ndd,hp1,hndd,hkd,_,_⟩:=parentR_ok ok hp
  have hid:d≠i:=fun e=>by subst e; rw [hnd] at hndd; cases hndd; exact hk hkd
  rw [hp1,Int.toNat_natCast,putR_eq hr hndd]
  have hn2:(putQ M d (l2.getLast?.getD []) (i:Int)).nodes[i]? =some nd:=by rw [putQ_other hid]; exact hnd
  have hu:=used_links (n:=nd.links + 1) hn2
  have hd:((putQ M d (l2.getLast?.getD []) (i:Int)).set i {nd with links:=nd.links + 1}).data=M.data:=putQ_data
  simp only [chkE,if_true,hd,hu]
  split
  · simp
  · simp [hn2]
theorem rename_eq {M:MS} {t:Nat} (hf:Fine M t) (ht:t<10000) (hr:Room M) {p q:List UInt8} (hp0:(splitR p).2=0) (hq0:(splitR q).2=0):chkE M (renameQ M (splitR p).1 (splitR q).1)=renameR M p q (splitR p).1 (splitR q).1:=by
  have ok:=hf.ok (show t<1000000 by omega)
  have hbe:(belowR q p).1=(decide ((splitR p).1.length<(splitR q).1.length) && decide ((splitR q).1.take (splitR p).1.length=(splitR p).1)):=by
    simp [belowR,hp0,hq0]
  have hne:=splitR_ne hp0
  generalize (splitR p).1=l at hbe hne ⊢
  generalize (splitR q).1=l2 at hbe ⊢
  unfold renameQ renameR
  by_cases hl:l=[]
  · rw [if_pos hl,if_pos hl]; exact chkE_bad (by decide)
  rw [if_neg hl,if_neg hl]
  by_cases he:(findR M l 0).2=0
  case neg=>rw [if_neg he,if_neg he]; exact chkE_bad he
  rw [if_pos he,if_pos he]
  obtain ⟨i,nd,d0,ndd0,j,x,hfi,hnd,hi0,hkk,hfd,hndd0,hkd0,hj,hxj,hxi,hxn,hxne⟩:=hf.last (by omega) hne hl he
  simp only [hfi,Int.toNat_natCast,hnd]
  by_cases hb:nd.kind=2∧l.length<l2.length∧l2.take l.length=l
  · rw [if_pos hb,if_pos ⟨by rw [hbe]; simp [hb.2.1,hb.2.2],hb.1⟩]; exact chkE_bad (by decide)
  rw [if_neg hb,if_neg (show ¬((belowR q p).1=true∧nd.kind=2) from fun hc=>hb (by rw [hbe] at hc; simp at hc; exact ⟨hc.2,hc.1⟩))]
  by_cases hp:(parentR M l2).2=0
  case neg=>rw [if_neg hp,if_neg hp]; exact chkE_bad hp
  rw [if_pos hp,if_pos hp]
  obtain ⟨hl0,d,ndd,hp1,hndd,hkd,_,_⟩:=parentR_ok ok hp
  obtain ⟨y,hy,_⟩:=take_at (d:=d0) (j:=j) hndd
  have hrt:Room (takeR M d0 j):=take_room hr
  simp only [hfd,Int.toNat_natCast,hndd0,hj,hp1]
  rw [putR_eq hrt hy]
  have hd:(putQ (takeR M d0 j) d (l2.getLast?.getD []) (i:Int)).data=(takeR M d0 j).data:=putQ_data
  simp only [chkE,if_true,hd]
  split<;>simp
theorem lessQ_room {M:MS} (hr:Room M) {i:Nat}:Room (lessQ M i):=by
  unfold lessQ
  split
  · exact hr
  · rename_i x hx
    have h1:Room (M.set i {x with links:=x.links - 1}):=room_set hr fun y hy=>by
      rw [hx] at hy; cases hy
      exact Int.le_of_eq (ind_eq rfl rfl rfl)
    split
    · exact room_zero h1 cost_noNode
    · exact h1
theorem remove_room {M:MS} (hr:Room M) {k:Int} {l:List (List UInt8)} (h:(removeQ M k l).1=0):Room (removeQ M k l).2:=by
  revert h
  unfold removeQ
  repeat' split
  all_goals first | exact fun _=>lessQ_room (take_room hr) | exact fun _=>hr
theorem removeQ_eq {M:MS} {k:Int} {l:List (List UInt8)} (hl:l≠[]) {i d0:Nat} {nd ndd0:Nd} {j:Nat} (hfi:findR M l 0=((i:Int),0)) (hnd:M.nodes[i]? =some nd) (hfd:findR M l.dropLast 0=((d0:Int),0)) (hndd0:M.nodes[d0]? =some ndd0) (hj:placeR ndd0.slots (l.getLast?.getD [])=(j:Int)):
    removeQ M k l=if k=9∧nd.kind=2 then (304,M) else if k≠9∧nd.kind≠2 then (303,M) else if k≠9∧fullB nd=true then (305,M) else (0,lessQ (takeR M d0 j) i):=by
  simp only [removeQ,if_neg hl,hfi,if_true,Int.toNat_natCast,hnd,hfd,hndd0,hj]
theorem unlink_eq {M:MS} {t:Nat} (hf:Fine M t) (ht:t<10000) (hr:Room M) {l:List (List UInt8)} (hne:∀x∈l,x≠[]):chkE M (removeQ M 9 l)=unlinkR M l:=by
  have ok:=hf.ok (show t<1000000 by omega)
  have hroom:=remove_room hr (k:=9) (l:=l)
  obtain ⟨i,nd,hi,hnd,hfe⟩:=file_eq ok l
  by_cases hl:l=[]
  · subst hl
    have hq:removeQ M 9 []=(304,M):=rfl
    have h0:findR M [] 0=(0,0):=rfl
    rw [h0] at hi hfe
    have hi0:i=0:=by simp at hi; omega
    subst hi0
    have hk:=ok.root nd hnd
    rw [if_pos rfl,if_pos hk] at hfe
    rw [hq,unlinkR,hfe]
    exact chkE_bad (by decide)
  by_cases he:(findR M l 0).2=0
  case neg=>
    rw [if_neg he] at hfe
    have hq:removeQ M 9 l=((findR M l 0).2,M):=by simp only [removeQ,if_neg hl,if_neg he]
    rw [hq,unlinkR,hfe,if_neg he]
    exact chkE_bad he
  rw [if_pos he] at hfe
  obtain ⟨i',nd',d0,ndd0,j,x,hfi,hnd',hi0,hkk,hfd,hndd0,hkd0,hj,hxj,hxi,hxn,hxne⟩:=hf.last (by omega) hne hl he
  have hii:i'=i:=by have:=congrArg Prod.fst hfi; rw [hi] at this; simp at this; omega
  subst hii
  rw [hnd] at hnd'; cases hnd'
  rw [removeQ_eq hl hfi hnd hfd hndd0 hj] at hroom ⊢
  by_cases hk:nd.kind=2
  · rw [if_pos hk] at hfe
    rw [if_pos ⟨rfl,hk⟩,unlinkR,hfe]
    exact chkE_bad (by decide)
  rw [if_neg hk] at hfe
  rw [if_neg (fun hc=>hk hc.2),if_neg (fun hc=>hc.1 rfl),if_neg (fun hc=>hc.1 rfl)] at hroom ⊢
  rw [chkE_room (hroom rfl)]
  obtain ⟨y,hy,_⟩:=take_at (d:=d0) (j:=j) hnd
  simp only [unlinkR,hfe,hfi,hfd,if_true,Int.toNat_natCast,hndd0,hj,hy,lessQ]
  split<;>rfl
theorem full_nms {nd:Nd}:fullB nd=true↔0<(nmsR nd.slots).length:=by
  unfold fullB
  rw [List.any_eq_true]
  constructor
  · rintro ⟨x,hx,hn⟩
    have hn':x.nm≠[]:=by simpa using hn
    exact List.length_pos_of_mem (List.mem_filterMap.2 ⟨x,hx,by simp [hn']⟩:x.nm∈nmsR nd.slots)
  · intro h
    refine Classical.byContradiction fun hc=> ?_
    have hall:∀x∈nd.slots,x.nm=[]:=fun x hx=>Classical.byContradiction fun hn=>hc ⟨x,hx,by simpa using hn⟩
    have:nmsR nd.slots=[]:=List.filterMap_eq_nil_iff.2 fun x hx=>by simp [hall x hx]
    rw [this] at h; simp at h
theorem rmdir_eq {M:MS} {t:Nat} (hf:Fine M t) (ht:t<10000) (hr:Room M) {l:List (List UInt8)} (hne:∀x∈l,x≠[]):chkE M (removeQ M 10 l)=rmdirR M l:=by
  have ok:=hf.ok (show t<1000000 by omega)
  have hroom:=remove_room hr (k:=10) (l:=l)
  by_cases hl:l=[]
  · subst hl
    have hq:removeQ M 10 []=(309,M):=rfl
    have hq2:rmdirR M []=(309,M):=rfl
    rw [hq,hq2]
    exact chkE_bad (by decide)
  by_cases he:(findR M l 0).2=0
  case neg=>
    have hq:removeQ M 10 l=((findR M l 0).2,M):=by simp only [removeQ,if_neg hl,if_neg he]
    rw [hq,rmdirR,if_neg hl,if_neg he]
    exact chkE_bad he
  obtain ⟨i,nd,d0,ndd0,j,x,hfi,hnd,hi0,hkk,hfd,hndd0,hkd0,hj,hxj,hxi,hxn,hxne⟩:=hf.last (by omega) hne hl he
  rw [removeQ_eq hl hfi hnd hfd hndd0 hj] at hroom ⊢
  have hq2:rmdirR M l=if nd.kind=2 then if 0<(nmsR nd.slots).length then (305,M) else (0,(takeR M d0 j).set i noNode) else (303,M):=by
    simp only [rmdirR,if_neg hl,hfi,hfd,if_true,Int.toNat_natCast,hnd,hndd0,hj]
  rw [hq2]
  rw [if_neg (fun hc=>absurd hc.1 (by decide))] at hroom ⊢
  by_cases hk:nd.kind=2
  case neg=>
    rw [if_pos ⟨by decide,hk⟩,if_neg hk]
    exact chkE_bad (by decide)
  rw [if_neg (fun hc=>hc.2 hk)] at hroom ⊢
  rw [if_pos hk]
  by_cases hfu:fullB nd=true
  · rw [if_pos ⟨by decide,hfu⟩,if_pos (full_nms.1 hfu)]
    exact chkE_bad (by decide)
  rw [if_neg (fun hc=>hfu hc.2)] at hroom ⊢
  rw [if_neg (fun hc=>hfu (full_nms.2 hc))]
  rw [chkE_room (hroom rfl)]
  obtain ⟨y,hy,_,hyl⟩:=take_at (d:=d0) (j:=j) hnd
  have hl1:=((hf.at hnd).dir hk).2.1
  have h0:y.links - 1=0:=by omega
  simp only [lessQ,hy,if_pos h0]
  simp only [MS.set,List.set_set]
theorem within_eq {M:MS} {t:Nat} (hf:Fine M t) (ht:t<10000) (hk:KeysN M) (hr:Room M) {o:Opn} {l:List (List UInt8)} (hne:∀x∈l,x≠[]):
    (o.kd=3→chk M (withinQ M o l)=errM (writeR M o.at_ o.d l))∧(o.kd=4→chk M (withinQ M o l)=errM (truncR M o.n l))∧(o.kd=5→chk M (withinQ M o l)=(readR M o.at_ o.n l,M))∧(o.kd=6→chk M (withinQ M o l)=(statR M l,M))∧(o.kd=7→chk M (withinQ M o l)=(listR M l,M)):=by
  have ok:=hf.ok (show t<1000000 by omega)
  have rf:=hf.rfine ht hk
  obtain ⟨i,nd,hi,hnd,hfe⟩:=file_eq ok l
  have hbad:∀(e:Int) (N:MS),e≠0→chk M (Res.err e,N)=(Res.err e,M):=fun e N h=>by simp [chk,Res.err,h]
  have hgood:∀r:Res,r.e=0→chk M (r,M)=(r,M):=fun r h=>by
    have:¬M.data<usedR M:=Int.not_lt.2 hr
    simp [chk,h,this]
  refine ⟨fun h3=> ?_,fun h4=> ?_,fun h5=> ?_,fun h6=> ?_,fun h7=> ?_⟩
  · unfold withinQ writeR
    have ho:oddQ o=if o.at_<0∨1024<o.d.length then 309 else 0:=by simp only [oddQ,if_pos h3]
    rw [ho]
    by_cases hodd:o.at_<0∨1024<o.d.length
    · rw [if_pos hodd,if_pos hodd,if_pos (by decide)]
      exact hbad _ _ (by decide)
    rw [if_neg hodd,if_neg hodd,if_neg (by decide)]
    by_cases he:(findR M l 0).2=0
    case neg=>
      rw [if_neg he] at hfe
      rw [if_pos he,hfe,if_neg he]
      exact hbad _ _ he
    rw [if_pos he] at hfe
    rw [if_neg (by simpa using he),hi,Int.toNat_natCast]
    simp only [hnd]
    rw [if_neg (by omega),if_neg (by omega)]
    by_cases hkd:nd.kind=2
    · rw [if_pos hkd] at hfe
      rw [if_pos hkd,hfe]
      exact hbad _ _ (by decide)
    rw [if_neg hkd] at hfe
    have hf1:fileR M l=((i:Int),0):=by rw [hfe]; exact Prod.ext hi he
    rw [if_neg hkd,if_neg (by omega),if_neg (by omega),hf1]
    simp only [if_true,Int.toNat_natCast,hnd]
    by_cases hd0:o.d=[]
    · rw [if_pos hd0,if_pos hd0]; exact hgood _ rfl
    rw [if_neg hd0,if_neg hd0]
    by_cases hbig:533248 - (o.d.length:Int)<o.at_
    · rw [if_pos hbig,if_pos hbig]; exact hbad _ _ (by decide)
    rw [if_neg hbig,if_neg hbig]
    have e1:=used_set (nd':={nd with blocks:=nd.blocks.map (wrB o.at_.toNat o.d)}) hnd
    have e2:=used_set (nd':={nd with size:=max nd.size (o.at_ + o.d.length),blocks:=nd.blocks.map (wrB o.at_.toNat o.d)}) hnd
    have e3:ndCost {nd with size:=max nd.size (o.at_ + o.d.length),blocks:=nd.blocks.map (wrB o.at_.toNat o.d)}=ndCost {nd with blocks:=nd.blocks.map (wrB o.at_.toNat o.d)}:=ind_eq rfl rfl rfl
    rw [e3, ←e1] at e2
    have hdt:(M.set i {nd with size:=max nd.size (o.at_ + o.d.length),blocks:=nd.blocks.map (wrB o.at_.toNat o.d)}).data=M.data:=rfl
    simp only [chk,Res.err,if_true,hdt,e2]
    split<;>rfl
  · unfold withinQ truncR
    have ho:oddQ o=if o.n<0 then 309 else if 533248<o.n then 307 else 0:=by simp only [oddQ,if_neg (show ¬o.kd=3 by omega),if_pos h4]
    rw [ho]
    by_cases hn0:o.n<0
    · rw [if_pos hn0,if_pos hn0,if_pos (by decide)]
      exact hbad _ _ (by decide)
    rw [if_neg hn0,if_neg hn0]
    by_cases hn1:533248<o.n
    · rw [if_pos hn1,if_pos hn1,if_pos (by decide)]
      exact hbad _ _ (by decide)
    rw [if_neg hn1,if_neg hn1,if_neg (by decide)]
    by_cases he:(findR M l 0).2=0
    case neg=>
      rw [if_neg he] at hfe
      rw [if_pos he,hfe,if_neg he]
      exact hbad _ _ he
    rw [if_pos he] at hfe
    rw [if_neg (by simpa using he),hi,Int.toNat_natCast]
    simp only [hnd]
    rw [if_neg (by omega),if_neg (by omega)]
    by_cases hkd:nd.kind=2
    · rw [if_pos hkd] at hfe
      rw [if_pos hkd,hfe]
      exact hbad _ _ (by decide)
    rw [if_neg hkd] at hfe
    have hf1:fileR M l=((i:Int),0):=by rw [hfe]; exact Prod.ext hi he
    have hroom:Room (truncR M o.n l).2:=by
      have:=do_room hf hk hr o
      have hfo:=rf.fl l hne i nd (Prod.ext hi he) hnd hkd
      obtain ⟨_,_,⟨bl,hbl,hbo,hky⟩,_⟩:=hfo
      simp only [truncR,if_neg hn0,if_neg hn1,hf1,if_true,Int.toNat_natCast,hnd]
      refine room_set hr fun x hx=> ?_
      rw [hnd] at hx; cases hx
      simp only [ndCost,indR,if_neg hkd,hbl]
      exact tr_cost hbo hky
    rw [if_neg hkd,if_neg (by omega),if_pos h4,hf1]
    simp only [if_true,Int.toNat_natCast,hnd]
    simp only [truncR,if_neg hn0,if_neg hn1,hf1,if_true,Int.toNat_natCast,hnd] at hroom
    have hnl:¬(M.set i {nd with size:=o.n,blocks:=nd.blocks.map (trB o.n)}).data<usedR (M.set i {nd with size:=o.n,blocks:=nd.blocks.map (trB o.n)}):=Int.not_lt.2 hroom
    simp only [chk,Res.err,if_true,if_neg hnl]
    rfl
  · unfold withinQ readR
    have ho:oddQ o=if o.at_<0∨o.n<0∨1024<o.n then 309 else 0:=by simp only [oddQ,if_neg (show ¬o.kd=3 by omega),if_neg (show ¬o.kd=4 by omega),if_pos h5]
    rw [ho]
    by_cases hodd:o.at_<0∨o.n<0∨1024<o.n
    · rw [if_pos hodd,if_pos hodd,if_pos (by decide)]
      exact hbad _ _ (by decide)
    rw [if_neg hodd,if_neg hodd,if_neg (by decide)]
    by_cases he:(findR M l 0).2=0
    case neg=>
      rw [if_neg he] at hfe
      rw [if_pos he,hfe,if_neg he]
      exact hbad _ _ he
    rw [if_pos he] at hfe
    rw [if_neg (by simpa using he),hi,Int.toNat_natCast]
    simp only [hnd]
    rw [if_neg (by omega),if_neg (by omega)]
    by_cases hkd:nd.kind=2
    · rw [if_pos hkd] at hfe
      rw [if_pos hkd,hfe]
      exact hbad _ _ (by decide)
    rw [if_neg hkd] at hfe
    have hf1:fileR M l=((i:Int),0):=by rw [hfe]; exact Prod.ext hi he
    rw [if_neg hkd,if_pos h5,hf1]
    simp only [if_true,Int.toNat_natCast,hnd]
    exact hgood _ rfl
  · have ho:oddQ o=0:=by simp only [oddQ,if_neg (show ¬o.kd=3 by omega),if_neg (show ¬o.kd=4 by omega),if_neg (show ¬o.kd=5 by omega)]
    unfold withinQ statR
    rw [if_neg (by simpa using ho)]
    by_cases he:(findR M l 0).2=0
    case neg=>
      rw [if_pos he,if_neg he]
      exact hbad _ _ he
    rw [if_neg (by simpa using he),if_pos he,hi,Int.toNat_natCast]
    simp only [hnd,if_pos h6]
    exact hgood _ rfl
  · have ho:oddQ o=0:=by simp only [oddQ,if_neg (show ¬o.kd=3 by omega),if_neg (show ¬o.kd=4 by omega),if_neg (show ¬o.kd=5 by omega)]
    unfold withinQ listR
    rw [if_neg (by simpa using ho)]
    by_cases he:(findR M l 0).2=0
    case neg=>
      rw [if_pos he,if_neg he]
      exact hbad _ _ he
    rw [if_neg (by simpa using he),if_pos he,hi,Int.toNat_natCast]
    simp only [hnd,if_neg (show ¬o.kd=6 by omega),if_pos h7]
    split
    · exact hgood _ rfl
    · exact hbad _ _ (by decide)
theorem doQ_doR {M:MS} {t:Nat} (hf:Fine M t) (ht:t<10000) (hk:KeysN M) (hr:Room M) (o:Opn):doQ M o=doR M o:=by
  rw [doQ_chk]
  have hbad:∀(e:Int) (N:MS),e≠0→chk M (Res.err e,N)=(Res.err e,M):=fun e N h=>by simp [chk,Res.err,h]
  unfold rdoQ doR
  by_cases hkd:o.kd<1∨11<o.kd
  · have hrow:rowR o.kd<0:=by
      unfold rowR
      rw [fstI_none fun j hj=>by simp only [beq_eq_false_iff_ne]; omega]
      decide
    rw [if_pos hkd,if_pos hrow]
    exact hbad _ _ (by decide)
  rw [if_neg hkd]
  obtain ⟨r,hr1⟩:∃r:Nat,o.kd=(r:Int) + 1:=⟨(o.kd - 1).toNat,by omega⟩
  have hr11:r<11:=by omega
  have hrow:rowR o.kd=(r:Int):=by
    unfold rowR
    exact fstI_some hr11 (by simp [hr1]) fun j hj=>by simp only [beq_eq_false_iff_ne]; omega
  rw [hrow,if_neg (show ¬((r:Int)<0) by omega),Int.toNat_natCast]
  by_cases hp:(splitR o.p).2=0
  case neg=>
    rw [if_pos hp,if_pos hp]
    exact hbad _ _ hp
  have hpn:¬((splitR o.p).2≠0):=by simpa using hp
  rw [if_neg hpn,if_neg hpn]
  have hne:=splitR_ne hp
  have hw:=within_eq hf ht hk hr (o:=o) hne
  rcases (show r=0∨r=1∨r=2∨r=3∨r=4∨r=5∨r=6∨r=7∨r=8∨r=9∨r=10 by omega) with e | e | e | e | e | e | e | e | e | e | e
  · subst e
    rw [if_neg (show ¬(o.kd=8∨o.kd=11) by omega),if_pos (show o.kd=1∨o.kd=2 by omega),if_neg (show ¬(toR 0=true∧(splitR o.t).2≠0) by simp [toR])]
    rw [chk_errM,create_eq hf ht hr]; rfl
  · subst e
    rw [if_neg (show ¬(o.kd=8∨o.kd=11) by omega),if_pos (show o.kd=1∨o.kd=2 by omega),if_neg (show ¬(toR 1=true∧(splitR o.t).2≠0) by simp [toR])]
    rw [chk_errM,create_eq hf ht hr]; rfl
  · subst e
    rw [if_neg (show ¬(o.kd=8∨o.kd=11) by omega),if_neg (show ¬(o.kd=1∨o.kd=2) by omega),if_neg (show ¬(o.kd=9∨o.kd=10) by omega),if_neg (show ¬(toR 2=true∧(splitR o.t).2≠0) by simp [toR])]
    exact hw.1 (by omega)
  · subst e
    rw [if_neg (show ¬(o.kd=8∨o.kd=11) by omega),if_neg (show ¬(o.kd=1∨o.kd=2) by omega),if_neg (show ¬(o.kd=9∨o.kd=10) by omega),if_neg (show ¬(toR 3=true∧(splitR o.t).2≠0) by simp [toR])]
    exact hw.2.1 (by omega)
  · subst e
    rw [if_neg (show ¬(o.kd=8∨o.kd=11) by omega),if_neg (show ¬(o.kd=1∨o.kd=2) by omega),if_neg (show ¬(o.kd=9∨o.kd=10) by omega),if_neg (show ¬(toR 4=true∧(splitR o.t).2≠0) by simp [toR])]
    exact hw.2.2.1 (by omega)
  · subst e
    rw [if_neg (show ¬(o.kd=8∨o.kd=11) by omega),if_neg (show ¬(o.kd=1∨o.kd=2) by omega),if_neg (show ¬(o.kd=9∨o.kd=10) by omega),if_neg (show ¬(toR 5=true∧(splitR o.t).2≠0) by simp [toR])]
    exact hw.2.2.2.1 (by omega)
  · subst e
    rw [if_neg (show ¬(o.kd=8∨o.kd=11) by omega),if_neg (show ¬(o.kd=1∨o.kd=2) by omega),if_neg (show ¬(o.kd=9∨o.kd=10) by omega),if_neg (show ¬(toR 6=true∧(splitR o.t).2≠0) by simp [toR])]
    exact hw.2.2.2.2 (by omega)
  · subst e
    rw [if_pos (show o.kd=8∨o.kd=11 by omega)]
    by_cases ht0:(splitR o.t).2=0
    case neg=>
      rw [if_pos ht0,if_pos ⟨rfl,ht0⟩]
      exact hbad _ _ ht0
    have htn:¬((splitR o.t).2≠0):=by simpa using ht0
    rw [if_neg htn,if_neg (show ¬(toR 7=true∧(splitR o.t).2≠0) from fun hc=>hc.2 ht0),if_pos (show o.kd=8 by omega),chk_errM,link_eq hf ht hr]; rfl
  · subst e
    rw [if_neg (show ¬(o.kd=8∨o.kd=11) by omega),if_neg (show ¬(o.kd=1∨o.kd=2) by omega),if_pos (show o.kd=9∨o.kd=10 by omega),if_neg (show ¬(toR 8=true∧(splitR o.t).2≠0) by simp [toR]),show o.kd=9 by omega]
    rw [chk_errM,unlink_eq hf ht hr hne]; rfl
  · subst e
    rw [if_neg (show ¬(o.kd=8∨o.kd=11) by omega),if_neg (show ¬(o.kd=1∨o.kd=2) by omega),if_pos (show o.kd=9∨o.kd=10 by omega),if_neg (show ¬(toR 9=true∧(splitR o.t).2≠0) by simp [toR]),show o.kd=10 by omega]
    rw [chk_errM,rmdir_eq hf ht hr hne]; rfl
  · subst e
    rw [if_pos (show o.kd=8∨o.kd=11 by omega)]
    by_cases ht0:(splitR o.t).2=0
    case neg=>
      rw [if_pos ht0,if_pos ⟨rfl,ht0⟩]
      exact hbad _ _ ht0
    have htn:¬((splitR o.t).2≠0):=by simpa using ht0
    rw [if_neg htn,if_neg (show ¬(toR 10=true∧(splitR o.t).2≠0) from fun hc=>hc.2 ht0),if_neg (show ¬o.kd=8 by omega),chk_errM,rename_eq hf ht hr hp ht0]; rfl
def OwnG (h0 h:AH) (v:AV) (l:List Fl):Prop:=
  Keeps h0 h∧∃k gr p ps,(p::ps).map Prod.fst=l∧k<h.next∧h.get k=some (.cells (flCs (p::ps)) 108)∧(∀q∈p::ps,IntS h q.2 q.1.blocks)∧v= .sl (some (.new k 0)) l.length l.length gr∧(gr=none∨gr=some 7∧h0.next≤k)
theorem OwnG.keeps {h0 h h':AH} {v:AV} {l:List Fl} (ho:OwnG h0 h v l) (hk:Keeps h h'):OwnG h0 h' v l:=by
  obtain ⟨a,k,gr,p,ps,b,d,e,f,g⟩:=ho
  exact ⟨a.trans hk,k,gr,p,ps,b,Nat.lt_of_lt_of_le d hk.1,(hk.2 k d).trans e,fun q hq=>(f q hq).keeps hk,g⟩
theorem OwnG.le {h00 h0 h:AH} {v:AV} {l:List Fl} (ho:OwnG h0 h v l) (hk:Keeps h00 h0):OwnG h00 h v l:=by
  obtain ⟨a,k,gr,p,ps,b,d,e,f,g,q⟩:=ho
  refine ⟨hk.trans a,k,gr,p,ps,b,d,e,f,g,?_⟩
  rcases q with q | ⟨q,r⟩
  · exact .inl q
  · exact .inr ⟨q,Nat.le_trans hk.1 r⟩
theorem build_fg {W:World} {h:AH} {f:Fl} {bv:AV} {h2:AH} (hb:IntS h2 bv f.blocks):aBuildSlice (CC W) h 46 1 [(0,.agg (flC (f,bv)))]=some (.sl (some (.new h.next 0)) 1 1 none,h.push (.cells (flC (f,bv)) 108)):=by
  rcases hb with ⟨_,rfl⟩ | ⟨k,cap,gr,_,rfl,_⟩<;>rfl
theorem own_fg {h0 h:AH} {f:Fl} {bv:AV} {k:Nat} (hk:Keeps h0 h) (hg:h.get k=some (.cells (flC (f,bv)) 108)) (hkn:k<h.next) (hb:IntS h bv f.blocks):OwnG h0 h (.sl (some (.new k 0)) 1 1 none) [f]:=
  ⟨hk,k,none,(f,bv),[],rfl,hkn,by rw [hg]; simp [flCs],fun q hq=>by rw [List.mem_singleton] at hq; subst hq; exact hb,rfl,.inl rfl⟩
theorem append_fgs {W:World} {h0 h1 h:AH} {v w:AV} {l m:List Fl} (ho:OwnG h0 h1 v l) (hw:OwnG h1 h w m) (hn:l.length + m.length<1000000000000):
    ∃v' h',aAppend (CC W) h #[46,46] v w=some (v',h')∧OwnG h0 h' v' (l ++ m):=by
  have ho2:=ho.keeps hw.1
  obtain ⟨hk0,k,gr,p,ps,e1,h2n,h3,h4,rfl,hgr⟩:=ho2
  obtain ⟨_,k2,gr2,p2,ps2,e2,g2,g3,g4,rfl,_⟩:=hw
  have hb:(CC W).bytes 108=88:=_root_.id rfl
  have hni:niOK (CC W) #[46,46]=true:=_root_.id rfl
  have hl:l.length=ps.length + 1:=by rw [←e1]; simp
  have hm:m.length=ps2.length + 1:=by rw [←e2]; simp
  have hc1:(flCs (p::ps)).length=l.length * 7:=by rw [flCs_len,hl]; rfl
  have hc2:(flCs (p2::ps2)).length=m.length * 7:=by rw [flCs_len,hm]; rfl
  have hone:=flCs_one g4
  have hl0:l.length≠0:=by omega
  have hm0:m.length≠0:=by omega
  have hnews:aNews (CC W) h 7 (.sl (some (.new k2 0)) m.length m.length gr2)=some (m.length,flCs (p2::ps2)):=by
    simp only [aNews,if_neg hm0,aCells,g3]
    rw [Nat.zero_add,hc2]
    simp only [Nat.le_refl,if_true,List.drop_zero, ←hc2,List.take_length,Option.map]
  have e3:(p::(ps ++ p2::ps2)).map Prod.fst=l ++ m:=by rw [←e1, ←e2]; simp
  have e4:flCs (p::(ps ++ p2::ps2))=flCs (p::ps) ++ flCs (p2::ps2):=by rw [←flCs_append]; rfl
  rcases hgr with rfl | ⟨rfl,h1n⟩
  · refine ⟨.sl (some (.new h.next 0)) (l.length + m.length) (l.length + m.length) (some 7),h.push (.cells (flCs (p::ps) ++ flCs (p2::ps2)) 108),?_,hk0.trans (Keeps.push _ _),h.next,some 7,p,ps ++ p2::ps2,e3,by simp,by simp [e4],fun q hq=> ?_,by simp,.inr ⟨rfl,hk0.1⟩⟩
    · have hcs:aCells (CC W) h (.new k 0) (l.length * 7)=some (flCs (p::ps)):=by
        simp only [aCells,h3]
        rw [Nat.zero_add,hc1]
        simp only [Nat.le_refl,if_true,List.drop_zero, ←hc1,List.take_length]
      generalize flCs (p2::ps2)=c2 at hnews hc2
      generalize flCs (p::ps)=c1 at hcs
      simp [aAppend,kind46,size108,zero108,hb,hni,hnews,hl0,hm0,hcs]
      rw [if_neg (by omega),if_pos (by omega)]
    · have hq':q∈(p::ps)∨q∈p2::ps2:=by simpa [or_assoc] using hq
      rcases hq' with hq' | hq'
      · exact (h4 q hq').keeps (Keeps.push _ _)
      · exact (g4 q hq').keeps (Keeps.push _ _)
  · refine ⟨.sl (some (.new h.next 0)) (l.length + m.length) (l.length + m.length) (some 7),(h.kill k).push (.cells (flCs (p::ps) ++ flCs (p2::ps2)) 108),?_,⟨?_,fun j hj=> ?_⟩,h.next,some 7,p,ps ++ p2::ps2,e3,by simp [AH.next_kill'],?_,fun q hq=> ?_,by simp,.inr ⟨rfl,hk0.1⟩⟩
    · generalize flCs (p2::ps2)=c2 at hnews hone
      generalize flCs (p::ps)=c1 at h3 hc1
      simp [aAppend,kind46,size108,zero108,hb,hni,hnews,hl0,hm0,h3,hc1,AH.next_kill']
      rw [if_neg (by omega),if_pos (by omega)]
      simpa using hone
    · simp [AH.next_kill']; have:=hk0.1; omega
    · have:=hk0.1
      rw [AH.get_push,AH.next_kill',if_neg (by omega),AH.get_kill',if_neg (by omega)]
      exact hk0.2 j hj
    · rw [AH.get_push,AH.next_kill',if_pos rfl,e4]
    · have hq':q∈(p::ps)∨q∈p2::ps2:=by simpa [or_assoc] using hq
      have hkp:Keeps (h.kill k) ((h.kill k).push (.cells (flCs (p::ps) ++ flCs (p2::ps2)) 108)):=Keeps.push _ _
      rcases hq' with hq' | hq'
      · exact ((h4 q hq').kill h3).keeps hkp
      · exact ((g4 q hq').kill h3).keeps hkp
theorem alloc_rf {W:World} {h:AH}:aAlloc (CC W) h 108=some (.ptr (some (.new h.next 0)),h.push (.cells [.str [],.int .i64 0,.int .i64 0,.int .i64 0,.int .i64 0,.sl none 0 0 none,.str []] 108)):=rfl
theorem build_rfR {W:World} {p:List UInt8} {a b c d:Int} {bv:AV} {h2:AH} {l:List Int} (hb:IntS h2 bv l):aBuild (CC W) 108 [(0,.str p),(1,.int .i64 a),(2,.int .i64 b),(3,.int .i64 c),(4,.int .i64 d),(5,bv)]=some (.agg [.str p,.int .i64 a,.int .i64 b,.int .i64 c,.int .i64 d,bv,.str []]):=by
  rcases hb with ⟨_,rfl⟩ | ⟨k,cap,gr,_,rfl,_⟩<;>rfl
theorem st_rf {W:World} {h:AH} {k:Nat} {a b:List AV} (hg:h.get k=some (.cells a 108)) (ha:a.length=7) (hb:b.length=7) (hone:b.all aOne=true):aStoreOp (CC W) h 108 (.ptr (some (.new k 0))) (.agg b)=some (h.set k (.cells b 108)):=by
  simp only [aStoreOp,aCellsOf,size108,aStore,hg]
  rw [if_pos hb,if_pos ⟨by omega,hone⟩]
  have:overlay a b 0=b:=by simp [overlay,ha,hb]
  rw [this]
theorem ld_rf {W:World} {h:AH} {k:Nat} {f:Fl} {bv:AV} (hg:h.get k=some (.cells (flC (f,bv)) 108)):aLoad (CC W) h 108 (.new k 0)=some (.agg (flC (f,bv))):=by
  unfold aLoad
  rw [ty108]
  show (aCells (CC W) h (.new k 0) 7).map AV.agg=_
  simp only [aCells,hg]
  rfl
theorem catR_snoc (l:List (List UInt8)) (s:List UInt8):catR (l ++ [s])=(catR l ++ [47]) ++ s:=by simp [catR]
theorem catR_len:∀{l:List (List UInt8)},(∀x∈l,x.length≤255)→(catR l).length≤256 * l.length
  | [],_=>by simp [catR]
  | y::r,h=>by
    have h1:=h y (by simp)
    have h2:=catR_len (l:=r) fun z hz=>h z (by simp [hz])
    have e:catR (y::r)=47::y ++ catR r:=by simp [catR]
    rw [e]; simp; omega
theorem catR_nil {l:List (List UInt8)}:catR l=[]↔l=[]:=by
  cases l with
  | nil=>simp [catR]
  | cons x r=>simp [catR]
def flP (p:List UInt8) (i:Nat) (nd:Nd) (d:List UInt8):Fl:=⟨p,i,nd.kind,nd.links,nd.size,indR nd,d⟩
theorem st_f0 {W:World} {h:AH} {k:Nat} {a1 a2 a3 a4 a5 a6:AV} {x y:List UInt8} {t:TypeId} (hg:h.get k=some (.cells [.str x,a1,a2,a3,a4,a5,a6] t)):
    aStoreOp (CC W) h 9 (.ptr (some (.new k 0))) (.str y)=some (h.set k (.cells [.str y,a1,a2,a3,a4,a5,a6] t)):=by
  simp only [aStoreOp,aCellsOf,size9,aStore,hg]
  rfl
def FileB (h:AH) (km kb:Nat) (cs:List AV) (names:List (List UInt8)) (i:Nat) (nd:Nd) (p d:List UInt8) (e':Env) (h':AH):Prop:=
  e'.length=79∧Keeps h h'∧kb<h'.next∧h'.get kb=some (.cells cs 100)∧∃kf bv,h.next≤kf∧kf≠kb∧kf<h'.next∧h'.get kf=some (.cells (flC (flP p i nd d,bv)) 108)∧IntS h' bv (indR nd)∧
    (e'.getD 0 .undef= .ptr (some (.new km 0))∧e'.getD 2 .undef= .str (catR names)∧e'.getD 7 .undef= .ptr (some (.new kb 0))∧e'.getD 8 .undef= .ptr (some (.new kf 0)))
def DatJ (h:AH) (km kb kf:Nat) (cs:List AV) (dv bv:AV) (names:List (List UInt8)) (i:Nat) (nd:Nd) (p:List UInt8) (m:Nat) (e':Env) (h':AH):Prop:=
  e'.length=79∧Keeps h h'∧kb<h'.next∧h'.get kb=some (.cells cs 100)∧kf<h'.next∧IntS h' bv (indR nd)∧∃j,j + m=(ixR nd).length∧h'.get kf=some (.cells (flC (flP p i nd (datR nd.blocks ((ixR nd).take j)),bv)) 108)∧
    (e'.getD 0 .undef= .ptr (some (.new km 0))∧e'.getD 2 .undef= .str (catR names)∧e'.getD 7 .undef= .ptr (some (.new kb 0))∧e'.getD 8 .undef= .ptr (some (.new kf 0))∧dv=e'.getD 40 .undef∧e'.getD 41 .undef= .int .i64 (ixR nd).length∧e'.getD 42 .undef= .int .i64 j)
def TreeJ (M:MS) (n:Nat) (h5:AH) (km kb:Nat) (sv:AV) (names:List (List UInt8)) (i:Nat) (nd:Nd) (S:List (List UInt8)) (m:Nat) (e':Env) (h':AH):Prop:=
  e'.length=79∧∃j,j + m=S.length∧OwnG h5 h' (e'.getD 11 .undef) (flR names i nd::(S.take j).flatMap fun s=>treeR M n (names ++ [s]) (childR nd s))∧
    (e'.getD 0 .undef= .ptr (some (.new km 0))∧e'.getD 2 .undef= .str (catR names)∧e'.getD 7 .undef= .ptr (some (.new kb 0))∧sv=e'.getD 55 .undef∧e'.getD 56 .undef= .int .i64 S.length∧e'.getD 57 .undef= .int .i64 j)
abbrev rf0:List AV:=[.str [],.int .i64 0,.int .i64 0,.int .i64 0,.int .i64 0,.sl none 0 0 none,.str []]
set_option maxRecDepth 100000 in
set_option maxHeartbeats 32000000 in
theorem rbelow_tree (W:World) (A:Nat→Prop) (km kl:Nat) (M:MS) (ok:MOk M) (hsh:ShortR M) (h128:∀nd∈M.nodes,∀x∈nd.blocks.getD [],x.2.length=128) (hnm:∀nd∈M.nodes,∀x∈nd.slots,x.nm.length≤255):
    ∀(n:Nat) (h:AH) (i:Nat) (names:List (List UInt8)),RIs A h km kl M→Deep M n i→(treeR M n names i).length<1000000000000→(∀x∈names,x.length≤255)→names.length + n≤1000→
    RetQ (CC W) 56 [.ptr (some (.new km 0)),.int .i64 i,.str (catR names)] h (fun w h'=>OwnG h h' w (treeR M n names i)):=by
  intro n
  induction n with
  | zero=>intro h i names _ hd; exact hd.elim
  | succ n ih=>
    intro h i names hr hdd hlen hns hdp
    obtain ⟨nd,hnd,hdeep⟩:=hdd
    refine jj9 (cc_ok W) (fn56 W) (by simp only [Tryz.f56]; rfl) rfl rfl ?_
    have hlt:i<M.nodes.length:=(List.getElem?_eq_some_iff.1 hnd).1
    have hgm:=hr.mod
    have hshort:=hsh nd (List.mem_of_getElem? hnd)
    have hcl:=catR_len hns
    obtain ⟨cs,hnc,hldn,_⟩:=hr.node (W:=W) hnd
    obtain ⟨hp0,h1,hal1,hst1,hk1,hlt1,hg1⟩:=nd_box (W:=W) h hnc.len hnc.ones
    obtain ⟨kb,hkbe⟩:∃kb,kb=h.next:=⟨_,rfl⟩
    rw [←hkbe] at hal1 hst1 hlt1 hg1
    have hnc1:=hnc.keep hk1
    obtain ⟨iv,dv,nv,sv,rfl,hiv,hdv,hnv,hsv⟩:=_root_.id hnc
    have hldb:=ld_rn (W:=W) hg1
    simp [push_cast,fa60_0,ld58,ji9 hgm,jd9,idx_rn hlt,hldn,hal1,hst1]
    refine wc_cut (FileB h km kb [.int .i64 nd.kind,.int .i64 nd.links,.int .i64 nd.size,iv,dv,nv,sv] names i nd (catR names) []) ?_ ?_
    · refine drawSn [[0,1,2,3,4,5,6,7,8,9,10,11,12],[0,1,2,3,4,5,6,7,8,11,9,10,12]] (by kernel_rfl) (by kernel_rfl) ?_
      intro L hL
      simp only [List.mem_cons,List.not_mem_nil,or_false] at hL
      rcases hL with rfl | rfl
      · simp [push_cast,zx9,zy9,SgO,opA,isE,isRead,fa100_0,fa100_1,fa100_2,ld3,ji9 hg1,jd9,hldb]
        refine jb9 (f:=58) (args:=[.agg [.int .i64 nd.kind,.int .i64 nd.links,.int .i64 nd.size,iv,dv,nv,sv]]) (by rfl) (by rfl) (by rfl) (by simp [fn58]) (rind_ret W _ h1 _ nd hnc1 hshort) ?_
        rintro bv hI ⟨hkI,hbvo⟩
        have hbv:=hbvo.intS
        have hgI:=(hkI.2 kb hlt1).trans hg1
        have hldI:=ld_rn (W:=W) hgI
        refine ⟨?_,?_⟩
        · simp [zz9,ja9,push_cast,opA,fa100_0,fa100_1,fa100_2,ld3,ji9 hgI,jd9,hldI]
        simp [push_cast,zx9,zy9,SgO,opA,isE,isRead,build_rfR hbv]
        have hkP:=Keeps.push hI (.cells rf0 108)
        have hgP:(hI.push (.cells rf0 108)).get hI.next=some (.cells rf0 108):=by simp
        have hnP:hI.next<(hI.push (.cells rf0 108)).next:=by simp
        refine jc9 (v:= .ptr (some (.new hI.next 0))) (h':=hI.push (.cells rf0 108)) (by rfl) (by rfl) ?_
        generalize hI.push (.cells rf0 108)=hP at hkP hgP hnP ⊢
        obtain ⟨kf,hkf⟩:∃kf,kf=hI.next:=⟨_,rfl⟩
        rw [←hkf] at hgP hnP ⊢
        have hkbI:kb<hI.next:=Nat.lt_of_lt_of_le hlt1 hkI.1
        have hgbP:=(hkP.2 kb hkbI).trans hgI
        have hldP:=ld_rn (W:=W) hgbP
        refine ⟨?_,?_⟩
        · simp [zz9,ja9,push_cast,opA,fa100_0,fa100_1,fa100_2,ld3,ji9 hgbP,jd9,hldP]
        simp [push_cast,zx9,zy9,SgO,opA,isE,isRead]
        have hst:=st_rf (W:=W) (h:=hP) (b:=flC (flP (catR names) i nd [],bv)) hgP (by rfl) (by rfl) (flC_one (h:=hP) (f:=flP (catR names) i nd []) (hbv.keeps hkP))
        refine jc9 (v:= .undef) (h':=hP.set kf (.cells (flC (flP (catR names) i nd [],bv)) 108)) (by rfl) (by simp [push_cast]; exact hst) ⟨?_,?_⟩
        · repeat refine zz9 ▸ ⟨fun hc=>absurd (hc.symm.trans (show _=true by kernel_rfl)) (by decide),?_⟩
          exact ja9 ▸ trivial
        simp [push_cast,zy9,thenQ]
        have hkIP:=(hk1.trans hkI).trans hkP
        have hle:=hk1.1
        have hkne:kf≠kb:=by omega
        exact ⟨by simp,keeps_setN hkIP (by have:=hkI.1; omega),by have:=hkP.1; simp; omega,by simp [Ne.symm hkne]; exact hgbP,kf,bv,by have:=hkI.1; omega,hkne,by simp; exact hnP,by simp,(hbv.keeps hkP).setF hgP,by simp⟩
      · simp [push_cast,zx9,zy9,SgO,opA,isE,isRead,fa100_0,fa100_1,fa100_2,ld3,ji9 hg1,jd9,hldb]
        have hkP:=Keeps.push h1 (.cells rf0 108)
        have hgP:(h1.push (.cells rf0 108)).get h1.next=some (.cells rf0 108):=by simp
        have hnP:h1.next<(h1.push (.cells rf0 108)).next:=by simp
        refine jc9 (v:= .ptr (some (.new h1.next 0))) (h':=h1.push (.cells rf0 108)) (by rfl) (by rfl) ?_
        generalize h1.push (.cells rf0 108)=hP at hkP hgP hnP ⊢
        obtain ⟨kf,hkf⟩:∃kf,kf=h1.next:=⟨_,rfl⟩
        rw [←hkf] at hgP hnP ⊢
        have hgbP:=(hkP.2 kb hlt1).trans hg1
        have hldP:=ld_rn (W:=W) hgbP
        refine ⟨?_,?_⟩
        · simp [zz9,ja9,push_cast,opA,fa100_0,fa100_1,fa100_2,ld3,ji9 hgbP,jd9,hldP]
        simp [push_cast,zx9,zy9,SgO,opA,isE,isRead]
        refine jb9 (f:=58) (args:=[.agg [.int .i64 nd.kind,.int .i64 nd.links,.int .i64 nd.size,iv,dv,nv,sv]]) (by rfl) (by rfl) (by rfl) (by simp [fn58]) (rind_ret W _ hP _ nd (hnc1.keep hkP) hshort) ?_
        rintro bv hI ⟨hkI,hbvo⟩
        have hbv:=hbvo.intS
        have hkbP:kb<hP.next:=Nat.lt_of_lt_of_le hlt1 hkP.1
        have hgI:=(hkI.2 kb hkbP).trans hgbP
        have hldI:=ld_rn (W:=W) hgI
        refine ⟨?_,?_⟩
        · simp [zz9,ja9,push_cast,opA,fa100_0,fa100_1,fa100_2,ld3,ji9 hgI,jd9,hldI]
        simp [push_cast,zx9,zy9,SgO,opA,isE,isRead,build_rfR hbv]
        have hgfI:=(hkI.2 kf hnP).trans hgP
        have hst:=st_rf (W:=W) (h:=hI) (b:=flC (flP (catR names) i nd [],bv)) hgfI (by rfl) (by rfl) (flC_one (h:=hI) (f:=flP (catR names) i nd []) hbv)
        refine jc9 (v:= .undef) (h':=hI.set kf (.cells (flC (flP (catR names) i nd [],bv)) 108)) (by rfl) (by simp [push_cast]; exact hst) ⟨?_,?_⟩
        · repeat refine zz9 ▸ ⟨fun hc=>absurd (hc.symm.trans (show _=true by kernel_rfl)) (by decide),?_⟩
          exact ja9 ▸ trivial
        simp [push_cast,zy9,thenQ]
        have hkIP:=(hk1.trans hkP).trans hkI
        have hle:=hk1.1
        have hkne:kf≠kb:=by omega
        exact ⟨by simp,keeps_setN hkIP (by omega),by have:=hkI.1; simp; omega,by simp [Ne.symm hkne]; exact hgI,kf,bv,by omega,hkne,by have:=hkI.1; simp; omega,by simp,hbv.setF hgfI,by simp⟩
    · rintro e2 h2 ⟨hlen2,hk2,hkb2,hgb2,kf,bv,hn1,hfb,hn2,hgf,hbv,hh2⟩
      obtain ⟨a0,a1,a2,a3,a4,a5,a6,a7,a8,a9,rS0,rfl,hS0⟩:=un10 hlen2
      obtain ⟨a10,a11,a12,a13,a14,a15,a16,a17,a18,a19,rS10,rfl,hS10⟩:=un10 hS0
      obtain ⟨a20,a21,a22,a23,a24,a25,a26,a27,a28,a29,rS20,rfl,hS20⟩:=un10 hS10
      obtain ⟨a30,a31,a32,a33,a34,a35,a36,a37,a38,a39,rS30,rfl,hS30⟩:=un10 hS20
      obtain ⟨a40,a41,a42,a43,a44,a45,a46,a47,a48,a49,rS40,rfl,hS40⟩:=un10 hS30
      obtain ⟨a50,a51,a52,a53,a54,a55,a56,a57,a58,a59,rS50,rfl,hS50⟩:=un10 hS40
      obtain ⟨a60,a61,a62,a63,a64,a65,a66,a67,a68,a69,rS60,rfl,hS60⟩:=un10 hS50
      obtain ⟨a70,rS70,rfl,hS70⟩:=un1 hS60
      obtain ⟨a71,rS71,rfl,hS71⟩:=un1 hS70
      obtain ⟨a72,rS72,rfl,hS72⟩:=un1 hS71
      obtain ⟨a73,rS73,rfl,hS73⟩:=un1 hS72
      obtain ⟨a74,rS74,rfl,hS74⟩:=un1 hS73
      obtain ⟨a75,rS75,rfl,hS75⟩:=un1 hS74
      obtain ⟨a76,rS76,rfl,hS76⟩:=un1 hS75
      obtain ⟨a77,rS77,rfl,hS77⟩:=un1 hS76
      obtain ⟨a78,rS78,rfl,hS78⟩:=un1 hS77
      obtain rfl:=un0 hS78
      clear hlen2 hS0 hS10 hS20 hS30 hS40 hS50 hS60 hS70 hS71 hS72 hS73 hS74 hS75 hS76 hS77 hS78
      simp at hh2
      obtain ⟨rfl,rfl,rfl,rfl⟩:=hh2
      simp [qa9,qb9,qc9,qd9,qe9,qf9,qg9,qh9,qi9,qk9,ql9,qm9,qn9,qo9,qp9,qq9,qr9,qs9,qt9,qu9,qv9,qw9,qx9,ev,qy9,qz9,za9,zb9,zc9,zd9,ze9,zf9,zg9,zh9,zi9,zj9,zk9,zl9,zm9,zn9,zo9,zp9,zq9,zr9,zs9,zt9,zu9,zv9,zw9,aStr]
      refine wc_cut (FileB h km kb [.int .i64 nd.kind,.int .i64 nd.links,.int .i64 nd.size,iv,dv,nv,sv] names i nd (47::Lib.join names [47]) []) ?_ ?_
      · by_cases hnn:names=[]
        · subst hnn
          have hc0:catR []=[]:=rfl
          have hj0:(47::Lib.join [] [47]:List UInt8)=[47]:=by simp [Lib.join_nil]
          rw [hj0]
          rw [hc0] at hgf
          have hgf':=hgf
          simp only [flC,flP] at hgf'
          have hst:=st_f0 (W:=W) (y:=[47]) hgf'
          simp [push_cast,hc0,fa108_0,hst,thenQ]
          exact ⟨by simp,keeps_setN hk2 hn1,by simpa using hkb2,by simp [Ne.symm hfb]; exact hgb2,kf,bv,hn1,hfb,by simpa using hn2,by simp [flC,flP],hbv.setF hgf',by simp [hc0]⟩
        · have hcn:(catR names).isEmpty=false:=by rw [List.isEmpty_eq_false_iff]; exact fun h=>hnn (catR_nil.1 h)
          rw [←join_cat names hnn] at hgf
          simp [push_cast,hcn,thenQ]
          exact ⟨by simp,hk2,hkb2,hgb2,kf,bv,hn1,hfb,hn2,hgf,hbv,by simp⟩
      · rintro e2 h2 ⟨hlen2,hk2,hkb2,hgb2,kf,bv,hn1,hfb,hn2,hgf,hbv,hh2⟩
        obtain ⟨a0,a1,a2,a3,a4,a5,a6,a7,a8,a9,rS0,rfl,hS0⟩:=un10 hlen2
        obtain ⟨a10,a11,a12,a13,a14,a15,a16,a17,a18,a19,rS10,rfl,hS10⟩:=un10 hS0
        obtain ⟨a20,a21,a22,a23,a24,a25,a26,a27,a28,a29,rS20,rfl,hS20⟩:=un10 hS10
        obtain ⟨a30,a31,a32,a33,a34,a35,a36,a37,a38,a39,rS30,rfl,hS30⟩:=un10 hS20
        obtain ⟨a40,a41,a42,a43,a44,a45,a46,a47,a48,a49,rS40,rfl,hS40⟩:=un10 hS30
        obtain ⟨a50,a51,a52,a53,a54,a55,a56,a57,a58,a59,rS50,rfl,hS50⟩:=un10 hS40
        obtain ⟨a60,a61,a62,a63,a64,a65,a66,a67,a68,a69,rS60,rfl,hS60⟩:=un10 hS50
        obtain ⟨a70,rS70,rfl,hS70⟩:=un1 hS60
        obtain ⟨a71,rS71,rfl,hS71⟩:=un1 hS70
        obtain ⟨a72,rS72,rfl,hS72⟩:=un1 hS71
        obtain ⟨a73,rS73,rfl,hS73⟩:=un1 hS72
        obtain ⟨a74,rS74,rfl,hS74⟩:=un1 hS73
        obtain ⟨a75,rS75,rfl,hS75⟩:=un1 hS74
        obtain ⟨a76,rS76,rfl,hS76⟩:=un1 hS75
        obtain ⟨a77,rS77,rfl,hS77⟩:=un1 hS76
        obtain ⟨a78,rS78,rfl,hS78⟩:=un1 hS77
        obtain rfl:=un0 hS78
        clear hlen2 hS0 hS10 hS20 hS30 hS40 hS50 hS60 hS70 hS71 hS72 hS73 hS74 hS75 hS76 hS77 hS78
        simp at hh2
        obtain ⟨rfl,rfl,rfl,rfl⟩:=hh2
        generalize hpth:(47::Lib.join names [47]:List UInt8)=pth at hgf ⊢
        simp [qa9,qb9,qc9,qd9,qe9,qf9,qg9,qh9,qi9,qk9,ql9,qm9,qn9,qo9,qp9,qq9,qr9,qs9,qt9,qu9,qv9,qw9,qx9,ev,qy9,qz9,za9,zb9,zc9,zd9,ze9,zf9,zg9,zh9,zi9,zj9,zk9,zl9,zm9,zn9,zo9,zp9,zq9,zr9,zs9,zt9,zu9,zv9,zw9,fa100_0,ld3,ji9 hgb2,jd9]
        refine wc_cut (FileB h km kb [.int .i64 nd.kind,.int .i64 nd.links,.int .i64 nd.size,iv,dv,nv,sv] names i nd pth (if nd.kind=1 then datR nd.blocks (indR nd) else [])) ?_ ?_
        · by_cases hkd:nd.kind=1
          case neg=>
            have hkd':(nd.kind==1)=false:=by simpa using hkd
            rw [if_neg hkd]
            simp [push_cast,hkd',thenQ]
            exact ⟨by simp,hk2,hkb2,hgb2,kf,bv,hn1,hfb,hn2,hgf,hbv,by simp⟩
          have hkd':(nd.kind==1)=true:=by simpa using hkd
          have hind:indR nd=ixR nd:=by simp only [indR,if_neg (show ¬nd.kind=2 by omega)]; rfl
          rw [if_pos hkd]
          have hdln:∀hh,aLen (CC W) hh 37 dv=some (.int .i64 (ixR nd).length):=fun hh=>by
            have:=hdv.len (W:=W) (T:=37) (kind37 W) (h2:=hh)
            rw [this]; simp [dtR]
          have hlx:=hshort.1
          simp [push_cast,hkd',fa100_4,ld37,ji9 hgb2,jd9,hdln]
          refine loopN (cc_ok W) (DatJ h km kb kf [.int .i64 nd.kind,.int .i64 nd.links,.int .i64 nd.size,iv,dv,nv,sv] dv bv names i nd pth) (ixR nd).length ⟨by simp,hk2,hkb2,hgb2,hn2,hbv,0,by simp,by simp [datR]; exact hgf,by simp⟩ ?_
          rintro m e3 h3 ⟨hlen3,hk3,hkb3,hgb3,hn3,hbv3,j,hjm,hg3,hh3⟩
          obtain ⟨a0,a1,a2,a3,a4,a5,a6,a7,a8,a9,rS0,rfl,hS0⟩:=un10 hlen3
          obtain ⟨a10,a11,a12,a13,a14,a15,a16,a17,a18,a19,rS10,rfl,hS10⟩:=un10 hS0
          obtain ⟨a20,a21,a22,a23,a24,a25,a26,a27,a28,a29,rS20,rfl,hS20⟩:=un10 hS10
          obtain ⟨a30,a31,a32,a33,a34,a35,a36,a37,a38,a39,rS30,rfl,hS30⟩:=un10 hS20
          obtain ⟨a40,a41,a42,a43,a44,a45,a46,a47,a48,a49,rS40,rfl,hS40⟩:=un10 hS30
          obtain ⟨a50,a51,a52,a53,a54,a55,a56,a57,a58,a59,rS50,rfl,hS50⟩:=un10 hS40
          obtain ⟨a60,a61,a62,a63,a64,a65,a66,a67,a68,a69,rS60,rfl,hS60⟩:=un10 hS50
          obtain ⟨a70,rS70,rfl,hS70⟩:=un1 hS60
          obtain ⟨a71,rS71,rfl,hS71⟩:=un1 hS70
          obtain ⟨a72,rS72,rfl,hS72⟩:=un1 hS71
          obtain ⟨a73,rS73,rfl,hS73⟩:=un1 hS72
          obtain ⟨a74,rS74,rfl,hS74⟩:=un1 hS73
          obtain ⟨a75,rS75,rfl,hS75⟩:=un1 hS74
          obtain ⟨a76,rS76,rfl,hS76⟩:=un1 hS75
          obtain ⟨a77,rS77,rfl,hS77⟩:=un1 hS76
          obtain ⟨a78,rS78,rfl,hS78⟩:=un1 hS77
          obtain rfl:=un0 hS78
          clear hlen3 hS0 hS10 hS20 hS30 hS40 hS50 hS60 hS70 hS71 hS72 hS73 hS74 hS75 hS76 hS77 hS78
          simp at hh3
          obtain ⟨rfl,rfl,rfl,rfl,hv40,rfl,rfl⟩:=hh3
          subst hv40
          by_cases hjl:j<(ixR nd).length
          · have hjl':(j:Int)<((ixR nd).length:Int):=by omega
            have wj:IntKind.i64.wrap ((j:Int) + 1)=(j:Int) + 1:=wrap64 (by omega) (by omega)
            obtain ⟨x,hx⟩:∃x,(ixR nd)[j]? =some x:=⟨(ixR nd)[j],by simp [hjl]⟩
            have htk:(ixR nd).take (j + 1)=(ixR nd).take j ++ [x]:=by rw [List.take_add_one,hx]; rfl
            obtain ⟨kd,_,_,hix,hld⟩:=(hdv.keep hk3).at (W:=W) (T:=37) (kind37 W) (size9 W) (i:=j) (x:=(blkAt nd.blocks x).getD []) (by simp [dtR,hx])
            have h128':=h128 nd (List.mem_of_getElem? hnd)
            have d1:=datR_len h128' ((ixR nd).take j)
            have d2:=datR_len h128' ((ixR nd).take (j + 1))
            rw [htk,datR_snoc] at d2
            have hadd2:aStr .add (datR nd.blocks ((ixR nd).take j)) ((blkAt nd.blocks x).getD [])=some (.str (datR nd.blocks ((ixR nd).take j) ++ (blkAt nd.blocks x).getD [])):=text_add (by simp at d2; omega)
            have hg3':=hg3
            simp only [flC,flP] at hg3'
            have hst:=st_f6 (W:=W) (y:=datR nd.blocks ((ixR nd).take j) ++ (blkAt nd.blocks x).getD []) hg3'
            simp [push_cast,hjl',hix,ld9,hld,fa108_6,ji9 hg3',jd9,hadd2,hst,wj]
            exact ⟨m - 1,by omega,by simp,keeps_setN hk3 hn1,by simpa using hkb3,by simp [Ne.symm hfb]; exact hgb3,by simpa using hn3,hbv3.setF hg3',j + 1,by omega,by simp [htk,datR_snoc,flC,flP],by simp⟩
          · have hjl':¬(j:Int)<((ixR nd).length:Int):=by omega
            have htk:(ixR nd).take j=ixR nd:=List.take_of_length_le (by omega)
            rw [htk] at hg3
            simp [push_cast,hjl',thenQ]
            exact ⟨by simp,hk3,hkb3,hgb3,kf,bv,hn1,hfb,hn3,by rw [hind]; exact hg3,hbv3,by simp⟩
        · rintro e3 h3 ⟨hlen3,hk3,hkb3,hgb3,kf3,bv3,hn3,hfb3,hn4,hg3,hbv3,hh3⟩
          obtain ⟨a0,a1,a2,a3,a4,a5,a6,a7,a8,a9,rS0,rfl,hS0⟩:=un10 hlen3
          obtain ⟨a10,a11,a12,a13,a14,a15,a16,a17,a18,a19,rS10,rfl,hS10⟩:=un10 hS0
          obtain ⟨a20,a21,a22,a23,a24,a25,a26,a27,a28,a29,rS20,rfl,hS20⟩:=un10 hS10
          obtain ⟨a30,a31,a32,a33,a34,a35,a36,a37,a38,a39,rS30,rfl,hS30⟩:=un10 hS20
          obtain ⟨a40,a41,a42,a43,a44,a45,a46,a47,a48,a49,rS40,rfl,hS40⟩:=un10 hS30
          obtain ⟨a50,a51,a52,a53,a54,a55,a56,a57,a58,a59,rS50,rfl,hS50⟩:=un10 hS40
          obtain ⟨a60,a61,a62,a63,a64,a65,a66,a67,a68,a69,rS60,rfl,hS60⟩:=un10 hS50
          obtain ⟨a70,rS70,rfl,hS70⟩:=un1 hS60
          obtain ⟨a71,rS71,rfl,hS71⟩:=un1 hS70
          obtain ⟨a72,rS72,rfl,hS72⟩:=un1 hS71
          obtain ⟨a73,rS73,rfl,hS73⟩:=un1 hS72
          obtain ⟨a74,rS74,rfl,hS74⟩:=un1 hS73
          obtain ⟨a75,rS75,rfl,hS75⟩:=un1 hS74
          obtain ⟨a76,rS76,rfl,hS76⟩:=un1 hS75
          obtain ⟨a77,rS77,rfl,hS77⟩:=un1 hS76
          obtain ⟨a78,rS78,rfl,hS78⟩:=un1 hS77
          obtain rfl:=un0 hS78
          clear hlen3 hS0 hS10 hS20 hS30 hS40 hS50 hS60 hS70 hS71 hS72 hS73 hS74 hS75 hS76 hS77 hS78
          simp at hh3
          obtain ⟨rfl,rfl,rfl,rfl⟩:=hh3
          have hfl:flP pth i nd (if nd.kind=1 then datR nd.blocks (indR nd) else [])=flR names i nd:=by rw [←hpth]; rfl
          rw [hfl] at hg3
          have hld3:=ld_rf (W:=W) hg3
          have hldb3:=ld_rn (W:=W) hgb3
          have hbs:=build_fg (W:=W) (h:=h3) (f:=flR names i nd) hbv3
          have hkP:=Keeps.push h3 (.cells (flC (flR names i nd,bv3)) 108)
          have hgP:(h3.push (.cells (flC (flR names i nd,bv3)) 108)).get h3.next=some (.cells (flC (flR names i nd,bv3)) 108):=by simp
          have hnP:h3.next<(h3.push (.cells (flC (flR names i nd,bv3)) 108)).next:=by simp
          generalize h3.push (.cells (flC (flR names i nd,bv3)) 108)=h4 at hkP hgP hnP hbs
          obtain ⟨k4,hk4e⟩:∃k4,k4=h3.next:=⟨_,rfl⟩
          rw [←hk4e] at hgP hnP hbs
          have hk4:=hk3.trans hkP
          have hgb4:=(hkP.2 kb hkb3).trans hgb3
          have hldb4:=ld_rn (W:=W) hgb4
          simp [push_cast,hld3,hbs,hldb4]
          refine jg9 (by simp [fn99]) (rsorted_ret W _ h4 _ nd (hnc.keep hk4) hshort) fun sv5 h5 hk5 hos5=> ?_
          have hoF:OwnG h5 h5 (.sl (some (.new k4 0)) 1 1 none) [flR names i nd]:=own_fg (Keeps.refl h5) ((hk5.2 k4 hnP).trans hgP) (Nat.lt_of_lt_of_le hnP hk5.1) ((hbv3.keeps hkP).keeps hk5)
          have hkh5:=hk4.trans hk5
          have hkb5:kb<h5.next:=Nat.lt_of_lt_of_le hkb3 (hkP.trans hk5).1
          have hgb5:=((hkP.trans hk5).2 kb hkb3).trans hgb3
          clear hgP hnP
          have hmem:∀s∈sortT (nmsR nd.slots),s∈nmsR nd.slots:=fun s hs=>(List.mergeSort_perm _ _).mem_iff.1 hs
          have hS:(sortT (nmsR nd.slots)).length<1000000000:=by
            rw [show (sortT (nmsR nd.slots)).length=(nmsR nd.slots).length from (List.mergeSort_perm _ _).length_eq]
            have:=nmsR_len nd.slots
            have:=hshort.2
            omega
          have htree:treeR M (n + 1) names i=flR names i nd::(sortT (nmsR nd.slots)).flatMap fun s=>treeR M n (names ++ [s]) (childR nd s):=by simp only [treeR,hnd]
          rw [htree] at hlen ⊢
          generalize sortT (nmsR nd.slots)=S at hos5 hmem hS hlen ⊢
          have hsln:=hos5.len (W:=W) (T:=37) (kind37 W) (h2:=h5)
          simp [push_cast,hsln]
          refine loopN (cc_ok W) (TreeJ M n h5 km kb sv5 names i nd S) S.length ⟨by simp,0,by simp,by simpa using hoF,by simp⟩ ?_
          rintro m e4 h6 ⟨hlen4,j,hjm,hoj,hh4⟩
          obtain ⟨a0,a1,a2,a3,a4,a5,a6,a7,a8,a9,rS0,rfl,hS0⟩:=un10 hlen4
          obtain ⟨a10,a11,a12,a13,a14,a15,a16,a17,a18,a19,rS10,rfl,hS10⟩:=un10 hS0
          obtain ⟨a20,a21,a22,a23,a24,a25,a26,a27,a28,a29,rS20,rfl,hS20⟩:=un10 hS10
          obtain ⟨a30,a31,a32,a33,a34,a35,a36,a37,a38,a39,rS30,rfl,hS30⟩:=un10 hS20
          obtain ⟨a40,a41,a42,a43,a44,a45,a46,a47,a48,a49,rS40,rfl,hS40⟩:=un10 hS30
          obtain ⟨a50,a51,a52,a53,a54,a55,a56,a57,a58,a59,rS50,rfl,hS50⟩:=un10 hS40
          obtain ⟨a60,a61,a62,a63,a64,a65,a66,a67,a68,a69,rS60,rfl,hS60⟩:=un10 hS50
          obtain ⟨a70,rS70,rfl,hS70⟩:=un1 hS60
          obtain ⟨a71,rS71,rfl,hS71⟩:=un1 hS70
          obtain ⟨a72,rS72,rfl,hS72⟩:=un1 hS71
          obtain ⟨a73,rS73,rfl,hS73⟩:=un1 hS72
          obtain ⟨a74,rS74,rfl,hS74⟩:=un1 hS73
          obtain ⟨a75,rS75,rfl,hS75⟩:=un1 hS74
          obtain ⟨a76,rS76,rfl,hS76⟩:=un1 hS75
          obtain ⟨a77,rS77,rfl,hS77⟩:=un1 hS76
          obtain ⟨a78,rS78,rfl,hS78⟩:=un1 hS77
          obtain rfl:=un0 hS78
          clear hlen4 hS0 hS10 hS20 hS30 hS40 hS50 hS60 hS70 hS71 hS72 hS73 hS74 hS75 hS76 hS77 hS78
          simp at hh4 hoj
          obtain ⟨rfl,rfl,rfl,hv55,rfl,rfl⟩:=hh4
          subst hv55
          by_cases hjl:j<S.length
          case neg=>
            have hjl':¬(j:Int)<(S.length:Int):=by omega
            have htk:S.take j=S:=List.take_of_length_le (by omega)
            rw [htk] at hoj
            simp [push_cast,hjl']
            exact ⟨hkh5.trans hoj.1,hoj.le hkh5⟩
          have hjl':(j:Int)<(S.length:Int):=by omega
          have wj:IntKind.i64.wrap ((j:Int) + 1)=(j:Int) + 1:=wrap64 (by omega) (by omega)
          obtain ⟨s,hx⟩:∃s,S[j]? =some s:=⟨S[j],by simp [hjl]⟩
          have htk:S.take (j + 1)=S.take j ++ [s]:=by rw [List.take_add_one,hx]; rfl
          have hk56:=hoj.1
          obtain ⟨ks,_,_,hix,hld⟩:=(hos5.keep hk56).at (W:=W) (T:=37) (kind37 W) (size9 W) hx
          have hgb6:=(hk56.2 kb hkb5).trans hgb5
          have hkb6:kb<h6.next:=Nat.lt_of_lt_of_le hkb5 hk56.1
          have hldb6:=ld_rn (W:=W) hgb6
          have hsS:=hmem s (List.mem_of_getElem? hx)
          obtain ⟨x0,hx0,hxs⟩:=List.mem_filterMap.1 hsS
          have hx0n:x0.nm=s∧s≠[]:=by
            by_cases e:x0.nm=[]
            · rw [if_pos e] at hxs; cases hxs
            · rw [if_neg e] at hxs; cases hxs; exact ⟨rfl,e⟩
          obtain ⟨hx0n,hsne⟩:=hx0n
          have hpl:¬placeR nd.slots s<0:=fun hc=>placeR_neg.1 hc x0 hx0 hx0n
          obtain ⟨jj,x,hpe,hxj,hxn⟩:=placeR_lt hpl
          have hxm:=List.mem_of_getElem? hxj
          have hsl255:s.length≤255:=by rw [←hxn]; exact hnm nd (List.mem_of_getElem? hnd) x hxm
          obtain ⟨b0,b1⟩:=ok.inos nd (List.mem_of_getElem? hnd) x hxm
          have hino:((x.ino.toNat:Nat):Int)=x.ino:=by omega
          have hchd:childR nd s=x.ino.toNat:=by simp only [childR,hpe,Int.toNat_natCast,hxj]
          have hch:(S.take (j + 1)).flatMap (fun s=>treeR M n (names ++ [s]) (childR nd s))=(S.take j).flatMap (fun s=>treeR M n (names ++ [s]) (childR nd s)) ++ treeR M n (names ++ [s]) x.ino.toNat:=by
            rw [htk,List.flatMap_append]; simp [hchd]
          have hlen6:((S.take (j + 1)).flatMap fun s=>treeR M n (names ++ [s]) (childR nd s)).length<999999999999:=by
            have e:S=S.take (j + 1) ++ S.drop (j + 1):=(List.take_append_drop _ _).symm
            rw [e,List.flatMap_append] at hlen
            simp only [List.length_cons,List.length_append] at hlen
            omega
          have hns':∀y∈names ++ [s],y.length≤255:=fun y hy=>by
            rcases List.mem_append.1 hy with h1 | h1
            · exact hns y h1
            · rw [List.mem_singleton.1 h1]; exact hsl255
          have a1:aStr .add (catR names) [47]=some (.str (catR names ++ [47])):=text_add (by simp; omega)
          have a2:aStr .add (catR names ++ [47]) s=some (.str (catR (names ++ [s]))):=by rw [catR_snoc]; exact text_add (by simp; omega)
          simp [push_cast,hjl',hix,ld9,hld,hldb6]
          refine jf9 (by simp [fn100]) (slot_ret W _ h6 _ nd (hnc.keep (hkh5.trans hk56)) s hshort.2) fun h7 hk7=> ?_
          have hgb7:=(hk7.2 kb hkb6).trans hgb6
          have hk07:=(hkh5.trans hk56).trans hk7
          obtain ⟨ki,_,_,hix7,hld7⟩:=(hsv.keep hk07).at (W:=W) (T:=53) (kind53 W) (size3 W) (i:=jj) (x:=x.ino) (by simp [hxj])
          rw [hpe]
          simp [push_cast,fa100_6,ld53,ji9 hgb7,jd9,hix7,ld3,hld7,a1,a2]
          have hrec:=ih h7 x.ino.toNat (names ++ [s]) (hr.keep hk07) (hdeep x hxm (by rw [hxn]; exact hsne)) (by rw [hch] at hlen6; simp only [List.length_append] at hlen6; omega) hns' (by simp; omega)
          rw [hino] at hrec
          refine jg9 (by simp [fn56]) hrec fun w h8 hk8 hw=> ?_
          obtain ⟨v',h9,hap,ho9⟩:=append_fgs (W:=W) (hoj.keeps hk7) hw (by rw [hch] at hlen6; simp only [List.length_append] at hlen6; simp only [List.length_cons]; omega)
          simp [push_cast,hap,wj]
          exact ⟨m - 1,by omega,by simp,j + 1,by omega,by simp only [List.getD_cons_succ,List.getD_cons_zero]; rw [hch]; exact ho9,by simp⟩
theorem OwnF.at {W:World} {h0 h:AH} {v:AV} {l:List Fl} (ho:OwnF h0 h v l) {i:Nat} {f:Fl} (hi:l[i]? =some f):
    ∃bv a',aIndexAddr (CC W) 44 v (.int .i64 (i:Int))=some (.ptr (some a'))∧aLoad (CC W) h 55 a'=some (.agg (flC (f,bv)))∧IntS h bv f.blocks:=by
  obtain ⟨_,k,gr,p,ps,rfl,h2,h3,h4,rfl,_⟩:=ho
  generalize p::ps=ps at *
  rw [List.getElem?_map,Option.map_eq_some_iff] at hi
  obtain ⟨q,hq,rfl⟩:=hi
  have hil:=(List.getElem?_eq_some_iff.1 hq).1
  have hlen:=flCs_len ps
  refine ⟨q.2,.new k (i * 7),?_,?_,h4 q (List.mem_of_getElem? hq)⟩
  · simp only [aIndexAddr,kind44,size55]
    rw [if_pos (by simp; omega)]
    simp [AA.add]
  · unfold aLoad
    rw [ty55]
    show (aCells (CC W) h (.new k (i * 7)) 7).map AV.agg=_
    simp only [aCells,h3]
    rw [if_pos (by omega)]
    have hd:(flCs ps).drop (i * 7)=flCs (ps.drop i):=by
      have e:ps=ps.take i ++ ps.drop i:=(List.take_append_drop i ps).symm
      have hl:(flCs (ps.take i)).length=i * 7:=by rw [flCs_len,List.length_take]; congr 1; omega
      conv=>lhs; rw [e,flCs_append]
      rw [←hl,List.drop_left]
    rw [hd,List.drop_eq_getElem_cons hil]
    have hg:ps[i]=q:=by rw [List.getElem?_eq_getElem hil] at hq; exact Option.some.inj hq
    rw [hg]
    rfl
theorem OwnF.len {W:World} {h0 h h2:AH} {v:AV} {l:List Fl} (hf:OwnF h0 h v l):aLen (CC W) h2 44 v=some (.int .i64 l.length):=by
  obtain ⟨_,k,gr,p,ps,_,_,_,_,rfl,_⟩:=hf
  simp [aLen,kind44]
theorem OwnG.at {W:World} {h0 h:AH} {v:AV} {l:List Fl} (ho:OwnG h0 h v l) {i:Nat} {f:Fl} (hi:l[i]? =some f):
    ∃bv a',aIndexAddr (CC W) 46 v (.int .i64 (i:Int))=some (.ptr (some a'))∧aLoad (CC W) h 108 a'=some (.agg (flC (f,bv)))∧IntS h bv f.blocks:=by
  obtain ⟨_,k,gr,p,ps,rfl,h2,h3,h4,rfl,_⟩:=ho
  generalize p::ps=ps at *
  rw [List.getElem?_map,Option.map_eq_some_iff] at hi
  obtain ⟨q,hq,rfl⟩:=hi
  have hil:=(List.getElem?_eq_some_iff.1 hq).1
  have hlen:=flCs_len ps
  refine ⟨q.2,.new k (i * 7),?_,?_,h4 q (List.mem_of_getElem? hq)⟩
  · simp only [aIndexAddr,kind46,size108]
    rw [if_pos (by simp; omega)]
    simp [AA.add]
  · unfold aLoad
    rw [ty108]
    show (aCells (CC W) h (.new k (i * 7)) 7).map AV.agg=_
    simp only [aCells,h3]
    rw [if_pos (by omega)]
    have hd:(flCs ps).drop (i * 7)=flCs (ps.drop i):=by
      have e:ps=ps.take i ++ ps.drop i:=(List.take_append_drop i ps).symm
      have hl:(flCs (ps.take i)).length=i * 7:=by rw [flCs_len,List.length_take]; congr 1; omega
      conv=>lhs; rw [e,flCs_append]
      rw [←hl,List.drop_left]
    rw [hd,List.drop_eq_getElem_cons hil]
    have hg:ps[i]=q:=by rw [List.getElem?_eq_getElem hil] at hq; exact Option.some.inj hq
    rw [hg]
    rfl
theorem OwnG.len {W:World} {h0 h h2:AH} {v:AV} {l:List Fl} (hf:OwnG h0 h v l):aLen (CC W) h2 46 v=some (.int .i64 l.length):=by
  obtain ⟨_,k,gr,p,ps,_,_,_,_,rfl,_⟩:=hf
  simp [aLen,kind46]
def SamI (h:AH) (va vb:AV) (l:List Fl) (m:Nat) (e':Env) (h':AH):Prop:=
  e'.length=75∧Keeps h h'∧∃i:Nat,i + m=l.length∧(va=e'.getD 0 .undef∧vb=e'.getD 1 .undef∧e'.getD 14 .undef= .int .i64 l.length∧e'.getD 15 .undef= .int .i64 i)
set_option maxHeartbeats 16000000 in
set_option maxRecDepth 20000 in
theorem same14_ret (W:World) (h h1 h2:AH) (va vb:AV) (l:List Fl) (ha:OwnF h1 h va l) (hb:OwnG h2 h vb l) (hl:l.length<1000000000000) (hbl:∀f∈l,f.blocks.length<1099511627776):
    RetK (CC W) 20 [va,vb] h (.bool true):=by
  refine jj9 (cc_ok W) (fn20 W) (by simp only [Tryz.f20]; rfl) rfl rfl ?_
  have hla:=fun hh=>ha.len (W:=W) (h2:=hh)
  have hlb:=fun hh=>hb.len (W:=W) (h2:=hh)
  simp [push_cast,hla,hlb]
  refine loopN (cc_ok W) (SamI h va vb l) l.length ⟨by simp,Keeps.refl _,0,by simp,by simp⟩ ?_
  rintro m e' h' ⟨hlen',hk,i,him,hh⟩
  obtain ⟨a0,a1,a2,a3,a4,a5,a6,a7,a8,a9,rS0,rfl,hS0⟩:=un10 hlen'
  obtain ⟨a10,a11,a12,a13,a14,a15,a16,a17,a18,a19,rS10,rfl,hS10⟩:=un10 hS0
  obtain ⟨a20,a21,a22,a23,a24,a25,a26,a27,a28,a29,rS20,rfl,hS20⟩:=un10 hS10
  obtain ⟨a30,a31,a32,a33,a34,a35,a36,a37,a38,a39,rS30,rfl,hS30⟩:=un10 hS20
  obtain ⟨a40,a41,a42,a43,a44,a45,a46,a47,a48,a49,rS40,rfl,hS40⟩:=un10 hS30
  obtain ⟨a50,a51,a52,a53,a54,a55,a56,a57,a58,a59,rS50,rfl,hS50⟩:=un10 hS40
  obtain ⟨a60,a61,a62,a63,a64,a65,a66,a67,a68,a69,rS60,rfl,hS60⟩:=un10 hS50
  obtain ⟨a70,rS70,rfl,hS70⟩:=un1 hS60
  obtain ⟨a71,rS71,rfl,hS71⟩:=un1 hS70
  obtain ⟨a72,rS72,rfl,hS72⟩:=un1 hS71
  obtain ⟨a73,rS73,rfl,hS73⟩:=un1 hS72
  obtain ⟨a74,rS74,rfl,hS74⟩:=un1 hS73
  obtain rfl:=un0 hS74
  clear hlen' hS0 hS10 hS20 hS30 hS40 hS50 hS60 hS70 hS71 hS72 hS73 hS74
  simp at hh
  obtain ⟨h0e,h1e,rfl,rfl⟩:=hh
  subst h0e h1e
  by_cases hlt:i<l.length
  case neg=>
    have hlt':¬(i:Int)<(l.length:Int):=by omega
    simp [push_cast,hlt']
    exact hk
  have hlt':(i:Int)<(l.length:Int):=by omega
  have wi:IntKind.i64.wrap ((i:Int) + 1)=(i:Int) + 1:=wrap64 (by omega) (by omega)
  obtain ⟨f,hx⟩:∃f,l[i]? =some f:=⟨l[i],by simp [hlt]⟩
  have hfb:=hbl f (List.mem_of_getElem? hx)
  obtain ⟨bv1,q1,hix1,hld1,hI1⟩:=(ha.keeps hk).at (W:=W) hx
  have hal1:=alloc_file (W:=W) (h:=h')
  have hkA:=keeps_setN (c:= .cells (flC (f,bv1)) 55) (Keeps.push h' (.cells fl0 55)) (Nat.le_refl _)
  have st1:=st_file (W:=W) (h:=h'.push (.cells fl0 55)) (k:=h'.next) (b:=flC (f,bv1)) (by simp; rfl) (by rfl) (by rfl) (flC_one hI1)
  have hgA:((h'.push (.cells fl0 55)).set h'.next (.cells (flC (f,bv1)) 55)).get h'.next=some (.cells (flC (f,bv1)) 55):=by simp
  have hnA:h'.next<((h'.push (.cells fl0 55)).set h'.next (.cells (flC (f,bv1)) 55)).next:=by simp
  generalize (h'.push (.cells fl0 55)).set h'.next (.cells (flC (f,bv1)) 55)=hA at hkA st1 hgA hnA
  change aAlloc _ _ _=some (_,h'.push (.cells fl0 55)) at hal1
  generalize h'.push (.cells fl0 55)=hA0 at hal1 st1
  generalize h'.next=kA at hal1 st1 hgA hnA
  have hkhA:=hk.trans hkA
  obtain ⟨bv2,q2,hix2,hld2,hI2⟩:=(hb.keeps hkhA).at (W:=W) hx
  have hal2:=alloc_rf (W:=W) (h:=hA)
  have hkB:=keeps_setN (c:= .cells (flC (f,bv2)) 108) (Keeps.push hA (.cells rf0 108)) (Nat.le_refl _)
  have st2:=st_rf (W:=W) (h:=hA.push (.cells rf0 108)) (k:=hA.next) (b:=flC (f,bv2)) (by simp; rfl) (by rfl) (by rfl) (flC_one hI2)
  have hgB:((hA.push (.cells rf0 108)).set hA.next (.cells (flC (f,bv2)) 108)).get hA.next=some (.cells (flC (f,bv2)) 108):=by simp
  generalize (hA.push (.cells rf0 108)).set hA.next (.cells (flC (f,bv2)) 108)=hB at hkB st2 hgB
  change aAlloc _ _ _=some (_,hA.push (.cells rf0 108)) at hal2
  generalize hA.push (.cells rf0 108)=hB0 at hal2 st2
  generalize hA.next=kB at hal2 st2 hgB
  have hgA2:hB.get kA=some (.cells (flC (f,bv1)) 55):=(hkB.2 kA hnA).trans hgA
  have hkAB:=hkA.trans hkB
  simp only [flC] at hgA2 hgB hld1 hld2 st1 st2
  have hs1:(f.path !=f.path)=false:=by simp
  have hs2:(f.data !=f.data)=false:=by simp
  simp [push_cast,hlt',hix1,hld1,hal1,st1,hix2,hld2,hal2,st2,fa55_0,fa55_1,fa55_2,fa55_3,fa55_4,fa55_5,fa55_6,fa108_0,fa108_1,fa108_2,fa108_3,fa108_4,fa108_5,fa108_6,ld9,ld3,ld53,ji9 hgA2,ji9 hgB,jd9,aStr,hs1,hs2]
  refine jh9 (by simp [fn26]) (ints_ret W hB bv1 bv2 f.blocks f.blocks (hI1.keeps hkAB) (hI2.keeps hkB) (by omega)) ?_
  simp [push_cast,aUn_not',wi]
  exact ⟨m - 1,by omega,by simp,hk.trans hkAB,i + 1,by omega,by simp⟩
set_option maxHeartbeats 4000000 in
theorem rtree_ret (W:World) (A:Nat→Prop) (h:AH) (km kl:Nat) (M:MS) (t:Nat) (hf:Fine M t) (ht:t<10000) (hk:KeysN M) (hs:ShortM M) (hr:RIs A h km kl M):
    RetQ (CC W) 22 [.ptr (some (.new km 0))] h (fun w h'=>OwnG h h' w (treeM M)):=by
  refine jj9 (cc_ok W) (fn22 W) (by simp only [Tryz.f22]; rfl) rfl rfl ?_
  have rf:=hf.rfine ht hk
  have hl:=tree_len hf (by omega) (M.nodes.length + 1)
  have hfew:=hf.few
  have hb:=rbelow_tree W A km kl M rf.ro.ok rf.ro.sh (fine128 hf) (fun nd hn x hx=>by have:=hs nd hn x hx; omega) (M.nodes.length + 1) h 0 [] hr (deep_root hf (by omega)) (by omega) (by simp) (by simp; omega)
  have hc0:catR []=[]:=rfl
  rw [hc0] at hb
  simp [push_cast]
  refine jg9 (by simp [fn56]) hb fun w h1 hk1 ho=> ?_
  simp [push_cast]
  exact ⟨hk1,ho⟩
set_option maxHeartbeats 16000000 in
theorem right_none (W:World) (h:AH) (b j n:Int) (hs:shapeR b j n=none):
    RetK (CC W) 45 [.agg [.int .i64 b,.int .i64 j,.int .i64 n]] h (.bool false):=by
  refine jj9 (cc_ok W) (fn45 W) (by simp only [Tryz.f45]; rfl) rfl rfl ?_
  have hbx:=box_shape (h:=h) (l:=[.int .i64 b,.int .i64 j,.int .i64 n])
  have hk1:Keeps h (h.push (.cells [.int .i64 b,.int .i64 j,.int .i64 n] 23)):=Keeps.push _ _
  have hgb:(h.push (.cells [.int .i64 b,.int .i64 j,.int .i64 n] 23)).get h.next=some (.cells [.int .i64 b,.int .i64 j,.int .i64 n] 23):=by simp
  have hn1:h.next<(h.push (.cells [.int .i64 b,.int .i64 j,.int .i64 n] 23)).next:=by simp
  generalize h.push (.cells [.int .i64 b,.int .i64 j,.int .i64 n] 23)=h1 at hbx hk1 hgb hn1
  generalize h.next=kb at hbx hgb hn1
  simp [push_cast,hbx]
  refine drawS [0,1,2,3,4,5,6,7,8,9,10,11,12,13,14,15,16,17,18,19,20,21,22,23,24,25,26,27,28,29,30,31,32,36,37,33,34,35,38,39,40] (by kernel_rfl) (by kernel_rfl) ?_
  by_cases b0:16≤b
  case neg=>
    simp [push_cast,zx9,zy9,SgO,opA,isE,isRead,fa23_0,fa23_1,fa23_2,ld3,ld_shape hgb,ji9 hgb,jd9,b0]
    exact hk1
  by_cases b1:b≤1024
  case neg=>
    simp [push_cast,zx9,zy9,SgO,opA,isE,isRead,fa23_0,fa23_1,fa23_2,ld3,ld_shape hgb,ji9 hgb,jd9,b0,b1]
    exact hk1
  by_cases j0:8≤j
  case neg=>
    simp [push_cast,zx9,zy9,SgO,opA,isE,isRead,fa23_0,fa23_1,fa23_2,ld3,ld_shape hgb,ji9 hgb,jd9,b0,b1,j0]
    exact hk1
  by_cases j1:j≤256
  case neg=>
    simp [push_cast,zx9,zy9,SgO,opA,isE,isRead,fa23_0,fa23_1,fa23_2,ld3,ld_shape hgb,ji9 hgb,jd9,b0,b1,j0,j1]
    exact hk1
  by_cases n0:1≤n
  case neg=>
    simp [push_cast,zx9,zy9,SgO,opA,isE,isRead,fa23_0,fa23_1,fa23_2,ld3,ld_shape hgb,ji9 hgb,jd9,b0,b1,j0,j1,n0]
    exact hk1
  by_cases n1:n≤64
  case neg=>
    simp [push_cast,zx9,zy9,SgO,opA,isE,isRead,fa23_0,fa23_1,fa23_2,ld3,ld_shape hgb,ji9 hgb,jd9,b0,b1,j0,j1,n0,n1]
    exact hk1
  have hc:¬2 + j + (n + 3) / 4 + 4≤b:=fun hc=>by
    unfold shapeR at hs
    rw [if_pos (by simp [inB,b0,b1,j0,j1,n0,n1])] at hs
    split at hs
    · rename_i h4; simp only [dataR] at h4; omega
    · cases hs
  have w1:IntKind.i64.wrap (2 + j)=2 + j:=wrap64 (by omega) (by omega)
  have w2:IntKind.i64.wrap (2 + j + (n + 3) / 4)=2 + j + (n + 3) / 4:=wrap64 (by omega) (by omega)
  have w3:IntKind.i64.wrap (2 + j + (n + 3) / 4 + 4)=2 + j + (n + 3) / 4 + 4:=wrap64 (by omega) (by omega)
  simp [push_cast,zx9,zy9,SgO,opA,isE,isRead,fa23_0,fa23_1,fa23_2,ld3,ld_shape hgb,ji9 hgb,jd9,w1,b0,b1,j0,j1,n0,n1]
  refine jb9 (f:=83) (args:=[.agg [.int .i64 b,.int .i64 j,.int .i64 n]]) (by rfl) (by rfl) (by rfl) (by simp [fn83]) (tab_ret W h1 b j n n0 n1) ?_
  rintro w h2 ⟨rfl,hk2⟩
  have hgb2:=(hk2.2 kb hn1).trans hgb
  refine ⟨?_,?_⟩
  · simp [zz9,ja9,push_cast,opA,fa23_0,fa23_1,fa23_2,ld3,ld_shape hgb2,ji9 hgb2,jd9]
  simp [push_cast,zx9,zy9,SgO,opA,isE,isRead,w2,w3,hc]
  exact hk1.trans hk2
set_option maxHeartbeats 4000000 in
theorem rnew_none (W:World) (h:AH) (b j n:Int) (hs:shapeR b j n=none):
    RetK (CC W) 13 [.agg [.int .i64 b,.int .i64 j,.int .i64 n]] h (.tup [.ptr none,.int .i64 60]):=by
  refine jj9 (cc_ok W) (fn13 W) (by simp only [Tryz.f13]; rfl) rfl rfl ?_
  have hbx:=box_shape (h:=h) (l:=[.int .i64 b,.int .i64 j,.int .i64 n])
  have hk1:Keeps h (h.push (.cells [.int .i64 b,.int .i64 j,.int .i64 n] 23)):=Keeps.push _ _
  have hgb:(h.push (.cells [.int .i64 b,.int .i64 j,.int .i64 n] 23)).get h.next=some (.cells [.int .i64 b,.int .i64 j,.int .i64 n] 23):=by simp
  generalize h.push (.cells [.int .i64 b,.int .i64 j,.int .i64 n] 23)=h1 at hbx hk1 hgb
  simp [push_cast,hbx,ld_shape hgb]
  refine jf9 (by simp [fn45]) (right_none W h1 b j n hs) fun h2 hk2=> ?_
  simp [push_cast,aUn_not']
  exact hk1.trans hk2
set_option maxRecDepth 100000 in
set_option maxHeartbeats 8000000 in
theorem rnewR_ret (W:World) (h:AH) (b j n c:Int) (hs:shapeR b j n=some c):
    RetQ (CC W) 13 [.agg [.int .i64 b,.int .i64 j,.int .i64 n]] h (fun w h'=>∃km kl,w= .tup [.ptr (some (.new km 0)),.int .i64 0]∧h.next≤km∧h.next≤kl∧RIs (fun k=>h.next≤k) h' km kl (newM n.toNat c)):=by
  obtain ⟨b0,b1,j0,j1,n0,n1,hc⟩:16≤b∧b≤1024∧8≤j∧j≤256∧1≤n∧n≤64∧b - dataR b j n=c:=by
    have hs:=hs
    unfold shapeR at hs
    split at hs
    · rename_i hc
      simp only [inB,Bool.and_eq_true,decide_eq_true_eq] at hc
      split at hs
      · cases hs
      · cases hs; omega
    · cases hs
  have hright:=fun h=>right_ret W h b j n c hs
  refine jj9 (cc_ok W) (fn13 W) (by simp only [Tryz.f13]; rfl) rfl rfl ?_
  have hbx:=box_shape (h:=h) (l:=[.int .i64 b,.int .i64 j,.int .i64 n])
  have hk1:Keeps h (h.push (.cells [.int .i64 b,.int .i64 j,.int .i64 n] 23)):=Keeps.push _ _
  have hgb:(h.push (.cells [.int .i64 b,.int .i64 j,.int .i64 n] 23)).get h.next=some (.cells [.int .i64 b,.int .i64 j,.int .i64 n] 23):=by simp
  have hn1:h.next<(h.push (.cells [.int .i64 b,.int .i64 j,.int .i64 n] 23)).next:=by simp
  generalize h.push (.cells [.int .i64 b,.int .i64 j,.int .i64 n] 23)=h1 at hbx hk1 hgb hn1
  obtain ⟨kb,hkb⟩:∃kb,kb=h.next:=⟨_,rfl⟩
  rw [←hkb] at hbx hgb hn1
  simp [push_cast,hbx,ld_shape hgb]
  refine jf9 (by simp [fn45]) (hright h1) fun h2 hk2=> ?_
  have hgb2:=(hk2.2 kb hn1).trans hgb
  have hn2:=Nat.lt_of_lt_of_le hn1 hk2.1
  simp [push_cast,aUn_not']
  have wd:IntKind.i64.wrap (b - dataR b j n)=c:=by rw [hc]; exact wrap64 (by rw [←hc]; simp only [dataR]; omega) (by rw [←hc]; simp only [dataR]; omega)
  refine drawS [0,1,2,3,4,5,6,7] (by kernel_rfl) (by kernel_rfl) ?_
  simp [push_cast,zx9,zy9,SgO,opA,isE,isRead,fa23_0,ld3,ld_shape hgb2,ji9 hgb2,jd9]
  refine jb9 (f:=46) (args:=[.agg [.int .i64 b,.int .i64 j,.int .i64 n]]) (by rfl) (by rfl) (by rfl) (by simp [fn46]) (rdata_ret W h2 b j n n0 n1 (by omega) (by omega)) ?_
  rintro w h3 ⟨rfl,hk3⟩
  have hgb3:=(hk3.2 kb hn2).trans hgb2
  have hn3:=Nat.lt_of_lt_of_le hn2 hk3.1
  refine ⟨?_,?_⟩
  · simp [zz9,ja9,push_cast,opA,fa23_0,ld3,ld_shape hgb3,ji9 hgb3,jd9]
  simp [push_cast,zx9,zy9,SgO,opA,isE,isRead,wd,build_rmod]
  have hk4:=Keeps.push h3 (.cells [.sl none 0 0 none,.int .i64 c] 60)
  have hgb4:=(hk4.2 kb hn3).trans hgb3
  have hgm:(h3.push (.cells [.sl none 0 0 none,.int .i64 c] 60)).get h3.next=some (.cells [.sl none 0 0 none,.int .i64 c] 60):=by simp
  have hn4:h3.next<(h3.push (.cells [.sl none 0 0 none,.int .i64 c] 60)).next:=by simp
  refine jc9 (v:= .ptr (some (.new h3.next 0))) (h':=h3.push (.cells [.sl none 0 0 none,.int .i64 c] 60)) (by rfl) (by rfl) ⟨?_,?_⟩
  · simp [zz9,ja9,push_cast,opA,fa23_0,ld3,ld_shape hgb4,ji9 hgb4,jd9]
  have hkk:=(hk1.trans hk2).trans (hk3.trans hk4)
  generalize h3.push (.cells [.sl none 0 0 none,.int .i64 c] 60)=h4 at hk4 hgb4 hgm hn4 hkk
  generalize h3.next=km at hgm hn4 hn3
  simp [push_cast,zx9,zy9,SgO,opA,isE,isRead]
  obtain ⟨N,rfl⟩:=Int.eq_ofNat_of_zero_le (show 0≤n by omega)
  refine loopN (cc_ok W) (RfI h kb km b j N c N) N ⟨by simp,0,.sl none 0 0 none,by simp,⟨by omega,hn3,hn4⟩,hkk.2,hgb4,hgm,.inl ⟨rfl,rfl⟩,by simp⟩ ?_
  rintro m e' h' ⟨hlen',i,v,him,⟨l1,l2,l3⟩,hkp,hgb',hgm',hv,hh⟩
  match e',hlen' with
  | a0::a1::a2::a3::a4::a5::a6::a7::a8::a9::a10::a11::a12::a13::a14::a15::a16::a17::a18::a19::a20::a21::a22::a23::a24::a25::a26::a27::a28::a29::a30::a31::a32::a33::a34::a35::a36::a37::a38::[],_=>
    simp at hh
    obtain ⟨rfl,rfl,rfl⟩:=hh
    by_cases hlt:i<N
    · have hlt':(i:Int)<(N:Int):=by omega
      have w1:IntKind.i64.wrap ((i:Int) + 1)=(i:Int) + 1:=wrap64 (by omega) (by omega)
      obtain ⟨v',h5,hap,hnx,⟨p,p1,p2,p3,rfl⟩,hold⟩:=append_zn (W:=W) hv (by omega) (by omega)
      have hgm5:=(hold km (by omega)).trans hgm'
      have hgb5:=(hold kb (by omega)).trans hgb'
      have hst:=st_rmod (W:=W) (p:=some (.new p 0)) (l:=i + 1) (cap:=i + 1) (g:=some 7) hgm5
      have hkz:=Keeps.push h' (.cells zN 100)
      simp [push_cast,fa23_2,fa60_0,ld3,ld58,ji9 hgb',ji9 hgm',jd9,hlt,hlt',build_zn,build_zs,hap,hst,w1]
      refine ⟨m - 1,by omega,by simp,i + 1,.sl (some (.new p 0)) (i + 1) (i + 1) (some 7),by omega,⟨l1,l2,by simp; omega⟩,fun q hq=> ?_,?_,by simp,.inr ⟨p,by omega,by simp; omega,?_,rfl⟩,by simp⟩
      · have:q≠km:=by omega
        simp [this]; rw [hold q (by omega)]; exact hkp q hq
      · have:kb≠km:=by omega
        simp [this]; exact hgb5
      · have:p≠km:=by omega
        simp [this]; exact p3
    · have hlt':¬(i:Int)<(N:Int):=by omega
      have hi:i=N:=by omega
      subst hi
      rcases hv with ⟨rfl,_⟩ | ⟨p,p1,p2,p3,rfl⟩
      · omega
      · have hr0:RIs (fun k=>h.next≤k) h' km p ⟨List.replicate i noNode,c⟩:=by
          refine ⟨List.replicate i zN,by simp,fun q cs nd h1 h2=> ?_,p3,by simpa using hgm',l3,p2,by omega⟩
          have e1:cs=zN:=by
            have:=List.mem_of_getElem? h1
            exact (List.mem_replicate.1 this).2
          have e2:nd=noNode:=by
            have:=List.mem_of_getElem? h2
            exact (List.mem_replicate.1 this).2
          subst e1 e2
          exact ndc_new 0 0 none rfl
        have hroot:NdC (fun k=>h.next≤k∧k≠km∧k≠p) h' [.int .i64 2,.int .i64 1,.int .i64 0,.sl none 0 0 none,.sl none 0 0 none,.sl none 0 0 none,.sl none 0 0 none] rootNd:=ndc_new 2 1 none rfl
        obtain ⟨h8,u1,u2,u3,u4⟩:=hr0.setNode (W:=W) (i:=0) (by simp; omega) hroot
        have hnm:(⟨List.replicate i noNode,c⟩:MS).set 0 rootNd=newM (i:Int).toNat c:=by
          obtain ⟨i',rfl⟩:∃i',i=i' + 1:=⟨i - 1,by omega⟩
          simp [MS.set,newM,List.replicate_succ]
        rw [hnm] at u2
        simp only [Nat.zero_mul] at u1
        have hix:aIndexAddr (CC W) 58 (.sl (some (.new p 0)) i i (some 7)) (.int .i64 0)=some (.ptr (some (.new p 0))):=by
          simp only [aIndexAddr,kind58,size100]
          rw [if_pos (by omega)]
          simp [AA.add]
        simp [push_cast,fa23_2,fa60_0,ld3,ld58,ji9 hgb',ji9 hgm',jd9,hlt,hlt',build_rn,hix,u1]
        refine ⟨⟨by have:=u3.1; omega,fun q hq=>(u3.2 q (by omega) (by omega) (by omega)).trans (hkp q hq)⟩,by omega,p,by omega,by simpa using u2⟩
theorem MIs.off {h h':AH} {R:MR} {M:MS} (hi:MIs h R M) (hn:h.next≤h'.next) (hk:∀k∈R.ids,h'.get k=h.get k):MIs h' R M where
  mod:=(hk _ (by simp [MR.ids])).trans hi.mod
  ptrs:=(hk _ (by simp [MR.ids])).trans hi.ptrs
  rows:=(hk _ (by simp [MR.ids])).trans hi.rows
  len:=hi.len
  each:=fun i r nd hr hn=>(hi.each i r nd hr hn).same fun k hm=>hk k (mem_ids hr hm)
  low:=fun k hm=>Nat.lt_of_lt_of_le (hi.low k hm) hn
  heads:=hi.heads
  hd:=hi.hd
  own:=hi.own
  sep:=hi.sep
theorem tree_memD {M:MS}:∀(n:Nat) (names:List (List UInt8)) (i:Nat),∀f∈treeR M n names i,∃nd∈M.nodes,f.blocks=indR nd:=by
  intro n
  induction n with
  | zero=>intro names i f hf; cases hf
  | succ n ih=>
    intro names i f hf
    simp only [treeR] at hf
    split at hf
    · cases hf
    · rename_i nd hnd
      rw [List.mem_cons] at hf
      rcases hf with rfl | hf
      · exact ⟨nd,List.mem_of_getElem? hnd,rfl⟩
      · obtain ⟨s,_,hf⟩:=List.mem_flatMap.1 hf
        exact ih _ _ f hf
theorem NdU.ind {c:Nat} {nd:Nd} (h:NdU c nd) (hc:c<1000000):(indR nd).length<1000000:=by
  have h1:=h.ix
  have h2:=h.sl
  unfold indR
  split
  · simp; omega
  · have:(sortI ((nd.blocks.getD []).map (·.1))).length=(ixR nd).length:=rfl
    omega
theorem nms_few {M:MS} (hs:∀nd∈M.nodes,nd.slots.length<1000000) (l:List (List UInt8)):(listR M l).names.length<1000000:=by
  unfold listR
  split
  · split
    · rename_i nd hnd
      split
      · show (sortT (nmsR nd.slots)).length<_
        rw [show (sortT (nmsR nd.slots)).length=(nmsR nd.slots).length from (List.mergeSort_perm _ _).length_eq]
        have:=nmsR_len nd.slots
        have:=hs nd (List.mem_of_getElem? hnd)
        omega
      · exact Nat.zero_lt_succ _
    · exact Nat.zero_lt_succ _
  · exact Nat.zero_lt_succ _
theorem do_names {M:MS} (hs:∀nd∈M.nodes,nd.slots.length<1000000) (o:Opn):(doR M o).1.names.length<1000000:=by
  have h0:(0:Nat)<1000000:=by decide
  unfold doR
  split
  · exact h0
  split
  · exact h0
  split
  · exact h0
  unfold opR
  split
  all_goals first | exact h0 | exact nms_few hs _ | skip
  · unfold readR
    repeat' split
    all_goals exact h0
  · unfold statR
    repeat' split
    all_goals exact h0
def DoesI (v:AV) (km kw:Nat) (l:List Opn) (m:Nat) (e':Env) (h':AH):Prop:=
  e'.length=80∧∃(i:Nat) (R:MR) (M:MS) (kl:Nat),i + m=l.length∧MIs h' R M∧Fine M i∧ShortM M∧Room M∧R.km=km∧RIs (fun k=>k ∉ R.ids) h' kw kl M∧kw ∉ R.ids∧kl ∉ R.ids∧
    (e'.getD 5 .undef= .ptr (some (.new km 0))∧e'.getD 7 .undef= .ptr (some (.new kw 0))∧v=e'.getD 40 .undef∧e'.getD 41 .undef= .int .i64 l.length∧e'.getD 42 .undef= .int .i64 i)
set_option maxRecDepth 100000 in
set_option maxHeartbeats 16000000 in
theorem does_ret (W:World) (v:AV) (l:List Opn) (hv:OpsS W v l) (a b c:Int) (hl:l.length<8796093022207):
    ACall (CC W) 3 [.agg [.int .i64 a,.int .i64 b,.int .i64 c],v] AH.empty (fun w _=>w= .bool true) (fun _ _=>False):=by
  obtain ⟨va,vc,rfl,hops⟩:=hv
  refine jj9 (cc_ok W) (fn3 W) (by simp only [Tryz.f3]; rfl) rfl rfl ?_
  have hbx:=box_shape (h:=AH.empty) (l:=[.int .i64 a,.int .i64 b,.int .i64 c])
  have hgs:(AH.empty.push (.cells [.int .i64 a,.int .i64 b,.int .i64 c] 23)).get AH.empty.next=some (.cells [.int .i64 a,.int .i64 b,.int .i64 c] 23):=by simp
  have hn1:AH.empty.next<(AH.empty.push (.cells [.int .i64 a,.int .i64 b,.int .i64 c] 23)).next:=by simp
  generalize AH.empty.push (.cells [.int .i64 a,.int .i64 b,.int .i64 c] 23)=h1 at hbx hgs hn1
  generalize AH.empty.next=k2 at hbx hgs hn1
  simp [push_cast,hbx,ld_shape hgs]
  refine je9 (by simp [fn12]) (new_ret W h1 a b c) fun w h3 hw=> ?_
  cases hsh:shapeR a b c with
  | none=>
    rw [hsh] at hw
    obtain ⟨rfl,hk3⟩:=hw
    have hgs3:=(hk3.2 k2 hn1).trans hgs
    simp [push_cast,ld_shape hgs3]
    refine jf9 (by simp [fn13]) (rnew_none W h3 a b c hsh) fun h4 hk4=> ?_
    simp [push_cast,aEq,kind25,kind29,kindEq1,aEq1,kind4]
    refine jh9 (by simp [fn15]) (speaks_ret W _) ?_
    simp [push_cast]
  | some cm=>
    rw [hsh] at hw
    obtain ⟨R,rfl,hk3,hm,hR⟩:=hw
    have hgs3:=(hk3.2 k2 hn1).trans hgs
    obtain ⟨hfine,hshort,hroom⟩:Fine (newM c.toNat cm) 0∧ShortM (newM c.toNat cm)∧Room (newM c.toNat cm):=by
      have hsh:=hsh
      unfold shapeR at hsh
      split at hsh
      · rename_i hc
        simp only [inB,Bool.and_eq_true,decide_eq_true_eq] at hc
        split at hsh
        · cases hsh
        · cases hsh
          exact ⟨new_fine (by omega) (by omega),new_short,new_room (by omega)⟩
      · cases hsh
    have hlen:∀h,aLen (CC W) h 24 (.sl va l.length vc none)=some (.int .i64 l.length):=fun h=>by simp [aLen,kind24]
    simp [push_cast,ld_shape hgs3]
    refine jg9 (by simp [fn13]) (rnewR_ret W h3 a b c cm hsh) fun w h4 hk4 ⟨kw,kl,hw4,hkw,hkl,hr⟩=> ?_
    subst hw4
    have hm4:=hm.keeps hk4
    have hr4:RIs (fun k=>k ∉ R.ids) h4 kw kl (newM c.toNat cm):=hr.imp fun k _ hk hc=>by have:=hm.low k hc; omega
    have hkwn:kw ∉ R.ids:=fun hc=>by have:=hm.low _ hc; omega
    have hkln:kl ∉ R.ids:=fun hc=>by have:=hm.low _ hc; omega
    generalize newM c.toNat cm=M0 at hm4 hfine hshort hroom hr4
    clear hr hm hR
    simp [push_cast,aEq,kind25,kind29,kindEq1,aEq1,kind4]
    refine jh9 (by simp [fn14]) (heavy_ret W h4 va l.length vc none) ?_
    by_cases c1:(200:Int)<(l.length:Int)
    · have c1':200<l.length:=by omega
      simp [push_cast,c1,c1']
      refine jh9 (by simp [fn15]) (speaks_ret W _) ?_
      simp [push_cast]
    have c1':¬200<l.length:=by omega
    simp [push_cast,c1,c1',hlen]
    refine loopN (cc_ok W) (DoesI (.sl va l.length vc none) R.km kw l) l.length ⟨by simp,0,R,M0,kl,by simp,hm4,hfine,hshort,hroom,rfl,hr4,hkwn,hkln,by simp⟩ ?_
    clear hm4 hfine hshort hroom hr4 hkwn hkln hkl
    generalize R.km=km at *
    rintro m e' h' ⟨hlen',i,R,M,kl,him,hm,hfine,hshort,hroom,rfl,hr,hkwn,hkln,hh⟩
    obtain ⟨a0,a1,a2,a3,a4,a5,a6,a7,a8,a9,rS0,rfl,hS0⟩:=un10 hlen'
    obtain ⟨a10,a11,a12,a13,a14,a15,a16,a17,a18,a19,rS10,rfl,hS10⟩:=un10 hS0
    obtain ⟨a20,a21,a22,a23,a24,a25,a26,a27,a28,a29,rS20,rfl,hS20⟩:=un10 hS10
    obtain ⟨a30,a31,a32,a33,a34,a35,a36,a37,a38,a39,rS30,rfl,hS30⟩:=un10 hS20
    obtain ⟨a40,a41,a42,a43,a44,a45,a46,a47,a48,a49,rS40,rfl,hS40⟩:=un10 hS30
    obtain ⟨a50,a51,a52,a53,a54,a55,a56,a57,a58,a59,rS50,rfl,hS50⟩:=un10 hS40
    obtain ⟨a60,a61,a62,a63,a64,a65,a66,a67,a68,a69,rS60,rfl,hS60⟩:=un10 hS50
    obtain ⟨a70,a71,a72,a73,a74,a75,a76,a77,a78,a79,rS70,rfl,hS70⟩:=un10 hS60
    obtain rfl:=un0 hS70
    clear hlen' hS0 hS10 hS20 hS30 hS40 hS50 hS60 hS70
    simp at hh
    obtain ⟨rfl,rfl,hv40,rfl,rfl⟩:=hh
    subst hv40
    have hi200:i<1000000:=by omega
    have hkeys:=hm.keysN
    have hus:=hfine.us hkeys
    by_cases hlt:i<l.length
    · have hlt':(i:Int)<(l.length:Int):=by omega
      have wi:IntKind.i64.wrap ((i:Int) + 1)=(i:Int) + 1:=wrap64 (by omega) (by omega)
      obtain ⟨o2,hx⟩:∃o2,l[i]? =some o2:=⟨l[i],by simp [hlt]⟩
      obtain ⟨hok,a',hix,hld⟩:=hops i o2 hx
      have hld':=hld h'
      simp only [Opn.cells] at hld'
      have hst:=st_op (W:=W) (o:=o2) (h:=h'.push (.cells [.int .i64 0,.int .i64 0,.int .i64 0,.str [],.str [],.str []] 35)) (k:=h'.next) (a:= .int .i64 0) (b:= .int .i64 0) (c:= .int .i64 0) (d:= .str []) (e:= .str []) (f:= .str []) (by simp)
      have hK:Keeps h' ((h'.push (.cells [.int .i64 0,.int .i64 0,.int .i64 0,.str [],.str [],.str []] 35)).set h'.next (.cells o2.cells 35)):=(Keeps.push _ _).set (Nat.le_refl _) _
      have hg3:((h'.push (.cells [.int .i64 0,.int .i64 0,.int .i64 0,.str [],.str [],.str []] 35)).set h'.next (.cells o2.cells 35)).get h'.next=some (.cells o2.cells 35):=by simp
      have hn3:h'.next<((h'.push (.cells [.int .i64 0,.int .i64 0,.int .i64 0,.str [],.str [],.str []] 35)).set h'.next (.cells o2.cells 35)).next:=by simp
      generalize (h'.push (.cells [.int .i64 0,.int .i64 0,.int .i64 0,.str [],.str [],.str []] 35)).set h'.next (.cells o2.cells 35)=h3 at hst hK hg3 hn3
      obtain ⟨k3,hk3e⟩:∃k3,k3=h'.next:=⟨_,rfl⟩
      have hk3n:k3 ∉ R.ids:=fun hc=>by have:=hm.low _ hc; omega
      rw [←hk3e] at hg3 hn3
      have hld3:aLoad (CC W) h3 35 (.new k3 0)=some (.agg [.int .i64 o2.kd,.int .i64 o2.at_,.int .i64 o2.n,.str o2.p,.str o2.t,.str o2.d]):=by
        simp only [Opn.cells] at hg3; exact ld_op hg3
      have hm3:=hm.keeps hK
      have hr3:=hr.keep hK
      have hkw3:kw<h3.next∧kl<h3.next:=by obtain ⟨_,_,_,_,_,h5,h6,h7⟩:=_root_.id hr3; exact ⟨h5,h6⟩
      rw [←hk3e] at hst
      simp [push_cast,hlt',hix,hld',alloc_op, ←hk3e,hst]
      have hdo:=do_all W h3 R M hm3 i hfine hi200 o2 hok.p hok.t hok.a hok.a'
      simp only [opV] at hdo
      refine drawS [0,1,3,4,2,5,6,7] (by kernel_rfl) (by kernel_rfl) ?_
      simp [push_cast,zx9,zy9,SgO,opA,isE,isRead,hld3]
      refine jb9 (f:=17) (args:=[.ptr (some (.new R.km 0)),.agg [.int .i64 o2.kd,.int .i64 o2.at_,.int .i64 o2.n,.str o2.p,.str o2.t,.str o2.d]]) (by rfl) (by rfl) (by rfl) (by simp [fn17]) hdo fun w h4 ⟨R4,⟨nv,hw,hnv⟩,hm4,hB4⟩=> ?_
      subst hw
      obtain ⟨hg4,hn4,hk4n⟩:=hB4.box hg3 hn3 hk3n
      have hld4:aLoad (CC W) h4 35 (.new k3 0)=some (.agg [.int .i64 o2.kd,.int .i64 o2.at_,.int .i64 o2.n,.str o2.p,.str o2.t,.str o2.d]):=by
        simp only [Opn.cells] at hg4; exact ld_op hg4
      refine ⟨by simp [zz9,ja9,push_cast,opA,hld4],?_⟩
      have hin4:∀k,k ∉ R.ids→k<h3.next→k ∉ R4.ids:=fun k hk hk2 hc=>by
        rcases hB4.ids k hc with h1 | h1
        · exact hk h1
        · omega
      have hr4:RIs (fun k=>k ∉ R4.ids) h4 kw kl M:=by
        refine ((hr3.imp (B:=fun k=>k ∉ R.ids∧k<h3.next) fun k hk hh=>⟨hh,hk⟩).off hB4.nx fun k hk hh=>hB4.off k hk ?_).imp fun k _ hk=>hin4 k hk.1 hk.2
        rcases hh with hh | rfl | rfl
        · exact hh.1
        · exact hkwn
        · exact hkln
      have hkwn4:=hin4 kw hkwn hkw3.1
      have hkln4:=hin4 kl hkln hkw3.2
      have hrf:=hfine.rfine (by omega) hkeys
      have hdoq:=doQ_doR hfine (by omega) hkeys hroom o2
      have hrdo:=rDo_ret W (fun k=>k ∉ R4.ids) h4 (fun k hk hc=>by have:=hm4.low k hc; omega) kw kl M hr4 hrf o2 hok.a hok.p hok.t (fun _=>(rdo_us hfine (by omega) hkeys o2).uok (by omega)) rdo_data
      rw [hdoq] at hrdo
      simp only [Opn.cells] at hrdo
      have hf4:=do_fine hfine hi200 o2
      have hs4:=do_short hshort o2
      have hro4:=do_room hfine hkeys hroom o2
      have hnames:=do_names (fun nd hn=>by have:=(hus.2 nd hn).sl; omega) o2
      generalize doR M o2=rm at hnv hm4 hrdo hf4 hs4 hro4 hnames ⊢
      obtain ⟨r,M'⟩:=rm
      simp only at hnv hm4 hrdo hf4 hs4 hro4 hnames
      simp [push_cast,zx9,zy9,SgO,opA,isE,isRead]
      refine jb9 (f:=18) (args:=[.ptr (some (.new kw 0)),.agg [.int .i64 o2.kd,.int .i64 o2.at_,.int .i64 o2.n,.str o2.p,.str o2.t,.str o2.d]]) (by rfl) (by rfl) (by rfl) (by simp [fn18]) hrdo fun w h5 ⟨kl5,⟨nv2,hw,hnv2⟩,hr5,ho5,hkl5⟩=> ?_
      subst hw
      have hm5:MIs h5 R4 M':=hm4.off ho5.1 fun k hk=>ho5.2 k (hm4.low k hk) (fun e=>hkwn4 (e ▸ hk)) (fun e=>hkln4 (e ▸ hk))
      have hkln5:kl5 ∉ R4.ids:=by
        rcases hkl5 with rfl | h1
        · exact hkln4
        · exact fun hc=>by have:=hm4.low _ hc; omega
      refine ⟨?_,?_⟩
      · simp only [zz9,ja9]; exact ⟨fun hr=>absurd hr (by decide),fun hr=>absurd hr (by decide),trivial⟩
      simp [push_cast,zx9,zy9,SgO,opA,isE,isRead]
      have hs1:StrS W h5 nv r.names:=by
        rcases hnv with ⟨h0,rfl⟩ | ⟨k,b1,b2,b3,rfl⟩
        · rw [h0]; exact StrS.nil
        · have hg5:h5.get k=some (.cells (r.names.map .str) 9):=(ho5.2 k b2 (by omega) (by omega)).trans b3
          exact ⟨_,_,_,rfl,⟨Nat.le_refl _,.inr rfl⟩,fun j x hx=>⟨_,rfl,Nat.lt_of_lt_of_le b2 ho5.1,by simp only [AA.add,aCell,hg5,Nat.zero_add]; simp [hx],_,hg5⟩⟩
      refine jb9 (f:=16) (args:=[.agg (res6 r.e r.data r.kind r.links r.size nv),.agg (res6 r.e r.data r.kind r.links r.size nv2)]) (by rfl) (by rfl) (by rfl) (by simp [fn16]) (result_ret W h5 r nv nv2 hs1 hnv2.strS (by omega)) fun w h6 ⟨hw,hk6⟩=> ?_
      subst hw
      refine ⟨?_,?_⟩
      · simp only [zz9,ja9]; exact ⟨fun hr=>absurd hr (by decide),fun hr=>absurd hr (by decide),trivial⟩
      simp [push_cast,zx9,zy9,SgO,opA,isE,isRead,aUn_not',wi]
      exact ⟨m - 1,by omega,by simp,i + 1,R4,M',kl5,by omega,hm5.keeps hk6,hf4,hs4,hro4,hB4.hds.1,hr5.keep hk6,hkwn4,hkln5,by simp⟩
    have hlt':¬(i:Int)<(l.length:Int):=by omega
    simp [push_cast,hlt']
    refine jg9 (by simp [fn19]) (used_fine W R M i hfine hi200 h' hm) fun w2 h4 hk4 hw2=> ?_
    subst hw2
    have hm4:=hm.keeps hk4
    have hr4:=hr.keep hk4
    simp [push_cast]
    refine jg9 (by simp [fn21]) (tree_fine W R M i hfine hi200 hshort h4 hm4) fun w1 h5 hk5 ht1=> ?_
    have hr5:=hr4.keep hk5
    simp [push_cast]
    refine jg9 (by simp [fn22]) (rtree_ret W _ h5 kw kl M i hfine (by omega) hkeys hshort hr5) fun w3 h6 hk6 ht3=> ?_
    have hr6:=hr5.keep hk6
    have htl:=tree_len hfine hi200 (M.nodes.length + 1)
    have hmem:∀f∈treeM M,f.blocks.length<1099511627776:=fun f hf=>by
      obtain ⟨nd,hn,e⟩:=tree_memD _ _ _ f hf
      rw [e]
      have:=(hus.2 nd hn).ind (by omega)
      omega
    simp [push_cast]
    refine jf9 (by simp [fn20]) (same14_ret W h6 h4 h5 w1 w3 (treeM M) (ht1.keeps hk6) ht3 (by change (treeR M (M.nodes.length + 1) [] 0).length<_; omega) hmem) fun h7 hk7=> ?_
    have hr7:=hr6.keep hk7
    have hU:=hus.uok (by omega)
    simp [push_cast]
    refine jf9 (by simp [fn23]) (rused_ret W _ h7 kw kl M hr7 hU.sh hU.few hU.co) fun h8 hk8=> ?_
    have hr8:=hr7.keep hk8
    simp [push_cast]
    refine jf9 (by simp [fn24]) (rinodes_ret W _ h8 kw kl M hr8 hU.few) fun h9 hk9=> ?_
    simp [push_cast]
    refine jh9 (by simp [fn15]) (speaks_ret W _) ?_
    simp [push_cast]
theorem does_law (W:World) (sv av:AV) {n:Nat} (hs:∃a b c:Int,sv= .agg [.int .i64 a,.int .i64 b,.int .i64 c]) (hn:n≤1048576) (h:n<1000000000→∃l:List Opn,OpsS W av l∧l.length≤n):
    ACall (CC W) 3 [sv,av] AH.empty (fun w _=>w= .bool true) (fun _ _=>False):=by
  obtain ⟨l,hv,hl⟩:=h (by omega)
  obtain ⟨a,b,c,rfl⟩:=hs
  exact does_ret W av l hv a b c (by omega)
end Go.Proofs.YtbofhlifobjolaaGreatDoor.Ax
end
