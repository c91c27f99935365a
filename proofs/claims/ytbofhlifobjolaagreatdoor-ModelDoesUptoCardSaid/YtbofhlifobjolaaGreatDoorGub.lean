/- The texts RfI, RfJ, RfK, RfL, RfM, RfN, RfO, RfP, RfQ, RfR, as one. -/
import Derived.Test.YtbofhlifobjolaaGreatDoorGua
import Derived.Test.YtbofhlifobjolaaGreatDoorGtc
import Derived.Test.YtbofhlifobjolaaGreatDoorGi
section
set_option linter.unusedVariables false
set_option linter.unusedSimpArgs false
namespace Go.Proofs.YtbofhlifobjolaaGreatDoor.Ax
open Go.RowKit
set_option maxHeartbeats 4000000 in
theorem rfails_ret (W:World) (h:AH) (e:Int):RetK (CC W) 88 [.int .i64 e] h (resE e):=by
  refine jj9 (cc_ok W) (fn88 W) (by simp only [Tryz.f88]; rfl) rfl rfl ?_
  have hst:=st_res (W:=W) (h:=h.push (.cells res0 39)) (k:=h.next) (a:= .int .i64 0) (b:= .str []) (c:= .int .i64 0) (d:= .int .i64 0) (e:= .int .i64 0) (f:= .sl none 0 0 none) (e1:=e) (d1:=[]) (k1:=0) (l1:=0) (s1:=0) (p:=none) (n:=0) (q:=0) (g:=none) (by simp [res0])
  simp [push_cast,alloc_res,build_resE,resE,res6,hst,ld_resS]
  exact (Keeps.push h _).set (Nat.le_refl _) _
def oddQ (o:Opn):Int:=
  if o.kd=3 then (if o.at_<0∨1024<o.d.length then 309 else 0)
  else if o.kd=4 then (if o.n<0 then 309 else if 533248<o.n then 307 else 0)
  else if o.kd=5 then (if o.at_<0∨o.n<0∨1024<o.n then 309 else 0) else 0
set_option maxHeartbeats 8000000 in
set_option maxRecDepth 20000 in
theorem rodd_ret (W:World) (h:AH) (o:Opn):RetK (CC W) 126 [.agg o.cells] h (.int .i64 (oddQ o)):=by
  refine jj9 (cc_ok W) (fn126 W) (by simp only [Tryz.f126]; rfl) rfl rfl ?_
  have hbx:=box_op (h:=h) (l:=o.cells)
  have hk1:=Keeps.push h (.cells o.cells 35)
  have hg1:(h.push (.cells o.cells 35)).get h.next=some (.cells o.cells 35):=by simp
  generalize h.push (.cells o.cells 35)=h1 at hbx hk1 hg1
  generalize h.next=kb at hbx hg1
  simp only [Opn.cells] at hbx hg1
  have hlen:aLen (CC W) h1 9 (.str o.d)=some (.int .i64 o.d.length):=by simp [aLen,kind9]
  by_cases k3:o.kd=3
  · have k3':(o.kd==3)=true:=by simpa using k3
    by_cases c1:o.at_<0
    · have hq:oddQ o=309:=by simp only [oddQ,if_pos k3,if_pos (Or.inl c1)]
      simp [push_cast,Opn.cells,hbx,fa35_0,fa35_1,ld3,ji9 hg1,jd9,k3',c1,hq,hk1]
    · by_cases c2:1024<o.d.length
      · have c2':(1024:Int)<(o.d.length:Int):=by omega
        have hq:oddQ o=309:=by simp only [oddQ,if_pos k3,if_pos (Or.inr c2)]
        simp [push_cast,Opn.cells,hbx,fa35_0,fa35_1,fa35_5,ld3,ld9,ji9 hg1,jd9,k3',c1,hlen,c2',hq,hk1]
      · have c2':¬(1024:Int)<(o.d.length:Int):=by omega
        have hq:oddQ o=0:=by simp only [oddQ,if_pos k3,if_neg (show ¬(o.at_<0∨1024<o.d.length) by omega)]
        simp [push_cast,Opn.cells,hbx,fa35_0,fa35_1,fa35_5,ld3,ld9,ji9 hg1,jd9,k3',c1,hlen,c2',hq,hk1]
  have k3':(o.kd==3)=false:=by simpa using k3
  by_cases k4:o.kd=4
  · have k4':(o.kd==4)=true:=by simpa using k4
    by_cases c1:o.n<0
    · have hq:oddQ o=309:=by simp only [oddQ,if_neg k3,if_pos k4,if_pos c1]
      simp [push_cast,Opn.cells,hbx,fa35_0,fa35_2,ld3,ji9 hg1,jd9,k3',k4',c1,hq,hk1]
    · by_cases c2:533248<o.n
      · have hq:oddQ o=307:=by simp only [oddQ,if_neg k3,if_pos k4,if_neg c1,if_pos c2]
        simp [push_cast,Opn.cells,hbx,fa35_0,fa35_2,ld3,ji9 hg1,jd9,k3',k4',c1,c2,hq,hk1]
      · have hq:oddQ o=0:=by simp only [oddQ,if_neg k3,if_pos k4,if_neg c1,if_neg c2]
        simp [push_cast,Opn.cells,hbx,fa35_0,fa35_2,ld3,ji9 hg1,jd9,k3',k4',c1,c2,hq,hk1]
  have k4':(o.kd==4)=false:=by simpa using k4
  by_cases k5:o.kd=5
  · have k5':(o.kd==5)=true:=by simpa using k5
    by_cases c1:o.at_<0
    · have hq:oddQ o=309:=by simp only [oddQ,if_neg k3,if_neg k4,if_pos k5,if_pos (Or.inl c1)]
      simp [push_cast,Opn.cells,hbx,fa35_0,fa35_1,ld3,ji9 hg1,jd9,k3',k4',k5',c1,hq,hk1]
    · by_cases c2:o.n<0
      · have hq:oddQ o=309:=by simp only [oddQ,if_neg k3,if_neg k4,if_pos k5,if_pos (show o.at_<0∨o.n<0∨1024<o.n by omega)]
        simp [push_cast,Opn.cells,hbx,fa35_0,fa35_1,fa35_2,ld3,ji9 hg1,jd9,k3',k4',k5',c1,c2,hq,hk1]
      · by_cases c3:1024<o.n
        · have hq:oddQ o=309:=by simp only [oddQ,if_neg k3,if_neg k4,if_pos k5,if_pos (show o.at_<0∨o.n<0∨1024<o.n by omega)]
          simp [push_cast,Opn.cells,hbx,fa35_0,fa35_1,fa35_2,ld3,ji9 hg1,jd9,k3',k4',k5',c1,c2,c3,hq,hk1]
        · have hq:oddQ o=0:=by simp only [oddQ,if_neg k3,if_neg k4,if_pos k5,if_neg (show ¬(o.at_<0∨o.n<0∨1024<o.n) by omega)]
          simp [push_cast,Opn.cells,hbx,fa35_0,fa35_1,fa35_2,ld3,ji9 hg1,jd9,k3',k4',k5',c1,c2,c3,hq,hk1]
  have k5':(o.kd==5)=false:=by simpa using k5
  have hq:oddQ o=0:=by simp only [oddQ,if_neg k3,if_neg k4,if_neg k5]
  simp [push_cast,Opn.cells,hbx,fa35_0,ld3,ji9 hg1,jd9,k3',k4',k5',hq,hk1]
theorem fnd_none {k:Int}:∀{b:Blk} {i:Nat},fnd k b i=none↔k ∉ b.map (·.1)
  | [],i=>by simp [fnd]
  | x::b,i=>by
    by_cases e:x.1=k
    · simp [fnd,e]
    · simp only [fnd,e,if_false,List.map_cons,List.mem_cons,not_or]
      rw [fnd_none (b:=b)]
      exact ⟨fun h=>⟨fun e2=>e e2.symm,h⟩,fun h=>h.2⟩
theorem mem_ix {nd:Nd} {k:Int}:k∈ixR nd↔blkAt nd.blocks k≠none:=by
  unfold ixR blkAt
  rw [(sortI_perm _).mem_iff]
  cases hf:fnd k (nd.blocks.getD []) 0 with
  | none=>simp [fnd_none.1 hf]
  | some p=>
    refine ⟨fun _=>by simp,fun _=> ?_⟩
    refine Classical.byContradiction fun hc=> ?_
    rw [fnd_none.2 hc] at hf; cases hf
def BlI (h1:AH) (iv:AV) (k:Int) (kb:Nat) (l:List Int) (n:Nat) (e':Env) (h':AH):Prop:=
  e'.length=27∧h'=h1∧∃i:Nat,i + n=l.length∧(∀j x,j<i→l[j]? =some x→x≠k)∧(e'.getD 1 .undef= .int .i64 k∧e'.getD 2 .undef= .ptr (some (.new kb 0))∧iv=e'.getD 9 .undef∧e'.getD 10 .undef= .int .i64 l.length∧e'.getD 11 .undef= .int .i64 i)
set_option maxHeartbeats 8000000 in
set_option maxRecDepth 20000 in
theorem rblock_ret (W:World) (A:Nat→Prop) (h:AH) (cs:List AV) (nd:Nd) (hn:NdC A h cs nd) (hl:NdShort nd) (k:Int):
    RetK (CC W) 149 [.agg cs,.int .i64 k] h (.tup [.str ((blkAt nd.blocks k).getD zblk),.bool (blkAt nd.blocks k).isSome]):=by
  refine jj9 (cc_ok W) (fn149 W) (by simp only [Tryz.f149]; rfl) rfl rfl ?_
  obtain ⟨iv,dv,nv,sv,rfl,hiv,hdv,_,_⟩:=hn
  have hbx:=box_rn (h:=h) (l:=[.int .i64 nd.kind,.int .i64 nd.links,.int .i64 nd.size,iv,dv,nv,sv])
  have hk1:=Keeps.push h (.cells [.int .i64 nd.kind,.int .i64 nd.links,.int .i64 nd.size,iv,dv,nv,sv] 100)
  have hg1:(h.push (.cells [.int .i64 nd.kind,.int .i64 nd.links,.int .i64 nd.size,iv,dv,nv,sv] 100)).get h.next=some (.cells [.int .i64 nd.kind,.int .i64 nd.links,.int .i64 nd.size,iv,dv,nv,sv] 100):=by simp
  generalize h.push (.cells [.int .i64 nd.kind,.int .i64 nd.links,.int .i64 nd.size,iv,dv,nv,sv] 100)=h1 at hbx hk1 hg1
  generalize h.next=kb at hbx hg1
  have hiv1:=hiv.keep hk1
  have hdv1:=hdv.keep hk1
  have hln:=hiv1.len (W:=W) (T:=53) (kind53 W) (h2:=h1)
  have hl1:=hl.1
  simp [push_cast,hbx,fa100_3,ld53,ji9 hg1,jd9,hln]
  refine loopN (cc_ok W) (BlI h1 iv k kb (ixR nd)) (ixR nd).length ⟨by simp,rfl,0,by simp,fun j x hj=>by omega,by simp⟩ ?_
  rintro n e' h' ⟨hlen',rfl,i,him,hno,hh⟩
  obtain ⟨a0,a1,a2,a3,a4,a5,a6,a7,a8,a9,rS0,rfl,hS0⟩:=un10 hlen'
  obtain ⟨a10,a11,a12,a13,a14,a15,a16,a17,a18,a19,rS10,rfl,hS10⟩:=un10 hS0
  obtain ⟨a20,rS20,rfl,hS20⟩:=un1 hS10
  obtain ⟨a21,rS21,rfl,hS21⟩:=un1 hS20
  obtain ⟨a22,rS22,rfl,hS22⟩:=un1 hS21
  obtain ⟨a23,rS23,rfl,hS23⟩:=un1 hS22
  obtain ⟨a24,rS24,rfl,hS24⟩:=un1 hS23
  obtain ⟨a25,rS25,rfl,hS25⟩:=un1 hS24
  obtain ⟨a26,rS26,rfl,hS26⟩:=un1 hS25
  obtain rfl:=un0 hS26
  clear hlen' hS0 hS10 hS20 hS21 hS22 hS23 hS24 hS25 hS26
  simp at hh
  obtain ⟨rfl,rfl,hv9,rfl,rfl⟩:=hh
  subst hv9
  by_cases hlt:i<(ixR nd).length
  · have hlt':(i:Int)<((ixR nd).length:Int):=by omega
    have wi:IntKind.i64.wrap ((i:Int) + 1)=(i:Int) + 1:=wrap64 (by omega) (by omega)
    obtain ⟨x,hy⟩:∃x,(ixR nd)[i]? =some x:=⟨(ixR nd)[i],by simp [hlt]⟩
    obtain ⟨q,_,_,hix,hld⟩:=hiv1.at (W:=W) (T:=53) (kind53 W) (size3 W) hy
    by_cases hx:x=k
    · have hx':(x==k)=true:=by simpa using hx
      have hdy:(dtR nd)[i]? =some ((blkAt nd.blocks x).getD []):=by simp only [dtR,List.getElem?_map,hy,Option.map]
      obtain ⟨q2,_,_,hix2,hld2⟩:=hdv1.at (W:=W) (T:=37) (kind37 W) (size9 W) hdy
      have hm:blkAt nd.blocks k≠none:=mem_ix.1 (hx ▸ List.mem_of_getElem? hy)
      obtain ⟨s,hs⟩:=Option.ne_none_iff_exists'.1 hm
      rw [hx,hs] at hld2
      simp [push_cast,hlt',hix,ld3,hld,hx',fa100_4,ld37,ji9 hg1,jd9,hix2,ld9,hld2,hs]
      exact hk1
    · have hx':(x==k)=false:=by simpa using hx
      simp [push_cast,hlt',hix,ld3,hld,hx',wi]
      exact ⟨n - 1,by omega,by simp,rfl,i + 1,by omega,fun j y hj hy'=>by
        rcases Nat.lt_or_ge j i with h1 | h1
        · exact hno j y h1 hy'
        · have:j=i:=by omega
          subst this
          rw [hy] at hy'; cases hy'; exact hx,by simp⟩
  · have hlt':¬(i:Int)<((ixR nd).length:Int):=by omega
    have hm:blkAt nd.blocks k=none:=by
      refine Classical.byContradiction fun hc=> ?_
      obtain ⟨j,hj⟩:=List.getElem?_of_mem (mem_ix.2 hc)
      have:=(List.getElem?_eq_some_iff.1 hj).1
      exact hno j k (by omega) hj rfl
    have hmk:=mk_zeros (W:=W) (h:=h') (n:=128) (by omega)
    have hcv:=conv_zeros (W:=W) (h:=h'.push (.cells (bcells (List.replicate 128 0)) 5)) (k:=h'.next) (n:=128) (by rw [AH.get_push,if_pos rfl])
    have hkz:=Keeps.push h' (.cells (bcells (List.replicate 128 0)) 5)
    obtain ⟨zc,hzc⟩:∃zc,zc=bcells (List.replicate 128 0):=⟨_,rfl⟩
    rw [←hzc] at hmk hcv hkz
    have hzb:(List.replicate 128 0:List UInt8)=zblk:=rfl
    rw [hzb] at hcv
    generalize h'.push (.cells zc 5)=h2 at hmk hcv hkz
    simp at hmk hcv
    simp [push_cast,hlt',hmk,hcv,hm]
    exact hk1.trans hkz
def NewB (hb h:AH) (v:AV) (l:List UInt8):Prop:=Keeps hb h∧∃ko,BytV h ko v l∧∀k∈ko,hb.next≤k
theorem NewB.keep {hb h h':AH} {v:AV} {l:List UInt8} (hn:NewB hb h v l) (hk:Keeps h h'):NewB hb h' v l:=by
  obtain ⟨a,ko,b,c⟩:=hn
  refine ⟨a.trans hk,ko,?_,c⟩
  cases ko with
  | none=>exact b
  | some k=>obtain ⟨b1,b2,b3,b4⟩:=b; exact ⟨b1,Nat.lt_of_lt_of_le b2 hk.1,(hk.2 k b2).trans b3,b4⟩
theorem NewB.app {W:World} {hb h:AH} {v:AV} {l:List UInt8} (hn:NewB hb h v l) (x:UInt8) (hl:l.length<1000000):
    ∃v' h',aAppend (CC W) (h.push (.cells [.int .u8 x.toNat] 5)) #[51,51] v (.sl (some (.new h.next 0)) 1 1 none)=some (v',h')∧NewB hb h' v' (l ++ [x]):=by
  obtain ⟨a,ko,b,c⟩:=hn.keep (Keeps.push h (.cells [.int .u8 x.toNat] 5))
  have hni:niOK (CC W) #[51,51]=true:=_root_.id rfl
  have hnews:aNews (CC W) (h.push (.cells [.int .u8 x.toNat] 5)) 1 (.sl (some (.new h.next 0)) 1 1 none)=some ([x].length,bcells [x]):=by
    simp [aNews,aCells,bcells]
  obtain ⟨p,n,cc,g,ko',h',hap,hb',hx,hoff,hko⟩:=b.app (W:=W) (T2:=51) [x] (by simp; omega) hni hnews
  refine ⟨_,h',hap,⟨Nat.le_trans a.1 hx,fun j hj=> ?_⟩,ko',hb',fun k hk=> ?_⟩
  · rw [hoff j (Nat.lt_of_lt_of_le hj a.1) (fun e=>by have:=c j (by rw [e]; rfl); omega)]
    exact a.2 j hj
  · rcases hko with rfl | ⟨q,rfl,hq⟩
    · exact c k hk
    · cases hk
      have:=a.1
      omega
def BytI (h2:AH) (kb:Nat) (b:Option Blk) (cs:List AV) (at_ many:Int) (A N:Nat) (n:Nat) (e':Env) (h':AH):Prop:=
  e'.length=41∧∃i:Nat,i + n=N∧NewB h2 h' (e'.getD 7 .undef) (bytesAt b A i)∧(e'.getD 1 .undef= .int .i64 at_∧e'.getD 2 .undef= .int .i64 many∧e'.getD 3 .undef= .ptr (some (.new kb 0))∧e'.getD 8 .undef= .int .i64 ((A:Int) + i))
set_option maxHeartbeats 8000000 in
set_option maxRecDepth 20000 in
theorem rbytes_ret (W:World) (Ap:Nat→Prop) (h:AH) (cs:List AV) (nd:Nd) (hn:NdC Ap h cs nd) (hl:NdShort nd) (h128:∀k s,blkAt nd.blocks k=some s→s.length=128) (hsz:0≤nd.size∧nd.size<1000000000) (a many:Int) (ha:0≤a∧a<9223372036854775808) (hm:0≤many∧many≤1024):
    RetK (CC W) 127 [.agg cs,.int .i64 a,.int .i64 many] h (.str (bytesAt nd.blocks a.toNat (min many (max (nd.size - a) 0)).toNat)):=by
  refine jj9 (cc_ok W) (fn127 W) (by simp only [Tryz.f127]; rfl) rfl rfl ?_
  have hbx:=box_rn (h:=h) (l:=cs)
  have hk1:=Keeps.push h (.cells cs 100)
  have hg1:(h.push (.cells cs 100)).get h.next=some (.cells cs 100):=by simp
  have hb1:h.next<(h.push (.cells cs 100)).next:=by simp
  generalize h.push (.cells cs 100)=h1 at hbx hk1 hg1 hb1
  generalize h.next=kb at hbx hg1 hb1
  have hn1:=hn.keep hk1
  obtain ⟨A,rfl⟩:=Int.eq_ofNat_of_zero_le ha.1
  obtain ⟨N,hN⟩:=Int.eq_ofNat_of_zero_le (show 0≤min many (max (nd.size - (A:Int)) 0) by omega)
  rw [hN,Int.toNat_natCast,Int.toNat_natCast]
  simp [push_cast,hbx]
  refine loopN (cc_ok W) (BytI h1 kb nd.blocks cs A many A N) N ⟨by simp,0,by simp,⟨Keeps.refl _,none,⟨rfl,rfl⟩,by simp⟩,by simp⟩ ?_
  rintro n e' h' ⟨hlen',i,him,hnb,hh⟩
  obtain ⟨a0,a1,a2,a3,a4,a5,a6,a7,a8,a9,rS0,rfl,hS0⟩:=un10 hlen'
  obtain ⟨a10,a11,a12,a13,a14,a15,a16,a17,a18,a19,rS10,rfl,hS10⟩:=un10 hS0
  obtain ⟨a20,a21,a22,a23,a24,a25,a26,a27,a28,a29,rS20,rfl,hS20⟩:=un10 hS10
  obtain ⟨a30,a31,a32,a33,a34,a35,a36,a37,a38,a39,rS30,rfl,hS30⟩:=un10 hS20
  obtain ⟨a40,rS40,rfl,hS40⟩:=un1 hS30
  obtain rfl:=un0 hS40
  clear hlen' hS0 hS10 hS20 hS30 hS40
  simp at hh hnb
  obtain ⟨rfl,rfl,rfl,rfl⟩:=hh
  have hg':=(hnb.1.2 kb hb1).trans hg1
  have hn':=hn1.keep hnb.1
  obtain ⟨iv,dv,nv,sv,hcs,_⟩:=_root_.id hn'
  subst hcs
  have hld:=ld_rn (W:=W) hg'
  have hbl:(bytesAt nd.blocks A i).length=i:=by simp [bytesAt]
  by_cases hlt:i<N
  · have w1:IntKind.i64.wrap ((A:Int) + many)=(A:Int) + many:=wrap64 (by omega) (by omega)
    have c1:(A:Int) + i<(A:Int) + many:=by omega
    have c2:(A:Int) + i<nd.size:=by omega
    have wi:IntKind.i64.wrap ((A:Int) + (i:Int) + 1)=(A:Int) + ((i + 1:Nat):Int):=by rw [wrap64 (by omega) (by omega)]; push_cast; omega
    have wq:IntKind.i64.wrap (Int.tdiv ((A:Int) + (i:Int)) 128)=(((A + i) / 128:Nat):Int):=by
      rw [Int.tdiv_eq_ediv_of_nonneg (by omega),wrap64 (by omega) (by omega)]; omega
    have wr:Int.tmod ((A:Int) + (i:Int)) 128=(((A + i) % 128:Nat):Int):=by
      rw [Int.tmod_eq_emod_of_nonneg (by omega)]; omega
    have hby:byteAt nd.blocks (A + i)=(((blkAt nd.blocks (((A + i) / 128:Nat):Int)).getD zblk)[(A + i) % 128]?).getD 0:=by
      simp only [byteAt]
      cases hbk:blkAt nd.blocks (((A + i) / 128:Nat):Int) with
      | some s=>simp
      | none=>
        have hr:(A + i) % 128<128:=Nat.mod_lt _ (by omega)
        rw [Option.getD_none]
        unfold zblk
        rw [List.getElem?_replicate,if_pos hr]
        rfl
    have hsl:((blkAt nd.blocks (((A + i) / 128:Nat):Int)).getD zblk).length=128:=by
      cases hbk:blkAt nd.blocks (((A + i) / 128:Nat):Int) with
      | some s=>exact h128 _ _ hbk
      | none=>rfl
    have hrb:=rblock_ret W Ap h' _ nd hn' hl (((A + i) / 128:Nat):Int)
    generalize hq:(((A + i) / 128:Nat):Int)=q at wq hby hsl hrb
    generalize hr2:(A + i) % 128=rr at wr hby
    have hrr:rr<128:=by omega
    generalize hS:(blkAt nd.blocks q).getD zblk=s at hby hsl hrb
    have hxs:s[rr]? =some s[rr]:=by simp [hsl,hrr]
    have hix:aIndex (CC W) 9 (.str s) (.int .i64 (rr:Int))=some (.int .u8 (s[rr]).toNat):=by
      simp only [aIndex,kind9,Int.toNat_natCast,hxs,Option.map_some]
      rw [if_pos (by omega)]
    rw [hxs,Option.getD_some] at hby
    simp [push_cast,w1,c1,c2,fa100_2,ld3,ji9 hg',jd9,hld,wq]
    refine jf9 (by simp [fn149]) hrb fun h2 hk2=> ?_
    obtain ⟨v',h3,hap,hnb3⟩:=(hnb.keep hk2).app (W:=W) s[rr] (by omega)
    simp [push_cast,wr,hix,build_byte,hap,wi]
    exact ⟨n - 1,by omega,by simp,i + 1,by omega,by rw [bytesAt_succ,hby]; exact hnb3,by simp⟩
  · obtain ⟨_,ko,hbv,_⟩:=_root_.id hnb
    have hcv:=conv_bytes (W:=W) hbv
    have hiN:i=N:=by omega
    by_cases c1:(A:Int) + i<IntKind.i64.wrap ((A:Int) + many)
    · have c2:¬(A:Int) + i<nd.size:=by
        intro hc
        have w1:IntKind.i64.wrap ((A:Int) + many)=(A:Int) + many:=wrap64 (by omega) (by omega)
        rw [w1] at c1
        omega
      simp [push_cast,c1,c2,fa100_2,ld3,ji9 hg',jd9,hcv]
      exact ⟨by rw [hiN],hk1.trans hnb.1⟩
    · simp [push_cast,c1,hcv]
      exact ⟨by rw [hiN],hk1.trans hnb.1⟩
theorem bytesLess_lt:∀(x y:List UInt8),Op.bytesLess x y=decide (x<y)
  | [],[]=>rfl
  | [],b::y=>by simp [Op.bytesLess]
  | a::x,[]=>by simp [Op.bytesLess]
  | a::x,b::y=>by
    rw [Op.bytesLess,bytesLess_lt x y]
    simp [List.cons_lt_cons_iff,Bool.decide_or,Bool.decide_and]
    rfl
def insT (s:List UInt8):List (List UInt8)→List (List UInt8)
  | []=>[s]
  | x::l=>if s<x then s::x::l else x::insT s l
theorem insT_perm (s:List UInt8):∀l,(insT s l).Perm (s::l)
  | []=>List.Perm.refl _
  | x::l=>by
    unfold insT
    split
    · exact List.Perm.refl _
    · exact ((insT_perm s l).cons x).trans (List.Perm.swap s x l)
theorem insT_sorted (s:List UInt8):∀l:List (List UInt8),l.Pairwise (·≤ ·)→(insT s l).Pairwise (·≤ ·)
  | [],_=>by simp [insT]
  | x::l,h=>by
    obtain ⟨h1,h2⟩:=List.pairwise_cons.1 h
    unfold insT
    split
    · rename_i hlt
      have hle:s≤x:=List.le_of_lt hlt
      exact List.pairwise_cons.2 ⟨fun y hy=>by
        rcases List.mem_cons.1 hy with rfl | hy
        · exact hle
        · exact List.le_trans hle (h1 y hy),h⟩
    · rename_i hlt
      have hle:x≤s:=List.not_lt.1 hlt
      refine List.pairwise_cons.2 ⟨fun y hy=> ?_,insT_sorted s l h2⟩
      rcases List.mem_cons.1 ((insT_perm s l).mem_iff.1 hy) with rfl | hy
      · exact hle
      · exact h1 y hy
def sortQ (l:List (List UInt8)):List (List UInt8):=l.foldl (fun o s=>insT s o) []
theorem sortQ_go:∀(l o:List (List UInt8)),o.Pairwise (·≤ ·)→(l.foldl (fun o s=>insT s o) o).Perm (o ++ l)∧(l.foldl (fun o s=>insT s o) o).Pairwise (·≤ ·)
  | [],o,h=>⟨by simp,h⟩
  | s::l,o,h=>by
    obtain ⟨h1,h2⟩:=sortQ_go l (insT s o) (insT_sorted s o h)
    refine ⟨h1.trans ?_,h2⟩
    exact ((insT_perm s o).append_right l).trans List.perm_middle.symm
theorem sortQ_eq (l:List (List UInt8)):sortQ l=sortT l:=by
  obtain ⟨h1,h2⟩:=sortQ_go l [] .nil
  have h3:(sortT l).Perm l:=List.mergeSort_perm _ _
  have h4:(sortT l).Pairwise (·≤ ·):=by
    have:=List.pairwise_mergeSort (le:=fun x y:List UInt8=>decide (x≤y)) (fun a b c h1 h2=>by
      simp only [decide_eq_true_eq] at h1 h2 ⊢; exact List.le_trans h1 h2) (fun a b=>by
      simp only [Bool.or_eq_true,decide_eq_true_eq]; exact List.le_total a b) l
    exact this.imp fun h=>of_decide_eq_true h
  simp only [List.nil_append] at h1
  exact List.Perm.eq_of_pairwise (fun a b _ _ h1 h2=>List.le_antisymm h1 h2) h2 h4 (h1.trans h3.symm)
theorem sortQ_snoc (l:List (List UInt8)) (s:List UInt8):sortQ (l ++ [s])=insT s (sortQ l):=by simp [sortQ]
def nmsL (l:List (List UInt8)):List (List UInt8):=l.filter fun s=>decide (s≠[])
theorem nmsR_eq (l:List Slt):nmsR l=nmsL (l.map (·.nm)):=by
  unfold nmsR nmsL
  induction l with
  | nil=>rfl
  | cons x l ih=>
    by_cases h:x.nm=[]
    · simp [h,ih]
    · simp [h,ih]
def SqI (hb:AH) (nv:AV) (l:List (List UInt8)) (n:Nat) (e':Env) (h':AH):Prop:=
  e'.length=50∧Keeps hb h'∧∃i:Nat,i + n=l.length∧OwT (fun k=>hb.next≤k) h' (e'.getD 3 .undef) (sortQ (nmsL (l.take i)))∧(nv=e'.getD 11 .undef∧e'.getD 12 .undef= .int .i64 l.length∧e'.getD 13 .undef= .int .i64 i)
def SrI (hb:AH) (nv ov:AV) (l o:List (List UInt8)) (i:Nat) (s:List UInt8) (n:Nat) (e':Env) (h':AH):Prop:=
  e'.length=50∧Keeps hb h'∧OwT (fun k=>hb.next≤k) h' ov o∧∃(j:Nat) (p:Bool) (m:List (List UInt8)),j + n=o.length∧OwT (fun k=>hb.next≤k) h' (e'.getD 6 .undef) m∧(∀k n c g,ov= .sl (some (.new k 0)) n c g→∀k2 n2 c2 g2,e'.getD 6 .undef= .sl (some (.new k2 0)) n2 c2 g2→k≠k2)∧m.length≤j + 1∧
    (p=true→m ++ o.drop j=insT s o)∧(p=false→m=o.take j∧m ++ insT s (o.drop j)=insT s o)∧
    (ov=e'.getD 3 .undef∧e'.getD 5 .undef= .str s∧e'.getD 7 .undef= .bool p∧nv=e'.getD 11 .undef∧e'.getD 12 .undef= .int .i64 l.length∧e'.getD 13 .undef= .int .i64 i∧ov=e'.getD 19 .undef∧e'.getD 20 .undef= .int .i64 o.length∧e'.getD 21 .undef= .int .i64 j)
theorem OwT.more {W:World} {hb h:AH} {v ov:AV} {m o:List (List UInt8)} (hk:Keeps hb h) (hm:OwT (fun k=>hb.next≤k) h v m) (ho:OwT (fun k=>hb.next≤k) h ov o) (hd:∀k n c g,ov= .sl (some (.new k 0)) n c g→∀k2 n2 c2 g2,v= .sl (some (.new k2 0)) n2 c2 g2→k≠k2) (x:List UInt8) (hl:m.length<1000000000):
    ∃v' h',aAppend (CC W) (h.push (.cells [.str x] 9)) #[37,37] v (.sl (some (.new h.next 0)) 1 1 none)=some (v',h')∧Keeps hb h'∧OwT (fun k=>hb.next≤k) h' v' (m ++ [x])∧OwT (fun k=>hb.next≤k) h' ov o∧(∀k n c g,ov= .sl (some (.new k 0)) n c g→∀k2 n2 c2 g2,v'= .sl (some (.new k2 0)) n2 c2 g2→k≠k2):=by
  obtain ⟨v',h',hap,hm',hn,hoff⟩:=hm.app1 (W:=W) (T:=37) (kind37 W) (size9 W) (zero9 W) bytes_s (by omega) (_root_.id rfl) (x:=x) rfl hl
  have hlo:=hk.1
  have key:∀j,j<h.next→j<hb.next→h'.get j=h.get j:=fun j hj hjb=>hoff j hj fun k n c g hv=>by
    rcases hm with ⟨_,h0⟩ | ⟨k',a1,_,_,_,a5⟩
    · rw [h0] at hv; cases hv
    · rw [a5] at hv
      simp only [AV.sl.injEq,Option.some.injEq,AA.new.injEq] at hv
      omega
  refine ⟨v',h',hap,⟨by omega,fun j hj=>(key j (by omega) hj).trans (hk.2 j hj)⟩,hm'.imp fun k _ hk=>by omega,?_,fun k n c g hv k2 n2 c2 g2 hv2=> ?_⟩
  · rcases ho with h0 | ⟨k,a1,a2,a3,a4,a5⟩
    · exact .inl h0
    · exact .inr ⟨k,a1,by omega,a3,(hoff k a2 (fun k2 n c g hv=>hd k _ _ _ a5 k2 n c g hv)).trans a4,a5⟩
  · rcases ho with ⟨_,h0⟩ | ⟨k',a1,a2,a3,a4,a5⟩
    · rw [h0] at hv; cases hv
    · rcases hm' with ⟨_,h0⟩ | ⟨k3,b1,b2,b3,b4,b5⟩
      · rw [h0] at hv2; cases hv2
      · rw [a5] at hv
        rw [b5] at hv2
        simp only [AV.sl.injEq,Option.some.injEq,AA.new.injEq] at hv hv2
        omega
set_option maxHeartbeats 16000000 in
set_option maxRecDepth 20000 in
theorem rsorted_ret (W:World) (A:Nat→Prop) (h:AH) (cs:List AV) (nd:Nd) (hn:NdC A h cs nd) (hl:NdShort nd):
    RetQ (CC W) 99 [.agg cs] h (fun w h'=>OwT (fun k=>h.next≤k) h' w (sortT (nmsR nd.slots))):=by
  refine jj9 (cc_ok W) (fn99 W) (by simp only [Tryz.f99]; rfl) rfl rfl ?_
  obtain ⟨iv,dv,nv,sv,rfl,_,_,hnv,_⟩:=hn
  have hbx:=box_rn (h:=h) (l:=[.int .i64 nd.kind,.int .i64 nd.links,.int .i64 nd.size,iv,dv,nv,sv])
  have hk1:=Keeps.push h (.cells [.int .i64 nd.kind,.int .i64 nd.links,.int .i64 nd.size,iv,dv,nv,sv] 100)
  have hg1:(h.push (.cells [.int .i64 nd.kind,.int .i64 nd.links,.int .i64 nd.size,iv,dv,nv,sv] 100)).get h.next=some (.cells [.int .i64 nd.kind,.int .i64 nd.links,.int .i64 nd.size,iv,dv,nv,sv] 100):=by simp
  generalize h.push (.cells [.int .i64 nd.kind,.int .i64 nd.links,.int .i64 nd.size,iv,dv,nv,sv] 100)=h1 at hbx hk1 hg1
  obtain ⟨kb,hkb⟩:∃kb,kb=h.next:=⟨_,rfl⟩
  rw [←hkb] at hbx hg1
  have hnv1:=hnv.keep hk1
  have hl2:=hl.2
  rw [nmsR_eq, ←sortQ_eq]
  have hll:(nd.slots.map (·.nm)).length=nd.slots.length:=by simp
  generalize nd.slots.map (·.nm)=l at hnv1 hll
  have hln:=hnv1.len (W:=W) (T:=37) (kind37 W) (h2:=h1)
  simp [push_cast,hbx,fa100_5,ld37,ji9 hg1,jd9,hln]
  refine hideL fun Q1 K1 hQ1 hK1=> ?_
  refine loopN (cc_ok W) (SqI h1 nv l) l.length ⟨by simp,Keeps.refl _,0,by simp,.inl ⟨by simp [nmsL,sortQ],by simp⟩,by simp⟩ ?_
  rintro n e' h' ⟨hlen',hk,i,him,hov,hh⟩
  obtain ⟨a0,a1,a2,a3,a4,a5,a6,a7,a8,a9,rS0,rfl,hS0⟩:=un10 hlen'
  obtain ⟨a10,a11,a12,a13,a14,a15,a16,a17,a18,a19,rS10,rfl,hS10⟩:=un10 hS0
  obtain ⟨a20,a21,a22,a23,a24,a25,a26,a27,a28,a29,rS20,rfl,hS20⟩:=un10 hS10
  obtain ⟨a30,a31,a32,a33,a34,a35,a36,a37,a38,a39,rS30,rfl,hS30⟩:=un10 hS20
  obtain ⟨a40,a41,a42,a43,a44,a45,a46,a47,a48,a49,rS40,rfl,hS40⟩:=un10 hS30
  obtain rfl:=un0 hS40
  clear hlen' hS0 hS10 hS20 hS30 hS40
  simp at hh hov
  obtain ⟨hv11,rfl,rfl⟩:=hh
  subst hv11
  obtain ⟨ov,hove⟩:∃ov,ov=a3:=⟨_,rfl⟩
  rw [←hove] at hov
  rw [←hove]
  by_cases hlt:i<l.length
  case neg=>
    have hlt':¬(i:Int)<(l.length:Int):=by omega
    have htk:l.take i=l:=List.take_of_length_le (by omega)
    rw [htk] at hov
    subst hQ1 hK1
    simp [push_cast,hlt,hlt']
    exact ⟨hk1.trans hk,hov.imp fun k _ h2=>Nat.le_trans hk1.1 h2⟩
  have hlt':(i:Int)<(l.length:Int):=by omega
  have wi:IntKind.i64.wrap ((i:Int) + 1)=(i:Int) + 1:=wrap64 (by omega) (by omega)
  obtain ⟨s,hy⟩:∃s,l[i]? =some s:=⟨l[i],by simp [hlt]⟩
  obtain ⟨q,_,_,hix,hld⟩:=(hnv1.keep hk).at (W:=W) (T:=37) (kind37 W) (size9 W) hy
  have htk:nmsL (l.take (i + 1))=if s=[] then nmsL (l.take i) else nmsL (l.take i) ++ [s]:=by
    rw [List.take_add_one,hy]
    by_cases hs:s=[]<;>simp [nmsL,hs]
  have hol:(sortQ (nmsL (l.take i))).length≤i:=by
    rw [sortQ_eq]
    have h1:(sortT (nmsL (l.take i))).length=(nmsL (l.take i)).length:=(List.mergeSort_perm _ _).length_eq
    have h2:(nmsL (l.take i)).length≤(l.take i).length:=List.length_filter_le _ _
    simp at h2; omega
  by_cases hs:s=[]
  · rw [if_pos hs] at htk
    simp [push_cast,hlt',hix,ld9,hld,aStr,hs,wi]
    exact ⟨n - 1,by omega,by simp,hk,i + 1,by omega,by rw [htk]; exact hov,by simp⟩
  rw [if_neg hs] at htk
  have hs':(s==[])=false:=by simpa using hs
  have hlo:=hov.len (W:=W) (T:=37) (kind37 W) (h2:=h')
  have hsn:sortQ (nmsL (l.take (i + 1)))=insT s (sortQ (nmsL (l.take i))):=by rw [htk,sortQ_snoc]
  generalize sortQ (nmsL (l.take i))=o at hov hol hlo hsn
  simp [push_cast,hlt',hix,ld9,hld,aStr,hs,hlo]
  refine hideL fun Q2 K2 hQ2 hK2=> ?_
  refine loopN (cc_ok W) (SrI h1 nv ov l o i s) o.length ⟨by simp,hk,hov,0,false,[],by simp,.inl ⟨rfl,by simp⟩,by simp,by simp,by simp,by simp,by simp⟩ ?_
  rintro n2 e2 h2 ⟨hlen2,hk2,hov2,j,p,m,hjm,hmv,hdif,hml,hp1,hp0,hh⟩
  obtain ⟨a0,a1,a2,a3,a4,a5,a6,a7,a8,a9,rS0,rfl,hS0⟩:=un10 hlen2
  obtain ⟨a10,a11,a12,a13,a14,a15,a16,a17,a18,a19,rS10,rfl,hS10⟩:=un10 hS0
  obtain ⟨a20,a21,a22,a23,a24,a25,a26,a27,a28,a29,rS20,rfl,hS20⟩:=un10 hS10
  obtain ⟨a30,a31,a32,a33,a34,a35,a36,a37,a38,a39,rS30,rfl,hS30⟩:=un10 hS20
  obtain ⟨a40,a41,a42,a43,a44,a45,a46,a47,a48,a49,rS40,rfl,hS40⟩:=un10 hS30
  obtain rfl:=un0 hS40
  clear hlen2 hS0 hS10 hS20 hS30 hS40
  simp at hh hmv hdif
  obtain ⟨b3,rfl,rfl,b11,rfl,rfl,b19,rfl,rfl⟩:=hh
  subst b3 b11 b19
  by_cases hjl:j<o.length
  case neg=>
    have hjl':¬(j:Int)<(o.length:Int):=by omega
    have hdr:o.drop j=[]:=List.drop_of_length_le (by omega)
    subst hQ2 hK2
    cases p with
    | true=>
      have h3:=hp1 rfl
      rw [hdr,List.append_nil] at h3
      simp [push_cast,hjl,hjl',aUn_not',wi]
      exact ⟨n - 1,by omega,by simp,hk2,i + 1,by omega,by rw [hsn, ←h3]; exact hmv,by simp⟩
    | false=>
      have h3:=(hp0 rfl).2
      rw [hdr] at h3
      obtain ⟨v',h3',hap,hk3,hm3,ho3,hd3⟩:=OwT.more (W:=W) hk2 hmv hov2 hdif s (by omega)
      simp [push_cast,hjl,hjl',aUn_not',buildS_s,hap,wi]
      exact ⟨n - 1,by omega,by simp,hk3,i + 1,by omega,by rw [hsn, ←h3]; exact hm3,by simp⟩
  have hjl':(j:Int)<(o.length:Int):=by omega
  have wj:IntKind.i64.wrap ((j:Int) + 1)=(j:Int) + 1:=wrap64 (by omega) (by omega)
  obtain ⟨x,hx⟩:∃x,o[j]? =some x:=⟨o[j],by simp [hjl]⟩
  have hdr:o.drop j=x::o.drop (j + 1):=by rw [List.drop_eq_getElem_cons hjl,(List.getElem?_eq_some_iff.1 hx).2]
  obtain ⟨q2,_,_,hix2,hld2⟩:=hov2.at (W:=W) (T:=37) (kind37 W) (size9 W) hx
  cases p with
  | true=>
    obtain ⟨v',h3',hap,hk3,hm3,ho3,hd3⟩:=OwT.more (W:=W) hk2 hmv hov2 hdif x (by omega)
    simp [push_cast,hjl,hjl',hix2,ld9,hld2,aUn_not',buildS_s,hap,wj]
    exact ⟨n2 - 1,by omega,by simp,hk3,ho3,j + 1,true,m ++ [x],by omega,hm3,by simpa using hd3,by simp; omega,fun _=>by rw [←hp1 rfl,hdr]; simp,fun h=>absurd h (by simp),by simp⟩
  | false=>
    obtain ⟨hmt,hmi⟩:=hp0 rfl
    rw [hdr] at hmi
    cases hlx:Op.bytesLess s x with
    | true=>
      have hlt2:s<x:=by rw [bytesLess_lt] at hlx; exact of_decide_eq_true hlx
      rw [insT,if_pos hlt2] at hmi
      obtain ⟨v',h3',hap,hk3,hm3,ho3,hd3⟩:=OwT.more (W:=W) hk2 hmv hov2 hdif s (by omega)
      obtain ⟨v4,h4',hap4,hk4,hm4,ho4,hd4⟩:=OwT.more (W:=W) hk3 hm3 ho3 hd3 x (by simp; omega)
      simp [push_cast,hjl,hjl',hix2,ld9,hld2,aUn_not',aStr,hlx,buildS_s,hap,hap4,wj]
      exact ⟨n2 - 1,by omega,by simp,hk4,ho4,j + 1,true,m ++ [s] ++ [x],by omega,hm4,by simpa using hd4,by rw [hmt]; simp; omega,fun _=>by rw [←hmi]; simp,fun h=>absurd h (by simp),by simp⟩
    | false=>
      have hlt2:¬s<x:=by rw [bytesLess_lt] at hlx; exact of_decide_eq_false hlx
      rw [insT,if_neg hlt2] at hmi
      obtain ⟨v',h3',hap,hk3,hm3,ho3,hd3⟩:=OwT.more (W:=W) hk2 hmv hov2 hdif x (by omega)
      simp [push_cast,hjl,hjl',hix2,ld9,hld2,aUn_not',aStr,hlx,buildS_s,hap,wj]
      exact ⟨n2 - 1,by omega,by simp,hk3,ho3,j + 1,false,m ++ [x],by omega,hm3,by simpa using hd3,by simp; omega,fun h=>absurd h (by simp),fun _=>⟨by rw [List.take_add_one,hx,hmt]; rfl,by rw [←hmi]; simp⟩,by simp⟩
theorem nd_app2 {W:World} {hb h:AH} {kb:Nat} {K L Z ov dv:AV} {m1:List Int} {m2:List (List UInt8)} (hk:Keeps hb h) (hkb:hb.next≤kb∧kb<h.next) (hg:h.get kb=some (.cells [K,L,Z,ov,dv,.sl none 0 0 none,.sl none 0 0 none] 100)) (ho:OwI (fun k=>hb.next≤k) h ov m1) (hd:OwT (fun k=>hb.next≤k) h dv m2) (x:Int) (s:List UInt8) (hl:m1.length<1000000000∧m2.length<1000000000):
    ∃p1 n1 c1 g1 p2 n2 c2 g2 h1 h2 h3 h4,aAppend (CC W) (h.push (.cells [.int .i64 x] 3)) #[53,53] ov (.sl (some (.new h.next 0)) 1 1 none)=some (.sl p1 n1 c1 g1,h1)∧aStoreOp (CC W) h1 53 (.ptr (some (.new kb 3))) (.sl p1 n1 c1 g1)=some h2∧h2.get kb=some (.cells [K,L,Z,.sl p1 n1 c1 g1,dv,.sl none 0 0 none,.sl none 0 0 none] 100)∧
      aAppend (CC W) (h2.push (.cells [.str s] 9)) #[37,37] dv (.sl (some (.new h2.next 0)) 1 1 none)=some (.sl p2 n2 c2 g2,h3)∧aStoreOp (CC W) h3 37 (.ptr (some (.new kb 4))) (.sl p2 n2 c2 g2)=some h4∧h4.get kb=some (.cells [K,L,Z,.sl p1 n1 c1 g1,.sl p2 n2 c2 g2,.sl none 0 0 none,.sl none 0 0 none] 100)∧
      OwI (fun k=>hb.next≤k) h4 (.sl p1 n1 c1 g1) (m1 ++ [x])∧OwT (fun k=>hb.next≤k) h4 (.sl p2 n2 c2 g2) (m2 ++ [s])∧Keeps hb h2∧Keeps hb h4∧kb<h4.next∧(∀(j:Nat) c (t':TypeId),3≠t'→9≠t'→j<h.next→j≠kb→h.get j=some (.cells c t')→h2.get j=h.get j∧h4.get j=h.get j)∧h3.get kb=some (.cells [K,L,Z,.sl p1 n1 c1 g1,dv,.sl none 0 0 none,.sl none 0 0 none] 100)∧Keeps hb h3∧kb<h2.next:=by
  have hlo:=hk.1
  obtain ⟨v1,h1,ap1,o1,x1,f1⟩:=ho.app1 (W:=W) (T:=53) (kind53 W) (size3 W) (zero3 W) bytes_i (by omega) (_root_.id rfl) (x:=x) rfl hl.1
  obtain ⟨p1,n1,c1,g1,rfl⟩:=o1.isSl
  have hg1:=(f1 kb hkb.2 (ho.diff hg (by decide))).trans hg
  have s1:=st_rn3 (W:=W) (p:=p1) (n:=n1) (q:=c1) (gr:=g1) hg1
  have hd1:OwT (fun k=>hb.next≤k) h1 dv m2:=by
    rcases hd with h0 | ⟨k,a1,a2,a3,a4,a5⟩
    · exact .inl h0
    · exact .inr ⟨k,a1,by omega,a3,(f1 k a2 (ho.diff a4 (by decide))).trans a4,a5⟩
  have g2':(h1.set kb (.cells [K,L,Z,.sl p1 n1 c1 g1,dv,.sl none 0 0 none,.sl none 0 0 none] 100)).get kb=some (.cells [K,L,Z,.sl p1 n1 c1 g1,dv,.sl none 0 0 none,.sl none 0 0 none] 100):=by simp
  have f2:∀j,j≠kb→(h1.set kb (.cells [K,L,Z,.sl p1 n1 c1 g1,dv,.sl none 0 0 none,.sl none 0 0 none] 100)).get j=h1.get j:=fun j hj=>by simp [hj]
  have n2':(h1.set kb (.cells [K,L,Z,.sl p1 n1 c1 g1,dv,.sl none 0 0 none,.sl none 0 0 none] 100)).next=h1.next:=rfl
  generalize h1.set kb (.cells [K,L,Z,.sl p1 n1 c1 g1,dv,.sl none 0 0 none,.sl none 0 0 none] 100)=h2 at s1 g2' f2 n2'
  have o2:OwI (fun k=>h.next≤k) h2 (.sl p1 n1 c1 g1) (m1 ++ [x]):=o1.off (by omega) fun k hk' _=>f2 k (by omega)
  have hd2:OwT (fun k=>hb.next≤k) h2 dv m2:=by
    rcases hd1 with h0 | ⟨k,a1,a2,a3,a4,a5⟩
    · exact .inl h0
    · have:k≠kb:=fun e=>by rw [e,hg1] at a4; simp at a4
      exact .inr ⟨k,a1,by omega,a3,(f2 k this).trans a4,a5⟩
  obtain ⟨v2,h3,ap3,o3,x3,f3⟩:=hd2.app1 (W:=W) (T:=37) (kind37 W) (size9 W) (zero9 W) bytes_s (by omega) (_root_.id rfl) (x:=s) rfl hl.2
  obtain ⟨p2,n2,c2,g2,rfl⟩:=o3.isSl
  have hg3:=(f3 kb (by omega) (hd2.diff g2' (by decide))).trans g2'
  have s3:=st_rn4 (W:=W) (p:=p2) (n:=n2) (q:=c2) (gr:=g2) hg3
  have o3':OwI (fun k=>h.next≤k) h3 (.sl p1 n1 c1 g1) (m1 ++ [x]):=by
    rcases o2 with h0 | ⟨k,a1,a2,a3,a4,a5⟩
    · exact .inl h0
    · exact .inr ⟨k,a1,by omega,a3,(f3 k a2 (hd2.diff a4 (by decide))).trans a4,a5⟩
  have g4':(h3.set kb (.cells [K,L,Z,.sl p1 n1 c1 g1,.sl p2 n2 c2 g2,.sl none 0 0 none,.sl none 0 0 none] 100)).get kb=some (.cells [K,L,Z,.sl p1 n1 c1 g1,.sl p2 n2 c2 g2,.sl none 0 0 none,.sl none 0 0 none] 100):=by simp
  have f4:∀j,j≠kb→(h3.set kb (.cells [K,L,Z,.sl p1 n1 c1 g1,.sl p2 n2 c2 g2,.sl none 0 0 none,.sl none 0 0 none] 100)).get j=h3.get j:=fun j hj=>by simp [hj]
  have n4':(h3.set kb (.cells [K,L,Z,.sl p1 n1 c1 g1,.sl p2 n2 c2 g2,.sl none 0 0 none,.sl none 0 0 none] 100)).next=h3.next:=rfl
  generalize h3.set kb (.cells [K,L,Z,.sl p1 n1 c1 g1,.sl p2 n2 c2 g2,.sl none 0 0 none,.sl none 0 0 none] 100)=h4 at s3 g4' f4 n4'
  have nov:∀j,j<hb.next→∀k n c g,ov= .sl (some (.new k 0)) n c g→j≠k:=fun j hj k n c g hv=>by
    rcases ho with ⟨_,h0⟩ | ⟨k',a1,_,_,_,a5⟩
    · rw [h0] at hv; cases hv
    · rw [a5] at hv
      simp only [AV.sl.injEq,Option.some.injEq,AA.new.injEq] at hv
      omega
  have ndv:∀j,j<hb.next→∀k n c g,dv= .sl (some (.new k 0)) n c g→j≠k:=fun j hj k n c g hv=>by
    rcases hd with ⟨_,h0⟩ | ⟨k',a1,_,_,_,a5⟩
    · rw [h0] at hv; cases hv
    · rw [a5] at hv
      simp only [AV.sl.injEq,Option.some.injEq,AA.new.injEq] at hv
      omega
  have k2:Keeps hb h2:=⟨by omega,fun j hj=>by rw [f2 j (by omega),f1 j (by omega) (nov j hj)]; exact hk.2 j hj⟩
  have k4:Keeps hb h4:=⟨by omega,fun j hj=>by rw [f4 j (by omega),f3 j (by omega) (ndv j hj)]; exact k2.2 j hj⟩
  refine ⟨p1,n1,c1,g1,p2,n2,c2,g2,h1,h2,h3,h4,ap1,s1,g2',ap3,s3,g4',?_,?_,k2,k4,by omega,fun j c t' ht3 ht9 hj hjk hgj=> ?_,hg3,⟨by omega,fun j hj=>by rw [f3 j (by omega) (ndv j hj)]; exact k2.2 j hj⟩,by omega⟩
  · exact (o3'.off (by omega) fun k hk' _=>f4 k (by omega)).imp fun k _ hk'=>by omega
  · exact (o3.off (by omega) fun k hk' _=>f4 k (by omega)).imp fun k _ hk'=>by omega
  · have e1:h2.get j=h.get j:=by rw [f2 j hjk,f1 j hj (ho.diff hgj ht3)]
    exact ⟨e1,by rw [f4 j hjk,f3 j (by omega) (hd2.diff (e1.trans hgj) ht9)]; exact e1⟩
def wG (k:Int) (b:List UInt8):Bool→List (Int×List UInt8)→List (Int×List UInt8)
  | p,[]=>if p=true then [] else [(k,b)]
  | p,(x,d)::l=>(if p=false∧k≤x then [(k,b)] else []) ++ ((if x≠k then [(x,d)] else []) ++ wG k b (p || decide (k≤x)) l)
theorem wG_mem {k:Int} {b:List UInt8}:∀(l:List (Int×List UInt8)) (p:Bool) (q:Int×List UInt8),q∈wG k b p l↔(p=false∧q=(k,b))∨(q∈l∧q.1≠k)
  | [],p,q=>by cases p<;>simp [wG]
  | (x,d)::l,p,q=>by
    simp only [wG,List.mem_append,wG_mem l,List.mem_cons]
    by_cases hx:x=k<;>by_cases hle:k≤x<;>cases p<;>simp [hx,hle]<;>grind
theorem wG_sorted {k:Int} {b:List UInt8}:∀(l:List (Int×List UInt8)) (p:Bool),l.Pairwise (fun a b=>a.1<b.1)→(p=true→∀q∈l,k<q.1)→(wG k b p l).Pairwise (fun a b=>a.1<b.1)
  | [],p,_,_=>by cases p<;>simp [wG]
  | (x,d)::l,p,h,hp=>by
    obtain ⟨h1,h2⟩:=List.pairwise_cons.1 h
    have ih:=wG_sorted (k:=k) (b:=b) l (p || decide (k≤x)) h2 (fun hc q hq=>by
      have h3:=h1 q hq
      simp only at h3
      cases p with
      | true=>exact hp rfl q (List.mem_cons_of_mem _ hq)
      | false=>
        have:k≤x:=by simpa using hc
        omega)
    have hin:∀q∈wG k b (p || decide (k≤x)) l,(p=false∧¬k≤x∧q=(k,b))∨(q∈l∧q.1≠k):=fun q hq=>by
      rcases (wG_mem l _ q).1 hq with ⟨h3,h4⟩ | h3
      · left
        cases p<;>simp_all
      · exact .inr h3
    simp only [wG]
    have hA:((if x≠k then [(x,d)] else []) ++ wG k b (p || decide (k≤x)) l).Pairwise (fun a b=>a.1<b.1):=by
      by_cases hx:x=k
      · simp [hx]; simpa [hx] using ih
      · rw [if_pos hx]
        refine List.pairwise_cons.2 ⟨fun q hq=> ?_,ih⟩
        rcases hin q hq with ⟨_,h4,rfl⟩ | ⟨h4,_⟩
        · simp only; omega
        · exact h1 q h4
    by_cases hc:p=false∧k≤x
    · rw [if_pos hc,List.singleton_append]
      refine List.pairwise_cons.2 ⟨fun q hq=> ?_,hA⟩
      rcases List.mem_append.1 hq with hq | hq
      · by_cases hx:x=k
        · simp [hx] at hq
        · rw [if_pos hx] at hq
          simp at hq
          subst hq
          simp only; omega
      · rcases hin q hq with ⟨_,h4,_⟩ | ⟨h4,h5⟩
        · exact absurd hc.2 h4
        · have:=h1 q h4
          simp only at this ⊢; omega
    · rw [if_neg hc]; exact hA
def prsR (nd:Nd):List (Int×List UInt8):=(ixR nd).map fun q=>(q,(blkAt nd.blocks q).getD [])
theorem prs_fst (nd:Nd):(prsR nd).map (·.1)=ixR nd:=by simp [prsR,Function.comp_def]
theorem if_len1 {α:Type} {c:Prop} [Decidable c] {x:α}:(if c then [x] else []).length≤1:=by split<;>simp
theorem wG_len1 (k:Int) (b:List UInt8):∀(l:List (Int×List UInt8)),(wG k b true l).length≤l.length
  | []=>by simp [wG]
  | (x,d)::l=>by
    have ih:=wG_len1 k b l
    have h1:=if_len1 (c:=x≠k) (x:=(x,d))
    simp only [wG,Bool.true_or,List.length_append,List.length_cons]
    rw [if_neg (by simp)]
    simp only [List.length_nil]
    omega
theorem wG_len (k:Int) (b:List UInt8):∀(l:List (Int×List UInt8)) (p:Bool),(wG k b p l).length≤l.length + 1
  | [],p=>by cases p<;>simp [wG]
  | (x,d)::l,p=>by
    have h1:=if_len1 (c:=x≠k) (x:=(x,d))
    simp only [wG,List.length_append,List.length_cons]
    by_cases hc:p=false∧k≤x
    · have e:(p || decide (k≤x))=true:=by simp [hc.2]
      have h2:=wG_len1 k b l
      rw [e,if_pos hc]
      simp only [List.length_cons,List.length_nil]
      omega
    · have h2:=wG_len k b l (p || decide (k≤x))
      rw [if_neg hc]
      simp only [List.length_nil]
      omega
theorem strict_eq:∀{a b:List Int},a.Pairwise (· < ·)→b.Pairwise (· < ·)→(∀q,q∈a↔q∈b)→a=b:=fun {a b} ha hb h=>by
  have na:a.Nodup:=ha.imp fun h=>by omega
  have nb:b.Nodup:=hb.imp fun h=>by omega
  have hp:a.Perm b:=(List.perm_ext_iff_of_nodup na nb).2 h
  exact List.Perm.eq_of_pairwise (le:=fun x y:Int=>x≤y) (fun a b _ _ h1 h2=>Int.le_antisymm h1 h2) (ha.imp fun h=>by omega) (hb.imp fun h=>by omega) hp
theorem setB_keys {k:Int} {s:List UInt8}:∀{b:Blk},(b.map (·.1)).Nodup→((setB k s b).map (·.1)).Nodup:=fun {b} h=>by
  cases hb:blkAt (some b) k with
  | none=>
    have hno:∀x∈b,x.1≠k:=fun x hx e=>by
      have:fnd k b 0=none:=by
        unfold blkAt at hb
        simpa using hb
      exact fnd_none.1 this (by rw [←e]; exact List.mem_map_of_mem hx)
    rw [setB_none hno,List.map_append,List.nodup_append]
    refine ⟨h,by simp,fun a ha c hc=> ?_⟩
    simp at hc
    subst hc
    rintro rfl
    obtain ⟨x,hx,rfl⟩:=List.mem_map.1 ha
    exact hno x hx rfl
  | some s0=>
    obtain ⟨b1,b2,e1,e2,e3⟩:=setB_some (s:=s) hb
    rw [e3]
    rw [e1] at h
    simpa using h
theorem with_lists {nd:Nd} {bl:Blk} (hb:nd.blocks=some bl) (hk:(bl.map (·.1)).Nodup) (k:Int) (b:List UInt8):
    (wG k b false (prsR nd)).map (·.1)=ixR {nd with blocks:=some (setB k b bl)}∧(wG k b false (prsR nd)).map (·.2)=dtR {nd with blocks:=some (setB k b bl)}:=by
  have hs0:(ixR nd).Pairwise (· < ·):=sort_strict (by rw [hb]; exact hk)
  have hp:(prsR nd).Pairwise (fun a b=>a.1<b.1):=by
    unfold prsR
    rw [List.pairwise_map]
    exact hs0
  have hw:=wG_sorted (k:=k) (b:=b) (prsR nd) false hp (by simp)
  have hmem:=fun q=>wG_mem (k:=k) (b:=b) (prsR nd) false q
  have h1:(wG k b false (prsR nd)).map (·.1)=ixR {nd with blocks:=some (setB k b bl)}:=by
    refine strict_eq (by rw [List.pairwise_map]; exact hw) (sort_strict (setB_keys hk)) fun q=> ?_
    rw [mem_ix]
    simp only [blkAt_setB]
    rw [List.mem_map]
    constructor
    · rintro ⟨x,hx,rfl⟩
      rcases (hmem x).1 hx with ⟨_,rfl⟩ | ⟨hx,hne⟩
      · simp
      · rw [if_neg hne]
        have:x.1∈ixR nd:=by rw [←prs_fst]; exact List.mem_map_of_mem hx
        rw [mem_ix,hb] at this
        exact this
    · intro h
      by_cases hq:q=k
      · subst hq
        exact ⟨(q,b),(hmem _).2 (.inl ⟨rfl,rfl⟩),rfl⟩
      · rw [if_neg hq, ←hb, ←mem_ix, ←prs_fst] at h
        obtain ⟨x,hx,rfl⟩:=List.mem_map.1 h
        exact ⟨x,(hmem x).2 (.inr ⟨hx,hq⟩),rfl⟩
  refine ⟨h1,?_⟩
  have h2:dtR {nd with blocks:=some (setB k b bl)}=(ixR {nd with blocks:=some (setB k b bl)}).map fun q=>(blkAt (some (setB k b bl)) q).getD []:=rfl
  rw [h2, ←h1,List.map_map]
  refine List.map_congr_left fun x hx=> ?_
  simp only [Function.comp,blkAt_setB]
  rcases (hmem x).1 hx with ⟨_,rfl⟩ | ⟨hx,hne⟩
  · simp
  · rw [if_neg hne]
    obtain ⟨q,hq,rfl⟩:=List.mem_map.1 hx
    rw [←hb]
def Acc (hb h:AH) (kb:Nat) (nd:Nd) (acc:List (Int×List UInt8)):Prop:=kb<h.next∧∃ov dv,h.get kb=some (.cells [.int .i64 nd.kind,.int .i64 nd.links,.int .i64 nd.size,ov,dv,.sl none 0 0 none,.sl none 0 0 none] 100)∧OwI (fun k=>hb.next≤k) h ov (acc.map (·.1))∧OwT (fun k=>hb.next≤k) h dv (acc.map (·.2))
def WtI (hb:AH) (nd:Nd) (iv:AV) (k3 kz kb:Nat) (k:Int) (b:List UInt8) (n:Nat) (e':Env) (h':AH):Prop:=
  e'.length=77∧Keeps hb h'∧∃(i:Nat) (p:Bool) (acc:List (Int×List UInt8)),i + n=(ixR nd).length∧Acc hb h' kb nd acc∧acc ++ wG k b p ((prsR nd).drop i)=wG k b false (prsR nd)∧
    (e'.getD 1 .undef= .int .i64 k∧e'.getD 2 .undef= .str b∧e'.getD 3 .undef= .ptr (some (.new k3 0))∧e'.getD 6 .undef= .ptr (some (.new kz 0))∧e'.getD 7 .undef= .ptr (some (.new kb 0))∧e'.getD 8 .undef= .bool p∧iv=e'.getD 16 .undef∧e'.getD 17 .undef= .int .i64 (ixR nd).length∧e'.getD 18 .undef= .int .i64 i)
set_option maxHeartbeats 32000000 in
set_option maxRecDepth 20000 in
theorem rwith_ret (W:World) (A:Nat→Prop) (h:AH) (cs:List AV) (nd:Nd) (hn:NdC A h cs nd) (hl:NdShort nd) (hl4:(ixR nd).length<1000000) (hsl:nd.slots=[]) (bl:Blk) (hbl:nd.blocks=some bl) (hky:(bl.map (·.1)).Nodup) (k:Int) (b:List UInt8):
    RetQ (CC W) 150 [.agg cs,.int .i64 k,.str b] h (fun w h'=>∃cs',w= .agg cs'∧NdC (fun q=>h.next≤q) h' cs' {nd with blocks:=some (setB k b bl)}):=by
  refine jj9 (cc_ok W) (fn150 W) (by simp only [Tryz.f150]; rfl) rfl rfl ?_
  have hl1:=hl.1
  have hpl:(prsR nd).length=(ixR nd).length:=by simp [prsR]
  have hwl:=wG_len k b (prsR nd) false
  obtain ⟨iv,dv0,nv,sv,rfl,hiv,hdv,hnv,hsv⟩:=_root_.id hn
  rw [hsl] at hnv hsv
  obtain rfl:=hnv.none
  obtain rfl:=hsv.none
  have hbx:=box_rn (h:=h) (l:=[.int .i64 nd.kind,.int .i64 nd.links,.int .i64 nd.size,iv,dv0,.sl none 0 0 none,.sl none 0 0 none])
  have hk1:=Keeps.push h (.cells [.int .i64 nd.kind,.int .i64 nd.links,.int .i64 nd.size,iv,dv0,.sl none 0 0 none,.sl none 0 0 none] 100)
  have hg1:(h.push (.cells [.int .i64 nd.kind,.int .i64 nd.links,.int .i64 nd.size,iv,dv0,.sl none 0 0 none,.sl none 0 0 none] 100)).get h.next=some (.cells [.int .i64 nd.kind,.int .i64 nd.links,.int .i64 nd.size,iv,dv0,.sl none 0 0 none,.sl none 0 0 none] 100):=by simp
  have hn1:h.next<(h.push (.cells [.int .i64 nd.kind,.int .i64 nd.links,.int .i64 nd.size,iv,dv0,.sl none 0 0 none,.sl none 0 0 none] 100)).next:=by simp
  generalize h.push (.cells [.int .i64 nd.kind,.int .i64 nd.links,.int .i64 nd.size,iv,dv0,.sl none 0 0 none,.sl none 0 0 none] 100)=h1 at hbx hk1 hg1 hn1
  obtain ⟨k3,hk3e⟩:∃k3,k3=h.next:=⟨_,rfl⟩
  rw [←hk3e] at hbx hg1 hn1
  have hal:=alloc_rn (W:=W) (h:=h1)
  have hk2:=Keeps.push h1 (.cells zN 100)
  have hz2:(h1.push (.cells zN 100)).get h1.next=some (.cells zN 100):=by simp
  have hn2:h1.next<(h1.push (.cells zN 100)).next:=by simp
  generalize h1.push (.cells zN 100)=h2 at hal hk2 hz2 hn2
  obtain ⟨kz,hkze⟩:∃kz,kz=h1.next:=⟨_,rfl⟩
  rw [←hkze] at hal hz2 hn2
  have hg2:=(hk2.2 k3 hn1).trans hg1
  have hn32:k3<h2.next:=Nat.lt_of_lt_of_le hn1 hk2.1
  have hld2:=ld_rn (W:=W) hg2
  have hnc2:=(hn.keep hk1).keep hk2
  simp [push_cast,hbx,hal,hld2]
  refine jg9 (by simp [fn87]) (own_ret W _ h2 _ nd hnc2 hl) fun w hb hkb2 ⟨cs',hw,hno⟩=> ?_
  subst hw
  obtain ⟨iv',dv',nv',sv',rfl,_,_,hnv',hsv'⟩:=_root_.id hno
  rw [hsl] at hnv' hsv'
  obtain rfl:=hnv'.none
  obtain rfl:=hsv'.none
  obtain ⟨h4p,h4,hal4,hst4,hk4,hb4,hg4⟩:=nd_box (W:=W) hb hno.len hno.ones
  obtain ⟨kb,hkbe⟩:∃kb,kb=hb.next:=⟨_,rfl⟩
  rw [←hkbe] at hal4 hst4 hb4 hg4
  have s5:=st_rn3 (W:=W) (p:=none) (n:=0) (q:=0) (gr:=none) hg4
  have hk5:Keeps hb (h4.set kb (.cells [.int .i64 nd.kind,.int .i64 nd.links,.int .i64 nd.size,.sl none 0 0 none,dv',.sl none 0 0 none,.sl none 0 0 none] 100)):=hk4.set (by omega) _
  have hg5:(h4.set kb (.cells [.int .i64 nd.kind,.int .i64 nd.links,.int .i64 nd.size,.sl none 0 0 none,dv',.sl none 0 0 none,.sl none 0 0 none] 100)).get kb=some (.cells [.int .i64 nd.kind,.int .i64 nd.links,.int .i64 nd.size,.sl none 0 0 none,dv',.sl none 0 0 none,.sl none 0 0 none] 100):=by simp
  have hb5:kb<(h4.set kb (.cells [.int .i64 nd.kind,.int .i64 nd.links,.int .i64 nd.size,.sl none 0 0 none,dv',.sl none 0 0 none,.sl none 0 0 none] 100)).next:=by simpa using hb4
  generalize h4.set kb (.cells [.int .i64 nd.kind,.int .i64 nd.links,.int .i64 nd.size,.sl none 0 0 none,dv',.sl none 0 0 none,.sl none 0 0 none] 100)=h5 at s5 hk5 hg5 hb5
  have s6:=st_rn4 (W:=W) (p:=none) (n:=0) (q:=0) (gr:=none) hg5
  have hk6:Keeps hb (h5.set kb (.cells [.int .i64 nd.kind,.int .i64 nd.links,.int .i64 nd.size,.sl none 0 0 none,.sl none 0 0 none,.sl none 0 0 none,.sl none 0 0 none] 100)):=hk5.set (by omega) _
  have hg6:(h5.set kb (.cells [.int .i64 nd.kind,.int .i64 nd.links,.int .i64 nd.size,.sl none 0 0 none,.sl none 0 0 none,.sl none 0 0 none,.sl none 0 0 none] 100)).get kb=some (.cells [.int .i64 nd.kind,.int .i64 nd.links,.int .i64 nd.size,.sl none 0 0 none,.sl none 0 0 none,.sl none 0 0 none,.sl none 0 0 none] 100):=by simp
  have hb6:kb<(h5.set kb (.cells [.int .i64 nd.kind,.int .i64 nd.links,.int .i64 nd.size,.sl none 0 0 none,.sl none 0 0 none,.sl none 0 0 none,.sl none 0 0 none] 100)).next:=by simpa using hb5
  generalize h5.set kb (.cells [.int .i64 nd.kind,.int .i64 nd.links,.int .i64 nd.size,.sl none 0 0 none,.sl none 0 0 none,.sl none 0 0 none,.sl none 0 0 none] 100)=h6 at s6 hk6 hg6 hb6
  have hn3b:k3<hb.next:=Nat.lt_of_lt_of_le hn32 hkb2.1
  have hnzb:kz<hb.next:=Nat.lt_of_lt_of_le hn2 hkb2.1
  have hgb:=(hkb2.2 k3 hn32).trans hg2
  have hzb:=(hkb2.2 kz hn2).trans hz2
  have hg3h:=fun (h':AH) (hk:Keeps hb h')=>(hk.2 k3 hn3b).trans hgb
  have hivb:=(hiv.keep (hk1.trans hk2)).keep hkb2
  have hdvb:=(hdv.keep (hk1.trans hk2)).keep hkb2
  have hg36:=hg3h h6 hk6
  have hln:=(hivb.keep hk6).len (W:=W) (T:=53) (kind53 W) (h2:=h6)
  simp [push_cast,hal4,hst4,fa100_3,fa100_4,s5,s6,ld53,ji9 hg36,jd9,hln]
  refine hideL fun Q1 K1 hQ1 hK1=> ?_
  refine loopN (cc_ok W) (WtI hb nd iv k3 kz kb k b) (ixR nd).length ⟨by simp,hk6,0,false,[],by simp,⟨hb6,_,_,hg6,.inl ⟨rfl,rfl⟩,.inl ⟨rfl,rfl⟩⟩,by simp,by simp⟩ ?_
  rintro n e' h' ⟨hlen',hk,i,p,acc,him,⟨hkb',ov,dv,hg,hov,hdvo⟩,hacc,hh⟩
  obtain ⟨a0,a1,a2,a3,a4,a5,a6,a7,a8,a9,rS0,rfl,hS0⟩:=un10 hlen'
  obtain ⟨a10,a11,a12,a13,a14,a15,a16,a17,a18,a19,rS10,rfl,hS10⟩:=un10 hS0
  obtain ⟨a20,a21,a22,a23,a24,a25,a26,a27,a28,a29,rS20,rfl,hS20⟩:=un10 hS10
  obtain ⟨a30,a31,a32,a33,a34,a35,a36,a37,a38,a39,rS30,rfl,hS30⟩:=un10 hS20
  obtain ⟨a40,a41,a42,a43,a44,a45,a46,a47,a48,a49,rS40,rfl,hS40⟩:=un10 hS30
  obtain ⟨a50,a51,a52,a53,a54,a55,a56,a57,a58,a59,rS50,rfl,hS50⟩:=un10 hS40
  obtain ⟨a60,a61,a62,a63,a64,a65,a66,a67,a68,a69,rS60,rfl,hS60⟩:=un10 hS50
  obtain ⟨a70,rS70,rfl,hS70⟩:=un1 hS60
  obtain ⟨a71,rS71,rfl,hS71⟩:=un1 hS70
  obtain ⟨a72,rS72,rfl,hS72⟩:=un1 hS71
  obtain ⟨a73,rS73,rfl,hS73⟩:=un1 hS72
  obtain ⟨a74,rS74,rfl,hS74⟩:=un1 hS73
  obtain ⟨a75,rS75,rfl,hS75⟩:=un1 hS74
  obtain ⟨a76,rS76,rfl,hS76⟩:=un1 hS75
  obtain rfl:=un0 hS76
  clear hlen' hS0 hS10 hS20 hS30 hS40 hS50 hS60 hS70 hS71 hS72 hS73 hS74 hS75 hS76
  simp at hh
  obtain ⟨rfl,rfl,rfl,rfl,rfl,rfl,hv16,rfl,rfl⟩:=hh
  subst hv16
  have hal2:acc.length≤(prsR nd).length + 1:=by
    have:=congrArg List.length hacc
    rw [List.length_append] at this
    omega
  have hlo:hb.next≤kb:=by omega
  by_cases hlt:i<(ixR nd).length
  case neg=>
    have hlt':¬(i:Int)<((ixR nd).length:Int):=by omega
    have hdr:(prsR nd).drop i=[]:=List.drop_of_length_le (by omega)
    rw [hdr] at hacc
    obtain ⟨w1,w2⟩:=with_lists hbl hky k b
    subst hQ1 hK1
    have hzh:=(hk.2 kz hnzb).trans hzb
    have hk0:=((hk1.trans hk2).trans hkb2)
    have fin:∀(h7:AH) (ov dv:AV),Keeps hb h7→OwI (fun k=>hb.next≤k) h7 ov (ixR {nd with blocks:=some (setB k b bl)})→OwT (fun k=>hb.next≤k) h7 dv (dtR {nd with blocks:=some (setB k b bl)})→h7.get kb=some (.cells [.int .i64 nd.kind,.int .i64 nd.links,.int .i64 nd.size,ov,dv,.sl none 0 0 none,.sl none 0 0 none] 100)→
        ∃h8,aStoreOp (CC W) h7 100 (.ptr (some (.new kz 0))) (.agg [.int .i64 nd.kind,.int .i64 nd.links,.int .i64 nd.size,ov,dv,.sl none 0 0 none,.sl none 0 0 none])=some h8∧aLoad (CC W) h8 100 (.new kz 0)=some (.agg [.int .i64 nd.kind,.int .i64 nd.links,.int .i64 nd.size,ov,dv,.sl none 0 0 none,.sl none 0 0 none])∧Keeps h h8∧NdC (fun q=>h.next≤q) h8 [.int .i64 nd.kind,.int .i64 nd.links,.int .i64 nd.size,ov,dv,.sl none 0 0 none,.sl none 0 0 none] {nd with blocks:=some (setB k b bl)}:=fun h7 ov dv hk7 o1 o2 hg7=>by
      have hz7:=(hk7.2 kz hnzb).trans hzb
      have s8:=st_rnA (W:=W) (cs:=[.int .i64 nd.kind,.int .i64 nd.links,.int .i64 nd.size,ov,dv,.sl none 0 0 none,.sl none 0 0 none]) hz7 rfl rfl (by
        simp only [List.all_cons,List.all_nil,o1.one,o2.one]; rfl)
      have hz8:(h7.set kz (.cells [.int .i64 nd.kind,.int .i64 nd.links,.int .i64 nd.size,ov,dv,.sl none 0 0 none,.sl none 0 0 none] 100)).get kz=some (.cells [.int .i64 nd.kind,.int .i64 nd.links,.int .i64 nd.size,ov,dv,.sl none 0 0 none,.sl none 0 0 none] 100):=by simp
      have hlz:=ld_rn (W:=W) hz8
      have hlo1:=hk1.1
      have hlo2:=hk0.1
      refine ⟨_,s8,hlz,(hk0.trans hk7).set (by omega) _,ov,dv,.sl none 0 0 none,.sl none 0 0 none,rfl,?_,?_,?_,?_⟩
      · refine OwnL.imp (A:=fun k=>hb.next≤k) ?_ fun q _ hq=>by omega
        exact o1.off (Nat.le_refl _) fun q hq _=>by
          have:q≠kz:=by omega
          simp [this]
      · refine OwnL.imp (A:=fun k=>hb.next≤k) ?_ fun q _ hq=>by omega
        exact o2.off (Nat.le_refl _) fun q hq _=>by
          have:q≠kz:=by omega
          simp [this]
      · exact .inl ⟨by simp [hsl],rfl⟩
      · exact .inl ⟨by simp [hsl],rfl⟩
    cases p with
    | true=>
      have hfin:acc=wG k b false (prsR nd):=by simpa [wG] using hacc
      rw [←hfin] at w1 w2
      rw [w1] at hov
      rw [w2] at hdvo
      obtain ⟨h8,t1,t2,t3,t4⟩:=fin h' ov dv hk hov hdvo hg
      have hldk:=ld_rn (W:=W) hg
      simp [push_cast,hlt,hlt',aUn_not',hldk,t1,t2]
      exact ⟨t3,t4⟩
    | false=>
      have hfin:acc ++ [(k,b)]=wG k b false (prsR nd):=by simpa [wG] using hacc
      obtain ⟨p1,n1,c1,g1,p2,n2,c2,g2,e1,e2,e3,e4,ap1,s1,hge2,ap2,s2,hge4,ho4,hd4,hke2,hke4,hkb4,_,_,_⟩:=nd_app2 (W:=W) hk ⟨hlo,hkb'⟩ hg hov hdvo k b ⟨by simp; omega,by simp; omega⟩
      have m1:acc.map (·.1) ++ [k]=(wG k b false (prsR nd)).map (·.1):=by rw [←hfin]; simp
      have m2:acc.map (·.2) ++ [b]=(wG k b false (prsR nd)).map (·.2):=by rw [←hfin]; simp
      rw [m1,w1] at ho4
      rw [m2,w2] at hd4
      obtain ⟨h8,t1,t2,t3,t4⟩:=fin e4 _ _ hke4 ho4 hd4 hge4
      have hldk:=ld_rn (W:=W) hge4
      simp [push_cast,hlt,hlt',aUn_not',fa100_3,fa100_4,ld53,ld37,ji9 hg,ji9 hge2,jd9,buildS_i,ap1,s1,buildS_s,ap2,s2,hldk,t1,t2]
      exact ⟨t3,t4⟩
  have hlt':(i:Int)<((ixR nd).length:Int):=by omega
  have wi:IntKind.i64.wrap ((i:Int) + 1)=(i:Int) + 1:=wrap64 (by omega) (by omega)
  obtain ⟨x,hy⟩:∃x,(ixR nd)[i]? =some x:=⟨(ixR nd)[i],by simp [hlt]⟩
  obtain ⟨d,hd⟩:∃d,d=(blkAt nd.blocks x).getD []:=⟨_,rfl⟩
  have hyd:(dtR nd)[i]? =some d:=by simp only [dtR,List.getElem?_map,hy,Option.map,hd]
  have hyp:(prsR nd).drop i=(x,d)::(prsR nd).drop (i + 1):=by
    have h1:(prsR nd)[i]? =some (x,d):=by simp only [prsR,List.getElem?_map,hy,Option.map,hd]
    rw [List.drop_eq_getElem_cons (by omega),(List.getElem?_eq_some_iff.1 h1).2]
  rw [hyp] at hacc
  simp only [wG] at hacc
  obtain ⟨q1,_,_,hix,hld⟩:=(hivb.keep hk).at (W:=W) (T:=53) (kind53 W) (size3 W) hy
  have hdat:=fun (h':AH) (hk:Keeps hb h')=>(hdvb.keep hk).at (W:=W) (T:=37) (kind37 W) (size9 W) hyd
  by_cases hpa:p=true
  · subst hpa
    rw [if_neg (fun hc=>by cases hc.1),List.nil_append,Bool.true_or] at hacc
    by_cases hxk:x=k
    case pos=>
      have hxk':(x !=k)=false:=by simpa using hxk
      rw [if_neg (show ¬x≠k from fun hc=>hc hxk)] at hacc
      simp [push_cast,hlt',hix,ld3,hld,aUn_not',hxk',wi]
      exact ⟨n - 1,by omega,by simp,hk,i + 1,true,acc,by omega,⟨hkb',_,_,hg,hov,hdvo⟩,by simpa using hacc,by simp⟩
    have hxk':(x !=k)=true:=by simpa using hxk
    rw [if_pos hxk] at hacc
    obtain ⟨qd,_,_,hixd,hldd⟩:=hdat h' hk
    have hg3k:=hg3h h' hk
    obtain ⟨p1c,n1c,c1c,g1c,p2c,n2c,c2c,g2c,e1c,e2c,e3c,e4c,ap1c,s1c,hge2c,ap2c,s2c,hge4c,ho4c,hd4c,hke2c,hke4c,hkb4c,_,hge3c,hke3c,hkb2c⟩:=nd_app2 (W:=W) hk ⟨hlo,hkb'⟩ hg hov hdvo x d ⟨by simp; omega,by simp; omega⟩
    have hkp:=hke2c.trans (Keeps.push e2c (.cells [.str d] 9))
    have hg2p:=((Keeps.push e2c (.cells [.str d] 9)).2 kb hkb2c).trans hge2c
    obtain ⟨qd2,_,_,hixd2,hldd2⟩:=hdat e2c hke2c
    obtain ⟨qd3,_,_,hixd3,hldd3⟩:=hdat _ hkp
    obtain ⟨qd4,_,_,hixd4,hldd4⟩:=hdat e3c hke3c
    obtain rfl:qd3=qd2:=by rw [hixd2] at hixd3; simp at hixd3; exact hixd3.symm
    obtain rfl:qd4=qd3:=by rw [hixd2] at hixd4; simp at hixd4; exact hixd4.symm
    have hg32:=hg3h e2c hke2c
    have hg33:=hg3h _ hkp
    have hg34:=hg3h e3c hke3c
    simp [push_cast,hlt',hix,ld3,hld,aUn_not',hxk',fa100_3,fa100_4,ld53,ld37,ji9 hg,jd9,buildS_i,ap1c,s1c]
    refine drawS [0,1,2,3,4,5,6,7,8,9,10] (by kernel_rfl) (by kernel_rfl) ?_
    simp [push_cast,zx9,zy9,SgO,opA,isE,isRead,fa100_3,fa100_4,ld53,ld37,ld9,ji9 hge2c,ji9 hg32,jd9,hixd2,hldd2]
    refine jc9 (h':=e2c.push (.cells [.str d] 9)) (v:= .sl (some (.new e2c.next 0)) 1 1 none) (by rfl) (by simp [push_cast,buildS_s]) ⟨?_,?_⟩
    · simp [zz9,ja9,push_cast,opA,fa100_3,fa100_4,ld53,ld37,ld9,ji9 hg2p,ji9 hg33,jd9,hldd3]
    simp [zx9,zy9,SgO,opA,isE,isRead]
    refine jc9 (h':=e3c) (v:= .sl p2c n2c c2c g2c) (by rfl) (by simp [push_cast,ap2c]) ⟨?_,?_⟩
    · simp [zz9,ja9,push_cast,opA,fa100_3,fa100_4,ld53,ld37,ld9,ji9 hge3c,ji9 hg34,jd9,hldd4]
    simp [push_cast,zx9,zy9,SgO,opA,isE,isRead,jd9,fa100_4]
    refine jc9 (h':=e4c) (v:= .undef) (by rfl) (by simp [push_cast,s2c]) ⟨?_,?_⟩
    · simp only [zz9,ja9]; exact ⟨fun hr=>absurd hr (by decide),fun hr=>absurd hr (by decide),fun hr=>absurd hr (by decide),trivial⟩
    simp [zx9,zy9,SgO,opA,isE,isRead,push_cast,wi]
    exact ⟨n - 1,by omega,by simp,hke4c,i + 1,true,acc ++ [(x,d)],by omega,⟨hkb4c,_,_,hge4c,by simpa using ho4c,by simpa using hd4c⟩,by simpa using hacc,by simp⟩
  have hpf:p=false:=by cases p<;>simp_all
  subst hpf
  by_cases hcge:k≤x
  · rw [if_pos ⟨rfl,hcge⟩,decide_eq_true hcge,Bool.false_or] at hacc
    obtain ⟨p1a,n1a,c1a,g1a,p2a,n2a,c2a,g2a,e1a,e2a,e3a,e4a,ap1a,s1a,hge2a,ap2a,s2a,hge4a,ho4a,hd4a,hke2a,hke4a,hkb4a,_,hge3a,hke3a,hkb2a⟩:=nd_app2 (W:=W) hk ⟨hlo,hkb'⟩ hg hov hdvo k b ⟨by simp; omega,by simp; omega⟩
    have ho4a:OwI (fun k=>hb.next≤k) e4a (.sl p1a n1a c1a g1a) ((acc ++ [(k,b)]).map (·.1)):=by simpa using ho4a
    have hd4a:OwT (fun k=>hb.next≤k) e4a (.sl p2a n2a c2a g2a) ((acc ++ [(k,b)]).map (·.2)):=by simpa using hd4a
    by_cases hxk:x=k
    case pos=>
      have hxk':(x !=k)=false:=by simpa using hxk
      rw [if_neg (show ¬x≠k from fun hc=>hc hxk)] at hacc
      simp [push_cast,hlt',hix,ld3,hld,hcge,aUn_not',fa100_3,fa100_4,ld53,ld37,ji9 hg,ji9 hge2a,jd9,buildS_i,ap1a,s1a,buildS_s,ap2a,s2a,hxk',wi]
      exact ⟨n - 1,by omega,by simp,hke4a,i + 1,true,acc ++ [(k,b)],by omega,⟨hkb4a,_,_,hge4a,ho4a,hd4a⟩,by simpa using hacc,by simp⟩
    have hxk':(x !=k)=true:=by simpa using hxk
    rw [if_pos hxk] at hacc
    obtain ⟨qd,_,_,hixd,hldd⟩:=hdat e4a hke4a
    have hg3k:=hg3h e4a hke4a
    obtain ⟨p1c,n1c,c1c,g1c,p2c,n2c,c2c,g2c,e1c,e2c,e3c,e4c,ap1c,s1c,hge2c,ap2c,s2c,hge4c,ho4c,hd4c,hke2c,hke4c,hkb4c,_,hge3c,hke3c,hkb2c⟩:=nd_app2 (W:=W) hke4a ⟨hlo,hkb4a⟩ hge4a ho4a hd4a x d ⟨by simp; omega,by simp; omega⟩
    have hkp:=hke2c.trans (Keeps.push e2c (.cells [.str d] 9))
    have hg2p:=((Keeps.push e2c (.cells [.str d] 9)).2 kb hkb2c).trans hge2c
    obtain ⟨qd2,_,_,hixd2,hldd2⟩:=hdat e2c hke2c
    obtain ⟨qd3,_,_,hixd3,hldd3⟩:=hdat _ hkp
    obtain ⟨qd4,_,_,hixd4,hldd4⟩:=hdat e3c hke3c
    obtain rfl:qd3=qd2:=by rw [hixd2] at hixd3; simp at hixd3; exact hixd3.symm
    obtain rfl:qd4=qd3:=by rw [hixd2] at hixd4; simp at hixd4; exact hixd4.symm
    have hg32:=hg3h e2c hke2c
    have hg33:=hg3h _ hkp
    have hg34:=hg3h e3c hke3c
    simp [push_cast,hlt',hix,ld3,hld,hcge,aUn_not',fa100_3,fa100_4,ld53,ld37,ji9 hg,ji9 hge2a,jd9,buildS_i,ap1a,s1a,buildS_s,ap2a,s2a,hxk',fa100_3,fa100_4,ld53,ld37,ji9 hge4a,jd9,buildS_i,ap1c,s1c]
    refine drawS [0,1,2,3,4,5,6,7,8,9,10] (by kernel_rfl) (by kernel_rfl) ?_
    simp [push_cast,zx9,zy9,SgO,opA,isE,isRead,fa100_3,fa100_4,ld53,ld37,ld9,ji9 hge2c,ji9 hg32,jd9,hixd2,hldd2]
    refine jc9 (h':=e2c.push (.cells [.str d] 9)) (v:= .sl (some (.new e2c.next 0)) 1 1 none) (by rfl) (by simp [push_cast,buildS_s]) ⟨?_,?_⟩
    · simp [zz9,ja9,push_cast,opA,fa100_3,fa100_4,ld53,ld37,ld9,ji9 hg2p,ji9 hg33,jd9,hldd3]
    simp [zx9,zy9,SgO,opA,isE,isRead]
    refine jc9 (h':=e3c) (v:= .sl p2c n2c c2c g2c) (by rfl) (by simp [push_cast,ap2c]) ⟨?_,?_⟩
    · simp [zz9,ja9,push_cast,opA,fa100_3,fa100_4,ld53,ld37,ld9,ji9 hge3c,ji9 hg34,jd9,hldd4]
    simp [push_cast,zx9,zy9,SgO,opA,isE,isRead,jd9,fa100_4]
    refine jc9 (h':=e4c) (v:= .undef) (by rfl) (by simp [push_cast,s2c]) ⟨?_,?_⟩
    · simp only [zz9,ja9]; exact ⟨fun hr=>absurd hr (by decide),fun hr=>absurd hr (by decide),fun hr=>absurd hr (by decide),trivial⟩
    simp [zx9,zy9,SgO,opA,isE,isRead,push_cast,wi]
    exact ⟨n - 1,by omega,by simp,hke4c,i + 1,true,acc ++ [(k,b)] ++ [(x,d)],by omega,⟨hkb4c,_,_,hge4c,by simpa using ho4c,by simpa using hd4c⟩,by simpa using hacc,by simp⟩
  · rw [if_neg (fun hc=>hcge hc.2),List.nil_append,decide_eq_false hcge,Bool.false_or] at hacc
    by_cases hxk:x=k
    case pos=>
      have hxk':(x !=k)=false:=by simpa using hxk
      rw [if_neg (show ¬x≠k from fun hc=>hc hxk)] at hacc
      simp [push_cast,hlt',hix,ld3,hld,hcge,aUn_not',hxk',wi]
      exact ⟨n - 1,by omega,by simp,hk,i + 1,false,acc,by omega,⟨hkb',_,_,hg,hov,hdvo⟩,by simpa using hacc,by simp⟩
    have hxk':(x !=k)=true:=by simpa using hxk
    rw [if_pos hxk] at hacc
    obtain ⟨qd,_,_,hixd,hldd⟩:=hdat h' hk
    have hg3k:=hg3h h' hk
    obtain ⟨p1c,n1c,c1c,g1c,p2c,n2c,c2c,g2c,e1c,e2c,e3c,e4c,ap1c,s1c,hge2c,ap2c,s2c,hge4c,ho4c,hd4c,hke2c,hke4c,hkb4c,_,hge3c,hke3c,hkb2c⟩:=nd_app2 (W:=W) hk ⟨hlo,hkb'⟩ hg hov hdvo x d ⟨by simp; omega,by simp; omega⟩
    have hkp:=hke2c.trans (Keeps.push e2c (.cells [.str d] 9))
    have hg2p:=((Keeps.push e2c (.cells [.str d] 9)).2 kb hkb2c).trans hge2c
    obtain ⟨qd2,_,_,hixd2,hldd2⟩:=hdat e2c hke2c
    obtain ⟨qd3,_,_,hixd3,hldd3⟩:=hdat _ hkp
    obtain ⟨qd4,_,_,hixd4,hldd4⟩:=hdat e3c hke3c
    obtain rfl:qd3=qd2:=by rw [hixd2] at hixd3; simp at hixd3; exact hixd3.symm
    obtain rfl:qd4=qd3:=by rw [hixd2] at hixd4; simp at hixd4; exact hixd4.symm
    have hg32:=hg3h e2c hke2c
    have hg33:=hg3h _ hkp
    have hg34:=hg3h e3c hke3c
    simp [push_cast,hlt',hix,ld3,hld,hcge,aUn_not',hxk',fa100_3,fa100_4,ld53,ld37,ji9 hg,jd9,buildS_i,ap1c,s1c]
    refine drawS [0,1,2,3,4,5,6,7,8,9,10] (by kernel_rfl) (by kernel_rfl) ?_
    simp [push_cast,zx9,zy9,SgO,opA,isE,isRead,fa100_3,fa100_4,ld53,ld37,ld9,ji9 hge2c,ji9 hg32,jd9,hixd2,hldd2]
    refine jc9 (h':=e2c.push (.cells [.str d] 9)) (v:= .sl (some (.new e2c.next 0)) 1 1 none) (by rfl) (by simp [push_cast,buildS_s]) ⟨?_,?_⟩
    · simp [zz9,ja9,push_cast,opA,fa100_3,fa100_4,ld53,ld37,ld9,ji9 hg2p,ji9 hg33,jd9,hldd3]
    simp [zx9,zy9,SgO,opA,isE,isRead]
    refine jc9 (h':=e3c) (v:= .sl p2c n2c c2c g2c) (by rfl) (by simp [push_cast,ap2c]) ⟨?_,?_⟩
    · simp [zz9,ja9,push_cast,opA,fa100_3,fa100_4,ld53,ld37,ld9,ji9 hge3c,ji9 hg34,jd9,hldd4]
    simp [push_cast,zx9,zy9,SgO,opA,isE,isRead,jd9,fa100_4]
    refine jc9 (h':=e4c) (v:= .undef) (by rfl) (by simp [push_cast,s2c]) ⟨?_,?_⟩
    · simp only [zz9,ja9]; exact ⟨fun hr=>absurd hr (by decide),fun hr=>absurd hr (by decide),fun hr=>absurd hr (by decide),trivial⟩
    simp [zx9,zy9,SgO,opA,isE,isRead,push_cast,wi]
    exact ⟨n - 1,by omega,by simp,hke4c,i + 1,false,acc ++ [(x,d)],by omega,⟨hkb4c,_,_,hge4c,by simpa using ho4c,by simpa using hd4c⟩,by simpa using hacc,by simp⟩
theorem mkS_bytes {W:World} {h:AH} {b:List UInt8}:aConvE (CC W) h 9 51 (.str b)=some (.sl (some (.new h.next 0)) b.length b.length (some 1),h.push (.cells (bcells b) 5)):=by
  simp only [aConvE,kind51,kind9,kind5]; rfl
theorem mkS_none {W:World} {h:AH} {b:List UInt8}:aConv (CC W) h 9 51 (.str b)=none:=by
  simp only [aConv,kind51,kind9]
theorem aStoreS_byte {W:World} {h:AH} {k o:Nat} {l:List UInt8} {t:TypeId} {x:UInt8} (hk:h.get k=some (.cells (bcells l) t)) (ho:o<l.length):
    aStoreOp (CC W) h 5 (.ptr (some (.new k o))) (.int .u8 (x.toNat:Int))=some (h.set k (.cells (bcells (l.set o x)) t)):=by
  have hn:x.toNat<256:=x.toNat_lt
  simp only [aStoreOp,aCellsOf,size5,List.length_singleton,if_true,aStore,hk,bcells_length]
  rw [if_pos ⟨by omega,by simp [aOne]⟩,bcells_put ho hn]
  simp
theorem idxS_bytes {W:World} {k i n c:Nat} {gr:Option Nat} (hi:i<n):aIndexAddr (CC W) 51 (.sl (some (.new k 0)) n c gr) (.int .i64 (i:Int))=some (.ptr (some (.new k i))):=by
  simp only [aIndexAddr,kind51,size5]
  rw [if_pos (by omega)]
  simp [AA.add]
theorem convS_bytes {W:World} {h:AH} {k:Nat} {l:List UInt8} {t:TypeId} {c:Nat} {gr:Option Nat} (hk:h.get k=some (.cells (bcells l) t)) (hl:0<l.length) (hc:l.length≤c):
    aConv (CC W) h 51 9 (.sl (some (.new k 0)) l.length c gr)=some (.str l):=by
  simp only [aConv,kind51,kind9,kind5]
  have h2:(bcells l).take l.length=bcells l:=List.take_of_length_le (by rw [bcells_length]; omega)
  rw [if_neg (by omega)]
  simp [aCells,hk,bcells_length,h2,bcells_read]
theorem wrS_byte {a i:Nat} {d old:List UInt8} (ho:old.length=128) (hi:i * 128<a + d.length) (hi2:a<(i + 1) * 128) (hm:i<4166) {q:Nat} (hq:q<128):
    ((wrS a d i old)[q]?).getD 0=if a≤i * 128 + q∧i * 128 + q<a + d.length then (d[i * 128 + q - a]?).getD 0 else (old[q]?).getD 0:=by
  have hb:BOk [((i:Int),old)]:=fun x hx=>by
    simp at hx; subst hx; exact ⟨ho,by simp,by simp; omega⟩
  have h1:=wrStep_byte hb hi hi2 (i * 128 + q)
  have hbk:blkAt (some [((i:Int),old)]) (i:Int)=some old:=by simp [blkAt,fnd]
  have hd:(i * 128 + q) / 128=i:=by omega
  have hmm:(i * 128 + q) % 128=q:=by omega
  simp only [wrStep,hbk,Option.getD_some] at h1
  rw [byteAt_setB,hd,if_pos rfl,hmm] at h1
  rw [h1]
  simp only [true_and]
  split
  · rfl
  · simp only [byteAt,hd,hmm,hbk]
def LayB (a:Nat) (d:List UInt8) (i:Nat) (old l:List UInt8) (q:Nat):Prop:=l.length=128∧∀p,p<128→(l[p]?).getD 0=if p<q∧a≤i * 128 + p∧i * 128 + p<a + d.length then (d[i * 128 + p - a]?).getD 0 else (old[p]?).getD 0
theorem layB_done {a i:Nat} {d old l:List UInt8} (ho:old.length=128) (hi:i * 128<a + d.length) (hi2:a<(i + 1) * 128) (hm:i<4166) (hl:LayB a d i old l 128):l=wrS a d i old:=by
  obtain ⟨h1,h2⟩:=hl
  have h3:=wrS_len (a:=a) (d:=d) ho hi hi2
  refine List.ext_getElem (by omega) fun p hp1 hp2=> ?_
  have e1:=h2 p (by omega)
  have e2:=wrS_byte (a:=a) (d:=d) ho hi hi2 hm (q:=p) (by omega)
  have hp:p<128:=by omega
  simp only [hp,true_and] at e1
  rw [←e2] at e1
  simpa [hp1,hp2] using e1
theorem layB_zero {a i:Nat} {d old:List UInt8} (ho:old.length=128):LayB a d i old old 0:=⟨ho,fun p hp=>by simp⟩
theorem layB_set {a i q:Nat} {d old l:List UInt8} {x:UInt8} (hl:LayB a d i old l q) (hq:q<128) (h1:a≤i * 128 + q) (h2:i * 128 + q<a + d.length) (hx:d[i * 128 + q - a]? =some x):LayB a d i old (l.set q x) (q + 1):=by
  obtain ⟨e1,e2⟩:=hl
  refine ⟨by simpa using e1,fun p hp=> ?_⟩
  by_cases hpq:q=p
  · subst hpq
    rw [List.getElem?_set_self (by omega),if_pos ⟨by omega,h1,h2⟩,hx]
  · rw [List.getElem?_set_ne hpq,e2 p hp]
    by_cases c:a≤i * 128 + p∧i * 128 + p<a + d.length
    · by_cases c2:p<q
      · rw [if_pos ⟨c2,c⟩,if_pos ⟨by omega,c⟩]
      · rw [if_neg (fun h=>c2 h.1),if_neg (fun h=>by omega)]
    · rw [if_neg (fun h=>c h.2),if_neg (fun h=>c h.2)]
theorem layB_skip {a i q:Nat} {d old l:List UInt8} (hl:LayB a d i old l q) (h:¬(a≤i * 128 + q∧i * 128 + q<a + d.length)):LayB a d i old l (q + 1):=by
  obtain ⟨e1,e2⟩:=hl
  refine ⟨e1,fun p hp=> ?_⟩
  rw [e2 p hp]
  by_cases c:a≤i * 128 + p∧i * 128 + p<a + d.length
  · by_cases c2:p<q
    · rw [if_pos ⟨c2,c⟩,if_pos ⟨by omega,c⟩]
    · have:p≠q:=fun e=>h (e ▸ c)
      rw [if_neg (fun h=>c2 h.1),if_neg (fun h=>by omega)]
  · rw [if_neg (fun h=>c h.2),if_neg (fun h=>c h.2)]
def PrB (A:Nat→Prop) (lo k3 kz:Nat) (q:Nat):Prop:=(A q∧q<lo)∨(lo≤q∧q≠k3∧q≠kz)
def WrI (A:Nat→Prop) (h:AH) (nd:Nd) (bl:Blk) (a:Nat) (d:List UInt8) (k3 kz:Nat) (n:Nat) (e':Env) (h':AH):Prop:=
  e'.length=74∧Keeps h h'∧kz<h'.next∧k3<h'.next∧h'.get kz=some (.cells zN 100)∧∃(j k:Nat) (bl':Blk) (cs:List AV),j + n=10∧k=a / 128 + j∧h'.get k3=some (.cells cs 100)∧NdC (PrB A h.next k3 kz) h' cs {nd with blocks:=some bl'}∧BOk bl'∧(bl'.map (·.1)).Nodup∧(ixR {nd with blocks:=some bl'}).length≤(ixR nd).length + j∧wrF a d (10 - j) k bl'=wrB a d bl∧
    (e'.getD 1 .undef= .int .i64 a∧e'.getD 2 .undef= .str d∧e'.getD 3 .undef= .ptr (some (.new k3 0))∧e'.getD 6 .undef= .ptr (some (.new kz 0))∧e'.getD 7 .undef= .int .i64 (k:Int))
def WiI (h2:AH) (a:Nat) (d old:List UInt8) (k k3 kz kc:Nat) (n:Nat) (e':Env) (h':AH):Prop:=
  e'.length=74∧h'.next=h2.next∧(∀j,j≠kc→h'.get j=h2.get j)∧∃(q:Nat) (l:List UInt8),q + n=128∧h'.get kc=some (.cells (bcells l) 5)∧LayB a d k old l q∧
    (e'.getD 1 .undef= .int .i64 a∧e'.getD 2 .undef= .str d∧e'.getD 3 .undef= .ptr (some (.new k3 0))∧e'.getD 6 .undef= .ptr (some (.new kz 0))∧e'.getD 7 .undef= .int .i64 (k:Int)∧e'.getD 10 .undef= .sl (some (.new kc 0)) 128 128 (some 1)∧e'.getD 11 .undef= .int .i64 q)
set_option maxHeartbeats 32000000 in
set_option maxRecDepth 20000 in
theorem rwritten_ret (W:World) (A:Nat→Prop) (h:AH) (cs:List AV) (nd:Nd) (hn:NdC A h cs nd) (hl:NdShort nd) (hl4:(ixR nd).length<100000) (hsl:nd.slots=[]) (hsz:0≤nd.size∧nd.size<1000000000) (bl:Blk) (hbl:nd.blocks=some bl) (hbo:BOk bl) (hky:(bl.map (·.1)).Nodup) (a:Nat) (d:List UInt8) (hd:d.length≤1024) (had:a + d.length≤533248):
    RetQ (CC W) 129 [.agg cs,.int .i64 a,.str d] h (fun w h'=>∃cs',w= .agg cs'∧NdC (fun q=>A q∨h.next≤q) h' cs' {nd with blocks:=some (wrB a d bl),size:=max nd.size (a + d.length)}):=by
  refine jj9 (cc_ok W) (fn129 W) (by simp only [Tryz.f129]; rfl) rfl rfl ?_
  have hbx:=box_rn (h:=h) (l:=cs)
  have hk1:=Keeps.push h (.cells cs 100)
  have hg1:(h.push (.cells cs 100)).get h.next=some (.cells cs 100):=by simp
  have hn1:h.next<(h.push (.cells cs 100)).next:=by simp
  generalize h.push (.cells cs 100)=h1 at hbx hk1 hg1 hn1
  obtain ⟨k3,hk3e⟩:∃k3,k3=h.next:=⟨_,rfl⟩
  rw [←hk3e] at hbx hg1 hn1
  have hal:=alloc_rn (W:=W) (h:=h1)
  have hk2:=Keeps.push h1 (.cells zN 100)
  have hz2:(h1.push (.cells zN 100)).get h1.next=some (.cells zN 100):=by simp
  have hn2:h1.next<(h1.push (.cells zN 100)).next:=by simp
  generalize h1.push (.cells zN 100)=h2 at hal hk2 hz2 hn2
  obtain ⟨kz,hkze⟩:∃kz,kz=h1.next:=⟨_,rfl⟩
  rw [←hkze] at hal hz2 hn2
  have hg2:=(hk2.2 k3 hn1).trans hg1
  have hn32:k3<h2.next:=Nat.lt_of_lt_of_le hn1 hk2.1
  have hk02:=hk1.trans hk2
  have h3z:k3≠kz:=by omega
  have hnc2:NdC (PrB A h.next k3 kz) h2 cs {nd with blocks:=some bl}:=by
    have:({nd with blocks:=some bl}:Nd)=nd:=by rw [←hbl]
    rw [this]
    exact (hn.imp fun q hq h1=> .inl ⟨h1,hq⟩).keep hk02
  obtain ⟨k0,hk0⟩:∃k0,k0=a / 128:=⟨_,rfl⟩
  have wq:IntKind.i64.wrap (Int.tdiv (a:Int) 128)=(k0:Int):=by
    rw [Int.tdiv_eq_ediv_of_nonneg (by omega),wrap64 (by omega) (by omega)]; omega
  have wq2:IntKind.i64.wrap ((a:Int) / 128)=(k0:Int):=by rw [wrap64 (by omega) (by omega)]; omega
  have hnb:({nd with blocks:=some bl}:Nd)=nd:=by rw [←hbl]
  simp [push_cast,hbx,hal]
  refine hideL fun Q1 K1 hQ1 hK1=> ?_
  refine loopN (cc_ok W) (WrI A h nd bl a d k3 kz) 10 ⟨by simp,hk02,hn2,hn32,hz2,0,k0,bl,cs,by simp,by omega,hg2,hnc2,hbo,hky,by rw [hnb]; omega,by rw [hk0]; rfl,by simp [wq2]⟩ ?_
  rintro n e' h' ⟨hlen',hk,hkzn,hk3n,hzg,j,k,bl',cs',hjn,hke,hg3,hnc,hbo',hky',hixl,hwr,hh⟩
  obtain ⟨a0,a1,a2,a3,a4,a5,a6,a7,a8,a9,rS0,rfl,hS0⟩:=un10 hlen'
  obtain ⟨a10,a11,a12,a13,a14,a15,a16,a17,a18,a19,rS10,rfl,hS10⟩:=un10 hS0
  obtain ⟨a20,a21,a22,a23,a24,a25,a26,a27,a28,a29,rS20,rfl,hS20⟩:=un10 hS10
  obtain ⟨a30,a31,a32,a33,a34,a35,a36,a37,a38,a39,rS30,rfl,hS30⟩:=un10 hS20
  obtain ⟨a40,a41,a42,a43,a44,a45,a46,a47,a48,a49,rS40,rfl,hS40⟩:=un10 hS30
  obtain ⟨a50,a51,a52,a53,a54,a55,a56,a57,a58,a59,rS50,rfl,hS50⟩:=un10 hS40
  obtain ⟨a60,a61,a62,a63,a64,a65,a66,a67,a68,a69,rS60,rfl,hS60⟩:=un10 hS50
  obtain ⟨a70,rS70,rfl,hS70⟩:=un1 hS60
  obtain ⟨a71,rS71,rfl,hS71⟩:=un1 hS70
  obtain ⟨a72,rS72,rfl,hS72⟩:=un1 hS71
  obtain ⟨a73,rS73,rfl,hS73⟩:=un1 hS72
  obtain rfl:=un0 hS73
  clear hlen' hS0 hS10 hS20 hS30 hS40 hS50 hS60 hS70 hS71 hS72 hS73
  simp at hh
  obtain ⟨rfl,rfl,rfl,rfl,rfl⟩:=hh
  have hnl:=hnc.len
  obtain ⟨iv,dv,nv,sv,hcs,_⟩:=_root_.id hnc
  have hle:=hk.1
  have hk0':=hk02.1
  have hlo3:h.next≤k3:=by omega
  have hloz:h.next≤kz:=by have:=hk1.1; omega
  have wk1:IntKind.i64.wrap ((k:Int) + 1)=((k + 1:Nat):Int):=by rw [wrap64 (by omega) (by omega)]; push_cast; omega
  have wk128:IntKind.i64.wrap ((k:Int) * 128)=(k:Int) * 128:=wrap64 (by omega) (by omega)
  have wad:IntKind.i64.wrap ((a:Int) + (d.length:Int))=(a:Int) + (d.length:Int):=wrap64 (by omega) (by omega)
  have hlen9:∀h',aLen (CC W) h' 9 (.str d)=some (.int .i64 d.length):=fun h'=>by simp [aLen,kind9]
  by_cases hc:k * 128<a + d.length
  case neg=>
    have hc':¬(k:Int) * 128<(a:Int) + (d.length:Int):=by omega
    have hfin:bl'=wrB a d bl:=by rw [←hwr,wrF_done hc]
    subst hQ1 hK1
    subst hcs
    rw [hfin] at hnc
    have hldk:=ld_rn (W:=W) hg3
    have fin:∀(z:Int) (h5:AH),z=max nd.size ((a:Int) + d.length)→Keeps h h5→kz<h5.next→h5.get kz=some (.cells zN 100)→NdC (PrB A h.next k3 kz) h5 [.int .i64 nd.kind,.int .i64 nd.links,.int .i64 nd.size,iv,dv,nv,sv] {nd with blocks:=some (wrB a d bl)}→
        ∃h6,aStoreOp (CC W) h5 100 (.ptr (some (.new kz 0))) (.agg [.int .i64 nd.kind,.int .i64 nd.links,.int .i64 z,iv,dv,nv,sv])=some h6∧aLoad (CC W) h6 100 (.new kz 0)=some (.agg [.int .i64 nd.kind,.int .i64 nd.links,.int .i64 z,iv,dv,nv,sv])∧Keeps h h6∧NdC (fun q=>A q∨h.next≤q) h6 [.int .i64 nd.kind,.int .i64 nd.links,.int .i64 z,iv,dv,nv,sv] {nd with blocks:=some (wrB a d bl),size:=max nd.size ((a:Int) + d.length)}:=fun z h5 hz hk5 hkz5 hz5 hn5=>by
      obtain ⟨iv2,dv2,nv2,sv2,he,o1,o2,o3,o4⟩:=hn5
      simp only [List.cons.injEq,and_true,true_and] at he
      obtain ⟨rfl,rfl,rfl,rfl⟩:=he
      have s8:=st_rnA (W:=W) (cs:=[.int .i64 nd.kind,.int .i64 nd.links,.int .i64 z,iv,dv,nv,sv]) hz5 rfl rfl (by
        simp only [List.all_cons,List.all_nil,o1.one,o2.one,o3.one,o4.one]; rfl)
      have hz8:(h5.set kz (.cells [.int .i64 nd.kind,.int .i64 nd.links,.int .i64 z,iv,dv,nv,sv] 100)).get kz=some (.cells [.int .i64 nd.kind,.int .i64 nd.links,.int .i64 z,iv,dv,nv,sv] 100):=by simp
      have hlz:=ld_rn (W:=W) hz8
      have hoff:∀q,PrB A h.next k3 kz q→q<h5.next→(h5.set kz (.cells [.int .i64 nd.kind,.int .i64 nd.links,.int .i64 z,iv,dv,nv,sv] 100)).get q=h5.get q:=fun q hq _=>by
        have:q≠kz:=by
          rcases hq with ⟨_,h2⟩ | ⟨_,_,h2⟩
          · omega
          · exact h2
        simp [this]
      have himp:∀q,q<(h5.set kz (.cells [.int .i64 nd.kind,.int .i64 nd.links,.int .i64 z,iv,dv,nv,sv] 100)).next→PrB A h.next k3 kz q→A q∨h.next≤q:=fun q _ hq=>by
        rcases hq with ⟨h1,_⟩ | ⟨h1,_⟩
        · exact .inl h1
        · exact .inr h1
      refine ⟨_,s8,hlz,hk5.set hloz _,iv,dv,nv,sv,by rw [hz],?_,?_,?_,?_⟩
      · exact OwnL.imp (OwnL.off o1 (Nat.le_refl _) hoff) himp
      · exact OwnL.imp (OwnL.off o2 (Nat.le_refl _) hoff) himp
      · exact OwnL.imp (OwnL.off o3 (Nat.le_refl _) hoff) himp
      · exact OwnL.imp (OwnL.off o4 (Nat.le_refl _) hoff) himp
    by_cases hgt:nd.size<(a:Int) + d.length
    · have s0:=st_rn2 (W:=W) (x:=(a:Int) + d.length) hg3
      have hg5:(h'.set k3 (.cells [.int .i64 nd.kind,.int .i64 nd.links,.int .i64 ((a:Int) + d.length),iv,dv,nv,sv] 100)).get k3=some (.cells [.int .i64 nd.kind,.int .i64 nd.links,.int .i64 ((a:Int) + d.length),iv,dv,nv,sv] 100):=by simp
      have hld5:=ld_rn (W:=W) hg5
      have hn5:NdC (PrB A h.next k3 kz) (h'.set k3 (.cells [.int .i64 nd.kind,.int .i64 nd.links,.int .i64 ((a:Int) + d.length),iv,dv,nv,sv] 100)) [.int .i64 nd.kind,.int .i64 nd.links,.int .i64 nd.size,iv,dv,nv,sv] {nd with blocks:=some (wrB a d bl)}:=hnc.off (Nat.le_refl _) fun q hq _=>by
        have:q≠k3:=by
          rcases hq with ⟨_,h2⟩ | ⟨_,h2,_⟩
          · omega
          · exact h2
        simp [this]
      obtain ⟨h6,t1,t2,t3,t4⟩:=fin ((a:Int) + d.length) _ (by omega) (hk.set hlo3 _) (by simpa using hkzn) (by simp [Ne.symm h3z]; exact hzg) hn5
      generalize h'.set k3 (.cells [.int .i64 nd.kind,.int .i64 nd.links,.int .i64 ((a:Int) + d.length),iv,dv,nv,sv] 100)=h5 at s0 hg5 hld5 t1
      simp [push_cast,wk128,wad,hlen9,hc',fa100_2,ld3,ji9 hg3,jd9,hgt,s0,hld5,t1,t2]
      exact ⟨t3,t4⟩
    · obtain ⟨h6,t1,t2,t3,t4⟩:=fin nd.size h' (by omega) hk hkzn hzg hnc
      simp [push_cast,wk128,wad,hlen9,hc',fa100_2,ld3,ji9 hg3,jd9,hgt,hldk,t1,t2]
      exact ⟨t3,t4⟩
  have hc':(k:Int) * 128<(a:Int) + (d.length:Int):=by omega
  have hj10:j<10:=by omega
  have hi2:a<(k + 1) * 128:=by omega
  have hkm:k<4166:=by omega
  obtain ⟨f,hf⟩:∃f,10 - j=f + 1:=⟨9 - j,by omega⟩
  have hf2:10 - (j + 1)=f:=by omega
  rw [hf,wrF,if_pos hc] at hwr
  have hldk:aLoad (CC W) h' 100 (.new k3 0)=some (.agg cs'):=by rw [hcs]; exact ld_rn (W:=W) (by rw [←hcs]; exact hg3)
  have hshort:NdShort {nd with blocks:=some bl'}:=⟨by have:=hixl; omega,by simp [hsl]⟩
  have hol:((blkAt (some bl') (k:Int)).getD zblk).length=128:=by
    cases hb:blkAt (some bl') (k:Int) with
    | none=>rfl
    | some s=>exact (hbo' _ (blkAt_mem hb)).1
  have hrb:=rblock_ret W _ h' cs' {nd with blocks:=some bl'} hnc hshort (k:Int)
  simp only at hrb
  have hst0:wrStep a d k bl'=setB k (wrS a d k ((blkAt (some bl') (k:Int)).getD zblk)) bl':=rfl
  generalize hold:(blkAt (some bl') (k:Int)).getD zblk=old at hol hrb hst0
  simp [push_cast,wk128,wad,hlen9,hc',hldk]
  refine jf9 (by simp [fn149]) hrb fun h3 hkb3=> ?_
  have hmk:=mkS_bytes (W:=W) (h:=h3) (b:=old)
  have hkc4:=Keeps.push h3 (.cells (bcells old) 5)
  have hgc4:(h3.push (.cells (bcells old) 5)).get h3.next=some (.cells (bcells old) 5):=by simp
  have hnc4:h3.next<(h3.push (.cells (bcells old) 5)).next:=by simp
  generalize h3.push (.cells (bcells old) 5)=h4 at hmk hkc4 hgc4 hnc4
  obtain ⟨kc,hkce⟩:∃kc,kc=h3.next:=⟨_,rfl⟩
  rw [←hkce] at hmk hgc4 hnc4
  rw [hol] at hmk
  have hk34:=hkb3.trans hkc4
  have hkcn:h'.next≤kc:=by have:=hkb3.1; omega
  simp [push_cast,mkS_none,hmk]
  refine hideL fun Q2 K2 hQ2 hK2=> ?_
  refine loopN (cc_ok W) (WiI h4 a d old k k3 kz kc) 128 ⟨by simp,rfl,fun _ _=>rfl,0,old,by simp,hgc4,layB_zero hol,by simp⟩ ?_
  rintro n2 e2 h5 ⟨hlen2,hnx5,hoff5,q,l,hqm,hgl,hly,hh⟩
  obtain ⟨a0,a1,a2,a3,a4,a5,a6,a7,a8,a9,rS0,rfl,hS0⟩:=un10 hlen2
  obtain ⟨a10,a11,a12,a13,a14,a15,a16,a17,a18,a19,rS10,rfl,hS10⟩:=un10 hS0
  obtain ⟨a20,a21,a22,a23,a24,a25,a26,a27,a28,a29,rS20,rfl,hS20⟩:=un10 hS10
  obtain ⟨a30,a31,a32,a33,a34,a35,a36,a37,a38,a39,rS30,rfl,hS30⟩:=un10 hS20
  obtain ⟨a40,a41,a42,a43,a44,a45,a46,a47,a48,a49,rS40,rfl,hS40⟩:=un10 hS30
  obtain ⟨a50,a51,a52,a53,a54,a55,a56,a57,a58,a59,rS50,rfl,hS50⟩:=un10 hS40
  obtain ⟨a60,a61,a62,a63,a64,a65,a66,a67,a68,a69,rS60,rfl,hS60⟩:=un10 hS50
  obtain ⟨a70,rS70,rfl,hS70⟩:=un1 hS60
  obtain ⟨a71,rS71,rfl,hS71⟩:=un1 hS70
  obtain ⟨a72,rS72,rfl,hS72⟩:=un1 hS71
  obtain ⟨a73,rS73,rfl,hS73⟩:=un1 hS72
  obtain rfl:=un0 hS73
  clear hlen2 hS0 hS10 hS20 hS30 hS40 hS50 hS60 hS70 hS71 hS72 hS73
  simp at hh
  obtain ⟨rfl,rfl,rfl,rfl,rfl,rfl,rfl⟩:=hh
  by_cases hq:q<128
  · have hq':(q:Int)<128:=by omega
    have wq1:IntKind.i64.wrap ((q:Int) + 1)=(q:Int) + 1:=wrap64 (by omega) (by omega)
    have wkq:IntKind.i64.wrap ((k:Int) * 128 + (q:Int))=(k:Int) * 128 + (q:Int):=wrap64 (by omega) (by omega)
    obtain ⟨X,hX⟩:∃X:Int,X=(k:Int) * 128 + (q:Int) - (a:Int):=⟨_,rfl⟩
    have wx:IntKind.i64.wrap ((k:Int) * 128 + (q:Int) - (a:Int))=X:=by rw [hX]; exact wrap64 (by omega) (by omega)
    have hll:=hly.1
    by_cases c1:a≤k * 128 + q
    · have c1':(0:Int)≤X:=by omega
      by_cases c2:k * 128 + q<a + d.length
      · have c2':X<(d.length:Int):=by omega
        obtain ⟨x,hx⟩:∃x,d[k * 128 + q - a]? =some x:=⟨d[k * 128 + q - a]'(by omega),by simp⟩
        have hix:aIndex (CC W) 9 (.str d) (.int .i64 X)=some (.int .u8 x.toNat):=by
          have e:X.toNat=k * 128 + q - a:=by omega
          simp only [aIndex,kind9,e,hx,Option.map_some]
          rw [if_pos c1']
        have hst:=aStoreS_byte (W:=W) (x:=x) hgl (show q<l.length by omega)
        simp [push_cast,hq',wk128,wkq,wx,c1',hlen9,c2',hix,idxS_bytes hq,hst,wq1]
        exact ⟨n2 - 1,by omega,by simp,by simpa using hnx5,fun j hj=>by simp [hj]; exact hoff5 j hj,q + 1,l.set q x,by omega,by simp,layB_set hly hq c1 c2 hx,by simp⟩
      · have c2':¬X<(d.length:Int):=by omega
        simp [push_cast,hq',wk128,wkq,wx,c1',hlen9,c2',wq1]
        exact ⟨n2 - 1,by omega,by simp,hnx5,hoff5,q + 1,l,by omega,hgl,layB_skip hly (fun hc=>c2 hc.2),by simp⟩
    · have c1':¬(0:Int)≤X:=by omega
      simp [push_cast,hq',wk128,wkq,wx,c1',wq1]
      exact ⟨n2 - 1,by omega,by simp,hnx5,hoff5,q + 1,l,by omega,hgl,layB_skip hly (fun hc=>c1 hc.1),by simp⟩
  have hq':¬(q:Int)<128:=by omega
  have hq128:q=128:=by omega
  subst hQ2 hK2
  rw [hq128] at hly
  have hlw:=layB_done hol hc hi2 hkm hly
  have hll:=hly.1
  have hcv:=convS_bytes (W:=W) (c:=128) (gr:=some 1) hgl (by omega) (by omega)
  rw [hll] at hcv
  have hg35:h5.get k3=some (.cells cs' 100):=(hoff5 k3 (by omega)).trans ((hk34.2 k3 hk3n).trans hg3)
  have hld5:aLoad (CC W) h5 100 (.new k3 0)=some (.agg cs'):=by rw [hcs]; exact ld_rn (W:=W) (by rw [←hcs]; exact hg35)
  have hk5:Keeps h' h5:=⟨by have:=hk34.1; omega,fun j hj=>(hoff5 j (by omega)).trans (hk34.2 j hj)⟩
  have hnc5:=hnc.keep hk5
  simp [push_cast,hq',hld5,hcv]
  refine jg9 (by simp [fn150]) (rwith_ret W _ h5 cs' {nd with blocks:=some bl'} hnc5 hshort (by have:=hixl; omega) hsl bl' rfl hky' (k:Int) l) fun w h6 hk6 ⟨cs6,hw6,hn6⟩=> ?_
  subst hw6
  have hstep:setB (k:Int) l bl'=wrStep a d k bl':=by rw [hst0,hlw]
  rw [hstep] at hn6
  have hk56:=hk5.trans hk6
  have hg36:=(hk6.2 k3 (by have:=hk5.1; omega)).trans hg35
  have hst6:=st_rnA (W:=W) (cs:=cs6) hg36 hnl hn6.len hn6.ones
  have hkF:Keeps h (h6.set k3 (.cells cs6 100)):=(hk.trans hk56).set hlo3 _
  have hzF:(h6.set k3 (.cells cs6 100)).get kz=some (.cells zN 100):=by
    simp [Ne.symm h3z]
    exact (hk56.2 kz hkzn).trans hzg
  have hnF:NdC (PrB A h.next k3 kz) (h6.set k3 (.cells cs6 100)) cs6 {nd with blocks:=some (wrStep a d k bl')}:=by
    have hlo5:=hk5.1
    refine NdC.imp (A:=fun q=>h5.next≤q) ?_ fun q _ hq=> .inr ⟨by omega,by omega,by omega⟩
    exact hn6.off (Nat.le_refl _) fun q hq _=>by
      have:q≠k3:=by omega
      simp [this]
  have hbo6:=wrStep_ok hbo' hc hi2 hkm
  have hky6:((wrStep a d k bl').map (·.1)).Nodup:=setB_keys hky'
  have hix6:(ixR {nd with blocks:=some (wrStep a d k bl')}).length≤(ixR nd).length + (j + 1):=by
    have h1:=(with_lists (nd:={nd with blocks:=some bl'}) rfl hky' (k:Int) (wrS a d k old)).1
    have h2:=congrArg List.length h1
    rw [List.length_map] at h2
    have h3:=wG_len (k:Int) (wrS a d k old) (prsR {nd with blocks:=some bl'}) false
    have h4:(prsR {nd with blocks:=some bl'}).length=(ixR {nd with blocks:=some bl'}).length:=by simp [prsR]
    have h5:(ixR {nd with blocks:=some (wrStep a d k bl')}).length=(wG (k:Int) (wrS a d k old) false (prsR {nd with blocks:=some bl'})).length:=by rw [hst0]; exact h2.symm
    omega
  have hn3F:k3<(h6.set k3 (.cells cs6 100)).next:=by have:=hk56.1; simp; omega
  have hnzF:kz<(h6.set k3 (.cells cs6 100)).next:=by have:=hk56.1; simp; omega
  have hgF:(h6.set k3 (.cells cs6 100)).get k3=some (.cells cs6 100):=by simp
  generalize h6.set k3 (.cells cs6 100)=h7 at hst6 hkF hzF hnF hn3F hnzF hgF
  have wk1':IntKind.i64.wrap ((k:Int) + 1)=(k:Int) + 1:=by rw [wk1]; push_cast; rfl
  simp [push_cast,hst6,wk1']
  exact ⟨n - 1,by omega,by simp,hkF,hnzF,hn3F,hzF,j + 1,k + 1,_,cs6,by omega,by omega,hgF,hnF,hbo6,hky6,hix6,by rw [hf2]; exact hwr,by simp⟩
def cutL (N:Int) (l:List (Int×List UInt8)):List (Int×List UInt8):=l.filterMap fun x=>(trK N x.1 x.2).map fun s=>(x.1,s)
theorem trK_some {N k:Int} {s:List UInt8}:trK N k s≠none↔0<N - k * 128:=by
  unfold trK
  split
  · simp; omega
  · split<;>simp<;>omega
theorem cutL_fst {N:Int} {f:Int→List UInt8}:∀(l:List Int),(cutL N (l.map fun q=>(q,f q))).map (·.1)=l.filter fun k=>decide (0<N - k * 128)
  | []=>rfl
  | q::l=>by
    have ih:=cutL_fst (N:=N) (f:=f) l
    simp only [cutL,List.map_cons,List.filterMap_cons,List.filter_cons] at ih ⊢
    cases ht:trK N q (f q) with
    | none=>
      have:¬0<N - q * 128:=fun hc=>(trK_some.2 hc) ht
      rw [if_neg (by simpa using this)]
      exact ih
    | some s=>
      have:0<N - q * 128:=(trK_some (s:=f q)).1 (by rw [ht]; simp)
      rw [if_pos (by simpa using this)]
      simp only [Option.map_some,List.map_cons]
      rw [ih]
theorem cutL_snd {N:Int} {bl:Blk}:∀(l:List Int),(∀q∈l,blkAt (some bl) q≠none)→(cutL N (l.map fun q=>(q,(blkAt (some bl) q).getD []))).map (·.2)=(l.filter fun k=>decide (0<N - k * 128)).map fun q=>(blkAt (some (trB N bl)) q).getD []
  | [],_=>rfl
  | q::l,h=>by
    have ih:=cutL_snd (N:=N) (bl:=bl) l fun x hx=>h x (by simp [hx])
    obtain ⟨d,hd⟩:=Option.ne_none_iff_exists'.1 (h q (by simp))
    simp only [cutL,List.map_cons,List.filterMap_cons,List.filter_cons] at ih ⊢
    rw [hd,Option.getD_some]
    cases ht:trK N q d with
    | none=>
      have:¬0<N - q * 128:=fun hc=>(trK_some.2 hc) ht
      rw [if_neg (by simpa using this)]
      exact ih
    | some s=>
      have:0<N - q * 128:=(trK_some (s:=d)).1 (by rw [ht]; simp)
      rw [if_pos (by simpa using this)]
      simp only [Option.map_some,List.map_cons]
      rw [ih,blkAt_trB,hd]
      simp [ht]
theorem cut_lists {nd:Nd} {bl:Blk} (hb:nd.blocks=some bl) (N:Int):
    (cutL N (prsR nd)).map (·.1)=ixR {nd with blocks:=some (trB N bl),size:=N}∧(cutL N (prsR nd)).map (·.2)=dtR {nd with blocks:=some (trB N bl),size:=N}:=by
  have he:ixR {nd with blocks:=some (trB N bl),size:=N}=(ixR nd).filter fun k=>decide (0<N - k * 128):=by
    simp only [ixR,hb,Option.getD_some]
    rw [trB_keys]
    refine List.Perm.eq_of_pairwise (le:=fun a b:Int=>a≤b) (fun a b _ _ h1 h2=>Int.le_antisymm h1 h2) (sortI_sorted _) ((sortI_sorted _).filter _) ?_
    exact (sortI_perm _).trans ((sortI_perm _).symm.filter _)
  refine ⟨by rw [he]; exact cutL_fst _,?_⟩
  have h2:dtR {nd with blocks:=some (trB N bl),size:=N}=(ixR {nd with blocks:=some (trB N bl),size:=N}).map fun q=>(blkAt (some (trB N bl)) q).getD []:=rfl
  rw [h2,he]
  unfold prsR
  rw [hb]
  exact cutL_snd _ fun q hq=>by rw [mem_ix,hb] at hq; exact hq
theorem cutL_len (N:Int) (l:List (Int×List UInt8)):(cutL N l).length≤l.length:=List.length_filterMap_le _ _
def LayC (N x:Int) (old l:List UInt8) (q:Nat):Prop:=l.length=128∧∀p,p<128→(l[p]?).getD 0=if p<q∧¬x * 128 + p<N then 0 else (old[p]?).getD 0
theorem layC_zero {N x:Int} {old:List UInt8} (ho:old.length=128):LayC N x old old 0:=⟨ho,fun p hp=>by simp⟩
theorem layC_cut {N x:Int} {old l:List UInt8} {q:Nat} (hl:LayC N x old l q) (hq:q<128) (h:¬x * 128 + q<N):LayC N x old (l.set q 0) (q + 1):=by
  obtain ⟨e1,e2⟩:=hl
  refine ⟨by simpa using e1,fun p hp=> ?_⟩
  by_cases hpq:q=p
  · subst hpq
    rw [List.getElem?_set_self (by omega),if_pos ⟨by omega,h⟩]; rfl
  · rw [List.getElem?_set_ne hpq,e2 p hp]
    by_cases c:¬x * 128 + (p:Int)<N
    · by_cases c2:p<q
      · rw [if_pos ⟨c2,c⟩,if_pos ⟨by omega,c⟩]
      · rw [if_neg (fun h=>c2 h.1),if_neg (fun h=>by omega)]
    · rw [if_neg (fun h=>c h.2),if_neg (fun h=>c h.2)]
theorem layC_skip {N x:Int} {old l:List UInt8} {q:Nat} (hl:LayC N x old l q) (h:x * 128 + q<N):LayC N x old l (q + 1):=by
  obtain ⟨e1,e2⟩:=hl
  refine ⟨e1,fun p hp=> ?_⟩
  rw [e2 p hp]
  by_cases c:¬x * 128 + (p:Int)<N
  · by_cases c2:p<q
    · rw [if_pos ⟨c2,c⟩,if_pos ⟨by omega,c⟩]
    · have:p≠q:=fun e=>c (by rw [e]; exact h)
      rw [if_neg (fun h=>c2 h.1),if_neg (fun h=>by omega)]
  · rw [if_neg (fun h=>c h.2),if_neg (fun h=>c h.2)]
theorem layC_done {N x:Int} {old l:List UInt8} (ho:old.length=128) (hl:LayC N x old l 128) (hN:0<N - x * 128):trK N x old=some l:=by
  obtain ⟨e1,e2⟩:=hl
  have key:∀m:List UInt8,m.length=128→(∀p:Nat,p<128→(m[p]?).getD 0=if ¬x * 128 + (p:Int)<N then 0 else (old[p]?).getD 0)→m=l:=fun m hm hp=>by
    refine List.ext_getElem (by omega) fun p hp1 hp2=> ?_
    have h1:=hp p (by omega)
    have h2:=e2 p (by omega)
    have:p<128:=by omega
    simp only [this,true_and] at h2
    rw [←h2] at h1
    simpa [hp1,hp2] using h1
  unfold trK
  rw [if_neg (by omega)]
  by_cases hc:N - x * 128<128
  · rw [if_pos hc]
    congr 1
    have hlen:(old.take (N - x * 128).toNat).length=(N - x * 128).toNat:=by simp; omega
    refine key _ (by simp; omega) fun p hp=> ?_
    by_cases hpn:p<(N - x * 128).toNat
    · rw [List.getElem?_append_left (by omega),List.getElem?_take,if_pos hpn,if_neg (by omega)]
    · rw [List.getElem?_append_right (by omega),hlen,List.getElem?_replicate,if_pos (by omega),if_pos (by omega)]; rfl
  · rw [if_neg hc]
    congr 1
    exact key old ho fun p hp=>by rw [if_neg (by omega)]
def CuI (hb:AH) (nd:Nd) (iv:AV) (k3 kz kb:Nat) (N:Int) (n:Nat) (e':Env) (h':AH):Prop:=
  e'.length=60∧Keeps hb h'∧∃(i:Nat) (acc:List (Int×List UInt8)),i + n=(ixR nd).length∧Acc hb h' kb nd acc∧acc ++ cutL N ((prsR nd).drop i)=cutL N (prsR nd)∧
    (e'.getD 1 .undef= .int .i64 N∧e'.getD 2 .undef= .ptr (some (.new k3 0))∧e'.getD 4 .undef= .ptr (some (.new kz 0))∧e'.getD 5 .undef= .ptr (some (.new kb 0))∧iv=e'.getD 16 .undef∧e'.getD 17 .undef= .int .i64 (ixR nd).length∧e'.getD 18 .undef= .int .i64 i)
def CvI (h2:AH) (iv:AV) (len i:Nat) (N x:Int) (old:List UInt8) (k3 kz kb kc:Nat) (n:Nat) (e':Env) (h':AH):Prop:=
  e'.length=60∧h'.next=h2.next∧(∀j,j≠kc→h'.get j=h2.get j)∧∃(q:Nat) (l:List UInt8),q + n=128∧h'.get kc=some (.cells (bcells l) 5)∧LayC N x old l q∧
    (e'.getD 1 .undef= .int .i64 N∧e'.getD 2 .undef= .ptr (some (.new k3 0))∧e'.getD 4 .undef= .ptr (some (.new kz 0))∧e'.getD 5 .undef= .ptr (some (.new kb 0))∧e'.getD 7 .undef= .int .i64 x∧e'.getD 8 .undef= .sl (some (.new kc 0)) 128 128 (some 1)∧e'.getD 9 .undef= .bool (decide (0<q∧x * 128<N))∧e'.getD 10 .undef= .int .i64 q∧iv=e'.getD 16 .undef∧e'.getD 17 .undef= .int .i64 len∧e'.getD 18 .undef= .int .i64 i)
set_option maxHeartbeats 32000000 in
set_option maxRecDepth 20000 in
theorem rcut_ret (W:World) (A:Nat→Prop) (h:AH) (cs:List AV) (nd:Nd) (hn:NdC A h cs nd) (hl:NdShort nd) (hl4:(ixR nd).length<1000000) (hsl:nd.slots=[]) (bl:Blk) (hbl:nd.blocks=some bl) (hbo:BOk bl) (N:Int) (hN:0≤N∧N≤533248):
    RetQ (CC W) 128 [.agg cs,.int .i64 N] h (fun w h'=>∃cs',w= .agg cs'∧NdC (fun q=>h.next≤q) h' cs' {nd with blocks:=some (trB N bl),size:=N}):=by
  refine jj9 (cc_ok W) (fn128 W) (by simp only [Tryz.f128]; rfl) rfl rfl ?_
  have hl1:=hl.1
  have hpl:(prsR nd).length=(ixR nd).length:=by simp [prsR]
  obtain ⟨iv,dv0,nv,sv,rfl,hiv,hdv,hnv,hsv⟩:=_root_.id hn
  rw [hsl] at hnv hsv
  obtain rfl:=hnv.none
  obtain rfl:=hsv.none
  have hbx:=box_rn (h:=h) (l:=[.int .i64 nd.kind,.int .i64 nd.links,.int .i64 nd.size,iv,dv0,.sl none 0 0 none,.sl none 0 0 none])
  have hk1:=Keeps.push h (.cells [.int .i64 nd.kind,.int .i64 nd.links,.int .i64 nd.size,iv,dv0,.sl none 0 0 none,.sl none 0 0 none] 100)
  have hg1:(h.push (.cells [.int .i64 nd.kind,.int .i64 nd.links,.int .i64 nd.size,iv,dv0,.sl none 0 0 none,.sl none 0 0 none] 100)).get h.next=some (.cells [.int .i64 nd.kind,.int .i64 nd.links,.int .i64 nd.size,iv,dv0,.sl none 0 0 none,.sl none 0 0 none] 100):=by simp
  have hn1:h.next<(h.push (.cells [.int .i64 nd.kind,.int .i64 nd.links,.int .i64 nd.size,iv,dv0,.sl none 0 0 none,.sl none 0 0 none] 100)).next:=by simp
  generalize h.push (.cells [.int .i64 nd.kind,.int .i64 nd.links,.int .i64 nd.size,iv,dv0,.sl none 0 0 none,.sl none 0 0 none] 100)=h1 at hbx hk1 hg1 hn1
  obtain ⟨k3,hk3e⟩:∃k3,k3=h.next:=⟨_,rfl⟩
  rw [←hk3e] at hbx hg1 hn1
  have hal:=alloc_rn (W:=W) (h:=h1)
  have hk2:=Keeps.push h1 (.cells zN 100)
  have hz2:(h1.push (.cells zN 100)).get h1.next=some (.cells zN 100):=by simp
  have hn2:h1.next<(h1.push (.cells zN 100)).next:=by simp
  generalize h1.push (.cells zN 100)=h2 at hal hk2 hz2 hn2
  obtain ⟨kz,hkze⟩:∃kz,kz=h1.next:=⟨_,rfl⟩
  rw [←hkze] at hal hz2 hn2
  have hg2:=(hk2.2 k3 hn1).trans hg1
  have hn32:k3<h2.next:=Nat.lt_of_lt_of_le hn1 hk2.1
  have hld2:=ld_rn (W:=W) hg2
  have hnc2:=(hn.keep hk1).keep hk2
  simp [push_cast,hbx,hal,hld2]
  refine jg9 (by simp [fn87]) (own_ret W _ h2 _ nd hnc2 hl) fun w hb hkb2 ⟨cs',hw,hno⟩=> ?_
  subst hw
  obtain ⟨iv',dv',nv',sv',rfl,_,_,hnv',hsv'⟩:=_root_.id hno
  rw [hsl] at hnv' hsv'
  obtain rfl:=hnv'.none
  obtain rfl:=hsv'.none
  obtain ⟨h4p,h4,hal4,hst4,hk4,hb4,hg4⟩:=nd_box (W:=W) hb hno.len hno.ones
  obtain ⟨kb,hkbe⟩:∃kb,kb=hb.next:=⟨_,rfl⟩
  rw [←hkbe] at hal4 hst4 hb4 hg4
  have s5:=st_rn3 (W:=W) (p:=none) (n:=0) (q:=0) (gr:=none) hg4
  have hk5:Keeps hb (h4.set kb (.cells [.int .i64 nd.kind,.int .i64 nd.links,.int .i64 nd.size,.sl none 0 0 none,dv',.sl none 0 0 none,.sl none 0 0 none] 100)):=hk4.set (by omega) _
  have hg5:(h4.set kb (.cells [.int .i64 nd.kind,.int .i64 nd.links,.int .i64 nd.size,.sl none 0 0 none,dv',.sl none 0 0 none,.sl none 0 0 none] 100)).get kb=some (.cells [.int .i64 nd.kind,.int .i64 nd.links,.int .i64 nd.size,.sl none 0 0 none,dv',.sl none 0 0 none,.sl none 0 0 none] 100):=by simp
  have hb5:kb<(h4.set kb (.cells [.int .i64 nd.kind,.int .i64 nd.links,.int .i64 nd.size,.sl none 0 0 none,dv',.sl none 0 0 none,.sl none 0 0 none] 100)).next:=by simpa using hb4
  generalize h4.set kb (.cells [.int .i64 nd.kind,.int .i64 nd.links,.int .i64 nd.size,.sl none 0 0 none,dv',.sl none 0 0 none,.sl none 0 0 none] 100)=h5 at s5 hk5 hg5 hb5
  have s6:=st_rn4 (W:=W) (p:=none) (n:=0) (q:=0) (gr:=none) hg5
  have hk6:Keeps hb (h5.set kb (.cells [.int .i64 nd.kind,.int .i64 nd.links,.int .i64 nd.size,.sl none 0 0 none,.sl none 0 0 none,.sl none 0 0 none,.sl none 0 0 none] 100)):=hk5.set (by omega) _
  have hg6:(h5.set kb (.cells [.int .i64 nd.kind,.int .i64 nd.links,.int .i64 nd.size,.sl none 0 0 none,.sl none 0 0 none,.sl none 0 0 none,.sl none 0 0 none] 100)).get kb=some (.cells [.int .i64 nd.kind,.int .i64 nd.links,.int .i64 nd.size,.sl none 0 0 none,.sl none 0 0 none,.sl none 0 0 none,.sl none 0 0 none] 100):=by simp
  have hb6:kb<(h5.set kb (.cells [.int .i64 nd.kind,.int .i64 nd.links,.int .i64 nd.size,.sl none 0 0 none,.sl none 0 0 none,.sl none 0 0 none,.sl none 0 0 none] 100)).next:=by simpa using hb5
  generalize h5.set kb (.cells [.int .i64 nd.kind,.int .i64 nd.links,.int .i64 nd.size,.sl none 0 0 none,.sl none 0 0 none,.sl none 0 0 none,.sl none 0 0 none] 100)=h6 at s6 hk6 hg6 hb6
  have hn3b:k3<hb.next:=Nat.lt_of_lt_of_le hn32 hkb2.1
  have hnzb:kz<hb.next:=Nat.lt_of_lt_of_le hn2 hkb2.1
  have hgb:=(hkb2.2 k3 hn32).trans hg2
  have hzb:=(hkb2.2 kz hn2).trans hz2
  have hg3h:=fun (h':AH) (hk:Keeps hb h')=>(hk.2 k3 hn3b).trans hgb
  have hivb:=(hiv.keep (hk1.trans hk2)).keep hkb2
  have hdvb:=(hdv.keep (hk1.trans hk2)).keep hkb2
  have hg36:=hg3h h6 hk6
  have hln:=(hivb.keep hk6).len (W:=W) (T:=53) (kind53 W) (h2:=h6)
  simp [push_cast,hal4,hst4,fa100_3,fa100_4,s5,s6,ld53,ji9 hg36,jd9,hln]
  refine hideL fun Q1 K1 hQ1 hK1=> ?_
  refine loopN (cc_ok W) (CuI hb nd iv k3 kz kb N) (ixR nd).length ⟨by simp,hk6,0,[],by simp,⟨hb6,_,_,hg6,.inl ⟨rfl,rfl⟩,.inl ⟨rfl,rfl⟩⟩,by simp,by simp⟩ ?_
  rintro n e' h' ⟨hlen',hk,i,acc,him,⟨hkb',ov,dv,hg,hov,hdvo⟩,hacc,hh⟩
  obtain ⟨a0,a1,a2,a3,a4,a5,a6,a7,a8,a9,rS0,rfl,hS0⟩:=un10 hlen'
  obtain ⟨a10,a11,a12,a13,a14,a15,a16,a17,a18,a19,rS10,rfl,hS10⟩:=un10 hS0
  obtain ⟨a20,a21,a22,a23,a24,a25,a26,a27,a28,a29,rS20,rfl,hS20⟩:=un10 hS10
  obtain ⟨a30,a31,a32,a33,a34,a35,a36,a37,a38,a39,rS30,rfl,hS30⟩:=un10 hS20
  obtain ⟨a40,a41,a42,a43,a44,a45,a46,a47,a48,a49,rS40,rfl,hS40⟩:=un10 hS30
  obtain ⟨a50,a51,a52,a53,a54,a55,a56,a57,a58,a59,rS50,rfl,hS50⟩:=un10 hS40
  obtain rfl:=un0 hS50
  clear hlen' hS0 hS10 hS20 hS30 hS40 hS50
  simp at hh
  obtain ⟨rfl,rfl,rfl,rfl,hv16,rfl,rfl⟩:=hh
  subst hv16
  have hal2:acc.length≤(prsR nd).length:=by
    have:=congrArg List.length hacc
    rw [List.length_append] at this
    have:=cutL_len N (prsR nd)
    omega
  have hlo:hb.next≤kb:=by omega
  by_cases hlt:i<(ixR nd).length
  case neg=>
    have hlt':¬(i:Int)<((ixR nd).length:Int):=by omega
    have hdr:(prsR nd).drop i=[]:=List.drop_of_length_le (by omega)
    rw [hdr] at hacc
    obtain ⟨w1,w2⟩:=cut_lists hbl N
    subst hQ1 hK1
    have hk0:=((hk1.trans hk2).trans hkb2)
    have hfin:acc=cutL N (prsR nd):=by simpa [cutL] using hacc
    rw [←hfin] at w1 w2
    rw [w1] at hov
    rw [w2] at hdvo
    have s0:=st_rn2 (W:=W) (x:=N) hg
    have hg5:(h'.set kb (.cells [.int .i64 nd.kind,.int .i64 nd.links,.int .i64 N,ov,dv,.sl none 0 0 none,.sl none 0 0 none] 100)).get kb=some (.cells [.int .i64 nd.kind,.int .i64 nd.links,.int .i64 N,ov,dv,.sl none 0 0 none,.sl none 0 0 none] 100):=by simp
    have hk7:Keeps hb (h'.set kb (.cells [.int .i64 nd.kind,.int .i64 nd.links,.int .i64 N,ov,dv,.sl none 0 0 none,.sl none 0 0 none] 100)):=hk.set hlo _
    have o1:OwI (fun k=>hb.next≤k) (h'.set kb (.cells [.int .i64 nd.kind,.int .i64 nd.links,.int .i64 N,ov,dv,.sl none 0 0 none,.sl none 0 0 none] 100)) ov (ixR {nd with blocks:=some (trB N bl),size:=N}):=by
      rcases hov with h0 | ⟨q,a1,a2,a3,a4,a5⟩
      · exact .inl h0
      · have:q≠kb:=fun e=>by rw [e,hg] at a4; simp at a4
        exact .inr ⟨q,a1,a2,a3,by simp [this]; simpa using a4,a5⟩
    have o2:OwT (fun k=>hb.next≤k) (h'.set kb (.cells [.int .i64 nd.kind,.int .i64 nd.links,.int .i64 N,ov,dv,.sl none 0 0 none,.sl none 0 0 none] 100)) dv (dtR {nd with blocks:=some (trB N bl),size:=N}):=by
      rcases hdvo with h0 | ⟨q,a1,a2,a3,a4,a5⟩
      · exact .inl h0
      · have:q≠kb:=fun e=>by rw [e,hg] at a4; simp at a4
        exact .inr ⟨q,a1,a2,a3,by simp [this]; simpa using a4,a5⟩
    generalize h'.set kb (.cells [.int .i64 nd.kind,.int .i64 nd.links,.int .i64 N,ov,dv,.sl none 0 0 none,.sl none 0 0 none] 100)=h7 at s0 hg5 hk7 o1 o2
    have hldk:=ld_rn (W:=W) hg5
    have hz7:=(hk7.2 kz hnzb).trans hzb
    have s8:=st_rnA (W:=W) (cs:=[.int .i64 nd.kind,.int .i64 nd.links,.int .i64 N,ov,dv,.sl none 0 0 none,.sl none 0 0 none]) hz7 rfl rfl (by
      simp only [List.all_cons,List.all_nil,o1.one,o2.one]; rfl)
    have hz8:(h7.set kz (.cells [.int .i64 nd.kind,.int .i64 nd.links,.int .i64 N,ov,dv,.sl none 0 0 none,.sl none 0 0 none] 100)).get kz=some (.cells [.int .i64 nd.kind,.int .i64 nd.links,.int .i64 N,ov,dv,.sl none 0 0 none,.sl none 0 0 none] 100):=by simp
    have hlz:=ld_rn (W:=W) hz8
    have hlo1:=hk1.1
    have hlo2:=hk0.1
    simp [push_cast,hlt,hlt',fa100_2,s0,hldk,s8,hlz]
    refine ⟨(hk0.trans hk7).set (by omega) _,ov,dv,.sl none 0 0 none,.sl none 0 0 none,rfl,?_,?_,?_,?_⟩
    · refine OwnL.imp (A:=fun k=>hb.next≤k) ?_ fun q _ hq=>by omega
      exact o1.off (Nat.le_refl _) fun q hq _=>by
        have:q≠kz:=by omega
        simp [this]
    · refine OwnL.imp (A:=fun k=>hb.next≤k) ?_ fun q _ hq=>by omega
      exact o2.off (Nat.le_refl _) fun q hq _=>by
        have:q≠kz:=by omega
        simp [this]
    · exact .inl ⟨by simp [hsl],rfl⟩
    · exact .inl ⟨by simp [hsl],rfl⟩
  have hlt':(i:Int)<((ixR nd).length:Int):=by omega
  have wi:IntKind.i64.wrap ((i:Int) + 1)=(i:Int) + 1:=wrap64 (by omega) (by omega)
  obtain ⟨x,hy⟩:∃x,(ixR nd)[i]? =some x:=⟨(ixR nd)[i],by simp [hlt]⟩
  have hxm:x∈ixR nd:=List.mem_of_getElem? hy
  obtain ⟨d,hds⟩:=Option.ne_none_iff_exists'.1 (mem_ix.1 hxm)
  have hd:d=(blkAt nd.blocks x).getD []:=by rw [hds]; rfl
  have hdm:(x,d)∈bl:=by rw [hbl] at hds; exact blkAt_mem hds
  have hol:d.length=128:=(hbo _ hdm).1
  have hx0:0≤x∧x<4166:=(hbo _ hdm).2
  have hyd:(dtR nd)[i]? =some d:=by simp only [dtR,List.getElem?_map,hy,Option.map,hd]
  have hyp:(prsR nd).drop i=(x,d)::(prsR nd).drop (i + 1):=by
    have h1:(prsR nd)[i]? =some (x,d):=by simp only [prsR,List.getElem?_map,hy,Option.map,hd]
    rw [List.drop_eq_getElem_cons (by omega),(List.getElem?_eq_some_iff.1 h1).2]
  rw [hyp] at hacc
  obtain ⟨q1,_,_,hix,hld⟩:=(hivb.keep hk).at (W:=W) (T:=53) (kind53 W) (size3 W) hy
  obtain ⟨q2,_,_,hixd,hldd⟩:=(hdvb.keep hk).at (W:=W) (T:=37) (kind37 W) (size9 W) hyd
  have hg3k:=hg3h h' hk
  have hmk:=mkS_bytes (W:=W) (h:=h') (b:=d)
  have hkc4:=Keeps.push h' (.cells (bcells d) 5)
  have hgc4:(h'.push (.cells (bcells d) 5)).get h'.next=some (.cells (bcells d) 5):=by simp
  have hnc4:h'.next<(h'.push (.cells (bcells d) 5)).next:=by simp
  generalize h'.push (.cells (bcells d) 5)=h4c at hmk hkc4 hgc4 hnc4
  obtain ⟨kc,hkce⟩:∃kc,kc=h'.next:=⟨_,rfl⟩
  rw [←hkce] at hmk hgc4 hnc4
  rw [hol] at hmk
  simp [push_cast,hlt',hix,ld3,hld,fa100_4,ld37,ji9 hg3k,jd9,hixd,ld9,hldd,mkS_none,hmk]
  refine hideL fun Q2 K2 hQ2 hK2=> ?_
  refine loopN (cc_ok W) (CvI h4c iv (ixR nd).length i N x d k3 kz kb kc) 128 ⟨by simp,rfl,fun _ _=>rfl,0,d,by simp,hgc4,layC_zero hol,by simp⟩ ?_
  rintro n2 e2 h5 ⟨hlen2,hnx5,hoff5,q,l,hqm,hgl,hly,hh⟩
  obtain ⟨a0,a1,a2,a3,a4,a5,a6,a7,a8,a9,rS0,rfl,hS0⟩:=un10 hlen2
  obtain ⟨a10,a11,a12,a13,a14,a15,a16,a17,a18,a19,rS10,rfl,hS10⟩:=un10 hS0
  obtain ⟨a20,a21,a22,a23,a24,a25,a26,a27,a28,a29,rS20,rfl,hS20⟩:=un10 hS10
  obtain ⟨a30,a31,a32,a33,a34,a35,a36,a37,a38,a39,rS30,rfl,hS30⟩:=un10 hS20
  obtain ⟨a40,a41,a42,a43,a44,a45,a46,a47,a48,a49,rS40,rfl,hS40⟩:=un10 hS30
  obtain ⟨a50,a51,a52,a53,a54,a55,a56,a57,a58,a59,rS50,rfl,hS50⟩:=un10 hS40
  obtain rfl:=un0 hS50
  clear hlen2 hS0 hS10 hS20 hS30 hS40 hS50
  simp at hh
  obtain ⟨rfl,rfl,rfl,rfl,rfl,rfl,rfl,rfl,hv16,rfl,rfl⟩:=hh
  subst hv16
  have wx128:IntKind.i64.wrap (x * 128)=x * 128:=wrap64 (by omega) (by omega)
  by_cases hq:q<128
  · have hq':(q:Int)<128:=by omega
    have wq1:IntKind.i64.wrap ((q:Int) + 1)=(q:Int) + 1:=wrap64 (by omega) (by omega)
    have wxq:IntKind.i64.wrap (x * 128 + (q:Int))=x * 128 + (q:Int):=wrap64 (by omega) (by omega)
    have hll:=hly.1
    by_cases c1:x * 128 + (q:Int)<N
    · have hfl:(decide (0<q + 1∧x * 128<N))=true:=decide_eq_true ⟨by omega,by omega⟩
      simp [push_cast,hq',wx128,wxq,c1,wq1]
      exact ⟨n2 - 1,by omega,by simp,hnx5,hoff5,q + 1,l,by omega,hgl,layC_skip hly c1,by simp [hfl]; omega⟩
    · have hst:=aStoreS_byte (W:=W) (x:=0) hgl (show q<l.length by omega)
      have hz:((0:UInt8).toNat:Int)=0:=rfl
      rw [hz] at hst
      have hfl:(decide (0<q + 1∧x * 128<N))=(decide (0<q∧x * 128<N)):=by
        by_cases h0:0<q
        · simp [h0]
        · have:q=0:=by omega
          subst this
          have:¬x * 128<N:=by simpa using c1
          simp [this]
      simp [push_cast,hq',wx128,wxq,c1,idxS_bytes hq,hst,wq1]
      exact ⟨n2 - 1,by omega,by simp,by simpa using hnx5,fun j hj=>by simp [hj]; exact hoff5 j hj,q + 1,l.set q 0,by omega,by simp,layC_cut hly hq c1,by simp; simpa using hfl.symm⟩
  have hq':¬(q:Int)<128:=by omega
  have hq128:q=128:=by omega
  subst hQ2 hK2
  rw [hq128] at hly
  have hll:=hly.1
  have hk5:Keeps h' h5:=⟨by have:=hkc4.1; omega,fun j hj=>(hoff5 j (by omega)).trans (hkc4.2 j hj)⟩
  have hkh5:=hk.trans hk5
  have hkb5:kb<h5.next:=Nat.lt_of_lt_of_le hkb' hk5.1
  have hgb5:=(hk5.2 kb hkb').trans hg
  have hov5:=hov.keep hk5
  have hdv5:=hdvo.keep hk5
  by_cases hc:x * 128<N
  · have hfl:(decide (0<q∧x * 128<N))=true:=decide_eq_true ⟨by omega,hc⟩
    have htr:=layC_done hol hly (by omega)
    have hacc2:acc ++ [(x,l)] ++ cutL N ((prsR nd).drop (i + 1))=cutL N (prsR nd):=by
      rw [←hacc]
      simp [cutL,htr]
    obtain ⟨p1,n1,c1,g1,p2,n2',c2,g2,e1,e2,e3,e4,ap1,s1,hge2,ap2,s2,hge4,ho4,hd4,hke2,hke4,hkb4,hofN,_⟩:=nd_app2 (W:=W) hkh5 ⟨hlo,hkb5⟩ hgb5 hov5 hdv5 x l ⟨by simp; omega,by simp; omega⟩
    have hgc2:=((hofN kc _ 5 (by decide) (by decide) (by omega) (by omega) hgl).1).trans hgl
    have hcv:=convS_bytes (W:=W) (c:=128) (gr:=some 1) hgc2 (by omega) (by omega)
    rw [hll] at hcv
    simp at hfl
    simp [push_cast,hq',hfl,hc,fa100_3,fa100_4,ld53,ld37,ji9 hgb5,ji9 hge2,jd9,buildS_i,ap1,s1,hcv,buildS_s,ap2,s2,wi]
    exact ⟨n - 1,by omega,by simp,hke4,i + 1,acc ++ [(x,l)],by omega,⟨hkb4,_,_,hge4,by simpa using ho4,by simpa using hd4⟩,hacc2,by simp⟩
  · have hfl:(decide (0<q∧x * 128<N))=false:=decide_eq_false (fun h=>hc h.2)
    have htr:trK N x d=none:=by
      unfold trK; rw [if_pos (by omega)]
    have hacc2:acc ++ cutL N ((prsR nd).drop (i + 1))=cutL N (prsR nd):=by
      rw [←hacc]
      simp [cutL,htr]
    simp at hfl
    simp [push_cast,hq',hfl,hc,wi]
    exact ⟨n - 1,by omega,by simp,hkh5,i + 1,acc,by omega,⟨hkb5,_,_,hgb5,hov5,hdv5⟩,hacc2,by simp⟩
end Go.Proofs.YtbofhlifobjolaaGreatDoor.Ax
end
