/- The texts FrameB, FrameO, FrameS, EqRes, Paths, JoinM, TreeF, DeepM, ShortM, FailM, TraceB, TraceC, TraceW, TraceE, TraceF, TraceG, as one. -/
import Derived.Test.YtbofhlifobjolaaGreatDoorCards
import Derived.Test.YtbofhlifobjolaaGreatDoorTie
import Derived.Test.YtbofhlifobjolaaGreatDoorGc
import Derived.WalkKit
import Derived.ProofKit
import Derived.OpenShut
import Derived.SliceStrings
import Derived.Carry
import Derived.Lay
import Derived.SizedLaws
import Derived.Deep.DeepHandedRow
import Derived.Test.YtbofhlifobjolaaGreatDoorGi
import Derived.Test.YtbofhlifobjolaaGreatDoorGe
import Derived.Test.YtbofhlifobjolaaGreatDoorGg
import Derived.Test.YtbofhlifobjolaaGreatDoorGh
section
set_option linter.unusedVariables false
set_option linter.unusedSimpArgs false
namespace Go.Proofs.YtbofhlifobjolaaGreatDoor.Ax
open Go.ChangeShapes Go.WideShapes Go.ChangeAt Go.RowKit
set_option maxRecDepth 100000
theorem own:ownKnob Tryz.prog.godebug=none:=by kernel_rfl
theorem laidOut:laidOutB Tryz.prog=true:=by kernel_rfl
theorem cells9:Tryz.prog.cellsOf 9=1:=by kernel_rfl
theorem post_true {H:Type} {enc:TypeId×Value→H} {f:Func} {s:ChangeSpec} {W W':World} {args:Array Value} {ds:List (DataW H)} {p:List MemPlace}
    (hW:DataW.Whole enc Tryz.prog f.params.toList s.vars false W args.toList ds [] p) (hv:s.vars=[]) (hr:f.resultTypes= #[4])
    (hA:DataW.TrodAll enc Tryz.prog W 0 (fun _=>true) true f.params.toList args.toList ds p)
    (hread:∀t∈f.params.toList,Tryz.prog.readableRec t=true∧t<Tryz.prog.types.size)
    (hfn:s.fn H (ds ++ [])={results:=[.lit (.bool true)],args:=ds})
    (hb:Below W.heap.size W W'):s.post enc Tryz.prog f false true false false W args (.bool true) W':=by
  have hlt:∀x∈p,x.block<W.heap.size:=fun x hx=>by simpa using hW.lt x hx
  have hargs:∀(ts:List TypeId) (vs:List Value) (ds:List (DataW H)) (p:List MemPlace),(∀t∈ts,Tryz.prog.readableRec t=true∧t<Tryz.prog.types.size)→(∀x∈p,x.block<W.heap.size)→
      DataW.TrodAll enc Tryz.prog W 0 (fun _=>true) true ts vs ds p→DataW.TrodAll enc Tryz.prog W' 0 (fun b=>decide (b<W.heap.size)) true ts vs ds p:=by
    intro ts
    induction ts with
    | nil=>intro vs ds p _ _ h; obtain ⟨rfl,rfl,rfl⟩:=trodAll_nil h; simp [DataW.TrodAll]
    | cons t ts ih=>
      intro vs ds p hr hl h
      obtain ⟨v,vs',d,ds',p1,q1,rfl,rfl,rfl,h1,h2⟩:=trodAll_cons h
      obtain ⟨r1,r2⟩:=hr t (by simp)
      exact trodAll_cons_mk (Below.trod laidOut r1 r2 h1 hb fun x hx=>hl x (by simp [hx])) (ih vs' ds' q1 (fun t ht=>hr t (by simp [ht])) (fun x hx=>hl x (by simp [hx])) h2)
  refine ⟨_,_,_,[] ++ [],p,[],hW,?_,?_,?_,hb.frame _,fun h=>by cases h⟩
  · rw [hfn,hr]; exact trodAll_mk1 (shut_bool Tryz.underlying4 true)
  · rw [hfn]; exact hargs _ _ _ _ hread hlt hA
  · rw [hv,hfn]; rfl
theorem bulk_one {H:Type} (d:DataW H):1≤Rows.uptoBulk d:=by
  cases d with
  | lit l=>cases l<;>simp [Rows.uptoBulk]
  | nil=>simp [Rows.uptoBulk]
  | ptr d=>simp [Rows.uptoBulk]
  | slice elems spare=>simp [Rows.uptoBulk]
  | agg parts=>simp [Rows.uptoBulk]
  | iface t d=>simp [Rows.uptoBulk]
  | map entries=>simp [Rows.uptoBulk]
  | held h=>simp [Rows.uptoBulk]
theorem bulk_length {H:Type} (l:List (DataW H)):l.length≤Rows.uptoBulkAll l:=by
  induction l with
  | nil=>simp [Rows.uptoBulkAll]
  | cons x r ih=>have:=bulk_one x; simp only [Rows.uptoBulkAll,List.length_cons]; omega
end Go.Proofs.YtbofhlifobjolaaGreatDoor.Ax
end
section
set_option linter.unusedVariables false
set_option linter.unusedSimpArgs false
namespace Go.Proofs.YtbofhlifobjolaaGreatDoor.Ax
open Go.ChangeShapes Go.WideShapes Go.ChangeAt Go.RowKit
set_option maxRecDepth 100000
theorem cells_op:Tryz.prog.cellsOf 35=6:=by kernel_rfl
theorem cells_3:Tryz.prog.cellsOf 3=1:=by kernel_rfl
def opnOf {H:Type}:DataW H→Opn
  | .agg [.lit (.int _ a),.lit (.int _ b),.lit (.int _ c),.lit (.string p),.lit (.string t),.lit (.string d)]=>⟨a,b,c,p,t,d⟩
  | _=>⟨0,0,0,[],[],[]⟩
theorem cells_six {w:World} {base:Nat} {a:Addr} {c0 c1 c2 c3 c4 c5:Value} (h:w.cells? base a 6=some [c0,c1,c2,c3,c4,c5]):
    w.cell? (a.add 0)=some c0∧w.cell? (a.add 1)=some c1∧w.cell? (a.add 2)=some c2∧w.cell? (a.add 3)=some c3∧w.cell? (a.add 4)=some c4∧w.cell? (a.add 5)=some c5:=by
  unfold World.cells? at h
  split at h
  · have hr:List.range 6=[0,1,2,3,4,5]:=rfl
    rw [hr] at h
    simp only [List.mapM_cons,List.mapM_nil,Option.bind_eq_bind,Option.bind_eq_some_iff,Option.pure_def,Option.some.injEq,List.cons.injEq] at h
    obtain ⟨x0,h0,r0,⟨x1,h1,r1,⟨x2,h2,r2,⟨x3,h3,r3,⟨x4,h4,r4,⟨x5,h5,r5,e5,e4⟩,e3⟩,e2⟩,e1⟩,e0⟩,e⟩:=h
    subst e5 e4 e3 e2 e1 e0
    simp only [List.cons.injEq,and_true] at e
    obtain ⟨rfl,rfl,rfl,rfl,rfl,rfl⟩:=e
    exact ⟨h0,h1,h2,h3,h4,h5⟩
  · simp at h
theorem op_data {H:Type} {enc:TypeId×Value→H} {w:World} {base:Nat} {spare:Nat→Bool} {held:Bool} {n:Nat} {cs:List Value} {y:DataW H×List MemPlace}
    (h:DataW.trod enc Tryz.prog w base spare held n 35 cs=some y):
    ∃(a b c:Int) (s t d:ByteArray),cs=[.int .i64 a,.int .i64 b,.int .i64 c,.string s,.string t,.string d]∧(-9223372036854775808≤b∧b<9223372036854775808)∧
      y.1= .agg [.lit (.int .i64 a),.lit (.int .i64 b),.lit (.int .i64 c),.lit (.string s.data.toList),.lit (.string t.data.toList),.lit (.string d.data.toList)]:=by
  obtain ⟨xs,m,_,rfl,hl,hlen,hf⟩:=DataW.trod_struct Tryz.underlying35 h
  rw [cells_op] at hl
  match cs,hl,xs,hlen with
  | [c0,c1,c2,c3,c4,c5],_,[y0,y1,y2,y3,y4,y5],_=>
    have f0:DataW.trod enc Tryz.prog w base spare held m 3 [c0]=some y0:=by
      have:=hf 0 _ rfl
      simp [cells_3] at this
      exact this
    have f1:DataW.trod enc Tryz.prog w base spare held m 3 [c1]=some y1:=by
      have:=hf 1 _ rfl
      simp [cells_3] at this
      exact this
    have f2:DataW.trod enc Tryz.prog w base spare held m 3 [c2]=some y2:=by
      have:=hf 2 _ rfl
      simp [cells_3] at this
      exact this
    have f3:DataW.trod enc Tryz.prog w base spare held m 9 [c3]=some y3:=by
      have:=hf 3 _ rfl
      simp [cells9] at this
      exact this
    have f4:DataW.trod enc Tryz.prog w base spare held m 9 [c4]=some y4:=by
      have:=hf 4 _ rfl
      simp [cells9] at this
      exact this
    have f5:DataW.trod enc Tryz.prog w base spare held m 9 [c5]=some y5:=by
      have:=hf 5 _ rfl
      simp [cells9] at this
      exact this
    obtain ⟨a,e0,z0,_⟩:=DataW.trod_int Tryz.underlying3 f0
    obtain ⟨b,e1,z1,w1⟩:=DataW.trod_int Tryz.underlying3 f1
    obtain ⟨c,e2,z2,_⟩:=DataW.trod_int Tryz.underlying3 f2
    obtain ⟨s,e3,z3,_⟩:=DataW.trod_string Tryz.underlying9 f3
    obtain ⟨t,e4,z4,_⟩:=DataW.trod_string Tryz.underlying9 f4
    obtain ⟨d,e5,z5,_⟩:=DataW.trod_string Tryz.underlying9 f5
    simp only [List.cons.injEq,and_true] at e0 e1 e2 e3 e4 e5
    subst e0 e1 e2 e3 e4 e5 z0 z1 z2 z3 z4 z5
    have hb: -9223372036854775808≤b∧b<9223372036854775808:=by
      simp only [Lit.wf,Bool.and_eq_true,decide_eq_true_eq] at w1
      have h1:IntKind.i64.min= -9223372036854775808:=by decide
      have h2:IntKind.i64.max=9223372036854775807:=by decide
      omega
    exact ⟨a,b,c,s,t,d,rfl,hb,rfl⟩
theorem bulk_mem {H:Type} {d:DataW H} {l:List (DataW H)} (h:d∈l):Rows.uptoBulk d≤Rows.uptoBulkAll l:=by
  induction l with
  | nil=>cases h
  | cons x r ih=>
    simp only [Rows.uptoBulkAll]
    cases List.mem_cons.1 h with
    | inl e=>subst e; omega
    | inr e=>have:=ih e; omega
theorem ops_arg {H:Type} {enc:TypeId×Value→H} {W:World} {base:Nat} {v:Value} {d:DataW H} {ps:List MemPlace} (hval:Value.okWide Tryz.prog W .any base 24 v) (h:DataW.Trod enc Tryz.prog W 0 (fun _=>true) true 24 v d ps):
    ∃(av:AV),VRel [] av v∧(Rows.uptoBulk d<1000000000→∃l:List Opn,OpsS W av l∧l.length≤Rows.uptoBulk d):=by
  obtain ⟨a0,len,cap,rfl⟩:=okWide_slice Tryz.underlying24 hval
  obtain ⟨fuel,hf⟩:=h
  rcases DataW.trod_slice Tryz.underlying24 hf with ⟨hcs,hx⟩ | ⟨a,len',cap',elems,rest,n,_,hcs,hx,hb,hl,hm,hlen,hel,hsp,hns⟩
  · simp [Value.cells] at hcs
    obtain ⟨rfl,rfl,rfl⟩:=hcs
    exact ⟨.sl none 0 0 none,by simp [VRel],fun _=>⟨[],⟨none,0,rfl,fun i s hs=>by simp at hs⟩,by simp⟩⟩
  · simp [Value.cells] at hcs
    obtain ⟨rfl,rfl,rfl⟩:=hcs
    simp only [Prod.mk.injEq] at hx
    obtain ⟨rfl,_⟩:=hx
    have hsp':a.spot=none:=by
      simp only [Value.okWide,Tryz.underlying24,Cell.okWide,Cell.ok,World.has] at hval
      exact hval.2.2.2.1
    obtain ⟨b,o,sp⟩:=a
    simp only at hsp'
    subst hsp'
    have each:∀(i:Nat) y,elems[i]? =some y→∃(a b' c:Int) (s t d:ByteArray),(W.cell? ⟨b,o + i * 6 + 0,none⟩=some (.int .i64 a)∧W.cell? ⟨b,o + i * 6 + 1,none⟩=some (.int .i64 b')∧W.cell? ⟨b,o + i * 6 + 2,none⟩=some (.int .i64 c)∧W.cell? ⟨b,o + i * 6 + 3,none⟩=some (.string s)∧W.cell? ⟨b,o + i * 6 + 4,none⟩=some (.string t)∧W.cell? ⟨b,o + i * 6 + 5,none⟩=some (.string d))∧
        (-9223372036854775808≤b'∧b'<9223372036854775808)∧y.1= .agg [.lit (.int .i64 a),.lit (.int .i64 b'),.lit (.int .i64 c),.lit (.string s.data.toList),.lit (.string t.data.toList),.lit (.string d.data.toList)]:=by
      intro i y hy
      have hi:i<len:=by rw [←hlen]; exact (List.getElem?_eq_some_iff.1 hy).1
      have hbd:=hel i hi
      rw [hy,Option.bind_eq_some_iff,cells_op] at hbd
      obtain ⟨cs,hc,ht⟩:=hbd
      obtain ⟨p,q,r,s,t,d,rfl,hr,he⟩:=op_data ht
      have:=cells_six hc
      simp only [add_addr] at this
      exact ⟨p,q,r,s,t,d,this,hr,he⟩
    refine ⟨.sl (some (.base b o)) len cap none,by simp [VRel],fun hbig=>⟨elems.map fun y=>opnOf y.1,⟨some (.base b o),cap,by simp [hlen],fun i s hs=> ?_⟩,?_⟩⟩
    · rw [List.getElem?_map,Option.map_eq_some_iff] at hs
      obtain ⟨y,hy,rfl⟩:=hs
      obtain ⟨p,q,r,t,u,d,hcell,hrange,he⟩:=each i y hy
      have hi:i<(elems.map fun y=>opnOf y.1).length:=by simpa using (List.getElem?_eq_some_iff.1 hy).1
      have hst:opnOf y.1=⟨p,q,r,t.data.toList,u.data.toList,d.data.toList⟩:=by rw [he]; rfl
      have hbk:=bulk_mem (List.mem_map_of_mem (f:=(·.1)) (List.mem_of_getElem? hy))
      refine ⟨?_,.base b (o + i * 6),?_,fun h=> ?_⟩
      · rw [hst]
        rw [he] at hbk
        simp only [Rows.uptoBulk,Rows.uptoBulkAll] at hbk hbig
        exact ⟨by show t.data.toList.length<_; omega,by show u.data.toList.length<_; omega,hrange.2,hrange.1⟩
      · simp only [aIndexAddr,kind24,size35]
        rw [if_pos (by omega)]
        simp [AA.add]
      · have hw0:(CC W).W0=W:=_root_.id rfl
        have hr:List.range 6=[0,1,2,3,4,5]:=rfl
        rw [hst]
        obtain ⟨h0,h1,h2,h3,h4,h5⟩:=hcell
        simp only [aLoad,ty35,T35,AKind.isOther,AKind.isAgg,aCells,hr,List.mapM_cons,List.mapM_nil,AA.add,aCell,hw0,h0,h1,h2,h3,h4,h5,Opn.cells]
        rfl
    · have:=bulk_length (elems.map (·.1))
      simp only [Rows.uptoBulk,List.length_map] at this ⊢
      omega
end Go.Proofs.YtbofhlifobjolaaGreatDoor.Ax
end
section
set_option linter.unusedVariables false
set_option linter.unusedSimpArgs false
namespace Go.Proofs.YtbofhlifobjolaaGreatDoor.Ax
open Go.ChangeShapes Go.WideShapes Go.ChangeAt Go.RowKit
set_option maxRecDepth 100000
theorem cells_shape:Tryz.prog.cellsOf 23=3:=by kernel_rfl
theorem shape_arg {H:Type} {enc:TypeId×Value→H} {W:World} {base:Nat} {v:Value} {d:DataW H} {ps:List MemPlace} (hval:Value.okWide Tryz.prog W .any base 23 v) (h:DataW.Trod enc Tryz.prog W 0 (fun _=>true) true 23 v d ps):
    ∃av:AV,VRel [] av v∧∃a b c:Int,av= .agg [.int .i64 a,.int .i64 b,.int .i64 c]:=by
  obtain ⟨cs,rfl,z⟩:=okWide_struct Tryz.underlying23 hval
  obtain ⟨fuel,hf⟩:=h
  obtain ⟨xs,m,_,_,hl,hlen,hf⟩:=DataW.trod_struct Tryz.underlying23 hf
  rw [cells_shape] at hl
  simp only [Value.cells] at hl hf
  have hcs:∃l,cs.toList=l:=⟨_,rfl⟩
  obtain ⟨l,hcs⟩:=hcs
  rw [hcs] at hl hf
  match l,hl,xs,hlen with
  | [c0,c1,c2],_,[y0,y1,y2],_=>
    have f0:DataW.trod enc Tryz.prog W 0 (fun _=>true) true m 3 [c0]=some y0:=by
      have:=hf 0 _ rfl
      simp [cells_3] at this
      exact this
    have f1:DataW.trod enc Tryz.prog W 0 (fun _=>true) true m 3 [c1]=some y1:=by
      have:=hf 1 _ rfl
      simp [cells_3] at this
      exact this
    have f2:DataW.trod enc Tryz.prog W 0 (fun _=>true) true m 3 [c2]=some y2:=by
      have:=hf 2 _ rfl
      simp [cells_3] at this
      exact this
    obtain ⟨a,e0,_,_⟩:=DataW.trod_int Tryz.underlying3 f0
    obtain ⟨b,e1,_,_⟩:=DataW.trod_int Tryz.underlying3 f1
    obtain ⟨c,e2,_,_⟩:=DataW.trod_int Tryz.underlying3 f2
    simp only [List.cons.injEq,and_true] at e0 e1 e2
    subst e0 e1 e2
    refine ⟨_,?_,a,b,c,rfl⟩
    simp only [VRel]
    exact ⟨cs,rfl,by rw [hcs]; simp [VsRel,VRel]⟩
end Go.Proofs.YtbofhlifobjolaaGreatDoor.Ax
end
section
set_option linter.unusedVariables false
set_option linter.unusedSimpArgs false
namespace Go.Proofs.YtbofhlifobjolaaGreatDoor.Ax
open Go.RowKit
set_option maxHeartbeats 4000000 in
set_option maxRecDepth 20000 in
theorem texts_ret (W:World) (h:AH) (va vb:AV) (a b:List (List UInt8)) (ha:StrS W h va a) (hb:StrS W h vb b) (hla:a.length<9223372036854775808):
    RetH (CC W) 47 [va,vb] h (.bool (decide (a=b))):=by
  refine jj9 (cc_ok W) (fn47 W) (by simp only [Tryz.f47]; rfl) rfl rfl ?_
  obtain ⟨pa,ca,ga,rfl⟩:=ha.len
  obtain ⟨pb,cb,gb,rfl⟩:=hb.len
  by_cases hlen:a.length=b.length
  · have hlen':((a.length:Int) !=(b.length:Int))=false:=by simp [hlen]
    simp [push_cast,aLen,kind37,hlen']
    refine loopN (cc_ok W) (EqI (.sl pa a.length ca ga) (.sl pb b.length cb gb) a b h) a.length ⟨rfl,by simp,0,by simp,by simp,by simp⟩ ?_
    rintro m e' h' ⟨rfl,hl,k,hkm,htk,hh⟩
    match e',hl with
    | a0::a1::a2::a3::a4::a5::a6::a7::a8::a9::a10::a11::a12::a13::a14::a15::a16::a17::a18::a19::a20::a21::a22::a23::a24::a25::[],_=>
      simp at hh
      obtain ⟨rfl,rfl,rfl,rfl,rfl⟩:=hh
      by_cases hlt:k<a.length
      · have hlt':(k:Int)<(a.length:Int):=by omega
        have hx:a[k]? =some a[k]:=by simp [hlt]
        obtain ⟨a',hix,hld⟩:=ha.at hx
        have hy:b[k]? =some (b[k]'(by omega)):=by simp [show k<b.length by omega]
        obtain ⟨b',hiy,hldy⟩:=hb.at hy
        have wk:IntKind.i64.wrap ((k:Int) + 1)=(k:Int) + 1:=wrap64 (by omega) (by omega)
        generalize a[k]=x at hx hld
        generalize b[k]'(by omega)=y at hy hldy
        by_cases hxy:x=y
        · subst hxy
          have hb1:(x==x)=true:=by simp
          simp [push_cast,hlt,hlt']
          refine draw1 (cc_ok W) [0,1,2,3,4,5,6,7,8] (by kernel_rfl) (by kernel_rfl) (by kernel_rfl) rfl ?_
          simp [push_cast,hix,hld,hiy,hldy,aStr,hb1,wk]
          exact ⟨m - 1,by omega,rfl,by simp,k + 1,by omega,take_next htk hx hy,by simp⟩
        · have hb1:(x==y)=false:=by rw [beq_eq_false_iff_ne]; exact hxy
          have hne:a≠b:=by intro e; subst e; rw [hx] at hy; exact hxy (Option.some.inj hy)
          simp [push_cast,hlt,hlt']
          refine draw1 (cc_ok W) [0,1,2,3,4,5,6,7,8] (by kernel_rfl) (by kernel_rfl) (by kernel_rfl) rfl ?_
          simp [push_cast,hix,hld,hiy,hldy,aStr,hb1,hne]
      · have hlt':¬(k:Int)<(a.length:Int):=by omega
        have he:a=b:=by
          have h1:a.take k=a:=List.take_of_length_le (by omega)
          have h2:b.take k=b:=List.take_of_length_le (by omega)
          rw [←h1,htk,h2]
        rw [decide_eq_true he]
        simp [push_cast,hlt,hlt']
  · have hlen':((a.length:Int) !=(b.length:Int))=true:=by rw [bne_iff_ne]; omega
    have hne:a≠b:=by intro e; exact hlen (by rw [e])
    simp [push_cast,aLen,kind37,hlen',hne]
set_option maxRecDepth 100000 in
set_option maxHeartbeats 8000000 in
theorem result_ret (W:World) (h:AH) (r:Res) (va vb:AV) (ha:StrS W h va r.names) (hb:StrS W h vb r.names) (hl:r.names.length<9223372036854775808):
    RetK (CC W) 16 [.agg (res6 r.e r.data r.kind r.links r.size va),.agg (res6 r.e r.data r.kind r.links r.size vb)] h (.bool true):=by
  refine jj9 (cc_ok W) (fn16 W) (by simp only [Tryz.f16]; rfl) rfl rfl ?_
  have bx1:aBox h 39 (.agg (res6 r.e r.data r.kind r.links r.size va))=some (.ptr (some (.new h.next 0)),h.push (.cells (res6 r.e r.data r.kind r.links r.size va) 39)):=rfl
  have hk1:=Keeps.push h (.cells (res6 r.e r.data r.kind r.links r.size va) 39)
  have g1:(h.push (.cells (res6 r.e r.data r.kind r.links r.size va) 39)).get h.next=some (bxC r va):=by simp [bxC,res6]
  have n1:h.next<(h.push (.cells (res6 r.e r.data r.kind r.links r.size va) 39)).next:=by simp
  generalize h.push (.cells (res6 r.e r.data r.kind r.links r.size va) 39)=h1 at bx1 hk1 g1 n1
  generalize h.next=k1 at bx1 g1 n1
  have bx2:aBox h1 39 (.agg (res6 r.e r.data r.kind r.links r.size vb))=some (.ptr (some (.new h1.next 0)),h1.push (.cells (res6 r.e r.data r.kind r.links r.size vb) 39)):=rfl
  have hk2:=Keeps.push h1 (.cells (res6 r.e r.data r.kind r.links r.size vb) 39)
  have g2:(h1.push (.cells (res6 r.e r.data r.kind r.links r.size vb) 39)).get h1.next=some (bxC r vb):=by simp [bxC,res6]
  have g1':=(hk2.2 k1 n1).trans g1
  generalize h1.push (.cells (res6 r.e r.data r.kind r.links r.size vb) 39)=h2 at bx2 hk2 g2 g1'
  generalize h1.next=k2 at bx2 g2
  have ha2:=ha.keeps (hk1.trans hk2)
  have hb2:=hb.keeps (hk1.trans hk2)
  have hs:(r.data==r.data)=true:=by simp
  simp [push_cast,bx1,bx2,fa39_0,fa39_1,fa39_2,fa39_3,fa39_4,fa39_5,ld26,ld9,ld3,ld37,cell_bx g1',cell_bx g2,aStr,hs]
  refine jh9 (by simp [fn47]) (texts_ret W h2 va vb _ _ ha2 hb2 hl) ?_
  simp [push_cast]
  exact hk1.trans hk2
abbrev Names:=List (List UInt8)
def Path (M:MS):Names→Nat→Nat→Prop
  | [],q,r=>q=r
  | s::l,q,r=>∃nd x,M.nodes[q]? =some nd∧nd.kind=2∧x∈nd.slots∧x.nm=s∧Path M l x.ino.toNat r
def Good (l:Names):Prop:=∀x∈l,x≠[]
theorem Good.tail {s:List UInt8} {l:Names} (h:Good (s::l)):Good l:=fun x hx=>h x (by simp [hx])
theorem Good.take {l:Names} (h:Good l) (k:Nat):Good (l.take k):=fun x hx=>h x (List.mem_of_mem_take hx)
theorem Good.drop {l:Names} (h:Good l):Good l.dropLast:=fun x hx=>h x (List.dropLast_subset l hx)
theorem Inv.uniq {M:MS} {t:Nat} {w:Nat→Int} (h:Inv M t w) {q:Nat} {nd:Nd} (hn:M.nodes[q]? =some nd) (hk:nd.kind=2) {x y:Slt} (hx:x∈nd.slots) (hy:y∈nd.slots) (he:x.nm=y.nm) (hne:x.nm≠[]):x=y:=by
  obtain ⟨i,hi⟩:=List.getElem?_of_mem hx
  obtain ⟨j,hj⟩:=List.getElem?_of_mem hy
  have:=((h.at hn).dir hk).2.2.2.2.2 i j x y hi hj he hne
  subst this
  rw [hi] at hj; exact Option.some.inj hj
theorem find_of_path {M:MS} {t:Nat} {w:Nat→Int} (h:Inv M t w) (ht:t<1000000):∀{l:Names} {q r:Nat},Good l→Path M l q r→findR M l q=((r:Int),0)
  | [],q,r,_,hp=>by have:q=r:=hp; subst this; rfl
  | s::l,q,r,hg,hp=>by
    obtain ⟨nd,x,hnd,hk,hx,hn,hp⟩:=hp
    have hs:s≠[]:=hg s (by simp)
    have hpl:¬placeR nd.slots s<0:=fun hc=>placeR_neg.1 hc x hx hn
    obtain ⟨i,y,e,hy,hyn⟩:=placeR_lt hpl
    have hxy:=h.uniq hnd hk hx (List.mem_of_getElem? hy) (hn.trans hyn.symm) (by rw [hn]; exact hs)
    subst hxy
    have hi:=(h.ok ht).inos nd (List.mem_of_getElem? hnd) x hx
    rw [findR_cons,Int.toNat_natCast,hnd]
    simp only [if_pos hk,if_neg hpl,e,Int.toNat_natCast,hy]
    rw [show x.ino=((x.ino.toNat:Nat):Int) by omega]
    exact find_of_path h ht hg.tail hp
theorem path_append {M:MS}:∀{a b:Names} {q r:Nat},Path M (a ++ b) q r↔∃m,Path M a q m∧Path M b m r
  | [],b,q,r=>by simp [Path]
  | s::a,b,q,r=>by
    simp only [List.cons_append,Path]
    constructor
    · rintro ⟨nd,x,h1,h2,h3,h4,h5⟩
      obtain ⟨m,h6,h7⟩:=path_append.1 h5
      exact ⟨m,⟨nd,x,h1,h2,h3,h4,h6⟩,h7⟩
    · rintro ⟨m,⟨nd,x,h1,h2,h3,h4,h6⟩,h7⟩
      exact ⟨nd,x,h1,h2,h3,h4,path_append.2 ⟨m,h6,h7⟩⟩
theorem path_take {M:MS} {l:Names} {q r:Nat} (k:Nat) (h:Path M l q r):∃m,Path M (l.take k) q m∧Path M (l.drop k) m r:=by
  rw [←List.take_append_drop k l] at h
  exact path_append.1 h
theorem path_last {M:MS} {l:Names} {q r:Nat} (hl:l≠[]) (h:Path M l q r):∃d nd x,Path M l.dropLast q d∧M.nodes[d]? =some nd∧nd.kind=2∧x∈nd.slots∧x.nm=l.getLast?.getD []∧x.ino.toNat=r:=by
  have hl2:l=l.dropLast ++ [l.getLast?.getD []]:=by
    rw [List.getLast?_eq_some_getLast hl]; exact (List.dropLast_concat_getLast hl).symm
  rw [hl2] at h
  obtain ⟨d,h1,nd,x,h2,h3,h4,h5,h6⟩:=path_append.1 h
  exact ⟨d,nd,x,h1,h2,h3,h4,h5,h6⟩
theorem refs_one:∀{l:List Nd} {i d d' j j':Nat} {nd nd':Nd} {x x':Slt},refsL l i≤1→l[d]? =some nd→l[d']? =some nd'→nd.slots[j]? =some x→nd'.slots[j']? =some x'→live i x=true→live i x'=true→d=d'∧j=j'
  | [],i,d,d',j,j',nd,nd',x,x',_,h1,_,_,_,_,_=>by simp at h1
  | n::l,i,d,d',j,j',nd,nd',x,x',hr,h1,h2,h3,h4,h5,h6=>by
    simp only [refsL] at hr
    have p1:=cnt_pos h3 h5
    have p2:=cnt_pos h4 h6
    cases d with
    | zero=>
      simp at h1; subst h1
      cases d' with
      | zero=>
        simp at h2; subst h2
        refine ⟨rfl,?_⟩
        by_cases e:j=j'
        · exact e
        · exfalso
          have c1:=cnt_set (y:=⟨[],0⟩) i h3
          have h4':(n.slots.set j ⟨[],0⟩)[j']? =some x':=by rw [List.getElem?_set_ne e]; exact h4
          have c2:=cnt_pos h4' h6
          rw [ind_none (i:=i) (s:=⟨[],0⟩) rfl] at c1
          simp only [ind,h5,if_true] at c1
          omega
      | succ d'=>
        have:=refsL_ge i (show l[d']? =some nd' by simpa using h2)
        omega
    | succ d=>
      cases d' with
      | zero=>
        simp at h2; subst h2
        have:=refsL_ge i (show l[d]? =some nd by simpa using h1)
        omega
      | succ d'=>
        obtain ⟨a,b⟩:=refs_one (show refsL l i≤1 by omega) (show l[d]? =some nd by simpa using h1) (show l[d']? =some nd' by simpa using h2) h3 h4 h5 h6
        exact ⟨by omega,b⟩
theorem path_dir {M:MS} {t:Nat} (h:Fine M t) (ht:t<1000000):∀(n:Nat) {a b:Names} {i:Nat} {nd:Nd},a.length≤n→Good a→Good b→Path M a 0 i→Path M b 0 i→M.nodes[i]? =some nd→nd.kind=2→a=b:=by
  have ok:=h.ok ht
  have root:∀{b:Names},Good b→Path M b 0 0→b=[]:=by
    intro b hb hp
    by_cases e:b=[]
    · exact e
    · exfalso
      obtain ⟨d,nd,x,_,h2,h3,h4,h5,h6⟩:=path_last e hp
      obtain ⟨r,hr,hrk⟩:=h.root
      have hi:=ok.inos nd (List.mem_of_getElem? h2) x h4
      obtain ⟨j,hj⟩:=List.getElem?_of_mem h4
      have hne:x.nm≠[]:=by rw [h5]; exact last_ne e hb
      have c:=cnt_pos (i:=0) hj (by simp [live,hne]; omega)
      have g:=refsL_ge 0 h2
      have w:=h.ref 0 h.pos
      simp only [wantM,hr,want,hrk] at w
      simp at w
      omega
  intro n
  induction n with
  | zero=>
    intro a b i nd hl ha hb p1 p2 hn hk
    have:a=[]:=List.length_eq_zero_iff.1 (by omega)
    subst this
    have e:(0:Nat)=i:=p1
    subst e
    exact (root hb p2).symm
  | succ n ih=>
    intro a b i nd hl ha hb p1 p2 hn hk
    by_cases ea:a=[]
    · subst ea
      have e:(0:Nat)=i:=p1
      subst e
      exact (root hb p2).symm
    · by_cases eb:b=[]
      · subst eb
        have e:(0:Nat)=i:=p2
        subst e
        exact absurd (root ha p1) ea
      · obtain ⟨d,nda,x,q1,q2,q3,q4,q5,q6⟩:=path_last ea p1
        obtain ⟨d',ndb,y,r1,r2,r3,r4,r5,r6⟩:=path_last eb p2
        obtain ⟨j,hj⟩:=List.getElem?_of_mem q4
        obtain ⟨j',hj'⟩:=List.getElem?_of_mem r4
        have hx:=ok.inos nda (List.mem_of_getElem? q2) x q4
        have hy:=ok.inos ndb (List.mem_of_getElem? r2) y r4
        have hxn:x.nm≠[]:=by rw [q5]; exact last_ne ea ha
        have hyn:y.nm≠[]:=by rw [r5]; exact last_ne eb hb
        have hil:=(List.getElem?_eq_some_iff.1 hn).1
        have w:=h.ref i hil
        simp only [wantM,hn,want,hk] at w
        have hle:refsL M.nodes i≤1:=by
          by_cases e:i=0
          · simp [e] at w; rw [e]; omega
          · simp [e] at w; omega
        obtain ⟨e1,e2⟩:=refs_one hle q2 r2 hj hj' (by simp [live,hxn]; omega) (by simp [live,hyn]; omega)
        subst e1; subst e2
        rw [q2] at r2; cases r2
        rw [hj] at hj'; cases hj'
        have hd:=ih (by simp; omega) ha.drop hb.drop q1 r1 q2 q3
        have hla:a=a.dropLast ++ [a.getLast?.getD []]:=by
          rw [List.getLast?_eq_some_getLast ea]; exact (List.dropLast_concat_getLast ea).symm
        have hlb:b=b.dropLast ++ [b.getLast?.getD []]:=by
          rw [List.getLast?_eq_some_getLast eb]; exact (List.dropLast_concat_getLast eb).symm
        rw [hla,hlb,hd, ←q5, ←r5]
theorem ARel.form {ρ:Rho} {a:AA} {A:Addr} (h:ARel ρ a A):∃b o,A=⟨b,o,none⟩:=by
  cases a with
  | base b o=>exact ⟨b,o,h⟩
  | new k o=>obtain ⟨r,_,hA⟩:=h; exact ⟨_,_,hA⟩
theorem cap_of {ρ:Rho} {a:AA} {len cap:Nat} {gr:Option Nat} {X:Value} (hx:VRel ρ (.sl (some a) len cap gr) X) (hl:0<len) (hc:len≤cap):∃A cap',X= .slice (some A) len cap'∧ARel ρ a A∧len≤cap':=by
  cases a with
  | base b o=>
    simp only [VRel] at hx
    obtain ⟨_,A,h1,h2⟩:=hx
    refine ⟨A,_,h1,?_,hc⟩
    rcases h2 with rfl | h2
    · rfl
    · omega
  | new k o=>
    simp only [VRel] at hx
    obtain ⟨r,A,cap',hr,hX,h1,h2,h3,h4⟩:=hx
    rcases h4 with ⟨hA,_⟩ | h0
    · exact ⟨A,cap',hX,⟨r,hr,hA⟩,h1⟩
    · omega
theorem sl_zero {ρ:Rho} {a:Option AA} {cap:Nat} {gr:Option Nat} {X:Value} (hx:VRel ρ (.sl a 0 cap gr) X):∃A cap',X= .slice A 0 cap':=by
  cases a with
  | none=>simp only [VRel] at hx; exact ⟨_,_,hx.2.2.2⟩
  | some a=>cases a with
    | base b o=>simp only [VRel] at hx; obtain ⟨_,A,h1,_⟩:=hx; exact ⟨_,_,h1⟩
    | new k o=>simp only [VRel] at hx; obtain ⟨r,A,cap',hr,hX,_⟩:=hx; exact ⟨_,_,hX⟩
theorem gojoin_ret (W:World) (h:AH) (v:AV) (l:List (List UInt8)) (hs:StrS W h v l) (hl:(Lib.join l [47]).length<8796093022207) (hn:l.length<8796093022207):
    RetH (CC W) 97 [v,.str [47]] h (.str (Lib.join l [47])):=by
  refine ret_of_calls fun ρ W1 vs R hv=> ?_
  obtain ⟨a,c,gr,rfl,⟨hcl,_⟩,hc⟩:=hs
  simp only [VsRel] at hv
  obtain ⟨X,r1,e1,hX,Y,r2,e2,hY,e3⟩:=hv
  subst e3
  have eY:=str_rel hY
  rw [e2] at e1
  by_cases h0:l=[]
  · subst h0
    obtain ⟨A,cap',rfl⟩:=sl_zero hX
    have ev:vs= #[.slice A 0 cap',.string ⟨#[47]⟩]:=Array.toList_inj.1 (by rw [e1,eY])
    rw [ev]
    refine (Sh.strings_Join_none A cap' ⟨#[47]⟩ W1).mono fun e W' ⟨he,hw⟩=>⟨⟨_,he,by simp [VRel,Lib.join_nil]⟩,hw ▸ Below.refl _ _⟩
  · have hpos:0<l.length:=List.length_pos_iff.2 h0
    obtain ⟨a',ha,_,hc0,_⟩:=hc 0 l[0] (by simp [hpos])
    subst ha
    obtain ⟨A,cap',rfl,hA,hcap⟩:=cap_of hX hpos hcl
    obtain ⟨b,o,rfl⟩:=hA.form
    have hcells:∀(j:Nat) x,l[j]? =some x→W1.cell? ⟨b,o + j,none⟩=some (.string ⟨x.toArray⟩):=by
      intro j x hx
      obtain ⟨a2,h2,_,hcell,_⟩:=hc j x hx
      cases h2
      obtain ⟨V,hV,hr⟩:=cell_rel R (hA.add j) hcell
      rw [add_addr] at hV
      rw [hV,str_rel hr]
    have ev:vs= #[.slice (some ⟨b,o,none⟩) l.length cap',.string ⟨#[47]⟩]:=Array.toList_inj.1 (by rw [e1,eY])
    have hm:(l.map fun x=>(⟨x.toArray⟩:ByteArray)).map (·.data.toList)=l:=by
      rw [List.map_map]; simp [Function.comp_def]
    have:=Sh.strings_Join b o cap' (l.map fun x=>(⟨x.toArray⟩:ByteArray)) ⟨#[47]⟩ W1 (fun j x hx=>by
        rw [List.getElem?_map,Option.map_eq_some_iff] at hx
        obtain ⟨y,hy,rfl⟩:=hx
        exact hcells j y hy)
      (World.block_lt_of_cell? _ _ (hcells 0 l[0] (by simp [hpos]))) (by simp; omega) (by simpa using hcap) (by rw [hm]; show (Lib.join l [47]).length≤_; omega)
    rw [hm,List.length_map] at this
    rw [ev]
    exact this.mono fun e W' ⟨he,hw⟩=>⟨⟨_,he,by simp [VRel]⟩,hw⟩
def catR (l:List (List UInt8)):List UInt8:=(l.map fun x=>47::x).flatten
theorem join_cat (l:List (List UInt8)) (h:l≠[]):47::Lib.join l [47]=catR l:=by
  cases l with
  | nil=>exact absurd rfl h
  | cons x r=>rw [Lib.join_cons]; simp [catR,Lib.joinTail]
theorem build_none {W:World} {h:AH}:aBuildSlice (CC W) h 37 0 []=some (.sl (some (.new h.next 0)) 0 0 none,h.push (.cells [] 9)):=by
  simp only [aBuildSlice,kind37,size9,zero9]
  rfl
theorem append_all {W:World} {h:AH} {k:Nat} {l:List (List UInt8)} (hk:k<h.next) (hg:h.get k=some (.cells (l.map .str) 9)) (hl:l.length<8796093022207) (hpos:l≠[]):
    aAppend (CC W) (h.push (.cells [] 9)) #[37,37] (.sl (some (.new h.next 0)) 0 0 none) (.sl (some (.new k 0)) l.length l.length (some 1))=
      some (.sl (some (.new (h.next + 1) 0)) l.length l.length (some 1),(h.push (.cells [] 9)).push (.cells (l.map .str) 9)):=by
  have hb:(CC W).bytes 9=16:=_root_.id rfl
  have hni:niOK (CC W) #[37,37]=true:=_root_.id rfl
  have hne:k≠h.next:=by omega
  have h0:l.length≠0:=fun e=>hpos (List.length_eq_zero_iff.1 e)
  have hnews:aNews (CC W) (h.push (.cells [] 9)) 1 (.sl (some (.new k 0)) l.length l.length (some 1))=some (l.length,l.map .str):=by
    simp [aNews,aCells,hne,hg,hpos,List.take_of_length_le]
  simp [aAppend,kind37,size9,zero9,hb,hni,hnews,hpos]
  first | omega | exact ⟨by omega,List.take_of_length_le (by simp)⟩ | exact List.take_of_length_le (by simp)
set_option maxHeartbeats 4000000 in
theorem cloneS_ret (W:World) (h0 h:AH) (v:AV) (l:List (List UInt8)) (ho:OwnS h0 h v l) (hv:l=[]→v= .sl none 0 0 none) (hl:l.length<8796093022207):
    RetQ (CC W) 98 [v] h (fun w h'=>OwnS h h' w l):=by
  refine jj9 (cc_ok W) (fn98 W) (by simp only [Tryz.f98]; rfl) rfl rfl ?_
  obtain ⟨_,⟨rfl,rfl⟩ | ⟨k,h1,h2,h3,rfl⟩⟩:=ho
  · simp [push_cast,aEq,aEqIn,kind37]
    exact ⟨Keeps.refl _,OwnS.start h⟩
  · by_cases hp:l=[]
    · exact absurd (hv hp) (by simp)
    · have hap:=append_all (W:=W) h2 h3 hl hp
      simp [push_cast,aEq,aEqIn,kind37,build_none,hap]
      exact ⟨(Keeps.push _ _).trans (Keeps.push _ _),(Keeps.push _ _).trans (Keeps.push _ _),.inr ⟨h.next + 1,by omega,by simp,by simp,rfl⟩⟩
structure Fl where
  path:List UInt8
  ino:Int
  kind:Int
  links:Int
  size:Int
  blocks:List Int
  data:List UInt8
def flC (p:Fl×AV):List AV:=[.str p.1.path,.int .i64 p.1.ino,.int .i64 p.1.kind,.int .i64 p.1.links,.int .i64 p.1.size,p.2,.str p.1.data]
def flCs (ps:List (Fl×AV)):List AV:=ps.flatMap flC
theorem flCs_len:∀(ps:List (Fl×AV)),(flCs ps).length=ps.length * 7
  | []=>rfl
  | p::ps=>by
    show (flC p ++ flCs ps).length=_
    rw [List.length_append,flCs_len ps]; simp [flC]; omega
theorem flCs_append (a b:List (Fl×AV)):flCs (a ++ b)=flCs a ++ flCs b:=by simp [flCs]
theorem IntS.one {h:AH} {v:AV} {l:List Int} (hi:IntS h v l):aOne v=true:=by
  rcases hi with ⟨_,rfl⟩ | ⟨k,cap,gr,_,rfl,_⟩<;>rfl
theorem flCs_one {h:AH}:∀{ps:List (Fl×AV)},(∀p∈ps,IntS h p.2 p.1.blocks)→(flCs ps).all aOne=true
  | [],_=>rfl
  | p::ps,hp=>by
    have h1:=(hp p (by simp)).one
    have h2:=flCs_one (ps:=ps) fun q hq=>hp q (by simp [hq])
    show (flC p ++ flCs ps).all aOne=true
    rw [List.all_append,h2]
    simp [flC,aOne,h1]
    cases hv:p.2<;>simp_all [aOne]
theorem IntS.kill {h:AH} {v:AV} {l:List Int} {k:Nat} {p:Fl×AV} {ps:List (Fl×AV)} {t:TypeId} (hi:IntS h v l) (hg:h.get k=some (.cells (flCs (p::ps)) t)):IntS (h.kill k) v l:=by
  rcases hi with h1 | ⟨j,cap,gr,h1,h2,h3⟩
  · exact .inl h1
  · have hne:j≠k:=by
      rintro rfl
      rw [h3] at hg
      simp only [Option.some.injEq,AObj.cells.injEq] at hg
      cases l<;>simp [ints,flCs,flC] at hg
    exact .inr ⟨j,cap,gr,by rw [AH.next_kill']; exact h1,h2,by rw [AH.get_kill',if_neg hne]; exact h3⟩
def OwnF (h0 h:AH) (v:AV) (l:List Fl):Prop:=
  Keeps h0 h∧∃k gr p ps,(p::ps).map Prod.fst=l∧k<h.next∧h.get k=some (.cells (flCs (p::ps)) 55)∧(∀q∈p::ps,IntS h q.2 q.1.blocks)∧v= .sl (some (.new k 0)) l.length l.length gr∧(gr=none∨gr=some 7∧h0.next≤k)
theorem OwnF.keeps {h0 h h':AH} {v:AV} {l:List Fl} (ho:OwnF h0 h v l) (hk:Keeps h h'):OwnF h0 h' v l:=by
  obtain ⟨a,k,gr,p,ps,b,d,e,f,g⟩:=ho
  exact ⟨a.trans hk,k,gr,p,ps,b,Nat.lt_of_lt_of_le d hk.1,(hk.2 k d).trans e,fun q hq=>(f q hq).keeps hk,g⟩
theorem OwnF.le {h00 h0 h:AH} {v:AV} {l:List Fl} (ho:OwnF h0 h v l) (hk:Keeps h00 h0):OwnF h00 h v l:=by
  obtain ⟨a,k,gr,p,ps,b,d,e,f,g,q⟩:=ho
  refine ⟨hk.trans a,k,gr,p,ps,b,d,e,f,g,?_⟩
  rcases q with q | ⟨q,r⟩
  · exact .inl q
  · exact .inr ⟨q,Nat.le_trans hk.1 r⟩
theorem build_fl {W:World} {h:AH} {f:Fl} {bv:AV} {h2:AH} (hb:IntS h2 bv f.blocks):aBuildSlice (CC W) h 44 1 [(0,.agg (flC (f,bv)))]=some (.sl (some (.new h.next 0)) 1 1 none,h.push (.cells (flC (f,bv)) 55)):=by
  rcases hb with ⟨_,rfl⟩ | ⟨k,cap,gr,_,rfl,_⟩<;>rfl
theorem own_fl {h0 h:AH} {f:Fl} {bv:AV} {k:Nat} (hk:Keeps h0 h) (hg:h.get k=some (.cells (flC (f,bv)) 55)) (hkn:k<h.next) (hb:IntS h bv f.blocks):OwnF h0 h (.sl (some (.new k 0)) 1 1 none) [f]:=
  ⟨hk,k,none,(f,bv),[],rfl,hkn,by rw [hg]; simp [flCs],fun q hq=>by rw [List.mem_singleton] at hq; subst hq; exact hb,rfl,.inl rfl⟩
theorem append_fls {W:World} {h0 h1 h:AH} {v w:AV} {l m:List Fl} (ho:OwnF h0 h1 v l) (hw:OwnF h1 h w m) (hn:l.length + m.length<1000000000000):
    ∃v' h',aAppend (CC W) h #[44,44] v w=some (v',h')∧OwnF h0 h' v' (l ++ m):=by
  have ho2:=ho.keeps hw.1
  obtain ⟨hk0,k,gr,p,ps,e1,h2n,h3,h4,rfl,hgr⟩:=ho2
  obtain ⟨_,k2,gr2,p2,ps2,e2,g2,g3,g4,rfl,_⟩:=hw
  have hb:(CC W).bytes 55=88:=_root_.id rfl
  have hni:niOK (CC W) #[44,44]=true:=_root_.id rfl
  have hl:l.length=ps.length + 1:=by rw [←e1]; simp
  have hm:m.length=ps2.length + 1:=by rw [←e2]; simp
  have hc1:(flCs (p::ps)).length=l.length * 7:=by rw [flCs_len,hl]; rfl
  have hc2:(flCs (p2::ps2)).length=m.length * 7:=by rw [flCs_len,hm]; rfl
  have hone:=flCs_one g4
  have hl0:l.length≠0:=by omega
  have hm0:m.length≠0:=by omega
  have hnews:aNews (CC W) h 7 (.sl (some (.new k2 0)) m.length m.length gr2)=some (m.length,flCs (p2::ps2)):=by
    simp only [aNews,if_neg hm0,aCells,g3]
    rw [Nat.zero_add,hc2]
    simp only [Nat.le_refl,if_true,List.drop_zero, ←hc2,List.take_length,Option.map]
  have e3:(p::(ps ++ p2::ps2)).map Prod.fst=l ++ m:=by rw [←e1, ←e2]; simp
  have e4:flCs (p::(ps ++ p2::ps2))=flCs (p::ps) ++ flCs (p2::ps2):=by rw [←flCs_append]; rfl
  rcases hgr with rfl | ⟨rfl,h1n⟩
  · refine ⟨.sl (some (.new h.next 0)) (l.length + m.length) (l.length + m.length) (some 7),h.push (.cells (flCs (p::ps) ++ flCs (p2::ps2)) 55),?_,hk0.trans (Keeps.push _ _),h.next,some 7,p,ps ++ p2::ps2,e3,by simp,by simp [e4],fun q hq=> ?_,by simp,.inr ⟨rfl,hk0.1⟩⟩
    · have hcs:aCells (CC W) h (.new k 0) (l.length * 7)=some (flCs (p::ps)):=by
        simp only [aCells,h3]
        rw [Nat.zero_add,hc1]
        simp only [Nat.le_refl,if_true,List.drop_zero, ←hc1,List.take_length]
      generalize flCs (p2::ps2)=c2 at hnews hc2
      generalize flCs (p::ps)=c1 at hcs
      simp [aAppend,kind44,size55,zero55,hb,hni,hnews,hl0,hm0,hcs]
      rw [if_neg (by omega),if_pos (by omega)]
    · have hq':q∈(p::ps)∨q∈p2::ps2:=by simpa [or_assoc] using hq
      rcases hq' with hq' | hq'
      · exact (h4 q hq').keeps (Keeps.push _ _)
      · exact (g4 q hq').keeps (Keeps.push _ _)
  · refine ⟨.sl (some (.new h.next 0)) (l.length + m.length) (l.length + m.length) (some 7),(h.kill k).push (.cells (flCs (p::ps) ++ flCs (p2::ps2)) 55),?_,⟨?_,fun j hj=> ?_⟩,h.next,some 7,p,ps ++ p2::ps2,e3,by simp [AH.next_kill'],?_,fun q hq=> ?_,by simp,.inr ⟨rfl,hk0.1⟩⟩
    · generalize flCs (p2::ps2)=c2 at hnews hone
      generalize flCs (p::ps)=c1 at h3 hc1
      simp [aAppend,kind44,size55,zero55,hb,hni,hnews,hl0,hm0,h3,hc1,AH.next_kill']
      rw [if_neg (by omega),if_pos (by omega)]
      simpa using hone
    · simp [AH.next_kill']; have:=hk0.1; omega
    · have:=hk0.1
      rw [AH.get_push,AH.next_kill',if_neg (by omega),AH.get_kill',if_neg (by omega)]
      exact hk0.2 j hj
    · rw [AH.get_push,AH.next_kill',if_pos rfl,e4]
    · have hq':q∈(p::ps)∨q∈p2::ps2:=by simpa [or_assoc] using hq
      have hkp:Keeps (h.kill k) ((h.kill k).push (.cells (flCs (p::ps) ++ flCs (p2::ps2)) 55)):=Keeps.push _ _
      rcases hq' with hq' | hq'
      · exact ((h4 q hq').kill h3).keeps hkp
      · exact ((g4 q hq').kill h3).keeps hkp
theorem append_str1 {W:World} {h0 h:AH} {v:AV} {l:List (List UInt8)} {x:List UInt8} {j:Nat} (ho:OwnS h0 h v l) (hj:j<h0.next) (hg:h.get j=some (.cells [.str x] 9)) (hl:l.length<8796093022207):
    ∃v' h',aAppend (CC W) h #[37,37] v (.sl (some (.new j 0)) 1 1 none)=some (v',h')∧OwnS h0 h' v' (l ++ [x]):=by
  obtain ⟨hk,ho⟩:=ho
  have hb:(CC W).bytes 9=16:=_root_.id rfl
  have hni:niOK (CC W) #[37,37]=true:=_root_.id rfl
  have hnews:aNews (CC W) h 1 (.sl (some (.new j 0)) 1 1 none)=some (1,[.str x]):=by
    simp [aNews,aCells,hg]
  rcases ho with ⟨rfl,rfl⟩ | ⟨k,h1,h2,h3,rfl⟩
  · refine ⟨.sl (some (.new h.next 0)) 1 1 (some 1),h.push (.cells [.str x] 9),?_,hk.trans (Keeps.push _ _),.inr ⟨h.next,hk.1,by simp,by simp,by simp⟩⟩
    simp [aAppend,kind37,size9,zero9,hb,hni,hnews]
  · refine ⟨.sl (some (.new h.next 0)) (l.length + 1) (l.length + 1) (some 1),(h.kill k).push (.cells (l.map .str ++ [.str x]) 9),?_,⟨?_,fun j hj=> ?_⟩,.inr ⟨h.next,hk.1,by simp [AH.next_kill'],by simp [AH.next_kill'],by simp⟩⟩
    · simp [aAppend,kind37,size9,zero9,hb,hni,hnews,h3,AH.next_kill',aOne]
      rw [if_neg (by omega),if_pos (by omega)]
    · simp [AH.next_kill']; have:=hk.1; omega
    · have:=hk.1
      rw [AH.get_push,AH.next_kill',if_neg (by omega),AH.get_kill',if_neg (by omega)]
      exact hk.2 j hj
theorem drawSn {C:Cx} {Q:Post} {ops:Array Oper} {ks:List Fr} {e:Env} {h:AH} {id:Nat} (Ls:List (List Nat)) (hB:drawB C ops=true) (hc:canons C ops=Ls) (hw:∀L∈Ls,Sg C Q ops L [] ks e h):Wc C Q (.region id ops true) ks e h:=by
  refine ⟨⟨hB,fun c hcm=> ?_⟩⟩
  rw [hc] at hcm
  exact (hw c hcm).out
def datR (b:Option Blk) (l:List Int):List UInt8:=l.flatMap fun k=>(blkAt b k).getD []
def flR (names:List (List UInt8)) (i:Nat) (nd:Nd):Fl:=⟨47::Lib.join names [47],i,nd.kind,nd.links,nd.size,indR nd,if nd.kind=1 then datR nd.blocks (indR nd) else []⟩
def childR (nd:Nd) (s:List UInt8):Nat:=match nd.slots[(placeR nd.slots s).toNat]? with
  | some x=>x.ino.toNat
  | none=>0
def treeR (M:MS):Nat→List (List UInt8)→Nat→List Fl
  | 0,_,_=>[]
  | n + 1,names,i=>match M.nodes[i]? with
    | none=>[]
    | some nd=>flR names i nd::(sortT (nmsR nd.slots)).flatMap fun s=>treeR M n (names ++ [s]) (childR nd s)
def Deep (M:MS):Nat→Nat→Prop
  | 0,_=>False
  | n + 1,i=>∃nd,M.nodes[i]? =some nd∧∀x∈nd.slots,x.nm≠[]→Deep M n x.ino.toNat
theorem nodup_le:∀(N:Nat) (l:List Nat),l.Nodup→(∀x∈l,x<N)→l.length≤N
  | 0,l,_,h=>by
    cases l with
    | nil=>simp
    | cons x r=>have:=h x (by simp); omega
  | N + 1,l,hn,h=>by
    by_cases hm:N∈l
    · have h1:=nodup_le N (l.erase N) (hn.erase N) fun x hx=>by
        have h2:=(hn.mem_erase_iff).1 hx
        have:=h x h2.2
        omega
      rw [List.length_erase_of_mem hm] at h1
      omega
    · have:=nodup_le N l hn fun x hx=>by
        have h1:=h x hx
        have:x≠N:=fun e=>hm (e ▸ hx)
        omega
      omega
theorem path_node {M:MS} {t:Nat} (h:Fine M t) (ht:t<1000000) {a:Names} {i:Nat} (hp:Path M a 0 i):i<M.nodes.length:=by
  by_cases ha:a=[]
  · subst ha
    have e:(0:Nat)=i:=hp
    subst e; exact h.pos
  · obtain ⟨d,nd,x,_,h2,h3,h4,h5,h6⟩:=path_last ha hp
    have:=(h.ok ht).inos nd (List.mem_of_getElem? h2) x h4
    omega
theorem path_mid {M:MS} {a:Names} {i k:Nat} (hp:Path M a 0 i) (hk:k<a.length):∃m nd,Path M (a.take k) 0 m∧M.nodes[m]? =some nd∧nd.kind=2:=by
  obtain ⟨m,h1,h2⟩:=path_take k hp
  have hd:a.drop k=a[k]::a.drop (k + 1):=List.drop_eq_getElem_cons hk
  rw [hd] at h2
  obtain ⟨nd,x,h3,h4,_⟩:=h2
  exact ⟨m,nd,h1,h3,h4⟩
theorem path_short {M:MS} {t:Nat} (h:Fine M t) (ht:t<1000000) {a:Names} {i:Nat} (hg:Good a) (hp:Path M a 0 i):a.length≤M.nodes.length:=by
  have hf:∀k,k<a.length→∃m nd,Path M (a.take k) 0 m∧M.nodes[m]? =some nd∧nd.kind=2∧findR M (a.take k) 0=((m:Int),0):=fun k hk=>by
    obtain ⟨m,nd,h1,h2,h3⟩:=path_mid hp hk
    exact ⟨m,nd,h1,h2,h3,find_of_path h ht (hg.take k) h1⟩
  have hn:((List.range a.length).map fun k=>(findR M (a.take k) 0).1.toNat).Nodup:=by
    rw [List.nodup_iff_pairwise_ne,List.pairwise_map]
    refine List.Pairwise.imp_of_mem ?_ (List.pairwise_lt_range)
    intro k k' hk hk' hlt he
    rw [List.mem_range] at hk hk'
    obtain ⟨m,nd,h1,h2,h3,h4⟩:=hf k hk
    obtain ⟨m',nd',h1',h2',h3',h4'⟩:=hf k' hk'
    rw [h4,h4'] at he
    simp only [Int.toNat_natCast] at he
    subst he
    have:=path_dir h ht (a.take k).length (Nat.le_refl _) (hg.take k) (hg.take k') h1 h1' h2 h3
    have:=congrArg List.length this
    simp at this
    omega
  have:=nodup_le M.nodes.length _ hn fun x hx=>by
    obtain ⟨k,hk,rfl⟩:=List.mem_map.1 hx
    rw [List.mem_range] at hk
    obtain ⟨m,nd,_,h2,_,h4⟩:=hf k hk
    rw [h4]
    simp only [Int.toNat_natCast]
    exact (List.getElem?_eq_some_iff.1 h2).1
  simpa using this
theorem deep_of {M:MS} {t:Nat} (h:Fine M t) (ht:t<1000000):∀(n:Nat) (a:Names) (i:Nat),Good a→Path M a 0 i→a.length + n=M.nodes.length + 1→Deep M n i:=by
  intro n
  induction n with
  | zero=>intro a i hg hp hl; exact absurd (path_short h ht hg hp) (by omega)
  | succ n ih=>
    intro a i hg hp hl
    have hi:=path_node h ht hp
    refine ⟨M.nodes[i],by simp [hi],fun x hx hne=> ?_⟩
    have hnd:M.nodes[i]? =some M.nodes[i]:=by simp [hi]
    generalize M.nodes[i]=nd at hx hnd
    have hok:=h.at hnd
    have hk:nd.kind=2:=by
      rcases hok.kind with k | k | k
      · rw [hok.free k] at hx; simp [noNode] at hx
      · obtain ⟨b,_,_,e,_⟩:=hok.file k; rw [e] at hx; cases hx
      · exact k
    refine ih (a ++ [x.nm]) x.ino.toNat (fun y hy=> ?_) (path_append.2 ⟨i,hp,nd,x,hnd,hk,hx,rfl,rfl⟩) (by simp; omega)
    rw [List.mem_append,List.mem_singleton] at hy
    rcases hy with hy | rfl
    · exact hg y hy
    · exact hne
theorem deep_root {M:MS} {t:Nat} (h:Fine M t) (ht:t<1000000):Deep M (M.nodes.length + 1) 0:=deep_of h ht _ [] 0 (fun x hx=>by cases hx) rfl (by simp)
def ShortM (M:MS):Prop:=∀nd∈M.nodes,∀x∈nd.slots,x.nm.length≤24
theorem ShortM.set {M:MS} (h:ShortM M) {i:Nat} {nd:Nd} (hn:∀x∈nd.slots,x.nm.length≤24):ShortM (M.set i nd):=by
  intro y hy x hx
  rcases List.mem_or_eq_of_mem_set hy with hy | rfl
  · exact h y hy x hx
  · exact hn x hx
theorem ShortM.at {M:MS} (h:ShortM M) {i:Nat} {nd:Nd} (hn:M.nodes[i]? =some nd):∀x∈nd.slots,x.nm.length≤24:=h nd (List.mem_of_getElem? hn)
theorem putR_short {M:MS} (h:ShortM M) {i:Nat} {nm:List UInt8} {a:Int} (hn:nm.length≤24):ShortM (putR M i nm a).2:=by
  unfold putR
  split
  · exact h
  · rename_i nd hnd
    have h2:=h.at hnd
    split
    · refine h.set fun x hx=> ?_
      rcases List.mem_or_eq_of_mem_set hx with hx | rfl
      · exact h2 x hx
      · exact hn
    · split
      · exact h
      · refine h.set fun x hx=> ?_
        simp only [List.mem_append,List.mem_singleton] at hx
        rcases hx with hx | rfl
        · exact h2 x hx
        · exact hn
theorem takeR_short {M:MS} (h:ShortM M) {d j:Nat}:ShortM (takeR M d j):=by
  unfold takeR
  split
  · exact h
  · rename_i nd hnd
    refine h.set fun x hx=> ?_
    rcases List.mem_or_eq_of_mem_set hx with hx | rfl
    · exact h.at hnd x hx
    · simp
theorem noNode_short:∀x∈noNode.slots,x.nm.length≤24:=fun x hx=>by simp [noNode] at hx
theorem create_short {M:MS} (h:ShortM M) {k:Int} {l:List (List UInt8)} (hn:(l.getLast?.getD []).length≤24):ShortM (createR M k l).2:=by
  unfold createR
  have hp:=putR_short (i:=(parentR M l).1.toNat) (a:=freeR M) h hn
  split
  · split
    · exact h
    · split
      · rename_i M1 e; rw [e] at hp; exact hp
      · rename_i M1 e; rw [e] at hp
        refine hp.set fun x hx=> ?_
        split at hx<;>simp [newDir,newFile] at hx
  · exact h
theorem write_short {M:MS} (h:ShortM M) {a:Int} {d:List UInt8} {l:List (List UInt8)}:ShortM (writeR M a d l).2:=by
  unfold writeR
  repeat' split
  all_goals first | exact h | (rename_i nd hnd _; have q:=h.at hnd; exact h.set fun y hy=>q y hy)
theorem trunc_short {M:MS} (h:ShortM M) {n:Int} {l:List (List UInt8)}:ShortM (truncR M n l).2:=by
  unfold truncR
  repeat' split
  all_goals first | exact h | (rename_i nd hnd; have q:=h.at hnd; exact h.set fun y hy=>q y hy)
theorem link_short {M:MS} (h:ShortM M) {l l2:List (List UInt8)} (hn:(l2.getLast?.getD []).length≤24):ShortM (linkR M l l2).2:=by
  have hp:=putR_short (i:=(parentR M l2).1.toNat) (a:=(fileR M l).1) h hn
  unfold linkR
  repeat' split
  all_goals first | exact h | exact hp | (rename_i x hx; have q:=hp.at hx; exact hp.set fun y hy=>q y hy)
theorem unlink_short {M:MS} (h:ShortM M) {l:List (List UInt8)}:ShortM (unlinkR M l).2:=by
  unfold unlinkR
  split
  · split
    · exact h
    · rename_i nd hnd
      have ht:=takeR_short (d:=(findR M l.dropLast 0).1.toNat) (j:=(placeR nd.slots (l.getLast?.getD [])).toNat) h
      split
      · exact h
      · rename_i x hx
        split
        · have q:=ht.at hx
          have q2:=ht.set (i:=(fileR M l).1.toNat) (nd:={x with links:=x.links - 1}) fun y hy=>q y hy
          exact q2.set noNode_short
        · have q:=ht.at hx
          exact ht.set fun y hy=>q y hy
  · exact h
theorem rmdir_short {M:MS} (h:ShortM M) {l:List (List UInt8)}:ShortM (rmdirR M l).2:=by
  unfold rmdirR
  repeat' split
  all_goals first | exact h | exact (takeR_short h).set noNode_short
theorem rename_short {M:MS} (h:ShortM M) {p t:List UInt8} {l l2:List (List UInt8)} (hn:(l2.getLast?.getD []).length≤24):ShortM (renameR M p t l l2).2:=by
  unfold renameR
  repeat' split
  all_goals first | exact h | exact putR_short (takeR_short h) hn
theorem new_short {n:Nat} {c:Int}:ShortM (newM n c):=by
  intro nd hnd x hx
  simp only [newM,List.mem_cons,List.mem_replicate] at hnd
  rcases hnd with rfl | ⟨_,rfl⟩
  · simp [rootNd] at hx
  · exact noNode_short x hx
theorem split_last (p:List UInt8):((splitR p).1.getLast?.getD []).length≤24:=by
  by_cases h:(splitR p).2=0
  · cases hl:(splitR p).1.getLast? with
    | none=>simp
    | some x=>
      have hx:=(splitR_ok h).1 x (List.mem_of_getLast? hl)
      unfold nameR at hx
      simp only [Option.getD_some]
      repeat' split at hx
      all_goals first | omega | simp at hx
  · rw [splitR_nil h]; simp
theorem do_short {M:MS} (h:ShortM M) (o:Opn):ShortM (doR M o).2:=by
  have h1:=split_last o.p
  have h2:=split_last o.t
  unfold doR
  split
  · exact h
  · split
    · exact h
    · split
      · exact h
      · unfold opR
        split
        all_goals first | exact h | exact create_short h h1 | exact write_short h | exact trunc_short h | exact link_short h h2 | exact unlink_short h | exact rmdir_short h | exact rename_short h h2
end Go.Proofs.YtbofhlifobjolaaGreatDoor.Ax
end
section
set_option linter.unusedVariables false
set_option linter.unusedSimpArgs false
namespace Go.Proofs.YtbofhlifobjolaaGreatDoor.Ax
open Go.ChangeShapes Go.WideShapes Go.ChangeAt Go.RowKit
set_option maxRecDepth 100000
section
variable {α:Type} {W:World} {h0:AH} {T E:TypeId} {sz:Nat} {P:AH→α→AV→Prop} {v:AV} {l:List α}
end
end Go.Proofs.YtbofhlifobjolaaGreatDoor.Ax
end
section
set_option linter.unusedVariables false
set_option linter.unusedSimpArgs false
namespace Go.Proofs.YtbofhlifobjolaaGreatDoor.Ax
open Go.ChangeShapes Go.WideShapes Go.ChangeAt Go.RowKit
set_option maxRecDepth 100000
structure Ent where
  view:Int
  client:Int
  req:Int
  op:Opn
structure Rep where
  node:Int
  client:Int
  req:Int
  res:Res
structure Cho where
  kind:Int
  node:Int
  n:Int
  torn:Int
  client:Int
  req:Int
  op:Opn
structure See where
  c:Cho
  reps:List Rep
  h:List Ent
section
variable {H:Type} {enc:TypeId×Value→H} {W:World} {n:Nat} {cs:List Value} {y:DataW H×List MemPlace}
end
end Go.Proofs.YtbofhlifobjolaaGreatDoor.Ax
end
section
set_option linter.unusedVariables false
set_option linter.unusedSimpArgs false
namespace Go.Proofs.YtbofhlifobjolaaGreatDoor.Ax
open Go.RowKit
section
variable {W:World}
end
def BytV (h:AH) (ko:Option Nat) (bv:AV) (l:List UInt8):Prop:=match ko with
  | none=>l=[]∧bv= .sl none 0 0 none
  | some k=>l≠[]∧k<h.next∧h.get k=some (.cells (bcells l) 5)∧bv= .sl (some (.new k 0)) l.length l.length (some 1)
section
variable {W:World} {h:AH} {k:Nat} {a:AV} {t:TypeId}
end
theorem BytV.app {W:World} {h:AH} {ko:Option Nat} {bv:AV} {l:List UInt8} {T2:TypeId} {x:AV} (s:List UInt8) (hb:BytV h ko bv l) (hl:l.length + s.length<8796093022207) (hni:niOK (CC W) #[51,T2]=true) (hnews:aNews (CC W) h 1 x=some (s.length,bcells s)):
    ∃p n c g ko' h',aAppend (CC W) h #[51,T2] bv x=some (.sl p n c g,h')∧BytV h' ko' (.sl p n c g) (l ++ s)∧h.next≤h'.next∧(∀j,j<h.next→ko≠some j→h'.get j=h.get j)∧(ko'=ko∨∃k,ko'=some k∧h.next≤k):=by
  have hb':(CC W).bytes 5=1:=_root_.id rfl
  have hone:(bcells s).all aOne=true:=by
    rw [List.all_eq_true]
    intro x hx
    obtain ⟨b,_,rfl⟩:=List.mem_map.1 hx
    rfl
  have hsl:(bcells s).length=s.length:=bcells_length s
  cases ko with
  | none=>
    obtain ⟨rfl,rfl⟩:=hb
    by_cases hs:s=[]
    · subst hs
      refine ⟨none,0,0,none,none,h,?_,⟨rfl,rfl⟩,Nat.le_refl _,fun _ _ _=>rfl,.inl rfl⟩
      simp [aAppend,kind51,size5,zero5,hb',hni,hnews]
    · have hpos:0<s.length:=List.length_pos_iff.2 hs
      refine ⟨some (.new h.next 0),s.length,s.length,some 1,some h.next,h.push (.cells (bcells s) 5),?_,⟨by simpa using hs,by simp,by simp,by simp⟩,by simp,fun j hj _=> ?_,.inr ⟨_,rfl,Nat.le_refl _⟩⟩
      · simp [aAppend,kind51,size5,zero5,hb',hni,hnews,hs]
        omega
      · rw [AH.get_push,if_neg (by omega)]
  | some k=>
    obtain ⟨hne,h2,h4,rfl⟩:=hb
    have hpl:0<l.length:=List.length_pos_iff.2 hne
    have hbl:(bcells l).length=l.length:=bcells_length l
    by_cases hs:s=[]
    · subst hs
      refine ⟨some (.new k 0),l.length,l.length,some 1,some k,h,?_,⟨by simpa using hne,h2,by simpa using h4,by simp⟩,Nat.le_refl _,fun _ _ _=>rfl,.inl rfl⟩
      simp [aAppend,kind51,size5,zero5,hb',hni,hnews]
    · have hpos:0<s.length:=List.length_pos_iff.2 hs
      have hap:bcells l ++ bcells s=bcells (l ++ s):=by simp [bcells]
      refine ⟨some (.new h.next 0),l.length + s.length,l.length + s.length,some 1,some h.next,(h.kill k).push (.cells (bcells l ++ bcells s) 5),?_,⟨by simp [hne],by simp [AH.next_kill'],?_,by simp⟩,by simp [AH.next_kill'],fun j hj hk=> ?_,.inr ⟨_,rfl,Nat.le_refl _⟩⟩
      · generalize bcells s=c2 at hnews hone
        generalize bcells l=c1 at h4 hbl
        simp [aAppend,kind51,size5,zero5,hb',hni,hnews,h4,hbl,hs,AH.next_kill']
        rw [if_neg (by omega),if_pos (by omega),if_pos (by simpa using hone)]
      · rw [AH.get_push,AH.next_kill',if_pos rfl,hap]
      · have:j≠k:=fun e=>hk (by rw [e])
        rw [AH.get_push,AH.next_kill',if_neg (by omega),AH.get_kill',if_neg this]
theorem conv_bytes {W:World} {h:AH} {ko:Option Nat} {bv:AV} {l:List UInt8} (hb:BytV h ko bv l):aConv (CC W) h 51 9 bv=some (.str l):=by
  cases ko with
  | none=>obtain ⟨rfl,rfl⟩:=hb; rfl
  | some k=>
    obtain ⟨hne,_,h4,rfl⟩:=hb
    have hpl:0<l.length:=List.length_pos_iff.2 hne
    have hbl:(bcells l).length=l.length:=bcells_length l
    have ht:(bcells l).take l.length=bcells l:=List.take_of_length_le (by omega)
    simp only [aConv,kind51,kind9,kind5]
    rw [if_neg (by omega)]
    simp [aCells,h4,hbl,ht,bcells_read]
end Go.Proofs.YtbofhlifobjolaaGreatDoor.Ax
end
