/- The texts Bytes, Inv, DoAll, Keep, Ops, File2, SpeakM, LawM, as one. -/
import Derived.Test.YtbofhlifobjolaaGreatDoorGh
import Derived.Test.YtbofhlifobjolaaGreatDoorGg
import Derived.Test.YtbofhlifobjolaaGreatDoorGe
import Derived.Test.YtbofhlifobjolaaGreatDoorGf
section
set_option linter.unusedVariables false
set_option linter.unusedSimpArgs false
namespace Go.Proofs.YtbofhlifobjolaaGreatDoor.Ax
open Go.RowKit
theorem byteAt_setB {k:Nat} {s:List UInt8} {b:Blk} {p:Nat}:byteAt (some (setB (k:Int) s b)) p=if p / 128=k then (s[p % 128]?).getD 0 else byteAt (some b) p:=by
  simp only [byteAt,blkAt_setB]
  by_cases h:p / 128=k
  · rw [if_pos h,if_pos (by omega)]
  · rw [if_neg h,if_neg (by omega)]
theorem overR_get {old part:List UInt8} {f o:Nat} (hf:f + part.length≤old.length):(overR old part f)[o]? =if o<f then old[o]? else if o<f + part.length then part[o - f]? else old[o]? :=by
  simp only [overR]
  have h1:(old.take f ++ part).length=f + part.length:=by simp; omega
  by_cases ho:o<f
  · rw [if_pos ho,List.append_assoc,List.getElem?_append_left (by simp; omega),List.getElem?_take,if_pos ho]
  · rw [if_neg ho]
    by_cases h2:o<f + part.length
    · rw [if_pos h2,List.getElem?_append_left (by omega),List.getElem?_append_right (by simp; omega)]
      congr 1; simp; omega
    · rw [if_neg h2,List.getElem?_append_right (by omega),List.getElem?_drop]
      congr 1; omega
theorem getD_take_drop {d:List UInt8} {lo hi q:Nat}:((d.take hi).drop lo)[q]? =if lo + q<hi then d[lo + q]? else none:=by
  rw [List.getElem?_drop,List.getElem?_take]
theorem wrStep_byte {a i:Nat} {d:List UInt8} {b:Blk} (hb:BOk b) (hi:i * 128<a + d.length) (hi2:a<(i + 1) * 128) (p:Nat):
    byteAt (some (wrStep a d i b)) p=if p / 128=i∧a≤p∧p<a + d.length then (d[p - a]?).getD 0 else byteAt (some b) p:=by
  have hol:((blkAt (some b) (i:Int)).getD zblk).length=128:=by
    cases h:blkAt (some b) (i:Int) with
    | none=>rfl
    | some s=>exact (hb _ (blkAt_mem h)).1
  have hbyte:∀o,o<128→(((blkAt (some b) (i:Int)).getD zblk)[o]?).getD 0=byteAt (some b) (i * 128 + o):=by
    intro o ho
    have e1:(i * 128 + o) / 128=i:=by omega
    have e2:(i * 128 + o) % 128=o:=by omega
    simp only [byteAt,e1,e2]
    cases h:blkAt (some b) (i:Int) with
    | none=>
      show ((List.replicate 128 (0:UInt8))[o]?).getD 0=0
      rw [List.getElem?_replicate,if_pos ho]; rfl
    | some s=>rfl
  simp only [wrStep]
  generalize (blkAt (some b) (i:Int)).getD zblk=old at hol hbyte
  rw [byteAt_setB]
  by_cases h:p / 128=i
  · rw [if_pos h]
    obtain ⟨o,ho⟩:∃o,o=p % 128:=⟨_,rfl⟩
    have hp:p=i * 128 + o:=by omega
    have ho2:o<128:=by omega
    obtain ⟨fr,hfr⟩:∃fr:Nat,fr=max a (i * 128):=⟨_,rfl⟩
    obtain ⟨to,hto⟩:∃to:Nat,to=min (a + d.length) ((i + 1) * 128):=⟨_,rfl⟩
    have hpl:((d.take (to - a)).drop (fr - a)).length=to - fr:=by simp only [List.length_drop,List.length_take]; omega
    rw [←ho]
    simp only [wrS, ←hfr, ←hto]
    rw [overR_get (by rw [hpl,hol]; omega),hpl]
    by_cases h1:o<fr - i * 128
    · rw [if_pos h1,if_neg (by omega),hbyte o ho2, ←hp]
    · rw [if_neg h1]
      by_cases h2:o<fr - i * 128 + (to - fr)
      · rw [if_pos h2,if_pos ⟨h,by omega,by omega⟩,getD_take_drop,if_pos (by omega)]
        congr 2; omega
      · rw [if_neg h2,if_neg (by omega),hbyte o ho2, ←hp]
  · rw [if_neg h,if_neg (fun hc=>h hc.1)]
theorem wrStep_ok {a i:Nat} {d:List UInt8} {b:Blk} (hb:BOk b) (hi:i * 128<a + d.length) (hi2:a<(i + 1) * 128) (hm:i<4166):BOk (wrStep a d i b):=by
  have hol:((blkAt (some b) (i:Int)).getD zblk).length=128:=by
    cases h:blkAt (some b) (i:Int) with
    | none=>rfl
    | some s=>exact (hb _ (blkAt_mem h)).1
  exact setB_ok (wrS_len hol hi hi2) (by omega) (by omega) hb
theorem wrF_byte {a:Nat} {d:List UInt8} (hE:a + d.length≤533248) (n:Nat):∀(i:Nat) (b:Blk),BOk b→a<i * 128 + 128→a + d.length≤i * 128 + n * 128→
    BOk (wrF a d n i b)∧∀p,byteAt (some (wrF a d n i b)) p=if i * 128≤p∧a≤p∧p<a + d.length then (d[p - a]?).getD 0 else byteAt (some b) p:=by
  induction n with
  | zero=>
    intro i b hb h1 h2
    exact ⟨hb,fun p=>by rw [if_neg (by omega)]; rfl⟩
  | succ n ih=>
    intro i b hb h1 h2
    have e1:(i + 1) * 128=i * 128 + 128:=Nat.succ_mul i 128
    have e2:(n + 1) * 128=n * 128 + 128:=Nat.succ_mul n 128
    rw [e2] at h2
    by_cases hi:i * 128<a + d.length
    · have hw:wrF a d (n + 1) i b=wrF a d n (i + 1) (wrStep a d i b):=by simp only [wrF,if_pos hi]
      have h1':a<(i + 1) * 128:=by rw [e1]; exact h1
      have hok:=wrStep_ok hb hi h1' (by omega)
      have hby:=wrStep_byte hb hi h1'
      rw [hw]
      generalize wrStep a d i b=b1 at hok hby
      obtain ⟨k1,k2⟩:=ih (i + 1) b1 hok (by rw [e1]; omega) (by rw [e1]; omega)
      clear ih hok hw hb
      refine ⟨k1,fun p=> ?_⟩
      rw [k2 p,hby p,e1]
      clear k1 k2 hby e1 e2 h1'
      by_cases c1:i * 128 + 128≤p∧a≤p∧p<a + d.length
      · rw [if_pos c1,if_pos (by omega)]
      · rw [if_neg c1]
        by_cases c2:p / 128=i∧a≤p∧p<a + d.length
        · rw [if_pos c2,if_pos (by omega)]
        · rw [if_neg c2,if_neg (by omega)]
    · rw [wrF_done hi]
      exact ⟨hb,fun p=>by rw [if_neg (by omega)]⟩
theorem wrB_byte {a:Nat} {d:List UInt8} {b:Blk} (hb:BOk b) (hE:a + d.length≤533248) (hd:d.length≤1024):
    BOk (wrB a d b)∧∀p,byteAt (some (wrB a d b)) p=if a≤p∧p<a + d.length then (d[p - a]?).getD 0 else byteAt (some b) p:=by
  obtain ⟨k1,k2⟩:=wrF_byte hE 10 (a / 128) b hb (by omega) (by omega)
  refine ⟨k1,fun p=> ?_⟩
  rw [wrB,k2 p]
  by_cases c:a≤p∧p<a + d.length
  · rw [if_pos c,if_pos (by omega)]
  · rw [if_neg c,if_neg (by omega)]
theorem blkAt_trB {N k:Int}:∀b:Blk,blkAt (some (trB N b)) k=(blkAt (some b) k).bind (trK N k)
  | []=>rfl
  | x::l=>by
    have ih:=blkAt_trB (N:=N) (k:=k) l
    simp only [trB,List.filterMap_cons] at ih ⊢
    rw [blkAt_cons]
    cases ht:trK N x.1 x.2 with
    | none=>
      simp only [Option.map_none]
      rw [ih]
      by_cases hx:x.1=k
      · subst hx
        rw [if_pos rfl]
        simp only [Option.bind,ht]
        cases hb:blkAt (some l) x.1 with
        | none=>rfl
        | some s=>
          simp only
          unfold trK at ht ⊢
          split at ht
          · rename_i h1; rw [if_pos h1]
          · split at ht<;>cases ht
      · rw [if_neg hx]
    | some s=>
      simp only [Option.map_some]
      rw [blkAt_cons]
      by_cases hx:x.1=k
      · subst hx
        simp only [if_true,Option.bind,ht]
      · simp only [if_neg hx]
        exact ih
theorem trB_ok {N:Int} {b:Blk} (hb:BOk b):BOk (trB N b):=by
  intro x hx
  obtain ⟨y,hy,he⟩:=List.mem_filterMap.1 hx
  obtain ⟨h1,h2,h3⟩:=hb y hy
  simp only [Option.map_eq_some_iff] at he
  obtain ⟨s,hs,rfl⟩:=he
  refine ⟨?_,h2,h3⟩
  unfold trK at hs
  split at hs
  · cases hs
  · split at hs
    · cases hs; simp only [List.length_append,List.length_take,List.length_replicate]; omega
    · cases hs; exact h1
theorem trB_byte {N:Nat} {b:Blk} (hb:BOk b) (p:Nat):byteAt (some (trB (N:Int) b)) p=if p<N then byteAt (some b) p else 0:=by
  simp only [byteAt,blkAt_trB]
  cases h:blkAt (some b) ((p / 128:Nat):Int) with
  | none=>simp
  | some s=>
    have hs:s.length=128:=(hb _ (blkAt_mem h)).1
    simp only [Option.bind,trK]
    by_cases h1:(N:Int) - ((p / 128:Nat):Int) * 128≤0
    · rw [if_pos h1,if_neg (by omega)]
    · rw [if_neg h1]
      by_cases h2:(N:Int) - ((p / 128:Nat):Int) * 128<128
      · rw [if_pos h2]
        simp only
        by_cases h3:p<N
        · rw [if_pos h3,List.getElem?_append_left (by simp only [List.length_take]; omega),List.getElem?_take,if_pos (by omega)]
        · rw [if_neg h3,List.getElem?_append_right (by simp only [List.length_take]; omega),List.getElem?_replicate]
          split<;>rfl
      · rw [if_neg h2,if_pos (by omega)]
def live (i:Nat) (s:Slt):Bool:=decide (s.nm≠[]) && decide (s.ino=(i:Int))
def cnt (l:List Slt) (i:Nat):Nat:=l.countP (live i)
def refsL (l:List Nd) (i:Nat):Nat:=match l with
  | []=>0
  | nd::l=>cnt nd.slots i + refsL l i
def ind (i:Nat) (s:Slt):Nat:=if live i s=true then 1 else 0
theorem refsL_set:∀{l:List Nd} {d:Nat} {nd nd':Nd} (i:Nat),l[d]? =some nd→refsL (l.set d nd') i + cnt nd.slots i=refsL l i + cnt nd'.slots i
  | [],d,nd,nd',i,h=>by simp at h
  | x::l,0,nd,nd',i,h=>by
    simp at h; subst h
    simp only [List.set_cons_zero,refsL]; omega
  | x::l,d + 1,nd,nd',i,h=>by
    have ih:=refsL_set (nd':=nd') i (show l[d]? =some nd by simpa using h)
    simp only [List.set_cons_succ,refsL]; omega
theorem refsL_ge:∀{l:List Nd} {d:Nat} {nd:Nd} (i:Nat),l[d]? =some nd→cnt nd.slots i≤refsL l i
  | [],d,nd,i,h=>by simp at h
  | x::l,0,nd,i,h=>by simp at h; subst h; simp only [refsL]; omega
  | x::l,d + 1,nd,i,h=>by
    have ih:=refsL_ge i (show l[d]? =some nd by simpa using h)
    simp only [refsL]; omega
theorem cnt_set:∀{l:List Slt} {j:Nat} {x y:Slt} (i:Nat),l[j]? =some x→cnt (l.set j y) i + ind i x=cnt l i + ind i y
  | [],j,x,y,i,h=>by simp at h
  | z::l,0,x,y,i,h=>by
    simp at h; subst h
    simp only [List.set_cons_zero,cnt,List.countP_cons,ind]; omega
  | z::l,j + 1,x,y,i,h=>by
    have ih:=cnt_set (y:=y) i (show l[j]? =some x by simpa using h)
    simp only [List.set_cons_succ,cnt,List.countP_cons] at ih ⊢; omega
theorem cnt_append {l:List Slt} {y:Slt} (i:Nat):cnt (l ++ [y]) i=cnt l i + ind i y:=by
  simp only [cnt,List.countP_append,List.countP_cons,List.countP_nil,ind]; omega
theorem cnt_pos {l:List Slt} {j:Nat} {x:Slt} {i:Nat} (h:l[j]? =some x) (hl:live i x=true):0<cnt l i:=
  List.countP_pos_iff.2 ⟨x,List.mem_of_getElem? h,hl⟩
theorem cnt_zero {l:List Slt} (h:∀x∈l,x.nm=[]) (i:Nat):cnt l i=0:=
  List.countP_eq_zero.2 fun x hx=>by simp [live,h x hx]
theorem ind_none {i:Nat} {s:Slt} (h:s.nm=[]):ind i s=0:=by simp [ind,live,h]
theorem ind_at {i q:Nat} {s:Slt} (h:s.nm≠[]) (hi:s.ino=(i:Int)):ind q s=if q=i then 1 else 0:=by
  simp only [ind,live,h,ne_eq,not_false_eq_true,decide_true,Bool.true_and,hi]
  by_cases e:q=i
  · simp [e]
  · have:¬(i:Int)=(q:Int):=by omega
    simp [e,this]
def Uniq (l:List Slt):Prop:=∀(i j:Nat) x y,l[i]? =some x→l[j]? =some y→x.nm=y.nm→x.nm≠[]→i=j
structure NdOk (n t:Nat) (nd:Nd):Prop where
  kind:nd.kind=0∨nd.kind=1∨nd.kind=2
  free:nd.kind=0→nd=noNode
  file:nd.kind=1→∃b,nd.blocks=some b∧BOk b∧nd.slots=[]∧1≤nd.links∧nd.links≤100∧0≤nd.size∧nd.size≤533248∧∀p:Nat,nd.size≤p→byteAt (some b) p=0
  dir:nd.kind=2→nd.blocks=none∧nd.links=1∧nd.slots.length≤t∧nd.size=32 * nd.slots.length∧(∀s∈nd.slots,0≤s.ino∧s.ino<n)∧Uniq nd.slots
theorem NdOk.mono {n t t':Nat} {nd:Nd} (h:NdOk n t nd) (ht:t≤t'):NdOk n t' nd:=
  ⟨h.kind,h.free,h.file,fun hk=>by obtain ⟨a,b,c,d⟩:=h.dir hk; exact ⟨a,b,by omega,d⟩⟩
theorem ndOk_free {n t:Nat}:NdOk n t noNode:=
  ⟨.inl rfl,fun _=>rfl,fun h=>absurd h (by decide),fun h=>absurd h (by decide)⟩
theorem ndOk_newFile {n t:Nat}:NdOk n t newFile:=
  ⟨.inr (.inl rfl),fun h=>absurd h (by decide),fun _=>⟨[],rfl,fun x hx=>(by cases hx),rfl,by decide,by decide,by decide,by decide,fun p _=>rfl⟩,fun h=>absurd h (by decide)⟩
theorem ndOk_newDir {n t:Nat}:NdOk n t newDir:=
  ⟨.inr (.inr rfl),fun h=>absurd h (by decide),fun h=>absurd h (by decide),fun _=>⟨rfl,rfl,Nat.zero_le _,rfl,fun s hs=>(by cases hs),fun i j x y hx=>by simp [newDir] at hx⟩⟩
structure Inv (M:MS) (t:Nat) (w:Nat→Int):Prop where
  root:∃nd,M.nodes[0]? =some nd∧nd.kind=2
  few:M.nodes.length≤64
  each:∀nd∈M.nodes,NdOk M.nodes.length t nd
  ref:∀i,i<M.nodes.length→(refsL M.nodes i:Int)=w i
def want (i:Nat) (nd:Nd):Int:=if nd.kind=1 then nd.links else if nd.kind=2∧i≠0 then 1 else 0
def wantM (M:MS) (i:Nat):Int:=match M.nodes[i]? with
  | some nd=>want i nd
  | none=>0
def Fine (M:MS) (t:Nat):Prop:=Inv M t (wantM M)
theorem Inv.mono {M:MS} {t t':Nat} {w:Nat→Int} (h:Inv M t w) (ht:t≤t'):Inv M t' w:=⟨h.root,h.few,fun nd hn=>(h.each nd hn).mono ht,h.ref⟩
theorem Inv.congr {M:MS} {t:Nat} {w w':Nat→Int} (h:Inv M t w) (hw:∀i,i<M.nodes.length→w i=w' i):Inv M t w':=⟨h.root,h.few,h.each,fun i hi=>(h.ref i hi).trans (hw i hi)⟩
theorem Inv.at {M:MS} {t:Nat} {w:Nat→Int} (h:Inv M t w) {i:Nat} {nd:Nd} (hn:M.nodes[i]? =some nd):NdOk M.nodes.length t nd:=h.each nd (List.mem_of_getElem? hn)
theorem Inv.pos {M:MS} {t:Nat} {w:Nat→Int} (h:Inv M t w):0<M.nodes.length:=by
  obtain ⟨nd,hn,_⟩:=h.root; exact (List.getElem?_eq_some_iff.1 hn).1
theorem Inv.ok {M:MS} {t:Nat} {w:Nat→Int} (h:Inv M t w) (ht:t<1000000):MOk M where
  root:=fun nd hn=>by obtain ⟨x,hx,hk⟩:=h.root; rw [hn] at hx; cases hx; exact hk
  some:=h.pos
  few:=h.few
  short:=fun nd hn=>by
    have hk:=h.each nd hn
    rcases hk.kind with k | k | k
    · rw [hk.free k]; decide
    · obtain ⟨b,_,_,e,_⟩:=hk.file k; rw [e]; decide
    · have:=(hk.dir k).2.2.1; omega
  size:=fun nd hn=>by
    have hk:=h.each nd hn
    rcases hk.kind with k | k | k
    · rw [hk.free k]; decide
    · obtain ⟨b,_,_,_,_,_,e1,e2,_⟩:=hk.file k; omega
    · have h1:=(hk.dir k).2.2.1; have h2:=(hk.dir k).2.2.2.1; omega
  inos:=fun nd hn s hs=>by
    have hk:=h.each nd hn
    rcases hk.kind with k | k | k
    · rw [hk.free k] at hs; cases hs
    · obtain ⟨b,_,_,e,_⟩:=hk.file k; rw [e] at hs; cases hs
    · exact (hk.dir k).2.2.2.2.1 s hs
theorem Inv.bounds {M:MS} {t:Nat} {w:Nat→Int} (h:Inv M t w) (ht:t<1000000):(∀nd∈M.nodes,0≤nd.links∧nd.links<1099511627776)∧(∀nd∈M.nodes,nd.slots.length + 1<1099511627776∧nd.size + 32<1099511627776)∧(∀nd∈M.nodes,∀x∈nd.blocks.getD [],x.2.length=128):=by
  refine ⟨fun nd hn=> ?_,fun nd hn=> ?_,fun nd hn x hx=> ?_⟩
  · have hk:=h.each nd hn
    rcases hk.kind with k | k | k
    · rw [hk.free k]; decide
    · obtain ⟨b,_,_,_,e1,e2,_⟩:=hk.file k; omega
    · have:=(hk.dir k).2.1; omega
  · have hk:=h.each nd hn
    rcases hk.kind with k | k | k
    · rw [hk.free k]; decide
    · obtain ⟨b,_,_,e,_,_,e1,e2,_⟩:=hk.file k; rw [e]; exact ⟨by decide,by omega⟩
    · have h1:=(hk.dir k).2.2.1; have h2:=(hk.dir k).2.2.2.1; omega
  · have hk:=h.each nd hn
    rcases hk.kind with k | k | k
    · rw [hk.free k] at hx; cases hx
    · obtain ⟨b,e,hb,_⟩:=hk.file k; rw [e] at hx; exact (hb x hx).1
    · rw [(hk.dir k).1] at hx; cases hx
theorem Inv.set {M:MS} {t:Nat} {w:Nat→Int} (h:Inv M t w) {i:Nat} {nd nd':Nd} (hn:M.nodes[i]? =some nd) (hk:NdOk M.nodes.length t nd') (hc:∀q,cnt nd'.slots q=cnt nd.slots q) (h0:i=0→nd'.kind=2):Inv (M.set i nd') t w:=by
  have hil:=(List.getElem?_eq_some_iff.1 hn).1
  refine ⟨?_,by simp only [MS.set,List.length_set]; exact h.few,fun x hx=> ?_,fun q hq=> ?_⟩
  · obtain ⟨x,hx,hxk⟩:=h.root
    by_cases e:i=0
    · subst e
      exact ⟨nd',by simp [MS.set,hil],h0 rfl⟩
    · exact ⟨x,by simp only [MS.set]; rw [List.getElem?_set_ne e]; exact hx,hxk⟩
  · simp only [MS.set,List.length_set] at hx ⊢
    rcases List.mem_or_eq_of_mem_set hx with h1 | rfl
    · exact h.each x h1
    · exact hk
  · simp only [MS.set,List.length_set] at hq ⊢
    have h1:=refsL_set (nd':=nd') q hn
    have h2:=hc q
    have h3:=h.ref q hq
    omega
theorem Uniq.set_free {l:List Slt} {j:Nat} {y:Slt} (h:Uniq l) (hy:y.nm=[]):Uniq (l.set j y):=by
  intro a b x z hx hz he hne
  rw [List.getElem?_set] at hx hz
  split at hx
  · split at hx
    · cases hx; exact absurd hy hne
    · cases hx
  · split at hz
    · split at hz
      · cases hz; rw [he] at hne; exact absurd hy hne
      · cases hz
    · exact h a b x z hx hz he hne
theorem Uniq.set_new {l:List Slt} {j:Nat} {y:Slt} (h:Uniq l) (hy:∀x∈l,x.nm≠y.nm):Uniq (l.set j y):=by
  intro a b x z hx hz he hne
  rw [List.getElem?_set] at hx hz
  split at hx
  · split at hx
    · rename_i e1 _
      cases hx
      split at hz
      · rename_i e2; omega
      · exact absurd he.symm (hy z (List.mem_of_getElem? hz))
    · cases hx
  · split at hz
    · split at hz
      · cases hz; exact absurd he (hy x (List.mem_of_getElem? hx))
      · cases hz
    · exact h a b x z hx hz he hne
theorem Uniq.append {l:List Slt} {y:Slt} (h:Uniq l) (hy:∀x∈l,x.nm≠y.nm):Uniq (l ++ [y]):=by
  intro a b x z hx hz he hne
  rw [List.getElem?_append] at hx hz
  split at hx
  · split at hz
    · exact h a b x z hx hz he hne
    · simp only [List.getElem?_singleton] at hz
      split at hz
      · cases hz; exact absurd he (hy x (List.mem_of_getElem? hx))
      · cases hz
  · simp only [List.getElem?_singleton] at hx
    split at hx
    · cases hx
      split at hz
      · exact absurd he.symm (hy z (List.mem_of_getElem? hz))
      · simp only [List.getElem?_singleton] at hz
        split at hz
        · omega
        · cases hz
    · cases hx
theorem placeR_neg {l:List Slt} {s:List UInt8}:placeR l s<0↔∀x∈l,x.nm≠s:=by
  constructor
  · intro h x hx he
    obtain ⟨j,hj⟩:=List.getElem?_of_mem hx
    have hjl:=(List.getElem?_eq_some_iff.1 hj).1
    unfold placeR fstI at h
    split at h
    · omega
    · rename_i hf
      have:=List.find?_eq_none.1 hf j (by simp [hjl])
      simp [hj,he] at this
  · intro h
    by_cases hne:placeR l s<0
    · exact hne
    · obtain ⟨i,x,_,hx,hs⟩:=placeR_lt hne
      exact absurd hs (h x (List.mem_of_getElem? hx))
theorem Inv.take {M:MS} {t:Nat} {w:Nat→Int} (h:Inv M t w) {d j i:Nat} {nd:Nd} {x:Slt} (hn:M.nodes[d]? =some nd) (hk:nd.kind=2) (hx:nd.slots[j]? =some x) (hxn:x.nm≠[]) (hxi:x.ino=(i:Int)):
    Inv (takeR M d j) t (fun q=>w q - if q=i then 1 else 0):=by
  have hdl:=(List.getElem?_eq_some_iff.1 hn).1
  have hok:=h.at hn
  obtain ⟨d1,d2,d3,d4,d5,d6⟩:=hok.dir hk
  have hpos:=h.pos
  simp only [takeR,hn]
  refine ⟨?_,by simp only [MS.set,List.length_set]; exact h.few,fun y hy=> ?_,fun q hq=> ?_⟩
  · obtain ⟨x,hx,hxk⟩:=h.root
    by_cases e:d=0
    · subst e
      exact ⟨{nd with slots:=nd.slots.set j ⟨[],0⟩},by simp [MS.set,hdl],hk⟩
    · exact ⟨x,by simp only [MS.set]; rw [List.getElem?_set_ne e]; exact hx,hxk⟩
  · simp only [MS.set,List.length_set] at hy ⊢
    rcases List.mem_or_eq_of_mem_set hy with h1 | rfl
    · exact h.each y h1
    · refine ⟨.inr (.inr hk),fun e=>(by simp only [hk] at e; exact absurd e (by decide)),fun e=>(by simp only [hk] at e; exact absurd e (by decide)),fun _=>⟨d1,d2,by simpa using d3,by simpa using d4,fun s hs=> ?_,d6.set_free rfl⟩⟩
      rcases List.mem_or_eq_of_mem_set hs with h1 | rfl
      · exact d5 s h1
      · exact ⟨Int.le_refl _,by show (0:Int)<_; omega⟩
  · simp only [MS.set,List.length_set] at hq ⊢
    have h1:=refsL_set (nd':={nd with slots:=nd.slots.set j ⟨[],0⟩}) q hn
    have h2:=cnt_set (y:=⟨[],0⟩) q hx
    have h3:=h.ref q hq
    rw [ind_none (i:=q) (s:=⟨[],0⟩) rfl,ind_at hxn hxi] at h2
    simp only at h1
    split at h2<;>rename_i e
    · rw [if_pos e]; omega
    · rw [if_neg e]; omega
theorem Inv.put {M:MS} {t:Nat} {w:Nat→Int} (h:Inv M t w) {d a:Nat} {nd:Nd} {nm:List UInt8} (hn:M.nodes[d]? =some nd) (hk:nd.kind=2) (hp:placeR nd.slots nm<0) (hnm:nm≠[]) (ha:a<M.nodes.length) (hr:(putR M d nm a).1=true):
    Inv (putR M d nm a).2 (t + 1) (fun q=>w q + if q=a then 1 else 0):=by
  have hdl:=(List.getElem?_eq_some_iff.1 hn).1
  have hok:=h.at hn
  obtain ⟨d1,d2,d3,d4,d5,d6⟩:=hok.dir hk
  have hno:=placeR_neg.1 hp
  have key:∀nd',nd'.kind=2→NdOk M.nodes.length (t + 1) nd'→(∀q,cnt nd'.slots q=cnt nd.slots q + if q=a then 1 else 0)→Inv (M.set d nd') (t + 1) (fun q=>w q + if q=a then 1 else 0):=by
    intro nd' hk' hok' hc
    refine ⟨?_,by simp only [MS.set,List.length_set]; exact h.few,fun y hy=> ?_,fun q hq=> ?_⟩
    · obtain ⟨x,hx,hxk⟩:=h.root
      by_cases e:d=0
      · subst e
        exact ⟨nd',by simp [MS.set,hdl],hk'⟩
      · exact ⟨x,by simp only [MS.set]; rw [List.getElem?_set_ne e]; exact hx,hxk⟩
    · simp only [MS.set,List.length_set] at hy ⊢
      rcases List.mem_or_eq_of_mem_set hy with h1 | rfl
      · exact (h.each y h1).mono (by omega)
      · exact hok'
    · simp only [MS.set,List.length_set] at hq ⊢
      have h1:=refsL_set (nd':=nd') q hn
      have h2:=hc q
      have h3:=h.ref q hq
      by_cases e:q=a
      · rw [if_pos e] at h2 ⊢; omega
      · rw [if_neg e] at h2 ⊢; omega
  have hnew:∀q,ind q ⟨nm,(a:Int)⟩=if q=a then 1 else 0:=fun q=>ind_at hnm rfl
  have hab:(0:Int)≤(a:Int)∧(a:Int)<(M.nodes.length:Int):=by omega
  unfold putR at hr ⊢
  simp only [hn] at hr ⊢
  by_cases hf:0≤placeR nd.slots []
  · simp only [if_pos hf] at hr ⊢
    obtain ⟨j,x,e,hx,hxn⟩:=placeR_lt (l:=nd.slots) (s:=[]) (by omega)
    rw [e,Int.toNat_natCast]
    refine key _ hk ⟨.inr (.inr hk),fun e=>(by simp only [hk] at e; exact absurd e (by decide)),fun e=>(by simp only [hk] at e; exact absurd e (by decide)),fun _=>⟨d1,d2,by simp; omega,by simpa using d4,fun s hs=> ?_,d6.set_new hno⟩⟩ fun q=> ?_
    · rcases List.mem_or_eq_of_mem_set hs with h1 | rfl
      · exact d5 s h1
      · exact hab
    · have h2:=cnt_set (y:=⟨nm,(a:Int)⟩) q hx
      rw [ind_none hxn,hnew] at h2
      simp only; omega
  · simp only [if_neg hf] at hr ⊢
    split at hr
    · cases hr
    · rename_i hd
      rw [if_neg hd]
      refine key _ hk ⟨.inr (.inr hk),fun e=>(by simp only [hk] at e; exact absurd e (by decide)),fun e=>(by simp only [hk] at e; exact absurd e (by decide)),fun _=>⟨d1,d2,by simp; omega,by simp; omega,fun s hs=> ?_,d6.append hno⟩⟩ fun q=> ?_
      · simp only [List.mem_append,List.mem_singleton] at hs
        rcases hs with h1 | rfl
        · exact d5 s h1
        · exact hab
      · simp only [cnt_append,hnew]
theorem wantM_set {M:MS} {i:Nat} {nd:Nd} (hi:i<M.nodes.length) (q:Nat):wantM (M.set i nd) q=if q=i then want i nd else wantM M q:=by
  simp only [wantM,MS.set,List.getElem?_set]
  by_cases e:q=i
  · subst e; simp [hi]
  · rw [if_neg (fun h=>e h.symm),if_neg e]
theorem wantM_same {M:MS} {d:Nat} {nd nd':Nd} (hn:M.nodes[d]? =some nd) (h1:nd'.kind=nd.kind) (h2:nd'.links=nd.links):wantM (M.set d nd')=wantM M:=by
  funext q
  rw [wantM_set (List.getElem?_eq_some_iff.1 hn).1]
  split
  · rename_i e; subst e
    simp only [wantM,hn,want,h1,h2]
  · rfl
theorem wantM_take {M:MS} {d j:Nat}:wantM (takeR M d j)=wantM M:=by
  unfold takeR
  split
  · rfl
  · rename_i nd hn; exact wantM_same hn rfl rfl
theorem wantM_put {M:MS} {d:Nat} {nm:List UInt8} {a:Int}:wantM (putR M d nm a).2=wantM M:=by
  unfold putR
  split
  · rfl
  · rename_i nd hn
    split
    · exact wantM_same hn rfl rfl
    · split
      · rfl
      · exact wantM_same hn rfl rfl
structure Opn where
  kd:Int
  at_:Int
  n:Int
  p:List UInt8
  t:List UInt8
  d:List UInt8
def statR (M:MS) (l:List (List UInt8)):Res:=
  if (findR M l 0).2=0 then match M.nodes[(findR M l 0).1.toNat]? with
    | some nd=>⟨0,[],nd.kind,nd.links,nd.size,[]⟩
    | none=>Res.err 0
  else Res.err (findR M l 0).2
def errM (x:Int×MS):Res×MS:=(Res.err x.1,x.2)
def opR (i:Nat) (M:MS) (o:Opn) (l l2:List (List UInt8)):Res×MS:=
  match i with
  | 0=>errM (createR M o.kd l)
  | 1=>errM (createR M o.kd l)
  | 2=>errM (writeR M o.at_ o.d l)
  | 3=>errM (truncR M o.n l)
  | 4=>(readR M o.at_ o.n l,M)
  | 5=>(statR M l,M)
  | 6=>(listR M l,M)
  | 7=>errM (linkR M l l2)
  | 8=>errM (unlinkR M l)
  | 9=>errM (rmdirR M l)
  | _=>errM (renameR M o.p o.t l l2)
def toR (i:Nat):Bool:=i==7 || i==10
def doR (M:MS) (o:Opn):Res×MS:=
  if rowR o.kd<0 then (Res.err 309,M)
  else if (splitR o.p).2≠0 then (Res.err (splitR o.p).2,M)
  else if toR (rowR o.kd).toNat=true∧(splitR o.t).2≠0 then (Res.err (splitR o.t).2,M)
  else opR (rowR o.kd).toNat M o (splitR o.p).1 (splitR o.t).1
theorem name_ne {x:List UInt8} (h:nameR x=0):x≠[]:=by
  rintro rfl; simp [nameR] at h
theorem splitR_ne {p:List UInt8} (h:(splitR p).2=0):∀x∈(splitR p).1,x≠[]:=fun x hx=>name_ne ((splitR_ok h).1 x hx)
theorem splitR_short (p:List UInt8):(splitR p).1.length<8796093022207:=by
  by_cases h:(splitR p).2=0
  · have:=(splitR_ok h).2; omega
  · rw [splitR_nil h]; decide
theorem last_ne {l:List (List UInt8)} (h0:l≠[]) (h:∀x∈l,x≠[]):l.getLast?.getD []≠[]:=by
  rw [List.getLast?_eq_some_getLast h0]
  exact h _ (List.getLast_mem h0)
theorem RetM.statO {W:World} {f:FuncId} {args:List AV} {h:AH} {R:MR} {M:MS} {l:List (List UInt8)} (ok:MOk M) (hr:RetM (CC W) f args h R (statV M l) M):RetO W f args h R (statR M l) M:=
  hr.mono (fun w h' ⟨R',hw,a,b⟩=>⟨R',by
    subst hw
    unfold statV statR
    obtain ⟨b0,b1⟩:=findR_lt ok l 0 (by omega) (by have:=ok.some; omega)
    by_cases he:(findR M l 0).2=0
    · simp only [if_pos he]
      obtain ⟨q,hq⟩:=Int.eq_ofNat_of_zero_le b0
      rw [hq] at b1 ⊢
      have hqn:q<M.nodes.length:=by omega
      have hnd:M.nodes[q]? =some M.nodes[q]:=by simp [hqn]
      simp only [Int.toNat_natCast,hnd]
      exact ⟨_,rfl,.inl ⟨rfl,rfl⟩⟩
    · simp only [if_neg he]
      exact ResIs.err,a,b⟩) fun _ _ x=>x
theorem Fine.file {M:MS} {t:Nat} (h:Fine M t) (ht:t<1000000) {l:List (List UInt8)} (hl:∀x∈l,x≠[]) (he:(fileR M l).2=0):
    l≠[]∧∃i nd d ndd j x,fileR M l=(((i:Nat):Int),0)∧findR M l 0=((i:Int),0)∧M.nodes[i]? =some nd∧nd.kind=1∧findR M l.dropLast 0=(((d:Nat):Int),0)∧M.nodes[d]? =some ndd∧ndd.kind=2∧placeR ndd.slots (l.getLast?.getD [])=((j:Nat):Int)∧ndd.slots[j]? =some x∧x.ino=(i:Int)∧x.nm=l.getLast?.getD []∧x.nm≠[]:=by
  have ok:=h.ok ht
  obtain ⟨hl0,i,nd,hfi,hfd,hnd,hkd⟩:=fileR_ok ok he
  obtain ⟨d,ndd,j,x,hd,hndd,hkdd,hj,hxj,hxi,hxn⟩:=findR_last ok hl0 hfd
  have hne:=last_ne hl0 hl
  have hxne:x.nm≠[]:=by rw [hxn]; exact hne
  refine ⟨hl0,i,nd,d,ndd,j,x,hfi,hfd,hnd,?_,hd,hndd,hkdd,hj,hxj,hxi,hxn,hxne⟩
  rcases (h.at hnd).kind with k | k | k
  · have hin:=(List.getElem?_eq_some_iff.1 hnd).1
    have h1:=h.ref i hin
    have h2:=refsL_ge i hndd
    have h3:=cnt_pos (i:=i) hxj (by simp [live,hxne,hxi])
    simp only [wantM,hnd,want,k] at h1
    simp at h1
    omega
  · exact k
  · exact absurd k hkd
set_option maxHeartbeats 2000000 in
theorem do_all (W:World) (h:AH) (R:MR) (M:MS) (hm:MIs h R M) (t:Nat) (inv:Fine M t) (hti:t<1000000) (o:Opn) (hp:o.p.length<8796093022207) (ht:o.t.length<8796093022207) (ha:o.at_<9223372036854775808) (ha': -9223372036854775808≤o.at_):
    RetO W 17 [.ptr (some (.new R.km 0)),opV o.kd o.at_ o.n o.p o.t o.d] h R (doR M o).1 (doR M o).2:=by
  have ok:=inv.ok hti
  obtain ⟨q1,q2,q3⟩:=inv.bounds hti
  refine do_ret W h R M _ hm o.kd o.at_ o.n o.p o.t o.d hp ht _ (fun hr=> ?_) (fun hr hs=> ?_) fun i hri hi11 hs to f hrow=> ?_
  · have e:doR M o=(Res.err 309,M):=by simp only [doR,if_pos hr]
    rw [e]; exact ⟨rfl,rfl⟩
  · have e:doR M o=(Res.err (splitR o.p).2,M):=by simp only [doR,if_neg hr]; rw [if_pos hs]
    rw [e]; exact ⟨rfl,rfl⟩
  · have hrn:¬rowR o.kd<0:=by omega
    have hne:=splitR_ne hs
    have hl:=splitR_short o.p
    have hl2:=splitR_short o.t
    have hfile:(fileR M (splitR o.p).1).2=0→∀nd,M.nodes[(fileR M (splitR o.p).1).1.toNat]? =some nd→∃b,nd.blocks=some b∧BOk b:=fun he nd hnd=>by
      obtain ⟨_,i,nd',d,ndd,j,x,hfi,_,hnd',hk,_⟩:=inv.file hti hne he
      rw [hfi] at hnd
      simp only [Int.toNat_natCast] at hnd
      rw [hnd'] at hnd; cases hnd
      obtain ⟨b,e,hb,_⟩:=(inv.at hnd').file hk
      exact ⟨b,e,hb⟩
    have hdo:∀b,toR i=b→(b=true→(splitR o.t).2=0)→doR M o=opR i M o (splitR o.p).1 (splitR o.t).1:=fun b hb hbt=>by
      simp only [doR,if_neg hrn]
      rw [if_neg (by simpa using hs),hri,Int.toNat_natCast,if_neg]
      rintro ⟨h1,h2⟩
      exact h2 (hbt (by rw [←hb]; exact h1))
    have hbad:toR i=true→(splitR o.t).2≠0→doR M o=(Res.err (splitR o.t).2,M):=fun h1 h2=>by
      simp only [doR,if_neg hrn]
      rw [if_neg (by simpa using hs),hri,Int.toNat_natCast,if_pos ⟨h1,h2⟩]
    match i,hi11 with
    | 0,_=>
      rw [show rowAt R.km 0=[.int .i64 1,.bool false,.fn (.func 35) [.ptr (some (.new R.km 0))] []] from rfl] at hrow
      simp at hrow; obtain ⟨rfl,rfl⟩:=hrow
      refine ⟨fun h=>(by cases h),fun _=>⟨by simp [fn35],fun h1 v v2 hm1 h3 h4=> ?_⟩⟩
      rw [hdo false rfl (fun h=>by cases h)]
      exact (create_ret W h1 R M hm1 ok _ _ _ _ _ _ v v2 _ h3 hl q2).retO
    | 1,_=>
      rw [show rowAt R.km 1=[.int .i64 2,.bool false,.fn (.func 35) [.ptr (some (.new R.km 0))] []] from rfl] at hrow
      simp at hrow; obtain ⟨rfl,rfl⟩:=hrow
      refine ⟨fun h=>(by cases h),fun _=>⟨by simp [fn35],fun h1 v v2 hm1 h3 h4=> ?_⟩⟩
      rw [hdo false rfl (fun h=>by cases h)]
      exact (create_ret W h1 R M hm1 ok _ _ _ _ _ _ v v2 _ h3 hl q2).retO
    | 2,_=>
      rw [show rowAt R.km 2=[.int .i64 3,.bool false,.fn (.func 36) [.ptr (some (.new R.km 0))] []] from rfl] at hrow
      simp at hrow; obtain ⟨rfl,rfl⟩:=hrow
      refine ⟨fun h=>(by cases h),fun _=>⟨by simp [fn36],fun h1 v v2 hm1 h3 h4=> ?_⟩⟩
      rw [hdo false rfl (fun h=>by cases h)]
      exact (write_ret W h1 R M hm1 ok _ _ _ _ _ _ v v2 _ h3 hl hfile).retO
    | 3,_=>
      rw [show rowAt R.km 3=[.int .i64 4,.bool false,.fn (.func 37) [.ptr (some (.new R.km 0))] []] from rfl] at hrow
      simp at hrow; obtain ⟨rfl,rfl⟩:=hrow
      refine ⟨fun h=>(by cases h),fun _=>⟨by simp [fn37],fun h1 v v2 hm1 h3 h4=> ?_⟩⟩
      rw [hdo false rfl (fun h=>by cases h)]
      exact (trunc_ret W h1 R M hm1 ok _ _ _ _ _ _ v v2 _ h3 hl hfile).retO
    | 4,_=>
      rw [show rowAt R.km 4=[.int .i64 5,.bool false,.fn (.func 38) [.ptr (some (.new R.km 0))] []] from rfl] at hrow
      simp at hrow; obtain ⟨rfl,rfl⟩:=hrow
      refine ⟨fun h=>(by cases h),fun _=>⟨by simp [fn38],fun h1 v v2 hm1 h3 h4=> ?_⟩⟩
      rw [hdo false rfl (fun h=>by cases h)]
      exact read_ret W h1 R M hm1 ok _ _ _ _ _ _ v v2 _ h3 hl ha ha' q3
    | 5,_=>
      rw [show rowAt R.km 5=[.int .i64 6,.bool false,.fn (.func 39) [.ptr (some (.new R.km 0))] []] from rfl] at hrow
      simp at hrow; obtain ⟨rfl,rfl⟩:=hrow
      refine ⟨fun h=>(by cases h),fun _=>⟨by simp [fn39],fun h1 v v2 hm1 h3 h4=> ?_⟩⟩
      rw [hdo false rfl (fun h=>by cases h)]
      exact (stat_ret W h1 R M hm1 ok _ _ _ _ _ _ v v2 _ h3 hl).statO ok
    | 6,_=>
      rw [show rowAt R.km 6=[.int .i64 7,.bool false,.fn (.func 40) [.ptr (some (.new R.km 0))] []] from rfl] at hrow
      simp at hrow; obtain ⟨rfl,rfl⟩:=hrow
      refine ⟨fun h=>(by cases h),fun _=>⟨by simp [fn40],fun h1 v v2 hm1 h3 h4=> ?_⟩⟩
      rw [hdo false rfl (fun h=>by cases h)]
      exact list_ret W h1 R M hm1 ok _ _ _ _ _ _ v v2 _ h3 hl
    | 7,_=>
      rw [show rowAt R.km 7=[.int .i64 8,.bool true,.fn (.func 41) [.ptr (some (.new R.km 0))] []] from rfl] at hrow
      simp at hrow; obtain ⟨rfl,rfl⟩:=hrow
      refine ⟨fun _ h2=>by rw [hbad rfl h2]; exact ⟨rfl,rfl⟩,fun h2=>⟨by simp [fn41],fun h1 v v2 hm1 h3 h4=> ?_⟩⟩
      rw [hdo true rfl h2]
      exact (link_ret W h1 R M hm1 ok _ _ _ _ _ _ v v2 _ _ h3 hl (by simpa using h4) hl2 q1 q2).retO
    | 8,_=>
      rw [show rowAt R.km 8=[.int .i64 9,.bool false,.fn (.func 42) [.ptr (some (.new R.km 0))] []] from rfl] at hrow
      simp at hrow; obtain ⟨rfl,rfl⟩:=hrow
      refine ⟨fun h=>(by cases h),fun _=>⟨by simp [fn42],fun h1 v v2 hm1 h3 h4=> ?_⟩⟩
      rw [hdo false rfl (fun h=>by cases h)]
      exact (unlink_ret W h1 R M hm1 ok _ _ _ _ _ _ v v2 _ h3 hl q1).retO
    | 9,_=>
      rw [show rowAt R.km 9=[.int .i64 10,.bool false,.fn (.func 43) [.ptr (some (.new R.km 0))] []] from rfl] at hrow
      simp at hrow; obtain ⟨rfl,rfl⟩:=hrow
      refine ⟨fun h=>(by cases h),fun _=>⟨by simp [fn43],fun h1 v v2 hm1 h3 h4=> ?_⟩⟩
      rw [hdo false rfl (fun h=>by cases h)]
      exact (rmdir_ret W h1 R M hm1 ok _ _ _ _ _ _ v v2 _ h3 hl).retO
    | 10,_=>
      rw [show rowAt R.km 10=[.int .i64 11,.bool true,.fn (.func 44) [.ptr (some (.new R.km 0))] []] from rfl] at hrow
      simp at hrow; obtain ⟨rfl,rfl⟩:=hrow
      refine ⟨fun _ h2=>by rw [hbad rfl h2]; exact ⟨rfl,rfl⟩,fun h2=>⟨by simp [fn44],fun h1 v v2 hm1 h3 h4=> ?_⟩⟩
      rw [hdo true rfl h2]
      exact (rename_ret W h1 R M hm1 ok _ _ _ _ _ _ hp ht v v2 _ _ h3 hl (by simpa using h4) hl2 q2).retO
    | n + 11,h=>omega
theorem Inv.fine {M:MS} {t:Nat} {w:Nat→Int} (h:Inv M t w) (hw:∀i,i<M.nodes.length→w i=wantM M i):Fine M t:=h.congr hw
theorem create_fine {M:MS} {t:Nat} (h:Fine M t) (ht:t<1000000) (kd:Int) {l:List (List UInt8)} (hl:∀x∈l,x≠[]):Fine (createR M kd l).2 (t + 1):=by
  have ok:=h.ok ht
  unfold createR
  by_cases he:(parentR M l).2=0
  · obtain ⟨hl0,p,ndp,hp1,hndp,hkp,hplace,_⟩:=parentR_ok ok he
    have hne:=last_ne hl0 hl
    simp only [if_pos he,hp1,Int.toNat_natCast]
    by_cases hf:freeR M<0
    · simp only [if_pos hf]; exact h.mono (by omega)
    · simp only [if_neg hf]
      obtain ⟨i,hi,hil,hx⟩:=fstI_lt hf
      have hfr:freeR M=(i:Int):=hi
      have hnd:M.nodes[i]? =some M.nodes[i]:=by simp [hil]
      simp only [hnd,beq_iff_eq] at hx
      have hi0:i≠0:=fun e=>by
        subst e; obtain ⟨r,hr,hrk⟩:=h.root; rw [hnd] at hr; cases hr; omega
      have hip:p≠i:=fun e=>by subst e; rw [hnd] at hndp; cases hndp; omega
      have hput:=h.put (a:=i) hndp hkp hplace hne hil
      rw [hfr,Int.toNat_natCast]
      have hwp:=wantM_put (M:=M) (d:=p) (nm:=l.getLast?.getD []) (a:=(i:Int))
      have hlen:=putR_len (M:=M) (i:=p) (nm:=l.getLast?.getD []) (a:=(i:Int))
      have hfalse:=putR_false (M:=M) (d:=p) (nm:=l.getLast?.getD []) (a:=(i:Int))
      have hlinks:=fun x=>putR_links (M:=M) (d:=p) (i:=i) (nm:=l.getLast?.getD []) (a:=(i:Int)) (x:=x)
      cases hpr:putR M p (l.getLast?.getD []) (i:Int) with
      | mk b M1=>
        rw [hpr] at hput hwp hlen hfalse hlinks
        cases b with
        | false=>
          simp only
          have:=hfalse rfl
          simp only at this
          rw [this]; exact h.mono (by omega)
        | true=>
          have hinv:=hput rfl
          simp only at hinv hwp hlen hlinks ⊢
          have hil1:i<M1.nodes.length:=by rw [hlen]; exact hil
          have hnd1:M1.nodes[i]? =some M1.nodes[i]:=by simp [hil1]
          obtain ⟨y,hy,_,hyk,_⟩:=hlinks _ hnd1
          rw [hnd] at hy; cases hy
          have hfree:=(hinv.at hnd1).free (by rw [←hyk]; exact hx)
          have hset:∀nd',nd'.slots=[]→NdOk M1.nodes.length (t + 1) nd'→want i nd'=1→Fine (M1.set i nd') (t + 1):=fun nd' h1 h2 h3=>by
            refine (hinv.set hnd1 h2 (fun q=>by rw [h1,hfree]; rfl) (fun e=>absurd e hi0)).fine fun q hq=> ?_
            rw [wantM_set hil1,hwp]
            by_cases e:q=i
            · subst e
              rw [if_pos rfl,if_pos rfl,h3]
              simp only [wantM,hnd,want,hx]
              simp
            · rw [if_neg e,if_neg e]; omega
          split
          · exact hset _ rfl ndOk_newDir (by simp [want,newDir,hi0])
          · exact hset _ rfl ndOk_newFile (by simp [want,newFile])
  · simp only [if_neg he]; exact h.mono (by omega)
theorem set_set' {M:MS} {i:Nat} {a b:Nd}:(M.set i a).set i b=M.set i b:=by simp only [MS.set,List.set_set]
theorem unlink_fine {M:MS} {t:Nat} (h:Fine M t) (ht:t<1000000) {l:List (List UInt8)} (hl:∀x∈l,x≠[]):Fine (unlinkR M l).2 (t + 1):=by
  by_cases he:(fileR M l).2=0
  · obtain ⟨hl0,i,nd,d,ndd,j,x,hfi,hfd,hnd,hk,hd,hndd,hkd,hj,hxj,hxi,hxn,hxne⟩:=h.file ht hl he
    have hil:=(List.getElem?_eq_some_iff.1 hnd).1
    have hdi:d≠i:=fun e=>by subst e; rw [hnd] at hndd; cases hndd; omega
    have htk:=h.take hndd hkd hxj hxne hxi
    have hx4:(takeR M d j).nodes[i]? =some nd:=by
      simp only [takeR,hndd,MS.set]
      rw [List.getElem?_set_ne hdi]; exact hnd
    have hil4:i<(takeR M d j).nodes.length:=by rw [takeR_len]; exact hil
    have hi0:i≠0:=fun e=>by
      subst e; obtain ⟨r,hr,hrk⟩:=h.root; rw [hnd] at hr; cases hr; omega
    obtain ⟨b,f1,f2,f3,f4,f5,f6,f7,f8⟩:=(h.at hnd).file hk
    have hun:unlinkR M l=if nd.links - 1=0 then ((0:Int),((takeR M d j).set i {nd with links:=nd.links - 1}).set i noNode) else ((0:Int),(takeR M d j).set i {nd with links:=nd.links - 1}):=by
      simp only [unlinkR,hd,Int.toNat_natCast,hndd,hj,hfi,hx4,if_true]
    rw [hun]
    by_cases hz:nd.links - 1=0
    · rw [if_pos hz,set_set']
      refine ((htk.set hx4 (nd':=noNode) ndOk_free (fun q=>by rw [f3]; rfl) (fun e=>absurd e hi0)).fine fun q hq=> ?_).mono (by omega)
      rw [wantM_set hil4,wantM_take]
      by_cases e:q=i
      · subst e; rw [if_pos rfl,if_pos rfl]
        simp only [wantM,hnd,want,hk]
        simp [noNode]; omega
      · rw [if_neg e,if_neg e]; omega
    · rw [if_neg hz]
      refine ((htk.set hx4 (nd':={nd with links:=nd.links - 1}) ⟨.inr (.inl hk),fun e=>(by simp only [hk] at e; exact absurd e (by decide)),fun _=>⟨b,f1,f2,f3,by simp only; omega,by simp only; omega,f6,f7,f8⟩,fun e=>(by simp only [hk] at e; exact absurd e (by decide))⟩ (fun q=>rfl) (fun e=>absurd e hi0)).fine fun q hq=> ?_).mono (by omega)
      rw [wantM_set hil4,wantM_take]
      by_cases e:q=i
      · subst e; rw [if_pos rfl,if_pos rfl]
        simp only [wantM,hnd,want,hk]
        simp
      · rw [if_neg e,if_neg e]; omega
  · have hun:unlinkR M l=((fileR M l).2,M):=by simp only [unlinkR,if_neg he]
    rw [hun]; exact h.mono (by omega)
theorem nmsR_nil {l:List Slt} (h:¬0<(nmsR l).length):∀x∈l,x.nm=[]:=by
  intro x hx
  by_cases e:x.nm=[]
  · exact e
  · have:x.nm∈nmsR l:=List.mem_filterMap.2 ⟨x,hx,by simp [e]⟩
    have:=List.length_pos_of_mem this
    exact absurd this h
theorem Fine.last {M:MS} {t:Nat} (h:Fine M t) (ht:t<1000000) {l:List (List UInt8)} (hl:∀x∈l,x≠[]) (hl0:l≠[]) (he:(findR M l 0).2=0):
    ∃i nd d ndd j x,findR M l 0=(((i:Nat):Int),0)∧M.nodes[i]? =some nd∧i≠0∧(nd.kind=1∨nd.kind=2)∧findR M l.dropLast 0=(((d:Nat):Int),0)∧M.nodes[d]? =some ndd∧ndd.kind=2∧placeR ndd.slots (l.getLast?.getD [])=((j:Nat):Int)∧ndd.slots[j]? =some x∧x.ino=(i:Int)∧x.nm=l.getLast?.getD []∧x.nm≠[]:=by
  have ok:=h.ok ht
  obtain ⟨b0,b1⟩:=findR_lt ok l 0 (by omega) (by have:=ok.some; omega)
  obtain ⟨i,hi⟩:=Int.eq_ofNat_of_zero_le b0
  have hil:i<M.nodes.length:=by omega
  have hnd:M.nodes[i]? =some M.nodes[i]:=by simp [hil]
  have hfd:findR M l 0=((i:Int),0):=Prod.ext hi he
  obtain ⟨d,ndd,j,x,hd,hndd,hkdd,hj,hxj,hxi,hxn⟩:=findR_last ok hl0 hfd
  have hxne:x.nm≠[]:=by rw [hxn]; exact last_ne hl0 hl
  have h1:=h.ref i hil
  have h2:=refsL_ge i hndd
  have h3:=cnt_pos (i:=i) hxj (by simp [live,hxne,hxi])
  simp only [wantM,hnd,want] at h1
  refine ⟨i,M.nodes[i],d,ndd,j,x,hfd,hnd,?_,?_,hd,hndd,hkdd,hj,hxj,hxi,hxn,hxne⟩
  · rintro rfl
    obtain ⟨r,hr,hrk⟩:=h.root
    rw [hnd] at hr; cases hr
    rw [hrk] at h1
    simp at h1
    omega
  · rcases (h.at hnd).kind with k | k | k
    · rw [k] at h1; simp at h1; omega
    · exact .inl k
    · exact .inr k
theorem rmdir_fine {M:MS} {t:Nat} (h:Fine M t) (ht:t<1000000) {l:List (List UInt8)} (hl:∀x∈l,x≠[]):Fine (rmdirR M l).2 (t + 1):=by
  by_cases hl0:l=[]
  · have e:rmdirR M l=(309,M):=by simp only [rmdirR,if_pos hl0]
    rw [e]; exact h.mono (by omega)
  by_cases he:(findR M l 0).2=0
  · obtain ⟨i,nd,d,ndd,j,x,hfd,hnd,hi0,hk,hd,hndd,hkd,hj,hxj,hxi,hxn,hxne⟩:=h.last ht hl hl0 he
    have hil:=(List.getElem?_eq_some_iff.1 hnd).1
    have e:rmdirR M l=if nd.kind=2 then (if 0<(nmsR nd.slots).length then ((305:Int),M) else ((0:Int),(takeR M d j).set i noNode)) else ((303:Int),M):=by
      simp only [rmdirR,if_neg hl0,if_pos he,hfd,hd,Int.toNat_natCast,hnd,hndd,hj,if_true]
    rw [e]
    by_cases hk2:nd.kind=2
    · rw [if_pos hk2]
      by_cases hn:0<(nmsR nd.slots).length
      · rw [if_pos hn]; exact h.mono (by omega)
      · rw [if_neg hn]
        have hemp:=nmsR_nil hn
        have hdi:d≠i:=fun e=>by
          subst e; rw [hnd] at hndd; cases hndd
          exact hxne (hemp x (List.mem_of_getElem? hxj))
        have htk:=h.take hndd hkd hxj hxne hxi
        have hx4:(takeR M d j).nodes[i]? =some nd:=by
          simp only [takeR,hndd,MS.set]
          rw [List.getElem?_set_ne hdi]; exact hnd
        have hil4:i<(takeR M d j).nodes.length:=by rw [takeR_len]; exact hil
        refine ((htk.set hx4 (nd':=noNode) ndOk_free (fun q=>by rw [cnt_zero hemp]; rfl) (fun e=>absurd e hi0)).fine fun q hq=> ?_).mono (by omega)
        rw [wantM_set hil4,wantM_take]
        by_cases e:q=i
        · subst e; rw [if_pos rfl,if_pos rfl]
          simp only [wantM,hnd,want,hk2]
          simp [noNode,hi0]
        · rw [if_neg e,if_neg e]; omega
    · rw [if_neg hk2]; exact h.mono (by omega)
  · have e:rmdirR M l=((findR M l 0).2,M):=by simp only [rmdirR,if_neg hl0,if_neg he]
    rw [e]; exact h.mono (by omega)
theorem link_fine {M:MS} {t:Nat} (h:Fine M t) (ht:t<1000000) {l l2:List (List UInt8)} (hl:∀x∈l,x≠[]) (hl2:∀x∈l2,x≠[]):Fine (linkR M l l2).2 (t + 1):=by
  have ok:=h.ok ht
  by_cases he:(fileR M l).2=0
  · obtain ⟨hl0,i,nd,d,ndd,j,x,hfi,hfd,hnd,hk,hd,hndd,hkd,hj,hxj,hxi,hxn,hxne⟩:=h.file ht hl he
    have hil:=(List.getElem?_eq_some_iff.1 hnd).1
    have e:linkR M l l2=if nd.links=100 then ((310:Int),M)
      else if (parentR M l2).2=0 then
        if (putR M (parentR M l2).1.toNat (l2.getLast?.getD []) i).1=true then
          match (putR M (parentR M l2).1.toNat (l2.getLast?.getD []) i).2.nodes[i]? with
          | none=>(0,M)
          | some x=>(0,(putR M (parentR M l2).1.toNat (l2.getLast?.getD []) i).2.set i {x with links:=x.links + 1})
        else (306,(putR M (parentR M l2).1.toNat (l2.getLast?.getD []) i).2)
      else ((parentR M l2).2,M):=by
      simp only [linkR,if_pos he,hfi,Int.toNat_natCast,hnd,if_true]
      rfl
    rw [e]
    by_cases h100:nd.links=100
    · rw [if_pos h100]; exact h.mono (by omega)
    · rw [if_neg h100]
      by_cases hp:(parentR M l2).2=0
      · obtain ⟨hl20,p,ndp,hp1,hndp,hkp,hplace,_⟩:=parentR_ok ok hp
        have hne:=last_ne hl20 hl2
        rw [if_pos hp,hp1,Int.toNat_natCast]
        have hpi:p≠i:=fun e=>by subst e; rw [hnd] at hndp; cases hndp; omega
        have hput:=h.put (a:=i) hndp hkp hplace hne hil
        have hwp:=wantM_put (M:=M) (d:=p) (nm:=l2.getLast?.getD []) (a:=(i:Int))
        have hlen:=putR_len (M:=M) (i:=p) (nm:=l2.getLast?.getD []) (a:=(i:Int))
        have hfalse:=putR_false (M:=M) (d:=p) (nm:=l2.getLast?.getD []) (a:=(i:Int))
        have hlinks:=fun x=>putR_links (M:=M) (d:=p) (i:=i) (nm:=l2.getLast?.getD []) (a:=(i:Int)) (x:=x)
        by_cases hpr:(putR M p (l2.getLast?.getD []) (i:Int)).1=true
        · rw [if_pos hpr]
          have hinv:=hput hpr
          generalize (putR M p (l2.getLast?.getD []) (i:Int)).2=M1 at hinv hwp hlen hlinks
          have hil1:i<M1.nodes.length:=by rw [hlen]; exact hil
          have hnd1:M1.nodes[i]? =some M1.nodes[i]:=by simp [hil1]
          obtain ⟨y,hy,hyl,hyk,hyb⟩:=hlinks _ hnd1
          rw [hnd] at hy; cases hy
          rw [hnd1]
          have hk1:M1.nodes[i].kind=1:=by rw [←hyk]; exact hk
          obtain ⟨b,f1,f2,f3,f4,f5,f6,f7,f8⟩:=(hinv.at hnd1).file hk1
          have hi0:i≠0:=fun e=>by
            subst e; obtain ⟨r,hr,hrk⟩:=h.root; rw [hnd] at hr; cases hr; omega
          simp only
          refine (hinv.set hnd1 (nd':={M1.nodes[i] with links:=M1.nodes[i].links + 1}) ⟨.inr (.inl hk1),fun e=>(by simp only [hk1] at e; exact absurd e (by decide)),fun _=>⟨b,f1,f2,f3,by simp only; omega,by simp only; omega,f6,f7,f8⟩,fun e=>(by simp only [hk1] at e; exact absurd e (by decide))⟩ (fun q=>rfl) (fun e=>absurd e hi0)).fine fun q hq=> ?_
          rw [wantM_set hil1,hwp]
          by_cases e:q=i
          · subst e; rw [if_pos rfl,if_pos rfl]
            simp only [wantM,hnd,want,hk,hk1,if_true]
            omega
          · rw [if_neg e,if_neg e]; omega
        · rw [if_neg hpr,hfalse (by simpa using hpr)]
          exact h.mono (by omega)
      · rw [if_neg hp]; exact h.mono (by omega)
  · have e:linkR M l l2=((fileR M l).2,M):=by simp only [linkR,if_neg he]
    rw [e]; exact h.mono (by omega)
theorem rename_fine {M:MS} {t:Nat} (h:Fine M t) (ht:t<1000000) (p tt:List UInt8) {l l2:List (List UInt8)} (hl:∀x∈l,x≠[]) (hl2:∀x∈l2,x≠[]):Fine (renameR M p tt l l2).2 (t + 1):=by
  have ok:=h.ok ht
  by_cases hl0:l=[]
  · have e:renameR M p tt l l2=(309,M):=by simp only [renameR,if_pos hl0]
    rw [e]; exact h.mono (by omega)
  by_cases he:(findR M l 0).2=0
  · obtain ⟨i,nd,d,ndd,j,x,hfd,hnd,hi0,hk,hd,hndd,hkd,hj,hxj,hxi,hxn,hxne⟩:=h.last ht hl hl0 he
    have hil:=(List.getElem?_eq_some_iff.1 hnd).1
    have e:renameR M p tt l l2=if (belowR tt p).1=true∧nd.kind=2 then ((309:Int),M)
        else if (parentR M l2).2=0 then
            if (putR (takeR M d j) (parentR M l2).1.toNat (l2.getLast?.getD []) i).1=true then
              ((0:Int),(putR (takeR M d j) (parentR M l2).1.toNat (l2.getLast?.getD []) i).2)
            else ((306:Int),M)
        else ((parentR M l2).2,M):=by
      simp only [renameR,if_neg hl0,hfd,hd,Int.toNat_natCast,hnd,hndd,hj,if_true]
    rw [e]
    by_cases hb:(belowR tt p).1=true∧nd.kind=2
    · rw [if_pos hb]; exact h.mono (by omega)
    · rw [if_neg hb]
      by_cases hp:(parentR M l2).2=0
      · obtain ⟨hl20,q,ndp,hp1,hndp,hkp,hplace,_⟩:=parentR_ok ok hp
        have hne:=last_ne hl20 hl2
        rw [if_pos hp,hp1,Int.toNat_natCast]
        have htk:=h.take hndd hkd hxj hxne hxi
        have hil4:i<(takeR M d j).nodes.length:=by rw [takeR_len]; exact hil
        have hql:q<(takeR M d j).nodes.length:=by rw [takeR_len]; exact (List.getElem?_eq_some_iff.1 hndp).1
        obtain ⟨ndp4,hndp4,hkp4,hpl4⟩:∃ndp4,(takeR M d j).nodes[q]? =some ndp4∧ndp4.kind=2∧placeR ndp4.slots (l2.getLast?.getD [])<0:=by
          simp only [takeR,hndd,MS.set]
          by_cases e:d=q
          · subst e
            rw [hndd] at hndp; cases hndp
            refine ⟨{ndd with slots:=ndd.slots.set j ⟨[],0⟩},by rw [List.getElem?_set,if_pos rfl,if_pos (List.getElem?_eq_some_iff.1 hndd).1],hkp,placeR_neg.2 fun s hs=> ?_⟩
            rcases List.mem_or_eq_of_mem_set hs with h1 | rfl
            · exact placeR_neg.1 hplace s h1
            · exact fun e=>hne e.symm
          · exact ⟨ndp,by rw [List.getElem?_set_ne e]; exact hndp,hkp,hplace⟩
        have hput:=htk.put (a:=i) hndp4 hkp4 hpl4 hne hil4
        by_cases hpr:(putR (takeR M d j) q (l2.getLast?.getD []) (i:Int)).1=true
        · rw [if_pos hpr]
          refine (hput hpr).fine fun u hu=> ?_
          rw [wantM_put,wantM_take]
          by_cases e:u=i
          · simp only [if_pos e]; omega
          · simp only [if_neg e]; omega
        · rw [if_neg hpr]; exact h.mono (by omega)
      · rw [if_neg hp]; exact h.mono (by omega)
  · have e:renameR M p tt l l2=((findR M l 0).2,M):=by simp only [renameR,if_neg hl0,if_neg he]
    rw [e]; exact h.mono (by omega)
theorem Fine.setFile {M:MS} {t:Nat} (h:Fine M t) {i:Nat} {nd:Nd} (hnd:M.nodes[i]? =some nd) (hk:nd.kind=1) {b:Blk} {n:Int} (hb:BOk b) (h0:0≤n) (h1:n≤533248) (hz:∀p:Nat,n≤p→byteAt (some b) p=0):Fine (M.set i {nd with size:=n,blocks:=some b}) (t + 1):=by
  have hil:=(List.getElem?_eq_some_iff.1 hnd).1
  obtain ⟨b0,f1,f2,f3,f4,f5,f6,f7,f8⟩:=(h.at hnd).file hk
  have hi0:i≠0:=fun e=>by
    subst e; obtain ⟨r,hr,hrk⟩:=h.root; rw [hnd] at hr; cases hr; omega
  refine ((Inv.set h hnd (nd':={nd with size:=n,blocks:=some b}) ⟨.inr (.inl hk),fun e=>(by simp only [hk] at e; exact absurd e (by decide)),fun _=>⟨b,rfl,hb,f3,f4,f5,h0,h1,hz⟩,fun e=>(by simp only [hk] at e; exact absurd e (by decide))⟩ (fun q=>rfl) (fun e=>absurd e hi0)).fine fun q hq=> ?_).mono (by omega)
  exact (congrFun (wantM_same (nd':={nd with size:=n,blocks:=some b}) hnd rfl rfl) q).symm
theorem write_fine {M:MS} {t:Nat} (h:Fine M t) (ht:t<1000000) (a:Int) (dt:List UInt8) {l:List (List UInt8)} (hl:∀x∈l,x≠[]):Fine (writeR M a dt l).2 (t + 1):=by
  by_cases h1:a<0∨1024<dt.length
  · have e:writeR M a dt l=(309,M):=by simp only [writeR,if_pos h1]
    rw [e]; exact h.mono (by omega)
  by_cases he:(fileR M l).2=0
  · obtain ⟨hl0,i,nd,d,ndd,j,x,hfi,hfd,hnd,hk,_⟩:=h.file ht hl he
    obtain ⟨b,f1,f2,f3,f4,f5,f6,f7,f8⟩:=(h.at hnd).file hk
    have e:writeR M a dt l=if dt=[] then ((0:Int),M) else if 533248 - (dt.length:Int)<a then ((307:Int),M) else
        if M.data<usedR (M.set i {nd with blocks:=some (wrB a.toNat dt b)}) then ((306:Int),M)
        else ((0:Int),M.set i {nd with size:=max nd.size (a + dt.length),blocks:=some (wrB a.toNat dt b)}):=by
      simp only [writeR,if_neg h1,hfi,Int.toNat_natCast,hnd,f1,Option.map_some,if_true]
    rw [e]
    split
    · exact h.mono (by omega)
    · split
      · exact h.mono (by omega)
      · split
        · exact h.mono (by omega)
        · rename_i g1 g2 g3
          obtain ⟨A,rfl⟩:=Int.eq_ofNat_of_zero_le (show 0≤a by omega)
          obtain ⟨w1,w2⟩:=wrB_byte (a:=A) (d:=dt) f2 (by omega) (by omega)
          rw [Int.toNat_natCast]
          refine h.setFile hnd hk w1 (by omega) (by omega) fun p hp=> ?_
          rw [w2,if_neg (by omega)]
          exact f8 p (by omega)
  · have e:writeR M a dt l=((fileR M l).2,M):=by simp only [writeR,if_neg h1,if_neg he]
    rw [e]; exact h.mono (by omega)
theorem trunc_fine {M:MS} {t:Nat} (h:Fine M t) (ht:t<1000000) (n:Int) {l:List (List UInt8)} (hl:∀x∈l,x≠[]):Fine (truncR M n l).2 (t + 1):=by
  by_cases h1:n<0
  · have e:truncR M n l=(309,M):=by simp only [truncR,if_pos h1]
    rw [e]; exact h.mono (by omega)
  by_cases h2:533248<n
  · have e:truncR M n l=(307,M):=by simp only [truncR,if_neg h1,if_pos h2]
    rw [e]; exact h.mono (by omega)
  by_cases he:(fileR M l).2=0
  · obtain ⟨hl0,i,nd,d,ndd,j,x,hfi,hfd,hnd,hk,_⟩:=h.file ht hl he
    obtain ⟨b,f1,f2,f3,f4,f5,f6,f7,f8⟩:=(h.at hnd).file hk
    have e:truncR M n l=((0:Int),M.set i {nd with size:=n,blocks:=some (trB n b)}):=by
      simp only [truncR,if_neg h1,if_neg h2,hfi,Int.toNat_natCast,hnd,f1,Option.map_some,if_true]
    rw [e]
    obtain ⟨N,rfl⟩:=Int.eq_ofNat_of_zero_le (show 0≤n by omega)
    refine h.setFile hnd hk (trB_ok f2) (by omega) (by omega) fun p hp=> ?_
    rw [trB_byte f2,if_neg (by omega)]
  · have e:truncR M n l=((fileR M l).2,M):=by simp only [truncR,if_neg h1,if_neg h2,if_neg he]
    rw [e]; exact h.mono (by omega)
theorem do_fine {M:MS} {t:Nat} (h:Fine M t) (ht:t<1000000) (o:Opn):Fine (doR M o).2 (t + 1):=by
  have hm:Fine M (t + 1):=h.mono (by omega)
  by_cases h1:rowR o.kd<0
  · have e:doR M o=(Res.err 309,M):=by simp only [doR,if_pos h1]
    rw [e]; exact hm
  by_cases h2:(splitR o.p).2≠0
  · have e:doR M o=(Res.err (splitR o.p).2,M):=by simp only [doR,if_neg h1]; rw [if_pos h2]
    rw [e]; exact hm
  by_cases h3:toR (rowR o.kd).toNat=true∧(splitR o.t).2≠0
  · have e:doR M o=(Res.err (splitR o.t).2,M):=by simp only [doR,if_neg h1]; rw [if_neg h2,if_pos h3]
    rw [e]; exact hm
  have e:doR M o=opR (rowR o.kd).toNat M o (splitR o.p).1 (splitR o.t).1:=by simp only [doR,if_neg h1]; rw [if_neg h2,if_neg h3]
  have hs:(splitR o.p).2=0:=by simpa using h2
  have hl:=splitR_ne hs
  have hl2:∀x∈(splitR o.t).1,x≠[]:=by
    by_cases ht:(splitR o.t).2=0
    · exact splitR_ne ht
    · rw [splitR_nil ht]; intro x hx; cases hx
  rw [e]
  match (rowR o.kd).toNat with
  | 0=>exact create_fine h ht _ hl
  | 1=>exact create_fine h ht _ hl
  | 2=>exact write_fine h ht _ _ hl
  | 3=>exact trunc_fine h ht _ hl
  | 4=>exact hm
  | 5=>exact hm
  | 6=>exact hm
  | 7=>exact link_fine h ht hl hl2
  | 8=>exact unlink_fine h ht hl
  | 9=>exact rmdir_fine h ht hl
  | n + 10=>exact rename_fine h ht _ _ hl hl2
theorem new_fine {n:Nat} {c:Int} (h0:0<n) (h1:n≤64):Fine (newM n c) 0:=by
  have hlen:(newM n c).nodes.length=n:=by simp [newM]; omega
  have hz:∀m q,refsL (List.replicate m noNode) q=0:=fun m q=>by
    induction m with
    | zero=>rfl
    | succ m ih=>simp only [List.replicate_succ,refsL,ih]; rfl
  refine ⟨⟨rootNd,rfl,rfl⟩,by omega,fun nd hnd=> ?_,fun i hi=> ?_⟩
  · simp only [newM,List.mem_cons,List.mem_replicate] at hnd
    rcases hnd with rfl | ⟨_,rfl⟩
    · exact ndOk_newDir
    · exact ndOk_free
  · have:refsL (newM n c).nodes i=0:=by
      simp only [newM,refsL,hz]; rfl
    rw [this]
    have hget:∃nd,(newM n c).nodes[i]? =some nd:=⟨_,List.getElem?_eq_getElem (by omega)⟩
    obtain ⟨nd,hnd⟩:=hget
    simp only [wantM,hnd]
    rcases newM_at hnd with ⟨rfl,rfl⟩ | ⟨hi0,rfl⟩
    · rfl
    · rfl
def Opn.cells (o:Opn):List AV:=[.int .i64 o.kd,.int .i64 o.at_,.int .i64 o.n,.str o.p,.str o.t,.str o.d]
structure OpnOk (o:Opn):Prop where
  p:o.p.length<8796093022207
  t:o.t.length<8796093022207
  a:o.at_<9223372036854775808
  a': -9223372036854775808≤o.at_
def OpsS (W:World) (v:AV) (l:List Opn):Prop:=
  ∃a c,v= .sl a l.length c none∧∀(i:Nat) o,l[i]? =some o→OpnOk o∧∃a',aIndexAddr (CC W) 24 (.sl a l.length c none) (.int .i64 i)=some (.ptr (some a'))∧∀h,aLoad (CC W) h 35 a'=some (.agg o.cells)
section
variable {W:World} {h:AH} {k:Nat}
theorem alloc_op:aAlloc (CC W) h 35=some (.ptr (some (.new h.next 0)),h.push (.cells [.int .i64 0,.int .i64 0,.int .i64 0,.str [],.str [],.str []] 35)):=rfl
theorem st_op {a b c d e f:AV} {o:Opn} (hg:h.get k=some (.cells [a,b,c,d,e,f] 35)):
    aStoreOp (CC W) h 35 (.ptr (some (.new k 0))) (.agg [.int .i64 o.kd,.int .i64 o.at_,.int .i64 o.n,.str o.p,.str o.t,.str o.d])=some (h.set k (.cells o.cells 35)):=by
  simp only [aStoreOp,aCellsOf,size35,aStore,hg]
  rfl
end
theorem closed_ret {f:FuncId} (hk:∀W,callKr (CC W) (knownM W) 1000000 f [] AH.empty isT=true) (W:World) (h:AH):RetH (CC W) f [] h (.bool true):=by
  refine ret_of_calls fun ρ W1 vs R hv=> ?_
  have hvs:vs= #[]:=by
    simp only [VsRel] at hv
    exact Array.toList_inj.1 (by simpa using hv)
  subst hvs
  have:=calls_of_acallE (C:=CC W1) (P:=(CC W).P) (W:=W1) (args:=[]) (vs:= #[]) rfl rfl (by simp [VsRel]) ((callKr_sound (cc_ok W1) (knownM_ok W1) (hk W1)).mono (fun _ _ hv=>isT_eq hv) fun _ _ h=>h)
  exact this.mono fun e W' ⟨he,hb⟩=>⟨⟨_,he,by simp [VRel]⟩,hb⟩
theorem speaks_ret (W:World) (h:AH):RetH (CC W) 15 [] h (.bool true):=closed_ret speaks_kr W h
section
variable {W:World} {h:AH} {k:Nat}
end
set_option maxHeartbeats 4000000 in
theorem heavy_ret (W:World) (h:AH) (a:Option AA) (n c:Nat) (g:Option Nat):RetH (CC W) 14 [.sl a n c g] h (.bool (decide ((200:Int)<n))):=by
  refine jj9 (cc_ok W) (fn14 W) (by simp only [Tryz.f14]; rfl) rfl rfl ?_
  simp [push_cast,aLen,kind24]
theorem MStep.box {h h':AH} {R R':MR} (hB:MStep h h' R R') {k:Nat} {o:AObj} (hg:h.get k=some o) (hk:k<h.next) (hn:k ∉ R.ids):h'.get k=some o∧k<h'.next∧k ∉ R'.ids:=by
  refine ⟨(hB.off k hk hn).trans hg,Nat.lt_of_lt_of_le hk hB.nx,fun hc=> ?_⟩
  rcases hB.ids k hc with h1 | h1
  · exact hn h1
  · omega
def bxC (r:Res) (nv:AV):AObj:= .cells [.int .i64 r.e,.str r.data,.int .i64 r.kind,.int .i64 r.links,.int .i64 r.size,nv] 39
theorem cell_bx {W:World} {h:AH} {k o:Nat} {r:Res} {nv:AV} (hg:h.get k=some (bxC r nv)):aCell (CC W) h (.new k o)=[AV.int .i64 r.e,.str r.data,.int .i64 r.kind,.int .i64 r.links,.int .i64 r.size,nv][o]? :=by
  simp only [aCell,hg,bxC]
end Go.Proofs.YtbofhlifobjolaaGreatDoor.Ax
end
