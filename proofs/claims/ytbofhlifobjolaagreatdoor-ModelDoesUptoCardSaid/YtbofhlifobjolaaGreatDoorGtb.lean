/- The texts TraceH, TraceI, TraceM, TraceN, TraceO, TraceP, TraceQ, TraceR, TraceS, TraceT, TraceU, TraceV, TraceX, TraceY, as one. -/
import Derived.Test.YtbofhlifobjolaaGreatDoorGta
import Derived.Test.YtbofhlifobjolaaGreatDoorGh
section
set_option linter.unusedVariables false
set_option linter.unusedSimpArgs false
namespace Go.Proofs.YtbofhlifobjolaaGreatDoor.Ax
open Go.RowKit
section
variable {α β:Type} [DecidableEq α] {W:World}
end
structure Cal where
  op:Opn
  at_:Nat
  nodes:List Int
  rep:Int
abbrev Key:=Int×Int
structure WP where
  calls:List (Key×Cal)
  before:List Ent
  at_:Nat
structure WM where
  kw:Nat
  kc:Nat
  ko:Option Nat
  cks:List (Nat×Option Nat)
section
variable {W:World} {h0 h:AH} {m:WM} {P:WP} {sh:Int×Int×Int} {s:See} {wv:AV}
end
section
variable {W:World} {h0 h:AH} {m:WM} {P:WP} {sh:Int×Int×Int} {s:See} {wv:AV}
end
theorem set_sameL {α:Type} {l:List α} {i:Nat} {x:α} (h:l[i]? =some x):l.set i x=l:=by
  obtain ⟨hi,rfl⟩:=List.getElem?_eq_some_iff.1 h
  exact List.set_getElem_self hi
section
variable {W:World} {h0 h:AH} {m:WM} {P:WP} {sh:Int×Int×Int} {s:See} {wv:AV}
end
section
variable {W:World} {h0 h:AH} {m:WM} {P:WP} {sh:Int×Int×Int} {s:See} {wv:AV}
end
section
variable {W:World} {h0 h:AH} {m:WM} {P:WP} {sh:Int×Int×Int} {s:See} {wv:AV}
end
end Go.Proofs.YtbofhlifobjolaaGreatDoor.Ax
end
