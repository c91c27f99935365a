/- The texts TraceZ, TracePl, TracePo, TraceCk, TraceTd, TraceOp, TraceSp, TraceSq, TraceSr, TraceLo, as one. -/
import Derived.Test.YtbofhlifobjolaaGreatDoorGtb
import Derived.Test.YtbofhlifobjolaaGreatDoorGi
section
set_option linter.unusedVariables false
set_option linter.unusedSimpArgs false
namespace Go.Proofs.YtbofhlifobjolaaGreatDoor.Ax
open Go.RowKit
section
variable {W:World} {h0 h:AH} {m:WM} {P:WP} {sh:Int×Int×Int} {s:See} {wv:AV}
end
theorem flatt_at {n:Nat}:∀(us:List (List AV)),(∀u∈us,u.length=n)→∀(i:Nat) (u:List AV),us[i]? =some u→i * n + n≤us.flatten.length∧(us.flatten.drop (i * n)).take n=u
  | [],_,i,u,h=>by simp at h
  | y::l,hn,0,u,h=>by
    have:y=u:=by simpa using h
    subst this
    have hy:=hn y (by simp)
    rw [List.flatten_cons]
    refine ⟨by rw [List.length_append,hy]; omega,?_⟩
    rw [Nat.zero_mul,List.drop_zero]
    exact List.take_left' hy
  | y::l,hn,i + 1,u,h=>by
    have hy:=hn y (by simp)
    obtain ⟨h1,h2⟩:=flatt_at l (fun z hz=>hn z (by simp [hz])) i u (by simpa using h)
    have e:(i + 1) * n=n + i * n:=by rw [Nat.add_mul]; omega
    rw [List.flatten_cons,e]
    refine ⟨by rw [List.length_append,hy]; omega,?_⟩
    rw [←List.drop_drop,List.drop_left' hy]
    exact h2
theorem hideL {C:Cx} {Q:Post} {b:Code} {ks:List Fr} {e:Env} {h:AH} (w:∀Q' K,Q'=Q→K=ks→LoopK C Q' b K e h):LoopK C Q b ks e h:=w Q ks rfl rfl
end Go.Proofs.YtbofhlifobjolaaGreatDoor.Ax
end
