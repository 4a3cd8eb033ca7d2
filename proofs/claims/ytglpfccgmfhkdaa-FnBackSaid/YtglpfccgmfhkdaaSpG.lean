/- Functions that write a frame that lies in the memory: what they ask, what they leave. -/

import Derived.Test.YtglpfccgmfhkdaaSpF
set_option linter.unusedVariables false
namespace Go.Proofs.Ytglpfccgmfhkdaa.Fw
open Go
theorem FamG.at' {w : List Held} {i : List Nat} {b : List (List Bool)} {j : Int} (F : FamG w i b) (h : j.toNat < w.length) : FamAt (view w i b) i j (nth (view w i b) j) w b := FamAt.start F.ok F.nd h rfl F.len
section
variable {V : List Held} {ids ids' : List Nat} {v : Int} {h x : Held} {ws ws' : List Held} {bs bs' : List (List Bool)}
theorem FamAt.G (F : FamAt V ids v h ws bs) : FamG ws ids bs := ⟨F.ok, F.nd, F.len⟩
theorem FamAt.again (F : FamAt V ids v h ws bs) (G : FamG ws' ids' bs') (e : view ws' ids' bs' = (view ws ids bs).set v.toNat x) : FamAt V ids' v x ws' bs' where
 ok := G.ok
 nd := G.nd
 lt := by
  have := congrArg List.length e
  rw [view_len G.ok, List.length_set, view_len F.ok] at this
  have := F.lt; omega
 vw := by rw [e, F.vw, List.set_set]
 len := G.len
end
end Go.Proofs.Ytglpfccgmfhkdaa.Fw
