/- Who holds what. -/

import Derived.Test.YtglpfccgmfhkdaaSpH
set_option linter.unusedVariables false
namespace Go.Proofs.Ytglpfccgmfhkdaa.Fw
open Go
def isIn (a n : Int) : Bool := decide (0 ≤ a) && decide (a < n)
theorem isIn_iff {a n : Int} : isIn a n = true ↔ 0 ≤ a ∧ a < n := by unfold isIn; simp
theorem isIn_R {a n : Int} : inR a 0 (n - 1) = isIn a n := by unfold isIn inR; rw [Bool.eq_iff_iff]; simp; omega
def yes3 {α β γ : Type} (a : α) (b : β) (c : γ) : Bool := true
structure Fit (p : Plan) (f : Frame) : Prop where
  good : planGood p = true
  fr : FrameIn p f
theorem frameOk_fit {p : Plan} {f : Frame} (h : frameOk p f = true) : Fit p f := by
  obtain ⟨h1, h2, h3, h4, h5⟩ := frameOk_iff.1 h
  refine ⟨(frBase_iff.1 h1).1, frame_in h1 fun i i0 i1 => ?_⟩
  have := h3 i i0 i1
  rw [heldOk_parts, Bool.and_eq_true] at this; exact this.1
theorem Fit.in {p : Plan} {f : Frame} (h : Fit p f) : PlanIn p := planGood_in h.good
def ProvedF (p : Plan) (f : Frame) (i : Int) : Bool := frameOk p f && (isIn i p.ways.length && provedF p f i)
def frameSm3 (p : Plan) (f : Frame) (i : Int) : Prop := smallF f
end Go.Proofs.Ytglpfccgmfhkdaa.Fw
