/- What an event's check comes to; what a plan's check says of its numbers. -/

import Derived.Test.YtglpfccgmfhkdaaSpC
set_option linter.unusedVariables false
namespace Go.Proofs.Ytglpfccgmfhkdaa.Fw
open Go
theorem orB (x a b : Int) : (bif (x == a) then (x == a) else (x == b)) = decide (x = a ∨ x = b) := by
 by_cases h : x = a
 ·simp [h]
 ·have h1 : (x == a) = false := by simp [h]
  rw [h1, Bool.eq_iff_iff]
  simp [h]
theorem ev12 {p : Plan} {e : Event} (h : e.op = 1 ∨ e.op = 2) : evGood p e = (inR e.tgt 0 (p.ways.length - 1) && decide (e.lie = 0)) := by unfold evGood; rw [if_pos h]
theorem ev34 {p : Plan} {e : Event} (h1 : ¬ (e.op = 1 ∨ e.op = 2)) (h : e.op = 3 ∨ e.op = 4) : evGood p e = (inR e.tgt 0 (p.sections - 1) && decide (e.lie = 0)) := by unfold evGood; rw [if_neg h1, if_pos h]
theorem ev5 {p : Plan} {e : Event} (h : e.op = 5) : evGood p e = (inR e.tgt 0 (p.switches.length - 1) && inR e.lie 0 2) := by unfold evGood; simp [h]
theorem ev6 {p : Plan} {e : Event} (h : e.op = 6) : evGood p e = (inR e.tgt 0 (p.switches.length - 1) && inR e.lie 1 2) := by unfold evGood; simp [h]
theorem ev7 {p : Plan} {e : Event} (h : e.op = 7) : evGood p e = (decide (e.tgt = 0) && decide (e.lie = 0)) := by unfold evGood; simp [h]
theorem evNo {p : Plan} {e : Event} (h1 : ¬ (e.op = 1 ∨ e.op = 2)) (h3 : ¬ (e.op = 3 ∨ e.op = 4)) (h5 : e.op ≠ 5) (h6 : e.op ≠ 6) (h7 : e.op ≠ 7) : evGood p e = false := by unfold evGood; rw [if_neg h1, if_neg h3, if_neg h5, if_neg h6, if_neg h7]
theorem beq_dec (x y : Int) : (x == y) = decide (x = y) := by rw [Bool.eq_iff_iff]; simp
theorem tgt_in (n : Int) (e : Event) : inTgt n e = inR e.tgt 0 (n - 1) := by
 unfold inTgt inR
 rw [Bool.eq_iff_iff]; simp; omega
theorem planOk_both (p : Plan) : ((planOk p).code == 0 && (planOk p).pos == 0) = planGood p := by
 unfold planGood
 rw [Bool.eq_iff_iff]
 simp only [Bool.and_eq_true, beq_iff_eq, decide_eq_true_eq]
 constructor
 ·rintro ⟨h1, h2⟩
  cases hq : planOk p with
  | mk c q => rw [hq] at h1 h2; simp at h1 h2; rw [h1, h2]
 ·intro h; rw [h]; exact ⟨rfl, rfl⟩
theorem planGood_base {p : Plan} (h : planGood p = true) : planBase p = true := by
 cases hb : planBase p with
 | true => rfl
 | false => unfold planGood at h; rw [planOk_1 hb] at h; simp at h
end Go.Proofs.Ytglpfccgmfhkdaa.Fw
