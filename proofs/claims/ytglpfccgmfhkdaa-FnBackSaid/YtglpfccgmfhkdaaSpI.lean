/- Who holds what. -/

import Derived.Test.YtglpfccgmfhkdaaSpH
set_option linter.unusedVariables false
namespace Go.Proofs.Ytglpfccgmfhkdaa.Fw
open Go
structure Fit (p : Plan) (f : Frame) : Prop where
 good : planGood p = true
 fr : FrameIn p f
theorem Fit.in {p : Plan} {f : Frame} (h : Fit p f) : PlanIn p := planGood_in h.good
def holdsF (p : Plan) (f : Frame) (i s : Int) : Bool := ((nth f.ways i).state != 0) && ((nth p.ways i).sections.drop (nth f.ways i).gone.toNat).contains s
def holdsPre (p : Plan) (f : Frame) (i s : Int) : Prop := Fit p f ∧ 0 ≤ i ∧ i < p.ways.length
theorem secs_nodup {p : Plan} (h : planGood p = true) {w : Way} (hw : w ∈ p.ways) : w.sections.Nodup := (listOk_iff.1 (wayGood_iff.1 ((planGood_parts h).2.2.1 w hw)).2.1).2.2
theorem drop_has {l : List Int} {g : Nat} {s : Int} : (l.drop g).contains s = true ↔ ∃ k, g ≤ k ∧ ∃ h : k < l.length, l[k] = s := by
 rw [List.contains_iff_mem, List.mem_iff_getElem]
 constructor
 ·rintro ⟨i, hi, he⟩
  rw [List.length_drop] at hi
  rw [List.getElem_drop] at he
  exact ⟨g + i, by omega, by omega, he⟩
 ·rintro ⟨k, hg, hk, he⟩
  refine ⟨k - g, by rw [List.length_drop]; omega, ?_⟩
  rw [List.getElem_drop]
  simp only [show g + (k - g) = k by omega]; exact he
theorem has_eq {l : List Int} (hn : l.Nodup) {g s : Int} (h0 : 0 ≤ g) : (decide (idxInt l s ≥ g) && decide (idxInt l s ≥ 0)) = (l.drop g.toNat).contains s := by
 unfold idxInt
 cases h : first l (fun x => s == x) with
 | none =>
  have : (l.drop g.toNat).contains s = false := by
   rw [← Bool.not_eq_true, drop_has]
   rintro ⟨k, _, hk, he⟩
   have := first_none' h _ (List.getElem_mem hk)
   rw [he] at this; simp at this
  rw [this]; simp [optI]
 | some i =>
  unfold first at h
  rw [List.findIdx?_eq_some_iff_getElem] at h
  obtain ⟨hi, hx, _⟩ := h
  have hx : s = l[i] := by simpa using hx
  have hx := hx.symm
  rw [Bool.eq_iff_iff, drop_has]
  show (decide ((i : Int) ≥ g) && decide ((i : Int) ≥ 0)) = true ↔ _
  simp only [Bool.and_eq_true, decide_eq_true_eq]
  constructor
  ·intro h; exact ⟨i, by omega, hi, hx⟩
  ·rintro ⟨k, hg, hk, he⟩
   have : k = i := by
    exact (List.getElem_inj hn).1 (he.trans hx.symm)
   omega
end Go.Proofs.Ytglpfccgmfhkdaa.Fw
