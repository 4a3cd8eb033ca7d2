/- Who holds what. -/

import Derived.Test.YtglpfccgmfhkdaaSpH
set_option linter.unusedVariables false
namespace Go.Proofs.Ytglpfccgmfhkdaa.Fw
open Go
def isIn (a n : Int) : Bool := decide (0 ≤ a) && decide (a < n)
theorem isIn_R {a n : Int} : inR a 0 (n - 1) = isIn a n := by unfold isIn inR; rw [Bool.eq_iff_iff]; simp; omega
def yes3 {α β γ : Type} (a : α) (b : β) (c : γ) : Bool := true
structure Fit (p : Plan) (f : Frame) : Prop where
 good : planGood p = true
 fr : FrameIn p f
theorem frameOk_fit {p : Plan} {f : Frame} (h : frameOk p f = true) : Fit p f := by
 obtain ⟨h1, h2, h3, h4, h5⟩ := frameOk_iff.1 h
 refine ⟨(frBase_iff.1 h1).1, frame_in h1 fun i i0 i1 => ?_⟩
 have := h3 i i0 i1
 rw [heldOk_parts, Bool.and_eq_true] at this; exact this.1
theorem Fit.in {p : Plan} {f : Frame} (h : Fit p f) : PlanIn p := planGood_in h.good
def frameSm3 (p : Plan) (f : Frame) (i : Int) : Prop := smallF f
def holdsF (p : Plan) (f : Frame) (i s : Int) : Bool := ((nth f.ways i).state != 0) && ((nth p.ways i).sections.drop (nth f.ways i).gone.toNat).contains s
def holdsPre (p : Plan) (f : Frame) (i s : Int) : Prop := Fit p f ∧ 0 ≤ i ∧ i < p.ways.length
theorem secs_nodup {p : Plan} (h : planGood p = true) {w : Way} (hw : w ∈ p.ways) : w.sections.Nodup := (listOk_iff.1 (wayGood_iff.1 ((planGood_parts h).2.2.1 w hw)).2.1).2.2
theorem drop_has {l : List Int} {g : Nat} {s : Int} : (l.drop g).contains s = true ↔ ∃ k, g ≤ k ∧ ∃ h : k < l.length, l[k] = s := by
 rw [List.contains_iff_mem, List.mem_iff_getElem]
 constructor
 ·rintro ⟨i, hi, he⟩
  rw [List.length_drop] at hi
  rw [List.getElem_drop] at he
  exact ⟨g + i, by omega, by omega, he⟩
 ·rintro ⟨k, hg, hk, he⟩
  refine ⟨k - g, by rw [List.length_drop]; omega, ?_⟩
  rw [List.getElem_drop]
  simp only [show g + (k - g) = k by omega]; exact he
theorem has_eq {l : List Int} (hn : l.Nodup) {g s : Int} (h0 : 0 ≤ g) : (decide (idxInt l s ≥ g) && decide (idxInt l s ≥ 0)) = (l.drop g.toNat).contains s := by
 unfold idxInt
 cases h : first l (fun x => s == x) with
 | none =>
  have : (l.drop g.toNat).contains s = false := by
   rw [← Bool.not_eq_true, drop_has]
   rintro ⟨k, _, hk, he⟩
   have := first_none' h _ (List.getElem_mem hk)
   rw [he] at this; simp at this
  rw [this]; simp [optI]
 | some i =>
  unfold first at h
  rw [List.findIdx?_eq_some_iff_getElem] at h
  obtain ⟨hi, hx, _⟩ := h
  have hx : s = l[i] := by simpa using hx
  have hx := hx.symm
  rw [Bool.eq_iff_iff, drop_has]
  show (decide ((i : Int) ≥ g) && decide ((i : Int) ≥ 0)) = true ↔ _
  simp only [Bool.and_eq_true, decide_eq_true_eq]
  constructor
  ·intro h; exact ⟨i, by omega, hi, hx⟩
  ·rintro ⟨k, hg, hk, he⟩
   have : k = i := by
    exact (List.getElem_inj hn).1 (he.trans hx.symm)
   omega
def lockedByF (p : Plan) (f : Frame) (s : Int) : Int := optI (first (List.range p.ways.length) (fun i => holdsF p f i s))
def lockPre (p : Plan) (f : Frame) (s : Int) : Prop := Fit p f
def LockedByF (p : Plan) (f : Frame) (s : Int) : Int := if frameOk p f && isIn s p.sections then lockedByF p f s else -1
theorem range_some {n : Nat} {q : Int → Bool} {v : Int} (h : upI n q v) (hv : decide (v < (n : Int)) = true) (hq : q v = true) : first (List.range n) (fun i => q i) = some v.toNat := by
 have h0 := h.1
 have hv : v < (n : Int) := by simpa using hv
 refine first_range_some h0 hv (fun j j0 j1 => ?_) ?_
 ·show q (j.toNat : Int) = false
  rw [Int.toNat_of_nonneg j0]; exact h.2.2 j j0 j1
 ·show q (v.toNat : Int) = true
  rw [Int.toNat_of_nonneg h0]; exact hq
theorem range_none {n : Nat} {q : Int → Bool} {v : Int} (h : upI n q v) (hv : decide (v < (n : Int)) = false) : first (List.range n) (fun i => q i) = none :=
 first_range_none fun j j0 j1 => by
  show q (j.toNat : Int) = false
  rw [Int.toNat_of_nonneg j0]; exact up_end h hv j j0 j1
end Go.Proofs.Ytglpfccgmfhkdaa.Fw
