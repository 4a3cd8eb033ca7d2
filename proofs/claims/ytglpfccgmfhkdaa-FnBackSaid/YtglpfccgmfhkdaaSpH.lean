/- What a right plan is, what a right frame is, told part by part. -/

import Derived.Test.YtglpfccgmfhkdaaSpG
set_option linter.unusedVariables false
namespace Go.Proofs.Ytglpfccgmfhkdaa.Fw
open Go
theorem first_none' {α : Type} {xs : List α} {q : α → Bool} (h : first xs q = none) : ∀ x ∈ xs, q x = false := by
 unfold first at h; rwa [List.findIdx?_eq_none_iff] at h
theorem planGood_parts {p : Plan} (h : planGood p = true) : planBase p = true ∧ (∀ s ∈ p.switches, inR s 0 (p.sections - 1) = true) ∧ (∀ w ∈ p.ways, wayGood p w = true) ∧ p.bars.length = p.ways.length ∧
  (∀ b ∈ p.bars, b.length = p.ways.length) ∧ ∀ i k : Nat, i < p.ways.length → k < p.ways.length → barBad p i k = false := by
 have hb := planGood_base h
 have h0 : planOk p = ⟨0, 0⟩ := by simpa [planGood] using h
 rw [planOk_s hb] at h0
 unfold planSw at h0
 split at h0
 ·cases h0
 rename_i h1
 unfold planWays at h0
 split at h0
 ·cases h0
 rename_i h2
 unfold planBars at h0
 split at h0
 ·rename_i h3
  split at h0
  ·cases h0
  rename_i h4
  split at h0
  ·cases h0
  rename_i h5
  refine ⟨hb, fun s hs => by simpa using first_none' h1 s hs, fun w hw => by simpa using first_none' h2 w hw, h3, fun b hq => by simpa using first_none' h4 b hq, fun i k hi hk => ?_⟩
  have := first_none' h5 i (List.mem_range.2 hi)
  rw [List.any_eq_false] at this
  simpa using this k (List.mem_range.2 hk)
 ·cases h0
def bar (p : Plan) (i k : Int) : Bool := nth (nth p.bars i) k
structure PlanBars (p : Plan) : Prop where
 len : p.bars.length = p.ways.length
 row : ∀ i : Int, 0 ≤ i → i < p.ways.length → (nth p.bars i).length = p.ways.length
 sym : ∀ i k : Int, 0 ≤ i → i < p.ways.length → 0 ≤ k → k < p.ways.length → bar p i k = bar p k i
 meet : ∀ i k : Int, 0 ≤ i → i < p.ways.length → 0 ≤ k → k < p.ways.length → i ≠ k → meets (nth p.ways i).sections (nth p.ways k).sections = true → bar p i k = true
theorem inR_lt {x n : Int} (h : inR x 0 (n - 1) = true) : 0 ≤ x ∧ x < n := by have := inR_true.1 h; omega
theorem listOk_in {l : List Int} {n : Int} (h : listOk l n = true) : l.length ≤ 30 ∧ ∀ x ∈ l, 0 ≤ x ∧ x < n := by
 have := listOk_iff.1 h
 exact ⟨this.1, fun x hx => inR_lt (this.2.1 x hx)⟩
theorem planGood_in {p : Plan} (h : planGood p = true) : PlanIn p := by
 obtain ⟨h1, h2, h3, h4, h5, h6⟩ := planGood_parts h
 have hb := planBase_iff.1 h1
 have hw : ∀ w ∈ p.ways, _ := fun w hw => wayGood_iff.1 (h3 w hw)
 refine ⟨by omega, hb.2.2.2, hb.2.2.1, fun w m => ⟨(hw w m).1, listOk_in (hw w m).2.1⟩, fun w m => listOk_in (hw w m).2.2.1, fun w m => listOk_in (hw w m).2.2.2.1, fun w m => ?_, fun x hx => inR_lt (h2 x hx)⟩
 have hl := liesIn_iff.1 (hw w m).2.2.2.2.1
 have hf := liesIn_iff.1 (hw w m).2.2.2.2.2.1
 refine ⟨hl.1, hf.1, fun x hx => ?_⟩
 rcases List.mem_append.1 hx with hx | hx
 ·have := hl.2.1 x hx
  rw [Bool.and_eq_true] at this; exact inR_lt this.1
 ·have := hf.2.1 x hx
  rw [Bool.and_eq_true] at this; exact inR_lt this.1
theorem planGood_bars {p : Plan} (h : planGood p = true) : PlanBars p := by
 obtain ⟨h1, h2, h3, h4, h5, h6⟩ := planGood_parts h
 have key : ∀ i k : Int, 0 ≤ i → i < p.ways.length → 0 ≤ k → k < p.ways.length → bar p i k = bar p k i ∧ (i ≠ k → meets (nth p.ways i).sections (nth p.ways k).sections = true → bar p i k = true) := fun i k i0 i1 k0 k1 => by
  have := h6 i.toNat k.toNat (by omega) (by omega)
  unfold barBad barAt at this
  rw [nth_toNat i0, nth_toNat k0, nth_toNat i0, nth_toNat k0, nth_toNat i0, nth_toNat k0] at this
  rw [Bool.or_eq_false_iff] at this
  refine ⟨by unfold bar; simpa using this.1, fun hne hm => ?_⟩
  have h2 := this.2
  rw [hm, Bool.and_true] at h2
  have hd : decide (i.toNat ≠ k.toNat) = true := by simpa using (show i.toNat ≠ k.toNat by omega)
  rw [hd] at h2
  unfold bar
  simpa using h2
 exact ⟨h4, fun i i0 i1 => h5 _ (nth_mem (by omega)), fun i k i0 i1 k0 k1 => (key i k i0 i1 k0 k1).1, fun i k i0 i1 k0 k1 => (key i k i0 i1 k0 k1).2⟩
end Go.Proofs.Ytglpfccgmfhkdaa.Fw
