/- Loops over lists, told once: what their conditions owe. -/

import Derived.Test.YtglpfccgmfhkdaaSpA
set_option linter.unusedVariables false
namespace Go.Proofs.Ytglpfccgmfhkdaa.Fw
open Go
def upI (N : Int) (p : Int → Bool) (v : Int) : Prop := 0 ≤ v ∧ v ≤ N ∧ ∀ j : Int, 0 ≤ j → j < v → p j = false
def upM (N : Int) (v : Int) : Nat := (N - v).toNat
theorem up_start {N : Int} {p : Int → Bool} (h : 0 ≤ N) : upI N p 0 := ⟨Int.le_refl _, h, fun j h0 h1 => by omega⟩
theorem wrap_up {N v : Int} (hn : N ≤ 4611686018427387904) (h0 : 0 ≤ v) (hv : v < N) : IntKind.i64.wrap (v + 1) = v + 1 := w64 (by omega) (by omega)
theorem up_step {N v : Int} {p : Int → Bool} (hn : N ≤ 4611686018427387904) (h : upI N p v) (hv : decide (v < N) = true) (hp : p v = false) : upI N p (IntKind.i64.wrap (v + 1)) ∧ upM N (IntKind.i64.wrap (v + 1)) < upM N v := by
 obtain ⟨h0, h1, h2⟩ := h
 have hv : v < N := by simpa using hv
 rw [wrap_up hn h0 hv]
 refine ⟨⟨by omega, by omega, fun j j0 j1 => ?_⟩, by unfold upM; omega⟩
 rcases Int.lt_or_eq_of_le (show j ≤ v by omega) with hl | rfl
 ·exact h2 j j0 hl
 ·exact hp
theorem up_end {N v : Int} {p : Int → Bool} (h : upI N p v) (hv : decide (v < N) = false) : ∀ j : Int, 0 ≤ j → j < N → p j = false := by
 obtain ⟨h0, h1, h2⟩ := h
 have hv : ¬ v < N := by simpa using hv
 exact fun j j0 j1 => h2 j j0 (by omega)
theorem up_in {α : Type} {xs : List α} {v : Int} {p : Int → Bool} (h : upI xs.length p v) (hv : decide (v < (xs.length : Int)) = true) : 0 ≤ v ∧ v.toNat < xs.length := by
 have hv : v < (xs.length : Int) := by simpa using hv
 exact ⟨h.1, by have := h.1; omega⟩
theorem lenI {α : Type} {xs : List α} (h : xs.length ≤ 4611686018427387904) : (xs.length : Int) ≤ 4611686018427387904 := by omega
theorem len0 {α : Type} (xs : List α) : 0 ≤ (xs.length : Int) := by omega
theorem up_all {α : Type} [Inhabited α] {xs : List α} {q : α → Bool} (h : ∀ j : Int, 0 ≤ j → j < xs.length → q (nth xs j) = false) : ∀ x ∈ xs, q x = false := fun x hx => by
 obtain ⟨i, hi, rfl⟩ := List.mem_iff_getElem.1 hx
 have := h i (by omega) (by omega)
 rwa [nth_nat hi] at this
theorem up_first {α : Type} [Inhabited α] {xs : List α} {q : α → Bool} {v : Int} (h : upI xs.length (fun j => q (nth xs j)) v) (hv : decide (v < (xs.length : Int)) = true) (hp : q (nth xs v) = true) : first xs q = some v.toNat := by
 have hi := up_in h hv
 refine first_some (fun x hx => ?_) hi.2 hp
 obtain ⟨i, hi', rfl⟩ := List.mem_take_iff_getElem.1 hx
 have : q (nth xs (i : Int)) = false := h.2.2 i (by omega) (by omega)
 rwa [nth_nat (by omega)] at this
theorem up_none {α : Type} [Inhabited α] {xs : List α} {q : α → Bool} {v : Int} (h : upI xs.length (fun j => q (nth xs j)) v) (hv : decide (v < (xs.length : Int)) = false) : first xs q = none :=
 first_none (up_all (up_end h hv))
theorem up_any {α : Type} [Inhabited α] {xs : List α} {q : α → Bool} {v : Int} (h : upI xs.length (fun j => q (nth xs j)) v) (hv : decide (v < (xs.length : Int)) = true) (hp : q (nth xs v) = true) : xs.any q = true := by
 rw [List.any_eq_true]; exact ⟨_, nth_mem (up_in h hv).2, hp⟩
theorem up_nany {α : Type} [Inhabited α] {xs : List α} {q : α → Bool} {v : Int} (h : upI xs.length (fun j => q (nth xs j)) v) (hv : decide (v < (xs.length : Int)) = false) : xs.any q = false := by
 rw [List.any_eq_false]
 intro x hx
 rw [up_all (up_end h hv) x hx]; simp
theorem not_eq {b : Bool} (h : (!b) = true) : b = false := by simpa using h
theorem has_iff {xs : List Int} {x : Int} : hasInt xs x = true ↔ x ∈ xs := by unfold hasInt; simp
theorem idxInt_has (xs : List Int) (x : Int) : (decide (idxInt xs x ≥ 0)) = hasInt xs x := by
 unfold idxInt
 cases h : first xs (fun y => x == y) with
 | none =>
  unfold first at h
  rw [List.findIdx?_eq_none_iff] at h
  have : hasInt xs x = false := by
   rw [← Bool.not_eq_true, has_iff]
   intro hm
   have := h x hm
   simp at this
  rw [this]; rfl
 | some i =>
  unfold first at h
  rw [List.findIdx?_eq_some_iff_getElem] at h
  obtain ⟨hi, hp, _⟩ := h
  have : hasInt xs x = true := by rw [has_iff, show x = xs[i] by simpa using hp]; exact List.getElem_mem hi
  rw [this]
  show decide ((i : Int) ≥ 0) = true
  simp
theorem dup_true {xs : List Int} {v : Int} (h0 : 0 ≤ v) (hv : v.toNat < xs.length) (h : hasInt (xs.take v.toNat) (nth xs v) = true) : dup xs = true := by
 rw [has_iff] at h
 unfold dup
 simp only [Bool.not_eq_true', decide_eq_false_iff_not]
 intro hn
 obtain ⟨i, hi, he⟩ := List.mem_take_iff_getElem.1 h
 rw [nth_eq hv] at he
 exact (List.pairwise_iff_getElem.1 hn) i v.toNat (by omega) hv (by omega) he
theorem dup_false {xs : List Int} (h : ∀ j : Int, 0 ≤ j → j < xs.length → hasInt (xs.take j.toNat) (nth xs j) = false) : dup xs = false := by
 unfold dup
 simp only [Bool.not_eq_false', decide_eq_true_eq]
 unfold List.Nodup
 rw [List.pairwise_iff_getElem]
 intro i j hi hj hlt he
 have := h j (by omega) (by omega)
 rw [← Bool.not_eq_true, has_iff, nth_nat hj] at this
 exact this (by rw [List.mem_take_iff_getElem]; exact ⟨i, by omega, he⟩)
end Go.Proofs.Ytglpfccgmfhkdaa.Fw
