/- What a plan's checks come to. -/

import Derived.Test.YtglpfccgmfhkdaaSpB
set_option linter.unusedVariables false
namespace Go.Proofs.Ytglpfccgmfhkdaa.Fw
open Go
theorem rng_eq (x n : Int) : (decide (x < 0) || decide (x ≥ n)) = !inR x 0 (n - 1) := by
 rw [Bool.eq_iff_iff]
 simp [inR]
 omega
theorem map_id' {α : Type} (l : List α) : l.map (fun x => x) = l := by simp
theorem listOk_iff {l : List Int} {n : Int} : listOk l n = true ↔ l.length ≤ 30 ∧ (∀ x ∈ l, inR x 0 (n - 1) = true) ∧ l.Nodup := by
 unfold listOk; simp [and_assoc]
theorem listOk_r {l : List Int} {n : Int} {v : Int} (hv : v.toNat < l.length) (h : (!inR (nth l v) 0 (n - 1)) = true) : listOk l n = false := by
 rw [← Bool.not_eq_true, listOk_iff]
 intro hh
 have := hh.2.1 _ (nth_mem hv)
 simp [this] at h
theorem liesIn_iff {p : Plan} {l : List Lie} : liesIn p l = true ↔ l.length ≤ 30 ∧ (∀ x ∈ l, (inR x.sw 0 (p.switches.length - 1) && inR x.lie 1 2) = true) ∧ (l.map (·.sw)).Nodup := by
 unfold liesIn; simp [and_assoc]
def lieBad (p : Plan) (x : Lie) : Bool := (!inR x.sw 0 (p.switches.length - 1)) || (!inR x.lie 1 2)
theorem lieBad_eq (p : Plan) (x : Lie) : lieBad p x = !(inR x.sw 0 (p.switches.length - 1) && inR x.lie 1 2) := by unfold lieBad; rw [Bool.not_and]
theorem wayGood_iff {p : Plan} {w : Way} : wayGood p w = true ↔ w.sections ≠ [] ∧ listOk w.sections p.sections = true ∧ listOk w.over p.sections = true ∧ listOk w.near p.sections = true ∧ liesIn p w.lies = true ∧ liesIn p w.flanks = true ∧
  ((needs w).map (·.sw)).Nodup ∧ (∀ x ∈ w.lies, w.sections.contains (nth p.switches x.sw) = true) ∧ meets w.sections w.over = false := by
 unfold wayGood; simp [and_assoc]
theorem needs_nodup {w : Way} : ((needs w).map (·.sw)).Nodup ↔ (w.lies.map (·.sw)).Nodup ∧ (w.flanks.map (·.sw)).Nodup ∧ ∀ x ∈ w.lies, ∀ y ∈ w.flanks, x.sw ≠ y.sw := by
 unfold needs
 rw [List.map_append, List.nodup_append]
 simp only [List.mem_map]
 constructor
 ·rintro ⟨h1, h2, h3⟩; exact ⟨h1, h2, fun x hx y hy => h3 _ ⟨x, hx, rfl⟩ _ ⟨y, hy, rfl⟩⟩
 ·rintro ⟨h1, h2, h3⟩
  refine ⟨h1, h2, ?_⟩
  rintro a ⟨x, hx, rfl⟩ b ⟨y, hy, rfl⟩
  exact h3 x hx y hy
def planBase (p : Plan) : Bool := inR p.sections 1 60 && inR p.hold 1 300 && decide (p.switches.length ≤ 40) && decide (p.ways.length ≤ 100)
theorem planOk_1 {p : Plan} (h : planBase p = false) : planOk p = ⟨1, 0⟩ := by
 unfold planOk; unfold planBase at h; rw [if_neg (by rw [h]; simp)]
theorem planOk_s {p : Plan} (h : planBase p = true) : planOk p = planSw p := by
 unfold planOk; unfold planBase at h; rw [if_pos h]
theorem planOk_2 {p : Plan} {k : Nat} (hb : planBase p = true) (h : first p.switches (fun s => !inR s 0 (p.sections - 1)) = some k) : planOk p = ⟨2, k⟩ := by rw [planOk_s hb]; unfold planSw; rw [h]
theorem planOk_w {p : Plan} (hb : planBase p = true) (h : first p.switches (fun s => !inR s 0 (p.sections - 1)) = none) : planOk p = planWays p := by rw [planOk_s hb]; unfold planSw; rw [h]
theorem planOk_3 {p : Plan} {k : Nat} (hb : planBase p = true) (h : first p.switches (fun s => !inR s 0 (p.sections - 1)) = none) (hw : first p.ways (fun w => !wayGood p w) = some k) : planOk p = ⟨3, k⟩ := by rw [planOk_w hb h]; unfold planWays; rw [hw]
theorem planOk_b {p : Plan} (hb : planBase p = true) (h : first p.switches (fun s => !inR s 0 (p.sections - 1)) = none) (hw : first p.ways (fun w => !wayGood p w) = none) : planOk p = planBars p := by rw [planOk_w hb h]; unfold planWays; rw [hw]
theorem planBars_l {p : Plan} (h : p.bars.length ≠ p.ways.length) : planBars p = ⟨4, 0⟩ := by unfold planBars; rw [if_neg h]
theorem planBars_4 {p : Plan} {k : Nat} (h : p.bars.length = p.ways.length) (hb : first p.bars (fun b => decide (b.length ≠ p.ways.length)) = some k) : planBars p = ⟨4, k⟩ := by unfold planBars; rw [if_pos h, hb]
theorem planBars_5 {p : Plan} {k : Nat} (h : p.bars.length = p.ways.length) (hb : first p.bars (fun b => decide (b.length ≠ p.ways.length)) = none) (hq : first (List.range p.ways.length) (fun i => (List.range p.ways.length).any fun k => barBad p i k) = some k) : planBars p = ⟨5, k⟩ := by
 unfold planBars; rw [if_pos h, hb]; simp only; rw [hq]
theorem planBars_0 {p : Plan} (h : p.bars.length = p.ways.length) (hb : first p.bars (fun b => decide (b.length ≠ p.ways.length)) = none) (hq : first (List.range p.ways.length) (fun i => (List.range p.ways.length).any fun k => barBad p i k) = none) : planBars p = ⟨0, 0⟩ := by
 unfold planBars; rw [if_pos h, hb]; simp only; rw [hq]
theorem planBase_iff {p : Plan} : planBase p = true ↔ (1 ≤ p.sections ∧ p.sections ≤ 60) ∧ (1 ≤ p.hold ∧ p.hold ≤ 300) ∧ p.switches.length ≤ 40 ∧ p.ways.length ≤ 100 := by
 unfold planBase inR; simp [and_assoc]
theorem first_range_some {n : Nat} {q : Nat → Bool} {v : Int} (h0 : 0 ≤ v) (hv : v < n) (h : ∀ j : Int, 0 ≤ j → j < v → q j.toNat = false) (hq : q v.toNat = true) : first (List.range n) q = some v.toNat := by
 unfold first
 rw [List.findIdx?_eq_some_iff_getElem]
 refine ⟨by simp; omega, by simpa using hq, fun j hj => ?_⟩
 have := h j (by omega) (by omega)
 simpa using this
theorem first_range_none {n : Nat} {q : Nat → Bool} (h : ∀ j : Int, 0 ≤ j → j < n → q j.toNat = false) : first (List.range n) q = none := by
 unfold first
 rw [List.findIdx?_eq_none_iff]
 intro x hx
 have := h x (by omega) (by have := List.mem_range.1 hx; omega)
 simpa using this
theorem any_range {n : Nat} {q : Nat → Bool} {v : Int} (h0 : 0 ≤ v) (hv : v < n) (h : q v.toNat = true) : (List.range n).any q = true := by
 rw [List.any_eq_true]; exact ⟨v.toNat, List.mem_range.2 (by omega), h⟩
theorem nany_range {n : Nat} {q : Nat → Bool} (h : ∀ j : Int, 0 ≤ j → j < n → q j.toNat = false) : (List.range n).any q = false := by
 rw [List.any_eq_false]
 intro x hx
 have := h x (by omega) (by have := List.mem_range.1 hx; omega)
 simp only [Int.toNat_natCast] at this
 rw [this]; simp
theorem nth_toNat {α : Type} [Inhabited α] {xs : List α} {i : Int} (h : 0 ≤ i) : nth xs (i.toNat : Int) = nth xs i := by rw [Int.toNat_of_nonneg h]
theorem lieBad_cond (p : Plan) (x : Lie) : ((decide (x.sw < 0)) || ((decide (x.sw ≥ (p.switches.length : Int))) || ((x.lie != 1) && (x.lie != 2)))) = lieBad p x := by
 unfold lieBad
 rw [← rng_eq, Bool.or_assoc]
 congr 2
 rw [Bool.eq_iff_iff]
 simp [inR]
 omega
def needBad (p : Plan) (w : Way) (j : Int) : Bool := lieBad p (nth (needs w) j) || (decide (j < (w.lies.length : Int)) && !(hasInt w.sections (nth p.switches (nth (needs w) j).sw)))
theorem needs_left {w : Way} {j : Int} (h0 : 0 ≤ j) (h : j < w.lies.length) : nth (needs w) j = nth w.lies j := by
 rw [nth_eq (xs := w.lies) (by omega), nth_eq (by unfold needs; rw [List.length_append]; omega)]
 unfold needs
 rw [List.getElem_append_left]
theorem good_lists {p : Plan} {w : Way} (h : wayGood p w = true) : ∀ l ∈ [w.sections, w.over, w.near], listOk l p.sections = true := by
 obtain ⟨-, h1, h2, h3, -⟩ := wayGood_iff.1 h
 intro l hl
 simp only [List.mem_cons, List.not_mem_nil, or_false] at hl
 rcases hl with rfl | rfl | rfl
 ·exact h1
 ·exact h2
 ·exact h3
theorem good_needs {p : Plan} {w : Way} (h : wayGood p w = true) {j : Int} (h0 : 0 ≤ j) (hj : j.toNat < (needs w).length) : needBad p w j = false := by
 obtain ⟨-, -, -, -, h4, h5, -, h6, -⟩ := wayGood_iff.1 h
 have hm := nth_mem hj
 have hb : lieBad p (nth (needs w) j) = false := by
  rw [lieBad_eq]
  unfold needs at hm ⊢
  rcases List.mem_append.1 hm with hm | hm
  ·rw [(liesIn_iff.1 h4).2.1 _ hm]; rfl
  ·rw [(liesIn_iff.1 h5).2.1 _ hm]; rfl
 unfold needBad
 rw [hb, Bool.false_or]
 by_cases hl : j < (w.lies.length : Int)
 ·rw [needs_left h0 hl]
  have : hasInt w.sections (nth p.switches (nth w.lies j).sw) = true := h6 _ (nth_mem (by omega))
  rw [this]; simp
 ·simp [hl]
theorem good_all {p : Plan} {w : Way} (h1 : w.sections ≠ []) (hl : ∀ l ∈ [w.sections, w.over, w.near], listOk l p.sections = true) (h3 : w.lies.length ≤ 30) (h4 : w.flanks.length ≤ 30)
  (hn : ∀ j : Int, 0 ≤ j → j < (needs w).length → needBad p w j = false) : ((!(dup ((needs w).map (·.sw)))) && (!(meets w.sections w.over))) = wayGood p w := by
 have hb : ∀ x ∈ needs w, (inR x.sw 0 (p.switches.length - 1) && inR x.lie 1 2) = true := fun x hx => by
  have := up_all (q := lieBad p) (fun j j0 j1 => by have := hn j j0 j1; unfold needBad at this; exact (Bool.or_eq_false_iff.1 this).1) x hx
  rw [lieBad_eq] at this
  simpa using this
 have hc : ∀ x ∈ w.lies, w.sections.contains (nth p.switches x.sw) = true := fun x hx => by
  have := up_all (q := fun x => !(hasInt w.sections (nth p.switches x.sw))) (fun j j0 j1 => by
   have := hn j j0 (by unfold needs; rw [List.length_append]; omega)
   unfold needBad at this
   have := (Bool.or_eq_false_iff.1 this).2
   rw [needs_left j0 j1] at this
   simpa [j1] using this) x hx
  simp only [Bool.not_eq_false'] at this
  exact this
 rw [Bool.eq_iff_iff, wayGood_iff]
 simp only [Bool.and_eq_true, Bool.not_eq_true', dup, Bool.not_eq_false', decide_eq_true_eq]
 constructor
 ·rintro ⟨hd, hm⟩
  have hd' := needs_nodup.1 hd
  exact ⟨h1, hl _ (by simp), hl _ (by simp), hl _ (by simp), liesIn_iff.2 ⟨h3, fun x hx => hb x (by unfold needs; exact List.mem_append_left _ hx), hd'.1⟩, liesIn_iff.2 ⟨h4, fun x hx => hb x (by unfold needs; exact List.mem_append_right _ hx), hd'.2.1⟩, hd, hc, hm⟩
 ·rintro ⟨-, -, -, -, -, -, hd, -, hm⟩
  exact ⟨hd, hm⟩
theorem bars_bad {p : Plan} {i k : Int} (h0 : 0 ≤ i) (h1 : 0 ≤ k) : (((nth (nth p.bars i) k) != (nth (nth p.bars k) i)) || ((i != k) && ((!(nth (nth p.bars i) k)) && (meets ((nth p.ways i).sections) ((nth p.ways k).sections))))) = barBad p i.toNat k.toNat := by
 unfold barBad barAt
 rw [Int.toNat_of_nonneg h0, Int.toNat_of_nonneg h1]
 have : (i != k) = decide (i.toNat ≠ k.toNat) := by
  rw [Bool.eq_iff_iff]; simp; omega
 rw [this, Bool.and_assoc]
def inTgt (n : Int) (e : Event) : Bool := decide (e.tgt ≥ 0) && decide (e.tgt < n)
end Go.Proofs.Ytglpfccgmfhkdaa.Fw
