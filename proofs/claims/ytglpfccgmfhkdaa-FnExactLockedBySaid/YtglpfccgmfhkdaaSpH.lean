/- What a right plan is, what a right frame is, told part by part. -/

import Derived.Test.YtglpfccgmfhkdaaSpG
set_option linter.unusedVariables false
namespace Go.Proofs.Ytglpfccgmfhkdaa.Fw
open Go
theorem first_none' {α : Type} {xs : List α} {q : α → Bool} (h : first xs q = none) : ∀ x ∈ xs, q x = false := by
 unfold first at h; rwa [List.findIdx?_eq_none_iff] at h
theorem planGood_parts {p : Plan} (h : planGood p = true) : planBase p = true ∧ (∀ s ∈ p.switches, inR s 0 (p.sections - 1) = true) ∧ (∀ w ∈ p.ways, wayGood p w = true) ∧ p.bars.length = p.ways.length ∧
  (∀ b ∈ p.bars, b.length = p.ways.length) ∧ ∀ i k : Nat, i < p.ways.length → k < p.ways.length → barBad p i k = false := by
 have hb := planGood_base h
 have h0 : planOk p = ⟨0, 0⟩ := by simpa [planGood] using h
 rw [planOk_s hb] at h0
 unfold planSw at h0
 split at h0
 ·cases h0
 rename_i h1
 unfold planWays at h0
 split at h0
 ·cases h0
 rename_i h2
 unfold planBars at h0
 split at h0
 ·rename_i h3
  split at h0
  ·cases h0
  rename_i h4
  split at h0
  ·cases h0
  rename_i h5
  refine ⟨hb, fun s hs => by simpa using first_none' h1 s hs, fun w hw => by simpa using first_none' h2 w hw, h3, fun b hq => by simpa using first_none' h4 b hq, fun i k hi hk => ?_⟩
  have := first_none' h5 i (List.mem_range.2 hi)
  rw [List.any_eq_false] at this
  simpa using this k (List.mem_range.2 hk)
 ·cases h0
def bar (p : Plan) (i k : Int) : Bool := nth (nth p.bars i) k
structure PlanBars (p : Plan) : Prop where
 len : p.bars.length = p.ways.length
 row : ∀ i : Int, 0 ≤ i → i < p.ways.length → (nth p.bars i).length = p.ways.length
 sym : ∀ i k : Int, 0 ≤ i → i < p.ways.length → 0 ≤ k → k < p.ways.length → bar p i k = bar p k i
 meet : ∀ i k : Int, 0 ≤ i → i < p.ways.length → 0 ≤ k → k < p.ways.length → i ≠ k → meets (nth p.ways i).sections (nth p.ways k).sections = true → bar p i k = true
theorem inR_lt {x n : Int} (h : inR x 0 (n - 1) = true) : 0 ≤ x ∧ x < n := by have := inR_true.1 h; omega
theorem listOk_in {l : List Int} {n : Int} (h : listOk l n = true) : l.length ≤ 30 ∧ ∀ x ∈ l, 0 ≤ x ∧ x < n := by
 have := listOk_iff.1 h
 exact ⟨this.1, fun x hx => inR_lt (this.2.1 x hx)⟩
theorem planGood_in {p : Plan} (h : planGood p = true) : PlanIn p := by
 obtain ⟨h1, h2, h3, h4, h5, h6⟩ := planGood_parts h
 have hb := planBase_iff.1 h1
 have hw : ∀ w ∈ p.ways, _ := fun w hw => wayGood_iff.1 (h3 w hw)
 refine ⟨by omega, hb.2.2.2, hb.2.2.1, fun w m => ⟨(hw w m).1, listOk_in (hw w m).2.1⟩, fun w m => listOk_in (hw w m).2.2.1, fun w m => listOk_in (hw w m).2.2.2.1, fun w m => ?_, fun x hx => inR_lt (h2 x hx)⟩
 have hl := liesIn_iff.1 (hw w m).2.2.2.2.1
 have hf := liesIn_iff.1 (hw w m).2.2.2.2.2.1
 refine ⟨hl.1, hf.1, fun x hx => ?_⟩
 rcases List.mem_append.1 hx with hx | hx
 ·have := hl.2.1 x hx
  rw [Bool.and_eq_true] at this; exact inR_lt this.1
 ·have := hf.2.1 x hx
  rw [Bool.and_eq_true] at this; exact inR_lt this.1
theorem planGood_bars {p : Plan} (h : planGood p = true) : PlanBars p := by
 obtain ⟨h1, h2, h3, h4, h5, h6⟩ := planGood_parts h
 have key : ∀ i k : Int, 0 ≤ i → i < p.ways.length → 0 ≤ k → k < p.ways.length → bar p i k = bar p k i ∧ (i ≠ k → meets (nth p.ways i).sections (nth p.ways k).sections = true → bar p i k = true) := fun i k i0 i1 k0 k1 => by
  have := h6 i.toNat k.toNat (by omega) (by omega)
  unfold barBad barAt at this
  rw [nth_toNat i0, nth_toNat k0, nth_toNat i0, nth_toNat k0, nth_toNat i0, nth_toNat k0] at this
  rw [Bool.or_eq_false_iff] at this
  refine ⟨by unfold bar; simpa using this.1, fun hne hm => ?_⟩
  have h2 := this.2
  rw [hm, Bool.and_true] at h2
  have hd : decide (i.toNat ≠ k.toNat) = true := by simpa using (show i.toNat ≠ k.toNat by omega)
  rw [hd] at h2
  unfold bar
  simpa using h2
 exact ⟨h4, fun i i0 i1 => h5 _ (nth_mem (by omega)), fun i k i0 i1 k0 k1 => (key i k i0 i1 k0 k1).1, fun i k i0 i1 k0 k1 => (key i k i0 i1 k0 k1).2⟩
def heldB1 (p : Plan) (f : Frame) (i : Int) : Bool := !((decide ((nth f.ways i).state < 0)) || ((decide ((nth f.ways i).state > 4)) || ((((nth f.ways i).been.length : Int) != ((nth p.ways i).sections.length : Int)) || ((decide ((nth f.ways i).gone < 0)) || (decide ((nth f.ways i).gone ≥ ((nth p.ways i).sections.length : Int)))))))
def heldB2 (f : Frame) (i : Int) : Bool := bif ((nth f.ways i).state != 4) then (!(((nth f.ways i).gone != 0) || (hasBool (nth f.ways i).been true))) else (!(hasBool ((nth f.ways i).been.take (nth f.ways i).gone.toNat) false))
def heldB3 (p : Plan) (f : Frame) (i : Int) : Bool := bif ((nth f.ways i).state == 3) then (!((decide ((nth f.ways i).timer < 1)) || (decide ((nth f.ways i).timer > p.hold)))) else (!((nth f.ways i).timer != 0))
def heldB4 (f : Frame) (i : Int) : Bool := bif ((nth f.ways i).state == 0) then (!(nth f.ways i).shown) else (!(bif ((nth f.ways i).state == 2) then ((nth f.ways i).state == 2) else ((nth f.ways i).state == 3)) || (!(!(nth f.ways i).shown)))
theorem heldOk_parts (p : Plan) (f : Frame) (i : Int) : heldOk p f i = (heldB1 p f i && (heldB2 f i && (heldB3 p f i && heldB4 f i))) := by
 unfold heldOk heldB1 heldB2 heldB3 heldB4
 simp only
 generalize nth f.ways i = h
 generalize (nth p.ways i).sections.length = n
 rcases h with ⟨s, g, b, d, t⟩
 have e1 : b.all (fun x => !x) = !hasBool b true := by
  cases h : hasBool b true with
  | true =>
   rw [List.all_eq_false.2 ⟨true, hasBool_iff.1 h, by simp⟩]; rfl
  | false =>
   rw [List.all_eq_true.2 fun x hx => by
    cases x with
    | false => rfl
    | true => rw [hasBool_iff.2 hx] at h; cases h]; rfl
 have e2 : (b.take g.toNat).all (fun x => x) = !hasBool (b.take g.toNat) false := by
  cases h : hasBool (b.take g.toNat) false with
  | true =>
   rw [List.all_eq_false.2 ⟨false, hasBool_iff.1 h, by simp⟩]; rfl
  | false =>
   rw [List.all_eq_true.2 fun x hx => by
    cases x with
    | true => rfl
    | false => rw [hasBool_iff.2 hx] at h; cases h]; rfl
 simp only
 rw [e1, e2]
 have r1 : inR s 0 4 = !((decide (s < 0)) || (decide (s > 4))) := by unfold inR; rw [Bool.eq_iff_iff]; simp
 have r2 : decide (b.length = n) = !((b.length : Int) != (n : Int)) := by rw [Bool.eq_iff_iff]; simp; omega
 have r3 : inR g 0 ((n : Int) - 1) = !((decide (g < 0)) || (decide (g ≥ (n : Int)))) := by unfold inR; rw [Bool.eq_iff_iff]; simp; omega
 have r4 : inR t 1 p.hold = !((decide (t < 1)) || (decide (t > p.hold))) := by unfold inR; rw [Bool.eq_iff_iff]; simp
 rw [r1, r2, r3, r4]
 generalize hasBool b true = B
 have hg : g = 0 → hasBool (b.take g.toNat) false = false := fun h => by subst h; rfl
 generalize hasBool (b.take g.toNat) false = C at hg
 generalize (decide (s < 0)) = x1
 generalize (decide (s > 4)) = x2
 generalize ((b.length : Int) != (n : Int)) = x3
 generalize (decide (g < 0)) = x4
 generalize (decide (g ≥ (n : Int))) = x5
 generalize (decide (t < 1)) = x6
 generalize (decide (t > p.hold)) = x7
 have hs : s = 0 ∨ s = 2 ∨ s = 3 ∨ s = 4 ∨ (s ≠ 0 ∧ s ≠ 2 ∧ s ≠ 3 ∧ s ≠ 4) := by omega
 have hd : decide (t = 0) = !(t != 0) := by rw [Bool.eq_iff_iff]; simp
 have hd2 : decide (g = 0) = !(g != 0) := by rw [Bool.eq_iff_iff]; simp
 rw [hd, hd2]
 cases hgz : (g != 0) with
 | false =>
  have : C = false := hg (by simpa using hgz)
  subst this
  generalize (t != 0) = x8
  rcases hs with rfl | rfl | rfl | rfl | ⟨h0, h2, h3, h4⟩
  ·cases B <;> cases d <;> simp [Bool.and_assoc]
  ·cases B <;> cases d <;> simp [Bool.and_assoc]
  ·cases B <;> cases d <;> simp [Bool.and_assoc]
  ·cases B <;> cases d <;> simp [Bool.and_assoc]
  ·have z0 : (s == 0) = false := by simpa using h0
   have z2 : (s == 2) = false := by simpa using h2
   have z3 : (s == 3) = false := by simpa using h3
   have z4 : (s != 4) = true := by simpa using h4
   rw [z0, z2, z3, z4]
   simp only [h0, h2, h3, h4, if_false, decide_false, decide_true, ne_eq, not_false_eq_true]
   cases B <;> cases d <;> simp [Bool.and_assoc]
 | true =>
  clear hg hgz
  generalize (t != 0) = x8
  rcases hs with rfl | rfl | rfl | rfl | ⟨h0, h2, h3, h4⟩
  ·cases B <;> cases C <;> cases d <;> simp [Bool.and_assoc]
  ·cases B <;> cases C <;> cases d <;> simp [Bool.and_assoc]
  ·cases B <;> cases C <;> cases d <;> simp [Bool.and_assoc]
  ·cases B <;> cases C <;> cases d <;> simp [Bool.and_assoc]
  ·have z0 : (s == 0) = false := by simpa using h0
   have z2 : (s == 2) = false := by simpa using h2
   have z3 : (s == 3) = false := by simpa using h3
   have z4 : (s != 4) = true := by simpa using h4
   rw [z0, z2, z3, z4]
   simp only [h0, h2, h3, h4, if_false, decide_false, decide_true, ne_eq, not_false_eq_true]
   cases B <;> cases C <;> cases d <;> simp [Bool.and_assoc]
def ptOk (x : Point) : Bool := inR x.want 1 2 && inR x.lies 0 2
def barHit (p : Plan) (f : Frame) (i k : Int) : Bool := (i != k) && (bar p i k && (((nth f.ways i).state != 0) && ((nth f.ways k).state != 0)))
def frBase (p : Plan) (f : Frame) : Bool := !((!(planGood p)) || ((!f.ok) || (((f.occ.length : Int) != p.sections) || (((f.points.length : Int) != (p.switches.length : Int)) || ((f.ways.length : Int) != (p.ways.length : Int))))))
theorem frBase_iff {p : Plan} {f : Frame} : frBase p f = true ↔ planGood p = true ∧ f.ok = true ∧ (f.occ.length : Int) = p.sections ∧ f.points.length = p.switches.length ∧ f.ways.length = p.ways.length := by
 unfold frBase
 simp only [Bool.not_eq_true', Bool.or_eq_false_iff, Bool.not_eq_false', bne_eq_false_iff_eq]
 constructor
 ·rintro ⟨a, b, c, d, e⟩; exact ⟨a, b, c, by omega, by omega⟩
 ·rintro ⟨a, b, c, d, e⟩; exact ⟨a, b, c, by omega, by omega⟩
theorem bars_iff {p : Plan} {f : Frame} : barsOk p f = true ↔ ∀ i k : Int, 0 ≤ i → i < f.ways.length → 0 ≤ k → k < f.ways.length → barHit p f i k = false := by
 unfold barsOk
 rw [List.all_eq_true]
 have key : ∀ i k : Nat, (decide (i = k) || !barAt p i k || decide ((nth f.ways i).state = 0) || decide ((nth f.ways k).state = 0)) = !barHit p f i k := fun i k => by
  unfold barHit bar barAt
  have e1 : decide (i = k) = !((i : Int) != (k : Int)) := by rw [Bool.eq_iff_iff]; simp; omega
  have e2 : ∀ x : Int, decide (x = 0) = !(x != 0) := fun x => by rw [Bool.eq_iff_iff]; simp
  rw [e1, e2, e2]
  cases ((i : Int) != (k : Int)) <;> cases nth (nth p.bars (i : Int)) (k : Int) <;> cases ((nth f.ways (i : Int)).state != 0) <;> cases ((nth f.ways (k : Int)).state != 0) <;> rfl
 constructor
 ·intro h i k i0 i1 k0 k1
  have h1 := h i.toNat (List.mem_range.2 (by omega))
  rw [List.all_eq_true] at h1
  have h2 := h1 k.toNat (List.mem_range.2 (by omega))
  rw [key, Int.toNat_of_nonneg i0, Int.toNat_of_nonneg k0] at h2
  simpa using h2
 ·intro h i hi
  rw [List.all_eq_true]
  intro k hk
  rw [key, h i k (by omega) (by have := List.mem_range.1 hi; omega) (by omega) (by have := List.mem_range.1 hk; omega)]; rfl
theorem frameOk_iff {p : Plan} {f : Frame} : frameOk p f = true ↔ frBase p f = true ∧ (∀ x ∈ f.points, ptOk x = true) ∧ (∀ i : Int, 0 ≤ i → i < f.ways.length → heldOk p f i = true) ∧
  (∀ i k : Int, 0 ≤ i → i < f.ways.length → 0 ≤ k → k < f.ways.length → barHit p f i k = false) ∧ f.ways = (settleF p f).ways := by
 unfold frameOk sameW
 rw [frBase_iff, ← bars_iff]
 simp only [Bool.and_eq_true, decide_eq_true_eq, List.all_eq_true, List.mem_range]
 constructor
 ·rintro ⟨⟨⟨⟨⟨⟨⟨⟨a, b⟩, c⟩, d⟩, e⟩, g⟩, h⟩, i⟩, j⟩
  refine ⟨⟨a, b, c, d, e⟩, fun x hx => by unfold ptOk; rw [Bool.and_eq_true]; exact g x hx, fun q q0 q1 => ?_, i, j⟩
  have := h q.toNat (by omega)
  rwa [Int.toNat_of_nonneg q0] at this
 ·rintro ⟨⟨a, b, c, d, e⟩, g, h, i, j⟩
  exact ⟨⟨⟨⟨⟨⟨⟨⟨a, b⟩, c⟩, d⟩, e⟩, fun x hx => by have := g x hx; unfold ptOk at this; rwa [Bool.and_eq_true] at this⟩, fun q hq => h q (by omega) (by omega)⟩, i⟩, j⟩
theorem frame_in {p : Plan} {f : Frame} (hb : frBase p f = true) (hh : ∀ i : Int, 0 ≤ i → i < f.ways.length → heldB1 p f i = true) : FrameIn p f := by
 obtain ⟨h1, h2, h3, h4, h5⟩ := frBase_iff.1 hb
 have key : ∀ i : Nat, i < f.ways.length → ((nth f.ways i).been.length : Int) = ((nth p.ways i).sections.length : Int) ∧ 0 ≤ (nth f.ways i).gone ∧ (nth f.ways i).gone < ((nth p.ways i).sections.length : Int) := fun i hi => by
  have := hh i (by omega) (by omega)
  unfold heldB1 at this
  simp only [Bool.not_eq_true', Bool.or_eq_false_iff, bne_eq_false_iff_eq, decide_eq_false_iff_not] at this
  exact ⟨this.2.2.1, by omega, by omega⟩
 refine ⟨h3, h4, h5, fun i h w e1 e2 => ?_, fun h hm => ?_⟩
 ·have hi := (List.getElem?_eq_some_iff.1 e1).1
  have hj := (List.getElem?_eq_some_iff.1 e2).1
  have := (key i hi).1
  rw [nth_nat hi, nth_nat hj, (List.getElem?_eq_some_iff.1 e1).2, (List.getElem?_eq_some_iff.1 e2).2] at this
  omega
 ·obtain ⟨i, hi, rfl⟩ := List.mem_iff_getElem.1 hm
  have := key i hi
  rw [nth_nat hi] at this
  omega
theorem barHit_sym {p : Plan} {f : Frame} {i k : Int} (hB : PlanBars p) (hl : f.ways.length = p.ways.length) (i0 : 0 ≤ i) (i1 : i < f.ways.length) (k0 : 0 ≤ k) (k1 : k < f.ways.length) : barHit p f i k = barHit p f k i := by
 unfold barHit
 rw [hB.sym i k i0 (by omega) k0 (by omega), show (i != k) = (k != i) by rw [Bool.eq_iff_iff]; simp; omega, Bool.and_comm ((nth f.ways i).state != 0)]
def rowHit (p : Plan) (f : Frame) (n : Nat) (i : Int) : Bool := (List.range n).any fun k => barHit p f i k
theorem ptBad (x : Point) : (bif (x.want != 1) then ((x.want != 2) || ((decide (x.lies < 0)) || (decide (x.lies > 2)))) else ((decide (x.lies < 0)) || (decide (x.lies > 2)))) = !ptOk x := by
 unfold ptOk inR
 by_cases h : x.want = 1
 ·rw [h, Bool.eq_iff_iff]; simp
 ·have : (x.want != 1) = true := by simpa using h
  rw [this, Bool.eq_iff_iff]; simp; omega
def smallH (h : Held) : Prop := h.been.length ≤ 1048576
def smallHs (w : List Held) : Prop := heldsN w ≤ 1048576
def smallFr (f : Frame) : Prop := frameN f ≤ 1048576
theorem left_of {n : Nat} {left : Int} (h0 : 0 ≤ left ∧ left ≤ 1048576) (h : (!decide (lessN n left < 0)) = true) : n ≤ 1048576 ∧ 0 ≤ lessN n left ∧ lessN n left ≤ 1048576 := by
 have h : ¬ lessN n left < 0 := by simpa using h
 have h2 := h
 rw [lessN_lt h0.1] at h2
 unfold lessN at h ⊢
 rw [if_neg h2] at h ⊢
 omega
theorem smallFr_F {f : Frame} (h : smallFr f) : smallF f := by
 have h : f.occ.length + f.points.length + (f.ways.length + (f.ways.map fun h => h.been.length).sum) ≤ 1048576 := h
 refine ⟨by omega, by omega, by omega, fun x hx => ?_⟩
 have := mem_sum (fun h : Held => h.been.length) hx
 omega
end Go.Proofs.Ytglpfccgmfhkdaa.Fw
