/- Loops over lists, told once: what their conditions owe. -/

import Derived.Test.YtglpfccgmfhkdaaSpA
set_option linter.unusedVariables false
namespace Go.Proofs.Ytglpfccgmfhkdaa.Fw
open Go
def upI (N : Int) (p : Int → Bool) (v : Int) : Prop := 0 ≤ v ∧ v ≤ N ∧ ∀ j : Int, 0 ≤ j → j < v → p j = false
def upM (N : Int) (v : Int) : Nat := (N - v).toNat
theorem up_start {N : Int} {p : Int → Bool} (h : 0 ≤ N) : upI N p 0 := ⟨Int.le_refl _, h, fun j h0 h1 => by omega⟩
theorem wrap_up {N v : Int} (hn : N ≤ 4611686018427387904) (h0 : 0 ≤ v) (hv : v < N) : IntKind.i64.wrap (v + 1) = v + 1 := w64 (by omega) (by omega)
theorem up_step {N v : Int} {p : Int → Bool} (hn : N ≤ 4611686018427387904) (h : upI N p v) (hv : decide (v < N) = true) (hp : p v = false) : upI N p (IntKind.i64.wrap (v + 1)) ∧ upM N (IntKind.i64.wrap (v + 1)) < upM N v := by
 obtain ⟨h0, h1, h2⟩ := h
 have hv : v < N := by simpa using hv
 rw [wrap_up hn h0 hv]
 refine ⟨⟨by omega, by omega, fun j j0 j1 => ?_⟩, by unfold upM; omega⟩
 rcases Int.lt_or_eq_of_le (show j ≤ v by omega) with hl | rfl
 ·exact h2 j j0 hl
 ·exact hp
theorem up_end {N v : Int} {p : Int → Bool} (h : upI N p v) (hv : decide (v < N) = false) : ∀ j : Int, 0 ≤ j → j < N → p j = false := by
 obtain ⟨h0, h1, h2⟩ := h
 have hv : ¬ v < N := by simpa using hv
 exact fun j j0 j1 => h2 j j0 (by omega)
theorem up_in {α : Type} {xs : List α} {v : Int} {p : Int → Bool} (h : upI xs.length p v) (hv : decide (v < (xs.length : Int)) = true) : 0 ≤ v ∧ v.toNat < xs.length := by
 have hv : v < (xs.length : Int) := by simpa using hv
 exact ⟨h.1, by have := h.1; omega⟩
theorem lenI {α : Type} {xs : List α} (h : xs.length ≤ 4611686018427387904) : (xs.length : Int) ≤ 4611686018427387904 := by omega
theorem len0 {α : Type} (xs : List α) : 0 ≤ (xs.length : Int) := by omega
theorem up_all {α : Type} [Inhabited α] {xs : List α} {q : α → Bool} (h : ∀ j : Int, 0 ≤ j → j < xs.length → q (nth xs j) = false) : ∀ x ∈ xs, q x = false := fun x hx => by
 obtain ⟨i, hi, rfl⟩ := List.mem_iff_getElem.1 hx
 have := h i (by omega) (by omega)
 rwa [nth_nat hi] at this
theorem up_first {α : Type} [Inhabited α] {xs : List α} {q : α → Bool} {v : Int} (h : upI xs.length (fun j => q (nth xs j)) v) (hv : decide (v < (xs.length : Int)) = true) (hp : q (nth xs v) = true) : first xs q = some v.toNat := by
 have hi := up_in h hv
 refine first_some (fun x hx => ?_) hi.2 hp
 obtain ⟨i, hi', rfl⟩ := List.mem_take_iff_getElem.1 hx
 have : q (nth xs (i : Int)) = false := h.2.2 i (by omega) (by omega)
 rwa [nth_nat (by omega)] at this
theorem up_none {α : Type} [Inhabited α] {xs : List α} {q : α → Bool} {v : Int} (h : upI xs.length (fun j => q (nth xs j)) v) (hv : decide (v < (xs.length : Int)) = false) : first xs q = none :=
 first_none (up_all (up_end h hv))
theorem up_any {α : Type} [Inhabited α] {xs : List α} {q : α → Bool} {v : Int} (h : upI xs.length (fun j => q (nth xs j)) v) (hv : decide (v < (xs.length : Int)) = true) (hp : q (nth xs v) = true) : xs.any q = true := by
 rw [List.any_eq_true]; exact ⟨_, nth_mem (up_in h hv).2, hp⟩
theorem up_nany {α : Type} [Inhabited α] {xs : List α} {q : α → Bool} {v : Int} (h : upI xs.length (fun j => q (nth xs j)) v) (hv : decide (v < (xs.length : Int)) = false) : xs.any q = false := by
 rw [List.any_eq_false]
 intro x hx
 rw [up_all (up_end h hv) x hx]; simp
theorem not_eq {b : Bool} (h : (!b) = true) : b = false := by simpa using h
theorem same_lists {α : Type} [Inhabited α] {a b : List α} (hl : a.length = b.length) (h : ∀ j : Int, 0 ≤ j → j < a.length → nth a j = nth b j) : a = b := by
 apply List.ext_getElem hl
 intro i h1 h2
 have := h i (by omega) (by omega)
 rwa [nth_nat h1, nth_nat h2] at this
theorem eq_loop {α : Type} [Inhabited α] [DecidableEq α] {a b : List α} {ne : Int → Bool} (hne : ∀ v, ne v = true ↔ nth a v ≠ nth b v) :
  ((a.length ≤ 4611686018427387904) ∧ (b.length ≤ 4611686018427387904) → ((a.length : Int) != (b.length : Int)) = true → false = eqv a b) ∧ ((a.length ≤ 4611686018427387904) ∧ (b.length ≤ 4611686018427387904) ∧ ((!((a.length : Int) != (b.length : Int))) = true) →
   upI a.length ne 0 ∧ ∀ (v : Int), upI a.length ne v → (((decide (v < (a.length : Int))) = false → true = eqv a b) ∧ ((decide (v < (a.length : Int))) = true → (((0 ≤ v ∧ v.toNat < a.length) ∧ (0 ≤ v ∧ v.toNat < b.length)) ∧ ((ne v) = true → false = eqv a b)) ∧
    ((!(ne v)) = true → upI a.length ne (IntKind.i64.wrap (v + 1)) ∧ upM a.length (IntKind.i64.wrap (v + 1)) < upM a.length v)))) := by
 refine ⟨fun _ h => ?_, fun ⟨h1, h2, h3⟩ => ?_⟩
 ·have : a ≠ b := fun e => by subst e; simp at h
  simp [eqv, this]
 ·have hl : a.length = b.length := by have : (a.length : Int) = b.length := by simpa using h3
                                      omega
  refine ⟨up_start (len0 a), fun v hI => ⟨fun hv => ?_, fun hv => ⟨⟨⟨up_in hI hv, by rw [← hl]; exact up_in hI hv⟩, fun hn => ?_⟩, fun hn => up_step (lenI h1) hI hv (not_eq hn)⟩⟩⟩
  ·have : a = b := same_lists hl fun j j0 j1 => by
    have hq := up_end hI hv j j0 j1
    by_cases he : nth a j = nth b j
    ·exact he
    ·rw [(hne j).2 he] at hq; cases hq
   simp [eqv, this]
  ·have : a ≠ b := fun e => (hne v).1 hn (by rw [e])
   simp [eqv, this]
def fillI {α β : Type} (a : List α) (f : α → β) (d : β) (x : List β) (v : Int) : Prop := 0 ≤ v ∧ v ≤ a.length ∧ x = fillL a f d v
def fillM {α β : Type} (a : List α) (x : List β) (v : Int) : Nat := (a.length - v).toNat
theorem fill_loop {α β : Type} [Inhabited α] {a : List α} {f : α → β} {d : β} {res : List β} {φ : Int → Prop} (hs : a.length ≤ 4611686018427387904) (hr : a.map f = res) (hφ : ∀ v : Int, 0 ≤ v → v.toNat < a.length → φ v) :
  fillI a f d (List.replicate (a.length : Int).toNat d) 0 ∧ ∀ (x : List β) (v : Int), fillI a f d x v → (((decide (v < (a.length : Int))) = false → x.length ≤ 4611686018427387904 ∧ x = res) ∧ ((decide (v < (a.length : Int))) = true → ((0 ≤ v ∧ v.toNat < a.length) ∧ (φ v ∧ (0 ≤ v ∧ v.toNat < x.length))) ∧
   (fillI a f d (x.set v.toNat (f (nth a v))) (IntKind.i64.wrap (v + 1)) ∧ fillM a (x.set v.toNat (f (nth a v))) (IntKind.i64.wrap (v + 1)) < fillM a x v))) := by
 refine ⟨⟨Int.le_refl _, len0 a, by rw [fill_start]; simp⟩, fun x v ⟨h0, h1, hx⟩ => ⟨fun hv => ?_, fun hv => ?_⟩⟩
 ·have hv : ¬ v < (a.length : Int) := by simpa using hv
  subst hx
  exact ⟨by rw [fill_length h1]; exact hs, by rw [fill_end (by omega)]; exact hr⟩
 ·have hv : v < (a.length : Int) := by simpa using hv
  have hlt : v.toNat < a.length := by omega
  subst hx
  refine ⟨⟨⟨h0, hlt⟩, hφ v h0 hlt, h0, by rw [fill_length h1]; exact hlt⟩, ?_⟩
  rw [wrap_up (lenI hs) h0 hv]
  exact ⟨⟨by omega, by omega, fill_step h0 hlt⟩, by unfold fillM; omega⟩
theorem fill_loop0 {α β : Type} [Inhabited α] {a : List α} {f : α → β} {d : β} {res : List β} (hs : a.length ≤ 4611686018427387904) (hr : a.map f = res) :
  fillI a f d (List.replicate (a.length : Int).toNat d) 0 ∧ ∀ (x : List β) (v : Int), fillI a f d x v → (((decide (v < (a.length : Int))) = false → x.length ≤ 4611686018427387904 ∧ x = res) ∧ ((decide (v < (a.length : Int))) = true → ((0 ≤ v ∧ v.toNat < a.length) ∧ (0 ≤ v ∧ v.toNat < x.length)) ∧
   (fillI a f d (x.set v.toNat (f (nth a v))) (IntKind.i64.wrap (v + 1)) ∧ fillM a (x.set v.toNat (f (nth a v))) (IntKind.i64.wrap (v + 1)) < fillM a x v))) := by
 obtain ⟨h1, h2⟩ := fill_loop (φ := fun _ => True) (d := d) hs hr fun _ _ _ => trivial
 exact ⟨h1, fun x v hI => ⟨(h2 x v hI).1, fun hv => ⟨⟨((h2 x v hI).2 hv).1.1, ((h2 x v hI).2 hv).1.2.2⟩, ((h2 x v hI).2 hv).2⟩⟩⟩
theorem lessN_ok {n : Nat} {left : Int} (h0 : 0 ≤ left) (h1 : left ≤ 1048576) (h : ¬ lessN n left < 0) : 0 ≤ lessN n left ∧ lessN n left ≤ 1048576 := by
 refine ⟨by omega, ?_⟩
 unfold lessN at h ⊢
 split <;> omega
theorem lessN_minus {n m : Nat} {left : Int} (h0 : 0 ≤ left) (h : lessN n left < 0) : lessN (n + m) left = -1 := by
 rw [lessN_add h0, if_pos h]
theorem lessN_plus {n m : Nat} {left : Int} (h0 : 0 ≤ left) (h : ¬ lessN n left < 0) : lessN m (lessN n left) = lessN (n + m) left := by
 rw [lessN_add h0, if_neg h]
theorem wrap_len {α : Type} {xs : List α} {left : Int} (hn : xs.length ≤ 4611686018427387904) (h : 0 ≤ left ∧ left ≤ 1048576) : IntKind.i64.wrap (left - (xs.length : Int)) = left - xs.length := w64 (by omega) (by omega)
theorem sz_len {α : Type} {a : List α} {left : Int} (hp : 0 ≤ left ∧ left ≤ 1048576) (hn : a.length ≤ 4611686018427387904) :
  ((decide ((IntKind.i64.wrap (left - (a.length : Int))) < 0)) = true → (-1) = szL a left) ∧ ((!(decide ((IntKind.i64.wrap (left - (a.length : Int))) < 0))) = true → (IntKind.i64.wrap (left - (a.length : Int))) = szL a left) := by
 rw [wrap_len hn hp]
 unfold szL lessN
 constructor <;> intro h <;> split <;> simp_all <;> omega
def sumI {α : Type} (a : List α) (f : α → Nat) (left0 : Int) (left v : Int) : Prop := 0 ≤ v ∧ v ≤ a.length ∧ 0 ≤ left ∧ left ≤ 1048576 ∧ left = lessN (a.length + ((a.take v.toNat).map f).sum) left0
def sumM {α : Type} (a : List α) (left v : Int) : Nat := (a.length - v).toNat
theorem sum_loop {α : Type} [Inhabited α] {a : List α} {f : α → Nat} {g : α → Int → Int} {left : Int} (hg : ∀ x l, g x l = lessN (f x) l) (hp : 0 ≤ left ∧ left ≤ 1048576) (hn : a.length ≤ 4611686018427387904) :
  ((decide ((IntKind.i64.wrap (left - (a.length : Int))) < 0)) = true → (-1) = lessN (a.length + (a.map f).sum) left) ∧ ((!(decide ((IntKind.i64.wrap (left - (a.length : Int))) < 0))) = true →
   sumI a f left (IntKind.i64.wrap (left - (a.length : Int))) 0 ∧ ∀ (w : Int) (v : Int), sumI a f left w v → (((decide (v < (a.length : Int))) = false → w = lessN (a.length + (a.map f).sum) left) ∧ ((decide (v < (a.length : Int))) = true →
    (((0 ≤ v ∧ v.toNat < a.length) ∧ (okL (nth a v) w)) ∧ ((decide ((g (nth a v) w) < 0)) = true → (-1) = lessN (a.length + (a.map f).sum) left)) ∧ ((!(decide ((g (nth a v) w) < 0))) = true → sumI a f left (g (nth a v) w) (IntKind.i64.wrap (v + 1)) ∧ sumM a (g (nth a v) w) (IntKind.i64.wrap (v + 1)) < sumM a w v)))) := by
 rw [wrap_len hn hp]
 refine ⟨fun h => ?_, fun h => ⟨⟨Int.le_refl _, len0 a, ?_⟩, fun w v ⟨v0, v1, w0, w1, hw⟩ => ⟨fun hv => ?_, fun hv => ?_⟩⟩⟩
 ·have h : left - a.length < 0 := by simpa using h
  unfold lessN; rw [if_pos (by omega)]
 ·have h : ¬ left - a.length < 0 := by simpa using h
  refine ⟨by omega, by omega, ?_⟩
  simp only [Int.toNat_zero, List.take_zero, List.map_nil, List.sum_nil, Nat.add_zero]
  unfold lessN; rw [if_neg (by omega)]
 ·have hv : ¬ v < (a.length : Int) := by simpa using hv
  rw [hw, List.take_of_length_le (by omega)]
 ·have hv : v < (a.length : Int) := by simpa using hv
  have hlt : v.toNat < a.length := by omega
  have hs : ((a.take (v + 1).toNat).map f).sum = ((a.take v.toNat).map f).sum + f (nth a v) := by
   rw [show (v + 1).toNat = v.toNat + 1 by omega, List.take_succ_eq_append_getElem hlt, List.map_append, List.sum_append, nth_eq hlt]; simp
  have hnn : ¬ lessN (a.length + ((a.take v.toNat).map f).sum) left < 0 := by omega
  have hstep : g (nth a v) w = lessN (a.length + ((a.take (v + 1).toNat).map f).sum) left := by
   rw [hg, hw, lessN_plus hp.1 hnn, hs, Nat.add_assoc]
  refine ⟨⟨⟨⟨v0, hlt⟩, w0, w1⟩, fun h => ?_⟩, fun h => ?_⟩
  ·have h : g (nth a v) w < 0 := by simpa using h
   rw [hstep] at h
   have hd : (a.map f).sum = ((a.take (v + 1).toNat).map f).sum + ((a.drop (v + 1).toNat).map f).sum := by
    rw [← List.sum_append, ← List.map_append, List.take_append_drop]
   rw [hd, ← Nat.add_assoc, lessN_minus hp.1 h]
  ·have h : ¬ g (nth a v) w < 0 := by simpa using h
   rw [wrap_up (lenI hn) v0 hv]
   have := lessN_ok hp.1 hp.2 (hstep ▸ h)
   refine ⟨⟨by omega, by omega, by rw [hstep]; exact this.1, by rw [hstep]; exact this.2, hstep⟩, by unfold sumM; omega⟩
theorem sz_step {n m T : Nat} {left : Int} {R : Prop} (hp : 0 ≤ left ∧ left ≤ 1048576) (hT : T = n + m) (h : ¬ lessN n left < 0 → 0 ≤ lessN n left ∧ lessN n left ≤ 1048576 → R) :
  ((decide (lessN n left < 0)) = true → (-1) = lessN T left) ∧ ((!(decide (lessN n left < 0))) = true → R) := by
 refine ⟨fun hd => ?_, fun hd => ?_⟩
 ·have hd : lessN n left < 0 := by simpa using hd
  rw [hT, lessN_minus hp.1 hd]
 ·have hd : ¬ lessN n left < 0 := by simpa using hd
  exact h hd (lessN_ok hp.1 hp.2 hd)
theorem map_idt {α : Type} (l : List α) : l.map idt = idt l := by
 show l.map (fun x => x) = l
 simp
theorem mem_sum {α : Type} (f : α → Nat) {x : α} : ∀ {l : List α}, x ∈ l → f x ≤ (l.map f).sum
 | [], h => by cases h
 | y :: l, h => by
  rw [List.map_cons, List.sum_cons]
  rcases List.mem_cons.1 h with rfl | h
  ·omega
  ·have := mem_sum f h; omega
theorem has_iff {xs : List Int} {x : Int} : hasInt xs x = true ↔ x ∈ xs := by unfold hasInt; simp
theorem has_true {xs : List Int} {x k : Int} (hk : k.toNat < xs.length) (h : (x == nth xs k) = true) : hasInt xs x = true := by
 rw [has_iff, show x = nth xs k by simpa using h]; exact nth_mem hk
theorem has_false {xs : List Int} {x : Int} (h : ∀ j : Int, 0 ≤ j → j < xs.length → (x == nth xs j) = false) : hasInt xs x = false := by
 rw [← Bool.not_eq_true, has_iff]
 intro hm
 have := up_all (q := fun y => x == y) h x hm
 simp at this
theorem idxInt_has (xs : List Int) (x : Int) : (decide (idxInt xs x ≥ 0)) = hasInt xs x := by
 unfold idxInt
 cases h : first xs (fun y => x == y) with
 | none =>
  unfold first at h
  rw [List.findIdx?_eq_none_iff] at h
  have : hasInt xs x = false := by
   rw [← Bool.not_eq_true, has_iff]
   intro hm
   have := h x hm
   simp at this
  rw [this]; rfl
 | some i =>
  unfold first at h
  rw [List.findIdx?_eq_some_iff_getElem] at h
  obtain ⟨hi, hp, _⟩ := h
  have : hasInt xs x = true := by rw [has_iff, show x = xs[i] by simpa using hp]; exact List.getElem_mem hi
  rw [this]
  show decide ((i : Int) ≥ 0) = true
  simp
theorem dup_true {xs : List Int} {v : Int} (h0 : 0 ≤ v) (hv : v.toNat < xs.length) (h : hasInt (xs.take v.toNat) (nth xs v) = true) : dup xs = true := by
 rw [has_iff] at h
 unfold dup
 simp only [Bool.not_eq_true', decide_eq_false_iff_not]
 intro hn
 obtain ⟨i, hi, he⟩ := List.mem_take_iff_getElem.1 h
 rw [nth_eq hv] at he
 exact (List.pairwise_iff_getElem.1 hn) i v.toNat (by omega) hv (by omega) he
theorem dup_false {xs : List Int} (h : ∀ j : Int, 0 ≤ j → j < xs.length → hasInt (xs.take j.toNat) (nth xs j) = false) : dup xs = false := by
 unfold dup
 simp only [Bool.not_eq_false', decide_eq_true_eq]
 unfold List.Nodup
 rw [List.pairwise_iff_getElem]
 intro i j hi hj hlt he
 have := h j (by omega) (by omega)
 rw [← Bool.not_eq_true, has_iff, nth_nat hj] at this
 exact this (by rw [List.mem_take_iff_getElem]; exact ⟨i, by omega, he⟩)
end Go.Proofs.Ytglpfccgmfhkdaa.Fw
