/- How ways are settled, one after the other: the ways lie in one block, in which of their sections a train has been in blocks of their own. -/

import Derived.Test.YtglpfccgmfhkdaaSpE
set_option linter.unusedVariables false
namespace Go.Proofs.Ytglpfccgmfhkdaa.Fw
open Go
structure FamAt (V : List Held) (ids : List Nat) (v : Int) (h : Held) (ws : List Held) (bs : List (List Bool)) : Prop where
 ok : FamOk ws ids bs
 nd : ∀ i j k : Nat, ids[i]? = some k → ids[j]? = some k → i = j
 lt : v.toNat < ws.length
 vw : view ws ids bs = V.set v.toNat h
 len : ∀ b ∈ bs, b.length ≤ 1048576
section
variable {V : List Held} {ids : List Nat} {v : Int} {h : Held} {ws : List Held} {bs : List (List Bool)}
theorem FamAt.ll (F : FamAt V ids v h ws bs) : ws.length = ids.length ∧ v.toNat < ws.length := ⟨F.ok.len, F.lt⟩
theorem FamAt.vlen (F : FamAt V ids v h ws bs) : V.length = ws.length := by
 have := congrArg List.length F.vw
 rw [view_len F.ok, List.length_set] at this; exact this.symm
theorem FamAt.id (F : FamAt V ids v h ws bs) : ids[v.toNat]? = some (nth ids v) := nth_some (by rw [← F.ok.len]; exact F.lt)
theorem FamAt.idlt (F : FamAt V ids v h ws bs) : nth ids v < bs.length := F.ok.lt _ _ F.id
theorem FamAt.row (F : FamAt V ids v h ws bs) : h = { nth ws v with been := bs.getD (nth ids v) [] } := by
 have h1 := view_get (bs := bs) (nth_some F.lt) F.id
 rw [F.vw, List.getElem?_set_self (by rw [F.vlen]; exact F.lt)] at h1
 exact Option.some.inj h1
theorem FamAt.state (F : FamAt V ids v h ws bs) : (nth ws v).state = h.state := by rw [F.row]
theorem FamAt.gone (F : FamAt V ids v h ws bs) : (nth ws v).gone = h.gone := by rw [F.row]
theorem FamAt.shown (F : FamAt V ids v h ws bs) : (nth ws v).shown = h.shown := by rw [F.row]
theorem FamAt.timer (F : FamAt V ids v h ws bs) : (nth ws v).timer = h.timer := by rw [F.row]
theorem FamAt.been (F : FamAt V ids v h ws bs) : bs.getD (nth ids v) [] = h.been := by rw [F.row]
theorem FamAt.blen (F : FamAt V ids v h ws bs) : (nth ws v).been.length = h.been.length := by
 rw [← F.been]; exact F.ok.been _ _ _ (nth_some F.lt) F.id
theorem FamAt.start (ok : FamOk ws ids bs) (nd : ∀ i j k : Nat, ids[i]? = some k → ids[j]? = some k → i = j) (lt : v.toNat < ws.length) (vw : view ws ids bs = V) (len : ∀ b ∈ bs, b.length ≤ 1048576) : FamAt V ids v (nth V v) ws bs := by
 have hl : v.toNat < V.length := by rw [← vw, view_len ok]; exact lt
 exact ⟨ok, nd, lt, by rw [vw, nth_eq hl]; exact (List.set_getElem_self _).symm, len⟩
theorem FamAt.setW (F : FamAt V ids v h ws bs) (x : Held) (hx : x.been.length = h.been.length) : FamAt V ids v { x with been := h.been } (ws.set v.toNat x) bs where
 ok := ⟨by rw [List.length_set]; exact F.ok.len, F.ok.lt, fun i id y h1 h2 => by
  rw [List.getElem?_set] at h1
  split at h1
  ·rename_i e; subst e
   rw [if_pos F.lt] at h1; cases h1
   rw [F.id] at h2; cases h2
   rw [hx, F.been]
  ·exact F.ok.been i id y h1 h2⟩
 nd := F.nd
 lt := by rw [List.length_set]; exact F.lt
 vw := by
  apply List.ext_getElem?
  intro j
  have hj := congrArg (·[j]?) F.vw
  simp only [view, List.getElem?_zipWith, List.getElem?_set] at hj ⊢
  by_cases e : v.toNat = j
  ·subst e
   have hv := F.vlen
   have := F.lt
   rw [if_pos rfl, if_pos rfl, if_pos this, if_pos (by omega), F.id]
   show some _ = some _
   rw [F.been]
  ·rw [if_neg e] at hj ⊢
   rw [if_neg e]; exact hj
 len := F.len
theorem FamAt.setState (F : FamAt V ids v h ws bs) (x : Int) : FamAt V ids v { h with state := x } (ws.set v.toNat ({ state := x, gone := (nth ws v).gone, been := (nth ws v).been, shown := (nth ws v).shown, timer := (nth ws v).timer } : Held)) bs := by
 have := F.setW ({ state := x, gone := (nth ws v).gone, been := (nth ws v).been, shown := (nth ws v).shown, timer := (nth ws v).timer } : Held) F.blen
 simpa only [F.gone, F.shown, F.timer] using this
theorem FamAt.setGone (F : FamAt V ids v h ws bs) (x : Int) : FamAt V ids v { h with gone := x } (ws.set v.toNat ({ state := (nth ws v).state, gone := x, been := (nth ws v).been, shown := (nth ws v).shown, timer := (nth ws v).timer } : Held)) bs := by
 have := F.setW ({ state := (nth ws v).state, gone := x, been := (nth ws v).been, shown := (nth ws v).shown, timer := (nth ws v).timer } : Held) F.blen
 simpa only [F.state, F.shown, F.timer] using this
theorem FamAt.setShown (F : FamAt V ids v h ws bs) (x : Bool) : FamAt V ids v { h with shown := x } (ws.set v.toNat ({ state := (nth ws v).state, gone := (nth ws v).gone, been := (nth ws v).been, shown := x, timer := (nth ws v).timer } : Held)) bs := by
 have := F.setW ({ state := (nth ws v).state, gone := (nth ws v).gone, been := (nth ws v).been, shown := x, timer := (nth ws v).timer } : Held) F.blen
 simpa only [F.state, F.gone, F.timer] using this
theorem FamAt.setTimer (F : FamAt V ids v h ws bs) (x : Int) : FamAt V ids v { h with timer := x } (ws.set v.toNat ({ state := (nth ws v).state, gone := (nth ws v).gone, been := (nth ws v).been, shown := (nth ws v).shown, timer := x } : Held)) bs := by
 have := F.setW ({ state := (nth ws v).state, gone := (nth ws v).gone, been := (nth ws v).been, shown := (nth ws v).shown, timer := x } : Held) F.blen
 simpa only [F.state, F.gone, F.shown] using this
theorem FamAt.setB (F : FamAt V ids v h ws bs) (b : List Bool) (hb : b.length = h.been.length) : FamAt V ids v { h with been := b } ws (bs.set (nth ids v) b) where
 ok := ⟨F.ok.len, fun i id hi => by rw [List.length_set]; exact F.ok.lt i id hi, fun i id y h1 h2 => by
  rw [F.ok.been i id y h1 h2, List.getD_eq_getElem?_getD, List.getD_eq_getElem?_getD, List.getElem?_set]
  split
  ·rename_i e; subst e
   rw [if_pos F.idlt, ← List.getD_eq_getElem?_getD, F.been]; exact hb.symm
  ·rfl⟩
 nd := F.nd
 lt := F.lt
 vw := by
  apply List.ext_getElem?
  intro j
  have hj := congrArg (·[j]?) F.vw
  simp only [view, List.getElem?_zipWith, List.getElem?_set] at hj ⊢
  by_cases e : v.toNat = j
  ·subst e
   have hv := F.vlen
   have := F.lt
   rw [if_pos rfl, if_pos (by omega), F.id, nth_some F.lt]
   simp only [List.getD_eq_getElem?_getD, List.getElem?_set, if_pos F.idlt]
   rw [F.row]; simp
  ·rw [if_neg e] at hj ⊢
   rw [← hj]
   cases h1 : ws[j]? with
   | none => rfl
   | some y =>
    cases h2 : ids[j]? with
    | none => rfl
    | some id =>
     have hne : nth ids v ≠ id := fun hid => by
      have h3 := F.id
      rw [hid] at h3
      exact e (F.nd _ _ _ h3 h2)
     simp only [List.getD_eq_getElem?_getD, List.getElem?_set, if_neg hne]
 len := fun x hx => by
  rcases List.mem_or_eq_of_mem_set hx with hx | rfl
  ·exact F.len x hx
  ·rw [hb, ← F.been, List.getD_eq_getElem?_getD, List.getElem?_eq_getElem F.idlt]; exact F.len _ (List.getElem_mem F.idlt)
theorem FamAt.new (F : FamAt V ids v h ws bs) (x : Held) (hx : x.been.length ≤ 1048576) : FamAt V (ids.set v.toNat bs.length) v x (ws.set v.toNat x) (bs ++ [x.been]) where
 ok := ⟨by rw [List.length_set, List.length_set]; exact F.ok.len, fun i id hi => by
   rw [List.getElem?_set] at hi
   rw [List.length_append, List.length_singleton]
   split at hi
   ·split at hi
    ·cases hi; omega
    ·cases hi
   ·have := F.ok.lt i id hi; omega, fun i id y h1 h2 => by
   rw [List.getElem?_set] at h1 h2
   split at h1
   ·rename_i e; subst e
    have := F.ok.len
    have := F.lt
    rw [if_pos F.lt] at h1; rw [if_pos rfl, if_pos (by omega)] at h2
    cases h1; cases h2; simp
   ·rename_i e
    rw [if_neg e] at h2
    rw [F.ok.been i id y h1 h2, List.getD_eq_getElem?_getD, List.getD_eq_getElem?_getD, List.getElem?_append_left (F.ok.lt i id h2)]⟩
 nd := fun i j k hi hj => by
  rw [List.getElem?_set] at hi hj
  have hlt : ∀ q, ids[q]? ≠ some bs.length := fun q hq => by have := F.ok.lt q _ hq; omega
  split at hi
  ·rename_i e; subst e
   split at hi
   ·cases hi
    split at hj
    ·rename_i e; exact e
    ·exact absurd hj (hlt j)
   ·cases hi
  ·split at hj
   ·rename_i e; subst e
    split at hj
    ·cases hj; exact absurd hi (hlt i)
    ·cases hj
   ·exact F.nd i j k hi hj
 lt := by rw [List.length_set]; exact F.lt
 vw := by
  apply List.ext_getElem?
  intro j
  have hj := congrArg (·[j]?) F.vw
  simp only [view, List.getElem?_zipWith, List.getElem?_set] at hj ⊢
  by_cases e : v.toNat = j
  ·subst e
   have hv := F.vlen
   have := F.lt
   have := F.ok.len
   rw [if_pos rfl, if_pos rfl, if_pos rfl, if_pos F.lt, if_pos (by omega), if_pos (by omega)]
   simp
  ·rw [if_neg e] at hj ⊢
   rw [if_neg e, if_neg e, ← hj]
   cases h1 : ws[j]? with
   | none => rfl
   | some y =>
    cases h2 : ids[j]? with
    | none => rfl
    | some id =>
     simp only
     rw [List.getD_eq_getElem?_getD, List.getD_eq_getElem?_getD, List.getElem?_append_left (F.ok.lt j id h2)]
 len := fun b hb => by
  rcases List.mem_append.1 hb with hb | hb
  ·exact F.len b hb
  ·rw [List.mem_singleton.1 hb]; exact hx
end
theorem fam_range (ws : List Held) : FamOk ws (List.range ws.length) (ws.map Held.been) ∧ (∀ i j k : Nat, (List.range ws.length)[i]? = some k → (List.range ws.length)[j]? = some k → i = j) ∧ view ws (List.range ws.length) (ws.map Held.been) = ws := by
 refine ⟨⟨by simp, fun i id h => ?_, fun i id h h1 h2 => ?_⟩, fun i j k h1 h2 => ?_, ?_⟩
 ·obtain ⟨hi, rfl⟩ := List.getElem?_eq_some_iff.1 h
  simpa using hi
 ·obtain ⟨hi, rfl⟩ := List.getElem?_eq_some_iff.1 h2
  simp [h1]
 ·obtain ⟨hi, rfl⟩ := List.getElem?_eq_some_iff.1 h1
  obtain ⟨hj, e⟩ := List.getElem?_eq_some_iff.1 h2
  simpa using e.symm
 ·apply List.ext_getElem?
  intro j
  unfold view
  rw [List.getElem?_zipWith]
  rcases Nat.lt_or_ge j ws.length with hj | hj
  ·rw [List.getElem?_range hj, List.getElem?_eq_getElem hj]
   simp [hj]
  ·rw [List.getElem?_eq_none hj]
theorem settleN_same (p : Plan) (f : Frame) : ∀ n, (settleN p n f).ok = f.ok ∧ (settleN p n f).occ = f.occ ∧ (settleN p n f).points = f.points
 | 0 => ⟨rfl, rfl, rfl⟩
 | n + 1 => settleN_same p f n
theorem goOn_le {s : List Int} {f : Frame} {been : List Bool} : ∀ (n g : Nat), g ≤ s.length → g ≤ goOn s f been n g ∧ goOn s f been n g ≤ s.length
 | 0, g, h => ⟨Nat.le_refl _, h⟩
 | n + 1, g, h => by
  unfold goOn
  split
  ·rename_i hc
   have := goOn_le (f := f) (been := been) n (g + 1) hc.1
   exact ⟨by omega, this.2⟩
  ·exact ⟨Nat.le_refl _, h⟩
theorem passH_ok {s : List Int} {f : Frame} {h : Held} (hb : h.been.length = s.length) (hg : 0 ≤ h.gone ∧ h.gone ≤ h.been.length) : (passH s f h).been.length = s.length ∧ 0 ≤ (passH s f h).gone ∧ (passH s f h).gone ≤ (passH s f h).been.length := by
 unfold passH
 simp only
 have hl : (List.zipWith (fun b x => b || occAt f x) h.been s).length = s.length := by rw [List.length_zipWith]; omega
 have hh := (goOn_le (s := s) (f := f) (been := List.zipWith (fun b x => b || occAt f x) h.been s) s.length h.gone.toNat (by omega)).2
 split
 ·simp [idleN]
 ·exact ⟨hl, Int.natCast_nonneg _, by simp only; rw [hl]; omega⟩
theorem stepH_ok {p : Plan} {f : Frame} {i : Nat} (hb : (nth f.ways i).been.length = (nth p.ways i).sections.length) (hg : 0 ≤ (nth f.ways i).gone ∧ (nth f.ways i).gone ≤ (nth f.ways i).been.length) :
  (stepH p f i).been.length = (nth p.ways i).sections.length ∧ 0 ≤ (stepH p f i).gone ∧ (stepH p f i).gone ≤ (stepH p f i).been.length := by
 unfold stepH
 simp only
 split
 ·exact ⟨hb, hg⟩
 ·have h1 : ∀ (c : Prop) [Decidable c] (x y : Held), x.been = y.been → x.gone = y.gone → (if c then x else y).been = y.been ∧ (if c then x else y).gone = y.gone := fun c _ x y e1 e2 => by
   split
   ·exact ⟨e1, e2⟩
   ·exact ⟨rfl, rfl⟩
  generalize hA : (if (nth f.ways i).state ≠ 4 ∧ occAt f (nth (nth p.ways i).sections 0) = true then { nth f.ways i with state := 4, timer := 0 } else nth f.ways i) = A
  have hA' : A.been = (nth f.ways i).been ∧ A.gone = (nth f.ways i).gone := by rw [← hA]; exact h1 _ _ _ rfl rfl
  generalize hB : (if A.state = 1 ∨ A.state = 2 then (if provedF p f i = true then { A with state := 2, shown := true } else { A with state := 1 }) else A) = B
  have hB' : B.been = (nth f.ways i).been ∧ B.gone = (nth f.ways i).gone := by
   rw [← hB, ← hA'.1, ← hA'.2]
   exact h1 _ _ _ (by split <;> rfl) (by split <;> rfl)
  have e1 : B.been.length = (nth p.ways i).sections.length := by rw [hB'.1]; exact hb
  have e2 : 0 ≤ B.gone ∧ B.gone ≤ B.been.length := by rw [hB'.1, hB'.2]; exact hg
  split
  ·exact passH_ok e1 e2
  ·exact ⟨e1, e2⟩
theorem settleN_in {p : Plan} {f : Frame} (h : FrameIn p f) : ∀ n, FrameIn p (settleN p n f)
 | 0 => h
 | n + 1 => by
  have ih := settleN_in h n
  show FrameIn p { settleN p n f with ways := (settleN p n f).ways.set n (stepH p (settleN p n f) n) }
  have key : n < (settleN p n f).ways.length → (stepH p (settleN p n f) n).been.length = (nth p.ways n).sections.length ∧ 0 ≤ (stepH p (settleN p n f) n).gone ∧ (stepH p (settleN p n f) n).gone ≤ (stepH p (settleN p n f) n).been.length := fun hn => by
   have hw := ih.ways
   have h1 : (settleN p n f).ways[n]? = some (nth (settleN p n f).ways n) := by rw [nth_nat hn]; exact List.getElem?_eq_getElem hn
   have h2 : p.ways[n]? = some (nth p.ways n) := by rw [nth_nat (by omega)]; exact List.getElem?_eq_getElem (by omega)
   exact stepH_ok (ih.been n _ _ h1 h2) (ih.gone _ (List.mem_of_getElem? h1))
  refine ⟨ih.occ, ih.points, by rw [List.length_set]; exact ih.ways, fun i x w h1 h2 => ?_, fun x hx => ?_⟩
  ·replace h1 : ((settleN p n f).ways.set n (stepH p (settleN p n f) n))[i]? = some x := h1
   rw [List.getElem?_set] at h1
   split at h1
   ·rename_i e; subst e
    split at h1
    ·rename_i hn
     cases h1
     have hw := ih.ways
     rw [(key hn).1, nth_nat (by omega)]
     rw [List.getElem?_eq_getElem (by omega)] at h2
     cases h2; rfl
    ·cases h1
   ·exact ih.been i x w h1 h2
  ·rcases List.mem_or_eq_of_mem_set hx with hx | rfl
   ·exact ih.gone x hx
   ·by_cases hn : n < (settleN p n f).ways.length
    ·exact (key hn).2
    ·rw [List.set_eq_of_length_le (by omega)] at hx
     exact ih.gone _ hx
theorem settleN_len (p : Plan) (f : Frame) : ∀ n, (settleN p n f).ways.length = f.ways.length
 | 0 => rfl
 | n + 1 => by show ((settleN p n f).ways.set n _).length = _; rw [List.length_set]; exact settleN_len p f n
theorem provedF_same {p : Plan} {f g : Frame} {i : Int} (h1 : f.occ = g.occ) (h2 : f.points = g.points) : provedF p f i = provedF p g i := by
 unfold provedF someF occAt
 rw [h1, h2]
def upBeen (s : List Int) (f : Frame) (b : List Bool) (v : Nat) : List Bool := List.zipWith (fun b x => b || occAt f x) (b.take v) (s.take v) ++ b.drop v
theorem upBeen_len {s : List Int} {f : Frame} {b : List Bool} {v : Nat} (hl : b.length = s.length) (hv : v ≤ s.length) : (upBeen s f b v).length = b.length := by
 unfold upBeen
 rw [List.length_append, List.length_zipWith, List.length_take, List.length_take, List.length_drop]; omega
theorem upBeen_0 (s : List Int) (f : Frame) (b : List Bool) : upBeen s f b 0 = b := by simp [upBeen]
theorem upBeen_end {s : List Int} {f : Frame} {b : List Bool} {v : Nat} (hl : b.length = s.length) (hv : s.length ≤ v) : upBeen s f b v = List.zipWith (fun b x => b || occAt f x) b s := by
 unfold upBeen
 rw [List.take_of_length_le (by omega), List.take_of_length_le hv, List.drop_of_length_le (by omega), List.append_nil]
theorem upBeen_at {s : List Int} {f : Frame} {b : List Bool} {v : Nat} (hl : b.length = s.length) (hv : v < s.length) : nth (upBeen s f b v) v = b[v] := by
 rw [nth_nat (by rw [upBeen_len hl (by omega)]; omega)]
 unfold upBeen
 rw [List.getElem_append_right (by rw [List.length_zipWith, List.length_take, List.length_take]; omega)]
 simp only [List.length_zipWith, List.length_take, List.getElem_drop]
 congr 1; omega
theorem upBeen_step {s : List Int} {f : Frame} {b : List Bool} {v : Nat} (hl : b.length = s.length) (hv : v < s.length) : (upBeen s f b v).set v (b[v] || occAt f s[v]) = upBeen s f b (v + 1) := by
 unfold upBeen
 have hlen : (List.zipWith (fun b x => b || occAt f x) (b.take v) (s.take v)).length = v := by rw [List.length_zipWith, List.length_take, List.length_take]; omega
 rw [List.set_append_right _ _ (by omega), hlen, Nat.sub_self, List.take_succ_eq_append_getElem (by omega), List.take_succ_eq_append_getElem hv, List.zipWith_append (by rw [List.length_take, List.length_take]; omega), List.append_assoc]
 congr 1
 rw [List.drop_eq_getElem_cons (by omega : v < b.length)]
 rfl
def goCond (s : List Int) (f : Frame) (been : List Bool) (g : Int) : Bool :=
 decide (g < (s.length : Int)) && (nth been g && ((!(nth f.occ (nth s g))) && ((g == IntKind.i64.wrap ((s.length : Int) - 1)) || nth been (IntKind.i64.wrap (g + 1)))))
theorem goCond_iff {s : List Int} {f : Frame} {been : List Bool} {g : Nat} (hs : s.length ≤ 1048576) (hg : g ≤ s.length) :
  goCond s f been g = true ↔ g < s.length ∧ been.getD g false = true ∧ occAt f (s.getD g 0) = false ∧ (g + 1 = s.length ∨ been.getD (g + 1) false = true) := by
 unfold goCond
 rw [w64 (by omega) (by omega), w64 (by omega) (by omega)]
 have e1 : nth been (g : Int) = been.getD g false := rfl
 have e2 : nth been ((g : Int) + 1) = been.getD (g + 1) false := rfl
 have e3 : nth s (g : Int) = s.getD g 0 := rfl
 rw [e1, e2, e3]
 simp only [Bool.and_eq_true, Bool.or_eq_true, decide_eq_true_eq, Bool.not_eq_true', beq_iff_eq]
 constructor
 ·rintro ⟨h1, h2, h3, h4⟩; exact ⟨by omega, h2, h3, h4.imp (fun h => by omega) _root_.id⟩
 ·rintro ⟨h1, h2, h3, h4⟩; exact ⟨by omega, h2, h3, h4.imp (fun h => by omega) _root_.id⟩
def goI (s : List Int) (f : Frame) (been : List Bool) (g0 g : Int) : Prop := 0 ≤ g ∧ g ≤ s.length ∧ goOn s f been s.length g0.toNat = goOn s f been (s.length - g.toNat) g.toNat
theorem goOn_stop {s : List Int} {f : Frame} {been : List Bool} {n g : Nat} (h : ¬ (g < s.length ∧ been.getD g false = true ∧ occAt f (s.getD g 0) = false ∧ (g + 1 = s.length ∨ been.getD (g + 1) false = true))) : goOn s f been n g = g := by
 cases n with
 | zero => rfl
 | succ n => unfold goOn; rw [if_neg h]
theorem goOn_fuel {s : List Int} {f : Frame} {been : List Bool} : ∀ (n m g : Nat), s.length ≤ n + g → s.length ≤ m + g → goOn s f been n g = goOn s f been m g
 | 0, m, g, h1, h2 => by
  rw [goOn_stop (n := m) fun h => by omega]; rfl
 | n + 1, 0, g, h1, h2 => by rw [goOn_stop (n := n + 1) fun h => by omega]; rfl
 | n + 1, m + 1, g, h1, h2 => by
  unfold goOn
  split
  ·exact goOn_fuel n m (g + 1) (by omega) (by omega)
  ·rfl
theorem goI_start {s : List Int} {f : Frame} {been : List Bool} {g : Int} (h0 : 0 ≤ g) (h1 : g ≤ s.length) : goI s f been g g := ⟨h0, h1, goOn_fuel _ _ _ (by omega) (by omega)⟩
theorem goI_step {s : List Int} {f : Frame} {been : List Bool} {g0 g : Int} (hs : s.length ≤ 1048576) (h : goI s f been g0 g) (hc : goCond s f been g = true) : goI s f been g0 (IntKind.i64.wrap (g + 1)) ∧ g < s.length := by
 obtain ⟨h0, h1, h2⟩ := h
 obtain ⟨k, rfl⟩ := Int.eq_ofNat_of_zero_le h0
 have hc := (goCond_iff hs (by omega)).1 hc
 rw [w64 (by omega) (by omega)]
 refine ⟨⟨by omega, by omega, ?_⟩, by omega⟩
 rw [h2]
 simp only [Int.toNat_natCast]
 rw [show ((k : Int) + 1).toNat = k + 1 by omega, show s.length - k = (s.length - (k + 1)) + 1 by omega]
 conv => lhs; unfold goOn
 rw [if_pos hc]
theorem goI_end {s : List Int} {f : Frame} {been : List Bool} {g0 g : Int} (hs : s.length ≤ 1048576) (h : goI s f been g0 g) (hc : goCond s f been g = false) : (goOn s f been s.length g0.toNat : Int) = g := by
 obtain ⟨h0, h1, h2⟩ := h
 obtain ⟨k, rfl⟩ := Int.eq_ofNat_of_zero_le h0
 rw [h2]
 simp only [Int.toNat_natCast]
 rw [goOn_stop fun hh => by rw [(goCond_iff hs (by omega)).2 hh] at hc; cases hc]
def setI (p : Plan) (f : Frame) (bs : List (List Bool)) (ids : List Nat) (v : Int) (ws : List Held) : Prop :=
 upI f.ways.length (fun _ => false) v ∧ FamOk ws ids bs ∧ (∀ i j k : Nat, ids[i]? = some k → ids[j]? = some k → i = j) ∧ view ws ids bs = (settleN p v.toNat f).ways ∧ ∀ b ∈ bs, b.length ≤ 1048576
def atN (p : Plan) (f : Frame) (v : Int) : Frame := settleN p v.toNat f
def secs (p : Plan) (v : Int) : List Int := (nth p.ways v).sections
def preA (p : Plan) (f : Frame) (v : Int) : Held :=
 let G := atN p f v
 let h := nth G.ways v
 if h.state ≠ 4 ∧ occAt G (nth (secs p v) 0) = true then { h with state := 4, timer := 0 } else h
def preH (p : Plan) (f : Frame) (v : Int) : Held :=
 let h := preA p f v
 if h.state = 1 ∨ h.state = 2 then (if provedF p (atN p f v) v = true then { h with state := 2, shown := true } else { h with state := 1 }) else h
def beenN (p : Plan) (f : Frame) (v : Int) : List Bool := List.zipWith (fun b x => b || occAt (atN p f v) x) (preH p f v).been (secs p v)
theorem stepH_eq {p : Plan} {f : Frame} {v : Int} (h0 : 0 ≤ v) : stepH p (atN p f v) v.toNat = if (nth (atN p f v).ways v).state = 0 then nth (atN p f v).ways v else if (preH p f v).state = 4 then passH (secs p v) (atN p f v) (preH p f v) else preH p f v := by
 unfold stepH preH preA secs
 rw [nth_toNat h0, nth_toNat h0, Int.toNat_of_nonneg h0]
theorem preA_been {p : Plan} {f : Frame} {v : Int} : (preA p f v).been = (nth (atN p f v).ways v).been ∧ (preA p f v).gone = (nth (atN p f v).ways v).gone := by
 unfold preA; simp only; split <;> exact ⟨rfl, rfl⟩
theorem preH_been {p : Plan} {f : Frame} {v : Int} : (preH p f v).been = (nth (atN p f v).ways v).been ∧ (preH p f v).gone = (nth (atN p f v).ways v).gone := by
 rw [← preA_been.1, ← preA_been.2]
 unfold preH; simp only; split
 ·split <;> exact ⟨rfl, rfl⟩
 ·exact ⟨rfl, rfl⟩
theorem set_next {p : Plan} {f : Frame} {v : Int} {h : Held} {ws : List Held} {ids : List Nat} {bs : List (List Bool)} (hn : (f.ways.length : Int) ≤ 4611686018427387904) (hI : upI f.ways.length (fun _ => false) v) (hv : decide (v < (f.ways.length : Int)) = true)
  (F : FamAt (atN p f v).ways ids v h ws bs) (hh : h = stepH p (atN p f v) v.toNat) : setI p f bs ids (IntKind.i64.wrap (v + 1)) ws ∧ upM f.ways.length (IntKind.i64.wrap (v + 1)) < upM f.ways.length v := by
 have hst := up_step hn hI hv rfl
 refine ⟨⟨hst.1, F.ok, F.nd, ?_, F.len⟩, hst.2⟩
 have h0 := hI.1
 have hv : v < (f.ways.length : Int) := by simpa using hv
 rw [wrap_up hn h0 hv, show (v + 1).toNat = v.toNat + 1 by omega, F.vw, hh]
 rfl
end Go.Proofs.Ytglpfccgmfhkdaa.Fw
