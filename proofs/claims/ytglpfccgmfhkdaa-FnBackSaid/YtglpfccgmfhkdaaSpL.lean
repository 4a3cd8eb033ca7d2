/- A way that is made; a way that is taken back. -/

import Derived.Test.YtglpfccgmfhkdaaSpK
set_option linter.unusedVariables false
namespace Go.Proofs.Ytglpfccgmfhkdaa.Fw
open Go
def ints (n : Nat) : List Int := (List.range n).map Int.ofNat
theorem ints_s (n : Nat) : ints (n + 1) = ints n ++ [(n : Int)] := by unfold ints; rw [List.range_succ, List.map_append]; rfl
theorem ints_len (n : Nat) : (ints n).length = n := by unfold ints; rw [List.length_map, List.length_range]
def madeWay (n m h : Int) : Plan := ⟨IntKind.i64.wrap (n + 1), ints m.toNat, [⟨ints n.toNat, (ints m.toNat).map fun i => ⟨i, 2⟩, [], [], [n]⟩], [[true]], h⟩
def madePre (n m h : Int) : Prop := 0 ≤ n ∧ n ≤ 1048576 ∧ 0 ≤ m ∧ m ≤ 1048576
def wByte (c : List UInt8) (i : Int) : Int := if c = [] then 0 else ((nth c (i.tmod c.length)).toNat : Int)
def wBytePre (c : List UInt8) (i : Int) : Prop := c.length ≤ 1048576 ∧ 0 ≤ i
theorem wByte_in (c : List UInt8) (i : Int) : 0 ≤ wByte c i ∧ wByte c i ≤ 255 := by
 unfold wByte
 split
 ·omega
 ·have := (nth c (i.tmod c.length)).toNat_lt
  omega
def fA : Frame := ⟨true, [false, false, false, true], [], [⟨0, 0, [false, false, false], false, 0⟩]⟩
def fB : Frame := ⟨true, [false, false, false, true], [], [⟨2, 0, [false, false, false], true, 0⟩]⟩
def fT (t : Int) : Frame := ⟨true, [false, false, false, true], [], [⟨3, 0, [false, false, false], true, t⟩]⟩
def fU (t : Int) : Frame := ⟨true, [true, false, false, true], [], [⟨4, 0, [true, false, false], true, t⟩]⟩
def bk1 (h : Int) : List Done := runF (madeWay 3 0 h) [Event.mk 1 0 0, Event.mk 2 0 0]
def bk2 (h : Int) : List Done := runF (madeWay 3 1 h) [Event.mk 3 3 0, Event.mk 1 0 0, Event.mk 2 0 0]
def bkOk (h : Int) : Bool := planGood (madeWay 3 0 h) && decide ((bk1 h).length = 2) && decide ((bk2 h).length = 3) && decide ((nth (bk1 h) 1).frame.ways.length = 1) && decide ((nth (bk2 h) 2).frame.ways.length = 1) &&
 decide ((nth (nth (bk1 h) 1).frame.ways 0).state = 0) && decide ((nth (nth (bk2 h) 2).frame.ways 0).state = 0) &&
 decide (runFrom (madeWay 3 0 h) (beginF (madeWay 3 0 h)) [Event.mk 3 3 0, Event.mk 1 0 0, Event.mk 2 0 0] = [⟨0, fA⟩, ⟨0, fB⟩, ⟨0, fT h⟩]) && decide (lastOf (madeWay 3 0 h) (beginF (madeWay 3 0 h)) [Event.mk 3 3 0, Event.mk 1 0 0, Event.mk 2 0 0] = fT h)
theorem bk_ok : ((List.range 40).all fun k => bkOk (k + 1)) = true := by kernel_rfl
theorem bk_tick (h : Int) : ((List.range 40).all fun k => evGood (madeWay 3 0 h) ⟨7, 0, 0⟩ && decide (doF (madeWay 3 0 h) (fT (k + 1)) ⟨7, 0, 0⟩ = ⟨0, bif Nat.beq k 0 then fA else fT k⟩) &&
  evGood (madeWay 3 0 h) ⟨3, 0, 0⟩ && decide (doF (madeWay 3 0 h) (fT (k + 1)) ⟨3, 0, 0⟩ = ⟨0, fU 0⟩)) = true := by kernel_rfl
theorem bk_used (h : Int) : decide (doF (madeWay 3 0 h) (fU 0) ⟨7, 0, 0⟩ = ⟨0, fU 0⟩) = true := by kernel_rfl
def listN (i : Nat) : Nat → List Event
 | 0 => [Event.mk 3 3 0, Event.mk 1 0 0, Event.mk 2 0 0]
 | n + 1 => (if n = i then listN i n ++ [Event.mk 3 0 0] else listN i n) ++ [Event.mk 7 0 0]
def stN (h i v : Nat) : Int := if v = 0 then 0 else if v = 1 then 2 else if v < 3 + i ∧ ¬ (i = h ∧ v = 2 + h) then 3 else if i < h then 4 else 0
theorem list_len (i : Nat) : ∀ n, (listN i n).length = 3 + n + (if i < n then 1 else 0)
 | 0 => by simp [listN]
 | n + 1 => by
  have ih := list_len i n
  unfold listN
  rw [List.length_append, List.length_singleton]
  by_cases h : n = i
  ·subst h; rw [if_pos rfl, List.length_append, List.length_singleton, ih, if_neg (by omega), if_pos (by omega)]; omega
  ·rw [if_neg h, ih]
   by_cases h2 : i < n
   ·rw [if_pos h2, if_pos (by omega)]; omega
   ·rw [if_neg h2, if_neg (by omega)]; omega
theorem one_more {p : Plan} {f g : Frame} {es : List Event} {e : Event} (he : evGood p e = true) (hd : doF p (lastOf p f es) e = ⟨0, g⟩) : runFrom p f (es ++ [e]) = runFrom p f es ++ [⟨0, g⟩] ∧ lastOf p f (es ++ [e]) = g := by
 have h := run_app p e es f
 rw [if_pos he, if_pos he, hd] at h
 exact h
def AtD (h i : Nat) (D : List Done) : Prop := ∀ (v : Nat) (d : Done), D[v]? = some d → ∃ w, d.frame.ways = [w] ∧ w.state = stN h i v
theorem AtD.more {h i : Nat} {D : List Done} (k : AtD h i D) {w : Held} {c : Int} {o : Bool} {a : List Bool} {b : List Point} {n : Nat} (hn : D.length = n) (hw : w.state = stN h i n) : AtD h i (D ++ [⟨c, o, a, b, [w]⟩]) := fun v d hd => by
 rcases Nat.lt_or_ge v D.length with hl | hl
 ·rw [List.getElem?_append_left hl] at hd; exact k v d hd
 ·rw [List.getElem?_append_right hl] at hd
  cases hv : v - D.length with
  | zero => rw [hv] at hd; cases hd; exact ⟨w, rfl, by rw [hw, show v = n by omega]⟩
  | succ m => rw [hv] at hd; simp at hd
theorem back_main {h i : Nat} (h1 : 1 ≤ h) (h40 : h ≤ 40) (hi : i ≤ h) : ∀ n, n ≤ h → lastOf (madeWay 3 0 h) (beginF (madeWay 3 0 h)) (listN i n) = (if i < n then fU 0 else if n = h then fA else fT ((h : Int) - n)) ∧ AtD h i (runFrom (madeWay 3 0 h) (beginF (madeWay 3 0 h)) (listN i n))
 | 0, _ => by
  have hb := List.all_eq_true.1 bk_ok (h - 1) (List.mem_range.2 (by omega))
  rw [show ((h - 1 : Nat) : Int) + 1 = h by omega] at hb
  unfold bkOk at hb
  simp only [Bool.and_eq_true, decide_eq_true_eq] at hb
  obtain ⟨⟨_, hr⟩, hl⟩ := hb
  rw [if_neg (by omega), if_neg (by omega)]
  refine ⟨?_, ?_⟩
  ·show lastOf _ _ [Event.mk 3 3 0, Event.mk 1 0 0, Event.mk 2 0 0] = _
   rw [hl]; simp
  ·show AtD h i (runFrom _ _ [Event.mk 3 3 0, Event.mk 1 0 0, Event.mk 2 0 0])
   rw [hr]
   intro v d hd
   match v, hd with
   | 0, hd => cases hd; exact ⟨_, rfl, rfl⟩
   | 1, hd => cases hd; exact ⟨_, rfl, rfl⟩
   | 2, hd =>
    cases hd
    refine ⟨_, rfl, ?_⟩
    show (3 : Int) = stN h i 2
    unfold stN
    rw [if_neg (by decide), if_neg (by decide), if_pos (by omega)]
   | v + 3, hd => cases hd
 | n + 1, hn => by
  obtain ⟨il, ir⟩ := back_main h1 h40 hi n (by omega)
  have hlen : (runFrom (madeWay 3 0 h) (beginF (madeWay 3 0 h)) (listN i n)).length = 3 + n + (if i < n then 1 else 0) := by rw [run_len, list_len]
  have hk := List.all_eq_true.1 (bk_tick h) (h - n - 1) (List.mem_range.2 (by omega))
  simp only [Bool.and_eq_true, decide_eq_true_eq] at hk
  obtain ⟨⟨⟨g7, t7⟩, g3⟩, t3⟩ := hk
  have hU := of_decide_eq_true (bk_used h)
  rw [show ((h - n - 1 : Nat) : Int) + 1 = (h : Int) - n by omega] at t7 t3
  unfold listN
  by_cases c1 : n = i
  ·subst c1
   rw [if_pos rfl]
   rw [if_neg (by omega), if_neg (by omega)] at il
   rw [if_neg (by omega)] at hlen
   obtain ⟨ra, la⟩ := one_more (f := beginF (madeWay 3 0 h)) (es := listN n n) g3 (by rw [il]; exact t3)
   obtain ⟨rb, lb⟩ := one_more (f := beginF (madeWay 3 0 h)) (es := listN n n ++ [Event.mk 3 0 0]) g7 (by rw [la]; exact hU)
   rw [lb, rb, ra, if_pos (by omega)]
   refine ⟨rfl, (ir.more hlen ?_).more (by rw [List.length_append, hlen]) ?_⟩
   ·show (4 : Int) = _
    unfold stN; rw [if_neg (by omega), if_neg (by omega), if_neg (by omega), if_pos (by omega)]
   ·show (4 : Int) = _
    unfold stN; rw [if_neg (by omega), if_neg (by omega), if_neg (by omega), if_pos (by omega)]
  ·rw [if_neg c1]
   by_cases c2 : i < n
   ·rw [if_pos c2] at il hlen
    obtain ⟨rb, lb⟩ := one_more (f := beginF (madeWay 3 0 h)) (es := listN i n) g7 (by rw [il]; exact hU)
    rw [lb, rb, if_pos (by omega)]
    refine ⟨rfl, ir.more hlen ?_⟩
    show (4 : Int) = _
    unfold stN; rw [if_neg (by omega), if_neg (by omega), if_neg (by omega), if_pos (by omega)]
   ·rw [if_neg c2, if_neg (by omega)] at il
    rw [if_neg c2] at hlen
    obtain ⟨rb, lb⟩ := one_more (f := beginF (madeWay 3 0 h)) (es := listN i n) g7 (by rw [il]; exact t7)
    rw [lb, rb, if_neg (by omega)]
    by_cases c3 : n + 1 = h
    ·rw [if_pos c3, show h - n - 1 = 0 by omega]
     refine ⟨rfl, ir.more hlen ?_⟩
     show (0 : Int) = _
     unfold stN; rw [if_neg (by omega), if_neg (by omega), if_neg (by omega), if_neg (by omega)]
    ·rw [if_neg c3, show Nat.beq (h - n - 1) 0 = false by cases hb : Nat.beq (h - n - 1) 0 with
      | true => have := Nat.eq_of_beq_eq_true hb; omega
      | false => rfl]
     refine ⟨by show fT _ = fT _; rw [show ((h - n - 1 : Nat) : Int) = (h : Int) - ((n + 1 : Nat) : Int) by omega], ir.more hlen ?_⟩
     show (3 : Int) = _
     unfold stN; rw [if_neg (by omega), if_neg (by omega), if_pos (by omega)]
def yes1 (c : List UInt8) : Bool := true
def bkH (c : List UInt8) : Int := IntKind.i64.wrap (1 + (wByte c 0).tmod 40)
def bkI (c : List UInt8) : Int := (wByte c 1).tmod (IntKind.i64.wrap (bkH c + 1))
end Go.Proofs.Ytglpfccgmfhkdaa.Fw
