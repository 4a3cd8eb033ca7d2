/- Walks and summaries of functions, printed by a program of mine (tools/mk.py), with the proofs of what they owe. -/

import Derived.Test.YtglpfccgmfhkdaaProg
import Derived.Test.YtglpfccgmfhkdaaWkQ
set_option linter.unusedVariables false
set_option maxRecDepth 100000
set_option maxHeartbeats 4000000
set_option linter.unusedSimpArgs false
namespace Go.Proofs.Ytglpfccgmfhkdaa.Fw
open Go
attribute [local irreducible] evS evSD WpS Weak Oper.looksAt
noncomputable def laws_FnBack_b : Code := bodyC Try.f4
def laws_FnBack_o7 : List Item := [iq 0, iq 1, iq 2, iq 3, iq 4, iq 5, iq 6, iq 7]
def laws_FnBack_o7a : List (List Nat) := [[], [0], [], [], [], [2, 3, 4], rg 0 6, rg 0 7]
def laws_FnBack_C1 (a0 : (List UInt8)) (res : Bool) : Prop :=
  ((((runF (madeWay 3 0 (IntKind.i64.wrap (1 + ((wByte a0 0).tmod 40)))) [(Event.mk 1 0 0), (Event.mk 2 0 0)]).length : Int) != 2) || ((((runF (madeWay 3 1 (IntKind.i64.wrap (1 + ((wByte a0 0).tmod 40)))) [(Event.mk 3 3 0), (Event.mk 1 0 0), (Event.mk 2 0 0)]).length : Int) != 3) || (((((nth (runF (madeWay 3 0 (IntKind.i64.wrap (1 + ((wByte a0 0).tmod 40)))) [(Event.mk 1 0 0), (Event.mk 2 0 0)]) 1).frame.ways).length : Int) != 1) || (((((nth (runF (madeWay 3 1 (IntKind.i64.wrap (1 + ((wByte a0 0).tmod 40)))) [(Event.mk 3 3 0), (Event.mk 1 0 0), (Event.mk 2 0 0)]) 2).frame.ways).length : Int) != 1) || ((((nth ((nth (runF (madeWay 3 0 (IntKind.i64.wrap (1 + ((wByte a0 0).tmod 40)))) [(Event.mk 1 0 0), (Event.mk 2 0 0)]) 1).frame.ways) 0).state) != 0) || (((nth ((nth (runF (madeWay 3 1 (IntKind.i64.wrap (1 + ((wByte a0 0).tmod 40)))) [(Event.mk 3 3 0), (Event.mk 1 0 0), (Event.mk 2 0 0)]) 2).frame.ways) 0).state) != 0)))))) = true → false = res
def laws_FnBack_C2 (a0 : (List UInt8)) (res : Bool) (x0 : (List Event)) (v120 : Int) : Prop :=
  ((decide (((wByte a0 1).tmod (IntKind.i64.wrap ((IntKind.i64.wrap (1 + ((wByte a0 0).tmod 40))) + 1))) < (IntKind.i64.wrap (1 + ((wByte a0 0).tmod 40))))) = true → (((nth ((nth (runF (madeWay 3 0 (IntKind.i64.wrap (1 + ((wByte a0 0).tmod 40)))) x0) v120).frame.ways) 0).state) != 4) = true → false = res) ∧ ((decide (((wByte a0 1).tmod (IntKind.i64.wrap ((IntKind.i64.wrap (1 + ((wByte a0 0).tmod 40))) + 1))) < (IntKind.i64.wrap (1 + ((wByte a0 0).tmod 40))))) = false → (((nth ((nth (runF (madeWay 3 0 (IntKind.i64.wrap (1 + ((wByte a0 0).tmod 40)))) x0) v120).frame.ways) 0).state) != 0) = true → false = res)
def laws_FnBack_C3 (a0 : (List UInt8)) (res : Bool) (x0 : (List Event)) (v120 : Int) : Prop :=
  (((decide (v120 < (IntKind.i64.wrap (3 + ((wByte a0 1).tmod (IntKind.i64.wrap ((IntKind.i64.wrap (1 + ((wByte a0 0).tmod 40))) + 1))))))) && (bif (((wByte a0 1).tmod (IntKind.i64.wrap ((IntKind.i64.wrap (1 + ((wByte a0 0).tmod 40))) + 1))) == (IntKind.i64.wrap (1 + ((wByte a0 0).tmod 40)))) then (!(v120 == (IntKind.i64.wrap (((runF (madeWay 3 0 (IntKind.i64.wrap (1 + ((wByte a0 0).tmod 40)))) x0).length : Int) - 1)))) else (!false))) = true → (((nth ((nth (runF (madeWay 3 0 (IntKind.i64.wrap (1 + ((wByte a0 0).tmod 40)))) x0) v120).frame.ways) 0).state) != 3) = true → false = res) ∧ (((decide (v120 < (IntKind.i64.wrap (3 + ((wByte a0 1).tmod (IntKind.i64.wrap ((IntKind.i64.wrap (1 + ((wByte a0 0).tmod 40))) + 1))))))) && (bif (((wByte a0 1).tmod (IntKind.i64.wrap ((IntKind.i64.wrap (1 + ((wByte a0 0).tmod 40))) + 1))) == (IntKind.i64.wrap (1 + ((wByte a0 0).tmod 40)))) then (!(v120 == (IntKind.i64.wrap (((runF (madeWay 3 0 (IntKind.i64.wrap (1 + ((wByte a0 0).tmod 40)))) x0).length : Int) - 1)))) else (!false))) = false → laws_FnBack_C2 a0 res x0 v120)
def laws_FnBack_C4 (a0 : (List UInt8)) (res : Bool) (x0 : (List Event)) (v120 : Int) : Prop :=
  ((v120 == 0) = true → (((nth ((nth (runF (madeWay 3 0 (IntKind.i64.wrap (1 + ((wByte a0 0).tmod 40)))) x0) v120).frame.ways) 0).state) != 0) = true → false = res) ∧ ((v120 == 0) = false → ((v120 == 1) = true → (((nth ((nth (runF (madeWay 3 0 (IntKind.i64.wrap (1 + ((wByte a0 0).tmod 40)))) x0) v120).frame.ways) 0).state) != 2) = true → false = res) ∧ ((v120 == 1) = false → laws_FnBack_C3 a0 res x0 v120))
def laws_FnBack_C5 (a0 : (List UInt8)) (res : Bool) (x0 : (List Event)) (v120 : Int) : Prop :=
  (((nth (runF (madeWay 3 0 (IntKind.i64.wrap (1 + ((wByte a0 0).tmod 40)))) x0) v120).frame.ways).length ≤ 4611686018427387904 → ((((nth (runF (madeWay 3 0 (IntKind.i64.wrap (1 + ((wByte a0 0).tmod 40)))) x0) v120).frame.ways).length : Int) != 1) = true → false = res) ∧ ((((nth (runF (madeWay 3 0 (IntKind.i64.wrap (1 + ((wByte a0 0).tmod 40)))) x0) v120).frame.ways).length ≤ 4611686018427387904) ∧ ((!((((nth (runF (madeWay 3 0 (IntKind.i64.wrap (1 + ((wByte a0 0).tmod 40)))) x0) v120).frame.ways).length : Int) != 1)) = true) → ((0 : Int) ≤ 0 ∧ (0 : Int).toNat < ((nth (runF (madeWay 3 0 (IntKind.i64.wrap (1 + ((wByte a0 0).tmod 40)))) x0) v120).frame.ways).length) ∧ (laws_FnBack_C4 a0 res x0 v120))
def laws_FnBack_C6 (I1 : Nat → (List Event) → Int → Int → Prop) (m1 : Nat → (List Event) → Int → Int → Nat) (a0 : (List UInt8)) (res : Bool) (g0 : Nat) (x0 : (List Event)) (v10 v120 : Int) : Prop :=
  ((0 ≤ v120 ∧ v120.toNat < (runF (madeWay 3 0 (IntKind.i64.wrap (1 + ((wByte a0 0).tmod 40)))) x0).length) ∧ (laws_FnBack_C5 a0 res x0 v120)) ∧ ((((nth (runF (madeWay 3 0 (IntKind.i64.wrap (1 + ((wByte a0 0).tmod 40)))) x0) v120).frame.ways).length ≤ 4611686018427387904) ∧ (((!((((nth (runF (madeWay 3 0 (IntKind.i64.wrap (1 + ((wByte a0 0).tmod 40)))) x0) v120).frame.ways).length : Int) != 1)) && (bif (v120 == 0) then (!(((nth ((nth (runF (madeWay 3 0 (IntKind.i64.wrap (1 + ((wByte a0 0).tmod 40)))) x0) v120).frame.ways) 0).state) != 0)) else (bif (v120 == 1) then (!(((nth ((nth (runF (madeWay 3 0 (IntKind.i64.wrap (1 + ((wByte a0 0).tmod 40)))) x0) v120).frame.ways) 0).state) != 2)) else (bif ((decide (v120 < (IntKind.i64.wrap (3 + ((wByte a0 1).tmod (IntKind.i64.wrap ((IntKind.i64.wrap (1 + ((wByte a0 0).tmod 40))) + 1))))))) && (bif (((wByte a0 1).tmod (IntKind.i64.wrap ((IntKind.i64.wrap (1 + ((wByte a0 0).tmod 40))) + 1))) == (IntKind.i64.wrap (1 + ((wByte a0 0).tmod 40)))) then (!(v120 == (IntKind.i64.wrap (((runF (madeWay 3 0 (IntKind.i64.wrap (1 + ((wByte a0 0).tmod 40)))) x0).length : Int) - 1)))) else (!false))) then (!(((nth ((nth (runF (madeWay 3 0 (IntKind.i64.wrap (1 + ((wByte a0 0).tmod 40)))) x0) v120).frame.ways) 0).state) != 3)) else (bif (decide (((wByte a0 1).tmod (IntKind.i64.wrap ((IntKind.i64.wrap (1 + ((wByte a0 0).tmod 40))) + 1))) < (IntKind.i64.wrap (1 + ((wByte a0 0).tmod 40))))) then (!(((nth ((nth (runF (madeWay 3 0 (IntKind.i64.wrap (1 + ((wByte a0 0).tmod 40)))) x0) v120).frame.ways) 0).state) != 4)) else (!(((nth ((nth (runF (madeWay 3 0 (IntKind.i64.wrap (1 + ((wByte a0 0).tmod 40)))) x0) v120).frame.ways) 0).state) != 0))))))) = true) → I1 g0 x0 v10 (IntKind.i64.wrap (v120 + 1)) ∧ m1 g0 x0 v10 (IntKind.i64.wrap (v120 + 1)) < m1 g0 x0 v10 v120)
def laws_FnBack_C7 (I1 : Nat → (List Event) → Int → Int → Prop) (m1 : Nat → (List Event) → Int → Int → Nat) (a0 : (List UInt8)) (res : Bool) (g0 : Nat) (x0 : (List Event)) (v10 : Int) : Prop :=
  ((runF (madeWay 3 0 (IntKind.i64.wrap (1 + ((wByte a0 0).tmod 40)))) x0).length ≤ 4611686018427387904 → (((runF (madeWay 3 0 (IntKind.i64.wrap (1 + ((wByte a0 0).tmod 40)))) x0).length : Int) != (x0.length : Int)) = true → false = res) ∧ (((runF (madeWay 3 0 (IntKind.i64.wrap (1 + ((wByte a0 0).tmod 40)))) x0).length ≤ 4611686018427387904) ∧ ((!(((runF (madeWay 3 0 (IntKind.i64.wrap (1 + ((wByte a0 0).tmod 40)))) x0).length : Int) != (x0.length : Int))) = true) → I1 g0 x0 v10 0 ∧ ∀ (v120 : Int), I1 g0 x0 v10 v120 → (((decide (v120 < ((runF (madeWay 3 0 (IntKind.i64.wrap (1 + ((wByte a0 0).tmod 40)))) x0).length : Int))) = false → true = res) ∧ ((decide (v120 < ((runF (madeWay 3 0 (IntKind.i64.wrap (1 + ((wByte a0 0).tmod 40)))) x0).length : Int))) = true → laws_FnBack_C6 I1 m1 a0 res g0 x0 v10 v120)))
def laws_FnBack_C8 (I0 : Nat → (List Event) → Int → Prop) (m0 : Nat → (List Event) → Int → Nat) (a0 : (List UInt8)) (g0 : Nat) (x0 : (List Event)) (v10 : Int) : Prop :=
  ((v10 == ((wByte a0 1).tmod (IntKind.i64.wrap ((IntKind.i64.wrap (1 + ((wByte a0 0).tmod 40))) + 1)))) = true → ((x0.length + [(Event.mk 3 0 0)].length) * 24 ≤ 140737488355328 ∧ x0.length + [(Event.mk 3 0 0)].length ≤ 4611686018427387904) ∧ ((((x0 ++ [(Event.mk 3 0 0)]).length + [(Event.mk 7 0 0)].length) * 24 ≤ 140737488355328 ∧ (x0 ++ [(Event.mk 3 0 0)]).length + [(Event.mk 7 0 0)].length ≤ 4611686018427387904) ∧ (I0 ((g0 + 1) + 1) ((x0 ++ [(Event.mk 3 0 0)]) ++ [(Event.mk 7 0 0)]) (IntKind.i64.wrap (v10 + 1)) ∧ m0 ((g0 + 1) + 1) ((x0 ++ [(Event.mk 3 0 0)]) ++ [(Event.mk 7 0 0)]) (IntKind.i64.wrap (v10 + 1)) < m0 g0 x0 v10))) ∧ ((v10 == ((wByte a0 1).tmod (IntKind.i64.wrap ((IntKind.i64.wrap (1 + ((wByte a0 0).tmod 40))) + 1)))) = false → ((x0.length + [(Event.mk 7 0 0)].length) * 24 ≤ 140737488355328 ∧ x0.length + [(Event.mk 7 0 0)].length ≤ 4611686018427387904) ∧ (I0 (g0 + 1) (x0 ++ [(Event.mk 7 0 0)]) (IntKind.i64.wrap (v10 + 1)) ∧ m0 (g0 + 1) (x0 ++ [(Event.mk 7 0 0)]) (IntKind.i64.wrap (v10 + 1)) < m0 g0 x0 v10))
def laws_FnBack_C9 (I0 : Nat → (List Event) → Int → Prop) (m0 : Nat → (List Event) → Int → Nat) (I1 : Nat → (List Event) → Int → Int → Prop) (m1 : Nat → (List Event) → Int → Int → Nat) (a0 : (List UInt8)) (res : Bool) : Prop :=
  I0 0 ([(Event.mk 3 3 0), (Event.mk 1 0 0), (Event.mk 2 0 0)] : List Event) 0 ∧ ∀ (g0 : Nat) (x0 : (List Event)) (v10 : Int), I0 g0 x0 v10 → (((decide (v10 < (IntKind.i64.wrap (1 + ((wByte a0 0).tmod 40))))) = false → (x0.length ≤ 4611686018427387904) ∧ (laws_FnBack_C7 I1 m1 a0 res g0 x0 v10)) ∧ ((decide (v10 < (IntKind.i64.wrap (1 + ((wByte a0 0).tmod 40))))) = true → laws_FnBack_C8 I0 m0 a0 g0 x0 v10))
def laws_FnBack_C10 (I0 : Nat → (List Event) → Int → Prop) (m0 : Nat → (List Event) → Int → Nat) (I1 : Nat → (List Event) → Int → Int → Prop) (m1 : Nat → (List Event) → Int → Int → Nat) (a0 : (List UInt8)) (res : Bool) : Prop :=
  (((runF (madeWay 3 0 (IntKind.i64.wrap (1 + ((wByte a0 0).tmod 40)))) [(Event.mk 1 0 0), (Event.mk 2 0 0)]).length ≤ 4611686018427387904 → (((runF (madeWay 3 0 (IntKind.i64.wrap (1 + ((wByte a0 0).tmod 40)))) [(Event.mk 1 0 0), (Event.mk 2 0 0)]).length : Int) != 2) = false → (runF (madeWay 3 1 (IntKind.i64.wrap (1 + ((wByte a0 0).tmod 40)))) [(Event.mk 3 3 0), (Event.mk 1 0 0), (Event.mk 2 0 0)]).length ≤ 4611686018427387904 → (((runF (madeWay 3 1 (IntKind.i64.wrap (1 + ((wByte a0 0).tmod 40)))) [(Event.mk 3 3 0), (Event.mk 1 0 0), (Event.mk 2 0 0)]).length : Int) != 3) = false → ((0 : Int) ≤ 1 ∧ (1 : Int).toNat < (runF (madeWay 3 0 (IntKind.i64.wrap (1 + ((wByte a0 0).tmod 40)))) [(Event.mk 1 0 0), (Event.mk 2 0 0)]).length) ∧ (((nth (runF (madeWay 3 0 (IntKind.i64.wrap (1 + ((wByte a0 0).tmod 40)))) [(Event.mk 1 0 0), (Event.mk 2 0 0)]) 1).frame.ways).length ≤ 4611686018427387904 → ((((nth (runF (madeWay 3 0 (IntKind.i64.wrap (1 + ((wByte a0 0).tmod 40)))) [(Event.mk 1 0 0), (Event.mk 2 0 0)]) 1).frame.ways).length : Int) != 1) = false → ((0 : Int) ≤ 2 ∧ (2 : Int).toNat < (runF (madeWay 3 1 (IntKind.i64.wrap (1 + ((wByte a0 0).tmod 40)))) [(Event.mk 3 3 0), (Event.mk 1 0 0), (Event.mk 2 0 0)]).length) ∧ (((nth (runF (madeWay 3 1 (IntKind.i64.wrap (1 + ((wByte a0 0).tmod 40)))) [(Event.mk 3 3 0), (Event.mk 1 0 0), (Event.mk 2 0 0)]) 2).frame.ways).length ≤ 4611686018427387904 → ((((nth (runF (madeWay 3 1 (IntKind.i64.wrap (1 + ((wByte a0 0).tmod 40)))) [(Event.mk 3 3 0), (Event.mk 1 0 0), (Event.mk 2 0 0)]) 2).frame.ways).length : Int) != 1) = false → ((0 : Int) ≤ 1 ∧ (1 : Int).toNat < (runF (madeWay 3 0 (IntKind.i64.wrap (1 + ((wByte a0 0).tmod 40)))) [(Event.mk 1 0 0), (Event.mk 2 0 0)]).length) ∧ (((0 : Int) ≤ 0 ∧ (0 : Int).toNat < ((nth (runF (madeWay 3 0 (IntKind.i64.wrap (1 + ((wByte a0 0).tmod 40)))) [(Event.mk 1 0 0), (Event.mk 2 0 0)]) 1).frame.ways).length) ∧ ((((nth ((nth (runF (madeWay 3 0 (IntKind.i64.wrap (1 + ((wByte a0 0).tmod 40)))) [(Event.mk 1 0 0), (Event.mk 2 0 0)]) 1).frame.ways) 0).state) != 0) = false → ((0 : Int) ≤ 2 ∧ (2 : Int).toNat < (runF (madeWay 3 1 (IntKind.i64.wrap (1 + ((wByte a0 0).tmod 40)))) [(Event.mk 3 3 0), (Event.mk 1 0 0), (Event.mk 2 0 0)]).length) ∧ ((0 : Int) ≤ 0 ∧ (0 : Int).toNat < ((nth (runF (madeWay 3 1 (IntKind.i64.wrap (1 + ((wByte a0 0).tmod 40)))) [(Event.mk 3 3 0), (Event.mk 1 0 0), (Event.mk 2 0 0)]) 2).frame.ways).length)))))) ∧ ((runF (madeWay 3 0 (IntKind.i64.wrap (1 + ((wByte a0 0).tmod 40)))) [(Event.mk 1 0 0), (Event.mk 2 0 0)]).length ≤ 4611686018427387904 → laws_FnBack_C1 a0 res)) ∧ (((runF (madeWay 3 0 (IntKind.i64.wrap (1 + ((wByte a0 0).tmod 40)))) [(Event.mk 1 0 0), (Event.mk 2 0 0)]).length ≤ 4611686018427387904) ∧ ((!((((runF (madeWay 3 0 (IntKind.i64.wrap (1 + ((wByte a0 0).tmod 40)))) [(Event.mk 1 0 0), (Event.mk 2 0 0)]).length : Int) != 2) || ((((runF (madeWay 3 1 (IntKind.i64.wrap (1 + ((wByte a0 0).tmod 40)))) [(Event.mk 3 3 0), (Event.mk 1 0 0), (Event.mk 2 0 0)]).length : Int) != 3) || (((((nth (runF (madeWay 3 0 (IntKind.i64.wrap (1 + ((wByte a0 0).tmod 40)))) [(Event.mk 1 0 0), (Event.mk 2 0 0)]) 1).frame.ways).length : Int) != 1) || (((((nth (runF (madeWay 3 1 (IntKind.i64.wrap (1 + ((wByte a0 0).tmod 40)))) [(Event.mk 3 3 0), (Event.mk 1 0 0), (Event.mk 2 0 0)]) 2).frame.ways).length : Int) != 1) || ((((nth ((nth (runF (madeWay 3 0 (IntKind.i64.wrap (1 + ((wByte a0 0).tmod 40)))) [(Event.mk 1 0 0), (Event.mk 2 0 0)]) 1).frame.ways) 0).state) != 0) || (((nth ((nth (runF (madeWay 3 1 (IntKind.i64.wrap (1 + ((wByte a0 0).tmod 40)))) [(Event.mk 3 3 0), (Event.mk 1 0 0), (Event.mk 2 0 0)]) 2).frame.ways) 0).state) != 0))))))) = true) → ((wBytePre a0 1) ∧ ((IntKind.i64.wrap ((IntKind.i64.wrap (1 + ((wByte a0 0).tmod 40))) + 1)) ≠ 0)) ∧ (laws_FnBack_C9 I0 m0 I1 m1 a0 res))
def laws_FnBack_C (a0 : (List UInt8)) (res : Bool) (I0 : Nat → (List Event) → Int → Prop) (m0 : Nat → (List Event) → Int → Nat) (I1 : Nat → (List Event) → Int → Int → Prop) (m1 : Nat → (List Event) → Int → Int → Nat) : Prop :=
 (a0.length ≤ 4611686018427387904 → (decide ((a0.length : Int) > 1048576)) = true → true = res) ∧ ((a0.length ≤ 4611686018427387904) ∧ ((!(decide ((a0.length : Int) > 1048576))) = true) → ((wBytePre a0 0) ∧ ((40 : Int) ≠ 0)) ∧ ((madePre 3 0 (IntKind.i64.wrap (1 + ((wByte a0 0).tmod 40)))) ∧ ((madePre 3 1 (IntKind.i64.wrap (1 + ((wByte a0 0).tmod 40)))) ∧ (laws_FnBack_C10 I0 m0 I1 m1 a0 res))))
theorem laws_FnBack_walk (a0 : (List UInt8)) (res : Bool) (I0 : Nat → (List Event) → Int → Prop) (m0 : Nat → (List Event) → Int → Nat) (I1 : Nat → (List Event) → Int → Int → Prop) (m1 : Nat → (List Event) → Int → Int → Nat) (h : laws_FnBack_C a0 res I0 m0 I1 m1) : FnV Try.prog 4 [al eU8 a0] (ab res) := by
 unfold laws_FnBack_C at h
 refine FnS.go (fn := Try.f4) [(0, al eU8 a0)] Try.func4 ?_
 show WpS _ (nv laws_FnBack_b 1) _ ⟨mkS 175 [(0, al eU8 a0)], [], []⟩
 refine cRM [500088] 0 [(2, ab false)] [] [1] ?_
 obtain ⟨q113, h⟩ := h
 refine cSeqM [] [1] ((a0.length ≤ 4611686018427387904) ∧ ((!(decide ((a0.length : Int) > 1048576))) = true)) ?_ (fun q2 => ?_)
 ·
  replace h := q113
  refine cSeqM [(17, ab (decide ((a0.length : Int) > 1048576)))] [1] (a0.length ≤ 4611686018427387904) ?_ (fun q3 => ?_)
  ·
   refine rgS [500088] 1 ?_
   refine sLen 2 (some 16) [(15, al eU8 a0)] eU8 a0 (fun q4 => ?_)
   exact sEJ [(17, ab (decide ((a0.length : Int) > 1048576)))] q4
  replace h := h q3
  refine cCond1 (fun q5 => ?_) (fun q5 => ?_)
  ·
   replace h := h q5
   refine cRM [500088] 2 [(2, ab true)] [1] [] ?_
   exact cRet (QJoin.ret (rt1 (ab true) (SnapR3.of1 (sr_bool h))))
  ·
   refine cSkip ?_
   exact QJoin.normal ⟨q3, (by simp only [q5] <;> rfl)⟩ wkJ
 replace h := h q2
 obtain ⟨q112, h⟩ := h
 refine cSeqM [(3, ai (IntKind.i64.wrap (1 + ((wByte a0 0).tmod 40))))] [1] (True) ?_ (fun q7 => ?_)
 ·
  replace h := q112
  refine rgS [500088] 3 ?_
  obtain ⟨q8, h⟩ := h
  refine sCallV 2 (some 19) [(18, al eU8 a0)] [al eU8 a0, ai 0] (laws_wByte_V a0 0 q8) (PW.cons (Snap2.of1 sa_lst) (PW.cons (Snap2.of1 (.int _ _)) PW.nil)) ?_
  have q9 := h
  refine sAnd 1 (some 20) (ai ((wByte a0 0).tmod 40)) [] q9 ?_
  exact sEJ [(3, ai (IntKind.i64.wrap (1 + ((wByte a0 0).tmod 40)))), (21, ai (IntKind.i64.wrap (1 + ((wByte a0 0).tmod 40))))] trivial
 obtain ⟨q111, h⟩ := h
 refine cSeqN [(4, ap 4 0)] [2] [(4, (ePlan true (madeWay 3 0 (IntKind.i64.wrap (1 + ((wByte a0 0).tmod 40))))))] [] (True) ?_ (fun q10 => ?_)
 ·
  replace h := q111
  refine rgS [500088] 4 ?_
  have q11 := h
  refine sCallV 2 (some 23) [(22, ai (IntKind.i64.wrap (1 + ((wByte a0 0).tmod 40))))] [ai 3, ai 0, ai (IntKind.i64.wrap (1 + ((wByte a0 0).tmod 40)))] (spec_MadeWay_V 3 0 (IntKind.i64.wrap (1 + ((wByte a0 0).tmod 40))) q11) (PW.cons (Snap2.of1 (.int _ _)) (PW.cons (Snap2.of1 (.int _ _)) (PW.cons (Snap2.of1 (.int _ _)) PW.nil))) ?_
  exact sEJ [(4, ap 4 0)] trivial
 refine cRE [500088] 5 [(5, ap 5 0), (24, .agg [ai 3, ai 3, ai 0])] [1] [3] (fun L => (5, [ai 3, ai 3, ai 0]) :: L) id ?_
 refine cSeqM [(6, af (eDone false) (runF (madeWay 3 0 (IntKind.i64.wrap (1 + ((wByte a0 0).tmod 40)))) [(Event.mk 1 0 0), (Event.mk 2 0 0)]))] [4] (True) ?_ (fun q13 => ?_)
 ·
  refine rgS [500088] 6 ?_
  refine sCallV 5 (some 29) [(28, .lst (List.map eEvent [(Event.mk 1 0 0), (Event.mk 2 0 0)]) true true), (27, .agg [ai 2, ai 0, ai 0]), (26, .agg [ai 1, ai 0, ai 0]), (25, .agg (ePlan true (madeWay 3 0 (IntKind.i64.wrap (1 + ((wByte a0 0).tmod 40))))))] [.agg (ePlan true (madeWay 3 0 (IntKind.i64.wrap (1 + ((wByte a0 0).tmod 40))))), .lst (List.map eEvent [(Event.mk 1 0 0), (Event.mk 2 0 0)]) true true] (impl_Run_V (madeWay 3 0 (IntKind.i64.wrap (1 + ((wByte a0 0).tmod 40)))) [(Event.mk 1 0 0), (Event.mk 2 0 0)]) (PW.cons (Snap2.agg (PW.cons (.int _ _) (PW.cons sa_lst (PW.cons sa_lst (PW.cons sa_lst (PW.cons (.int _ _) PW.nil)))))) (PW.cons (Snap2.of1 sa_lst) PW.nil)) ?_
  exact sEJ [(6, af (eDone false) (runF (madeWay 3 0 (IntKind.i64.wrap (1 + ((wByte a0 0).tmod 40)))) [(Event.mk 1 0 0), (Event.mk 2 0 0)]))] trivial
 obtain ⟨q110, h⟩ := h
 refine cSeqM [(7, af (eDone false) (runF (madeWay 3 1 (IntKind.i64.wrap (1 + ((wByte a0 0).tmod 40)))) [(Event.mk 3 3 0), (Event.mk 1 0 0), (Event.mk 2 0 0)]))] [5] (True) ?_ (fun q14 => ?_)
 ·
  replace h := q110
  refine rgD [500088] 7 laws_FnBack_o7 laws_FnBack_o7a [] ?_
  have q15 := h
  refine tCallV 2 (some 31) [(30, ai (IntKind.i64.wrap (1 + ((wByte a0 0).tmod 40))))] [ai 3, ai 1, ai (IntKind.i64.wrap (1 + ((wByte a0 0).tmod 40)))] (spec_MadeWay_V 3 1 (IntKind.i64.wrap (1 + ((wByte a0 0).tmod 40))) q15) (PW.cons (Snap2.of1 (.int _ _)) (PW.cons (Snap2.of1 (.int _ _)) (PW.cons (Snap2.of1 (.int _ _)) PW.nil))) ?_
  refine tCallV 5 (some 36) [(35, .lst (List.map eEvent [(Event.mk 3 3 0), (Event.mk 1 0 0), (Event.mk 2 0 0)]) true true), (34, .agg [ai 2, ai 0, ai 0]), (33, .agg [ai 1, ai 0, ai 0]), (32, .agg [ai 3, ai 3, ai 0])] [.agg (ePlan true (madeWay 3 1 (IntKind.i64.wrap (1 + ((wByte a0 0).tmod 40))))), .lst (List.map eEvent [(Event.mk 3 3 0), (Event.mk 1 0 0), (Event.mk 2 0 0)]) true true] (impl_Run_V (madeWay 3 1 (IntKind.i64.wrap (1 + ((wByte a0 0).tmod 40)))) [(Event.mk 3 3 0), (Event.mk 1 0 0), (Event.mk 2 0 0)]) (PW.cons (Snap2.agg (PW.cons (.int _ _) (PW.cons sa_lst (PW.cons sa_lst (PW.cons sa_lst (PW.cons (.int _ _) PW.nil)))))) (PW.cons (Snap2.of1 sa_lst) PW.nil)) ?_
  exact tEJ [(7, af (eDone false) (runF (madeWay 3 1 (IntKind.i64.wrap (1 + ((wByte a0 0).tmod 40)))) [(Event.mk 3 3 0), (Event.mk 1 0 0), (Event.mk 2 0 0)]))] trivial
 unfold laws_FnBack_C10 at h
 obtain ⟨q109, h⟩ := h
 refine cSeqM [] [0, 2, 4] (((runF (madeWay 3 0 (IntKind.i64.wrap (1 + ((wByte a0 0).tmod 40)))) [(Event.mk 1 0 0), (Event.mk 2 0 0)]).length ≤ 4611686018427387904) ∧ ((!((((runF (madeWay 3 0 (IntKind.i64.wrap (1 + ((wByte a0 0).tmod 40)))) [(Event.mk 1 0 0), (Event.mk 2 0 0)]).length : Int) != 2) || ((((runF (madeWay 3 1 (IntKind.i64.wrap (1 + ((wByte a0 0).tmod 40)))) [(Event.mk 3 3 0), (Event.mk 1 0 0), (Event.mk 2 0 0)]).length : Int) != 3) || (((((nth (runF (madeWay 3 0 (IntKind.i64.wrap (1 + ((wByte a0 0).tmod 40)))) [(Event.mk 1 0 0), (Event.mk 2 0 0)]) 1).frame.ways).length : Int) != 1) || (((((nth (runF (madeWay 3 1 (IntKind.i64.wrap (1 + ((wByte a0 0).tmod 40)))) [(Event.mk 3 3 0), (Event.mk 1 0 0), (Event.mk 2 0 0)]) 2).frame.ways).length : Int) != 1) || ((((nth ((nth (runF (madeWay 3 0 (IntKind.i64.wrap (1 + ((wByte a0 0).tmod 40)))) [(Event.mk 1 0 0), (Event.mk 2 0 0)]) 1).frame.ways) 0).state) != 0) || (((nth ((nth (runF (madeWay 3 1 (IntKind.i64.wrap (1 + ((wByte a0 0).tmod 40)))) [(Event.mk 3 3 0), (Event.mk 1 0 0), (Event.mk 2 0 0)]) 2).frame.ways) 0).state) != 0))))))) = true)) ?_ (fun q16 => ?_)
 ·
  replace h := q109
  obtain ⟨q35, h⟩ := h
  refine cSeqM [(84, ab ((((runF (madeWay 3 0 (IntKind.i64.wrap (1 + ((wByte a0 0).tmod 40)))) [(Event.mk 1 0 0), (Event.mk 2 0 0)]).length : Int) != 2) || ((((runF (madeWay 3 1 (IntKind.i64.wrap (1 + ((wByte a0 0).tmod 40)))) [(Event.mk 3 3 0), (Event.mk 1 0 0), (Event.mk 2 0 0)]).length : Int) != 3) || (((((nth (runF (madeWay 3 0 (IntKind.i64.wrap (1 + ((wByte a0 0).tmod 40)))) [(Event.mk 1 0 0), (Event.mk 2 0 0)]) 1).frame.ways).length : Int) != 1) || (((((nth (runF (madeWay 3 1 (IntKind.i64.wrap (1 + ((wByte a0 0).tmod 40)))) [(Event.mk 3 3 0), (Event.mk 1 0 0), (Event.mk 2 0 0)]) 2).frame.ways).length : Int) != 1) || ((((nth ((nth (runF (madeWay 3 0 (IntKind.i64.wrap (1 + ((wByte a0 0).tmod 40)))) [(Event.mk 1 0 0), (Event.mk 2 0 0)]) 1).frame.ways) 0).state) != 0) || (((nth ((nth (runF (madeWay 3 1 (IntKind.i64.wrap (1 + ((wByte a0 0).tmod 40)))) [(Event.mk 3 3 0), (Event.mk 1 0 0), (Event.mk 2 0 0)]) 2).frame.ways) 0).state) != 0)))))))] [0, 2, 4] ((runF (madeWay 3 0 (IntKind.i64.wrap (1 + ((wByte a0 0).tmod 40)))) [(Event.mk 1 0 0), (Event.mk 2 0 0)]).length ≤ 4611686018427387904) ?_ (fun q17 => ?_)
  ·
   replace h := q35
   refine rgS [500088] 8 ?_
   refine sLen 2 (some 38) [(37, af (eDone false) (runF (madeWay 3 0 (IntKind.i64.wrap (1 + ((wByte a0 0).tmod 40)))) [(Event.mk 1 0 0), (Event.mk 2 0 0)]))] (eDone false) (runF (madeWay 3 0 (IntKind.i64.wrap (1 + ((wByte a0 0).tmod 40)))) [(Event.mk 1 0 0), (Event.mk 2 0 0)]) (fun q18 => ?_)
   replace h := h q18
   refine sCase1 2 40 (((runF (madeWay 3 0 (IntKind.i64.wrap (1 + ((wByte a0 0).tmod 40)))) [(Event.mk 1 0 0), (Event.mk 2 0 0)]).length : Int) != 2) [(39, ab (((runF (madeWay 3 0 (IntKind.i64.wrap (1 + ((wByte a0 0).tmod 40)))) [(Event.mk 1 0 0), (Event.mk 2 0 0)]).length : Int) != 2))] (fun q19 => ?_) (fun q19 => ?_)
   ·
    exact sEJ ([(84, ab true)] ++ tz [83, 82, 81, 80, 79, 78, 77, 76, 75] ++ [(74, ab true), (73, ab true)] ++ tz [72, 71, 70, 69, 68, 67, 66, 65, 64] ++ [(63, ab true), (62, ab true)] ++ tz [61, 60, 59, 58, 57, 56, 55] ++ [(54, ab true), (53, ab true)] ++ tz [52, 51, 50, 49, 48, 47, 46] ++ [(45, ab true), (44, ab true)] ++ tz [43, 42, 41]) q18 (by simp only [q2.2, q19] <;> kernel_rfl)
   ·
    replace h := h q19
    refine sLen 2 (some 42) [(41, af (eDone false) (runF (madeWay 3 1 (IntKind.i64.wrap (1 + ((wByte a0 0).tmod 40)))) [(Event.mk 3 3 0), (Event.mk 1 0 0), (Event.mk 2 0 0)]))] (eDone false) (runF (madeWay 3 1 (IntKind.i64.wrap (1 + ((wByte a0 0).tmod 40)))) [(Event.mk 3 3 0), (Event.mk 1 0 0), (Event.mk 2 0 0)]) (fun q20 => ?_)
    replace h := h q20
    refine sCase1 3 45 (((runF (madeWay 3 1 (IntKind.i64.wrap (1 + ((wByte a0 0).tmod 40)))) [(Event.mk 3 3 0), (Event.mk 1 0 0), (Event.mk 2 0 0)]).length : Int) != 3) [(44, ab (((runF (madeWay 3 1 (IntKind.i64.wrap (1 + ((wByte a0 0).tmod 40)))) [(Event.mk 3 3 0), (Event.mk 1 0 0), (Event.mk 2 0 0)]).length : Int) != 3)), (43, ab (((runF (madeWay 3 1 (IntKind.i64.wrap (1 + ((wByte a0 0).tmod 40)))) [(Event.mk 3 3 0), (Event.mk 1 0 0), (Event.mk 2 0 0)]).length : Int) != 3))] (fun q21 => ?_) (fun q21 => ?_)
    ·
     exact sEJ ([(84, ab true)] ++ tz [83, 82, 81, 80, 79, 78, 77, 76, 75] ++ [(74, ab true), (73, ab true)] ++ tz [72, 71, 70, 69, 68, 67, 66, 65, 64] ++ [(63, ab true), (62, ab true)] ++ tz [61, 60, 59, 58, 57, 56, 55] ++ [(54, ab true), (53, ab true)] ++ tz [52, 51, 50, 49, 48, 47, 46]) q18 (by simp only [q2.2, q19, q21] <;> kernel_rfl)
    ·
     replace h := h q21
     obtain ⟨q32, h⟩ := h
     refine sIdx 2 (some 47) [(46, af (eDone false) (runF (madeWay 3 0 (IntKind.i64.wrap (1 + ((wByte a0 0).tmod 40)))) [(Event.mk 1 0 0), (Event.mk 2 0 0)]))] (eDone false) (runF (madeWay 3 0 (IntKind.i64.wrap (1 + ((wByte a0 0).tmod 40)))) [(Event.mk 1 0 0), (Event.mk 2 0 0)]) 5 q32 ?_
     refine sLen 4 (some 51) [(50, al (eHeld false) ((nth (runF (madeWay 3 0 (IntKind.i64.wrap (1 + ((wByte a0 0).tmod 40)))) [(Event.mk 1 0 0), (Event.mk 2 0 0)]) 1).frame.ways)), (49, .rp (eDone false (nth (runF (madeWay 3 0 (IntKind.i64.wrap (1 + ((wByte a0 0).tmod 40)))) [(Event.mk 1 0 0), (Event.mk 2 0 0)]) 1)) 4), (48, .rp (eDone false (nth (runF (madeWay 3 0 (IntKind.i64.wrap (1 + ((wByte a0 0).tmod 40)))) [(Event.mk 1 0 0), (Event.mk 2 0 0)]) 1)) 1)] (eHeld false) ((nth (runF (madeWay 3 0 (IntKind.i64.wrap (1 + ((wByte a0 0).tmod 40)))) [(Event.mk 1 0 0), (Event.mk 2 0 0)]) 1).frame.ways) (fun q22 => ?_)
     replace h := h q22
     refine sCase1 3 54 ((((nth (runF (madeWay 3 0 (IntKind.i64.wrap (1 + ((wByte a0 0).tmod 40)))) [(Event.mk 1 0 0), (Event.mk 2 0 0)]) 1).frame.ways).length : Int) != 1) [(53, ab ((((nth (runF (madeWay 3 0 (IntKind.i64.wrap (1 + ((wByte a0 0).tmod 40)))) [(Event.mk 1 0 0), (Event.mk 2 0 0)]) 1).frame.ways).length : Int) != 1)), (52, ab ((((nth (runF (madeWay 3 0 (IntKind.i64.wrap (1 + ((wByte a0 0).tmod 40)))) [(Event.mk 1 0 0), (Event.mk 2 0 0)]) 1).frame.ways).length : Int) != 1))] (fun q23 => ?_) (fun q23 => ?_)
     ·
      exact sEJ ([(84, ab true)] ++ tz [83, 82, 81, 80, 79, 78, 77, 76, 75] ++ [(74, ab true), (73, ab true)] ++ tz [72, 71, 70, 69, 68, 67, 66, 65, 64] ++ [(63, ab true), (62, ab true)] ++ tz [61, 60, 59, 58, 57, 56, 55]) q18 (by simp only [q2.2, q19, q21, q23] <;> kernel_rfl)
     ·
      replace h := h q23
      obtain ⟨q31, h⟩ := h
      refine sIdx 2 (some 56) [(55, af (eDone false) (runF (madeWay 3 1 (IntKind.i64.wrap (1 + ((wByte a0 0).tmod 40)))) [(Event.mk 3 3 0), (Event.mk 1 0 0), (Event.mk 2 0 0)]))] (eDone false) (runF (madeWay 3 1 (IntKind.i64.wrap (1 + ((wByte a0 0).tmod 40)))) [(Event.mk 3 3 0), (Event.mk 1 0 0), (Event.mk 2 0 0)]) 5 q31 ?_
      refine sLen 4 (some 60) [(59, al (eHeld false) ((nth (runF (madeWay 3 1 (IntKind.i64.wrap (1 + ((wByte a0 0).tmod 40)))) [(Event.mk 3 3 0), (Event.mk 1 0 0), (Event.mk 2 0 0)]) 2).frame.ways)), (58, .rp (eDone false (nth (runF (madeWay 3 1 (IntKind.i64.wrap (1 + ((wByte a0 0).tmod 40)))) [(Event.mk 3 3 0), (Event.mk 1 0 0), (Event.mk 2 0 0)]) 2)) 4), (57, .rp (eDone false (nth (runF (madeWay 3 1 (IntKind.i64.wrap (1 + ((wByte a0 0).tmod 40)))) [(Event.mk 3 3 0), (Event.mk 1 0 0), (Event.mk 2 0 0)]) 2)) 1)] (eHeld false) ((nth (runF (madeWay 3 1 (IntKind.i64.wrap (1 + ((wByte a0 0).tmod 40)))) [(Event.mk 3 3 0), (Event.mk 1 0 0), (Event.mk 2 0 0)]) 2).frame.ways) (fun q24 => ?_)
      replace h := h q24
      refine sCase1 3 63 ((((nth (runF (madeWay 3 1 (IntKind.i64.wrap (1 + ((wByte a0 0).tmod 40)))) [(Event.mk 3 3 0), (Event.mk 1 0 0), (Event.mk 2 0 0)]) 2).frame.ways).length : Int) != 1) [(62, ab ((((nth (runF (madeWay 3 1 (IntKind.i64.wrap (1 + ((wByte a0 0).tmod 40)))) [(Event.mk 3 3 0), (Event.mk 1 0 0), (Event.mk 2 0 0)]) 2).frame.ways).length : Int) != 1)), (61, ab ((((nth (runF (madeWay 3 1 (IntKind.i64.wrap (1 + ((wByte a0 0).tmod 40)))) [(Event.mk 3 3 0), (Event.mk 1 0 0), (Event.mk 2 0 0)]) 2).frame.ways).length : Int) != 1))] (fun q25 => ?_) (fun q25 => ?_)
      ·
       exact sEJ ([(84, ab true)] ++ tz [83, 82, 81, 80, 79, 78, 77, 76, 75] ++ [(74, ab true), (73, ab true)] ++ tz [72, 71, 70, 69, 68, 67, 66, 65, 64]) q18 (by simp only [q2.2, q19, q21, q23, q25] <;> kernel_rfl)
      ·
       replace h := h q25
       obtain ⟨q30, h⟩ := h
       refine sIdx 2 (some 65) [(64, af (eDone false) (runF (madeWay 3 0 (IntKind.i64.wrap (1 + ((wByte a0 0).tmod 40)))) [(Event.mk 1 0 0), (Event.mk 2 0 0)]))] (eDone false) (runF (madeWay 3 0 (IntKind.i64.wrap (1 + ((wByte a0 0).tmod 40)))) [(Event.mk 1 0 0), (Event.mk 2 0 0)]) 5 q30 ?_
       obtain ⟨q29, h⟩ := h
       refine sIdx 4 (some 69) [(68, al (eHeld false) ((nth (runF (madeWay 3 0 (IntKind.i64.wrap (1 + ((wByte a0 0).tmod 40)))) [(Event.mk 1 0 0), (Event.mk 2 0 0)]) 1).frame.ways)), (67, .rp (eDone false (nth (runF (madeWay 3 0 (IntKind.i64.wrap (1 + ((wByte a0 0).tmod 40)))) [(Event.mk 1 0 0), (Event.mk 2 0 0)]) 1)) 4), (66, .rp (eDone false (nth (runF (madeWay 3 0 (IntKind.i64.wrap (1 + ((wByte a0 0).tmod 40)))) [(Event.mk 1 0 0), (Event.mk 2 0 0)]) 1)) 1)] (eHeld false) ((nth (runF (madeWay 3 0 (IntKind.i64.wrap (1 + ((wByte a0 0).tmod 40)))) [(Event.mk 1 0 0), (Event.mk 2 0 0)]) 1).frame.ways) 5 q29 ?_
       refine sCase1 5 74 (((nth ((nth (runF (madeWay 3 0 (IntKind.i64.wrap (1 + ((wByte a0 0).tmod 40)))) [(Event.mk 1 0 0), (Event.mk 2 0 0)]) 1).frame.ways) 0).state) != 0) [(73, ab (((nth ((nth (runF (madeWay 3 0 (IntKind.i64.wrap (1 + ((wByte a0 0).tmod 40)))) [(Event.mk 1 0 0), (Event.mk 2 0 0)]) 1).frame.ways) 0).state) != 0)), (72, ab (((nth ((nth (runF (madeWay 3 0 (IntKind.i64.wrap (1 + ((wByte a0 0).tmod 40)))) [(Event.mk 1 0 0), (Event.mk 2 0 0)]) 1).frame.ways) 0).state) != 0)), (71, ai ((nth ((nth (runF (madeWay 3 0 (IntKind.i64.wrap (1 + ((wByte a0 0).tmod 40)))) [(Event.mk 1 0 0), (Event.mk 2 0 0)]) 1).frame.ways) 0).state)), (70, .rp (eHeld false (nth ((nth (runF (madeWay 3 0 (IntKind.i64.wrap (1 + ((wByte a0 0).tmod 40)))) [(Event.mk 1 0 0), (Event.mk 2 0 0)]) 1).frame.ways) 0)) 0)] (fun q26 => ?_) (fun q26 => ?_)
       ·
        exact sEJ ([(84, ab true)] ++ tz [83, 82, 81, 80, 79, 78, 77, 76, 75]) q18 (by simp only [q2.2, q19, q21, q23, q25, q26] <;> kernel_rfl)
       ·
        replace h := h q26
        obtain ⟨q28, h⟩ := h
        refine sIdx 2 (some 76) [(75, af (eDone false) (runF (madeWay 3 1 (IntKind.i64.wrap (1 + ((wByte a0 0).tmod 40)))) [(Event.mk 3 3 0), (Event.mk 1 0 0), (Event.mk 2 0 0)]))] (eDone false) (runF (madeWay 3 1 (IntKind.i64.wrap (1 + ((wByte a0 0).tmod 40)))) [(Event.mk 3 3 0), (Event.mk 1 0 0), (Event.mk 2 0 0)]) 5 q28 ?_
        have q27 := h
        refine sIdx 4 (some 80) [(79, al (eHeld false) ((nth (runF (madeWay 3 1 (IntKind.i64.wrap (1 + ((wByte a0 0).tmod 40)))) [(Event.mk 3 3 0), (Event.mk 1 0 0), (Event.mk 2 0 0)]) 2).frame.ways)), (78, .rp (eDone false (nth (runF (madeWay 3 1 (IntKind.i64.wrap (1 + ((wByte a0 0).tmod 40)))) [(Event.mk 3 3 0), (Event.mk 1 0 0), (Event.mk 2 0 0)]) 2)) 4), (77, .rp (eDone false (nth (runF (madeWay 3 1 (IntKind.i64.wrap (1 + ((wByte a0 0).tmod 40)))) [(Event.mk 3 3 0), (Event.mk 1 0 0), (Event.mk 2 0 0)]) 2)) 1)] (eHeld false) ((nth (runF (madeWay 3 1 (IntKind.i64.wrap (1 + ((wByte a0 0).tmod 40)))) [(Event.mk 3 3 0), (Event.mk 1 0 0), (Event.mk 2 0 0)]) 2).frame.ways) 5 q27 ?_
        exact sEJ [(84, ab (((nth ((nth (runF (madeWay 3 1 (IntKind.i64.wrap (1 + ((wByte a0 0).tmod 40)))) [(Event.mk 3 3 0), (Event.mk 1 0 0), (Event.mk 2 0 0)]) 2).frame.ways) 0).state) != 0)), (83, ab (((nth ((nth (runF (madeWay 3 1 (IntKind.i64.wrap (1 + ((wByte a0 0).tmod 40)))) [(Event.mk 3 3 0), (Event.mk 1 0 0), (Event.mk 2 0 0)]) 2).frame.ways) 0).state) != 0)), (82, ai ((nth ((nth (runF (madeWay 3 1 (IntKind.i64.wrap (1 + ((wByte a0 0).tmod 40)))) [(Event.mk 3 3 0), (Event.mk 1 0 0), (Event.mk 2 0 0)]) 2).frame.ways) 0).state)), (81, .rp (eHeld false (nth ((nth (runF (madeWay 3 1 (IntKind.i64.wrap (1 + ((wByte a0 0).tmod 40)))) [(Event.mk 3 3 0), (Event.mk 1 0 0), (Event.mk 2 0 0)]) 2).frame.ways) 0)) 0)] q18 (by simp only [q2.2, q19, q21, q23, q25, q26] <;> kernel_rfl)
  replace h := h q17
  unfold laws_FnBack_C1 at h
  refine cCond1 (fun q33 => ?_) (fun q33 => ?_)
  ·
   replace h := h q33
   refine cRM [500088] 9 [(2, ab false)] [1] [] ?_
   exact cRet (QJoin.ret (rt1 (ab false) (SnapR3.of1 (sr_bool h))))
  ·
   refine cSkip ?_
   exact QJoin.normal ⟨q17, (by simp only [q2.2, q33] <;> rfl)⟩ wkJ
 replace h := h q16
 refine cRE [500088] 10 [(8, rf 0 0 (([(Event.mk 3 3 0), (Event.mk 1 0 0), (Event.mk 2 0 0)] : List Event).length)), (88, rf 0 0 (([(Event.mk 3 3 0), (Event.mk 1 0 0), (Event.mk 2 0 0)] : List Event).length)), (87, .agg [ai 2, ai 0, ai 0]), (86, .agg [ai 1, ai 0, ai 0]), (85, .agg [ai 3, ai 3, ai 0])] [1] [0, 1, 3] id (fun _ => [⟨0, 3, List.map eEvent ([(Event.mk 3 3 0), (Event.mk 1 0 0), (Event.mk 2 0 0)] : List Event)⟩]) ?_
 obtain ⟨q108, h⟩ := h
 refine cSeqM [(9, ai ((wByte a0 1).tmod (IntKind.i64.wrap ((IntKind.i64.wrap (1 + ((wByte a0 0).tmod 40))) + 1))))] [3] (True) ?_ (fun q37 => ?_)
 ·
  replace h := q108
  refine rgS [500088] 11 ?_
  obtain ⟨q38, h⟩ := h
  refine sCallV 2 (some 90) [(89, al eU8 a0)] [al eU8 a0, ai 1] (laws_wByte_V a0 1 q38) (PW.cons (Snap2.of1 sa_lst) (PW.cons (Snap2.of1 (.int _ _)) PW.nil)) ?_
  have q39 := h
  refine sAnd 3 (some 93) (ai ((wByte a0 1).tmod (IntKind.i64.wrap ((IntKind.i64.wrap (1 + ((wByte a0 0).tmod 40))) + 1)))) [(92, ai (IntKind.i64.wrap ((IntKind.i64.wrap (1 + ((wByte a0 0).tmod 40))) + 1))), (91, ai (IntKind.i64.wrap (1 + ((wByte a0 0).tmod 40))))] q39 ?_
  exact sEJ [(9, ai ((wByte a0 1).tmod (IntKind.i64.wrap ((IntKind.i64.wrap (1 + ((wByte a0 0).tmod 40))) + 1))))] trivial
 refine cSeq ?_
 refine cRM [500088] 12 [(10, ai 0)] [1] [4] ?_
 unfold laws_FnBack_C9 at h
 refine cBlock 0 ?_
 obtain ⟨q107, h⟩ := h
 refine cLoop (fun (v : Nat × (List Event) × Int) => (⟨(mkS 175 [(3, ai (IntKind.i64.wrap (1 + ((wByte a0 0).tmod 40)))), (4, ap 4 0), (8, rf 0 (v.1) ((v.2.1).length)), (9, ai ((wByte a0 1).tmod (IntKind.i64.wrap ((IntKind.i64.wrap (1 + ((wByte a0 0).tmod 40))) + 1)))), (10, ai (v.2.2))]), [(4, (ePlan true (madeWay 3 0 (IntKind.i64.wrap (1 + ((wByte a0 0).tmod 40))))))], [⟨(v.1), 3, List.map eEvent (v.2.1)⟩]⟩ : St)) (fun (v : Nat × (List Event) × Int) => I0 (v.1) (v.2.1) (v.2.2)) (fun (v : Nat × (List Event) × Int) => m0 (v.1) (v.2.1) (v.2.2)) (0, ([(Event.mk 3 3 0), (Event.mk 1 0 0), (Event.mk 2 0 0)] : List Event), 0) (wkL [5]) q107 (fun v hI => ?_)
 obtain ⟨g0, x0, v10⟩ := v
 replace h := h g0 x0 v10 hI
 dsimp only
 obtain ⟨q106, h⟩ := h
 refine cSeqM [] [5] ((decide (v10 < (IntKind.i64.wrap (1 + ((wByte a0 0).tmod 40))))) = true) ?_ (fun q41 => ?_)
 ·
  replace h := q106
  refine cRM [500088] 13 [(96, ab (decide (v10 < (IntKind.i64.wrap (1 + ((wByte a0 0).tmod 40)))))), (95, ai (IntKind.i64.wrap (1 + ((wByte a0 0).tmod 40)))), (94, ai v10)] [1] [5] ?_
  refine cCond1 (fun q43 => ?_) (fun q43 => ?_)
  ·
   refine cSkip ?_
   exact QJoin.normal (by simp only [q2.2, q16.2, q43] <;> rfl) wkJ
  ·
   replace h := h q43
   refine cExit 0 ?_
   refine QJoin.exit ?_
   refine QRound.exit ?_
   refine QBlock.here ?_
   refine QSeq.normal ?_
   obtain ⟨q100, h⟩ := h
   refine cSeqG ⟨(mkS 175 [(3, ai (IntKind.i64.wrap (1 + ((wByte a0 0).tmod 40)))), (8, rf 0 g0 x0.length), (9, ai ((wByte a0 1).tmod (IntKind.i64.wrap ((IntKind.i64.wrap (1 + ((wByte a0 0).tmod 40))) + 1)))), (11, af (eDone false) (runF (madeWay 3 0 (IntKind.i64.wrap (1 + ((wByte a0 0).tmod 40)))) x0))]), [(4, (ePlan true (madeWay 3 0 (IntKind.i64.wrap (1 + ((wByte a0 0).tmod 40))))))], [⟨g0, 3, List.map eEvent x0⟩]⟩ (True) ?_ (fun q44 => ?_)
   ·
    replace h := q100
    refine rgS [500088] 18 ?_
    have q45 := h
    refine sCallV 3 (some 112) [(111, rf 0 g0 x0.length), (110, .agg (ePlan true (madeWay 3 0 (IntKind.i64.wrap (1 + ((wByte a0 0).tmod 40))))))] [.agg (ePlan true (madeWay 3 0 (IntKind.i64.wrap (1 + ((wByte a0 0).tmod 40))))), rf 0 g0 x0.length] (impl_Run_V (madeWay 3 0 (IntKind.i64.wrap (1 + ((wByte a0 0).tmod 40)))) x0) (PW.cons (Snap2.agg (PW.cons (.int _ _) (PW.cons sa_lst (PW.cons sa_lst (PW.cons sa_lst (PW.cons (.int _ _) PW.nil)))))) (PW.cons (Snap2.of1 (sa_blk' (sz := 3) (by simp) rfl (iEvent) q45)) PW.nil)) ?_
    exact sEJ [(11, af (eDone false) (runF (madeWay 3 0 (IntKind.i64.wrap (1 + ((wByte a0 0).tmod 40)))) x0))] trivial
   unfold laws_FnBack_C7 at h
   obtain ⟨q99, h⟩ := h
   refine cSeqM [] [1, 1, 2] (((runF (madeWay 3 0 (IntKind.i64.wrap (1 + ((wByte a0 0).tmod 40)))) x0).length ≤ 4611686018427387904) ∧ ((!(((runF (madeWay 3 0 (IntKind.i64.wrap (1 + ((wByte a0 0).tmod 40)))) x0).length : Int) != (x0.length : Int))) = true)) ?_ (fun q46 => ?_)
   ·
    replace h := q99
    refine cSeqM [(117, ab (((runF (madeWay 3 0 (IntKind.i64.wrap (1 + ((wByte a0 0).tmod 40)))) x0).length : Int) != (x0.length : Int)))] [1, 1, 2] ((runF (madeWay 3 0 (IntKind.i64.wrap (1 + ((wByte a0 0).tmod 40)))) x0).length ≤ 4611686018427387904) ?_ (fun q47 => ?_)
    ·
     refine rgS [500088] 19 ?_
     refine sLen 2 (some 114) [(113, af (eDone false) (runF (madeWay 3 0 (IntKind.i64.wrap (1 + ((wByte a0 0).tmod 40)))) x0))] (eDone false) (runF (madeWay 3 0 (IntKind.i64.wrap (1 + ((wByte a0 0).tmod 40)))) x0) (fun q48 => ?_)
     exact sEJ [(117, ab (((runF (madeWay 3 0 (IntKind.i64.wrap (1 + ((wByte a0 0).tmod 40)))) x0).length : Int) != (x0.length : Int))), (116, ai (x0.length : Int)), (115, rf 0 g0 x0.length)] q48
    replace h := h q47
    refine cCond1 (fun q49 => ?_) (fun q49 => ?_)
    ·
     replace h := h q49
     refine cRM [500088] 20 [(2, ab false)] [1] [] ?_
     exact cRet (QJoin.ret (rt1 (ab false) (SnapR3.of1 (sr_bool h))))
    ·
     refine cSkip ?_
     exact QJoin.normal ⟨q47, (by simp only [q2.2, q16.2, q43, q49] <;> rfl)⟩ wkJ
   replace h := h q46
   refine cSeq ?_
   refine cSeqM [(118, af (eDone false) (runF (madeWay 3 0 (IntKind.i64.wrap (1 + ((wByte a0 0).tmod 40)))) x0)), (119, ai ((runF (madeWay 3 0 (IntKind.i64.wrap (1 + ((wByte a0 0).tmod 40)))) x0).length : Int)), (120, ai 0)] [3] (True) ?_ (fun q51 => ?_)
   ·
    refine rgS [500088] 21 ?_
    refine sLen 2 (some 119) [(118, af (eDone false) (runF (madeWay 3 0 (IntKind.i64.wrap (1 + ((wByte a0 0).tmod 40)))) x0))] (eDone false) (runF (madeWay 3 0 (IntKind.i64.wrap (1 + ((wByte a0 0).tmod 40)))) x0) (fun q52 => ?_)
    exact sEJ [(120, ai 0)] trivial
   refine cBlock 2 ?_
   obtain ⟨q98, h⟩ := h
   refine cLoop (fun (v : Int) => (⟨(mkS 175 [(3, ai (IntKind.i64.wrap (1 + ((wByte a0 0).tmod 40)))), (9, ai ((wByte a0 1).tmod (IntKind.i64.wrap ((IntKind.i64.wrap (1 + ((wByte a0 0).tmod 40))) + 1)))), (11, af (eDone false) (runF (madeWay 3 0 (IntKind.i64.wrap (1 + ((wByte a0 0).tmod 40)))) x0)), (118, af (eDone false) (runF (madeWay 3 0 (IntKind.i64.wrap (1 + ((wByte a0 0).tmod 40)))) x0)), (119, ai ((runF (madeWay 3 0 (IntKind.i64.wrap (1 + ((wByte a0 0).tmod 40)))) x0).length : Int)), (120, ai v)]), [], [⟨g0, 3, List.map eEvent x0⟩]⟩ : St)) (fun (v : Int) => I1 g0 x0 v10 v) (fun (v : Int) => m1 g0 x0 v10 v) 0 (wkL [4]) q98 (fun v120 hI => ?_)
   replace h := h v120 hI
   refine cRM [500088] 22 [(121, ab (decide (v120 < ((runF (madeWay 3 0 (IntKind.i64.wrap (1 + ((wByte a0 0).tmod 40)))) x0).length : Int))))] [1] [6] ?_
   obtain ⟨q97, h⟩ := h
   refine cSeqM [] [0, 1, 6] ((decide (v120 < ((runF (madeWay 3 0 (IntKind.i64.wrap (1 + ((wByte a0 0).tmod 40)))) x0).length : Int))) = true) ?_ (fun q54 => ?_)
   ·
    replace h := q97
    refine cCond1 (fun q55 => ?_) (fun q55 => ?_)
    ·
     refine cSkip ?_
     exact QJoin.normal (by simp only [q2.2, q16.2, q43, q46.2, q55] <;> rfl) wkJ
    ·
     replace h := h q55
     refine cExit 2 ?_
     refine QJoin.exit ?_
     refine QRound.exit ?_
     refine QBlock.here ?_
     refine QSeq.normal ?_
     refine cSeqG ⟨(mkS 175 [(2, ab true)]), [], [⟨g0, 3, List.map eEvent x0⟩]⟩ (True) ?_ (fun q56 => ?_)
     ·
      refine rgS [500088] 42 ?_
      exact sEJ [(2, ab true)] trivial
     exact cRet (rt1 (ab true) (SnapR3.of1 (sr_bool h)))
   replace h := h q54
   unfold laws_FnBack_C6 at h
   obtain ⟨q96, h⟩ := h
   refine cSeqE [] [6] (fun L => (13, (eDone false (nth (runF (madeWay 3 0 (IntKind.i64.wrap (1 + ((wByte a0 0).tmod 40)))) x0) v120))) :: L) id ((((nth (runF (madeWay 3 0 (IntKind.i64.wrap (1 + ((wByte a0 0).tmod 40)))) x0) v120).frame.ways).length ≤ 4611686018427387904) ∧ (((!((((nth (runF (madeWay 3 0 (IntKind.i64.wrap (1 + ((wByte a0 0).tmod 40)))) x0) v120).frame.ways).length : Int) != 1)) && (bif (v120 == 0) then (!(((nth ((nth (runF (madeWay 3 0 (IntKind.i64.wrap (1 + ((wByte a0 0).tmod 40)))) x0) v120).frame.ways) 0).state) != 0)) else (bif (v120 == 1) then (!(((nth ((nth (runF (madeWay 3 0 (IntKind.i64.wrap (1 + ((wByte a0 0).tmod 40)))) x0) v120).frame.ways) 0).state) != 2)) else (bif ((decide (v120 < (IntKind.i64.wrap (3 + ((wByte a0 1).tmod (IntKind.i64.wrap ((IntKind.i64.wrap (1 + ((wByte a0 0).tmod 40))) + 1))))))) && (bif (((wByte a0 1).tmod (IntKind.i64.wrap ((IntKind.i64.wrap (1 + ((wByte a0 0).tmod 40))) + 1))) == (IntKind.i64.wrap (1 + ((wByte a0 0).tmod 40)))) then (!(v120 == (IntKind.i64.wrap (((runF (madeWay 3 0 (IntKind.i64.wrap (1 + ((wByte a0 0).tmod 40)))) x0).length : Int) - 1)))) else (!false))) then (!(((nth ((nth (runF (madeWay 3 0 (IntKind.i64.wrap (1 + ((wByte a0 0).tmod 40)))) x0) v120).frame.ways) 0).state) != 3)) else (bif (decide (((wByte a0 1).tmod (IntKind.i64.wrap ((IntKind.i64.wrap (1 + ((wByte a0 0).tmod 40))) + 1))) < (IntKind.i64.wrap (1 + ((wByte a0 0).tmod 40))))) then (!(((nth ((nth (runF (madeWay 3 0 (IntKind.i64.wrap (1 + ((wByte a0 0).tmod 40)))) x0) v120).frame.ways) 0).state) != 4)) else (!(((nth ((nth (runF (madeWay 3 0 (IntKind.i64.wrap (1 + ((wByte a0 0).tmod 40)))) x0) v120).frame.ways) 0).state) != 0))))))) = true)) ?_ (fun q57 => ?_)
   ·
    replace h := q96
    refine cBlock 3 ?_
    obtain ⟨q95, h⟩ := h
    refine cSeqE [(12, ai v120), (13, ap 13 0)] [6] (fun L => (13, (eDone false (nth (runF (madeWay 3 0 (IntKind.i64.wrap (1 + ((wByte a0 0).tmod 40)))) x0) v120))) :: L) id (True) ?_ (fun q58 => ?_)
    ·
     replace h := q95
     refine rgS [500088] 23 ?_
     have q59 := h
     refine sIdx 2 (some 123) [(122, ai v120)] (eDone false) (runF (madeWay 3 0 (IntKind.i64.wrap (1 + ((wByte a0 0).tmod 40)))) x0) 5 q59 ?_
     exact sEJ [(12, ai v120), (13, ap 13 0), (124, .agg (eDone false (nth (runF (madeWay 3 0 (IntKind.i64.wrap (1 + ((wByte a0 0).tmod 40)))) x0) v120)))] trivial
    unfold laws_FnBack_C5 at h
    obtain ⟨q94, h⟩ := h
    refine cSeqM [] [8] ((((nth (runF (madeWay 3 0 (IntKind.i64.wrap (1 + ((wByte a0 0).tmod 40)))) x0) v120).frame.ways).length ≤ 4611686018427387904) ∧ ((!((((nth (runF (madeWay 3 0 (IntKind.i64.wrap (1 + ((wByte a0 0).tmod 40)))) x0) v120).frame.ways).length : Int) != 1)) = true)) ?_ (fun q60 => ?_)
    ·
     replace h := q94
     refine cSeqM [(129, ab ((((nth (runF (madeWay 3 0 (IntKind.i64.wrap (1 + ((wByte a0 0).tmod 40)))) x0) v120).frame.ways).length : Int) != 1))] [8] (((nth (runF (madeWay 3 0 (IntKind.i64.wrap (1 + ((wByte a0 0).tmod 40)))) x0) v120).frame.ways).length ≤ 4611686018427387904) ?_ (fun q61 => ?_)
     ·
      refine rgS [500088] 24 ?_
      refine sLen 4 (some 128) [(127, al (eHeld false) ((nth (runF (madeWay 3 0 (IntKind.i64.wrap (1 + ((wByte a0 0).tmod 40)))) x0) v120).frame.ways)), (126, ap 13 4), (125, ap 13 1)] (eHeld false) ((nth (runF (madeWay 3 0 (IntKind.i64.wrap (1 + ((wByte a0 0).tmod 40)))) x0) v120).frame.ways) (fun q62 => ?_)
      exact sEJ [(129, ab ((((nth (runF (madeWay 3 0 (IntKind.i64.wrap (1 + ((wByte a0 0).tmod 40)))) x0) v120).frame.ways).length : Int) != 1))] q62
     replace h := h q61
     refine cCond1 (fun q63 => ?_) (fun q63 => ?_)
     ·
      replace h := h q63
      refine cRM [500088] 25 [(2, ab false)] [1] [] ?_
      exact cRet (QJoin.ret (QBlock.ret (QJoin.ret (QRound.ret (QBlock.ret (QSeq.ret (rt1 (ab false) (SnapR3.of1 (sr_bool h)))))))))
     ·
      refine cSkip ?_
      exact QJoin.normal ⟨q61, (by simp only [q2.2, q16.2, q43, q46.2, q54, q63] <;> rfl)⟩ wkJ
    replace h := h q60
    obtain ⟨q93, h⟩ := h
    refine cSeqM [(14, ai ((nth ((nth (runF (madeWay 3 0 (IntKind.i64.wrap (1 + ((wByte a0 0).tmod 40)))) x0) v120).frame.ways) 0).state))] [1, 1, 6] (True) ?_ (fun q65 => ?_)
    ·
     replace h := q93
     refine rgS [500088] 26 ?_
     have q66 := h
     refine sIdx 4 (some 133) [(132, al (eHeld false) ((nth (runF (madeWay 3 0 (IntKind.i64.wrap (1 + ((wByte a0 0).tmod 40)))) x0) v120).frame.ways)), (131, ap 13 4), (130, ap 13 1)] (eHeld false) ((nth (runF (madeWay 3 0 (IntKind.i64.wrap (1 + ((wByte a0 0).tmod 40)))) x0) v120).frame.ways) 5 q66 ?_
     exact sEJ [(14, ai ((nth ((nth (runF (madeWay 3 0 (IntKind.i64.wrap (1 + ((wByte a0 0).tmod 40)))) x0) v120).frame.ways) 0).state)), (135, ai ((nth ((nth (runF (madeWay 3 0 (IntKind.i64.wrap (1 + ((wByte a0 0).tmod 40)))) x0) v120).frame.ways) 0).state)), (134, .rp (eHeld false (nth ((nth (runF (madeWay 3 0 (IntKind.i64.wrap (1 + ((wByte a0 0).tmod 40)))) x0) v120).frame.ways) 0)) 0)] trivial
    refine cBlock 4 ?_
    refine cRM [500088] 29 [(138, ab (v120 == 0)), (140, ab (v120 == 0)), (139, ai v120)] [1] [8] ?_
    unfold laws_FnBack_C4 at h
    refine cCond1 (fun q68 => ?_) (fun q68 => ?_)
    ·
     replace h := h.1 q68
     refine cRM [500088] 30 [(142, ab (((nth ((nth (runF (madeWay 3 0 (IntKind.i64.wrap (1 + ((wByte a0 0).tmod 40)))) x0) v120).frame.ways) 0).state) != 0)), (141, ai ((nth ((nth (runF (madeWay 3 0 (IntKind.i64.wrap (1 + ((wByte a0 0).tmod 40)))) x0) v120).frame.ways) 0).state))] [1] [0, 3, 6] ?_
     refine cCond1 (fun q70 => ?_) (fun q70 => ?_)
     ·
      replace h := h q70
      refine cRM [500088] 31 [(2, ab false)] [1] [] ?_
      exact cRet (QBlock.ret (QBlock.ret (QJoin.ret (QRound.ret (QBlock.ret (QSeq.ret (rt1 (ab false) (SnapR3.of1 (sr_bool h)))))))))
     ·
      refine cSkip ?_
      refine QBlock.normal ?_
      refine QBlock.normal ?_
      exact QJoin.normal ⟨q60.1, (by simp only [q2.2, q16.2, q43, q46.2, q54, q60.2, q68, q70] <;> rfl)⟩ wkJ
    ·
     replace h := h.2 q68
     refine cRM [500088] 32 [(143, ab (v120 == 1)), (145, ab (v120 == 1)), (144, ai v120)] [1] [0, 1, 8] ?_
     refine cCond1 (fun q73 => ?_) (fun q73 => ?_)
     ·
      replace h := h.1 q73
      refine cRM [500088] 33 [(147, ab (((nth ((nth (runF (madeWay 3 0 (IntKind.i64.wrap (1 + ((wByte a0 0).tmod 40)))) x0) v120).frame.ways) 0).state) != 2)), (146, ai ((nth ((nth (runF (madeWay 3 0 (IntKind.i64.wrap (1 + ((wByte a0 0).tmod 40)))) x0) v120).frame.ways) 0).state))] [1] [0, 3, 6] ?_
      refine cCond1 (fun q75 => ?_) (fun q75 => ?_)
      ·
       replace h := h q75
       refine cRM [500088] 34 [(2, ab false)] [1] [] ?_
       exact cRet (QBlock.ret (QBlock.ret (QJoin.ret (QRound.ret (QBlock.ret (QSeq.ret (rt1 (ab false) (SnapR3.of1 (sr_bool h)))))))))
      ·
       refine cSkip ?_
       refine QBlock.normal ?_
       refine QBlock.normal ?_
       exact QJoin.normal ⟨q60.1, (by simp only [q2.2, q16.2, q43, q46.2, q54, q60.2, q68, q73, q75] <;> rfl)⟩ wkJ
     ·
      replace h := h.2 q73
      refine cSeqM [(148, ab ((decide (v120 < (IntKind.i64.wrap (3 + ((wByte a0 1).tmod (IntKind.i64.wrap ((IntKind.i64.wrap (1 + ((wByte a0 0).tmod 40))) + 1))))))) && (bif (((wByte a0 1).tmod (IntKind.i64.wrap ((IntKind.i64.wrap (1 + ((wByte a0 0).tmod 40))) + 1))) == (IntKind.i64.wrap (1 + ((wByte a0 0).tmod 40)))) then (!(v120 == (IntKind.i64.wrap (((runF (madeWay 3 0 (IntKind.i64.wrap (1 + ((wByte a0 0).tmod 40)))) x0).length : Int) - 1)))) else (!false))))] [0, 1, 1, 1, 6] (True) ?_ (fun q77 => ?_)
      ·
       refine rgS [500088] 35 ?_
       refine sCase1 5 153 (decide (v120 < (IntKind.i64.wrap (3 + ((wByte a0 1).tmod (IntKind.i64.wrap ((IntKind.i64.wrap (1 + ((wByte a0 0).tmod 40))) + 1))))))) [(152, ab (decide (v120 < (IntKind.i64.wrap (3 + ((wByte a0 1).tmod (IntKind.i64.wrap ((IntKind.i64.wrap (1 + ((wByte a0 0).tmod 40))) + 1)))))))), (151, ai (IntKind.i64.wrap (3 + ((wByte a0 1).tmod (IntKind.i64.wrap ((IntKind.i64.wrap (1 + ((wByte a0 0).tmod 40))) + 1)))))), (150, ai ((wByte a0 1).tmod (IntKind.i64.wrap ((IntKind.i64.wrap (1 + ((wByte a0 0).tmod 40))) + 1)))), (149, ai v120)] (fun q78 => ?_) (fun q78 => ?_)
       ·
        refine sCase1 4 157 (((wByte a0 1).tmod (IntKind.i64.wrap ((IntKind.i64.wrap (1 + ((wByte a0 0).tmod 40))) + 1))) == (IntKind.i64.wrap (1 + ((wByte a0 0).tmod 40)))) [(156, ab (((wByte a0 1).tmod (IntKind.i64.wrap ((IntKind.i64.wrap (1 + ((wByte a0 0).tmod 40))) + 1))) == (IntKind.i64.wrap (1 + ((wByte a0 0).tmod 40))))), (155, ai (IntKind.i64.wrap (1 + ((wByte a0 0).tmod 40)))), (154, ai ((wByte a0 1).tmod (IntKind.i64.wrap ((IntKind.i64.wrap (1 + ((wByte a0 0).tmod 40))) + 1))))] (fun q79 => ?_) (fun q79 => ?_)
        ·
         refine sLen 3 (some 160) [(159, af (eDone false) (runF (madeWay 3 0 (IntKind.i64.wrap (1 + ((wByte a0 0).tmod 40)))) x0)), (158, ai v120)] (eDone false) (runF (madeWay 3 0 (IntKind.i64.wrap (1 + ((wByte a0 0).tmod 40)))) x0) (fun q80 => ?_)
         exact sEJ [(148, ab (!(v120 == (IntKind.i64.wrap (((runF (madeWay 3 0 (IntKind.i64.wrap (1 + ((wByte a0 0).tmod 40)))) x0).length : Int) - 1))))), (165, ab (!(v120 == (IntKind.i64.wrap (((runF (madeWay 3 0 (IntKind.i64.wrap (1 + ((wByte a0 0).tmod 40)))) x0).length : Int) - 1))))), (164, ab (!(v120 == (IntKind.i64.wrap (((runF (madeWay 3 0 (IntKind.i64.wrap (1 + ((wByte a0 0).tmod 40)))) x0).length : Int) - 1))))), (163, ab (v120 == (IntKind.i64.wrap (((runF (madeWay 3 0 (IntKind.i64.wrap (1 + ((wByte a0 0).tmod 40)))) x0).length : Int) - 1)))), (162, ab (v120 == (IntKind.i64.wrap (((runF (madeWay 3 0 (IntKind.i64.wrap (1 + ((wByte a0 0).tmod 40)))) x0).length : Int) - 1)))), (161, ai (IntKind.i64.wrap (((runF (madeWay 3 0 (IntKind.i64.wrap (1 + ((wByte a0 0).tmod 40)))) x0).length : Int) - 1)))] trivial (by simp only [q2.2, q16.2, q43, q46.2, q54, q60.2, q68, q73, q78, q79] <;> kernel_rfl)
        ·
         exact sEJ ([(148, ab (!false)), (165, ab (!false)), (164, ab (!false)), (163, ab false)] ++ tz [162, 161, 160, 159, 158]) trivial (by simp only [q2.2, q16.2, q43, q46.2, q54, q60.2, q68, q73, q78, q79] <;> kernel_rfl)
       ·
        exact sEJ ([(148, ab false), (165, ab false)] ++ tz [164, 163, 162, 161, 160, 159, 158, 157, 156, 155, 154]) trivial (by simp only [q2.2, q16.2, q43, q46.2, q54, q60.2, q68, q73, q78] <;> kernel_rfl)
      unfold laws_FnBack_C3 at h
      refine cCond1 (fun q81 => ?_) (fun q81 => ?_)
      ·
       replace h := h.1 q81
       refine cRM [500088] 36 [(167, ab (((nth ((nth (runF (madeWay 3 0 (IntKind.i64.wrap (1 + ((wByte a0 0).tmod 40)))) x0) v120).frame.ways) 0).state) != 3)), (166, ai ((nth ((nth (runF (madeWay 3 0 (IntKind.i64.wrap (1 + ((wByte a0 0).tmod 40)))) x0) v120).frame.ways) 0).state))] [1] [0, 2, 6] ?_
       refine cCond1 (fun q83 => ?_) (fun q83 => ?_)
       ·
        replace h := h q83
        refine cRM [500088] 37 [(2, ab false)] [1] [] ?_
        exact cRet (QBlock.ret (QBlock.ret (QJoin.ret (QRound.ret (QBlock.ret (QSeq.ret (rt1 (ab false) (SnapR3.of1 (sr_bool h)))))))))
       ·
        refine cSkip ?_
        refine QBlock.normal ?_
        refine QBlock.normal ?_
        exact QJoin.normal ⟨q60.1, (by simp only [q2.2, q16.2, q43, q46.2, q54, q60.2, q68, q73, q81, q83] <;> rfl)⟩ wkJ
      ·
       replace h := h.2 q81
       refine cRM [500088] 38 [(168, ab (decide (((wByte a0 1).tmod (IntKind.i64.wrap ((IntKind.i64.wrap (1 + ((wByte a0 0).tmod 40))) + 1))) < (IntKind.i64.wrap (1 + ((wByte a0 0).tmod 40)))))), (171, ab (decide (((wByte a0 1).tmod (IntKind.i64.wrap ((IntKind.i64.wrap (1 + ((wByte a0 0).tmod 40))) + 1))) < (IntKind.i64.wrap (1 + ((wByte a0 0).tmod 40)))))), (170, ai (IntKind.i64.wrap (1 + ((wByte a0 0).tmod 40)))), (169, ai ((wByte a0 1).tmod (IntKind.i64.wrap ((IntKind.i64.wrap (1 + ((wByte a0 0).tmod 40))) + 1))))] [1] [0, 1, 7] ?_
       unfold laws_FnBack_C2 at h
       refine cCond1 (fun q86 => ?_) (fun q86 => ?_)
       ·
        replace h := h.1 q86
        refine cRM [500088] 39 [(173, ab (((nth ((nth (runF (madeWay 3 0 (IntKind.i64.wrap (1 + ((wByte a0 0).tmod 40)))) x0) v120).frame.ways) 0).state) != 4)), (172, ai ((nth ((nth (runF (madeWay 3 0 (IntKind.i64.wrap (1 + ((wByte a0 0).tmod 40)))) x0) v120).frame.ways) 0).state))] [1] [0, 2, 6] ?_
        refine cCond1 (fun q88 => ?_) (fun q88 => ?_)
        ·
         replace h := h q88
         refine cRM [500088] 40 [(2, ab false)] [1] [] ?_
         exact cRet (QBlock.ret (QBlock.ret (QJoin.ret (QRound.ret (QBlock.ret (QSeq.ret (rt1 (ab false) (SnapR3.of1 (sr_bool h)))))))))
        ·
         refine cSkip ?_
         refine QBlock.normal ?_
         refine QBlock.normal ?_
         exact QJoin.normal ⟨q60.1, (by simp only [q2.2, q16.2, q43, q46.2, q54, q60.2, q68, q73, q81, q86, q88] <;> rfl)⟩ wkJ
       ·
        replace h := h.2 q86
        refine cRM [500088] 27 [(137, ab (((nth ((nth (runF (madeWay 3 0 (IntKind.i64.wrap (1 + ((wByte a0 0).tmod 40)))) x0) v120).frame.ways) 0).state) != 0)), (136, ai ((nth ((nth (runF (madeWay 3 0 (IntKind.i64.wrap (1 + ((wByte a0 0).tmod 40)))) x0) v120).frame.ways) 0).state))] [1] [0, 2, 6] ?_
        refine cCond1 (fun q91 => ?_) (fun q91 => ?_)
        ·
         replace h := h q91
         refine cRM [500088] 28 [(2, ab false)] [1] [] ?_
         exact cRet (QBlock.ret (QBlock.ret (QJoin.ret (QRound.ret (QBlock.ret (QSeq.ret (rt1 (ab false) (SnapR3.of1 (sr_bool h)))))))))
        ·
         refine cSkip ?_
         refine QBlock.normal ?_
         refine QBlock.normal ?_
         exact QJoin.normal ⟨q60.1, (by simp only [q2.2, q16.2, q43, q46.2, q54, q60.2, q68, q73, q81, q86, q91] <;> rfl)⟩ wkJ
   replace h := h q57
   refine rgS [500088] 41 ?_
   refine sEnd [(120, ai (IntKind.i64.wrap (v120 + 1))), (174, ai (IntKind.i64.wrap (v120 + 1)))] ?_
   exact QRound.again (IntKind.i64.wrap (v120 + 1)) h (wkL [13])
 replace h := h q41
 refine cSeq ?_
 refine cBlock 1 ?_
 refine cSeq ?_
 refine cRM [500088] 15 [(101, ab (v10 == ((wByte a0 1).tmod (IntKind.i64.wrap ((IntKind.i64.wrap (1 + ((wByte a0 0).tmod 40))) + 1))))), (100, ai ((wByte a0 1).tmod (IntKind.i64.wrap ((IntKind.i64.wrap (1 + ((wByte a0 0).tmod 40))) + 1)))), (99, ai v10)] [1] [5] ?_
 unfold laws_FnBack_C8 at h
 refine cCond1 (fun q102 => ?_) (fun q102 => ?_)
 ·
  replace h := h.1 q102
  refine rgS [500088] 16 ?_
  obtain ⟨q104, h⟩ := h
  refine sApp 4 (some 105) [(104, .lst (List.map eEvent [(Event.mk 3 0 0)]) true true), (103, .agg [ai 3, ai 0, ai 0]), (102, rf 0 g0 x0.length)] eEvent x0 [(Event.mk 3 0 0)] (refrs true (List.map eEvent [(Event.mk 3 0 0)])) 0 g0 3 24 (fun r => [⟨(g0 + 1), 3, r⟩]) rfl q104 ?_
  refine sEnd [(8, rf 0 (g0 + 1) ((x0 ++ [(Event.mk 3 0 0)]).length))] ?_
  refine QSeq.normal ?_
  refine rgS [500088] 17 ?_
  obtain ⟨q103, h⟩ := h
  refine sApp 4 (some 109) [(108, .lst (List.map eEvent [(Event.mk 7 0 0)]) true true), (107, .agg [ai 7, ai 0, ai 0]), (106, rf 0 (g0 + 1) ((x0 ++ [(Event.mk 3 0 0)]).length))] eEvent (x0 ++ [(Event.mk 3 0 0)]) [(Event.mk 7 0 0)] (refrs true (List.map eEvent [(Event.mk 7 0 0)])) 0 (g0 + 1) 3 24 (fun r => [⟨((g0 + 1) + 1), 3, r⟩]) rfl q103 ?_
  refine sEnd [(8, rf 0 ((g0 + 1) + 1) (((x0 ++ [(Event.mk 3 0 0)]) ++ [(Event.mk 7 0 0)]).length))] ?_
  refine QBlock.normal ?_
  refine QSeq.normal ?_
  refine rgS [500088] 14 ?_
  refine sEnd [(10, ai (IntKind.i64.wrap (v10 + 1))), (98, ai (IntKind.i64.wrap (v10 + 1))), (97, ai v10)] ?_
  exact QRound.again (((g0 + 1) + 1), ((x0 ++ [(Event.mk 3 0 0)]) ++ [(Event.mk 7 0 0)]), (IntKind.i64.wrap (v10 + 1))) h (wkL [])
 ·
  replace h := h.2 q102
  refine cSkip ?_
  refine QSeq.normal ?_
  refine rgS [500088] 17 ?_
  obtain ⟨q105, h⟩ := h
  refine sApp 4 (some 109) [(108, .lst (List.map eEvent [(Event.mk 7 0 0)]) true true), (107, .agg [ai 7, ai 0, ai 0]), (106, rf 0 g0 x0.length)] eEvent x0 [(Event.mk 7 0 0)] (refrs true (List.map eEvent [(Event.mk 7 0 0)])) 0 g0 3 24 (fun r => [⟨(g0 + 1), 3, r⟩]) rfl q105 ?_
  refine sEnd [(8, rf 0 (g0 + 1) ((x0 ++ [(Event.mk 7 0 0)]).length))] ?_
  refine QBlock.normal ?_
  refine QSeq.normal ?_
  refine rgS [500088] 14 ?_
  refine sEnd [(10, ai (IntKind.i64.wrap (v10 + 1))), (98, ai (IntKind.i64.wrap (v10 + 1))), (97, ai v10)] ?_
  exact QRound.again ((g0 + 1), (x0 ++ [(Event.mk 7 0 0)]), (IntKind.i64.wrap (v10 + 1))) h (wkL [])
theorem laws_FnBack_V (a0 : (List UInt8)) : FnV Try.prog 4 [al eU8 a0] (ab (yes1 a0)) := laws_FnBack_walk a0 (yes1 a0) (fun _ x v => upI (bkH a0) (fun _ => false) v ∧ x = listN (bkI a0).toNat v.toNat) (fun _ _ v => upM (bkH a0) v) (fun _ x _ v => x = listN (bkI a0).toNat (bkH a0).toNat ∧ upI x.length (fun _ => false) v) (fun _ x _ v => upM x.length v) (by
 have hx := wByte_in a0 0
 have hy := wByte_in a0 1
 have hH0 : bkH a0 = 1 + wByte a0 0 % 40 := by
  unfold bkH; rw [Int.tmod_eq_emod_of_nonneg hx.1]; exact w64 (by omega) (by omega)
 obtain ⟨h, hh1, hh2, hH⟩ : ∃ n : Nat, 1 ≤ n ∧ n ≤ 40 ∧ bkH a0 = n := ⟨(1 + wByte a0 0 % 40).toNat, by omega, by omega, by rw [hH0]; omega⟩
 obtain ⟨i, hi, hI⟩ : ∃ n : Nat, n ≤ h ∧ bkI a0 = n := by
  have hn := Int.emod_nonneg (wByte a0 1) (show ((h : Int) + 1) ≠ 0 by omega)
  have hr := Int.emod_lt_of_pos (wByte a0 1) (show (0 : Int) < (h : Int) + 1 by omega)
  refine ⟨(wByte a0 1 % ((h : Int) + 1)).toNat, by omega, ?_⟩
  unfold bkI
  rw [hH, Int.tmod_eq_emod_of_nonneg hy.1, show IntKind.i64.wrap ((h : Int) + 1) = (h : Int) + 1 from w64 (by omega) (by omega)]; omega
 have hHe : IntKind.i64.wrap (1 + (wByte a0 0).tmod 40) = (h : Int) := hH
 have hIe : (wByte a0 1).tmod (IntKind.i64.wrap ((h : Int) + 1)) = (i : Int) := by
  have e : bkI a0 = (i : Int) := hI
  unfold bkI at e; rw [hH] at e; exact e
 have hb := List.all_eq_true.1 bk_ok (h - 1) (List.mem_range.2 (by omega))
 rw [show ((h - 1 : Nat) : Int) + 1 = h by omega] at hb
 unfold bkOk at hb
 simp only [Bool.and_eq_true, decide_eq_true_eq] at hb
 obtain ⟨⟨⟨⟨⟨⟨⟨⟨hg, b1⟩, b2⟩, b3⟩, b4⟩, b5⟩, b6⟩, _⟩, _⟩ := hb
 have e1 : runF (madeWay 3 0 h) [Event.mk 1 0 0, Event.mk 2 0 0] = bk1 h := rfl
 have e2 : runF (madeWay 3 1 h) [Event.mk 3 3 0, Event.mk 1 0 0, Event.mk 2 0 0] = bk2 h := rfl
 obtain ⟨_, hD⟩ := back_main hh1 hh2 hi h (Nat.le_refl _)
 have hlen := list_len i h
 have hle : (listN i h).length ≤ 44 := by rw [hlen]; split <;> omega
 have hR : runF (madeWay 3 0 h) (listN i h) = runFrom (madeWay 3 0 h) (beginF (madeWay 3 0 h)) (listN i h) := by
  unfold runF; rw [if_pos ⟨hg, by omega⟩]
 unfold laws_FnBack_C
 rw [hHe]
 refine ⟨fun _ _ => rfl, fun ⟨_, hl⟩ => ?_⟩
 have hl : a0.length ≤ 1048576 := by
  have hl : ¬ ((a0.length : Int) > 1048576) := by simpa using hl
  omega
 refine ⟨⟨⟨hl, by decide⟩, by decide⟩, ⟨by decide, by decide, by decide, by decide⟩, ⟨by decide, by decide, by decide, by decide⟩, ?_⟩
 unfold laws_FnBack_C10 laws_FnBack_C1
 rw [hHe, e1, e2]
 refine ⟨⟨?_, ?_⟩, fun _ => ⟨⟨⟨hl, by decide⟩, ?_⟩, ?_⟩⟩
 ·simp [b1, b2, b3, b4, b5, b6]
 ·simp [b1, b2, b3, b4, b5, b6]
 ·rw [show IntKind.i64.wrap ((h : Int) + 1) = (h : Int) + 1 from w64 (by omega) (by omega)]; omega
 unfold laws_FnBack_C9
 rw [hHe, hH, hI]
 refine ⟨⟨up_start (by omega), rfl⟩, fun g x v hJ => ?_⟩
 obtain ⟨hJ, rfl⟩ := hJ
 have hv0 := hJ.1
 have hvn := hJ.2.1
 have hll : (listN i v.toNat).length ≤ 44 := by rw [list_len]; split <;> omega
 simp only [Int.toNat_natCast] at hll ⊢
 refine ⟨fun hv => ⟨by omega, ?_⟩, fun hv => ?_⟩
 ·have hv : ¬ v < (h : Int) := by simpa using hv
  rw [show v.toNat = h by omega]
  unfold laws_FnBack_C7
  rw [hHe, hR]
  have hrl : (runFrom (madeWay 3 0 h) (beginF (madeWay 3 0 h)) (listN i h)).length = (listN i h).length := run_len ..
  rw [hrl]
  refine ⟨fun _ hq => by simp at hq, fun _ => ⟨⟨by simp only [hH, hI, Int.toNat_natCast], up_start (by omega)⟩, fun u hU => ?_⟩⟩
  obtain ⟨_, hU⟩ := hU
  have hu0 := hU.1
  refine ⟨fun _ => rfl, fun hu => ?_⟩
  have hin := up_in hU hu
  have hst := up_step (show ((listN i h).length : Int) ≤ 4611686018427387904 by omega) hU hu rfl
  have hget : (runFrom (madeWay 3 0 h) (beginF (madeWay 3 0 h)) (listN i h))[u.toNat]? = some (nth (runFrom (madeWay 3 0 h) (beginF (madeWay 3 0 h)) (listN i h)) u) := nth_some (by rw [hrl]; exact hin.2)
  obtain ⟨w, hw, hs⟩ := hD _ _ hget
  have hs' : (nth [w] (0 : Int)).state = stN h i u.toNat := hs
  unfold laws_FnBack_C6 laws_FnBack_C5 laws_FnBack_C4 laws_FnBack_C3 laws_FnBack_C2
  rw [hHe, hIe, hR, hrl, hw, hs']
  have hw3 : IntKind.i64.wrap (3 + (i : Int)) = 3 + i := w64 (by omega) (by omega)
  have hwl : IntKind.i64.wrap (((listN i h).length : Int) - 1) = ((listN i h).length : Int) - 1 := w64 (by omega) (by omega)
  have e3 : ((decide (u < 3 + (i : Int))) && (bif ((i : Int) == (h : Int)) then (!(u == ((listN i h).length : Int) - 1)) else (!false))) = decide (u < 3 + (i : Int) ∧ ¬ (i = h ∧ u = 2 + (h : Int))) := by
   by_cases c : i = h
   ·subst c
    rw [show ((i : Int) == (i : Int)) = true by simp, show ((listN i i).length : Int) - 1 = 2 + (i : Int) by rw [list_len, if_neg (by omega)]; omega]
    rw [Bool.eq_iff_iff]; simp
   ·rw [show ((i : Int) == (h : Int)) = false by simp; omega]
    simp [c]
  rw [hw3, hwl, e3]
  refine ⟨⟨hin, fun _ hq => by simp at hq, fun _ => ⟨⟨by decide, Nat.lt_add_one 0⟩, fun h0 hq => ?_, fun h0 => ⟨fun h1 hq => ?_, fun h1 => ⟨fun h3 hq => ?_, fun h3 => ⟨fun h4 hq => ?_, fun h4 hq => ?_⟩⟩⟩⟩⟩, fun _ => ⟨⟨by simp only [hH, hI, Int.toNat_natCast], hst.1⟩, hst.2⟩⟩
  ·have h0 : u = 0 := by simpa using h0
   refine absurd ?_ (show ¬ stN h i u.toNat = 0 by simpa using hq)
   unfold stN; rw [if_pos (by omega)]
  ·have h1 : u = 1 := by simpa using h1
   refine absurd ?_ (show ¬ stN h i u.toNat = 2 by simpa using hq)
   unfold stN; rw [if_neg (by omega), if_pos (by omega)]
  ·have h0 : ¬ u = 0 := by simpa using h0
   have h1 : ¬ u = 1 := by simpa using h1
   have h3 := of_decide_eq_true h3
   refine absurd ?_ (show ¬ stN h i u.toNat = 3 by simpa using hq)
   unfold stN; rw [if_neg (by omega), if_neg (by omega), if_pos (by omega)]
  ·have h0 : ¬ u = 0 := by simpa using h0
   have h1 : ¬ u = 1 := by simpa using h1
   have h3 := of_decide_eq_false h3
   have h4 : i < h := by have h4 := of_decide_eq_true h4; omega
   refine absurd ?_ (show ¬ stN h i u.toNat = 4 by simpa using hq)
   unfold stN; rw [if_neg (by omega), if_neg (by omega), if_neg (by omega), if_pos (by omega)]
  ·have h0 : ¬ u = 0 := by simpa using h0
   have h1 : ¬ u = 1 := by simpa using h1
   have h3 := of_decide_eq_false h3
   have h4 : ¬ i < h := by have h4 := of_decide_eq_false h4; omega
   refine absurd ?_ (show ¬ stN h i u.toNat = 0 by simpa using hq)
   unfold stN; rw [if_neg (by omega), if_neg (by omega), if_neg (by omega), if_neg (by omega)]
 ·have hv' : v < (h : Int) := by simpa using hv
  have hw := wrap_up (show (h : Int) ≤ 4611686018427387904 by omega) hv0 hv'
  have hst := up_step (show (h : Int) ≤ 4611686018427387904 by omega) hJ hv rfl
  have hls : listN i (v.toNat + 1) = (if v.toNat = i then listN i v.toNat ++ [Event.mk 3 0 0] else listN i v.toNat) ++ [Event.mk 7 0 0] := rfl
  unfold laws_FnBack_C8
  rw [hHe, hIe]
  refine ⟨fun hq => ?_, fun hq => ?_⟩
  ·have hq : v = i := by simpa using hq
   refine ⟨⟨by simp only [List.length_singleton]; omega, by simp only [List.length_singleton]; omega⟩, ⟨by simp only [List.length_append, List.length_singleton]; omega, by simp only [List.length_append, List.length_singleton]; omega⟩, ⟨hH ▸ hst.1, ?_⟩, hH ▸ hst.2⟩
   rw [hw, show (v + 1).toNat = v.toNat + 1 by omega, hls, if_pos (by omega)]
  ·have hq : ¬ v = i := by simpa using hq
   refine ⟨⟨by simp only [List.length_singleton]; omega, by simp only [List.length_singleton]; omega⟩, ⟨hH ▸ hst.1, ?_⟩, hH ▸ hst.2⟩
   rw [hw, show (v + 1).toNat = v.toNat + 1 by omega, hls, if_neg (by omega)])
end Go.Proofs.Ytglpfccgmfhkdaa.Fw
