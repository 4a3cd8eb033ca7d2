/- Walks and summaries of functions, printed by a program of mine (tools/mk.py), with the proofs of what they owe. -/

import Derived.Test.YtglpfccgmfhkdaaProg
import Derived.Test.YtglpfccgmfhkdaaSpG
import Derived.Test.YtglpfccgmfhkdaaWkA
import Derived.Test.YtglpfccgmfhkdaaWkB
import Derived.Test.YtglpfccgmfhkdaaWkE
set_option linter.unusedVariables false
set_option maxRecDepth 100000
set_option maxHeartbeats 4000000
set_option linter.unusedSimpArgs false
namespace Go.Proofs.Ytglpfccgmfhkdaa.Fw
open Go
attribute [local irreducible] evS evSD WpS Weak Oper.looksAt
noncomputable def impl_settle_b : Code := bodyC Try.f105
def impl_settle_o8 : List Item := [iq 0, iq 1, iq 2, iq 3, iq 4, iq 5, iq 6, iq 7, iq 8, iq 9, iq 10, iq 11, iq 12, iq 13]
def impl_settle_o8a : List (List Nat) := [[], [0], [0, 1], [0, 1, 2], rg 0 4, rg 0 5, rg 0 6, rg 0 7, rg 0 6, rg 0 6 ++ [8], rg 0 6 ++ [8, 9], rg 0 11, rg 0 12, rg 0 13]
def impl_settle_o18 : List Item := [iq 0, iq 1, iq 2, iq 3, iq 4, iq 5, iq 6, iq 7, iq 8, iq 9, iq 10, iq 11, iq 12, iq 13, iq 14, iq 15, iq 16, iq 17, iq 18, iq 19, iq 20, iq 21, iq 22, ⟨23, true, false, []⟩]
def impl_settle_o18a : List (List Nat) := [[], [0], [0, 1], [0, 1, 2], [], [], [5], [5, 6], [5, 6, 7], [], rg 5 10, rg 5 11, rg 5 12, rg 5 13, rg 5 14, rg 5 13, rg 5 13, rg 5 13 ++ [15, 16], rg 5 13 ++ [15, 16, 17], rg 5 19, rg 5 20, rg 5 21, rg 0 22, rg 0 23]
def impl_settle_o20 : List Item := [iq 0, iq 1, iq 2, iq 3, iq 4, iq 5, iq 6, iq 7, iq 8, iq 9, iq 10, iq 11, iq 12, iq 13, iq 14, iq 15, iq 16, iq 17, iq 18, iq 19, iq 20, iq 21, iq 22, iq 23, iq 24, iq 25, iq 26, iq 27, iq 28, iq 29, iq 30, iq 31, iq 32, iq 33, iq 34, iq 35, iq 36, iq 37, iq 38, iq 39, iq 40, iq 41, iq 42, iq 43, iq 44, iq 45, iq 46, iq 47, iq 48, iq 49, iq 50, iq 51, iq 52, iq 53, iq 54, iq 55]
def impl_settle_o20a : List (List Nat) := [[], [0], [0, 1], [0, 1, 2], [], [4], rg 0 6, rg 0 7, rg 0 8, rg 0 9, rg 0 10, rg 0 11, rg 0 8, rg 0 8 ++ [12], rg 0 8 ++ [12, 13], rg 0 8 ++ [12, 13, 14], rg 0 16, rg 0 17, rg 0 18, rg 0 19, rg 0 20, rg 0 21, rg 0 20, rg 0 20, rg 0 20 ++ [23], rg 0 20 ++ [23, 24], rg 0 20 ++ [23, 24, 25], rg 0 20 ++ rg 22 27, rg 0 20 ++ rg 22 28, rg 0 29, rg 0 30, rg 0 31, rg 0 32, rg 0 33, rg 0 34, rg 0 35, rg 0 36, rg 0 37, rg 0 34, rg 0 34 ++ [38], rg 0 34 ++ [38, 39], rg 0 41, rg 0 42, rg 0 43, rg 0 44, rg 0 45, rg 0 46, rg 0 43, rg 0 43 ++ [47], rg 0 43 ++ [47, 48], rg 0 43 ++ [47, 48, 49], rg 0 43 ++ rg 47 51, rg 0 52, rg 0 53, rg 0 54, rg 0 55]
def impl_settle_C1 (a0 : Plan) (a1 : Frame) (ws2 : List Held) (is2 : List Nat) (v14 : Int) : Prop :=
  ((((nth ws2 v14).state) != 4) && (nth ((idt a1).occ) (nth ((nth a0.ways v14).sections) 0))) = true → (ws2.length = is2.length ∧ v14.toNat < ws2.length) ∧ ((ws2.set v14.toNat (Held.mk 4 ((nth ws2 v14).gone) ((nth ws2 v14).been) ((nth ws2 v14).shown) ((nth ws2 v14).timer))).length = is2.length ∧ v14.toNat < (ws2.set v14.toNat (Held.mk 4 ((nth ws2 v14).gone) ((nth ws2 v14).been) ((nth ws2 v14).shown) ((nth ws2 v14).timer))).length)
def impl_settle_C2 (a0 : Plan) (a1 : Frame) (bs3 : List (List Bool)) (is2 : List Nat) (v14 : Int) (w19 : List Held) : Prop :=
  (provedF a0 (Frame.mk ((idt a1).ok) ((idt a1).occ) ((idt a1).points) (view (w19.set v14.toNat (Held.mk 1 ((nth w19 v14).gone) ((nth w19 v14).been) ((nth w19 v14).shown) ((nth w19 v14).timer))) is2 bs3)) v14) = true → ((w19.set v14.toNat (Held.mk 1 ((nth w19 v14).gone) ((nth w19 v14).been) ((nth w19 v14).shown) ((nth w19 v14).timer))).length = is2.length ∧ v14.toNat < (w19.set v14.toNat (Held.mk 1 ((nth w19 v14).gone) ((nth w19 v14).been) ((nth w19 v14).shown) ((nth w19 v14).timer))).length) ∧ (((w19.set v14.toNat (Held.mk 1 ((nth w19 v14).gone) ((nth w19 v14).been) ((nth w19 v14).shown) ((nth w19 v14).timer))).set v14.toNat (Held.mk 2 ((nth (w19.set v14.toNat (Held.mk 1 ((nth w19 v14).gone) ((nth w19 v14).been) ((nth w19 v14).shown) ((nth w19 v14).timer))) v14).gone) ((nth (w19.set v14.toNat (Held.mk 1 ((nth w19 v14).gone) ((nth w19 v14).been) ((nth w19 v14).shown) ((nth w19 v14).timer))) v14).been) ((nth (w19.set v14.toNat (Held.mk 1 ((nth w19 v14).gone) ((nth w19 v14).been) ((nth w19 v14).shown) ((nth w19 v14).timer))) v14).shown) ((nth (w19.set v14.toNat (Held.mk 1 ((nth w19 v14).gone) ((nth w19 v14).been) ((nth w19 v14).shown) ((nth w19 v14).timer))) v14).timer))).length = is2.length ∧ v14.toNat < ((w19.set v14.toNat (Held.mk 1 ((nth w19 v14).gone) ((nth w19 v14).been) ((nth w19 v14).shown) ((nth w19 v14).timer))).set v14.toNat (Held.mk 2 ((nth (w19.set v14.toNat (Held.mk 1 ((nth w19 v14).gone) ((nth w19 v14).been) ((nth w19 v14).shown) ((nth w19 v14).timer))) v14).gone) ((nth (w19.set v14.toNat (Held.mk 1 ((nth w19 v14).gone) ((nth w19 v14).been) ((nth w19 v14).shown) ((nth w19 v14).timer))) v14).been) ((nth (w19.set v14.toNat (Held.mk 1 ((nth w19 v14).gone) ((nth w19 v14).been) ((nth w19 v14).shown) ((nth w19 v14).timer))) v14).shown) ((nth (w19.set v14.toNat (Held.mk 1 ((nth w19 v14).gone) ((nth w19 v14).been) ((nth w19 v14).shown) ((nth w19 v14).timer))) v14).timer))).length)
def impl_settle_C3 (a0 : Plan) (a1 : Frame) (bs3 : List (List Bool)) (is2 : List Nat) (v14 : Int) (w19 : List Held) : Prop :=
  (((idt a1).occ).length ≤ 4611686018427387904 ∧ ((idt a1).points).length ≤ 4611686018427387904 ∧ (FamOk (w19.set v14.toNat (Held.mk 1 ((nth w19 v14).gone) ((nth w19 v14).been) ((nth w19 v14).shown) ((nth w19 v14).timer))) is2 bs3 ∧ (w19.set v14.toNat (Held.mk 1 ((nth w19 v14).gone) ((nth w19 v14).been) ((nth w19 v14).shown) ((nth w19 v14).timer))).length ≤ 4611686018427387904 ∧ (∀ x ∈ bs3, List.length x ≤ 4611686018427387904)) ∧ provedPre a0 (Frame.mk ((idt a1).ok) ((idt a1).occ) ((idt a1).points) (view (w19.set v14.toNat (Held.mk 1 ((nth w19 v14).gone) ((nth w19 v14).been) ((nth w19 v14).shown) ((nth w19 v14).timer))) is2 bs3)) v14) ∧ (impl_settle_C2 a0 a1 bs3 is2 v14 w19)
def impl_settle_C4 (I0 : List (List Bool) → List Nat → Int → List Held → Prop) (m0 : List (List Bool) → List Nat → Int → List Held → Nat) (a0 : Plan) (bs3 : List (List Bool)) (ws2 : List Held) (is2 : List Nat) (v14 : Int) (bs3' : List (List Bool)) (ws2' : List Held) : Prop :=
  ((((nth ws2' v14).gone) == (((nth a0.ways v14).sections).length : Int)) = true → (idlePre a0 v14) ∧ ((ws2'.length = is2.length ∧ v14.toNat < ws2'.length) ∧ (I0 (bs3' ++ [(idleH a0 v14).been]) (is2.set v14.toNat bs3'.length) (IntKind.i64.wrap (v14 + 1)) (ws2'.set v14.toNat (Held.mk ((idleH a0 v14).state) ((idleH a0 v14).gone) ((idleH a0 v14).been) ((idleH a0 v14).shown) ((idleH a0 v14).timer))) ∧ m0 (bs3' ++ [(idleH a0 v14).been]) (is2.set v14.toNat bs3'.length) (IntKind.i64.wrap (v14 + 1)) (ws2'.set v14.toNat (Held.mk ((idleH a0 v14).state) ((idleH a0 v14).gone) ((idleH a0 v14).been) ((idleH a0 v14).shown) ((idleH a0 v14).timer))) < m0 bs3 is2 v14 ws2))) ∧ ((((nth ws2' v14).gone) == (((nth a0.ways v14).sections).length : Int)) = false → I0 bs3' is2 (IntKind.i64.wrap (v14 + 1)) ws2' ∧ m0 bs3' is2 (IntKind.i64.wrap (v14 + 1)) ws2' < m0 bs3 is2 v14 ws2)
def impl_settle_C5 (I0 : List (List Bool) → List Nat → Int → List Held → Prop) (m0 : List (List Bool) → List Nat → Int → List Held → Nat) (a0 : Plan) (a1 : Frame) (bs3 : List (List Bool)) (ws2 : List Held) (is2 : List Nat) (v14 : Int) (bs3' : List (List Bool)) (ws2' : List Held) : Prop :=
  ((decide (((nth ws2' v14).gone) < (((nth a0.ways v14).sections).length : Int))) && ((nth (bs3'.getD (nth is2 v14) []) ((nth ws2' v14).gone)) && ((!(nth ((idt a1).occ) (nth ((nth a0.ways v14).sections) ((nth ws2' v14).gone)))) && ((((nth ws2' v14).gone) == (IntKind.i64.wrap ((((nth a0.ways v14).sections).length : Int) - 1))) || (nth (bs3'.getD (nth is2 v14) []) (IntKind.i64.wrap (((nth ws2' v14).gone) + 1))))))) = false → (ws2'.length = is2.length ∧ v14.toNat < ws2'.length) ∧ (impl_settle_C4 I0 m0 a0 bs3 ws2 is2 v14 bs3' ws2')
def impl_settle_C6 (I2 : List (List Bool) → List Nat → Int → List Held → List Held → List Held → List (List Bool) → Int → List Held → Prop) (m2 : List (List Bool) → List Nat → Int → List Held → List Held → List Held → List (List Bool) → Int → List Held → Nat) (bs3 : List (List Bool)) (v84 : Int) (ws2 : List Held) (is2 : List Nat) (v14 : Int) (w19 w30 : List Held) (bs3' : List (List Bool)) (ws2' : List Held) : Prop :=
  (ws2'.length = is2.length ∧ v14.toNat < ws2'.length) ∧ ((ws2'.length = is2.length ∧ v14.toNat < ws2'.length) ∧ (I2 bs3 is2 v14 ws2 w19 w30 bs3' v84 (ws2'.set v14.toNat (Held.mk ((nth ws2' v14).state) (IntKind.i64.wrap (((nth ws2' v14).gone) + 1)) ((nth ws2' v14).been) ((nth ws2' v14).shown) ((nth ws2' v14).timer))) ∧ m2 bs3 is2 v14 ws2 w19 w30 bs3' v84 (ws2'.set v14.toNat (Held.mk ((nth ws2' v14).state) (IntKind.i64.wrap (((nth ws2' v14).gone) + 1)) ((nth ws2' v14).been) ((nth ws2' v14).shown) ((nth ws2' v14).timer))) < m2 bs3 is2 v14 ws2 w19 w30 bs3' v84 ws2'))
def impl_settle_C7 (I0 : List (List Bool) → List Nat → Int → List Held → Prop) (m0 : List (List Bool) → List Nat → Int → List Held → Nat) (I2 : List (List Bool) → List Nat → Int → List Held → List Held → List Held → List (List Bool) → Int → List Held → Prop) (m2 : List (List Bool) → List Nat → Int → List Held → List Held → List Held → List (List Bool) → Int → List Held → Nat) (a0 : Plan) (a1 : Frame) (bs3 : List (List Bool)) (v84 : Int) (ws2 : List Held) (is2 : List Nat) (v14 : Int) (w19 w30 : List Held) (bs3' : List (List Bool)) (ws2' : List Held) : Prop :=
  (((ws2'.length = is2.length ∧ v14.toNat < ws2'.length) ∧ ((decide (((nth ws2' v14).gone) < (((nth a0.ways v14).sections).length : Int))) = true → (ws2'.length = is2.length ∧ v14.toNat < ws2'.length) ∧ ((ws2'.length = is2.length ∧ v14.toNat < ws2'.length) ∧ ((((nth is2 v14) < bs3'.length) ∧ (0 ≤ ((nth ws2' v14).gone) ∧ ((nth ws2' v14).gone).toNat < (nth ws2' v14).been.length)) ∧ (((nth is2 v14) < bs3'.length ∧ ((nth ws2' v14).gone).toNat < (bs3'.getD (nth is2 v14) []).length) ∧ ((nth (bs3'.getD (nth is2 v14) []) ((nth ws2' v14).gone)) = true → (ws2'.length = is2.length ∧ v14.toNat < ws2'.length) ∧ ((0 ≤ ((nth ws2' v14).gone) ∧ ((nth ws2' v14).gone).toNat < ((nth a0.ways v14).sections).length) ∧ ((0 ≤ (nth ((nth a0.ways v14).sections) ((nth ws2' v14).gone)) ∧ (nth ((nth a0.ways v14).sections) ((nth ws2' v14).gone)).toNat < ((idt a1).occ).length) ∧ ((!(nth ((idt a1).occ) (nth ((nth a0.ways v14).sections) ((nth ws2' v14).gone)))) = true → (ws2'.length = is2.length ∧ v14.toNat < ws2'.length) ∧ ((((nth ws2' v14).gone) == (IntKind.i64.wrap ((((nth a0.ways v14).sections).length : Int) - 1))) = false → (ws2'.length = is2.length ∧ v14.toNat < ws2'.length) ∧ ((ws2'.length = is2.length ∧ v14.toNat < ws2'.length) ∧ ((((nth is2 v14) < bs3'.length) ∧ (0 ≤ (IntKind.i64.wrap (((nth ws2' v14).gone) + 1)) ∧ (IntKind.i64.wrap (((nth ws2' v14).gone) + 1)).toNat < (nth ws2' v14).been.length)) ∧ ((nth is2 v14) < bs3'.length ∧ (IntKind.i64.wrap (((nth ws2' v14).gone) + 1)).toNat < (bs3'.getD (nth is2 v14) []).length))))))))))))) ∧ (impl_settle_C5 I0 m0 a0 a1 bs3 ws2 is2 v14 bs3' ws2')) ∧ (((decide (((nth ws2' v14).gone) < (((nth a0.ways v14).sections).length : Int))) && ((nth (bs3'.getD (nth is2 v14) []) ((nth ws2' v14).gone)) && ((!(nth ((idt a1).occ) (nth ((nth a0.ways v14).sections) ((nth ws2' v14).gone)))) && ((((nth ws2' v14).gone) == (IntKind.i64.wrap ((((nth a0.ways v14).sections).length : Int) - 1))) || (nth (bs3'.getD (nth is2 v14) []) (IntKind.i64.wrap (((nth ws2' v14).gone) + 1))))))) = true → impl_settle_C6 I2 m2 bs3 v84 ws2 is2 v14 w19 w30 bs3' ws2')
def impl_settle_C8 (a0 : Plan) (a1 : Frame) (v84 : Int) (is2 : List Nat) (v14 : Int) (w30 : List Held) (bs3' : List (List Bool)) : Prop :=
  (w30.length = is2.length ∧ v14.toNat < w30.length) ∧ ((w30.length = is2.length ∧ v14.toNat < w30.length) ∧ ((((nth is2 v14) < bs3'.length) ∧ (0 ≤ v84 ∧ v84.toNat < (nth w30 v14).been.length)) ∧ (((nth is2 v14) < bs3'.length ∧ v84.toNat < (bs3'.getD (nth is2 v14) []).length) ∧ (((nth (bs3'.getD (nth is2 v14) []) v84) = true → (((nth is2 v14) < bs3'.length) ∧ (0 ≤ v84 ∧ v84.toNat < (nth w30 v14).been.length)) ∧ ((nth is2 v14) < bs3'.length ∧ v84.toNat < (bs3'.getD (nth is2 v14) []).length)) ∧ ((nth (bs3'.getD (nth is2 v14) []) v84) = false → (0 ≤ v84 ∧ v84.toNat < ((nth a0.ways v14).sections).length) ∧ ((0 ≤ (nth ((nth a0.ways v14).sections) v84) ∧ (nth ((nth a0.ways v14).sections) v84).toNat < ((idt a1).occ).length) ∧ ((((nth is2 v14) < bs3'.length) ∧ (0 ≤ v84 ∧ v84.toNat < (nth w30 v14).been.length)) ∧ ((nth is2 v14) < bs3'.length ∧ v84.toNat < (bs3'.getD (nth is2 v14) []).length))))))))
def impl_settle_C9 (I1 : List (List Bool) → List Nat → Int → List Held → List Held → List Held → List (List Bool) → Int → Prop) (m1 : List (List Bool) → List Nat → Int → List Held → List Held → List Held → List (List Bool) → Int → Nat) (a0 : Plan) (a1 : Frame) (bs3 : List (List Bool)) (v84 : Int) (ws2 : List Held) (is2 : List Nat) (v14 : Int) (w19 w30 : List Held) (bs3' : List (List Bool)) : Prop :=
  (impl_settle_C8 a0 a1 v84 is2 v14 w30 bs3') ∧ (∀ w94 : List (List Bool), (bif (nth (bs3'.getD (nth is2 v14) []) v84) then (bs3'.set (nth is2 v14) ((bs3'.getD (nth is2 v14) []).set v84.toNat true)) else (bs3'.set (nth is2 v14) ((bs3'.getD (nth is2 v14) []).set v84.toNat (nth ((idt a1).occ) (nth ((nth a0.ways v14).sections) v84))))) = w94 → (I1 bs3 is2 v14 ws2 w19 w30 w94 (IntKind.i64.wrap (v84 + 1)) ∧ m1 bs3 is2 v14 ws2 w19 w30 w94 (IntKind.i64.wrap (v84 + 1)) < m1 bs3 is2 v14 ws2 w19 w30 bs3' v84))
def impl_settle_C10 (I0 : List (List Bool) → List Nat → Int → List Held → Prop) (m0 : List (List Bool) → List Nat → Int → List Held → Nat) (I1 : List (List Bool) → List Nat → Int → List Held → List Held → List Held → List (List Bool) → Int → Prop) (m1 : List (List Bool) → List Nat → Int → List Held → List Held → List Held → List (List Bool) → Int → Nat) (I2 : List (List Bool) → List Nat → Int → List Held → List Held → List Held → List (List Bool) → Int → List Held → Prop) (m2 : List (List Bool) → List Nat → Int → List Held → List Held → List Held → List (List Bool) → Int → List Held → Nat) (a0 : Plan) (a1 : Frame) (bs3 : List (List Bool)) (ws2 : List Held) (is2 : List Nat) (v14 : Int) (w19 w30 : List Held) : Prop :=
  I1 bs3 is2 v14 ws2 w19 w30 bs3 0 ∧ ∀ (bs3' : List (List Bool)) (v84 : Int), I1 bs3 is2 v14 ws2 w19 w30 bs3' v84 → (((decide (v84 < (((nth a0.ways v14).sections).length : Int))) = false → I2 bs3 is2 v14 ws2 w19 w30 bs3' v84 w30 ∧ ∀ (ws2' : List Held), I2 bs3 is2 v14 ws2 w19 w30 bs3' v84 ws2' → (impl_settle_C7 I0 m0 I2 m2 a0 a1 bs3 v84 ws2 is2 v14 w19 w30 bs3' ws2')) ∧ ((decide (v84 < (((nth a0.ways v14).sections).length : Int))) = true → impl_settle_C9 I1 m1 a0 a1 bs3 v84 ws2 is2 v14 w19 w30 bs3'))
def impl_settle_C11 (I0 : List (List Bool) → List Nat → Int → List Held → Prop) (m0 : List (List Bool) → List Nat → Int → List Held → Nat) (I1 : List (List Bool) → List Nat → Int → List Held → List Held → List Held → List (List Bool) → Int → Prop) (m1 : List (List Bool) → List Nat → Int → List Held → List Held → List Held → List (List Bool) → Int → Nat) (I2 : List (List Bool) → List Nat → Int → List Held → List Held → List Held → List (List Bool) → Int → List Held → Prop) (m2 : List (List Bool) → List Nat → Int → List Held → List Held → List Held → List (List Bool) → Int → List Held → Nat) (a0 : Plan) (a1 : Frame) (bs3 : List (List Bool)) (ws2 : List Held) (is2 : List Nat) (v14 : Int) (w19 : List Held) : Prop :=
  (((w19.length = is2.length ∧ v14.toNat < w19.length) ∧ ((((nth w19 v14).state) == 1) = false → w19.length = is2.length ∧ v14.toNat < w19.length)) ∧ (((((nth w19 v14).state) == 1) || (((nth w19 v14).state) == 2)) = true → (w19.length = is2.length ∧ v14.toNat < w19.length) ∧ (impl_settle_C3 a0 a1 bs3 is2 v14 w19))) ∧ (∀ w30 : List Held, (bif ((((nth w19 v14).state) == 1) || (((nth w19 v14).state) == 2)) then (bif (provedF a0 (Frame.mk ((idt a1).ok) ((idt a1).occ) ((idt a1).points) (view (w19.set v14.toNat (Held.mk 1 ((nth w19 v14).gone) ((nth w19 v14).been) ((nth w19 v14).shown) ((nth w19 v14).timer))) is2 bs3)) v14) then (((w19.set v14.toNat (Held.mk 1 ((nth w19 v14).gone) ((nth w19 v14).been) ((nth w19 v14).shown) ((nth w19 v14).timer))).set v14.toNat (Held.mk 2 ((nth (w19.set v14.toNat (Held.mk 1 ((nth w19 v14).gone) ((nth w19 v14).been) ((nth w19 v14).shown) ((nth w19 v14).timer))) v14).gone) ((nth (w19.set v14.toNat (Held.mk 1 ((nth w19 v14).gone) ((nth w19 v14).been) ((nth w19 v14).shown) ((nth w19 v14).timer))) v14).been) ((nth (w19.set v14.toNat (Held.mk 1 ((nth w19 v14).gone) ((nth w19 v14).been) ((nth w19 v14).shown) ((nth w19 v14).timer))) v14).shown) ((nth (w19.set v14.toNat (Held.mk 1 ((nth w19 v14).gone) ((nth w19 v14).been) ((nth w19 v14).shown) ((nth w19 v14).timer))) v14).timer))).set v14.toNat (Held.mk ((nth ((w19.set v14.toNat (Held.mk 1 ((nth w19 v14).gone) ((nth w19 v14).been) ((nth w19 v14).shown) ((nth w19 v14).timer))).set v14.toNat (Held.mk 2 ((nth (w19.set v14.toNat (Held.mk 1 ((nth w19 v14).gone) ((nth w19 v14).been) ((nth w19 v14).shown) ((nth w19 v14).timer))) v14).gone) ((nth (w19.set v14.toNat (Held.mk 1 ((nth w19 v14).gone) ((nth w19 v14).been) ((nth w19 v14).shown) ((nth w19 v14).timer))) v14).been) ((nth (w19.set v14.toNat (Held.mk 1 ((nth w19 v14).gone) ((nth w19 v14).been) ((nth w19 v14).shown) ((nth w19 v14).timer))) v14).shown) ((nth (w19.set v14.toNat (Held.mk 1 ((nth w19 v14).gone) ((nth w19 v14).been) ((nth w19 v14).shown) ((nth w19 v14).timer))) v14).timer))) v14).state) ((nth ((w19.set v14.toNat (Held.mk 1 ((nth w19 v14).gone) ((nth w19 v14).been) ((nth w19 v14).shown) ((nth w19 v14).timer))).set v14.toNat (Held.mk 2 ((nth (w19.set v14.toNat (Held.mk 1 ((nth w19 v14).gone) ((nth w19 v14).been) ((nth w19 v14).shown) ((nth w19 v14).timer))) v14).gone) ((nth (w19.set v14.toNat (Held.mk 1 ((nth w19 v14).gone) ((nth w19 v14).been) ((nth w19 v14).shown) ((nth w19 v14).timer))) v14).been) ((nth (w19.set v14.toNat (Held.mk 1 ((nth w19 v14).gone) ((nth w19 v14).been) ((nth w19 v14).shown) ((nth w19 v14).timer))) v14).shown) ((nth (w19.set v14.toNat (Held.mk 1 ((nth w19 v14).gone) ((nth w19 v14).been) ((nth w19 v14).shown) ((nth w19 v14).timer))) v14).timer))) v14).gone) ((nth ((w19.set v14.toNat (Held.mk 1 ((nth w19 v14).gone) ((nth w19 v14).been) ((nth w19 v14).shown) ((nth w19 v14).timer))).set v14.toNat (Held.mk 2 ((nth (w19.set v14.toNat (Held.mk 1 ((nth w19 v14).gone) ((nth w19 v14).been) ((nth w19 v14).shown) ((nth w19 v14).timer))) v14).gone) ((nth (w19.set v14.toNat (Held.mk 1 ((nth w19 v14).gone) ((nth w19 v14).been) ((nth w19 v14).shown) ((nth w19 v14).timer))) v14).been) ((nth (w19.set v14.toNat (Held.mk 1 ((nth w19 v14).gone) ((nth w19 v14).been) ((nth w19 v14).shown) ((nth w19 v14).timer))) v14).shown) ((nth (w19.set v14.toNat (Held.mk 1 ((nth w19 v14).gone) ((nth w19 v14).been) ((nth w19 v14).shown) ((nth w19 v14).timer))) v14).timer))) v14).been) true ((nth ((w19.set v14.toNat (Held.mk 1 ((nth w19 v14).gone) ((nth w19 v14).been) ((nth w19 v14).shown) ((nth w19 v14).timer))).set v14.toNat (Held.mk 2 ((nth (w19.set v14.toNat (Held.mk 1 ((nth w19 v14).gone) ((nth w19 v14).been) ((nth w19 v14).shown) ((nth w19 v14).timer))) v14).gone) ((nth (w19.set v14.toNat (Held.mk 1 ((nth w19 v14).gone) ((nth w19 v14).been) ((nth w19 v14).shown) ((nth w19 v14).timer))) v14).been) ((nth (w19.set v14.toNat (Held.mk 1 ((nth w19 v14).gone) ((nth w19 v14).been) ((nth w19 v14).shown) ((nth w19 v14).timer))) v14).shown) ((nth (w19.set v14.toNat (Held.mk 1 ((nth w19 v14).gone) ((nth w19 v14).been) ((nth w19 v14).shown) ((nth w19 v14).timer))) v14).timer))) v14).timer))) else (w19.set v14.toNat (Held.mk 1 ((nth w19 v14).gone) ((nth w19 v14).been) ((nth w19 v14).shown) ((nth w19 v14).timer)))) else w19) = w30 → (((w30.length = is2.length ∧ v14.toNat < w30.length) ∧ ((((nth w30 v14).state) != 4) = true → I0 bs3 is2 (IntKind.i64.wrap (v14 + 1)) w30 ∧ m0 bs3 is2 (IntKind.i64.wrap (v14 + 1)) w30 < m0 bs3 is2 v14 ws2)) ∧ ((!(((nth w30 v14).state) != 4)) = true → ((nth a0.ways v14).sections).length ≤ 4611686018427387904 → impl_settle_C10 I0 m0 I1 m1 I2 m2 a0 a1 bs3 ws2 is2 v14 w19 w30)))
def impl_settle_C12 (I0 : List (List Bool) → List Nat → Int → List Held → Prop) (m0 : List (List Bool) → List Nat → Int → List Held → Nat) (I1 : List (List Bool) → List Nat → Int → List Held → List Held → List Held → List (List Bool) → Int → Prop) (m1 : List (List Bool) → List Nat → Int → List Held → List Held → List Held → List (List Bool) → Int → Nat) (I2 : List (List Bool) → List Nat → Int → List Held → List Held → List Held → List (List Bool) → Int → List Held → Prop) (m2 : List (List Bool) → List Nat → Int → List Held → List Held → List Held → List (List Bool) → Int → List Held → Nat) (a0 : Plan) (a1 : Frame) (bs3 : List (List Bool)) (ws2 : List Held) (is2 : List Nat) (v14 : Int) : Prop :=
  (((ws2.length = is2.length ∧ v14.toNat < ws2.length) ∧ ((((nth ws2 v14).state) != 4) = true → ((0 : Int) ≤ 0 ∧ (0 : Int).toNat < ((nth a0.ways v14).sections).length) ∧ (0 ≤ (nth ((nth a0.ways v14).sections) 0) ∧ (nth ((nth a0.ways v14).sections) 0).toNat < ((idt a1).occ).length))) ∧ (impl_settle_C1 a0 a1 ws2 is2 v14)) ∧ (∀ w19 : List Held, (bif ((((nth ws2 v14).state) != 4) && (nth ((idt a1).occ) (nth ((nth a0.ways v14).sections) 0))) then ((ws2.set v14.toNat (Held.mk 4 ((nth ws2 v14).gone) ((nth ws2 v14).been) ((nth ws2 v14).shown) ((nth ws2 v14).timer))).set v14.toNat (Held.mk ((nth (ws2.set v14.toNat (Held.mk 4 ((nth ws2 v14).gone) ((nth ws2 v14).been) ((nth ws2 v14).shown) ((nth ws2 v14).timer))) v14).state) ((nth (ws2.set v14.toNat (Held.mk 4 ((nth ws2 v14).gone) ((nth ws2 v14).been) ((nth ws2 v14).shown) ((nth ws2 v14).timer))) v14).gone) ((nth (ws2.set v14.toNat (Held.mk 4 ((nth ws2 v14).gone) ((nth ws2 v14).been) ((nth ws2 v14).shown) ((nth ws2 v14).timer))) v14).been) ((nth (ws2.set v14.toNat (Held.mk 4 ((nth ws2 v14).gone) ((nth ws2 v14).been) ((nth ws2 v14).shown) ((nth ws2 v14).timer))) v14).shown) 0)) else ws2) = w19 → (impl_settle_C11 I0 m0 I1 m1 I2 m2 a0 a1 bs3 ws2 is2 v14 w19))
def impl_settle_C13 (I0 : List (List Bool) → List Nat → Int → List Held → Prop) (m0 : List (List Bool) → List Nat → Int → List Held → Nat) (I1 : List (List Bool) → List Nat → Int → List Held → List Held → List Held → List (List Bool) → Int → Prop) (m1 : List (List Bool) → List Nat → Int → List Held → List Held → List Held → List (List Bool) → Int → Nat) (I2 : List (List Bool) → List Nat → Int → List Held → List Held → List Held → List (List Bool) → Int → List Held → Prop) (m2 : List (List Bool) → List Nat → Int → List Held → List Held → List Held → List (List Bool) → Int → List Held → Nat) (a0 : Plan) (a1 res : Frame) (bs3 : List (List Bool)) (ws2 : List Held) (is2 : List Nat) (v14 : Int) : Prop :=
  ((decide (v14 < (((idt a1).ways).length : Int))) = false → ((idt a1).ok = res.ok) ∧ (((idt a1).occ).length ≤ 4611686018427387904 ∧ (idt a1).occ = res.occ) ∧ (((idt a1).points).length ≤ 4611686018427387904 ∧ (idt a1).points = res.points) ∧ (FamOk ws2 is2 bs3 ∧ ws2.length ≤ 4611686018427387904 ∧ (∀ x ∈ bs3, List.length x ≤ 4611686018427387904) ∧ view ws2 is2 bs3 = res.ways)) ∧ ((decide (v14 < (((idt a1).ways).length : Int))) = true → (0 ≤ v14 ∧ v14.toNat < ws2.length) ∧ ((0 ≤ v14 ∧ v14.toNat < a0.ways.length) ∧ (((ws2.length = is2.length ∧ v14.toNat < ws2.length) ∧ ((((nth ws2 v14).state) == 0) = true → I0 bs3 is2 (IntKind.i64.wrap (v14 + 1)) ws2 ∧ m0 bs3 is2 (IntKind.i64.wrap (v14 + 1)) ws2 < m0 bs3 is2 v14 ws2)) ∧ ((!(((nth ws2 v14).state) == 0)) = true → impl_settle_C12 I0 m0 I1 m1 I2 m2 a0 a1 bs3 ws2 is2 v14))))
def impl_settle_C (a0 : Plan) (a1 : Frame) (res : Frame) (I0 : List (List Bool) → List Nat → Int → List Held → Prop) (m0 : List (List Bool) → List Nat → Int → List Held → Nat) (I1 : List (List Bool) → List Nat → Int → List Held → List Held → List Held → List (List Bool) → Int → Prop) (m1 : List (List Bool) → List Nat → Int → List Held → List Held → List Held → List (List Bool) → Int → Nat) (I2 : List (List Bool) → List Nat → Int → List Held → List Held → List Held → List (List Bool) → Int → List Held → Prop) (m2 : List (List Bool) → List Nat → Int → List Held → List Held → List Held → List (List Bool) → Int → List Held → Nat) : Prop :=
 (smallF a1) ∧ (I0 (List.map Held.been ((idt a1).ways)) (List.range ((idt a1).ways).length) 0 ((idt a1).ways) ∧ ∀ (bs3 : List (List Bool)) (is2 : List Nat) (v14 : Int) (ws2 : List Held), I0 bs3 is2 v14 ws2 → (impl_settle_C13 I0 m0 I1 m1 I2 m2 a0 a1 res bs3 ws2 is2 v14))
theorem impl_settle_walk (a0 : Plan) (a1 : Frame) (res : Frame) (I0 : List (List Bool) → List Nat → Int → List Held → Prop) (m0 : List (List Bool) → List Nat → Int → List Held → Nat) (I1 : List (List Bool) → List Nat → Int → List Held → List Held → List Held → List (List Bool) → Int → Prop) (m1 : List (List Bool) → List Nat → Int → List Held → List Held → List Held → List (List Bool) → Int → Nat) (I2 : List (List Bool) → List Nat → Int → List Held → List Held → List Held → List (List Bool) → Int → List Held → Prop) (m2 : List (List Bool) → List Nat → Int → List Held → List Held → List Held → List (List Bool) → Int → List Held → Nat) (h : impl_settle_C a0 a1 res I0 m0 I1 m1 I2 m2) : FnV Try.prog 105 [.agg (ePlan false a0), .agg (eFrame false a1)] (.agg (eFrame true res)) := by
 unfold impl_settle_C at h
 refine FnS.go (fn := Try.f105) [(0, .agg (ePlan false a0)), (1, .agg (eFrame false a1))] Try.func105 ?_
 show WpS _ (nv impl_settle_b 1) _ ⟨mkS 188 [(0, .agg (ePlan false a0)), (1, .agg (eFrame false a1))], [], []⟩
 refine cRN [] 0 [(4, ap 4 0), (3, ap 3 0), (2, ap 2 0)] [3] [] [(4, [ab false, an, an, an]), (3, (eFrame false a1)), (2, (ePlan false a0))] [] ?_
 obtain ⟨q118, h⟩ := h
 refine cSeqE [] [3] (fun L => er 1 [ab ((idt a1).ok), rf 0 0 (((idt a1).occ).length), rf 1 0 (((idt a1).points).length), rf 2 0 (((idt a1).ways).length)] L) (fun _ => (⟨0, 1, List.map eBool ((idt a1).occ)⟩ :: ⟨0, 2, List.map ePoint ((idt a1).points)⟩ :: ⟨0, 5, hRows 3 ((idt a1).ways) (List.range ((idt a1).ways).length)⟩ :: List.map fbk (List.map Held.been ((idt a1).ways)))) (True) ?_ (fun q2 => ?_)
 ·
  replace h := q118
  refine rgS [] 1 ?_
  have q3 := h
  refine sCallO 2 (some 10) [(9, .agg (eFrame false a1))] [.agg (eFrame false a1)] (.agg [ab ((idt a1).ok), rf 0 0 (((idt a1).occ).length), rf 1 0 (((idt a1).points).length), rf 2 0 (((idt a1).ways).length)]) (⟨0, 1, List.map eBool ((idt a1).occ)⟩ :: ⟨0, 2, List.map ePoint ((idt a1).points)⟩ :: ⟨0, 5, hRows 3 ((idt a1).ways) (List.range ((idt a1).ways).length)⟩ :: List.map fbk (List.map Held.been ((idt a1).ways))) (impl_copied_O a1 q3) (PW.cons (Snap2.agg (PW.cons (.bool _) (PW.cons sa_lst (PW.cons sa_lst (PW.cons sa_lst PW.nil))))) PW.nil) ownH_frame (by rw [List.nil_append]; exact shiftB_zero _) ?_ (er := by simp [shift3, shift2, shift0])
  exact sEJ [] trivial
 refine cSeq ?_
 refine cRM [] 2 [(14, ai 0), (13, ai (((idt a1).ways).length : Int)), (12, rf 2 0 (((idt a1).ways).length)), (11, ap 3 3)] [2] [3] ?_
 refine cBlock 0 ?_
 obtain ⟨q117, h⟩ := h
 refine cLoop (fun (v : List (List Bool) × List Nat × Int × List Held) => (⟨(mkS 188 [(2, ap 2 0), (3, ap 3 0), (4, ap 4 0), (13, ai (((idt a1).ways).length : Int)), (14, ai (v.2.2.1))]), [(4, [ab false, an, an, an]), (3, [ab ((idt a1).ok), rf 0 0 (((idt a1).occ).length), rf 1 0 (((idt a1).points).length), rf 2 0 ((v.2.2.2).length)]), (2, (ePlan false a0))], (⟨0, 1, List.map eBool ((idt a1).occ)⟩ :: ⟨0, 2, List.map ePoint ((idt a1).points)⟩ :: ⟨0, 5, hRows 3 (v.2.2.2) (v.2.1)⟩ :: List.map fbk (v.1))⟩ : St)) (fun (v : List (List Bool) × List Nat × Int × List Held) => I0 (v.1) (v.2.1) (v.2.2.1) (v.2.2.2)) (fun (v : List (List Bool) × List Nat × Int × List Held) => m0 (v.1) (v.2.1) (v.2.2.1) (v.2.2.2)) ((List.map Held.been ((idt a1).ways)), (List.range ((idt a1).ways).length), 0, (idt a1).ways) (wkL []) q117 (fun v hI => ?_)
 obtain ⟨bs3, is2, v14, ws2⟩ := v
 replace h := h bs3 is2 v14 ws2 hI
 dsimp only
 refine cRM [] 3 [(15, ab (decide (v14 < (((idt a1).ways).length : Int))))] [1] [5] ?_
 unfold impl_settle_C13 at h
 obtain ⟨q116, h⟩ := h
 refine cSeqM [] [0, 1, 5] ((decide (v14 < (((idt a1).ways).length : Int))) = true) ?_ (fun q6 => ?_)
 ·
  replace h := q116
  refine cCond1 (fun q7 => ?_) (fun q7 => ?_)
  ·
   refine cSkip ?_
   exact QJoin.normal (by simp only [q7] <;> rfl) wkJ
  ·
   replace h := h q7
   refine cExit 0 ?_
   refine QJoin.exit ?_
   refine QRound.exit ?_
   refine QBlock.here ?_
   refine QSeq.normal ?_
   refine cSeqG ⟨(mkS 188 [(4, ap 4 0)]), [(4, [ab ((idt a1).ok), rf 0 0 (((idt a1).occ).length), rf 1 0 (((idt a1).points).length), rf 2 0 ws2.length]), (3, [ab ((idt a1).ok), rf 0 0 (((idt a1).occ).length), rf 1 0 (((idt a1).points).length), rf 2 0 ws2.length]), (2, (ePlan false a0))], (⟨0, 1, List.map eBool ((idt a1).occ)⟩ :: ⟨0, 2, List.map ePoint ((idt a1).points)⟩ :: ⟨0, 5, hRows 3 ws2 is2⟩ :: List.map fbk bs3)⟩ (True) ?_ (fun q8 => ?_)
   ·
    refine rgS [] 25 ?_
    exact sEJ [(187, .agg [ab ((idt a1).ok), rf 0 0 (((idt a1).occ).length), rf 1 0 (((idt a1).points).length), rf 2 0 ws2.length])] trivial
   exact cRet (rt1 (.agg [ab ((idt a1).ok), rf 0 0 (((idt a1).occ).length), rf 1 0 (((idt a1).points).length), rf 2 0 ws2.length]) (SnapR3.agg (PW.cons (sr_bool h.1) (PW.cons (sr_blk' (sz := 1) (by simp) rfl (cBool) h.2.1) (PW.cons (sr_blk' (sz := 2) (by simp) rfl (cPoint) h.2.2.1) (PW.cons (sr_fam (s := 3) (ws := ws2) (ids := is2) (bs := bs3) (by simp) rfl (fun id k h => by simpa using h) h.2.2.2) PW.nil))))))
 replace h := h q6
 refine cSeq ?_
 refine cBlock 1 ?_
 refine cRM [] 4 [(5, ai v14), (16, ai v14)] [1] [5] ?_
 obtain ⟨q115, h⟩ := h
 refine cSeqM [(6, .ptr 2 0 (0 + v14.toNat) 0)] [6] (True) ?_ (fun q10 => ?_)
 ·
  replace h := q115
  refine rgS [] 5 ?_
  have z20_7474 := h
  refine sAdr 4 (some 20) [(19, ai v14), (18, rf 2 0 ws2.length), (17, ap 3 3)] 2 0 5 z20_7474 ?_
  exact sEJ [(6, .ptr 2 0 (0 + v14.toNat) 0)] trivial
 obtain ⟨q114, h⟩ := h
 refine cSeqM [(7, al eInt ((nth a0.ways v14).sections))] [7] (True) ?_ (fun q11 => ?_)
 ·
  replace h := q114
  refine rgS [] 6 ?_
  have q12 := h
  refine sIdx 4 (some 24) [(23, ai v14), (22, al (eWay false) a0.ways), (21, ap 2 2)] (eWay false) a0.ways 5 q12 ?_
  exact sEJ [(7, al eInt ((nth a0.ways v14).sections)), (26, al eInt ((nth a0.ways v14).sections)), (25, .rp (eWay false (nth a0.ways v14)) 0)] trivial
 obtain ⟨q113, h⟩ := h
 refine cSeqM [] [8] ((!(((nth ws2 v14).state) == 0)) = true) ?_ (fun q13 => ?_)
 ·
  replace h := q113
  obtain ⟨q17, h⟩ := h
  refine cSeqM [(31, ab (((nth ws2 v14).state) == 0))] [8] (True) ?_ (fun q14 => ?_)
  ·
   replace h := q17
   refine rgS [] 7 ?_
   have q15 := h
   refine sLdR 4 (some 30) [(29, .ptr 2 0 (0 + v14.toNat) 0), (28, .ptr 2 0 (0 + v14.toNat) 0), (27, .ptr 2 0 (0 + v14.toNat) 0)] (hRows 3 ws2 is2) v14 3 0 0 (ai ((nth ws2 v14).state)) (hRows_get q15.1 q15.2) ?_
   exact sEJ [(31, ab (((nth ws2 v14).state) == 0))] trivial
  refine cCond1 (fun q16 => ?_) (fun q16 => ?_)
  ·
   replace h := h q16
   refine cExit 1 ?_
   refine QJoin.exit ?_
   refine QBlock.here ?_
   refine QSeq.normal ?_
   refine rgS [] 24 ?_
   refine sEnd [(14, ai (IntKind.i64.wrap (v14 + 1))), (186, ai (IntKind.i64.wrap (v14 + 1)))] ?_
   exact QRound.again (bs3, is2, (IntKind.i64.wrap (v14 + 1)), ws2) h (wkL [])
  ·
   refine cSkip ?_
   exact QJoin.normal (by simp only [q6, q16] <;> rfl) wkJ
 replace h := h q13
 unfold impl_settle_C12 at h
 obtain ⟨q112, h⟩ := h
 obtain ⟨w19, q20⟩ : ∃ w : List Held, (bif ((((nth ws2 v14).state) != 4) && (nth ((idt a1).occ) (nth ((nth a0.ways v14).sections) 0))) then ((ws2.set v14.toNat (Held.mk 4 ((nth ws2 v14).gone) ((nth ws2 v14).been) ((nth ws2 v14).shown) ((nth ws2 v14).timer))).set v14.toNat (Held.mk ((nth (ws2.set v14.toNat (Held.mk 4 ((nth ws2 v14).gone) ((nth ws2 v14).been) ((nth ws2 v14).shown) ((nth ws2 v14).timer))) v14).state) ((nth (ws2.set v14.toNat (Held.mk 4 ((nth ws2 v14).gone) ((nth ws2 v14).been) ((nth ws2 v14).shown) ((nth ws2 v14).timer))) v14).gone) ((nth (ws2.set v14.toNat (Held.mk 4 ((nth ws2 v14).gone) ((nth ws2 v14).been) ((nth ws2 v14).shown) ((nth ws2 v14).timer))) v14).been) ((nth (ws2.set v14.toNat (Held.mk 4 ((nth ws2 v14).gone) ((nth ws2 v14).been) ((nth ws2 v14).shown) ((nth ws2 v14).timer))) v14).shown) 0)) else ws2) = w := ⟨_, rfl⟩
 refine cSeqE [] [8] id (fun H => bk 2 ⟨0, 5, hRows 3 w19 is2⟩ H) (True) ?_ (fun q18 => ?_)
 ·
  replace h := q112
  obtain ⟨q28, h⟩ := h
  refine cSeqM [(45, ab ((((nth ws2 v14).state) != 4) && (nth ((idt a1).occ) (nth ((nth a0.ways v14).sections) 0))))] [8] (True) ?_ (fun q21 => ?_)
  ·
   replace h := q28
   refine rgD [] 8 impl_settle_o8 impl_settle_o8a [] ?_
   obtain ⟨q24, h⟩ := h
   refine tLdR 4 (some 35) [(34, .ptr 2 0 (0 + v14.toNat) 0), (33, .ptr 2 0 (0 + v14.toNat) 0), (32, .ptr 2 0 (0 + v14.toNat) 0)] (hRows 3 ws2 is2) v14 3 0 0 (ai ((nth ws2 v14).state)) (hRows_get q24.1 q24.2) ?_
   refine tCase1 2 37 (((nth ws2 v14).state) != 4) [(36, ab (((nth ws2 v14).state) != 4))] (fun q22 => ?_) (fun q22 => ?_)
   ·
    replace h := h q22
    obtain ⟨q23, h⟩ := h
    refine tIdx 4 (some 41) [(40, al eInt ((nth a0.ways v14).sections)), (39, rf 0 0 (((idt a1).occ).length)), (38, ap 3 1)] eInt ((nth a0.ways v14).sections) 1 q23 ?_
    have z43_119612 := h
    refine tAdr 2 (some 43) [(42, ai (nth ((nth a0.ways v14).sections) 0))] 0 0 1 z43_119612 ?_
    refine tLdB 1 (some 44) [] eBool ((idt a1).occ) (nth ((nth a0.ways v14).sections) 0) 4 0 0 (ab (nth ((idt a1).occ) (nth ((nth a0.ways v14).sections) 0))) (by simpa using z43_119612.2) ?_
    exact tEJ [(45, ab (nth ((idt a1).occ) (nth ((nth a0.ways v14).sections) 0)))] trivial (by simp only [q6, q13, q22] <;> kernel_rfl)
   ·
    exact tEJ ([(45, ab false)] ++ tz [44, 43, 42, 41, 40, 39, 38]) trivial (by simp only [q6, q13, q22] <;> kernel_rfl)
  unfold impl_settle_C1 at h
  refine cCond1 (fun q25 => ?_) (fun q25 => ?_)
  ·
   replace h := h q25
   refine rgS [] 9 ?_
   obtain ⟨q27, h⟩ := h
   refine sStRj 5 none [(49, .ptr 2 0 (0 + v14.toNat) 0), (48, .ptr 2 0 (0 + v14.toNat) 0), (47, .ptr 2 0 (0 + v14.toNat) 0), (46, .ptr 2 0 (0 + v14.toNat) 0)] (hRows 3 ws2 is2) v14 0 1 0 [ai 4] 2 (hRows 3 (ws2.set v14.toNat (Held.mk 4 ((nth ws2 v14).gone) ((nth ws2 v14).been) ((nth ws2 v14).shown) ((nth ws2 v14).timer))) is2) (hRows_get q27.1 q27.2) (hRows_keep q27.1 q27.2) ?_
   have q26 := h
   refine sStRj 3 none [(51, .ptr 2 0 (0 + v14.toNat) 4), (50, .ptr 2 0 (0 + v14.toNat) 0)] (hRows 3 (ws2.set v14.toNat (Held.mk 4 ((nth ws2 v14).gone) ((nth ws2 v14).been) ((nth ws2 v14).shown) ((nth ws2 v14).timer))) is2) v14 4 1 0 [ai 0] 2 (hRows 3 ((ws2.set v14.toNat (Held.mk 4 ((nth ws2 v14).gone) ((nth ws2 v14).been) ((nth ws2 v14).shown) ((nth ws2 v14).timer))).set v14.toNat (Held.mk ((nth (ws2.set v14.toNat (Held.mk 4 ((nth ws2 v14).gone) ((nth ws2 v14).been) ((nth ws2 v14).shown) ((nth ws2 v14).timer))) v14).state) ((nth (ws2.set v14.toNat (Held.mk 4 ((nth ws2 v14).gone) ((nth ws2 v14).been) ((nth ws2 v14).shown) ((nth ws2 v14).timer))) v14).gone) ((nth (ws2.set v14.toNat (Held.mk 4 ((nth ws2 v14).gone) ((nth ws2 v14).been) ((nth ws2 v14).shown) ((nth ws2 v14).timer))) v14).been) ((nth (ws2.set v14.toNat (Held.mk 4 ((nth ws2 v14).gone) ((nth ws2 v14).been) ((nth ws2 v14).shown) ((nth ws2 v14).timer))) v14).shown) 0)) is2) (hRows_get q26.1 q26.2) (hRows_keep q26.1 q26.2) ?_
   refine sEnd [] ?_
   exact QJoin.normal trivial (by simp only [← q20, q6, q13, q25, cond_true, cond_false]; exact wkJ)
  ·
   refine cSkip ?_
   exact QJoin.normal trivial (by simp only [← q20, q6, q13, q25, cond_true, cond_false]; exact wkJ)
 replace h := h w19 q20
 have hlw19 : w19.length = ws2.length := by rw [← q20]; repeat' apply len_cond; all_goals simp
 unfold impl_settle_C11 at h
 obtain ⟨q111, h⟩ := h
 obtain ⟨w30, q31⟩ : ∃ w : List Held, (bif ((((nth w19 v14).state) == 1) || (((nth w19 v14).state) == 2)) then (bif (provedF a0 (Frame.mk ((idt a1).ok) ((idt a1).occ) ((idt a1).points) (view (w19.set v14.toNat (Held.mk 1 ((nth w19 v14).gone) ((nth w19 v14).been) ((nth w19 v14).shown) ((nth w19 v14).timer))) is2 bs3)) v14) then (((w19.set v14.toNat (Held.mk 1 ((nth w19 v14).gone) ((nth w19 v14).been) ((nth w19 v14).shown) ((nth w19 v14).timer))).set v14.toNat (Held.mk 2 ((nth (w19.set v14.toNat (Held.mk 1 ((nth w19 v14).gone) ((nth w19 v14).been) ((nth w19 v14).shown) ((nth w19 v14).timer))) v14).gone) ((nth (w19.set v14.toNat (Held.mk 1 ((nth w19 v14).gone) ((nth w19 v14).been) ((nth w19 v14).shown) ((nth w19 v14).timer))) v14).been) ((nth (w19.set v14.toNat (Held.mk 1 ((nth w19 v14).gone) ((nth w19 v14).been) ((nth w19 v14).shown) ((nth w19 v14).timer))) v14).shown) ((nth (w19.set v14.toNat (Held.mk 1 ((nth w19 v14).gone) ((nth w19 v14).been) ((nth w19 v14).shown) ((nth w19 v14).timer))) v14).timer))).set v14.toNat (Held.mk ((nth ((w19.set v14.toNat (Held.mk 1 ((nth w19 v14).gone) ((nth w19 v14).been) ((nth w19 v14).shown) ((nth w19 v14).timer))).set v14.toNat (Held.mk 2 ((nth (w19.set v14.toNat (Held.mk 1 ((nth w19 v14).gone) ((nth w19 v14).been) ((nth w19 v14).shown) ((nth w19 v14).timer))) v14).gone) ((nth (w19.set v14.toNat (Held.mk 1 ((nth w19 v14).gone) ((nth w19 v14).been) ((nth w19 v14).shown) ((nth w19 v14).timer))) v14).been) ((nth (w19.set v14.toNat (Held.mk 1 ((nth w19 v14).gone) ((nth w19 v14).been) ((nth w19 v14).shown) ((nth w19 v14).timer))) v14).shown) ((nth (w19.set v14.toNat (Held.mk 1 ((nth w19 v14).gone) ((nth w19 v14).been) ((nth w19 v14).shown) ((nth w19 v14).timer))) v14).timer))) v14).state) ((nth ((w19.set v14.toNat (Held.mk 1 ((nth w19 v14).gone) ((nth w19 v14).been) ((nth w19 v14).shown) ((nth w19 v14).timer))).set v14.toNat (Held.mk 2 ((nth (w19.set v14.toNat (Held.mk 1 ((nth w19 v14).gone) ((nth w19 v14).been) ((nth w19 v14).shown) ((nth w19 v14).timer))) v14).gone) ((nth (w19.set v14.toNat (Held.mk 1 ((nth w19 v14).gone) ((nth w19 v14).been) ((nth w19 v14).shown) ((nth w19 v14).timer))) v14).been) ((nth (w19.set v14.toNat (Held.mk 1 ((nth w19 v14).gone) ((nth w19 v14).been) ((nth w19 v14).shown) ((nth w19 v14).timer))) v14).shown) ((nth (w19.set v14.toNat (Held.mk 1 ((nth w19 v14).gone) ((nth w19 v14).been) ((nth w19 v14).shown) ((nth w19 v14).timer))) v14).timer))) v14).gone) ((nth ((w19.set v14.toNat (Held.mk 1 ((nth w19 v14).gone) ((nth w19 v14).been) ((nth w19 v14).shown) ((nth w19 v14).timer))).set v14.toNat (Held.mk 2 ((nth (w19.set v14.toNat (Held.mk 1 ((nth w19 v14).gone) ((nth w19 v14).been) ((nth w19 v14).shown) ((nth w19 v14).timer))) v14).gone) ((nth (w19.set v14.toNat (Held.mk 1 ((nth w19 v14).gone) ((nth w19 v14).been) ((nth w19 v14).shown) ((nth w19 v14).timer))) v14).been) ((nth (w19.set v14.toNat (Held.mk 1 ((nth w19 v14).gone) ((nth w19 v14).been) ((nth w19 v14).shown) ((nth w19 v14).timer))) v14).shown) ((nth (w19.set v14.toNat (Held.mk 1 ((nth w19 v14).gone) ((nth w19 v14).been) ((nth w19 v14).shown) ((nth w19 v14).timer))) v14).timer))) v14).been) true ((nth ((w19.set v14.toNat (Held.mk 1 ((nth w19 v14).gone) ((nth w19 v14).been) ((nth w19 v14).shown) ((nth w19 v14).timer))).set v14.toNat (Held.mk 2 ((nth (w19.set v14.toNat (Held.mk 1 ((nth w19 v14).gone) ((nth w19 v14).been) ((nth w19 v14).shown) ((nth w19 v14).timer))) v14).gone) ((nth (w19.set v14.toNat (Held.mk 1 ((nth w19 v14).gone) ((nth w19 v14).been) ((nth w19 v14).shown) ((nth w19 v14).timer))) v14).been) ((nth (w19.set v14.toNat (Held.mk 1 ((nth w19 v14).gone) ((nth w19 v14).been) ((nth w19 v14).shown) ((nth w19 v14).timer))) v14).shown) ((nth (w19.set v14.toNat (Held.mk 1 ((nth w19 v14).gone) ((nth w19 v14).been) ((nth w19 v14).shown) ((nth w19 v14).timer))) v14).timer))) v14).timer))) else (w19.set v14.toNat (Held.mk 1 ((nth w19 v14).gone) ((nth w19 v14).been) ((nth w19 v14).shown) ((nth w19 v14).timer)))) else w19) = w := ⟨_, rfl⟩
 refine cSeqE [] [8] id (fun H => bk 2 ⟨0, 5, hRows 3 w30 is2⟩ H) (True) ?_ (fun q29 => ?_)
 ·
  replace h := q111
  obtain ⟨q49, h⟩ := h
  refine cSeqM [(63, ab ((((nth w19 v14).state) == 1) || (((nth w19 v14).state) == 2)))] [8] (True) ?_ (fun q32 => ?_)
  ·
   replace h := q49
   refine rgS [] 10 ?_
   obtain ⟨q35, h⟩ := h
   refine sLdR 4 (some 55) [(54, .ptr 2 0 (0 + v14.toNat) 0), (53, .ptr 2 0 (0 + v14.toNat) 0), (52, .ptr 2 0 (0 + v14.toNat) 0)] (hRows 3 w19 is2) v14 3 0 0 (ai ((nth w19 v14).state)) (hRows_get q35.1 q35.2) ?_
   refine sCase1 2 57 (((nth w19 v14).state) == 1) [(56, ab (((nth w19 v14).state) == 1))] (fun q33 => ?_) (fun q33 => ?_)
   ·
    exact sEJ ([(63, ab true)] ++ tz [62, 61, 60, 59, 58]) trivial (by simp only [q6, q13, q33] <;> kernel_rfl)
   ·
    replace h := h q33
    have q34 := h
    refine sLdR 4 (some 61) [(60, .ptr 2 0 (0 + v14.toNat) 0), (59, .ptr 2 0 (0 + v14.toNat) 0), (58, .ptr 2 0 (0 + v14.toNat) 0)] (hRows 3 w19 is2) v14 3 0 0 (ai ((nth w19 v14).state)) (hRows_get q34.1 q34.2) ?_
    exact sEJ [(63, ab (((nth w19 v14).state) == 2)), (62, ab (((nth w19 v14).state) == 2))] trivial (by simp only [q6, q13, q33] <;> kernel_rfl)
  refine cCond1 (fun q36 => ?_) (fun q36 => ?_)
  ·
   replace h := h q36
   obtain ⟨q48, h⟩ := h
   refine cSeqE [] [0, 1, 8] id (fun H => bk 2 ⟨0, 5, hRows 3 (w19.set v14.toNat (Held.mk 1 ((nth w19 v14).gone) ((nth w19 v14).been) ((nth w19 v14).shown) ((nth w19 v14).timer))) is2⟩ H) (True) ?_ (fun q37 => ?_)
   ·
    replace h := q48
    refine rgS [] 11 ?_
    have q38 := h
    refine sStRj 4 none [(66, .ptr 2 0 (0 + v14.toNat) 0), (65, .ptr 2 0 (0 + v14.toNat) 0), (64, .ptr 2 0 (0 + v14.toNat) 0)] (hRows 3 w19 is2) v14 0 1 0 [ai 1] 2 (hRows 3 (w19.set v14.toNat (Held.mk 1 ((nth w19 v14).gone) ((nth w19 v14).been) ((nth w19 v14).shown) ((nth w19 v14).timer))) is2) (hRows_get q38.1 q38.2) (hRows_keep q38.1 q38.2) ?_
    exact sEJ [] trivial
   unfold impl_settle_C3 at h
   obtain ⟨q47, h⟩ := h
   refine cSeqM [(70, ab (provedF a0 (Frame.mk ((idt a1).ok) ((idt a1).occ) ((idt a1).points) (view (w19.set v14.toNat (Held.mk 1 ((nth w19 v14).gone) ((nth w19 v14).been) ((nth w19 v14).shown) ((nth w19 v14).timer))) is2 bs3)) v14))] [8] (True) ?_ (fun q39 => ?_)
   ·
    replace h := q47
    refine rgS [] 12 ?_
    obtain ⟨q40, q41, q42, q43⟩ := h
    refine sCallV 4 (some 70) [(69, ai v14), (68, .agg [ab ((idt a1).ok), rf 0 0 (((idt a1).occ).length), rf 1 0 (((idt a1).points).length), rf 2 0 ws2.length]), (67, .agg (ePlan false a0))] [.agg (ePlan false a0), .agg [ab ((idt a1).ok), rf 0 0 (((idt a1).occ).length), rf 1 0 (((idt a1).points).length), rf 2 0 ws2.length], ai v14] (impl_proved_V a0 (Frame.mk ((idt a1).ok) ((idt a1).occ) ((idt a1).points) (view (w19.set v14.toNat (Held.mk 1 ((nth w19 v14).gone) ((nth w19 v14).been) ((nth w19 v14).shown) ((nth w19 v14).timer))) is2 bs3)) v14 q43) (PW.cons (Snap2.agg (PW.cons (.int _ _) (PW.cons sa_lst (PW.cons sa_lst (PW.cons sa_lst (PW.cons (.int _ _) PW.nil)))))) (PW.cons (Snap2.agg (PW.cons (.bool _) (PW.cons (sa_blk' (sz := 1) (by simp [hlw19]) rfl (iBool) q40) (PW.cons (sa_blk' (sz := 2) (by simp [hlw19]) rfl (iPoint) q41) (PW.cons (sa_fam (s := 3) (ws := (w19.set v14.toNat (Held.mk 1 ((nth w19 v14).gone) ((nth w19 v14).been) ((nth w19 v14).shown) ((nth w19 v14).timer)))) (ids := is2) (bs := bs3) (by simp [hlw19]) rfl (fun id k h => by simpa using h) q42.1 q42.2.1 q42.2.2) PW.nil))))) (PW.cons (Snap2.of1 (.int _ _)) PW.nil))) ?_
    exact sEJ [] trivial
   unfold impl_settle_C2 at h
   refine cCond1 (fun q44 => ?_) (fun q44 => ?_)
   ·
    replace h := h q44
    refine rgS [] 13 ?_
    obtain ⟨q46, h⟩ := h
    refine sStRj 5 none [(74, .ptr 2 0 (0 + v14.toNat) 0), (73, .ptr 2 0 (0 + v14.toNat) 0), (72, .ptr 2 0 (0 + v14.toNat) 0), (71, .ptr 2 0 (0 + v14.toNat) 0)] (hRows 3 (w19.set v14.toNat (Held.mk 1 ((nth w19 v14).gone) ((nth w19 v14).been) ((nth w19 v14).shown) ((nth w19 v14).timer))) is2) v14 0 1 0 [ai 2] 2 (hRows 3 ((w19.set v14.toNat (Held.mk 1 ((nth w19 v14).gone) ((nth w19 v14).been) ((nth w19 v14).shown) ((nth w19 v14).timer))).set v14.toNat (Held.mk 2 ((nth (w19.set v14.toNat (Held.mk 1 ((nth w19 v14).gone) ((nth w19 v14).been) ((nth w19 v14).shown) ((nth w19 v14).timer))) v14).gone) ((nth (w19.set v14.toNat (Held.mk 1 ((nth w19 v14).gone) ((nth w19 v14).been) ((nth w19 v14).shown) ((nth w19 v14).timer))) v14).been) ((nth (w19.set v14.toNat (Held.mk 1 ((nth w19 v14).gone) ((nth w19 v14).been) ((nth w19 v14).shown) ((nth w19 v14).timer))) v14).shown) ((nth (w19.set v14.toNat (Held.mk 1 ((nth w19 v14).gone) ((nth w19 v14).been) ((nth w19 v14).shown) ((nth w19 v14).timer))) v14).timer))) is2) (hRows_get q46.1 q46.2) (hRows_keep q46.1 q46.2) ?_
    have q45 := h
    refine sStRj 3 none [(76, .ptr 2 0 (0 + v14.toNat) 3), (75, .ptr 2 0 (0 + v14.toNat) 0)] (hRows 3 ((w19.set v14.toNat (Held.mk 1 ((nth w19 v14).gone) ((nth w19 v14).been) ((nth w19 v14).shown) ((nth w19 v14).timer))).set v14.toNat (Held.mk 2 ((nth (w19.set v14.toNat (Held.mk 1 ((nth w19 v14).gone) ((nth w19 v14).been) ((nth w19 v14).shown) ((nth w19 v14).timer))) v14).gone) ((nth (w19.set v14.toNat (Held.mk 1 ((nth w19 v14).gone) ((nth w19 v14).been) ((nth w19 v14).shown) ((nth w19 v14).timer))) v14).been) ((nth (w19.set v14.toNat (Held.mk 1 ((nth w19 v14).gone) ((nth w19 v14).been) ((nth w19 v14).shown) ((nth w19 v14).timer))) v14).shown) ((nth (w19.set v14.toNat (Held.mk 1 ((nth w19 v14).gone) ((nth w19 v14).been) ((nth w19 v14).shown) ((nth w19 v14).timer))) v14).timer))) is2) v14 3 1 0 [ab true] 2 (hRows 3 (((w19.set v14.toNat (Held.mk 1 ((nth w19 v14).gone) ((nth w19 v14).been) ((nth w19 v14).shown) ((nth w19 v14).timer))).set v14.toNat (Held.mk 2 ((nth (w19.set v14.toNat (Held.mk 1 ((nth w19 v14).gone) ((nth w19 v14).been) ((nth w19 v14).shown) ((nth w19 v14).timer))) v14).gone) ((nth (w19.set v14.toNat (Held.mk 1 ((nth w19 v14).gone) ((nth w19 v14).been) ((nth w19 v14).shown) ((nth w19 v14).timer))) v14).been) ((nth (w19.set v14.toNat (Held.mk 1 ((nth w19 v14).gone) ((nth w19 v14).been) ((nth w19 v14).shown) ((nth w19 v14).timer))) v14).shown) ((nth (w19.set v14.toNat (Held.mk 1 ((nth w19 v14).gone) ((nth w19 v14).been) ((nth w19 v14).shown) ((nth w19 v14).timer))) v14).timer))).set v14.toNat (Held.mk ((nth ((w19.set v14.toNat (Held.mk 1 ((nth w19 v14).gone) ((nth w19 v14).been) ((nth w19 v14).shown) ((nth w19 v14).timer))).set v14.toNat (Held.mk 2 ((nth (w19.set v14.toNat (Held.mk 1 ((nth w19 v14).gone) ((nth w19 v14).been) ((nth w19 v14).shown) ((nth w19 v14).timer))) v14).gone) ((nth (w19.set v14.toNat (Held.mk 1 ((nth w19 v14).gone) ((nth w19 v14).been) ((nth w19 v14).shown) ((nth w19 v14).timer))) v14).been) ((nth (w19.set v14.toNat (Held.mk 1 ((nth w19 v14).gone) ((nth w19 v14).been) ((nth w19 v14).shown) ((nth w19 v14).timer))) v14).shown) ((nth (w19.set v14.toNat (Held.mk 1 ((nth w19 v14).gone) ((nth w19 v14).been) ((nth w19 v14).shown) ((nth w19 v14).timer))) v14).timer))) v14).state) ((nth ((w19.set v14.toNat (Held.mk 1 ((nth w19 v14).gone) ((nth w19 v14).been) ((nth w19 v14).shown) ((nth w19 v14).timer))).set v14.toNat (Held.mk 2 ((nth (w19.set v14.toNat (Held.mk 1 ((nth w19 v14).gone) ((nth w19 v14).been) ((nth w19 v14).shown) ((nth w19 v14).timer))) v14).gone) ((nth (w19.set v14.toNat (Held.mk 1 ((nth w19 v14).gone) ((nth w19 v14).been) ((nth w19 v14).shown) ((nth w19 v14).timer))) v14).been) ((nth (w19.set v14.toNat (Held.mk 1 ((nth w19 v14).gone) ((nth w19 v14).been) ((nth w19 v14).shown) ((nth w19 v14).timer))) v14).shown) ((nth (w19.set v14.toNat (Held.mk 1 ((nth w19 v14).gone) ((nth w19 v14).been) ((nth w19 v14).shown) ((nth w19 v14).timer))) v14).timer))) v14).gone) ((nth ((w19.set v14.toNat (Held.mk 1 ((nth w19 v14).gone) ((nth w19 v14).been) ((nth w19 v14).shown) ((nth w19 v14).timer))).set v14.toNat (Held.mk 2 ((nth (w19.set v14.toNat (Held.mk 1 ((nth w19 v14).gone) ((nth w19 v14).been) ((nth w19 v14).shown) ((nth w19 v14).timer))) v14).gone) ((nth (w19.set v14.toNat (Held.mk 1 ((nth w19 v14).gone) ((nth w19 v14).been) ((nth w19 v14).shown) ((nth w19 v14).timer))) v14).been) ((nth (w19.set v14.toNat (Held.mk 1 ((nth w19 v14).gone) ((nth w19 v14).been) ((nth w19 v14).shown) ((nth w19 v14).timer))) v14).shown) ((nth (w19.set v14.toNat (Held.mk 1 ((nth w19 v14).gone) ((nth w19 v14).been) ((nth w19 v14).shown) ((nth w19 v14).timer))) v14).timer))) v14).been) true ((nth ((w19.set v14.toNat (Held.mk 1 ((nth w19 v14).gone) ((nth w19 v14).been) ((nth w19 v14).shown) ((nth w19 v14).timer))).set v14.toNat (Held.mk 2 ((nth (w19.set v14.toNat (Held.mk 1 ((nth w19 v14).gone) ((nth w19 v14).been) ((nth w19 v14).shown) ((nth w19 v14).timer))) v14).gone) ((nth (w19.set v14.toNat (Held.mk 1 ((nth w19 v14).gone) ((nth w19 v14).been) ((nth w19 v14).shown) ((nth w19 v14).timer))) v14).been) ((nth (w19.set v14.toNat (Held.mk 1 ((nth w19 v14).gone) ((nth w19 v14).been) ((nth w19 v14).shown) ((nth w19 v14).timer))) v14).shown) ((nth (w19.set v14.toNat (Held.mk 1 ((nth w19 v14).gone) ((nth w19 v14).been) ((nth w19 v14).shown) ((nth w19 v14).timer))) v14).timer))) v14).timer))) is2) (hRows_get q45.1 q45.2) (hRows_keep q45.1 q45.2) ?_
    refine sEnd [] ?_
    exact QJoin.normal trivial (by simp only [← q31, q6, q13, q36, q44, cond_true, cond_false]; exact wkJ)
   ·
    refine cSkip ?_
    exact QJoin.normal trivial (by simp only [← q31, q6, q13, q36, q44, cond_true, cond_false]; exact wkJ)
  ·
   refine cSkip ?_
   exact QJoin.normal trivial (by simp only [← q31, q6, q13, q36, cond_true, cond_false]; exact wkJ)
 replace h := h w30 q31
 have hlw30 : w30.length = ws2.length := by rw [← q31]; repeat' apply len_cond; all_goals simp [hlw19]
 obtain ⟨q110, h⟩ := h
 refine cSeqM [] [8] ((!(((nth w30 v14).state) != 4)) = true) ?_ (fun q50 => ?_)
 ·
  replace h := q110
  obtain ⟨q54, h⟩ := h
  refine cSeqM [(81, ab (((nth w30 v14).state) != 4))] [8] (True) ?_ (fun q51 => ?_)
  ·
   replace h := q54
   refine rgS [] 14 ?_
   have q52 := h
   refine sLdR 4 (some 80) [(79, .ptr 2 0 (0 + v14.toNat) 0), (78, .ptr 2 0 (0 + v14.toNat) 0), (77, .ptr 2 0 (0 + v14.toNat) 0)] (hRows 3 w30 is2) v14 3 0 0 (ai ((nth w30 v14).state)) (hRows_get q52.1 q52.2) ?_
   exact sEJ [(81, ab (((nth w30 v14).state) != 4))] trivial
  refine cCond1 (fun q53 => ?_) (fun q53 => ?_)
  ·
   replace h := h q53
   refine cExit 1 ?_
   refine QJoin.exit ?_
   refine QBlock.here ?_
   refine QSeq.normal ?_
   refine rgS [] 24 ?_
   refine sEnd [(14, ai (IntKind.i64.wrap (v14 + 1))), (186, ai (IntKind.i64.wrap (v14 + 1)))] ?_
   exact QRound.again (bs3, is2, (IntKind.i64.wrap (v14 + 1)), w30) h (weak_eq (s' := ⟨(mkS 188 [(2, ap 2 0), (3, ap 3 0), (4, ap 4 0), (13, ai (((idt a1).ways).length : Int)), (14, ai (IntKind.i64.wrap (v14 + 1)))]), [(4, [ab false, an, an, an]), (3, [ab ((idt a1).ok), rf 0 0 (((idt a1).occ).length), rf 1 0 (((idt a1).points).length), rf 2 0 ws2.length]), (2, (ePlan false a0))], (⟨0, 1, List.map eBool ((idt a1).occ)⟩ :: ⟨0, 2, List.map ePoint ((idt a1).points)⟩ :: ⟨0, 5, hRows 3 w30 is2⟩ :: List.map fbk bs3)⟩) (wkL (n := 188) (A' := [(2, ap 2 0), (3, ap 3 0), (4, ap 4 0), (13, ai (((idt a1).ways).length : Int)), (14, ai (IntKind.i64.wrap (v14 + 1)))]) (L' := [(4, [ab false, an, an, an]), (3, [ab ((idt a1).ok), rf 0 0 (((idt a1).occ).length), rf 1 0 (((idt a1).points).length), rf 2 0 ws2.length]), (2, (ePlan false a0))]) []) (congrArg (fun z => (⟨(mkS 188 [(2, ap 2 0), (3, ap 3 0), (4, ap 4 0), (13, ai (((idt a1).ways).length : Int)), (14, ai (IntKind.i64.wrap (v14 + 1)))]), [(4, [ab false, an, an, an]), (3, [ab ((idt a1).ok), rf 0 0 (((idt a1).occ).length), rf 1 0 (((idt a1).points).length), rf 2 0 z]), (2, (ePlan false a0))], (⟨0, 1, List.map eBool ((idt a1).occ)⟩ :: ⟨0, 2, List.map ePoint ((idt a1).points)⟩ :: ⟨0, 5, hRows 3 w30 is2⟩ :: List.map fbk bs3)⟩ : St)) (show ws2.length = w30.length by simp [hlw19, hlw30])))
  ·
   refine cSkip ?_
   exact QJoin.normal (by simp only [q6, q13, q53] <;> rfl) wkJ
 replace h := h q50
 refine cSeq ?_
 refine cSeqM [(83, ai (((nth a0.ways v14).sections).length : Int)), (84, ai 0)] [8] (((nth a0.ways v14).sections).length ≤ 4611686018427387904) ?_ (fun q55 => ?_)
 ·
  refine rgS [] 15 ?_
  refine sLen 2 (some 83) [(82, al eInt ((nth a0.ways v14).sections))] eInt ((nth a0.ways v14).sections) (fun q56 => ?_)
  exact sEJ [(84, ai 0)] q56
 replace h := h q55
 unfold impl_settle_C10 at h
 refine cBlock 2 ?_
 obtain ⟨q109, h⟩ := h
 refine cLoop (fun (v : List (List Bool) × Int) => (⟨(mkS 188 [(2, ap 2 0), (3, ap 3 0), (4, ap 4 0), (5, ai v14), (6, .ptr 2 0 (0 + v14.toNat) 0), (7, al eInt ((nth a0.ways v14).sections)), (13, ai (((idt a1).ways).length : Int)), (14, ai v14), (83, ai (((nth a0.ways v14).sections).length : Int)), (84, ai (v.2))]), [(4, [ab false, an, an, an]), (3, [ab ((idt a1).ok), rf 0 0 (((idt a1).occ).length), rf 1 0 (((idt a1).points).length), rf 2 0 ws2.length]), (2, (ePlan false a0))], (⟨0, 1, List.map eBool ((idt a1).occ)⟩ :: ⟨0, 2, List.map ePoint ((idt a1).points)⟩ :: ⟨0, 5, hRows 3 w30 is2⟩ :: List.map fbk (v.1))⟩ : St)) (fun (v : List (List Bool) × Int) => I1 bs3 is2 v14 ws2 w19 w30 (v.1) (v.2)) (fun (v : List (List Bool) × Int) => m1 bs3 is2 v14 ws2 w19 w30 (v.1) (v.2)) (bs3, 0) (wkL []) q109 (fun v hI => ?_)
 obtain ⟨bs3', v84⟩ := v
 replace h := h bs3' v84 hI
 dsimp only
 refine cRM [] 16 [(85, ab (decide (v84 < (((nth a0.ways v14).sections).length : Int))))] [1] [10] ?_
 obtain ⟨q108, h⟩ := h
 refine cSeqM [] [0, 1, 10] ((decide (v84 < (((nth a0.ways v14).sections).length : Int))) = true) ?_ (fun q58 => ?_)
 ·
  replace h := q108
  refine cCond1 (fun q59 => ?_) (fun q59 => ?_)
  ·
   refine cSkip ?_
   exact QJoin.normal (by simp only [q6, q13, q50, q59] <;> rfl) wkJ
  ·
   replace h := h q59
   refine cExit 2 ?_
   refine QJoin.exit ?_
   refine QRound.exit ?_
   refine QBlock.here ?_
   refine QSeq.normal ?_
   refine cSeq ?_
   refine cBlock 4 ?_
   obtain ⟨q92, h⟩ := h
   refine cLoop (fun (v : List Held) => (⟨(mkS 188 [(2, ap 2 0), (3, ap 3 0), (4, ap 4 0), (5, ai v14), (6, .ptr 2 0 (0 + v14.toNat) 0), (7, al eInt ((nth a0.ways v14).sections)), (13, ai (((idt a1).ways).length : Int)), (14, ai v14)]), [(4, [ab false, an, an, an]), (3, [ab ((idt a1).ok), rf 0 0 (((idt a1).occ).length), rf 1 0 (((idt a1).points).length), rf 2 0 v.length]), (2, (ePlan false a0))], (⟨0, 1, List.map eBool ((idt a1).occ)⟩ :: ⟨0, 2, List.map ePoint ((idt a1).points)⟩ :: ⟨0, 5, hRows 3 v is2⟩ :: List.map fbk bs3')⟩ : St)) (fun (v : List Held) => I2 bs3 is2 v14 ws2 w19 w30 bs3' v84 v) (fun (v : List Held) => m2 bs3 is2 v14 ws2 w19 w30 bs3' v84 v) w30 (weak_eq (s' := ⟨(mkS 188 [(2, ap 2 0), (3, ap 3 0), (4, ap 4 0), (5, ai v14), (6, .ptr 2 0 (0 + v14.toNat) 0), (7, al eInt ((nth a0.ways v14).sections)), (13, ai (((idt a1).ways).length : Int)), (14, ai v14)]), [(4, [ab false, an, an, an]), (3, [ab ((idt a1).ok), rf 0 0 (((idt a1).occ).length), rf 1 0 (((idt a1).points).length), rf 2 0 ws2.length]), (2, (ePlan false a0))], (⟨0, 1, List.map eBool ((idt a1).occ)⟩ :: ⟨0, 2, List.map ePoint ((idt a1).points)⟩ :: ⟨0, 5, hRows 3 w30 is2⟩ :: List.map fbk bs3')⟩) (wkL (n := 188) (A' := [(2, ap 2 0), (3, ap 3 0), (4, ap 4 0), (5, ai v14), (6, .ptr 2 0 (0 + v14.toNat) 0), (7, al eInt ((nth a0.ways v14).sections)), (13, ai (((idt a1).ways).length : Int)), (14, ai v14)]) (L' := [(4, [ab false, an, an, an]), (3, [ab ((idt a1).ok), rf 0 0 (((idt a1).occ).length), rf 1 0 (((idt a1).points).length), rf 2 0 ws2.length]), (2, (ePlan false a0))]) []) (congrArg (fun z => (⟨(mkS 188 [(2, ap 2 0), (3, ap 3 0), (4, ap 4 0), (5, ai v14), (6, .ptr 2 0 (0 + v14.toNat) 0), (7, al eInt ((nth a0.ways v14).sections)), (13, ai (((idt a1).ways).length : Int)), (14, ai v14)]), [(4, [ab false, an, an, an]), (3, [ab ((idt a1).ok), rf 0 0 (((idt a1).occ).length), rf 1 0 (((idt a1).points).length), rf 2 0 z]), (2, (ePlan false a0))], (⟨0, 1, List.map eBool ((idt a1).occ)⟩ :: ⟨0, 2, List.map ePoint ((idt a1).points)⟩ :: ⟨0, 5, hRows 3 w30 is2⟩ :: List.map fbk bs3')⟩ : St)) (show ws2.length = w30.length by simp [hlw19, hlw30]))) q92 (fun ws2' hI => ?_)
   replace h := h ws2' hI
   unfold impl_settle_C7 at h
   obtain ⟨q91, h⟩ := h
   refine cSeqM [] [8] (((decide (((nth ws2' v14).gone) < (((nth a0.ways v14).sections).length : Int))) && ((nth (bs3'.getD (nth is2 v14) []) ((nth ws2' v14).gone)) && ((!(nth ((idt a1).occ) (nth ((nth a0.ways v14).sections) ((nth ws2' v14).gone)))) && ((((nth ws2' v14).gone) == (IntKind.i64.wrap ((((nth a0.ways v14).sections).length : Int) - 1))) || (nth (bs3'.getD (nth is2 v14) []) (IntKind.i64.wrap (((nth ws2' v14).gone) + 1))))))) = true) ?_ (fun q60 => ?_)
   ·
    replace h := q91
    obtain ⟨q88, h⟩ := h
    refine cSeqM [(166, ab ((decide (((nth ws2' v14).gone) < (((nth a0.ways v14).sections).length : Int))) && ((nth (bs3'.getD (nth is2 v14) []) ((nth ws2' v14).gone)) && ((!(nth ((idt a1).occ) (nth ((nth a0.ways v14).sections) ((nth ws2' v14).gone)))) && ((((nth ws2' v14).gone) == (IntKind.i64.wrap ((((nth a0.ways v14).sections).length : Int) - 1))) || (nth (bs3'.getD (nth is2 v14) []) (IntKind.i64.wrap (((nth ws2' v14).gone) + 1))))))))] [8] (True) ?_ (fun q61 => ?_)
    ·
     replace h := q88
     refine rgD [] 20 impl_settle_o20 impl_settle_o20a [] ?_
     obtain ⟨q79, h⟩ := h
     refine tLdR 4 (some 114) [(113, .ptr 2 0 (0 + v14.toNat) 1), (112, .ptr 2 0 (0 + v14.toNat) 0), (111, .ptr 2 0 (0 + v14.toNat) 0)] (hRows 3 ws2' is2) v14 3 1 0 (ai ((nth ws2' v14).gone)) (hRows_get q79.1 q79.2) ?_
     refine tLen 2 (some 116) [(115, al eInt ((nth a0.ways v14).sections))] eInt ((nth a0.ways v14).sections) ?_
     refine tCase1 2 118 (decide (((nth ws2' v14).gone) < (((nth a0.ways v14).sections).length : Int))) [(117, ab (decide (((nth ws2' v14).gone) < (((nth a0.ways v14).sections).length : Int))))] (fun q63 => ?_) (fun q63 => ?_)
     ·
      replace h := h q63
      obtain ⟨q78, h⟩ := h
      refine tLdR 4 (some 122) [(121, .ptr 2 0 (0 + v14.toNat) 2), (120, .ptr 2 0 (0 + v14.toNat) 0), (119, .ptr 2 0 (0 + v14.toNat) 0)] (hRows 3 ws2' is2) v14 36 2 0 (rf ((nth is2 v14) + 3) 0 ((nth ws2' v14).been.length)) (hRows_get q78.1 q78.2) ?_
      obtain ⟨q77, h⟩ := h
      refine tLdR 4 (some 126) [(125, .ptr 2 0 (0 + v14.toNat) 1), (124, .ptr 2 0 (0 + v14.toNat) 0), (123, .ptr 2 0 (0 + v14.toNat) 0)] (hRows 3 ws2' is2) v14 3 1 0 (ai ((nth ws2' v14).gone)) (hRows_get q77.1 q77.2) ?_
      obtain ⟨⟨q64, z127_15310816⟩, h⟩ := h
      refine tAdrF 1 (some 127) [] bs3' (nth is2 v14) 3 q64 z127_15310816 ?_
      obtain ⟨q76, h⟩ := h
      refine tLdF 1 (some 128) [] bs3' (nth is2 v14) ((nth ws2' v14).gone) 4 q76.1 q76.2 ?_
      refine tCase1 2 130 (nth (bs3'.getD (nth is2 v14) []) ((nth ws2' v14).gone)) [(129, ab (nth (bs3'.getD (nth is2 v14) []) ((nth ws2' v14).gone)))] (fun q65 => ?_) (fun q65 => ?_)
      ·
       replace h := h q65
       obtain ⟨q75, h⟩ := h
       refine tLdR 7 (some 137) [(136, .ptr 2 0 (0 + v14.toNat) 1), (135, .ptr 2 0 (0 + v14.toNat) 0), (134, .ptr 2 0 (0 + v14.toNat) 0), (133, al eInt ((nth a0.ways v14).sections)), (132, rf 0 0 (((idt a1).occ).length)), (131, ap 3 1)] (hRows 3 ws2' is2) v14 3 1 0 (ai ((nth ws2' v14).gone)) (hRows_get q75.1 q75.2) ?_
       obtain ⟨q74, h⟩ := h
       refine tIdx 1 (some 138) [] eInt ((nth a0.ways v14).sections) 1 q74 ?_
       obtain ⟨z140_15310816, h⟩ := h
       refine tAdr 2 (some 140) [(139, ai (nth ((nth a0.ways v14).sections) ((nth ws2' v14).gone)))] 0 0 1 z140_15310816 ?_
       refine tLdB 1 (some 141) [] eBool ((idt a1).occ) (nth ((nth a0.ways v14).sections) ((nth ws2' v14).gone)) 4 0 0 (ab (nth ((idt a1).occ) (nth ((nth a0.ways v14).sections) ((nth ws2' v14).gone)))) (by simpa using z140_15310816.2) ?_
       refine tCase1 3 144 (!(nth ((idt a1).occ) (nth ((nth a0.ways v14).sections) ((nth ws2' v14).gone)))) [(143, ab (!(nth ((idt a1).occ) (nth ((nth a0.ways v14).sections) ((nth ws2' v14).gone))))), (142, ab (!(nth ((idt a1).occ) (nth ((nth a0.ways v14).sections) ((nth ws2' v14).gone)))))] (fun q66 => ?_) (fun q66 => ?_)
       ·
        replace h := h q66
        obtain ⟨q73, h⟩ := h
        refine tLdR 4 (some 148) [(147, .ptr 2 0 (0 + v14.toNat) 1), (146, .ptr 2 0 (0 + v14.toNat) 0), (145, .ptr 2 0 (0 + v14.toNat) 0)] (hRows 3 ws2' is2) v14 3 1 0 (ai ((nth ws2' v14).gone)) (hRows_get q73.1 q73.2) ?_
        refine tLen 2 (some 150) [(149, al eInt ((nth a0.ways v14).sections))] eInt ((nth a0.ways v14).sections) ?_
        refine tCase1 3 153 (((nth ws2' v14).gone) == (IntKind.i64.wrap ((((nth a0.ways v14).sections).length : Int) - 1))) [(152, ab (((nth ws2' v14).gone) == (IntKind.i64.wrap ((((nth a0.ways v14).sections).length : Int) - 1)))), (151, ai (IntKind.i64.wrap ((((nth a0.ways v14).sections).length : Int) - 1)))] (fun q68 => ?_) (fun q68 => ?_)
        ·
         exact tEJ ([(166, ab true), (165, ab true)] ++ tz [164, 163, 162, 161, 160, 159, 158, 157, 156, 155, 154]) trivial (by simp only [q6, q13, q50, q59, q63, q65, q66, q68] <;> kernel_rfl)
        ·
         replace h := h q68
         obtain ⟨q72, h⟩ := h
         refine tLdR 4 (some 157) [(156, .ptr 2 0 (0 + v14.toNat) 2), (155, .ptr 2 0 (0 + v14.toNat) 0), (154, .ptr 2 0 (0 + v14.toNat) 0)] (hRows 3 ws2' is2) v14 36 2 0 (rf ((nth is2 v14) + 3) 0 ((nth ws2' v14).been.length)) (hRows_get q72.1 q72.2) ?_
         obtain ⟨q71, h⟩ := h
         refine tLdR 4 (some 161) [(160, .ptr 2 0 (0 + v14.toNat) 1), (159, .ptr 2 0 (0 + v14.toNat) 0), (158, .ptr 2 0 (0 + v14.toNat) 0)] (hRows 3 ws2' is2) v14 3 1 0 (ai ((nth ws2' v14).gone)) (hRows_get q71.1 q71.2) ?_
         obtain ⟨⟨q69, z163_15310816⟩, h⟩ := h
         refine tAdrF 2 (some 163) [(162, ai (IntKind.i64.wrap (((nth ws2' v14).gone) + 1)))] bs3' (nth is2 v14) 3 q69 z163_15310816 ?_
         have q70 := h
         refine tLdF 1 (some 164) [] bs3' (nth is2 v14) (IntKind.i64.wrap (((nth ws2' v14).gone) + 1)) 4 q70.1 q70.2 ?_
         exact tEJ [(166, ab (nth (bs3'.getD (nth is2 v14) []) (IntKind.i64.wrap (((nth ws2' v14).gone) + 1)))), (165, ab (nth (bs3'.getD (nth is2 v14) []) (IntKind.i64.wrap (((nth ws2' v14).gone) + 1))))] trivial (by simp only [q6, q13, q50, q59, q63, q65, q66, q68] <;> kernel_rfl)
       ·
        exact tEJ ([(166, ab false)] ++ tz [165, 164, 163, 162, 161, 160, 159, 158, 157, 156, 155, 154, 153, 152, 151, 150, 149, 148, 147, 146, 145]) trivial (by simp only [q6, q13, q50, q59, q63, q65, q66] <;> kernel_rfl)
      ·
       exact tEJ ([(166, ab false)] ++ tz [165, 164, 163, 162, 161, 160, 159, 158, 157, 156, 155, 154, 153, 152, 151, 150, 149, 148, 147, 146, 145] ++ [(144, ab false), (143, ab false)] ++ tz [142, 141, 140, 139, 138, 137, 136, 135, 134, 133, 132, 131]) trivial (by simp only [q6, q13, q50, q59, q63, q65] <;> kernel_rfl)
     ·
      exact tEJ ([(166, ab false)] ++ tz [165, 164, 163, 162, 161, 160, 159, 158, 157, 156, 155, 154, 153, 152, 151, 150, 149, 148, 147, 146, 145] ++ [(144, ab false), (143, ab false)] ++ tz [142, 141, 140, 139, 138, 137, 136, 135, 134, 133, 132, 131] ++ [(130, ab false), (129, ab false)] ++ tz [128, 127, 126, 125, 124, 123, 122, 121, 120, 119]) trivial (by simp only [q6, q13, q50, q59, q63] <;> kernel_rfl)
    unfold impl_settle_C5 at h
    refine cCond1 (fun q80 => ?_) (fun q80 => ?_)
    ·
     refine cSkip ?_
     exact QJoin.normal (by simp only [q6, q13, q50, q59, q80] <;> rfl) wkJ
    ·
     replace h := h q80
     refine cExit 4 ?_
     refine QJoin.exit ?_
     refine QRound.exit ?_
     refine QBlock.here ?_
     refine QSeq.normal ?_
     obtain ⟨q87, h⟩ := h
     refine cSeqG ⟨(mkS 188 [(2, ap 2 0), (3, ap 3 0), (4, ap 4 0), (5, ai v14), (6, .ptr 2 0 (0 + v14.toNat) 0), (13, ai (((idt a1).ways).length : Int)), (14, ai v14), (180, ab (((nth ws2' v14).gone) == (((nth a0.ways v14).sections).length : Int)))]), [(4, [ab false, an, an, an]), (3, [ab ((idt a1).ok), rf 0 0 (((idt a1).occ).length), rf 1 0 (((idt a1).points).length), rf 2 0 ws2'.length]), (2, (ePlan false a0))], (⟨0, 1, List.map eBool ((idt a1).occ)⟩ :: ⟨0, 2, List.map ePoint ((idt a1).points)⟩ :: ⟨0, 5, hRows 3 ws2' is2⟩ :: List.map fbk bs3')⟩ (True) ?_ (fun q81 => ?_)
     ·
      replace h := q87
      refine rgS [] 22 ?_
      have q83 := h
      refine sLdR 4 (some 177) [(176, .ptr 2 0 (0 + v14.toNat) 1), (175, .ptr 2 0 (0 + v14.toNat) 0), (174, .ptr 2 0 (0 + v14.toNat) 0)] (hRows 3 ws2' is2) v14 3 1 0 (ai ((nth ws2' v14).gone)) (hRows_get q83.1 q83.2) ?_
      refine sLen 2 (some 179) [(178, al eInt ((nth a0.ways v14).sections))] eInt ((nth a0.ways v14).sections) (fun q82 => ?_)
      exact sEJ [(180, ab (((nth ws2' v14).gone) == (((nth a0.ways v14).sections).length : Int)))] trivial
     unfold impl_settle_C4 at h
     refine cCond (.tmp 180) (((nth ws2' v14).gone) == (((nth a0.ways v14).sections).length : Int)) (fun q84 => ?_) (fun q84 => ?_)
     ·
      replace h := h.1 q84
      refine rgS [] 23 ?_
      obtain ⟨q85, h⟩ := h
      refine sCallO 4 (some 184) [(183, ai v14), (182, .agg (ePlan false a0)), (181, .ptr 2 0 (0 + v14.toNat) 0)] [.agg (ePlan false a0), ai v14] (.agg [ai ((idleH a0 v14).state), ai ((idleH a0 v14).gone), rf (bs3'.length + 3) 0 (((idleH a0 v14).been).length), ab ((idleH a0 v14).shown), ai ((idleH a0 v14).timer)]) (⟨0, 1, List.map eBool ((idt a1).occ)⟩ :: ⟨0, 2, List.map ePoint ((idt a1).points)⟩ :: ⟨0, 5, hRows 3 ws2' is2⟩ :: List.map fbk (bs3' ++ [(idleH a0 v14).been])) (impl_idle_O a0 v14 q85) (PW.cons (Snap2.agg (PW.cons (.int _ _) (PW.cons sa_lst (PW.cons sa_lst (PW.cons sa_lst (PW.cons (.int _ _) PW.nil)))))) (PW.cons (Snap2.of1 (.int _ _)) PW.nil)) (ownH_cons (fun _ => rfl) rfl) (shift_eq (shift_cons (fun _ => rfl) rfl) (by simp only [List.cons_append, List.map_nil, fam_snoc])) ?_ (er := by simp [shift3, shift2, shift0])
      obtain ⟨q86, h⟩ := h
      refine sStRj 2 none [(185, .ptr 2 0 (0 + v14.toNat) 0)] (hRows 3 ws2' is2) v14 0 5 0 [ai ((idleH a0 v14).state), ai ((idleH a0 v14).gone), rf (bs3'.length + 3) 0 (((idleH a0 v14).been).length), ab ((idleH a0 v14).shown), ai ((idleH a0 v14).timer)] 2 (hRows 3 (ws2'.set v14.toNat (Held.mk ((idleH a0 v14).state) ((idleH a0 v14).gone) ((idleH a0 v14).been) ((idleH a0 v14).shown) ((idleH a0 v14).timer))) (is2.set v14.toNat bs3'.length)) (hRows_get q86.1 q86.2) (hRows_set q86.1) ?_
      refine sEnd [] ?_
      refine QBlock.normal ?_
      refine QSeq.normal ?_
      refine rgS [] 24 ?_
      refine sEnd [(14, ai (IntKind.i64.wrap (v14 + 1))), (186, ai (IntKind.i64.wrap (v14 + 1)))] ?_
      exact QRound.again ((bs3' ++ [(idleH a0 v14).been]), (is2.set v14.toNat bs3'.length), (IntKind.i64.wrap (v14 + 1)), (ws2'.set v14.toNat (Held.mk ((idleH a0 v14).state) ((idleH a0 v14).gone) ((idleH a0 v14).been) ((idleH a0 v14).shown) ((idleH a0 v14).timer)))) h (weak_eq (s' := ⟨(mkS 188 [(2, ap 2 0), (3, ap 3 0), (4, ap 4 0), (13, ai (((idt a1).ways).length : Int)), (14, ai (IntKind.i64.wrap (v14 + 1)))]), [(4, [ab false, an, an, an]), (3, [ab ((idt a1).ok), rf 0 0 (((idt a1).occ).length), rf 1 0 (((idt a1).points).length), rf 2 0 ws2'.length]), (2, (ePlan false a0))], (⟨0, 1, List.map eBool ((idt a1).occ)⟩ :: ⟨0, 2, List.map ePoint ((idt a1).points)⟩ :: ⟨0, 5, hRows 3 (ws2'.set v14.toNat (Held.mk ((idleH a0 v14).state) ((idleH a0 v14).gone) ((idleH a0 v14).been) ((idleH a0 v14).shown) ((idleH a0 v14).timer))) (is2.set v14.toNat bs3'.length)⟩ :: List.map fbk (bs3' ++ [(idleH a0 v14).been]))⟩) (wkL (n := 188) (A' := [(2, ap 2 0), (3, ap 3 0), (4, ap 4 0), (13, ai (((idt a1).ways).length : Int)), (14, ai (IntKind.i64.wrap (v14 + 1)))]) (L' := [(4, [ab false, an, an, an]), (3, [ab ((idt a1).ok), rf 0 0 (((idt a1).occ).length), rf 1 0 (((idt a1).points).length), rf 2 0 ws2'.length]), (2, (ePlan false a0))]) []) (congrArg (fun z => (⟨(mkS 188 [(2, ap 2 0), (3, ap 3 0), (4, ap 4 0), (13, ai (((idt a1).ways).length : Int)), (14, ai (IntKind.i64.wrap (v14 + 1)))]), [(4, [ab false, an, an, an]), (3, [ab ((idt a1).ok), rf 0 0 (((idt a1).occ).length), rf 1 0 (((idt a1).points).length), rf 2 0 z]), (2, (ePlan false a0))], (⟨0, 1, List.map eBool ((idt a1).occ)⟩ :: ⟨0, 2, List.map ePoint ((idt a1).points)⟩ :: ⟨0, 5, hRows 3 (ws2'.set v14.toNat (Held.mk ((idleH a0 v14).state) ((idleH a0 v14).gone) ((idleH a0 v14).been) ((idleH a0 v14).shown) ((idleH a0 v14).timer))) (is2.set v14.toNat bs3'.length)⟩ :: List.map fbk (bs3' ++ [(idleH a0 v14).been]))⟩ : St)) (show ws2'.length = (ws2'.set v14.toNat (Held.mk ((idleH a0 v14).state) ((idleH a0 v14).gone) ((idleH a0 v14).been) ((idleH a0 v14).shown) ((idleH a0 v14).timer))).length by simp [hlw19, hlw30])))
     ·
      replace h := h.2 q84
      refine cSkip ?_
      refine QBlock.normal ?_
      refine QSeq.normal ?_
      refine rgS [] 24 ?_
      refine sEnd [(14, ai (IntKind.i64.wrap (v14 + 1))), (186, ai (IntKind.i64.wrap (v14 + 1)))] ?_
      exact QRound.again (bs3', is2, (IntKind.i64.wrap (v14 + 1)), ws2') h (wkL [])
   replace h := h q60
   unfold impl_settle_C6 at h
   refine cBlock 5 ?_
   refine rgS [] 21 ?_
   obtain ⟨q90, h⟩ := h
   refine sLdR 4 (some 170) [(169, .ptr 2 0 (0 + v14.toNat) 1), (168, .ptr 2 0 (0 + v14.toNat) 0), (167, .ptr 2 0 (0 + v14.toNat) 0)] (hRows 3 ws2' is2) v14 3 1 0 (ai ((nth ws2' v14).gone)) (hRows_get q90.1 q90.2) ?_
   obtain ⟨q89, h⟩ := h
   refine sStRj 4 none [(173, .ptr 2 0 (0 + v14.toNat) 1), (172, .ptr 2 0 (0 + v14.toNat) 0), (171, ai (IntKind.i64.wrap (((nth ws2' v14).gone) + 1)))] (hRows 3 ws2' is2) v14 1 1 0 [ai (IntKind.i64.wrap (((nth ws2' v14).gone) + 1))] 2 (hRows 3 (ws2'.set v14.toNat (Held.mk ((nth ws2' v14).state) (IntKind.i64.wrap (((nth ws2' v14).gone) + 1)) ((nth ws2' v14).been) ((nth ws2' v14).shown) ((nth ws2' v14).timer))) is2) (hRows_get q89.1 q89.2) (hRows_keep q89.1 q89.2) ?_
   refine sEnd [] ?_
   refine QBlock.normal ?_
   exact QRound.again (ws2'.set v14.toNat (Held.mk ((nth ws2' v14).state) (IntKind.i64.wrap (((nth ws2' v14).gone) + 1)) ((nth ws2' v14).been) ((nth ws2' v14).shown) ((nth ws2' v14).timer))) h (weak_eq (s' := ⟨(mkS 188 [(2, ap 2 0), (3, ap 3 0), (4, ap 4 0), (5, ai v14), (6, .ptr 2 0 (0 + v14.toNat) 0), (7, al eInt ((nth a0.ways v14).sections)), (13, ai (((idt a1).ways).length : Int)), (14, ai v14)]), [(4, [ab false, an, an, an]), (3, [ab ((idt a1).ok), rf 0 0 (((idt a1).occ).length), rf 1 0 (((idt a1).points).length), rf 2 0 ws2'.length]), (2, (ePlan false a0))], (⟨0, 1, List.map eBool ((idt a1).occ)⟩ :: ⟨0, 2, List.map ePoint ((idt a1).points)⟩ :: ⟨0, 5, hRows 3 (ws2'.set v14.toNat (Held.mk ((nth ws2' v14).state) (IntKind.i64.wrap (((nth ws2' v14).gone) + 1)) ((nth ws2' v14).been) ((nth ws2' v14).shown) ((nth ws2' v14).timer))) is2⟩ :: List.map fbk bs3')⟩) (wkL (n := 188) (A' := [(2, ap 2 0), (3, ap 3 0), (4, ap 4 0), (5, ai v14), (6, .ptr 2 0 (0 + v14.toNat) 0), (7, al eInt ((nth a0.ways v14).sections)), (13, ai (((idt a1).ways).length : Int)), (14, ai v14)]) (L' := [(4, [ab false, an, an, an]), (3, [ab ((idt a1).ok), rf 0 0 (((idt a1).occ).length), rf 1 0 (((idt a1).points).length), rf 2 0 ws2'.length]), (2, (ePlan false a0))]) []) (congrArg (fun z => (⟨(mkS 188 [(2, ap 2 0), (3, ap 3 0), (4, ap 4 0), (5, ai v14), (6, .ptr 2 0 (0 + v14.toNat) 0), (7, al eInt ((nth a0.ways v14).sections)), (13, ai (((idt a1).ways).length : Int)), (14, ai v14)]), [(4, [ab false, an, an, an]), (3, [ab ((idt a1).ok), rf 0 0 (((idt a1).occ).length), rf 1 0 (((idt a1).points).length), rf 2 0 z]), (2, (ePlan false a0))], (⟨0, 1, List.map eBool ((idt a1).occ)⟩ :: ⟨0, 2, List.map ePoint ((idt a1).points)⟩ :: ⟨0, 5, hRows 3 (ws2'.set v14.toNat (Held.mk ((nth ws2' v14).state) (IntKind.i64.wrap (((nth ws2' v14).gone) + 1)) ((nth ws2' v14).been) ((nth ws2' v14).shown) ((nth ws2' v14).timer))) is2⟩ :: List.map fbk bs3')⟩ : St)) (show ws2'.length = (ws2'.set v14.toNat (Held.mk ((nth ws2' v14).state) (IntKind.i64.wrap (((nth ws2' v14).gone) + 1)) ((nth ws2' v14).been) ((nth ws2' v14).shown) ((nth ws2' v14).timer))).length by simp [hlw19, hlw30])))
 replace h := h q58
 unfold impl_settle_C9 at h
 obtain ⟨q107, h⟩ := h
 obtain ⟨w94, q95⟩ : ∃ w : List (List Bool), (bif (nth (bs3'.getD (nth is2 v14) []) v84) then (bs3'.set (nth is2 v14) ((bs3'.getD (nth is2 v14) []).set v84.toNat true)) else (bs3'.set (nth is2 v14) ((bs3'.getD (nth is2 v14) []).set v84.toNat (nth ((idt a1).occ) (nth ((nth a0.ways v14).sections) v84))))) = w := ⟨_, rfl⟩
 refine cSeqE [] [10] id (fun _ => (⟨0, 1, List.map eBool ((idt a1).occ)⟩ :: ⟨0, 2, List.map ePoint ((idt a1).points)⟩ :: ⟨0, 5, hRows 3 w30 is2⟩ :: List.map fbk w94)) (True) ?_ (fun q93 => ?_)
 ·
  replace h := q107
  refine cBlock 3 ?_
  refine cRM [] 17 [(8, ai v84), (86, ai v84)] [1] [10] ?_
  unfold impl_settle_C8 at h
  refine rgD [] 18 impl_settle_o18 impl_settle_o18a [] ?_
  obtain ⟨q106, h⟩ := h
  refine tLdR 4 (some 90) [(89, .ptr 2 0 (0 + v14.toNat) 2), (88, .ptr 2 0 (0 + v14.toNat) 0), (87, .ptr 2 0 (0 + v14.toNat) 0)] (hRows 3 w30 is2) v14 36 2 0 (rf ((nth is2 v14) + 3) 0 ((nth w30 v14).been.length)) (hRows_get q106.1 q106.2) ?_
  obtain ⟨q105, h⟩ := h
  refine tLdR 5 (some 95) [(94, .ptr 2 0 (0 + v14.toNat) 2), (93, .ptr 2 0 (0 + v14.toNat) 0), (92, .ptr 2 0 (0 + v14.toNat) 0), (91, ai v84)] (hRows 3 w30 is2) v14 36 2 0 (rf ((nth is2 v14) + 3) 0 ((nth w30 v14).been.length)) (hRows_get q105.1 q105.2) ?_
  obtain ⟨⟨q97, z97_122486425⟩, h⟩ := h
  refine tAdrF 2 (some 97) [(96, ai v84)] bs3' (nth is2 v14) 3 q97 z97_122486425 ?_
  obtain ⟨q104, h⟩ := h
  refine tLdF 1 (some 98) [] bs3' (nth is2 v14) v84 4 q104.1 q104.2 ?_
  refine tCase1 1 99 (nth (bs3'.getD (nth is2 v14) []) v84) [] (fun q98 => ?_) (fun q98 => ?_)
  ·
   replace h := h.1 q98
   obtain ⟨⟨q99, z109_122486425⟩, h⟩ := h
   refine tAdrF 10 (some 109) [(108, ab true), (107, t0), (106, t0), (105, t0), (104, t0), (103, t0), (102, t0), (101, t0), (100, t0)] bs3' (nth is2 v14) 3 q99 z109_122486425 ?_
   have q100 := h
   refine tStF 1 none [] bs3' (nth is2 v14) v84 true (fun _ => True) (fun r => (⟨0, 1, List.map eBool ((idt a1).occ)⟩ :: ⟨0, 2, List.map ePoint ((idt a1).points)⟩ :: ⟨0, 5, hRows 3 w30 is2⟩ :: r)) q100.1 q100.2 trivial ?_
   refine tEnd [] ?_
   refine QBlock.normal ?_
   exact QJoin.normal trivial (by simp only [← q95, q6, q13, q50, q58, q98, cond_true, cond_false]; exact wkJ)
  ·
   replace h := h.2 q98
   obtain ⟨q103, h⟩ := h
   refine tIdx 5 (some 104) [(103, ai v84), (102, al eInt ((nth a0.ways v14).sections)), (101, rf 0 0 (((idt a1).occ).length)), (100, ap 3 1)] eInt ((nth a0.ways v14).sections) 1 q103 ?_
   obtain ⟨z106_122486425, h⟩ := h
   refine tAdr 2 (some 106) [(105, ai (nth ((nth a0.ways v14).sections) v84))] 0 0 1 z106_122486425 ?_
   refine tLdB 1 (some 107) [] eBool ((idt a1).occ) (nth ((nth a0.ways v14).sections) v84) 4 0 0 (ab (nth ((idt a1).occ) (nth ((nth a0.ways v14).sections) v84))) (by simpa using z106_122486425.2) ?_
   obtain ⟨⟨q101, z109_122486425⟩, h⟩ := h
   refine tAdrF 2 (some 109) [(108, ab (nth ((idt a1).occ) (nth ((nth a0.ways v14).sections) v84)))] bs3' (nth is2 v14) 3 q101 z109_122486425 ?_
   have q102 := h
   refine tStF 1 none [] bs3' (nth is2 v14) v84 (nth ((idt a1).occ) (nth ((nth a0.ways v14).sections) v84)) (fun _ => True) (fun r => (⟨0, 1, List.map eBool ((idt a1).occ)⟩ :: ⟨0, 2, List.map ePoint ((idt a1).points)⟩ :: ⟨0, 5, hRows 3 w30 is2⟩ :: r)) q102.1 q102.2 trivial ?_
   refine tEnd [] ?_
   refine QBlock.normal ?_
   exact QJoin.normal trivial (by simp only [← q95, q6, q13, q50, q58, q98, cond_true, cond_false]; exact wkJ)
 replace h := h w94 q95
 refine rgS [] 19 ?_
 refine sEnd [(84, ai (IntKind.i64.wrap (v84 + 1))), (110, ai (IntKind.i64.wrap (v84 + 1)))] ?_
 exact QRound.again (w94, (IntKind.i64.wrap (v84 + 1))) h (wkL [])
theorem impl_settle_V (a0 : Plan) (a1 : Frame) (hp : settlePre a0 a1) : FnV Try.prog 105 [.agg (ePlan false a0), .agg (eFrame false a1)] (.agg (eFrame true (settleF a0 a1))) := impl_settle_walk a0 a1 (settleF a0 a1) (setI a0 a1) (fun _ _ v _ => upM a1.ways.length v) (fun _ is v _ _ w47 bs k => upI (secs a0 v).length (fun _ => false) k ∧ FamAt (atN a0 a1 v).ways is v { preH a0 a1 v with been := upBeen (secs a0 v) (atN a0 a1 v) (preH a0 a1 v).been k.toNat } w47 bs) (fun _ _ v _ _ _ _ k => upM (secs a0 v).length k) (fun _ is v _ _ _ bs _ ws => ∃ g, goI (secs a0 v) (atN a0 a1 v) (beenN a0 a1 v) (preH a0 a1 v).gone g ∧ FamAt (atN a0 a1 v).ways is v { preH a0 a1 v with been := beenN a0 a1 v, gone := g } ws bs) (fun _ _ v _ _ _ _ _ ws => (((secs a0 v).length : Int) - (nth ws v).gone).toNat) (by
 obtain ⟨hP, hF⟩ := hp
 have hways := hF.ways
 have hpw := hP.ways
 have hfocc := hF.occ
 have hfpt := hF.points
 have hpsec := hP.secs
 have hsw := hP.sw
 have hbl : ∀ h ∈ a1.ways, h.been.length ≤ 30 := fun h hh => by
  obtain ⟨i, hi, rfl⟩ := List.mem_iff_getElem.1 hh
  have h1 : i < a0.ways.length := by omega
  rw [hF.been i _ _ (List.getElem?_eq_getElem hi) (List.getElem?_eq_getElem h1)]
  exact (hP.sections _ (List.getElem_mem h1)).2.1
 have hsm : smallF a1 := ⟨by omega, by omega, by omega, fun h hh => by have := hbl h hh; omega⟩
 unfold impl_settle_C
 obtain ⟨r1, r2, r3⟩ := fam_range a1.ways
 refine ⟨hsm, ⟨up_start (len0 _), r1, r2, r3, fun b hb => ?_⟩, fun bs is v ws hI => ?_⟩
 ·obtain ⟨h, hh, rfl⟩ := List.mem_map.1 hb
  have := hbl h hh; omega
 have hI' := hI
 obtain ⟨hU, hok, hnd, hvw, hlen⟩ := hI'
 have hn : (a1.ways.length : Int) ≤ 4611686018427387904 := by omega
 obtain ⟨s1, s2, s3⟩ := settleN_same a0 a1 v.toNat
 have hwl : ws.length = a1.ways.length := by rw [← view_len hok, hvw, settleN_len]
 unfold impl_settle_C13
 refine ⟨fun hv => ?_, fun hv => ?_⟩
 ·have hv' : ¬ v < (a1.ways.length : Int) := by
   have hv : decide (v < (a1.ways.length : Int)) = false := hv
   simpa using hv
  have h1 := hU.2.1
  have h0 := hU.1
  have : v.toNat = a1.ways.length := by omega
  rw [this] at s1 s2 s3 hvw
  exact ⟨s1.symm, ⟨by show a1.occ.length ≤ _; omega, s2.symm⟩, ⟨by show a1.points.length ≤ _; omega, s3.symm⟩, hok, by omega, fun b hb => by have := hlen b hb; omega, hvw⟩
 have hin := up_in hU hv
 have h0 := hin.1
 have hlt : v.toNat < ws.length := by omega
 have hpl : v.toNat < a0.ways.length := by omega
 have hFN := settleN_in hF v.toNat
 have hV : (atN a0 a1 v).ways.length = a1.ways.length := settleN_len _ _ _
 have hs : (secs a0 v) ≠ [] ∧ (secs a0 v).length ≤ 30 ∧ ∀ x ∈ secs a0 v, 0 ≤ x ∧ x < a0.sections := hP.sections _ (nth_mem hpl)
 have hg1 : (atN a0 a1 v).ways[v.toNat]? = some (nth (atN a0 a1 v).ways v) := nth_some (by omega)
 have hbe : (nth (atN a0 a1 v).ways v).been.length = (secs a0 v).length := hFN.been _ _ _ hg1 (nth_some hpl)
 have hgo := hFN.gone _ (List.mem_of_getElem? hg1)
 have hsl : 0 < (secs a0 v).length := List.length_pos_iff.2 hs.1
 have hsin : ∀ k : Int, 0 ≤ k → k.toNat < (secs a0 v).length → 0 ≤ nth (secs a0 v) k ∧ (nth (secs a0 v) k).toNat < a1.occ.length := fun k k0 k1 => by
  have := hs.2.2 _ (nth_mem k1); omega
 have F0 : FamAt (atN a0 a1 v).ways is v (nth (atN a0 a1 v).ways v) ws bs := FamAt.start hok hnd hlt hvw hlen
 have hstep := stepH_eq (p := a0) (f := a1) h0
 refine ⟨⟨h0, hlt⟩, ⟨h0, hpl⟩, ⟨F0.ll, fun hz => ?_⟩, fun hz => ?_⟩
 ·rw [F0.state] at hz
  exact set_next hn hU hv F0 (by rw [hstep, if_pos (by simpa using hz)])
 have hz : ¬ (nth (atN a0 a1 v).ways v).state = 0 := by rw [F0.state] at hz; simpa using hz
 rw [if_neg hz] at hstep
 unfold impl_settle_C12
 refine ⟨⟨⟨F0.ll, fun _ => ⟨⟨Int.le_refl _, hsl⟩, hsin 0 (Int.le_refl _) hsl⟩⟩, fun _ => ⟨F0.ll, (F0.setState 4).ll⟩⟩, fun w27 hw27 => ?_⟩
 have F1 : FamAt (atN a0 a1 v).ways is v (preA a0 a1 v) w27 bs := by
  rw [← hw27, F0.state]
  unfold preA
  simp only
  have hc : ((nth (atN a0 a1 v).ways v).state ≠ 4 ∧ occAt (atN a0 a1 v) (nth (secs a0 v) 0) = true) ↔ ((((nth (atN a0 a1 v).ways v).state != 4) && (nth ((idt a1).occ) (nth ((nth a0.ways v).sections) 0))) = true) := by
   rw [Bool.and_eq_true, bne_iff_ne]
   unfold occAt
   rw [show (atN a0 a1 v).occ = a1.occ from s2]; rfl
  by_cases hb : ((nth (atN a0 a1 v).ways v).state ≠ 4 ∧ occAt (atN a0 a1 v) (nth (secs a0 v) 0) = true)
  ·rw [if_pos hb, hc.1 hb]
   exact (F0.setState 4).setTimer 0
  ·rw [if_neg hb, Bool.eq_false_iff.2 (fun h => hb (hc.2 h))]
   exact F0
 unfold impl_settle_C11
 have hpre : provedPre a0 ({ ok := (idt a1).ok, occ := (idt a1).occ, points := (idt a1).points, ways := view (w27.set v.toNat ({ state := 1, gone := (nth w27 v).gone, been := (nth w27 v).been, shown := (nth w27 v).shown, timer := (nth w27 v).timer } : Held)) is bs } : Frame) v := by
  have FS := F1.setState 1
  refine ⟨hP, ⟨hF.occ, hF.points, ?_, fun i h w e1 e2 => ?_, fun h hh => ?_⟩, h0, by omega⟩
  ·show (view _ is bs).length = _
   rw [view_len FS.ok, List.length_set]; have := F1.vlen; omega
  ·replace e1 : (view _ is bs)[i]? = some h := e1
   rw [FS.vw, List.getElem?_set] at e1
   split at e1
   ·rename_i hi; subst hi
    split at e1
    ·cases e1
     have := nth_some hpl
     rw [e2] at this
     cases this
     show (preA a0 a1 v).been.length = _
     rw [preA_been.1]; exact hbe
    ·cases e1
   ·exact hFN.been i h w e1 e2
  ·replace hh : h ∈ view _ is bs := hh
   rw [FS.vw] at hh
   rcases List.mem_or_eq_of_mem_set hh with hh | rfl
   ·exact hFN.gone h hh
   ·show 0 ≤ (preA a0 a1 v).gone ∧ (preA a0 a1 v).gone ≤ (preA a0 a1 v).been.length
    rw [preA_been.1, preA_been.2]; exact hgo
 have hprv : provedF a0 ({ ok := (idt a1).ok, occ := (idt a1).occ, points := (idt a1).points, ways := view (w27.set v.toNat ({ state := 1, gone := (nth w27 v).gone, been := (nth w27 v).been, shown := (nth w27 v).shown, timer := (nth w27 v).timer } : Held)) is bs } : Frame) v = provedF a0 (atN a0 a1 v) v := provedF_same s2.symm s3.symm
 refine ⟨⟨⟨F1.ll, fun _ => F1.ll⟩, fun _ => ⟨F1.ll, ?_⟩⟩, fun w47 hw47 => ?_⟩
 ·unfold impl_settle_C3 impl_settle_C2
  have FS := F1.setState 1
  refine ⟨⟨by show a1.occ.length ≤ _; omega, by show a1.points.length ≤ _; omega, ⟨FS.ok, ?_, fun b hb => by have := hlen b hb; omega⟩, hpre⟩, fun _ => ⟨FS.ll, (FS.setState 2).ll⟩⟩
  rw [List.length_set]; have := F1.vlen; omega
 have F2 : FamAt (atN a0 a1 v).ways is v (preH a0 a1 v) w47 bs := by
  rw [← hw47, hprv, F1.state]
  unfold preH
  simp only
  by_cases hb : (preA a0 a1 v).state = 1 ∨ (preA a0 a1 v).state = 2
  ·rw [if_pos hb, show (((preA a0 a1 v).state == 1) || ((preA a0 a1 v).state == 2)) = true by simpa using hb]
   cases hq : provedF a0 (atN a0 a1 v) v with
   | true => exact ((F1.setState 1).setState 2).setShown true
   | false => exact F1.setState 1
  ·rw [if_neg hb, show (((preA a0 a1 v).state == 1) || ((preA a0 a1 v).state == 2)) = false by simpa using hb]
   exact F1
 have hpb : (preH a0 a1 v).been.length = (secs a0 v).length := by rw [preH_been.1]; exact hbe
 have hs20 : (secs a0 v).length ≤ 1048576 := by omega
 refine ⟨⟨F2.ll, fun h4 => ?_⟩, fun h4 => ?_⟩
 ·rw [F2.state] at h4
  exact set_next hn hU hv F2 (by rw [hstep, if_neg (by simpa using h4)])
 have h4 : (preH a0 a1 v).state = 4 := by rw [F2.state] at h4; simpa using h4
 rw [if_pos h4] at hstep
 unfold impl_settle_C10
 intro _
 refine ⟨⟨up_start (len0 _), by rw [Int.toNat_zero, upBeen_0]; exact F2⟩, fun bs' k hJ => ⟨fun hk => ?_, fun hk => ?_⟩⟩
 ·-- let go of
  obtain ⟨hJ1, F3⟩ := hJ
  have hk' : ¬ k < ((secs a0 v).length : Int) := by
   have hk : decide (k < ((secs a0 v).length : Int)) = false := hk
   simpa using hk
  have k0 := hJ1.1
  rw [upBeen_end hpb (by omega)] at F3
  have hbn : (List.zipWith (fun b x => b || occAt (atN a0 a1 v) x) (preH a0 a1 v).been (secs a0 v)) = beenN a0 a1 v := rfl
  rw [hbn] at F3
  have hbnl : (beenN a0 a1 v).length = (secs a0 v).length := by unfold beenN; rw [List.length_zipWith]; omega
  have hpg : 0 ≤ (preH a0 a1 v).gone ∧ (preH a0 a1 v).gone ≤ (secs a0 v).length := by rw [preH_been.2, ← hbe]; exact hgo
  refine ⟨⟨(preH a0 a1 v).gone, goI_start hpg.1 hpg.2, F3⟩, fun ws' hL => ?_⟩
  obtain ⟨g, hgI, F4⟩ := hL
  unfold impl_settle_C7
  have e1 : (nth ws' v).gone = g := F4.gone
  have e2 : bs'.getD (nth is v) [] = beenN a0 a1 v := F4.been
  have e3 : (nth ws' v).been.length = (secs a0 v).length := F4.blen.trans hbnl
  have hcond : ∀ b, ((decide (g < ((nth a0.ways v).sections.length : Int))) && ((nth (beenN a0 a1 v) g) && ((!(nth ((idt a1).occ) (nth ((nth a0.ways v).sections) g))) && ((g == (IntKind.i64.wrap (((nth a0.ways v).sections.length : Int) - 1))) || (nth (beenN a0 a1 v) (IntKind.i64.wrap (g + 1))))))) = b → goCond (secs a0 v) (atN a0 a1 v) (beenN a0 a1 v) g = b := fun b hb => by
   unfold goCond
   rw [show (atN a0 a1 v).occ = a1.occ from s2]; exact hb
  have hgJ := hgI
  obtain ⟨g0, g1, -⟩ := hgJ
  rw [e1, e2]
  have hll := F4.ll
  have hid := F4.idlt
  have w1 : IntKind.i64.wrap (((nth a0.ways v).sections.length : Int) - 1) = ((secs a0 v).length : Int) - 1 := w64 (by show _ ≤ ((secs a0 v).length : Int) - 1; omega) (by show ((secs a0 v).length : Int) - 1 ≤ _; omega)
  refine ⟨⟨⟨hll, fun hc => ?_⟩, ?_⟩, fun hc => ?_⟩
  ·replace hc : decide (g < ((secs a0 v).length : Int)) = true := hc
   have hgl : g < ((secs a0 v).length : Int) := by simpa using hc
   refine ⟨hll, hll, ⟨hid, g0, by omega⟩, ⟨hid, by omega⟩, fun _ => ⟨hll, ⟨g0, by show g.toNat < (secs a0 v).length; omega⟩, hsin g g0 (by omega), fun _ => ⟨hll, fun hne => ?_⟩⟩⟩
   rw [w1] at hne
   have hne : ¬ g = ((secs a0 v).length : Int) - 1 := by simpa using hne
   have w2 : IntKind.i64.wrap (g + 1) = g + 1 := w64 (by omega) (by omega)
   rw [w2]
   exact ⟨hll, hll, ⟨hid, by omega, by omega⟩, hid, by omega⟩
  ·unfold impl_settle_C5 impl_settle_C4
   rw [e1, e2]
   intro hc
   have hE := goI_end hs20 hgI (hcond _ hc)
   refine ⟨hll, fun he => ⟨⟨hP, h0, by omega⟩, hll, ?_⟩, fun he => ?_⟩
   ·have he : g = ((secs a0 v).length : Int) := by
     have he : (g == ((secs a0 v).length : Int)) = true := he
     simpa using he
    refine set_next hn hU hv (h := idleH a0 v) (F4.new (idleH a0 v) ?_) ?_
    ·show (List.replicate (secs a0 v).length false).length ≤ _
     rw [List.length_replicate]; omega
    ·rw [hstep]
     unfold passH
     simp only
     rw [if_pos]
     ·rfl
     ·show goOn (secs a0 v) (atN a0 a1 v) (beenN a0 a1 v) (secs a0 v).length (preH a0 a1 v).gone.toNat = _
      omega
   ·have he : ¬ g = ((secs a0 v).length : Int) := by
     have he : (g == ((secs a0 v).length : Int)) = false := he
     simpa using he
    refine set_next hn hU hv F4 ?_
    rw [hstep]
    unfold passH
    simp only
    have hE : (goOn (secs a0 v) (atN a0 a1 v) (List.zipWith (fun b x => b || occAt (atN a0 a1 v) x) (preH a0 a1 v).been (secs a0 v)) (secs a0 v).length (preH a0 a1 v).gone.toNat : Int) = g := hE
    rw [if_neg (by omega), hE]
    rfl
  ·obtain ⟨hst, hgl⟩ := goI_step hs20 hgI (hcond _ hc)
   unfold impl_settle_C6
   rw [e1]
   have w2 : IntKind.i64.wrap (g + 1) = g + 1 := w64 (by omega) (by omega)
   have F5 := F4.setGone (IntKind.i64.wrap (g + 1))
   refine ⟨hll, hll, ⟨_, hst, F5⟩, ?_⟩
   have e5 : (nth (ws'.set v.toNat ({ state := (nth ws' v).state, gone := IntKind.i64.wrap (g + 1), been := (nth ws' v).been, shown := (nth ws' v).shown, timer := (nth ws' v).timer } : Held)) v).gone = IntKind.i64.wrap (g + 1) := F5.gone
   show (((secs a0 v).length : Int) - (nth (ws'.set v.toNat _) v).gone).toNat < (((secs a0 v).length : Int) - (nth ws' v).gone).toNat
   rw [e5, e1, w2]; omega
 ·-- where the train is
  obtain ⟨hJ1, F3⟩ := hJ
  replace hk : decide (k < ((secs a0 v).length : Int)) = true := hk
  have hkl : k < ((secs a0 v).length : Int) := by simpa using hk
  have k0 := hJ1.1
  have hub : (upBeen (secs a0 v) (atN a0 a1 v) (preH a0 a1 v).been k.toNat).length = (secs a0 v).length := by rw [upBeen_len hpb (by omega), hpb]
  have e2 : bs'.getD (nth is v) [] = upBeen (secs a0 v) (atN a0 a1 v) (preH a0 a1 v).been k.toNat := F3.been
  have e3 : (nth w47 v).been.length = (secs a0 v).length := F3.blen.trans hub
  have hll := F3.ll
  have hid := F3.idlt
  unfold impl_settle_C9 impl_settle_C8
  rw [e2]
  have A1 : (nth is v) < bs'.length ∧ (0 ≤ k ∧ k.toNat < (nth w47 v).been.length) := ⟨hid, k0, by omega⟩
  have A2 : (nth is v) < bs'.length ∧ k.toNat < (upBeen (secs a0 v) (atN a0 a1 v) (preH a0 a1 v).been k.toNat).length := ⟨hid, by omega⟩
  refine ⟨⟨hll, hll, A1, A2, fun _ => ⟨A1, A2⟩, fun _ => ⟨⟨k0, by show k.toNat < (secs a0 v).length; omega⟩, hsin k k0 (by omega), A1, A2⟩⟩, fun w103 hw => ?_⟩
  have hst := up_step (by omega) hJ1 hk rfl
  refine ⟨⟨hst.1, ?_⟩, hst.2⟩
  rw [wrap_up (by omega) k0 hkl, show (k + 1).toNat = k.toNat + 1 by omega, ← upBeen_step hpb (by omega), ← hw]
  have hat := upBeen_at (s := secs a0 v) (f := atN a0 a1 v) (b := (preH a0 a1 v).been) hpb (show k.toNat < _ by omega)
  rw [nth_toNat k0] at hat
  have F4 := F3.setB ((upBeen (secs a0 v) (atN a0 a1 v) (preH a0 a1 v).been k.toNat).set k.toNat ((preH a0 a1 v).been[k.toNat]'(by omega) || occAt (atN a0 a1 v) ((secs a0 v)[k.toNat]'(by omega)))) (by rw [List.length_set])
  have hocc : nth ((idt a1).occ) (nth ((nth a0.ways v).sections) k) = occAt (atN a0 a1 v) ((secs a0 v)[k.toNat]'(by omega)) := by
   unfold occAt
   rw [show (atN a0 a1 v).occ = a1.occ from s2, ← nth_eq (by omega)]; rfl
  rw [hat, hocc]
  cases hb : (preH a0 a1 v).been[k.toNat]'(by omega) with
  | true => rw [hb, Bool.true_or] at F4; exact F4
  | false => rw [hb, Bool.false_or] at F4; exact F4)
end Go.Proofs.Ytglpfccgmfhkdaa.Fw
