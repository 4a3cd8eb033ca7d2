/- Walks and summaries of functions, printed by a program of mine (tools/mk.py), with the proofs of what they owe. -/

import Derived.Test.YtglpfccgmfhkdaaProg
import Derived.Test.YtglpfccgmfhkdaaSpL
import Derived.Test.YtglpfccgmfhkdaaWkP
set_option linter.unusedVariables false
set_option maxRecDepth 100000
set_option maxHeartbeats 4000000
set_option linter.unusedSimpArgs false
namespace Go.Proofs.Ytglpfccgmfhkdaa.Fw
open Go
attribute [local irreducible] evS evSD WpS Weak Oper.looksAt
noncomputable def laws_wByte_b : Code := bodyC Try.f20
def laws_wByte_C (a0 : (List UInt8)) (a1 : Int) (res : Int) : Prop :=
 (a0.length ≤ 4611686018427387904 → ((a0.length : Int) == 0) = true → 0 = res) ∧ ((a0.length ≤ 4611686018427387904) ∧ ((!((a0.length : Int) == 0)) = true) → (((a0.length : Int) ≠ 0) ∧ (0 ≤ (a1.tmod (a0.length : Int)) ∧ (a1.tmod (a0.length : Int)).toNat < a0.length)) ∧ ((IntKind.i64.wrap (((nth a0 (a1.tmod (a0.length : Int))).toNat : Int))) = res))
theorem laws_wByte_walk (a0 : (List UInt8)) (a1 : Int) (res : Int) (h : laws_wByte_C a0 a1 res) : FnV Try.prog 20 [al eU8 a0, ai a1] (ai res) := by
 unfold laws_wByte_C at h
 refine FnS.go (fn := Try.f20) [(0, al eU8 a0), (1, ai a1)] Try.func20 ?_
 show WpS _ (nv laws_wByte_b 1) _ ⟨mkS 16 [(0, al eU8 a0), (1, ai a1)], [], []⟩
 refine cRM [] 0 [(4, ai 0)] [] [2] ?_
 obtain ⟨q12, h⟩ := h
 refine cSeqM [] [2] ((a0.length ≤ 4611686018427387904) ∧ ((!((a0.length : Int) == 0)) = true)) ?_ (fun q2 => ?_)
 ·
  replace h := q12
  refine cSeqM [(7, ab ((a0.length : Int) == 0))] [2] (a0.length ≤ 4611686018427387904) ?_ (fun q3 => ?_)
  ·
   refine rgS [] 1 ?_
   refine sLen 2 (some 6) [(5, al eU8 a0)] eU8 a0 (fun q4 => ?_)
   exact sEJ [(7, ab ((a0.length : Int) == 0))] q4
  replace h := h q3
  refine cCond1 (fun q5 => ?_) (fun q5 => ?_)
  ·
   replace h := h q5
   refine cRM [] 2 [(4, ai 0)] [1] [] ?_
   exact cRet (QJoin.ret (rt1 (ai 0) (SnapR3.of1 (sr_int h))))
  ·
   refine cSkip ?_
   exact QJoin.normal ⟨q3, (by simp only [q5] <;> rfl)⟩ wkJ
 replace h := h q2
 obtain ⟨q11, h⟩ := h
 refine cSeqM [(4, ai (IntKind.i64.wrap (((nth a0 (a1.tmod (a0.length : Int))).toNat : Int))))] [] (True) ?_ (fun q7 => ?_)
 ·
  replace h := q11
  refine rgS [] 3 ?_
  refine sLen 4 (some 11) [(10, al eU8 a0), (9, ai a1), (8, al eU8 a0)] eU8 a0 (fun q8 => ?_)
  obtain ⟨q10, h⟩ := h
  refine sAnd 1 (some 12) (ai (a1.tmod (a0.length : Int))) [] q10 ?_
  have q9 := h
  refine sIdx 1 (some 13) [] eU8 a0 1 q9 ?_
  exact sEJ [(4, ai (IntKind.i64.wrap (((nth a0 (a1.tmod (a0.length : Int))).toNat : Int)))), (15, ai (IntKind.i64.wrap (((nth a0 (a1.tmod (a0.length : Int))).toNat : Int)))), (14, .int .u8 ((nth a0 (a1.tmod (a0.length : Int))).toNat : Int))] trivial
 exact cRet (rt1 (ai (IntKind.i64.wrap (((nth a0 (a1.tmod (a0.length : Int))).toNat : Int)))) (SnapR3.of1 (sr_int h)))
theorem laws_wByte_V (a0 : (List UInt8)) (a1 : Int) (hp : wBytePre a0 a1) : FnV Try.prog 20 [al eU8 a0, ai a1] (ai (wByte a0 a1)) := laws_wByte_walk a0 a1 (wByte a0 a1) (by
 obtain ⟨hl, h0⟩ := hp
 unfold laws_wByte_C
 refine ⟨fun _ h => ?_, fun ⟨_, h⟩ => ?_⟩
 ·have h : a0.length = 0 := by simpa using h
  unfold wByte; rw [if_pos (List.length_eq_zero_iff.1 h)]
 ·have h : ¬ a0.length = 0 := by simpa using h
  have hr := Int.emod_lt_of_pos a1 (show (0 : Int) < (a0.length : Int) by omega)
  have hn := Int.emod_nonneg a1 (show ((a0.length : Int)) ≠ 0 by omega)
  have e : a1.tmod (a0.length : Int) = a1 % (a0.length : Int) := Int.tmod_eq_emod_of_nonneg h0
  refine ⟨⟨by omega, by omega, by omega⟩, ?_⟩
  unfold wByte; rw [if_neg (fun e => h (by rw [e]; rfl))]
  have := (nth a0 (a1.tmod a0.length)).toNat_lt
  exact w64 (by omega) (by omega))
noncomputable def spec_MadeWay_b : Code := bodyC Try.f21
def spec_MadeWay_C1 (I1 : Nat → (List Int) → Int → Nat → Nat → (List Lie) → (List Int) → Int → Prop) (m1 : Nat → (List Int) → Int → Nat → Nat → (List Lie) → (List Int) → Int → Nat) (g0 : Nat) (x0 : (List Int)) (v9 : Int) (g1 g2 : Nat) (x1 : (List Lie)) (x2 : (List Int)) (v10 : Int) : Prop :=
  (((x2.length + [v10].length) * 8 ≤ 140737488355328 ∧ x2.length + [v10].length ≤ 4611686018427387904) ∧ ((x1.length + [(Lie.mk v10 2)].length) * 16 ≤ 140737488355328 ∧ x1.length + [(Lie.mk v10 2)].length ≤ 4611686018427387904)) ∧ (I1 g0 x0 v9 (g1 + 1) (g2 + 1) (x1 ++ [(Lie.mk v10 2)]) (x2 ++ [v10]) (IntKind.i64.wrap (v10 + 1)) ∧ m1 g0 x0 v9 (g1 + 1) (g2 + 1) (x1 ++ [(Lie.mk v10 2)]) (x2 ++ [v10]) (IntKind.i64.wrap (v10 + 1)) < m1 g0 x0 v9 g1 g2 x1 x2 v10)
def spec_MadeWay_C2 (I1 : Nat → (List Int) → Int → Nat → Nat → (List Lie) → (List Int) → Int → Prop) (m1 : Nat → (List Int) → Int → Nat → Nat → (List Lie) → (List Int) → Int → Nat) (a0 a1 a2 : Int) (res : Plan) (g0 : Nat) (x0 : (List Int)) (v9 : Int) : Prop :=
  I1 g0 x0 v9 0 0 ([] : List Lie) ([] : List Int) 0 ∧ ∀ (g1 : Nat) (g2 : Nat) (x1 : (List Lie)) (x2 : (List Int)) (v10 : Int), I1 g0 x0 v9 g1 g2 x1 x2 v10 → (((decide (v10 < a1)) = false → ((IntKind.i64.wrap (a0 + 1)) = res.sections) ∧ (x2.length ≤ 4611686018427387904 ∧ x2 = res.switches) ∧ (x0.length ≤ 4611686018427387904 ∧ x1.length ≤ 4611686018427387904 ∧ [(Way.mk x0 x1 [] [] [a0])] = res.ways) ∧ ([[true]] = res.bars) ∧ (a2 = res.hold)) ∧ ((decide (v10 < a1)) = true → spec_MadeWay_C1 I1 m1 g0 x0 v9 g1 g2 x1 x2 v10))
def spec_MadeWay_C3 (I0 : Nat → (List Int) → Int → Prop) (m0 : Nat → (List Int) → Int → Nat) (I1 : Nat → (List Int) → Int → Nat → Nat → (List Lie) → (List Int) → Int → Prop) (m1 : Nat → (List Int) → Int → Nat → Nat → (List Lie) → (List Int) → Int → Nat) (a0 a1 a2 : Int) (res : Plan) : Prop :=
  I0 0 ([] : List Int) 0 ∧ ∀ (g0 : Nat) (x0 : (List Int)) (v9 : Int), I0 g0 x0 v9 → (((decide (v9 < a0)) = false → spec_MadeWay_C2 I1 m1 a0 a1 a2 res g0 x0 v9) ∧ ((decide (v9 < a0)) = true → ((x0.length + [v9].length) * 8 ≤ 140737488355328 ∧ x0.length + [v9].length ≤ 4611686018427387904) ∧ (I0 (g0 + 1) (x0 ++ [v9]) (IntKind.i64.wrap (v9 + 1)) ∧ m0 (g0 + 1) (x0 ++ [v9]) (IntKind.i64.wrap (v9 + 1)) < m0 g0 x0 v9)))
def spec_MadeWay_C (a0 : Int) (a1 : Int) (a2 : Int) (res : Plan) (I0 : Nat → (List Int) → Int → Prop) (m0 : Nat → (List Int) → Int → Nat) (I1 : Nat → (List Int) → Int → Nat → Nat → (List Lie) → (List Int) → Int → Prop) (m1 : Nat → (List Int) → Int → Nat → Nat → (List Lie) → (List Int) → Int → Nat) : Prop :=
 spec_MadeWay_C3 I0 m0 I1 m1 a0 a1 a2 res
theorem spec_MadeWay_walk (a0 : Int) (a1 : Int) (a2 : Int) (res : Plan) (I0 : Nat → (List Int) → Int → Prop) (m0 : Nat → (List Int) → Int → Nat) (I1 : Nat → (List Int) → Int → Nat → Nat → (List Lie) → (List Int) → Int → Prop) (m1 : Nat → (List Int) → Int → Nat → Nat → (List Lie) → (List Int) → Int → Nat) (h : spec_MadeWay_C a0 a1 a2 res I0 m0 I1 m1) : FnV Try.prog 21 [ai a0, ai a1, ai a2] (.agg (ePlan true res)) := by
 unfold spec_MadeWay_C at h
 refine FnS.go (fn := Try.f21) [(0, ai a0), (1, ai a1), (2, ai a2)] Try.func21 ?_
 show WpS _ (nv spec_MadeWay_b 1) _ ⟨mkS 53 [(0, ai a0), (1, ai a1), (2, ai a2)], [], []⟩
 refine cRN [] 0 [(6, ap 6 0)] [1] [3] [(6, [ai 0, an, an, an, ai 0])] [] ?_
 refine cRE [] 1 [(7, ap 7 0), (16, .agg [ai (IntKind.i64.wrap (a0 + 1)), an, an, .lst (List.map (eL eBool false) ([[true]])) true true, ai a2]), (15, .lst (List.map (eL eBool false) ([[true]])) true true), (14, .lst (List.map eBool [true]) true true), (13, ai a2), (12, ai (IntKind.i64.wrap (a0 + 1))), (11, ai a0)] [1] [3] (fun L => (7, [ai (IntKind.i64.wrap (a0 + 1)), an, an, .lst (List.map (eL eBool false) ([[true]])) true true, ai a2]) :: L) id ?_
 refine cRE [] 2 [(8, ap 8 0), (19, .agg [an, an, an, an, .lst (List.map eInt [a0]) true true]), (18, .lst (List.map eInt [a0]) true true), (17, ai a0)] [1] [4] (fun L => (8, [an, an, an, an, .lst (List.map eInt [a0]) true true]) :: L) id ?_
 refine cSeq ?_
 refine cRM [] 3 [(9, ai 0)] [1] [5] ?_
 unfold spec_MadeWay_C3 at h
 refine cBlock 0 ?_
 refine WpS.weak ?_ (weak_eq (s'' := ⟨(mkS 53 [(9, ai 0), (8, ap 8 0), (7, ap 7 0), (6, ap 6 0), (0, ai a0), (1, ai a1)]), [(8, [rf 0 0 (([] : List Int).length), an, an, an, .lst (List.map eInt [a0]) true true]), (7, [ai (IntKind.i64.wrap (a0 + 1)), an, an, .lst (List.map (eL eBool false) ([[true]])) true true, ai a2]), (6, [ai 0, an, an, an, ai 0])], [⟨0, 1, List.map eInt ([] : List Int)⟩]⟩) (Weak.adoptL (T := (mkS 53 [(9, ai 0), (8, ap 8 0), (7, ap 7 0), (6, ap 6 0), (0, ai a0), (1, ai a1)])) (L := [(8, [an, an, an, an, .lst (List.map eInt [a0]) true true]), (7, [ai (IntKind.i64.wrap (a0 + 1)), an, an, .lst (List.map (eL eBool false) ([[true]])) true true, ai a2]), (6, [ai 0, an, an, an, ai 0])]) (H := []) (cells := [an, an, an, an, .lst (List.map eInt [a0]) true true]) 8 0 1 (by kernel_rfl) (by kernel_rfl)) (by kernel_rfl))
 obtain ⟨q26, h⟩ := h
 refine cLoop (fun (v : Nat × (List Int) × Int) => (⟨(mkS 53 [(0, ai a0), (1, ai a1), (6, ap 6 0), (7, ap 7 0), (8, ap 8 0), (9, ai (v.2.2))]), [(8, [rf 0 (v.1) ((v.2.1).length), an, an, an, .lst (List.map eInt [a0]) true true]), (7, [ai (IntKind.i64.wrap (a0 + 1)), an, an, .lst (List.map (eL eBool false) ([[true]])) true true, ai a2]), (6, [ai 0, an, an, an, ai 0])], [⟨(v.1), 1, List.map eInt (v.2.1)⟩]⟩ : St)) (fun (v : Nat × (List Int) × Int) => I0 (v.1) (v.2.1) (v.2.2)) (fun (v : Nat × (List Int) × Int) => m0 (v.1) (v.2.1) (v.2.2)) (0, ([] : List Int), 0) (wkL []) q26 (fun v hI => ?_)
 obtain ⟨g0, x0, v9⟩ := v
 replace h := h g0 x0 v9 hI
 dsimp only
 obtain ⟨q25, h⟩ := h
 refine cSeqM [] [6] ((decide (v9 < a0)) = true) ?_ (fun q5 => ?_)
 ·
  replace h := q25
  refine cRM [] 4 [(22, ab (decide (v9 < a0))), (21, ai a0), (20, ai v9)] [1] [6] ?_
  refine cCond1 (fun q7 => ?_) (fun q7 => ?_)
  ·
   refine cSkip ?_
   exact QJoin.normal (by simp only [q7] <;> rfl) wkJ
  ·
   replace h := h q7
   refine cExit 0 ?_
   refine QJoin.exit ?_
   refine QRound.exit ?_
   refine QBlock.here ?_
   refine QSeq.normal ?_
   refine cSeq ?_
   refine cSeqG ⟨(mkS 53 [(1, ai a1), (6, ap 6 0), (7, ap 7 0), (8, ap 8 0), (10, ai 0)]), [(8, [rf 0 g0 x0.length, an, an, an, .lst (List.map eInt [a0]) true true]), (7, [ai (IntKind.i64.wrap (a0 + 1)), an, an, .lst (List.map (eL eBool false) ([[true]])) true true, ai a2]), (6, [ai 0, an, an, an, ai 0])], [⟨g0, 1, List.map eInt x0⟩]⟩ (True) ?_ (fun q8 => ?_)
   ·
    refine rgS [] 7 ?_
    exact sEJ [(10, ai 0)] trivial
   unfold spec_MadeWay_C2 at h
   refine cBlock 2 ?_
   refine WpS.weak ?_ (weak_eq (s'' := ⟨(mkS 53 [(1, ai a1), (6, ap 6 0), (7, ap 7 0), (8, ap 8 0), (10, ai 0)]), [(8, [rf 0 g0 x0.length, rf 1 0 (([] : List Lie).length), an, an, .lst (List.map eInt [a0]) true true]), (7, [ai (IntKind.i64.wrap (a0 + 1)), an, an, .lst (List.map (eL eBool false) ([[true]])) true true, ai a2]), (6, [ai 0, an, an, an, ai 0])], [⟨g0, 1, List.map eInt x0⟩, ⟨0, 2, List.map eLie ([] : List Lie)⟩]⟩) (Weak.adoptL (T := (mkS 53 [(1, ai a1), (6, ap 6 0), (7, ap 7 0), (8, ap 8 0), (10, ai 0)])) (L := [(8, [rf 0 g0 x0.length, an, an, an, .lst (List.map eInt [a0]) true true]), (7, [ai (IntKind.i64.wrap (a0 + 1)), an, an, .lst (List.map (eL eBool false) ([[true]])) true true, ai a2]), (6, [ai 0, an, an, an, ai 0])]) (H := [⟨g0, 1, List.map eInt x0⟩]) (cells := [rf 0 g0 x0.length, an, an, an, .lst (List.map eInt [a0]) true true]) 8 1 2 (by kernel_rfl) (by kernel_rfl)) (by kernel_rfl))
   refine WpS.weak ?_ (weak_eq (s'' := ⟨(mkS 53 [(1, ai a1), (6, ap 6 0), (7, ap 7 0), (8, ap 8 0), (10, ai 0)]), [(8, [rf 0 g0 x0.length, rf 1 0 (([] : List Lie).length), an, an, .lst (List.map eInt [a0]) true true]), (7, [ai (IntKind.i64.wrap (a0 + 1)), rf 2 0 (([] : List Int).length), an, .lst (List.map (eL eBool false) ([[true]])) true true, ai a2]), (6, [ai 0, an, an, an, ai 0])], [⟨g0, 1, List.map eInt x0⟩, ⟨0, 2, List.map eLie ([] : List Lie)⟩, ⟨0, 1, List.map eInt ([] : List Int)⟩]⟩) (Weak.adoptL (T := (mkS 53 [(1, ai a1), (6, ap 6 0), (7, ap 7 0), (8, ap 8 0), (10, ai 0)])) (L := [(8, [rf 0 g0 x0.length, rf 1 0 (([] : List Lie).length), an, an, .lst (List.map eInt [a0]) true true]), (7, [ai (IntKind.i64.wrap (a0 + 1)), an, an, .lst (List.map (eL eBool false) ([[true]])) true true, ai a2]), (6, [ai 0, an, an, an, ai 0])]) (H := [⟨g0, 1, List.map eInt x0⟩, ⟨0, 2, List.map eLie ([] : List Lie)⟩]) (cells := [ai (IntKind.i64.wrap (a0 + 1)), an, an, .lst (List.map (eL eBool false) ([[true]])) true true, ai a2]) 7 1 1 (by kernel_rfl) (by kernel_rfl)) (by kernel_rfl))
   obtain ⟨q21, h⟩ := h
   refine cLoop (fun (v : Nat × Nat × (List Lie) × (List Int) × Int) => (⟨(mkS 53 [(1, ai a1), (6, ap 6 0), (7, ap 7 0), (8, ap 8 0), (10, ai (v.2.2.2.2))]), [(8, [rf 0 g0 x0.length, rf 1 (v.1) ((v.2.2.1).length), an, an, .lst (List.map eInt [a0]) true true]), (7, [ai (IntKind.i64.wrap (a0 + 1)), rf 2 (v.2.1) ((v.2.2.2.1).length), an, .lst (List.map (eL eBool false) ([[true]])) true true, ai a2]), (6, [ai 0, an, an, an, ai 0])], [⟨g0, 1, List.map eInt x0⟩, ⟨(v.1), 2, List.map eLie (v.2.2.1)⟩, ⟨(v.2.1), 1, List.map eInt (v.2.2.2.1)⟩]⟩ : St)) (fun (v : Nat × Nat × (List Lie) × (List Int) × Int) => I1 g0 x0 v9 (v.1) (v.2.1) (v.2.2.1) (v.2.2.2.1) (v.2.2.2.2)) (fun (v : Nat × Nat × (List Lie) × (List Int) × Int) => m1 g0 x0 v9 (v.1) (v.2.1) (v.2.2.1) (v.2.2.2.1) (v.2.2.2.2)) (0, 0, ([] : List Lie), ([] : List Int), 0) (wkL []) q21 (fun v hI => ?_)
   obtain ⟨g1, g2, x1, x2, v10⟩ := v
   replace h := h g1 g2 x1 x2 v10 hI
   dsimp only
   obtain ⟨q20, h⟩ := h
   refine cSeqM [] [5] ((decide (v10 < a1)) = true) ?_ (fun q9 => ?_)
   ·
    replace h := q20
    refine cRM [] 8 [(33, ab (decide (v10 < a1))), (32, ai a1), (31, ai v10)] [1] [5] ?_
    refine cCond1 (fun q11 => ?_) (fun q11 => ?_)
    ·
     refine cSkip ?_
     exact QJoin.normal (by simp only [q7, q11] <;> rfl) wkJ
    ·
     replace h := h q11
     refine cExit 2 ?_
     refine QJoin.exit ?_
     refine QRound.exit ?_
     refine QBlock.here ?_
     refine QSeq.normal ?_
     refine cSeqG ⟨(mkS 53 [(6, ap 6 0), (7, ap 7 0)]), [(8, [rf 0 g0 x0.length, rf 1 g1 x1.length, an, an, .lst (List.map eInt [a0]) true true]), (7, [ai (IntKind.i64.wrap (a0 + 1)), rf 2 g2 x2.length, .ref 3 0 0 1 true, .lst (List.map (eL eBool false) ([[true]])) true true, ai a2]), (6, [ai 0, an, an, an, ai 0])], [⟨g0, 1, List.map eInt x0⟩, ⟨g1, 2, List.map eLie x1⟩, ⟨g2, 1, List.map eInt x2⟩, ⟨0, 5, [[rf 0 g0 x0.length, rf 1 g1 x1.length, an, an, .lst (List.map eInt [a0]) true true]]⟩]⟩ (True) ?_ (fun q12 => ?_)
     ·
      refine rgS [] 12 ?_
      exact sEJ [(51, ap 7 2), (50, .ref 3 0 0 1 true), (49, .agg [rf 0 g0 x0.length, rf 1 g1 x1.length, an, an, .lst (List.map eInt [a0]) true true])] trivial
     refine cRE [] 13 [(52, .agg [ai (IntKind.i64.wrap (a0 + 1)), rf 2 g2 x2.length, .ref 3 0 0 1 true, .lst (List.map (eL eBool false) ([[true]])) true true, ai a2])] [] [1] (fun L => er 2 [ai (IntKind.i64.wrap (a0 + 1)), rf 2 g2 x2.length, .ref 3 0 0 1 true, .lst (List.map (eL eBool false) ([[true]])) true true, ai a2] L) id ?_
     exact cRet (rt1 (.agg [ai (IntKind.i64.wrap (a0 + 1)), rf 2 g2 x2.length, .ref 3 0 0 1 true, .lst (List.map (eL eBool false) ([[true]])) true true, ai a2]) (SnapR3.agg (PW.cons (sr_int h.1) (PW.cons (sr_blk' (sz := 1) (by simp) rfl (cInt) h.2.1) (PW.cons ((fun q : x0.length ≤ 4611686018427387904 ∧ x1.length ≤ 4611686018427387904 ∧ [(Way.mk x0 x1 [] [] [a0])] = res.ways => sr_row (enc := eWay) (y := (Way.mk x0 x1 [] [] [a0])) rfl (PW.cons (sr_blk' (sz := 1) (by simp) rfl (cInt) ⟨q.1, rfl⟩) (PW.cons (sr_blk' (sz := 2) (by simp) rfl (cLie) ⟨q.2.1, rfl⟩) (PW.cons (sr_nil rfl) (PW.cons (sr_nil rfl) (PW.cons (sr_lst rfl) PW.nil))))) rfl q.2.2) h.2.2.1) (PW.cons (sr_lst h.2.2.2.1) (PW.cons (sr_int h.2.2.2.2) PW.nil)))))))
   replace h := h q9
   unfold spec_MadeWay_C1 at h
   obtain ⟨q19, h⟩ := h
   refine cSeqE [] [5] (fun L => ed 1 1 (rf 2 (g2 + 1) ((x2 ++ [v10]).length)) (ed 0 1 (rf 1 (g1 + 1) ((x1 ++ [(Lie.mk v10 2)]).length)) L)) (fun H => bk 2 ⟨(g2 + 1), 1, List.map eInt (x2 ++ [v10])⟩ (bk 1 ⟨(g1 + 1), 2, List.map eLie (x1 ++ [(Lie.mk v10 2)])⟩ H)) (True) ?_ (fun q14 => ?_)
   ·
    replace h := q19
    refine cBlock 3 ?_
    obtain ⟨q18, h⟩ := h
    refine cSeqE [] [5] (fun L => ed 1 1 (rf 2 (g2 + 1) ((x2 ++ [v10]).length)) L) (fun H => bk 2 ⟨(g2 + 1), 1, List.map eInt (x2 ++ [v10])⟩ H) (True) ?_ (fun q15 => ?_)
    ·
     replace h := q18
     refine rgS [] 10 ?_
     have q16 := h
     refine sApp 5 (some 40) [(39, .lst (List.map eInt [v10]) true true), (38, ai v10), (37, rf 2 g2 x2.length), (36, ap 7 1)] eInt x2 [v10] (refrs true (List.map eInt [v10])) 2 g2 1 8 (fun r => [⟨g0, 1, List.map eInt x0⟩, ⟨g1, 2, List.map eLie x1⟩, ⟨(g2 + 1), 1, r⟩]) rfl q16 ?_
     exact sEJ [(41, ap 7 1)] trivial
    refine rgS [] 11 ?_
    have q17 := h
    refine sApp 6 (some 47) [(46, .lst (List.map eLie [(Lie.mk v10 2)]) true true), (45, .agg [ai v10, ai 2]), (44, ai v10), (43, rf 1 g1 x1.length), (42, ap 8 1)] eLie x1 [(Lie.mk v10 2)] (refrs true (List.map eLie [(Lie.mk v10 2)])) 1 g1 2 16 (fun r => [⟨g0, 1, List.map eInt x0⟩, ⟨(g1 + 1), 2, r⟩, ⟨(g2 + 1), 1, List.map eInt (x2 ++ [v10])⟩]) rfl q17 ?_
    refine sEnd' [(48, ap 8 1)] [(8, [rf 0 g0 x0.length, rf 1 (g1 + 1) ((x1 ++ [(Lie.mk v10 2)]).length), an, an, .lst (List.map eInt [a0]) true true]), (7, [ai (IntKind.i64.wrap (a0 + 1)), rf 2 (g2 + 1) ((x2 ++ [v10]).length), an, .lst (List.map (eL eBool false) ([[true]])) true true, ai a2]), (6, [ai 0, an, an, an, ai 0])] [⟨g0, 1, List.map eInt x0⟩, ⟨(g1 + 1), 2, List.map eLie (x1 ++ [(Lie.mk v10 2)])⟩, ⟨(g2 + 1), 1, List.map eInt (x2 ++ [v10])⟩] ?_
    refine QBlock.normal ?_
    exact QJoin.normal trivial wkJ
   refine rgS [] 9 ?_
   refine sEnd [(10, ai (IntKind.i64.wrap (v10 + 1))), (35, ai (IntKind.i64.wrap (v10 + 1))), (34, ai v10)] ?_
   exact QRound.again ((g1 + 1), (g2 + 1), (x1 ++ [(Lie.mk v10 2)]), (x2 ++ [v10]), (IntKind.i64.wrap (v10 + 1))) h (wkL [])
 replace h := h q5
 obtain ⟨q24, h⟩ := h
 refine cSeqE [] [6] (fun L => ed 0 0 (rf 0 (g0 + 1) ((x0 ++ [v9]).length)) L) (fun H => bk 0 ⟨(g0 + 1), 1, List.map eInt (x0 ++ [v9])⟩ H) (True) ?_ (fun q22 => ?_)
 ·
  replace h := q24
  refine cBlock 1 ?_
  refine rgS [] 6 ?_
  have q23 := h
  refine sApp 5 (some 29) [(28, .lst (List.map eInt [v9]) true true), (27, ai v9), (26, rf 0 g0 x0.length), (25, ap 8 0)] eInt x0 [v9] (refrs true (List.map eInt [v9])) 0 g0 1 8 (fun r => [⟨(g0 + 1), 1, r⟩]) rfl q23 ?_
  refine sEnd' [(30, ap 8 0)] [(8, [rf 0 (g0 + 1) ((x0 ++ [v9]).length), an, an, an, .lst (List.map eInt [a0]) true true]), (7, [ai (IntKind.i64.wrap (a0 + 1)), an, an, .lst (List.map (eL eBool false) ([[true]])) true true, ai a2]), (6, [ai 0, an, an, an, ai 0])] [⟨(g0 + 1), 1, List.map eInt (x0 ++ [v9])⟩] ?_
  refine QBlock.normal ?_
  exact QJoin.normal trivial wkJ
 refine rgS [] 5 ?_
 refine sEnd [(9, ai (IntKind.i64.wrap (v9 + 1))), (24, ai (IntKind.i64.wrap (v9 + 1))), (23, ai v9)] ?_
 exact QRound.again ((g0 + 1), (x0 ++ [v9]), (IntKind.i64.wrap (v9 + 1))) h (wkL [])
theorem spec_MadeWay_V (a0 : Int) (a1 : Int) (a2 : Int) (hp : madePre a0 a1 a2) : FnV Try.prog 21 [ai a0, ai a1, ai a2] (.agg (ePlan true (madeWay a0 a1 a2))) := spec_MadeWay_walk a0 a1 a2 (madeWay a0 a1 a2) (fun _ x v => upI a0 (fun _ => false) v ∧ x = ints v.toNat) (fun _ _ v => upM a0 v) (fun _ x _ _ _ y z v => x = ints a0.toNat ∧ upI a1 (fun _ => false) v ∧ z = ints v.toNat ∧ y = (ints v.toNat).map fun i => ⟨i, 2⟩) (fun _ _ _ _ _ _ _ v => upM a1 v) (by
 obtain ⟨h0, h1, h2, h3⟩ := hp
 unfold spec_MadeWay_C spec_MadeWay_C3
 refine ⟨⟨up_start h0, rfl⟩, fun g x v hI => ?_⟩
 obtain ⟨hI, rfl⟩ := hI
 have hv0 := hI.1
 have hvn := hI.2.1
 refine ⟨fun hv => ?_, fun hv => ⟨⟨?_, ?_⟩, ⟨(up_step (by omega) hI hv rfl).1, ?_⟩, (up_step (by omega) hI hv rfl).2⟩⟩
 ·have hv : ¬ v < a0 := by simpa using hv
  have e : v = a0 := by omega
  subst e
  unfold spec_MadeWay_C2
  refine ⟨⟨rfl, up_start h2, rfl, rfl⟩, fun g1 g2 y z k hJ => ?_⟩
  obtain ⟨_, hJ, rfl, rfl⟩ := hJ
  have hk0 := hJ.1
  have hkn := hJ.2.1
  refine ⟨fun hk => ?_, fun hk => ?_⟩
  ·have hk : ¬ k < a1 := by simpa using hk
   have e : k = a1 := by omega
   subst e
   refine ⟨rfl, ⟨by rw [ints_len]; omega, rfl⟩, ⟨by rw [ints_len]; omega, by rw [List.length_map, ints_len]; omega, rfl⟩, rfl, rfl⟩
  ·have hk' : k < a1 := by simpa using hk
   unfold spec_MadeWay_C1
   have hw := wrap_up (show a1 ≤ 4611686018427387904 by omega) hk0 hk'
   refine ⟨⟨⟨?_, ?_⟩, ?_, ?_⟩, ⟨rfl, (up_step (by omega) hJ hk rfl).1, ?_, ?_⟩, (up_step (by omega) hJ hk rfl).2⟩
   ·rw [ints_len, List.length_singleton]; omega
   ·rw [ints_len, List.length_singleton]; omega
   ·rw [List.length_map, ints_len, List.length_singleton]; omega
   ·rw [List.length_map, ints_len, List.length_singleton]; omega
   ·rw [hw, show (k + 1).toNat = k.toNat + 1 by omega, ints_s, Int.toNat_of_nonneg hk0]
   ·rw [hw, show (k + 1).toNat = k.toNat + 1 by omega, ints_s, Int.toNat_of_nonneg hk0, List.map_append]; rfl
 ·rw [ints_len, List.length_singleton]; omega
 ·rw [ints_len, List.length_singleton]; omega
 ·rw [wrap_up (show a0 ≤ 4611686018427387904 by omega) hv0 (by simpa using hv), show (v + 1).toNat = v.toNat + 1 by omega, ints_s, Int.toNat_of_nonneg hv0])
end Go.Proofs.Ytglpfccgmfhkdaa.Fw
