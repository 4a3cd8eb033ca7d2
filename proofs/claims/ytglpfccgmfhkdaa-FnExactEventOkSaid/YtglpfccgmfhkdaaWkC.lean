/- Walks and summaries of functions, printed by a program of mine (tools/mk.py), with the proofs of what they owe. -/
import Derived.Test.YtglpfccgmfhkdaaProg
import Derived.Test.YtglpfccgmfhkdaaSpC
import Derived.Test.YtglpfccgmfhkdaaWkA
import Derived.Test.YtglpfccgmfhkdaaWkB
set_option linter.unusedVariables false
set_option maxRecDepth 100000
set_option linter.unusedSimpArgs false
namespace Go.Proofs.Ytglpfccgmfhkdaa.Fw
open Go
attribute [local irreducible] evS evSD WpS Weak Oper.looksAt
noncomputable def spec_PlanOk_b : Code := bodyC Try.f24
def spec_PlanOk_o29 : List Item := [⟨0, true, true, []⟩, ⟨1, true, true, []⟩, ⟨2, true, true, []⟩, ⟨3, true, true, []⟩, ⟨4, true, true, []⟩, ⟨5, true, true, []⟩, ⟨6, true, true, []⟩, ⟨7, true, true, []⟩, ⟨8, true, true, []⟩, ⟨9, true, true, []⟩, ⟨10, true, true, []⟩, ⟨11, true, true, []⟩, ⟨12, true, true, []⟩, ⟨13, true, true, []⟩, ⟨14, true, true, []⟩, ⟨15, true, true, []⟩, ⟨16, true, true, []⟩, ⟨17, true, true, []⟩, ⟨18, true, true, []⟩, ⟨19, true, true, []⟩, ⟨20, true, true, []⟩, ⟨21, true, true, []⟩, ⟨22, true, true, []⟩, ⟨23, true, true, []⟩, ⟨24, true, true, []⟩, ⟨25, true, true, []⟩, ⟨26, true, true, []⟩, ⟨27, true, true, []⟩, ⟨28, true, true, []⟩, ⟨29, true, true, []⟩, ⟨30, true, true, []⟩, ⟨31, true, true, []⟩, ⟨32, true, true, []⟩, ⟨33, true, true, []⟩]
def spec_PlanOk_o29a : List (List Nat) := [[], [], [1], [], [1, 2, 3], [1, 2, 3, 4], [], [1, 2, 3, 4, 5, 6], [1, 2, 3, 4, 5, 6, 7], [0, 1, 2, 3, 4, 5, 6, 7, 8], [0, 1, 2, 3, 4, 5, 6, 7, 8, 9], [0, 1, 2, 3, 4, 5, 6, 7, 8, 9, 10], [0, 1, 2, 3, 4, 5, 6, 7, 8, 9, 10], [0, 1, 2, 3, 4, 5, 6, 7, 8, 9, 10, 11, 12], [0, 1, 2, 3, 4, 5, 6, 7, 8, 9, 10, 11, 12, 13], [0, 1, 2, 3, 4, 5, 6, 7, 8, 9, 10, 11, 12, 13, 14], [0, 1, 2, 3, 4, 5, 6, 7, 8, 9, 10, 11, 12, 13, 14, 15], [0, 1, 2, 3, 4, 5, 6, 7, 8, 9, 10, 11, 12, 13, 14, 15, 16], [0, 1, 2, 3, 4, 5, 6, 7, 8, 9, 10, 11, 12, 13, 14, 15, 16, 17], [0, 1, 2, 3, 4, 5, 6, 7, 8, 9, 10, 11, 12, 13, 14, 15, 16, 17, 18], [0, 1, 2, 3, 4, 5, 6, 7, 8, 9, 10, 11, 12, 13, 14, 15, 16, 17, 18, 19], [0, 1, 2, 3, 4, 5, 6, 7, 8, 9, 10, 11, 12, 13, 14, 15, 16, 17, 18], [0, 1, 2, 3, 4, 5, 6, 7, 8, 9, 10, 11, 12, 13, 14, 15, 16, 17, 18, 19, 20, 21], [0, 1, 2, 3, 4, 5, 6, 7, 8, 9, 10, 11, 12, 13, 14, 15, 16, 17, 18, 19, 20, 21, 22], [0, 1, 2, 3, 4, 5, 6, 7, 8, 9, 10, 11, 12, 13, 14, 15, 16, 17, 18, 19, 20, 21, 22, 23], [0, 1, 2, 3, 4, 5, 6, 7, 8, 9, 10, 11, 12, 13, 14, 15, 16, 17, 18], [0, 1, 2, 3, 4, 5, 6, 7, 8, 9, 10, 11, 12, 13, 14, 15, 16, 17, 18, 25], [0, 1, 2, 3, 4, 5, 6, 7, 8, 9, 10, 11, 12, 13, 14, 15, 16, 17, 18], [0, 1, 2, 3, 4, 5, 6, 7, 8, 9, 10, 11, 12, 13, 14, 15, 16, 17, 18, 25, 26, 27], [0, 1, 2, 3, 4, 5, 6, 7, 8, 9, 10, 11, 12, 13, 14, 15, 16, 17, 18, 25, 26, 27, 28], [0, 1, 2, 3, 4, 5, 6, 7, 8, 9, 10, 11, 12, 13, 14, 15, 16, 17, 18, 25, 26, 27, 28, 29], [0, 1, 2, 3, 4, 5, 6, 7, 8, 9, 10, 11, 12, 13, 14, 15, 16, 17, 18, 19, 20, 21, 22, 23, 24, 25, 26, 27, 28, 29, 30], [0, 1, 2, 3, 4, 5, 6, 7, 8, 9, 10, 11, 12, 13, 14, 15, 16, 17, 18, 19, 20, 21, 22, 23, 24, 25, 26, 27, 28, 29, 30, 31], [0, 1, 2, 3, 4, 5, 6, 7, 8, 9, 10, 11, 12, 13, 14, 15, 16, 17, 18, 19, 20, 21, 22, 23, 24, 25, 26, 27, 28, 29, 30, 31, 32]]
def spec_PlanOk_C1 (a0 : Plan) (res : Fault) (v103 : Int) (v96 : Int) : Prop :=
  ((0 ≤ v103 ∧ v103.toNat < a0.bars.length) ∧ ((0 ≤ v96 ∧ v96.toNat < (nth a0.bars v103).length) ∧ (((nth (nth a0.bars v96) v103) != (nth (nth a0.bars v103) v96)) = false → (v96 != v103) = true → (!(nth (nth a0.bars v96) v103)) = true → (0 ≤ v96 ∧ v96.toNat < a0.ways.length) ∧ (0 ≤ v103 ∧ v103.toNat < a0.ways.length)))) ∧ ((((nth (nth a0.bars v96) v103) != (nth (nth a0.bars v103) v96)) || ((v96 != v103) && ((!(nth (nth a0.bars v96) v103)) && (meets ((nth a0.ways v96).sections) ((nth a0.ways v103).sections))))) = true → (5 = res.code) ∧ (v96 = res.pos))
def spec_PlanOk_C2 (I4 : Int → Int → Int → Int → Int → Prop) (m4 : Int → Int → Int → Int → Int → Nat) (a0 : Plan) (res : Fault) (v39 : Int) (v56 : Int) (v79 : Int) (v103 : Int) (v96 : Int) : Prop :=
  ((0 ≤ v103 ∧ v103.toNat < (nth a0.bars v96).length) ∧ (spec_PlanOk_C1 a0 res v103 v96)) ∧ ((!(((nth (nth a0.bars v96) v103) != (nth (nth a0.bars v103) v96)) || ((v96 != v103) && ((!(nth (nth a0.bars v96) v103)) && (meets ((nth a0.ways v96).sections) ((nth a0.ways v103).sections)))))) = true → I4 v39 v56 v79 v96 (IntKind.i64.wrap (v103 + 1)) ∧ m4 v39 v56 v79 v96 (IntKind.i64.wrap (v103 + 1)) < m4 v39 v56 v79 v96 v103)
def spec_PlanOk_C3 (I3 : Int → Int → Int → Int → Prop) (m3 : Int → Int → Int → Int → Nat) (I4 : Int → Int → Int → Int → Int → Prop) (m4 : Int → Int → Int → Int → Int → Nat) (a0 : Plan) (res : Fault) (v39 : Int) (v56 : Int) (v79 : Int) (v96 : Int) : Prop :=
  (nth a0.bars v96).length ≤ 4611686018427387904 → I4 v39 v56 v79 v96 0 ∧ ∀ (v103 : Int), I4 v39 v56 v79 v96 v103 → (((decide (v103 < ((nth a0.bars v96).length : Int))) = false → I3 v39 v56 v79 (IntKind.i64.wrap (v96 + 1)) ∧ m3 v39 v56 v79 (IntKind.i64.wrap (v96 + 1)) < m3 v39 v56 v79 v96) ∧ ((decide (v103 < ((nth a0.bars v96).length : Int))) = true → spec_PlanOk_C2 I4 m4 a0 res v39 v56 v79 v103 v96))
def spec_PlanOk_C4 (I2 : Int → Int → Int → Prop) (m2 : Int → Int → Int → Nat) (a0 : Plan) (res : Fault) (v39 : Int) (v56 : Int) (v79 : Int) : Prop :=
  ((0 ≤ v79 ∧ v79.toNat < a0.bars.length) ∧ ((nth a0.bars v79).length ≤ 4611686018427387904 → (((nth a0.bars v79).length : Int) != (a0.ways.length : Int)) = true → (4 = res.code) ∧ (v79 = res.pos))) ∧ (((nth a0.bars v79).length ≤ 4611686018427387904) ∧ ((!(((nth a0.bars v79).length : Int) != (a0.ways.length : Int))) = true) → I2 v39 v56 (IntKind.i64.wrap (v79 + 1)) ∧ m2 v39 v56 (IntKind.i64.wrap (v79 + 1)) < m2 v39 v56 v79)
def spec_PlanOk_C5 (I2 : Int → Int → Int → Prop) (m2 : Int → Int → Int → Nat) (I3 : Int → Int → Int → Int → Prop) (m3 : Int → Int → Int → Int → Nat) (I4 : Int → Int → Int → Int → Int → Prop) (m4 : Int → Int → Int → Int → Int → Nat) (a0 : Plan) (res : Fault) (v39 : Int) (v56 : Int) (v79 : Int) : Prop :=
  ((decide (v79 < (a0.bars.length : Int))) = false → I3 v39 v56 v79 0 ∧ ∀ (v96 : Int), I3 v39 v56 v79 v96 → (((decide (v96 < (a0.bars.length : Int))) = false → (0 = res.code) ∧ (0 = res.pos)) ∧ ((decide (v96 < (a0.bars.length : Int))) = true → (0 ≤ v96 ∧ v96.toNat < a0.bars.length) ∧ (spec_PlanOk_C3 I3 m3 I4 m4 a0 res v39 v56 v79 v96)))) ∧ ((decide (v79 < (a0.bars.length : Int))) = true → spec_PlanOk_C4 I2 m2 a0 res v39 v56 v79)
def spec_PlanOk_C6 (I1 : Int → Int → Prop) (m1 : Int → Int → Nat) (I2 : Int → Int → Int → Prop) (m2 : Int → Int → Int → Nat) (I3 : Int → Int → Int → Int → Prop) (m3 : Int → Int → Int → Int → Nat) (I4 : Int → Int → Int → Int → Int → Prop) (m4 : Int → Int → Int → Int → Int → Nat) (a0 : Plan) (res : Fault) (v39 : Int) (v56 : Int) : Prop :=
  ((decide (v56 < (a0.ways.length : Int))) = false → (a0.bars.length ≤ 4611686018427387904 → ((a0.bars.length : Int) != (a0.ways.length : Int)) = true → (4 = res.code) ∧ (0 = res.pos)) ∧ ((a0.bars.length ≤ 4611686018427387904) ∧ ((!((a0.bars.length : Int) != (a0.ways.length : Int))) = true) → I2 v39 v56 0 ∧ ∀ (v79 : Int), I2 v39 v56 v79 → (spec_PlanOk_C5 I2 m2 I3 m3 I4 m4 a0 res v39 v56 v79))) ∧ ((decide (v56 < (a0.ways.length : Int))) = true → ((0 ≤ v56 ∧ v56.toNat < a0.ways.length) ∧ ((preW a0 (nth a0.ways v56)) ∧ ((!(wayGood a0 (nth a0.ways v56))) = true → (3 = res.code) ∧ (v56 = res.pos)))) ∧ ((!(!(wayGood a0 (nth a0.ways v56)))) = true → I1 v39 (IntKind.i64.wrap (v56 + 1)) ∧ m1 v39 (IntKind.i64.wrap (v56 + 1)) < m1 v39 v56))
def spec_PlanOk_C7 (I0 : Int → Prop) (m0 : Int → Nat) (I1 : Int → Int → Prop) (m1 : Int → Int → Nat) (I2 : Int → Int → Int → Prop) (m2 : Int → Int → Int → Nat) (I3 : Int → Int → Int → Int → Prop) (m3 : Int → Int → Int → Int → Nat) (I4 : Int → Int → Int → Int → Int → Prop) (m4 : Int → Int → Int → Int → Int → Nat) (a0 : Plan) (res : Fault) (v39 : Int) : Prop :=
  ((decide (v39 < (a0.switches.length : Int))) = false → a0.ways.length ≤ 4611686018427387904 → I1 v39 0 ∧ ∀ (v56 : Int), I1 v39 v56 → (spec_PlanOk_C6 I1 m1 I2 m2 I3 m3 I4 m4 a0 res v39 v56)) ∧ ((decide (v39 < (a0.switches.length : Int))) = true → ((0 ≤ v39 ∧ v39.toNat < a0.switches.length) ∧ ((!(inR (nth a0.switches v39) 0 (IntKind.i64.wrap (a0.sections - 1)))) = true → (2 = res.code) ∧ (v39 = res.pos))) ∧ ((!(!(inR (nth a0.switches v39) 0 (IntKind.i64.wrap (a0.sections - 1))))) = true → I0 (IntKind.i64.wrap (v39 + 1)) ∧ m0 (IntKind.i64.wrap (v39 + 1)) < m0 v39))
def spec_PlanOk_C8 (I0 : Int → Prop) (m0 : Int → Nat) (I1 : Int → Int → Prop) (m1 : Int → Int → Nat) (I2 : Int → Int → Int → Prop) (m2 : Int → Int → Int → Nat) (I3 : Int → Int → Int → Int → Prop) (m3 : Int → Int → Int → Int → Nat) (I4 : Int → Int → Int → Int → Int → Prop) (m4 : Int → Int → Int → Int → Int → Nat) (a0 : Plan) (res : Fault) : Prop :=
  (((!(inR a0.sections 1 60)) || ((decide ((a0.switches.length : Int) > 40)) || ((decide ((a0.ways.length : Int) > 100)) || (!(inR a0.hold 1 300))))) = true → (1 = res.code) ∧ (0 = res.pos)) ∧ ((!((!(inR a0.sections 1 60)) || ((decide ((a0.switches.length : Int) > 40)) || ((decide ((a0.ways.length : Int) > 100)) || (!(inR a0.hold 1 300)))))) = true → a0.switches.length ≤ 4611686018427387904 → I0 0 ∧ ∀ (v39 : Int), I0 v39 → (spec_PlanOk_C7 I0 m0 I1 m1 I2 m2 I3 m3 I4 m4 a0 res v39))
def spec_PlanOk_C (a0 : Plan) (res : Fault) (I0 : Int → Prop) (m0 : Int → Nat) (I1 : Int → Int → Prop) (m1 : Int → Int → Nat) (I2 : Int → Int → Int → Prop) (m2 : Int → Int → Int → Nat) (I3 : Int → Int → Int → Int → Prop) (m3 : Int → Int → Int → Int → Nat) (I4 : Int → Int → Int → Int → Int → Prop) (m4 : Int → Int → Int → Int → Int → Nat) : Prop :=
  spec_PlanOk_C8 I0 m0 I1 m1 I2 m2 I3 m3 I4 m4 a0 res
set_option maxHeartbeats 4000000 in
theorem spec_PlanOk_walk (a0 : Plan) (res : Fault) (I0 : Int → Prop) (m0 : Int → Nat) (I1 : Int → Int → Prop) (m1 : Int → Int → Nat) (I2 : Int → Int → Int → Prop) (m2 : Int → Int → Int → Nat) (I3 : Int → Int → Int → Int → Prop) (m3 : Int → Int → Int → Int → Nat) (I4 : Int → Int → Int → Int → Int → Prop) (m4 : Int → Int → Int → Int → Int → Nat) (h : spec_PlanOk_C a0 res I0 m0 I1 m1 I2 m2 I3 m3 I4 m4) : FnV Try.prog 24 [.agg (ePlan false a0)] (.agg (eFault res)) := by
  unfold spec_PlanOk_C at h
  refine FnS.of_body (fn := Try.f24) (c := spec_PlanOk_b) Try.func24 (by kernel_rfl) (by kernel_rfl) ?_
  refine WpS.codeIs (c' := (nv spec_PlanOk_b 1)) (by kernel_rfl) ?_
  refine WpS.start (st' := ⟨(mkS 147 [(0, .agg (ePlan false a0))]), [], []⟩) (by kernel_rfl) ?_
  refine cSeqG ⟨(mkS 147 [(1, .lptr 1 0), (2, .lptr 2 0)]), [(2, [.int .i64 0, .int .i64 0]), (1, (ePlan false a0))], []⟩ (True) ?_ (fun q1 => ?_)
  · skip
    refine rgS [] 0 ?_
    refine sEnd' [(2, .lptr 2 0), (1, .lptr 1 0)] [(2, [.int .i64 0, .int .i64 0]), (1, (ePlan false a0))] [] ?_
    refine QJoin.normal trivial ?_
    exact wkJ (by kernel_rfl)
  unfold spec_PlanOk_C8 at h
  obtain ⟨q101, h⟩ := h
  refine cSeqG ⟨(mkS 147 [(1, .lptr 1 0), (2, .lptr 2 0)]), [(2, [.int .i64 0, .int .i64 0]), (1, (ePlan false a0))], []⟩ ((!((!(inR a0.sections 1 60)) || ((decide ((a0.switches.length : Int) > 40)) || ((decide ((a0.ways.length : Int) > 100)) || (!(inR a0.hold 1 300)))))) = true) ?_ (fun q2 => ?_)
  · replace h := q101
    refine cSeqG ⟨(mkS 147 [(1, .lptr 1 0), (2, .lptr 2 0), (34, .bool ((!(inR a0.sections 1 60)) || ((decide ((a0.switches.length : Int) > 40)) || ((decide ((a0.ways.length : Int) > 100)) || (!(inR a0.hold 1 300))))))]), [(2, [.int .i64 0, .int .i64 0]), (1, (ePlan false a0))], []⟩ (True) ?_ (fun q3 => ?_)
    · skip
      refine rgS [] 1 ?_
      refine sCallV 3 (some 15) [(14, .int .i64 a0.sections), (13, .lptr 1 0)] [.int .i64 a0.sections, .int .i64 1, .int .i64 60] (spec_l1in_V a0.sections 1 60) (PW.cons (Snap2.of1 (.int _ _)) (PW.cons (Snap2.of1 (.int _ _)) (PW.cons (Snap2.of1 (.int _ _)) PW.nil))) ?_
      refine sCase 2 [(17, .bool (!(inR a0.sections 1 60))), (16, .bool (!(inR a0.sections 1 60)))] 17 (!(inR a0.sections 1 60)) (fun q4 => ?_) (fun q4 => ?_)
      · skip
        refine sEnd [(34, .bool true), (33, .tup []), (32, .tup []), (31, .tup []), (30, .tup []), (29, .bool true), (28, .bool true), (27, .tup []), (26, .tup []), (25, .tup []), (24, .tup []), (23, .bool true), (22, .bool true), (21, .tup []), (20, .tup []), (19, .tup []), (18, .tup [])] ?_
        refine QJoin.normal trivial ?_
        exact wkJ (by simp only [q4, Bool.true_or, Bool.false_or, Bool.true_and, Bool.false_and, Bool.not_true, Bool.not_false, Bool.and_true, Bool.and_false, Bool.or_true, Bool.or_false, cond_true, cond_false] <;> kernel_rfl)
      · skip
        refine sLen 3 (some 20) [(19, .lst (List.map eInt a0.switches) false false), (18, .lptr 1 1)] eInt a0.switches (fun q5 => ?_)
        refine sCase 3 [(23, .bool (decide ((a0.switches.length : Int) > 40))), (22, .bool (decide ((a0.switches.length : Int) > 40))), (21, .bool (decide ((a0.switches.length : Int) > 40)))] 23 (decide ((a0.switches.length : Int) > 40)) (fun q6 => ?_) (fun q6 => ?_)
        · skip
          refine sEnd [(34, .bool true), (33, .tup []), (32, .tup []), (31, .tup []), (30, .tup []), (29, .bool true), (28, .bool true), (27, .tup []), (26, .tup []), (25, .tup []), (24, .tup [])] ?_
          refine QJoin.normal trivial ?_
          exact wkJ (by simp only [q4, q6, Bool.true_or, Bool.false_or, Bool.true_and, Bool.false_and, Bool.not_true, Bool.not_false, Bool.and_true, Bool.and_false, Bool.or_true, Bool.or_false, cond_true, cond_false] <;> kernel_rfl)
        · skip
          refine sLen 3 (some 26) [(25, .lst (List.map (eWay false) a0.ways) false false), (24, .lptr 1 2)] (eWay false) a0.ways (fun q7 => ?_)
          refine sCase 3 [(29, .bool (decide ((a0.ways.length : Int) > 100))), (28, .bool (decide ((a0.ways.length : Int) > 100))), (27, .bool (decide ((a0.ways.length : Int) > 100)))] 29 (decide ((a0.ways.length : Int) > 100)) (fun q8 => ?_) (fun q8 => ?_)
          · skip
            refine sEnd [(34, .bool true), (33, .tup []), (32, .tup []), (31, .tup []), (30, .tup [])] ?_
            refine QJoin.normal trivial ?_
            exact wkJ (by simp only [q4, q6, q8, Bool.true_or, Bool.false_or, Bool.true_and, Bool.false_and, Bool.not_true, Bool.not_false, Bool.and_true, Bool.and_false, Bool.or_true, Bool.or_false, cond_true, cond_false] <;> kernel_rfl)
          · skip
            refine sCallV 3 (some 32) [(31, .int .i64 a0.hold), (30, .lptr 1 4)] [.int .i64 a0.hold, .int .i64 1, .int .i64 300] (spec_l1in_V a0.hold 1 300) (PW.cons (Snap2.of1 (.int _ _)) (PW.cons (Snap2.of1 (.int _ _)) (PW.cons (Snap2.of1 (.int _ _)) PW.nil))) ?_
            refine sEnd [(34, .bool (!(inR a0.hold 1 300))), (33, .bool (!(inR a0.hold 1 300)))] ?_
            refine QJoin.normal trivial ?_
            exact wkJ (by simp only [q4, q6, q8, Bool.true_or, Bool.false_or, Bool.true_and, Bool.false_and, Bool.not_true, Bool.not_false, Bool.and_true, Bool.and_false, Bool.or_true, Bool.or_false, cond_true, cond_false] <;> kernel_rfl)
    refine cCond (.tmp 34) ((!(inR a0.sections 1 60)) || ((decide ((a0.switches.length : Int) > 40)) || ((decide ((a0.ways.length : Int) > 100)) || (!(inR a0.hold 1 300))))) (fun q9 => ?_) (fun q9 => ?_)
    · replace h := h q9
      refine cSeqG ⟨(mkS 147 [(2, .lptr 2 0)]), [(2, [.int .i64 1, .int .i64 0]), (1, (ePlan false a0))], []⟩ (True) ?_ (fun q10 => ?_)
      · skip
        refine rgS [] 2 ?_
        refine sEnd' [(35, .agg [.int .i64 1, .int .i64 0])] [(2, [.int .i64 1, .int .i64 0]), (1, (ePlan false a0))] [] ?_
        refine QJoin.normal trivial ?_
        exact wkJ (by kernel_rfl)
      refine cRet ?_
      refine QJoin.ret ?_
      refine rtS (.agg [.int .i64 1, .int .i64 0]) [.agg [.int .i64 1, .int .i64 0]] ?_
      exact (SnapR3.agg (PW.cons (sr_int (H := []) (a := 1) (b := res.code) h.1) (PW.cons (sr_int (H := []) (a := 0) (b := res.pos) h.2) PW.nil)))
    · skip
      refine cSkip ?_
      refine QJoin.normal (by simp only [q9, Bool.true_or, Bool.false_or, Bool.true_and, Bool.false_and, Bool.not_true, Bool.not_false, Bool.and_true, Bool.and_false, Bool.or_true, Bool.or_false, cond_true, cond_false]) ?_
      exact wkJ (by kernel_rfl)
  replace h := h q2
  refine cSeq ?_
  refine cSeqG ⟨(mkS 147 [(1, .lptr 1 0), (2, .lptr 2 0), (37, .lst (List.map eInt a0.switches) false false), (38, .int .i64 (a0.switches.length : Int)), (39, .int .i64 0)]), [(2, [.int .i64 0, .int .i64 0]), (1, (ePlan false a0))], []⟩ (a0.switches.length ≤ 4611686018427387904) ?_ (fun q11 => ?_)
  · skip
    refine rgS [] 3 ?_
    refine sLen 3 (some 38) [(37, .lst (List.map eInt a0.switches) false false), (36, .lptr 1 1)] eInt a0.switches (fun q12 => ?_)
    refine sEnd [(39, .int .i64 0)] ?_
    refine QJoin.normal q12 ?_
    exact wkJ (by kernel_rfl)
  replace h := h q11
  refine cBlock 0 ?_
  obtain ⟨q100, h⟩ := h
  refine cLoop (fun (v : Int) => (⟨(mkS 147 [(1, .lptr 1 0), (2, .lptr 2 0), (37, .lst (List.map eInt a0.switches) false false), (38, .int .i64 (a0.switches.length : Int)), (39, .int .i64 v)]), [(2, [.int .i64 0, .int .i64 0]), (1, (ePlan false a0))], []⟩ : St)) (fun (v : Int) => I0 v) (fun (v : Int) => m0 v) 0 (wkL []) q100 (fun v39 hI => ?_)
  skip
  replace h := h v39 hI
  show WpS _ _ _ ⟨(mkS 147 [(1, .lptr 1 0), (2, .lptr 2 0), (37, .lst (List.map eInt a0.switches) false false), (38, .int .i64 (a0.switches.length : Int)), (39, .int .i64 v39)]), [(2, [.int .i64 0, .int .i64 0]), (1, (ePlan false a0))], []⟩
  refine cSeqG ⟨(mkS 147 [(1, .lptr 1 0), (2, .lptr 2 0), (37, .lst (List.map eInt a0.switches) false false), (38, .int .i64 (a0.switches.length : Int)), (39, .int .i64 v39), (40, .bool (decide (v39 < (a0.switches.length : Int))))]), [(2, [.int .i64 0, .int .i64 0]), (1, (ePlan false a0))], []⟩ (True) ?_ (fun q13 => ?_)
  · skip
    refine rgS [] 4 ?_
    refine sEnd [(40, .bool (decide (v39 < (a0.switches.length : Int))))] ?_
    refine QJoin.normal trivial ?_
    exact wkJ (by kernel_rfl)
  unfold spec_PlanOk_C7 at h
  obtain ⟨q99, h⟩ := h
  refine cSeqG ⟨(mkS 147 [(1, .lptr 1 0), (2, .lptr 2 0), (37, .lst (List.map eInt a0.switches) false false), (38, .int .i64 (a0.switches.length : Int)), (39, .int .i64 v39)]), [(2, [.int .i64 0, .int .i64 0]), (1, (ePlan false a0))], []⟩ ((decide (v39 < (a0.switches.length : Int))) = true) ?_ (fun q14 => ?_)
  · replace h := q99
    refine cCond (.tmp 40) (decide (v39 < (a0.switches.length : Int))) (fun q15 => ?_) (fun q15 => ?_)
    · skip
      refine cSkip ?_
      refine QJoin.normal (by simp only [q2, q15, Bool.true_or, Bool.false_or, Bool.true_and, Bool.false_and, Bool.not_true, Bool.not_false, Bool.and_true, Bool.and_false, Bool.or_true, Bool.or_false, cond_true, cond_false]) ?_
      exact wkJ (by kernel_rfl)
    · replace h := h q15
      refine cExit 0 ?_
      refine QJoin.exit ?_
      refine QRound.exit ?_
      refine QBlock.here ?_
      refine QSeq.normal ?_
      refine cSeq ?_
      refine cSeqG ⟨(mkS 147 [(1, .lptr 1 0), (2, .lptr 2 0), (54, .lst (List.map (eWay false) a0.ways) false false), (55, .int .i64 (a0.ways.length : Int)), (56, .int .i64 0)]), [(2, [.int .i64 0, .int .i64 0]), (1, (ePlan false a0))], []⟩ (a0.ways.length ≤ 4611686018427387904) ?_ (fun q16 => ?_)
      · skip
        refine rgS [] 9 ?_
        refine sLen 3 (some 55) [(54, .lst (List.map (eWay false) a0.ways) false false), (53, .lptr 1 2)] (eWay false) a0.ways (fun q17 => ?_)
        refine sEnd [(56, .int .i64 0)] ?_
        refine QJoin.normal q17 ?_
        exact wkJ (by kernel_rfl)
      replace h := h q16
      refine cBlock 2 ?_
      obtain ⟨q90, h⟩ := h
      refine cLoop (fun (v : Int) => (⟨(mkS 147 [(1, .lptr 1 0), (2, .lptr 2 0), (54, .lst (List.map (eWay false) a0.ways) false false), (55, .int .i64 (a0.ways.length : Int)), (56, .int .i64 v)]), [(2, [.int .i64 0, .int .i64 0]), (1, (ePlan false a0))], []⟩ : St)) (fun (v : Int) => I1 v39 v) (fun (v : Int) => m1 v39 v) 0 (wkL []) q90 (fun v56 hI => ?_)
      skip
      replace h := h v56 hI
      show WpS _ _ _ ⟨(mkS 147 [(1, .lptr 1 0), (2, .lptr 2 0), (54, .lst (List.map (eWay false) a0.ways) false false), (55, .int .i64 (a0.ways.length : Int)), (56, .int .i64 v56)]), [(2, [.int .i64 0, .int .i64 0]), (1, (ePlan false a0))], []⟩
      refine cSeqG ⟨(mkS 147 [(1, .lptr 1 0), (2, .lptr 2 0), (54, .lst (List.map (eWay false) a0.ways) false false), (55, .int .i64 (a0.ways.length : Int)), (56, .int .i64 v56), (57, .bool (decide (v56 < (a0.ways.length : Int))))]), [(2, [.int .i64 0, .int .i64 0]), (1, (ePlan false a0))], []⟩ (True) ?_ (fun q18 => ?_)
      · skip
        refine rgS [] 10 ?_
        refine sEnd [(57, .bool (decide (v56 < (a0.ways.length : Int))))] ?_
        refine QJoin.normal trivial ?_
        exact wkJ (by kernel_rfl)
      unfold spec_PlanOk_C6 at h
      obtain ⟨q89, h⟩ := h
      refine cSeqG ⟨(mkS 147 [(1, .lptr 1 0), (2, .lptr 2 0), (54, .lst (List.map (eWay false) a0.ways) false false), (55, .int .i64 (a0.ways.length : Int)), (56, .int .i64 v56)]), [(2, [.int .i64 0, .int .i64 0]), (1, (ePlan false a0))], []⟩ ((decide (v56 < (a0.ways.length : Int))) = true) ?_ (fun q19 => ?_)
      · replace h := q89
        refine cCond (.tmp 57) (decide (v56 < (a0.ways.length : Int))) (fun q20 => ?_) (fun q20 => ?_)
        · skip
          refine cSkip ?_
          refine QJoin.normal (by simp only [q2, q15, q20, Bool.true_or, Bool.false_or, Bool.true_and, Bool.false_and, Bool.not_true, Bool.not_false, Bool.and_true, Bool.and_false, Bool.or_true, Bool.or_false, cond_true, cond_false]) ?_
          exact wkJ (by kernel_rfl)
        · replace h := h q20
          refine cExit 2 ?_
          refine QJoin.exit ?_
          refine QRound.exit ?_
          refine QBlock.here ?_
          refine QSeq.normal ?_
          obtain ⟨q78, h⟩ := h
          refine cSeqG ⟨(mkS 147 [(1, .lptr 1 0), (2, .lptr 2 0)]), [(2, [.int .i64 0, .int .i64 0]), (1, (ePlan false a0))], []⟩ ((a0.bars.length ≤ 4611686018427387904) ∧ ((!((a0.bars.length : Int) != (a0.ways.length : Int))) = true)) ?_ (fun q21 => ?_)
          · replace h := q78
            refine cSeqG ⟨(mkS 147 [(1, .lptr 1 0), (2, .lptr 2 0), (74, .bool ((a0.bars.length : Int) != (a0.ways.length : Int)))]), [(2, [.int .i64 0, .int .i64 0]), (1, (ePlan false a0))], []⟩ (a0.bars.length ≤ 4611686018427387904) ?_ (fun q22 => ?_)
            · skip
              refine rgS [] 15 ?_
              refine sLen 3 (some 70) [(69, .lst (List.map (eL eBool false) a0.bars) false false), (68, .lptr 1 3)] (eL eBool false) a0.bars (fun q23 => ?_)
              refine sLen 3 (some 73) [(72, .lst (List.map (eWay false) a0.ways) false false), (71, .lptr 1 2)] (eWay false) a0.ways (fun q24 => ?_)
              refine sEnd [(74, .bool ((a0.bars.length : Int) != (a0.ways.length : Int)))] ?_
              refine QJoin.normal q23 ?_
              exact wkJ (by kernel_rfl)
            replace h := h q22
            refine cCond (.tmp 74) ((a0.bars.length : Int) != (a0.ways.length : Int)) (fun q25 => ?_) (fun q25 => ?_)
            · replace h := h q25
              refine cSeqG ⟨(mkS 147 [(2, .lptr 2 0)]), [(2, [.int .i64 4, .int .i64 0]), (1, (ePlan false a0))], []⟩ (True) ?_ (fun q26 => ?_)
              · skip
                refine rgS [] 16 ?_
                refine sEnd' [(75, .agg [.int .i64 4, .int .i64 0])] [(2, [.int .i64 4, .int .i64 0]), (1, (ePlan false a0))] [] ?_
                refine QJoin.normal trivial ?_
                exact wkJ (by kernel_rfl)
              refine cRet ?_
              refine QJoin.ret ?_
              refine rtS (.agg [.int .i64 4, .int .i64 0]) [.agg [.int .i64 4, .int .i64 0]] ?_
              exact (SnapR3.agg (PW.cons (sr_int (H := []) (a := 4) (b := res.code) h.1) (PW.cons (sr_int (H := []) (a := 0) (b := res.pos) h.2) PW.nil)))
            · skip
              refine cSkip ?_
              refine QJoin.normal ⟨q22, (by simp only [q2, q15, q20, q25, Bool.true_or, Bool.false_or, Bool.true_and, Bool.false_and, Bool.not_true, Bool.not_false, Bool.and_true, Bool.and_false, Bool.or_true, Bool.or_false, cond_true, cond_false])⟩ ?_
              exact wkJ (by kernel_rfl)
          replace h := h q21
          refine cSeq ?_
          refine cSeqG ⟨(mkS 147 [(1, .lptr 1 0), (2, .lptr 2 0), (77, .lst (List.map (eL eBool false) a0.bars) false false), (78, .int .i64 (a0.bars.length : Int)), (79, .int .i64 0)]), [(2, [.int .i64 0, .int .i64 0]), (1, (ePlan false a0))], []⟩ (True) ?_ (fun q27 => ?_)
          · skip
            refine rgS [] 17 ?_
            refine sLen 3 (some 78) [(77, .lst (List.map (eL eBool false) a0.bars) false false), (76, .lptr 1 3)] (eL eBool false) a0.bars (fun q28 => ?_)
            refine sEnd [(79, .int .i64 0)] ?_
            refine QJoin.normal trivial ?_
            exact wkJ (by kernel_rfl)
          refine cBlock 4 ?_
          obtain ⟨q77, h⟩ := h
          refine cLoop (fun (v : Int) => (⟨(mkS 147 [(1, .lptr 1 0), (2, .lptr 2 0), (77, .lst (List.map (eL eBool false) a0.bars) false false), (78, .int .i64 (a0.bars.length : Int)), (79, .int .i64 v)]), [(2, [.int .i64 0, .int .i64 0]), (1, (ePlan false a0))], []⟩ : St)) (fun (v : Int) => I2 v39 v56 v) (fun (v : Int) => m2 v39 v56 v) 0 (wkL []) q77 (fun v79 hI => ?_)
          skip
          replace h := h v79 hI
          show WpS _ _ _ ⟨(mkS 147 [(1, .lptr 1 0), (2, .lptr 2 0), (77, .lst (List.map (eL eBool false) a0.bars) false false), (78, .int .i64 (a0.bars.length : Int)), (79, .int .i64 v79)]), [(2, [.int .i64 0, .int .i64 0]), (1, (ePlan false a0))], []⟩
          refine cSeqG ⟨(mkS 147 [(1, .lptr 1 0), (2, .lptr 2 0), (77, .lst (List.map (eL eBool false) a0.bars) false false), (78, .int .i64 (a0.bars.length : Int)), (79, .int .i64 v79), (80, .bool (decide (v79 < (a0.bars.length : Int))))]), [(2, [.int .i64 0, .int .i64 0]), (1, (ePlan false a0))], []⟩ (True) ?_ (fun q29 => ?_)
          · skip
            refine rgS [] 18 ?_
            refine sEnd [(80, .bool (decide (v79 < (a0.bars.length : Int))))] ?_
            refine QJoin.normal trivial ?_
            exact wkJ (by kernel_rfl)
          unfold spec_PlanOk_C5 at h
          obtain ⟨q76, h⟩ := h
          refine cSeqG ⟨(mkS 147 [(1, .lptr 1 0), (2, .lptr 2 0), (77, .lst (List.map (eL eBool false) a0.bars) false false), (78, .int .i64 (a0.bars.length : Int)), (79, .int .i64 v79)]), [(2, [.int .i64 0, .int .i64 0]), (1, (ePlan false a0))], []⟩ ((decide (v79 < (a0.bars.length : Int))) = true) ?_ (fun q30 => ?_)
          · replace h := q76
            refine cCond (.tmp 80) (decide (v79 < (a0.bars.length : Int))) (fun q31 => ?_) (fun q31 => ?_)
            · skip
              refine cSkip ?_
              refine QJoin.normal (by simp only [q2, q15, q20, q21.2, q31, Bool.true_or, Bool.false_or, Bool.true_and, Bool.false_and, Bool.not_true, Bool.not_false, Bool.and_true, Bool.and_false, Bool.or_true, Bool.or_false, cond_true, cond_false]) ?_
              exact wkJ (by kernel_rfl)
            · replace h := h q31
              refine cExit 4 ?_
              refine QJoin.exit ?_
              refine QRound.exit ?_
              refine QBlock.here ?_
              refine QSeq.normal ?_
              refine cSeq ?_
              refine cSeqG ⟨(mkS 147 [(1, .lptr 1 0), (2, .lptr 2 0), (94, .lst (List.map (eL eBool false) a0.bars) false false), (95, .int .i64 (a0.bars.length : Int)), (96, .int .i64 0)]), [(2, [.int .i64 0, .int .i64 0]), (1, (ePlan false a0))], []⟩ (True) ?_ (fun q32 => ?_)
              · skip
                refine rgS [] 23 ?_
                refine sLen 3 (some 95) [(94, .lst (List.map (eL eBool false) a0.bars) false false), (93, .lptr 1 3)] (eL eBool false) a0.bars (fun q33 => ?_)
                refine sEnd [(96, .int .i64 0)] ?_
                refine QJoin.normal trivial ?_
                exact wkJ (by kernel_rfl)
              refine cBlock 6 ?_
              obtain ⟨q65, h⟩ := h
              refine cLoop (fun (v : Int) => (⟨(mkS 147 [(1, .lptr 1 0), (2, .lptr 2 0), (94, .lst (List.map (eL eBool false) a0.bars) false false), (95, .int .i64 (a0.bars.length : Int)), (96, .int .i64 v)]), [(2, [.int .i64 0, .int .i64 0]), (1, (ePlan false a0))], []⟩ : St)) (fun (v : Int) => I3 v39 v56 v79 v) (fun (v : Int) => m3 v39 v56 v79 v) 0 (wkL []) q65 (fun v96 hI => ?_)
              skip
              replace h := h v96 hI
              show WpS _ _ _ ⟨(mkS 147 [(1, .lptr 1 0), (2, .lptr 2 0), (94, .lst (List.map (eL eBool false) a0.bars) false false), (95, .int .i64 (a0.bars.length : Int)), (96, .int .i64 v96)]), [(2, [.int .i64 0, .int .i64 0]), (1, (ePlan false a0))], []⟩
              refine cSeqG ⟨(mkS 147 [(1, .lptr 1 0), (2, .lptr 2 0), (94, .lst (List.map (eL eBool false) a0.bars) false false), (95, .int .i64 (a0.bars.length : Int)), (96, .int .i64 v96), (97, .bool (decide (v96 < (a0.bars.length : Int))))]), [(2, [.int .i64 0, .int .i64 0]), (1, (ePlan false a0))], []⟩ (True) ?_ (fun q34 => ?_)
              · skip
                refine rgS [] 24 ?_
                refine sEnd [(97, .bool (decide (v96 < (a0.bars.length : Int))))] ?_
                refine QJoin.normal trivial ?_
                exact wkJ (by kernel_rfl)
              obtain ⟨q64, h⟩ := h
              refine cSeqG ⟨(mkS 147 [(1, .lptr 1 0), (2, .lptr 2 0), (94, .lst (List.map (eL eBool false) a0.bars) false false), (95, .int .i64 (a0.bars.length : Int)), (96, .int .i64 v96)]), [(2, [.int .i64 0, .int .i64 0]), (1, (ePlan false a0))], []⟩ ((decide (v96 < (a0.bars.length : Int))) = true) ?_ (fun q35 => ?_)
              · replace h := q64
                refine cCond (.tmp 97) (decide (v96 < (a0.bars.length : Int))) (fun q36 => ?_) (fun q36 => ?_)
                · skip
                  refine cSkip ?_
                  refine QJoin.normal (by simp only [q2, q15, q20, q21.2, q31, q36, Bool.true_or, Bool.false_or, Bool.true_and, Bool.false_and, Bool.not_true, Bool.not_false, Bool.and_true, Bool.and_false, Bool.or_true, Bool.or_false, cond_true, cond_false]) ?_
                  exact wkJ (by kernel_rfl)
                · replace h := h q36
                  refine cExit 6 ?_
                  refine QJoin.exit ?_
                  refine QRound.exit ?_
                  refine QBlock.here ?_
                  refine QSeq.normal ?_
                  refine cSeqG ⟨(mkS 147 [(2, .lptr 2 0)]), [(2, [.int .i64 0, .int .i64 0]), (1, (ePlan false a0))], []⟩ (True) ?_ (fun q37 => ?_)
                  · skip
                    refine rgS [] 33 ?_
                    refine sEnd [(146, .agg [.int .i64 0, .int .i64 0])] ?_
                    refine QJoin.normal trivial ?_
                    exact wkJ (by kernel_rfl)
                  refine cRet ?_
                  refine rtS (.agg [.int .i64 0, .int .i64 0]) [.agg [.int .i64 0, .int .i64 0]] ?_
                  exact (SnapR3.agg (PW.cons (sr_int (H := []) (a := 0) (b := res.code) h.1) (PW.cons (sr_int (H := []) (a := 0) (b := res.pos) h.2) PW.nil)))
              replace h := h q35
              refine cSeq ?_
              refine cBlock 7 ?_
              obtain ⟨q63, h⟩ := h
              refine cSeqG ⟨(mkS 147 [(1, .lptr 1 0), (2, .lptr 2 0), (9, .int .i64 v96), (10, .lst (List.map eBool (nth a0.bars v96)) false false), (94, .lst (List.map (eL eBool false) a0.bars) false false), (95, .int .i64 (a0.bars.length : Int)), (96, .int .i64 v96)]), [(2, [.int .i64 0, .int .i64 0]), (1, (ePlan false a0))], []⟩ (True) ?_ (fun q38 => ?_)
              · replace h := q63
                refine rgS [] 25 ?_
                have q39 := h
                refine sIdx 2 (some 99) [(98, .int .i64 v96)] (eL eBool false) a0.bars 1 q39 ?_
                refine sEnd [(10, .lst (List.map eBool (nth a0.bars v96)) false false), (9, .int .i64 v96), (100, .lst (List.map eBool (nth a0.bars v96)) false false)] ?_
                refine QJoin.normal trivial ?_
                exact wkJ (by kernel_rfl)
              unfold spec_PlanOk_C3 at h
              refine cSeqG ⟨(mkS 147 [(1, .lptr 1 0), (2, .lptr 2 0), (9, .int .i64 v96), (94, .lst (List.map (eL eBool false) a0.bars) false false), (95, .int .i64 (a0.bars.length : Int)), (96, .int .i64 v96), (101, .lst (List.map eBool (nth a0.bars v96)) false false), (102, .int .i64 ((nth a0.bars v96).length : Int)), (103, .int .i64 0)]), [(2, [.int .i64 0, .int .i64 0]), (1, (ePlan false a0))], []⟩ ((nth a0.bars v96).length ≤ 4611686018427387904) ?_ (fun q40 => ?_)
              · skip
                refine rgS [] 26 ?_
                refine sLen 2 (some 102) [(101, .lst (List.map eBool (nth a0.bars v96)) false false)] eBool (nth a0.bars v96) (fun q41 => ?_)
                refine sEnd [(103, .int .i64 0)] ?_
                refine QJoin.normal q41 ?_
                exact wkJ (by kernel_rfl)
              replace h := h q40
              refine cBlock 8 ?_
              obtain ⟨q62, h⟩ := h
              refine cLoop (fun (v : Int) => (⟨(mkS 147 [(1, .lptr 1 0), (2, .lptr 2 0), (9, .int .i64 v96), (94, .lst (List.map (eL eBool false) a0.bars) false false), (95, .int .i64 (a0.bars.length : Int)), (96, .int .i64 v96), (101, .lst (List.map eBool (nth a0.bars v96)) false false), (102, .int .i64 ((nth a0.bars v96).length : Int)), (103, .int .i64 v)]), [(2, [.int .i64 0, .int .i64 0]), (1, (ePlan false a0))], []⟩ : St)) (fun (v : Int) => I4 v39 v56 v79 v96 v) (fun (v : Int) => m4 v39 v56 v79 v96 v) 0 (wkL []) q62 (fun v103 hI => ?_)
              skip
              replace h := h v103 hI
              show WpS _ _ _ ⟨(mkS 147 [(1, .lptr 1 0), (2, .lptr 2 0), (9, .int .i64 v96), (94, .lst (List.map (eL eBool false) a0.bars) false false), (95, .int .i64 (a0.bars.length : Int)), (96, .int .i64 v96), (101, .lst (List.map eBool (nth a0.bars v96)) false false), (102, .int .i64 ((nth a0.bars v96).length : Int)), (103, .int .i64 v103)]), [(2, [.int .i64 0, .int .i64 0]), (1, (ePlan false a0))], []⟩
              refine cSeqG ⟨(mkS 147 [(1, .lptr 1 0), (2, .lptr 2 0), (9, .int .i64 v96), (94, .lst (List.map (eL eBool false) a0.bars) false false), (95, .int .i64 (a0.bars.length : Int)), (96, .int .i64 v96), (101, .lst (List.map eBool (nth a0.bars v96)) false false), (102, .int .i64 ((nth a0.bars v96).length : Int)), (103, .int .i64 v103), (104, .bool (decide (v103 < ((nth a0.bars v96).length : Int))))]), [(2, [.int .i64 0, .int .i64 0]), (1, (ePlan false a0))], []⟩ (True) ?_ (fun q42 => ?_)
              · skip
                refine rgS [] 27 ?_
                refine sEnd [(104, .bool (decide (v103 < ((nth a0.bars v96).length : Int))))] ?_
                refine QJoin.normal trivial ?_
                exact wkJ (by kernel_rfl)
              obtain ⟨q61, h⟩ := h
              refine cSeqG ⟨(mkS 147 [(1, .lptr 1 0), (2, .lptr 2 0), (9, .int .i64 v96), (94, .lst (List.map (eL eBool false) a0.bars) false false), (95, .int .i64 (a0.bars.length : Int)), (96, .int .i64 v96), (101, .lst (List.map eBool (nth a0.bars v96)) false false), (102, .int .i64 ((nth a0.bars v96).length : Int)), (103, .int .i64 v103)]), [(2, [.int .i64 0, .int .i64 0]), (1, (ePlan false a0))], []⟩ ((decide (v103 < ((nth a0.bars v96).length : Int))) = true) ?_ (fun q43 => ?_)
              · replace h := q61
                refine cCond (.tmp 104) (decide (v103 < ((nth a0.bars v96).length : Int))) (fun q44 => ?_) (fun q44 => ?_)
                · skip
                  refine cSkip ?_
                  refine QJoin.normal (by simp only [q2, q15, q20, q21.2, q31, q35, q44, Bool.true_or, Bool.false_or, Bool.true_and, Bool.false_and, Bool.not_true, Bool.not_false, Bool.and_true, Bool.and_false, Bool.or_true, Bool.or_false, cond_true, cond_false]) ?_
                  exact wkJ (by kernel_rfl)
                · replace h := h q44
                  refine cExit 8 ?_
                  refine QJoin.exit ?_
                  refine QRound.exit ?_
                  refine QBlock.here ?_
                  refine QBlock.normal ?_
                  refine QSeq.normal ?_
                  refine rgS [] 32 ?_
                  refine sEnd [(96, .int .i64 (IntKind.i64.wrap (v96 + 1))), (145, .int .i64 (IntKind.i64.wrap (v96 + 1)))] ?_
                  exact QRound.again (IntKind.i64.wrap (v96 + 1)) h (wkL [])
              replace h := h q43
              unfold spec_PlanOk_C2 at h
              obtain ⟨q60, h⟩ := h
              refine cSeqG ⟨(mkS 147 [(1, .lptr 1 0), (2, .lptr 2 0), (9, .int .i64 v96), (94, .lst (List.map (eL eBool false) a0.bars) false false), (95, .int .i64 (a0.bars.length : Int)), (96, .int .i64 v96), (101, .lst (List.map eBool (nth a0.bars v96)) false false), (102, .int .i64 ((nth a0.bars v96).length : Int)), (103, .int .i64 v103)]), [(2, [.int .i64 0, .int .i64 0]), (1, (ePlan false a0))], []⟩ ((!(((nth (nth a0.bars v96) v103) != (nth (nth a0.bars v103) v96)) || ((v96 != v103) && ((!(nth (nth a0.bars v96) v103)) && (meets ((nth a0.ways v96).sections) ((nth a0.ways v103).sections)))))) = true) ?_ (fun q45 => ?_)
              · replace h := q60
                refine cBlock 9 ?_
                obtain ⟨q59, h⟩ := h
                refine cSeqG ⟨(mkS 147 [(1, .lptr 1 0), (2, .lptr 2 0), (9, .int .i64 v96), (11, .int .i64 v103), (12, .bool (nth (nth a0.bars v96) v103)), (94, .lst (List.map (eL eBool false) a0.bars) false false), (95, .int .i64 (a0.bars.length : Int)), (96, .int .i64 v96), (101, .lst (List.map eBool (nth a0.bars v96)) false false), (102, .int .i64 ((nth a0.bars v96).length : Int)), (103, .int .i64 v103)]), [(2, [.int .i64 0, .int .i64 0]), (1, (ePlan false a0))], []⟩ (True) ?_ (fun q46 => ?_)
                · replace h := q59
                  refine rgS [] 28 ?_
                  have q47 := h
                  refine sIdx 2 (some 106) [(105, .int .i64 v103)] eBool (nth a0.bars v96) 1 q47 ?_
                  refine sEnd [(12, .bool (nth (nth a0.bars v96) v103)), (11, .int .i64 v103), (107, .bool (nth (nth a0.bars v96) v103))] ?_
                  refine QJoin.normal trivial ?_
                  exact wkJ (by kernel_rfl)
                unfold spec_PlanOk_C1 at h
                obtain ⟨q58, h⟩ := h
                refine cSeqG ⟨(mkS 147 [(1, .lptr 1 0), (2, .lptr 2 0), (9, .int .i64 v96), (94, .lst (List.map (eL eBool false) a0.bars) false false), (95, .int .i64 (a0.bars.length : Int)), (96, .int .i64 v96), (101, .lst (List.map eBool (nth a0.bars v96)) false false), (102, .int .i64 ((nth a0.bars v96).length : Int)), (103, .int .i64 v103), (141, .bool (((nth (nth a0.bars v96) v103) != (nth (nth a0.bars v103) v96)) || ((v96 != v103) && ((!(nth (nth a0.bars v96) v103)) && (meets ((nth a0.ways v96).sections) ((nth a0.ways v103).sections))))))]), [(2, [.int .i64 0, .int .i64 0]), (1, (ePlan false a0))], []⟩ (True) ?_ (fun q48 => ?_)
                · replace h := q58
                  refine rgD [] 29 spec_PlanOk_o29 spec_PlanOk_o29a ?_
                  obtain ⟨q55, h⟩ := h
                  refine tIdx 5 (some 112) [(111, .int .i64 v103), (110, .lst (List.map (eL eBool false) a0.bars) false false), (109, .lptr 1 3), (108, .bool (nth (nth a0.bars v96) v103))] (eL eBool false) a0.bars 1 q55 ?_
                  obtain ⟨q54, h⟩ := h
                  refine tIdx 3 (some 115) [(114, .int .i64 v96), (113, .lst (List.map eBool (nth a0.bars v103)) false false)] eBool (nth a0.bars v103) 1 q54 ?_
                  refine tCase 3 [(118, .bool ((nth (nth a0.bars v96) v103) != (nth (nth a0.bars v103) v96))), (117, .bool ((nth (nth a0.bars v96) v103) != (nth (nth a0.bars v103) v96))), (116, .bool (nth (nth a0.bars v103) v96))] 118 ((nth (nth a0.bars v96) v103) != (nth (nth a0.bars v103) v96)) (fun q49 => ?_) (fun q49 => ?_)
                  · skip
                    refine tEnd [(141, .bool true), (140, .tup []), (139, .tup []), (138, .tup []), (137, .tup []), (136, .tup []), (135, .tup []), (134, .tup []), (133, .tup []), (132, .tup []), (131, .tup []), (130, .tup []), (129, .tup []), (128, .tup []), (127, .tup []), (126, .tup []), (125, .tup []), (124, .tup []), (123, .tup []), (122, .tup []), (121, .tup []), (120, .tup []), (119, .tup [])] ?_
                    refine QJoin.normal trivial ?_
                    exact wkJ (by simp only [q2, q15, q20, q21.2, q31, q35, q43, q49, Bool.true_or, Bool.false_or, Bool.true_and, Bool.false_and, Bool.not_true, Bool.not_false, Bool.and_true, Bool.and_false, Bool.or_true, Bool.or_false, cond_true, cond_false] <;> kernel_rfl)
                  · replace h := h q49
                    refine tCase 4 [(122, .bool (v96 != v103)), (121, .bool (v96 != v103)), (120, .int .i64 v103), (119, .int .i64 v96)] 122 (v96 != v103) (fun q50 => ?_) (fun q50 => ?_)
                    · replace h := h q50
                      refine tCase 4 [(126, .bool (!(nth (nth a0.bars v96) v103))), (125, .bool (!(nth (nth a0.bars v96) v103))), (124, .bool (!(nth (nth a0.bars v96) v103))), (123, .bool (nth (nth a0.bars v96) v103))] 126 (!(nth (nth a0.bars v96) v103)) (fun q51 => ?_) (fun q51 => ?_)
                      · replace h := h q51
                        obtain ⟨q53, h⟩ := h
                        refine tIdx 4 (some 130) [(129, .int .i64 v96), (128, .lst (List.map (eWay false) a0.ways) false false), (127, .lptr 1 2)] (eWay false) a0.ways 5 q53 ?_
                        have q52 := h
                        refine tIdx 6 (some 136) [(135, .int .i64 v103), (134, .lst (List.map (eWay false) a0.ways) false false), (133, .lptr 1 2), (132, .lst (List.map eInt ((nth a0.ways v96).sections)) false false), (131, .rp (eWay false (nth a0.ways v96)) 0)] (eWay false) a0.ways 5 q52 ?_
                        refine tCallV 3 (some 139) [(138, .lst (List.map eInt ((nth a0.ways v103).sections)) false false), (137, .rp (eWay false (nth a0.ways v103)) 0)] [.lst (List.map eInt ((nth a0.ways v96).sections)) false false, .lst (List.map eInt ((nth a0.ways v103).sections)) false false] (spec_l1meet_V ((nth a0.ways v96).sections) ((nth a0.ways v103).sections)) (PW.cons (Snap2.of1 sa_lst) (PW.cons (Snap2.of1 sa_lst) PW.nil)) ?_
                        refine tEnd [(141, .bool (meets ((nth a0.ways v96).sections) ((nth a0.ways v103).sections))), (140, .bool (meets ((nth a0.ways v96).sections) ((nth a0.ways v103).sections)))] ?_
                        refine QJoin.normal trivial ?_
                        exact wkJ (by simp only [q2, q15, q20, q21.2, q31, q35, q43, q49, q50, q51, Bool.true_or, Bool.false_or, Bool.true_and, Bool.false_and, Bool.not_true, Bool.not_false, Bool.and_true, Bool.and_false, Bool.or_true, Bool.or_false, cond_true, cond_false] <;> kernel_rfl)
                      · skip
                        refine tEnd [(141, .bool false), (140, .bool false), (139, .tup []), (138, .tup []), (137, .tup []), (136, .tup []), (135, .tup []), (134, .tup []), (133, .tup []), (132, .tup []), (131, .tup []), (130, .tup []), (129, .tup []), (128, .tup []), (127, .tup [])] ?_
                        refine QJoin.normal trivial ?_
                        exact wkJ (by simp only [q2, q15, q20, q21.2, q31, q35, q43, q49, q50, q51, Bool.true_or, Bool.false_or, Bool.true_and, Bool.false_and, Bool.not_true, Bool.not_false, Bool.and_true, Bool.and_false, Bool.or_true, Bool.or_false, cond_true, cond_false] <;> kernel_rfl)
                    · skip
                      refine tEnd [(141, .bool false), (140, .bool false), (139, .tup []), (138, .tup []), (137, .tup []), (136, .tup []), (135, .tup []), (134, .tup []), (133, .tup []), (132, .tup []), (131, .tup []), (130, .tup []), (129, .tup []), (128, .tup []), (127, .tup []), (126, .bool false), (125, .bool false), (124, .tup []), (123, .tup [])] ?_
                      refine QJoin.normal trivial ?_
                      exact wkJ (by simp only [q2, q15, q20, q21.2, q31, q35, q43, q49, q50, Bool.true_or, Bool.false_or, Bool.true_and, Bool.false_and, Bool.not_true, Bool.not_false, Bool.and_true, Bool.and_false, Bool.or_true, Bool.or_false, cond_true, cond_false] <;> kernel_rfl)
                refine cCond (.tmp 141) (((nth (nth a0.bars v96) v103) != (nth (nth a0.bars v103) v96)) || ((v96 != v103) && ((!(nth (nth a0.bars v96) v103)) && (meets ((nth a0.ways v96).sections) ((nth a0.ways v103).sections))))) (fun q56 => ?_) (fun q56 => ?_)
                · replace h := h q56
                  refine cSeqG ⟨(mkS 147 [(2, .lptr 2 0)]), [(2, [.int .i64 5, .int .i64 v96]), (1, (ePlan false a0))], []⟩ (True) ?_ (fun q57 => ?_)
                  · skip
                    refine rgS [] 30 ?_
                    refine sEnd' [(143, .agg [.int .i64 5, .int .i64 v96]), (142, .int .i64 v96)] [(2, [.int .i64 5, .int .i64 v96]), (1, (ePlan false a0))] [] ?_
                    refine QJoin.normal trivial ?_
                    exact wkJ (by kernel_rfl)
                  refine cRet ?_
                  refine QBlock.ret ?_
                  refine QJoin.ret ?_
                  refine QRound.ret ?_
                  refine QBlock.ret ?_
                  refine QBlock.ret ?_
                  refine QSeq.ret ?_
                  refine QRound.ret ?_
                  refine QBlock.ret ?_
                  refine QSeq.ret ?_
                  refine rtS (.agg [.int .i64 5, .int .i64 v96]) [.agg [.int .i64 5, .int .i64 v96]] ?_
                  exact (SnapR3.agg (PW.cons (sr_int (H := []) (a := 5) (b := res.code) h.1) (PW.cons (sr_int (H := []) (a := v96) (b := res.pos) h.2) PW.nil)))
                · skip
                  refine cSkip ?_
                  refine QBlock.normal ?_
                  refine QJoin.normal (by simp only [q2, q15, q20, q21.2, q31, q35, q43, q56, Bool.true_or, Bool.false_or, Bool.true_and, Bool.false_and, Bool.not_true, Bool.not_false, Bool.and_true, Bool.and_false, Bool.or_true, Bool.or_false, cond_true, cond_false]) ?_
                  exact wkJ (by kernel_rfl)
              replace h := h q45
              refine rgS [] 31 ?_
              refine sEnd [(103, .int .i64 (IntKind.i64.wrap (v103 + 1))), (144, .int .i64 (IntKind.i64.wrap (v103 + 1)))] ?_
              exact QRound.again (IntKind.i64.wrap (v103 + 1)) h (wkL [])
          replace h := h q30
          unfold spec_PlanOk_C4 at h
          obtain ⟨q75, h⟩ := h
          refine cSeqG ⟨(mkS 147 [(1, .lptr 1 0), (2, .lptr 2 0), (77, .lst (List.map (eL eBool false) a0.bars) false false), (78, .int .i64 (a0.bars.length : Int)), (79, .int .i64 v79)]), [(2, [.int .i64 0, .int .i64 0]), (1, (ePlan false a0))], []⟩ (((nth a0.bars v79).length ≤ 4611686018427387904) ∧ ((!(((nth a0.bars v79).length : Int) != (a0.ways.length : Int))) = true)) ?_ (fun q66 => ?_)
          · replace h := q75
            refine cBlock 5 ?_
            obtain ⟨q74, h⟩ := h
            refine cSeqG ⟨(mkS 147 [(1, .lptr 1 0), (2, .lptr 2 0), (7, .int .i64 v79), (8, .lst (List.map eBool (nth a0.bars v79)) false false), (77, .lst (List.map (eL eBool false) a0.bars) false false), (78, .int .i64 (a0.bars.length : Int)), (79, .int .i64 v79)]), [(2, [.int .i64 0, .int .i64 0]), (1, (ePlan false a0))], []⟩ (True) ?_ (fun q67 => ?_)
            · replace h := q74
              refine rgS [] 19 ?_
              have q68 := h
              refine sIdx 2 (some 82) [(81, .int .i64 v79)] (eL eBool false) a0.bars 1 q68 ?_
              refine sEnd [(8, .lst (List.map eBool (nth a0.bars v79)) false false), (7, .int .i64 v79), (83, .lst (List.map eBool (nth a0.bars v79)) false false)] ?_
              refine QJoin.normal trivial ?_
              exact wkJ (by kernel_rfl)
            refine cSeqG ⟨(mkS 147 [(1, .lptr 1 0), (2, .lptr 2 0), (7, .int .i64 v79), (77, .lst (List.map (eL eBool false) a0.bars) false false), (78, .int .i64 (a0.bars.length : Int)), (79, .int .i64 v79), (89, .bool (((nth a0.bars v79).length : Int) != (a0.ways.length : Int)))]), [(2, [.int .i64 0, .int .i64 0]), (1, (ePlan false a0))], []⟩ ((nth a0.bars v79).length ≤ 4611686018427387904) ?_ (fun q69 => ?_)
            · skip
              refine rgS [] 20 ?_
              refine sLen 2 (some 85) [(84, .lst (List.map eBool (nth a0.bars v79)) false false)] eBool (nth a0.bars v79) (fun q70 => ?_)
              refine sLen 3 (some 88) [(87, .lst (List.map (eWay false) a0.ways) false false), (86, .lptr 1 2)] (eWay false) a0.ways (fun q71 => ?_)
              refine sEnd [(89, .bool (((nth a0.bars v79).length : Int) != (a0.ways.length : Int)))] ?_
              refine QJoin.normal q70 ?_
              exact wkJ (by kernel_rfl)
            replace h := h q69
            refine cCond (.tmp 89) (((nth a0.bars v79).length : Int) != (a0.ways.length : Int)) (fun q72 => ?_) (fun q72 => ?_)
            · replace h := h q72
              refine cSeqG ⟨(mkS 147 [(2, .lptr 2 0)]), [(2, [.int .i64 4, .int .i64 v79]), (1, (ePlan false a0))], []⟩ (True) ?_ (fun q73 => ?_)
              · skip
                refine rgS [] 21 ?_
                refine sEnd' [(91, .agg [.int .i64 4, .int .i64 v79]), (90, .int .i64 v79)] [(2, [.int .i64 4, .int .i64 v79]), (1, (ePlan false a0))] [] ?_
                refine QJoin.normal trivial ?_
                exact wkJ (by kernel_rfl)
              refine cRet ?_
              refine QBlock.ret ?_
              refine QJoin.ret ?_
              refine QRound.ret ?_
              refine QBlock.ret ?_
              refine QSeq.ret ?_
              refine rtS (.agg [.int .i64 4, .int .i64 v79]) [.agg [.int .i64 4, .int .i64 v79]] ?_
              exact (SnapR3.agg (PW.cons (sr_int (H := []) (a := 4) (b := res.code) h.1) (PW.cons (sr_int (H := []) (a := v79) (b := res.pos) h.2) PW.nil)))
            · skip
              refine cSkip ?_
              refine QBlock.normal ?_
              refine QJoin.normal ⟨q69, (by simp only [q2, q15, q20, q21.2, q30, q72, Bool.true_or, Bool.false_or, Bool.true_and, Bool.false_and, Bool.not_true, Bool.not_false, Bool.and_true, Bool.and_false, Bool.or_true, Bool.or_false, cond_true, cond_false])⟩ ?_
              exact wkJ (by kernel_rfl)
          replace h := h q66
          refine rgS [] 22 ?_
          refine sEnd [(79, .int .i64 (IntKind.i64.wrap (v79 + 1))), (92, .int .i64 (IntKind.i64.wrap (v79 + 1)))] ?_
          exact QRound.again (IntKind.i64.wrap (v79 + 1)) h (wkL [])
      replace h := h q19
      obtain ⟨q88, h⟩ := h
      refine cSeqG ⟨(mkS 147 [(1, .lptr 1 0), (2, .lptr 2 0), (54, .lst (List.map (eWay false) a0.ways) false false), (55, .int .i64 (a0.ways.length : Int)), (56, .int .i64 v56)]), [(6, (eWay false (nth a0.ways v56))), (2, [.int .i64 0, .int .i64 0]), (1, (ePlan false a0))], []⟩ ((!(!(wayGood a0 (nth a0.ways v56)))) = true) ?_ (fun q79 => ?_)
      · replace h := q88
        refine cBlock 3 ?_
        obtain ⟨q87, h⟩ := h
        refine cSeqG ⟨(mkS 147 [(1, .lptr 1 0), (2, .lptr 2 0), (5, .int .i64 v56), (6, .lptr 6 0), (54, .lst (List.map (eWay false) a0.ways) false false), (55, .int .i64 (a0.ways.length : Int)), (56, .int .i64 v56)]), [(6, (eWay false (nth a0.ways v56))), (2, [.int .i64 0, .int .i64 0]), (1, (ePlan false a0))], []⟩ (True) ?_ (fun q80 => ?_)
        · replace h := q87
          refine rgS [] 11 ?_
          have q81 := h
          refine sIdx 2 (some 59) [(58, .int .i64 v56)] (eWay false) a0.ways 5 q81 ?_
          refine sEnd' [(5, .int .i64 v56), (6, .lptr 6 0), (60, .agg (eWay false (nth a0.ways v56)))] [(6, (eWay false (nth a0.ways v56))), (2, [.int .i64 0, .int .i64 0]), (1, (ePlan false a0))] [] ?_
          refine QJoin.normal trivial ?_
          exact wkJ (by kernel_rfl)
        obtain ⟨q86, h⟩ := h
        refine cSeqG ⟨(mkS 147 [(1, .lptr 1 0), (2, .lptr 2 0), (5, .int .i64 v56), (54, .lst (List.map (eWay false) a0.ways) false false), (55, .int .i64 (a0.ways.length : Int)), (56, .int .i64 v56), (64, .bool (!(wayGood a0 (nth a0.ways v56))))]), [(6, (eWay false (nth a0.ways v56))), (2, [.int .i64 0, .int .i64 0]), (1, (ePlan false a0))], []⟩ (True) ?_ (fun q82 => ?_)
        · replace h := q86
          refine rgS [] 12 ?_
          have q83 := h
          refine sCallV 3 (some 63) [(62, .agg (eWay false (nth a0.ways v56))), (61, .agg (ePlan false a0))] [.agg (ePlan false a0), .agg (eWay false (nth a0.ways v56))] (spec_l1way_V a0 (nth a0.ways v56) q83) (PW.cons (Snap2.agg (PW.cons (.int _ _) (PW.cons sa_lst (PW.cons sa_lst (PW.cons sa_lst (PW.cons (.int _ _) PW.nil)))))) (PW.cons (Snap2.agg (PW.cons sa_lst (PW.cons sa_lst (PW.cons sa_lst (PW.cons sa_lst (PW.cons sa_lst PW.nil)))))) PW.nil)) ?_
          refine sEnd [(64, .bool (!(wayGood a0 (nth a0.ways v56))))] ?_
          refine QJoin.normal trivial ?_
          exact wkJ (by kernel_rfl)
        refine cCond (.tmp 64) (!(wayGood a0 (nth a0.ways v56))) (fun q84 => ?_) (fun q84 => ?_)
        · replace h := h q84
          refine cSeqG ⟨(mkS 147 [(2, .lptr 2 0)]), [(6, (eWay false (nth a0.ways v56))), (2, [.int .i64 3, .int .i64 v56]), (1, (ePlan false a0))], []⟩ (True) ?_ (fun q85 => ?_)
          · skip
            refine rgS [] 13 ?_
            refine sEnd' [(66, .agg [.int .i64 3, .int .i64 v56]), (65, .int .i64 v56)] [(6, (eWay false (nth a0.ways v56))), (2, [.int .i64 3, .int .i64 v56]), (1, (ePlan false a0))] [] ?_
            refine QJoin.normal trivial ?_
            exact wkJ (by kernel_rfl)
          refine cRet ?_
          refine QBlock.ret ?_
          refine QJoin.ret ?_
          refine QRound.ret ?_
          refine QBlock.ret ?_
          refine QSeq.ret ?_
          refine rtS (.agg [.int .i64 3, .int .i64 v56]) [.agg [.int .i64 3, .int .i64 v56]] ?_
          exact (SnapR3.agg (PW.cons (sr_int (H := []) (a := 3) (b := res.code) h.1) (PW.cons (sr_int (H := []) (a := v56) (b := res.pos) h.2) PW.nil)))
        · skip
          refine cSkip ?_
          refine QBlock.normal ?_
          refine QJoin.normal (by simp only [q2, q15, q19, q84, Bool.true_or, Bool.false_or, Bool.true_and, Bool.false_and, Bool.not_true, Bool.not_false, Bool.and_true, Bool.and_false, Bool.or_true, Bool.or_false, cond_true, cond_false]) ?_
          exact wkJ (by kernel_rfl)
      replace h := h q79
      refine rgS [] 14 ?_
      refine sEnd [(56, .int .i64 (IntKind.i64.wrap (v56 + 1))), (67, .int .i64 (IntKind.i64.wrap (v56 + 1)))] ?_
      exact QRound.again (IntKind.i64.wrap (v56 + 1)) h (wkL [6])
  replace h := h q14
  obtain ⟨q98, h⟩ := h
  refine cSeqG ⟨(mkS 147 [(1, .lptr 1 0), (2, .lptr 2 0), (37, .lst (List.map eInt a0.switches) false false), (38, .int .i64 (a0.switches.length : Int)), (39, .int .i64 v39)]), [(2, [.int .i64 0, .int .i64 0]), (1, (ePlan false a0))], []⟩ ((!(!(inR (nth a0.switches v39) 0 (IntKind.i64.wrap (a0.sections - 1))))) = true) ?_ (fun q91 => ?_)
  · replace h := q98
    refine cBlock 1 ?_
    obtain ⟨q97, h⟩ := h
    refine cSeqG ⟨(mkS 147 [(1, .lptr 1 0), (2, .lptr 2 0), (3, .int .i64 v39), (4, .int .i64 (nth a0.switches v39)), (37, .lst (List.map eInt a0.switches) false false), (38, .int .i64 (a0.switches.length : Int)), (39, .int .i64 v39)]), [(2, [.int .i64 0, .int .i64 0]), (1, (ePlan false a0))], []⟩ (True) ?_ (fun q92 => ?_)
    · replace h := q97
      refine rgS [] 5 ?_
      have q93 := h
      refine sIdx 2 (some 42) [(41, .int .i64 v39)] eInt a0.switches 1 q93 ?_
      refine sEnd [(4, .int .i64 (nth a0.switches v39)), (3, .int .i64 v39), (43, .int .i64 (nth a0.switches v39))] ?_
      refine QJoin.normal trivial ?_
      exact wkJ (by kernel_rfl)
    refine cSeqG ⟨(mkS 147 [(1, .lptr 1 0), (2, .lptr 2 0), (3, .int .i64 v39), (37, .lst (List.map eInt a0.switches) false false), (38, .int .i64 (a0.switches.length : Int)), (39, .int .i64 v39), (49, .bool (!(inR (nth a0.switches v39) 0 (IntKind.i64.wrap (a0.sections - 1)))))]), [(2, [.int .i64 0, .int .i64 0]), (1, (ePlan false a0))], []⟩ (True) ?_ (fun q94 => ?_)
    · skip
      refine rgS [] 6 ?_
      refine sCallV 5 (some 48) [(47, .int .i64 (IntKind.i64.wrap (a0.sections - 1))), (46, .int .i64 a0.sections), (45, .lptr 1 0), (44, .int .i64 (nth a0.switches v39))] [.int .i64 (nth a0.switches v39), .int .i64 0, .int .i64 (IntKind.i64.wrap (a0.sections - 1))] (spec_l1in_V (nth a0.switches v39) 0 (IntKind.i64.wrap (a0.sections - 1))) (PW.cons (Snap2.of1 (.int _ _)) (PW.cons (Snap2.of1 (.int _ _)) (PW.cons (Snap2.of1 (.int _ _)) PW.nil))) ?_
      refine sEnd [(49, .bool (!(inR (nth a0.switches v39) 0 (IntKind.i64.wrap (a0.sections - 1)))))] ?_
      refine QJoin.normal trivial ?_
      exact wkJ (by kernel_rfl)
    refine cCond (.tmp 49) (!(inR (nth a0.switches v39) 0 (IntKind.i64.wrap (a0.sections - 1)))) (fun q95 => ?_) (fun q95 => ?_)
    · replace h := h q95
      refine cSeqG ⟨(mkS 147 [(2, .lptr 2 0)]), [(2, [.int .i64 2, .int .i64 v39]), (1, (ePlan false a0))], []⟩ (True) ?_ (fun q96 => ?_)
      · skip
        refine rgS [] 7 ?_
        refine sEnd' [(51, .agg [.int .i64 2, .int .i64 v39]), (50, .int .i64 v39)] [(2, [.int .i64 2, .int .i64 v39]), (1, (ePlan false a0))] [] ?_
        refine QJoin.normal trivial ?_
        exact wkJ (by kernel_rfl)
      refine cRet ?_
      refine QBlock.ret ?_
      refine QJoin.ret ?_
      refine QRound.ret ?_
      refine QBlock.ret ?_
      refine QSeq.ret ?_
      refine rtS (.agg [.int .i64 2, .int .i64 v39]) [.agg [.int .i64 2, .int .i64 v39]] ?_
      exact (SnapR3.agg (PW.cons (sr_int (H := []) (a := 2) (b := res.code) h.1) (PW.cons (sr_int (H := []) (a := v39) (b := res.pos) h.2) PW.nil)))
    · skip
      refine cSkip ?_
      refine QBlock.normal ?_
      refine QJoin.normal (by simp only [q2, q14, q95, Bool.true_or, Bool.false_or, Bool.true_and, Bool.false_and, Bool.not_true, Bool.not_false, Bool.and_true, Bool.and_false, Bool.or_true, Bool.or_false, cond_true, cond_false]) ?_
      exact wkJ (by kernel_rfl)
  replace h := h q91
  refine rgS [] 8 ?_
  refine sEnd [(39, .int .i64 (IntKind.i64.wrap (v39 + 1))), (52, .int .i64 (IntKind.i64.wrap (v39 + 1)))] ?_
  exact QRound.again (IntKind.i64.wrap (v39 + 1)) h (wkL [])

set_option maxHeartbeats 4000000 in
theorem spec_PlanOk_vc (a0 : Plan) : spec_PlanOk_C a0 (planOk a0) (upI a0.switches.length (fun j => !inR (nth a0.switches j) 0 (a0.sections - 1))) (upM a0.switches.length) (fun _ => upI a0.ways.length (fun j => !wayGood a0 (nth a0.ways j))) (fun _ => upM a0.ways.length) (fun _ _ => upI a0.bars.length (fun j => decide ((nth a0.bars j).length ≠ a0.ways.length))) (fun _ _ => upM a0.bars.length) (fun _ _ _ => upI a0.ways.length (fun i => (List.range a0.ways.length).any fun k => barBad a0 i.toNat k)) (fun _ _ _ => upM a0.ways.length) (fun _ _ _ i => upI a0.ways.length (fun k => barBad a0 i.toNat k.toNat)) (fun _ _ _ _ => upM a0.ways.length) := by
  unfold spec_PlanOk_C spec_PlanOk_C8
  refine ⟨fun h => ?_, fun h hn0 => ?_⟩
  · have hb : planBase a0 = false := by
      rw [← Bool.not_eq_true, planBase_iff]
      intro hb
      simp [inR] at h
      omega
    rw [planOk_1 hb]; exact ⟨rfl, rfl⟩
  · have hb : planBase a0 = true := by
      rw [planBase_iff]
      simp [inR] at h
      omega
    have hB := planBase_iff.1 hb
    refine ⟨up_start (len0 _), fun v0 hI0 => ?_⟩
    unfold spec_PlanOk_C7
    refine ⟨fun e0 hn1 => ?_, fun hv0 => ?_⟩
    case refine_2 =>
      rw [w64 (n := a0.sections - 1) (by omega) (by omega)]
      refine ⟨⟨up_in hI0 hv0, fun hbad => ?_⟩, fun hok => up_step (lenI hn0) hI0 hv0 (not_eq hok)⟩
      rw [planOk_2 hb (up_first (q := fun s => !inR s 0 (a0.sections - 1)) hI0 hv0 hbad)]
      have := hI0.1
      exact ⟨rfl, by show v0 = (v0.toNat : Int); omega⟩
    have f0 := up_none (q := fun s => !inR s 0 (a0.sections - 1)) hI0 e0
    refine ⟨up_start (len0 _), fun v1 hI1 => ?_⟩
    unfold spec_PlanOk_C6
    refine ⟨fun e1 => ?_, fun hv1 => ?_⟩
    case refine_2 =>
      refine ⟨⟨up_in hI1 hv1, ⟨by omega, by omega⟩, fun hbad => ?_⟩, fun hok => up_step (lenI hn1) hI1 hv1 (not_eq hok)⟩
      rw [planOk_3 hb f0 (up_first (q := fun w => !wayGood a0 w) hI1 hv1 hbad)]
      have := hI1.1
      exact ⟨rfl, by show v1 = (v1.toNat : Int); omega⟩
    have f1 := up_none (q := fun w => !wayGood a0 w) hI1 e1
    rw [planOk_b hb f0 f1]
    refine ⟨fun hm hne => ?_, fun ⟨hm, hne⟩ => ?_⟩
    · have hne : a0.bars.length ≠ a0.ways.length := by
        intro e; rw [e] at hne; simp at hne
      rw [planBars_l hne]; exact ⟨rfl, rfl⟩
    have hl : a0.bars.length = a0.ways.length := by
      have : (a0.bars.length : Int) = a0.ways.length := by simpa using hne
      omega
    refine ⟨up_start (len0 _), fun v2 hI2 => ?_⟩
    unfold spec_PlanOk_C5
    refine ⟨fun e2 => ?_, fun hv2 => ?_⟩
    case refine_2 =>
      have hcond : (((nth a0.bars v2).length : Int) != (a0.ways.length : Int)) = decide ((nth a0.bars v2).length ≠ a0.ways.length) := by
        rw [Bool.eq_iff_iff]; simp; omega
      unfold spec_PlanOk_C4
      rw [hcond]
      refine ⟨⟨up_in hI2 hv2, fun hr hbad => ?_⟩, fun ⟨hr, hok⟩ => up_step (lenI hm) hI2 hv2 (not_eq hok)⟩
      rw [planBars_4 hl (up_first (q := fun b => decide (b.length ≠ a0.ways.length)) hI2 hv2 hbad)]
      have := hI2.1
      exact ⟨rfl, by show v2 = (v2.toNat : Int); omega⟩
    have f2 := up_none (q := fun b : List Bool => decide (b.length ≠ a0.ways.length)) hI2 e2
    have rl : ∀ i : Int, 0 ≤ i → i < a0.ways.length → (nth a0.bars i).length = a0.ways.length := fun i i0 i1 => by
      have := up_end hI2 e2 i i0 (by omega)
      simpa using this
    refine ⟨up_start (len0 _), fun v3 hI3 => ⟨fun e3 => ?_, fun hv3 => ?_⟩⟩
    · have e3 : decide (v3 < (a0.ways.length : Int)) = false := by rw [← hl]; exact e3
      rw [planBars_0 hl f2 (first_range_none fun j j0 j1 => up_end hI3 e3 j j0 j1)]
      exact ⟨rfl, rfl⟩
    · have hv3' : v3 < (a0.ways.length : Int) := by rw [← hl]; simpa using hv3
      have h30 := hI3.1
      have r3 := rl v3 hI3.1 hv3'
      refine ⟨⟨h30, by omega⟩, ?_⟩
      unfold spec_PlanOk_C3
      rw [r3]
      intro _
      refine ⟨up_start (len0 _), fun v4 hI4 => ?_⟩
      unfold spec_PlanOk_C2 spec_PlanOk_C1
      rw [bars_bad hI3.1 hI4.1, r3]
      have h40 := hI4.1
      refine ⟨fun e4 => up_step (by omega) hI3 (by simpa using hv3') (nany_range fun j j0 j1 => up_end hI4 e4 j j0 j1), fun hv4 => ?_⟩
      have hv4' : v4 < (a0.ways.length : Int) := by simpa using hv4
      have r4 := rl v4 hI4.1 hv4'
      refine ⟨⟨⟨h40, by omega⟩, ⟨⟨h40, by omega⟩, ⟨h30, by omega⟩, fun _ _ _ => ⟨⟨h30, by omega⟩, ⟨h40, by omega⟩⟩⟩, fun hbad => ?_⟩, fun hok => up_step (by omega) hI4 hv4 (not_eq hok)⟩
      rw [planBars_5 hl f2 (first_range_some h30 hv3' (fun j j0 j1 => hI3.2.2 j j0 j1) (any_range h40 hv4' hbad))]
      exact ⟨rfl, by show v3 = (v3.toNat : Int); omega⟩

theorem spec_PlanOk_V (a0 : Plan) : FnV Try.prog 24 [.agg (ePlan false a0)] (.agg (eFault (planOk a0))) := spec_PlanOk_walk a0 (planOk a0) (upI a0.switches.length (fun j => !inR (nth a0.switches j) 0 (a0.sections - 1))) (upM a0.switches.length) (fun _ => upI a0.ways.length (fun j => !wayGood a0 (nth a0.ways j))) (fun _ => upM a0.ways.length) (fun _ _ => upI a0.bars.length (fun j => decide ((nth a0.bars j).length ≠ a0.ways.length))) (fun _ _ => upM a0.bars.length) (fun _ _ _ => upI a0.ways.length (fun i => (List.range a0.ways.length).any fun k => barBad a0 i.toNat k)) (fun _ _ _ => upM a0.ways.length) (fun _ _ _ i => upI a0.ways.length (fun k => barBad a0 i.toNat k.toNat)) (fun _ _ _ _ => upM a0.ways.length) (spec_PlanOk_vc a0)

end Go.Proofs.Ytglpfccgmfhkdaa.Fw
