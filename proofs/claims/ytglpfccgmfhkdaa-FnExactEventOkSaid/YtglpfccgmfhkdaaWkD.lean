/- Walks and summaries of functions, printed by a program of mine (tools/mk.py), with the proofs of what they owe. -/
import Derived.Test.YtglpfccgmfhkdaaProg
import Derived.Test.YtglpfccgmfhkdaaSpD
import Derived.Test.YtglpfccgmfhkdaaWkA
import Derived.Test.YtglpfccgmfhkdaaWkB
import Derived.Test.YtglpfccgmfhkdaaWkC
set_option linter.unusedVariables false
set_option maxRecDepth 100000
set_option linter.unusedSimpArgs false
namespace Go.Proofs.Ytglpfccgmfhkdaa.Fw
open Go
attribute [local irreducible] evS evSD WpS Weak Oper.looksAt
noncomputable def spec_l1ok_b : Code := bodyC Try.f77
def spec_l1ok_C (a0 : Plan) (res : Bool) : Prop :=
  (((planOk a0).code) == 0) = res
set_option maxHeartbeats 4000000 in
theorem spec_l1ok_walk (a0 : Plan) (res : Bool) (h : spec_l1ok_C a0 res) : FnV Try.prog 77 [.agg (ePlan false a0)] (.bool res) := by
  unfold spec_l1ok_C at h
  refine FnS.of_body (fn := Try.f77) (c := spec_l1ok_b) Try.func77 (by kernel_rfl) (by kernel_rfl) ?_
  refine WpS.codeIs (c' := (nv spec_l1ok_b 1)) (by kernel_rfl) ?_
  refine WpS.start (st' := ⟨(mkS 9 [(0, .agg (ePlan false a0))]), [], []⟩) (by kernel_rfl) ?_
  refine cSeqG ⟨(mkS 9 [(1, .lptr 1 0)]), [(1, (ePlan false a0))], []⟩ (True) ?_ (fun q1 => ?_)
  · skip
    refine rgS [] 0 ?_
    refine sEnd' [(2, .bool false), (1, .lptr 1 0)] [(1, (ePlan false a0))] [] ?_
    refine QJoin.normal trivial ?_
    exact wkJ (by kernel_rfl)
  refine cSeqG ⟨(mkS 9 [(3, .lptr 3 0)]), [(3, (eFault (planOk a0))), (1, (ePlan false a0))], []⟩ (True) ?_ (fun q2 => ?_)
  · skip
    refine rgS [] 1 ?_
    refine sCallV 2 (some 5) [(4, .agg (ePlan false a0))] [.agg (ePlan false a0)] (spec_PlanOk_V a0) (PW.cons (Snap2.agg (PW.cons (.int _ _) (PW.cons sa_lst (PW.cons sa_lst (PW.cons sa_lst (PW.cons (.int _ _) PW.nil)))))) PW.nil) ?_
    refine sEnd' [(3, .lptr 3 0)] [(3, (eFault (planOk a0))), (1, (ePlan false a0))] [] ?_
    refine QJoin.normal trivial ?_
    exact wkJ (by kernel_rfl)
  refine cSeqG ⟨(mkS 9 [(2, .bool (((planOk a0).code) == 0))]), [(3, (eFault (planOk a0))), (1, (ePlan false a0))], []⟩ (True) ?_ (fun q3 => ?_)
  · skip
    refine rgS [] 2 ?_
    refine sEnd [(2, .bool (((planOk a0).code) == 0)), (8, .bool (((planOk a0).code) == 0)), (7, .int .i64 ((planOk a0).code)), (6, .lptr 3 0)] ?_
    refine QJoin.normal trivial ?_
    exact wkJ (by kernel_rfl)
  refine cRet ?_
  refine rtS (.bool (((planOk a0).code) == 0)) [.bool (((planOk a0).code) == 0)] ?_
  exact (SnapR3.of1 (sr_bool (H := []) (a := (((planOk a0).code) == 0)) (b := res) h))

set_option maxHeartbeats 4000000 in
theorem spec_l1ok_vc (a0 : Plan) : spec_l1ok_C a0 (planGood a0) := by
  exact planOk_code a0

theorem spec_l1ok_V (a0 : Plan) : FnV Try.prog 77 [.agg (ePlan false a0)] (.bool (planGood a0)) := spec_l1ok_walk a0 (planGood a0) (spec_l1ok_vc a0)

noncomputable def spec_l2event_b : Code := bodyC Try.f78
def spec_l2event_C1 (a0 : Plan) (a1 : Event) (res : Bool) : Prop :=
  ((a1.op == 5) = true → a0.switches.length ≤ 4611686018427387904 → ((inR a1.tgt 0 (IntKind.i64.wrap ((a0.switches.length : Int) - 1))) && (inR a1.lie 0 2)) = res) ∧ ((a1.op == 5) = false → ((a1.op == 6) = true → a0.switches.length ≤ 4611686018427387904 → ((inR a1.tgt 0 (IntKind.i64.wrap ((a0.switches.length : Int) - 1))) && (inR a1.lie 1 2)) = res) ∧ ((a1.op == 6) = false → (a1.op == 7) = true → ((a1.tgt == 0) && (a1.lie == 0)) = res))
def spec_l2event_C2 (a0 : Plan) (a1 : Event) (res : Bool) : Prop :=
  ((bif (a1.op == 1) then (a1.op == 1) else (a1.op == 2)) = true → a0.ways.length ≤ 4611686018427387904 → ((inR a1.tgt 0 (IntKind.i64.wrap ((a0.ways.length : Int) - 1))) && (a1.lie == 0)) = res) ∧ ((bif (a1.op == 1) then (a1.op == 1) else (a1.op == 2)) = false → ((bif (a1.op == 3) then (a1.op == 3) else (a1.op == 4)) = true → ((inR a1.tgt 0 (IntKind.i64.wrap (a0.sections - 1))) && (a1.lie == 0)) = res) ∧ ((bif (a1.op == 3) then (a1.op == 3) else (a1.op == 4)) = false → spec_l2event_C1 a0 a1 res))
def spec_l2event_C (a0 : Plan) (a1 : Event) (res : Bool) : Prop :=
  (spec_l2event_C2 a0 a1 res) ∧ ((!(bif (a1.op == 1) then (a1.op == 1) else (a1.op == 2)) && (!(bif (a1.op == 3) then (a1.op == 3) else (a1.op == 4)) && (!(a1.op == 5) && (!(a1.op == 6) && (!(a1.op == 7)))))) = true → false = res)
set_option maxHeartbeats 4000000 in
theorem spec_l2event_walk (a0 : Plan) (a1 : Event) (res : Bool) (h : spec_l2event_C a0 a1 res) : FnV Try.prog 78 [.agg (ePlan false a0), .agg (eEvent a1)] (.bool res) := by
  unfold spec_l2event_C at h
  refine FnS.of_body (fn := Try.f78) (c := spec_l2event_b) Try.func78 (by kernel_rfl) (by kernel_rfl) ?_
  refine WpS.codeIs (c' := (nv spec_l2event_b 1)) (by kernel_rfl) ?_
  refine WpS.start (st' := ⟨(mkS 74 [(0, .agg (ePlan false a0)), (1, .agg (eEvent a1))]), [], []⟩) (by kernel_rfl) ?_
  refine cSeqG ⟨(mkS 74 [(2, .lptr 2 0), (3, .lptr 3 0)]), [(3, (eEvent a1)), (2, (ePlan false a0))], []⟩ (True) ?_ (fun q1 => ?_)
  · skip
    refine rgS [] 0 ?_
    refine sEnd' [(4, .bool false), (3, .lptr 3 0), (2, .lptr 2 0)] [(3, (eEvent a1)), (2, (ePlan false a0))] [] ?_
    refine QJoin.normal trivial ?_
    exact wkJ (by kernel_rfl)
  obtain ⟨q32, h⟩ := h
  refine cSeqG ⟨(mkS 74 []), [(3, (eEvent a1)), (2, (ePlan false a0))], []⟩ ((!(bif (a1.op == 1) then (a1.op == 1) else (a1.op == 2)) && (!(bif (a1.op == 3) then (a1.op == 3) else (a1.op == 4)) && (!(a1.op == 5) && (!(a1.op == 6) && (!(a1.op == 7)))))) = true) ?_ (fun q2 => ?_)
  · replace h := q32
    refine cSeqG ⟨(mkS 74 [(2, .lptr 2 0), (3, .lptr 3 0), (6, .int .i64 a1.op)]), [(3, (eEvent a1)), (2, (ePlan false a0))], []⟩ (True) ?_ (fun q3 => ?_)
    · skip
      refine rgS [] 1 ?_
      refine sEnd [(6, .int .i64 a1.op), (5, .lptr 3 0)] ?_
      refine QJoin.normal trivial ?_
      exact wkJ (by kernel_rfl)
    refine cBlock 0 ?_
    refine cSeqG ⟨(mkS 74 [(2, .lptr 2 0), (3, .lptr 3 0), (6, .int .i64 a1.op), (7, .bool (bif (a1.op == 1) then (a1.op == 1) else (a1.op == 2)))]), [(3, (eEvent a1)), (2, (ePlan false a0))], []⟩ (True) ?_ (fun q4 => ?_)
    · skip
      refine cSeqG ⟨(mkS 74 [(2, .lptr 2 0), (3, .lptr 3 0), (6, .int .i64 a1.op), (7, .bool (a1.op == 1))]), [(3, (eEvent a1)), (2, (ePlan false a0))], []⟩ (True) ?_ (fun q5 => ?_)
      · skip
        refine rgS [] 2 ?_
        refine sEnd [(7, .bool (a1.op == 1)), (8, .bool (a1.op == 1))] ?_
        refine QJoin.normal trivial ?_
        exact wkJ (by kernel_rfl)
      refine cCond (.tmp 7) (a1.op == 1) (fun q6 => ?_) (fun q6 => ?_)
      · skip
        refine cSkip ?_
        refine QJoin.normal trivial ?_
        exact wkJ (by simp only [q6, Bool.true_or, Bool.false_or, Bool.true_and, Bool.false_and, Bool.not_true, Bool.not_false, Bool.and_true, Bool.and_false, Bool.or_true, Bool.or_false, cond_true, cond_false] <;> kernel_rfl)
      · skip
        refine rgS [] 3 ?_
        refine sEnd [(7, .bool (a1.op == 2)), (9, .bool (a1.op == 2))] ?_
        refine QJoin.normal trivial ?_
        exact wkJ (by simp only [q6, Bool.true_or, Bool.false_or, Bool.true_and, Bool.false_and, Bool.not_true, Bool.not_false, Bool.and_true, Bool.and_false, Bool.or_true, Bool.or_false, cond_true, cond_false] <;> kernel_rfl)
    unfold spec_l2event_C2 at h
    refine cCond (.tmp 7) (bif (a1.op == 1) then (a1.op == 1) else (a1.op == 2)) (fun q7 => ?_) (fun q7 => ?_)
    · replace h := h.1 q7
      refine cSeqG ⟨(mkS 74 [(4, .bool ((inR a1.tgt 0 (IntKind.i64.wrap ((a0.ways.length : Int) - 1))) && (a1.lie == 0)))]), [(3, (eEvent a1)), (2, (ePlan false a0))], []⟩ (a0.ways.length ≤ 4611686018427387904) ?_ (fun q8 => ?_)
      · skip
        refine rgS [] 4 ?_
        refine sLen 5 (some 14) [(13, .lst (List.map (eWay false) a0.ways) false false), (12, .lptr 2 2), (11, .int .i64 a1.tgt), (10, .lptr 3 1)] (eWay false) a0.ways (fun q9 => ?_)
        refine sCallV 2 (some 16) [(15, .int .i64 (IntKind.i64.wrap ((a0.ways.length : Int) - 1)))] [.int .i64 a1.tgt, .int .i64 0, .int .i64 (IntKind.i64.wrap ((a0.ways.length : Int) - 1))] (spec_l1in_V a1.tgt 0 (IntKind.i64.wrap ((a0.ways.length : Int) - 1))) (PW.cons (Snap2.of1 (.int _ _)) (PW.cons (Snap2.of1 (.int _ _)) (PW.cons (Snap2.of1 (.int _ _)) PW.nil))) ?_
        refine sCase 1 [(17, .bool (inR a1.tgt 0 (IntKind.i64.wrap ((a0.ways.length : Int) - 1))))] 17 (inR a1.tgt 0 (IntKind.i64.wrap ((a0.ways.length : Int) - 1))) (fun q10 => ?_) (fun q10 => ?_)
        · skip
          refine sEnd [(4, .bool (a1.lie == 0)), (21, .bool (a1.lie == 0)), (20, .bool (a1.lie == 0)), (19, .int .i64 a1.lie), (18, .lptr 3 2)] ?_
          refine QJoin.normal q9 ?_
          exact wkJ (by simp only [q7, q10, Bool.true_or, Bool.false_or, Bool.true_and, Bool.false_and, Bool.not_true, Bool.not_false, Bool.and_true, Bool.and_false, Bool.or_true, Bool.or_false, cond_true, cond_false] <;> kernel_rfl)
        · skip
          refine sEnd [(4, .bool false), (21, .bool false), (20, .tup []), (19, .tup []), (18, .tup [])] ?_
          refine QJoin.normal q9 ?_
          exact wkJ (by simp only [q7, q10, Bool.true_or, Bool.false_or, Bool.true_and, Bool.false_and, Bool.not_true, Bool.not_false, Bool.and_true, Bool.and_false, Bool.or_true, Bool.or_false, cond_true, cond_false] <;> kernel_rfl)
      replace h := h q8
      refine cRet ?_
      refine QBlock.ret ?_
      refine QJoin.ret ?_
      refine rtS (.bool ((inR a1.tgt 0 (IntKind.i64.wrap ((a0.ways.length : Int) - 1))) && (a1.lie == 0))) [.bool ((inR a1.tgt 0 (IntKind.i64.wrap ((a0.ways.length : Int) - 1))) && (a1.lie == 0))] ?_
      exact (SnapR3.of1 (sr_bool (H := []) (a := ((inR a1.tgt 0 (IntKind.i64.wrap ((a0.ways.length : Int) - 1))) && (a1.lie == 0))) (b := res) h))
    · replace h := h.2 q7
      refine cSeqG ⟨(mkS 74 [(2, .lptr 2 0), (3, .lptr 3 0), (6, .int .i64 a1.op), (22, .bool (bif (a1.op == 3) then (a1.op == 3) else (a1.op == 4)))]), [(3, (eEvent a1)), (2, (ePlan false a0))], []⟩ (True) ?_ (fun q11 => ?_)
      · skip
        refine cSeqG ⟨(mkS 74 [(2, .lptr 2 0), (3, .lptr 3 0), (6, .int .i64 a1.op), (22, .bool (a1.op == 3))]), [(3, (eEvent a1)), (2, (ePlan false a0))], []⟩ (True) ?_ (fun q12 => ?_)
        · skip
          refine rgS [] 5 ?_
          refine sEnd [(22, .bool (a1.op == 3)), (23, .bool (a1.op == 3))] ?_
          refine QJoin.normal trivial ?_
          exact wkJ (by kernel_rfl)
        refine cCond (.tmp 22) (a1.op == 3) (fun q13 => ?_) (fun q13 => ?_)
        · skip
          refine cSkip ?_
          refine QJoin.normal trivial ?_
          exact wkJ (by simp only [q7, q13, Bool.true_or, Bool.false_or, Bool.true_and, Bool.false_and, Bool.not_true, Bool.not_false, Bool.and_true, Bool.and_false, Bool.or_true, Bool.or_false, cond_true, cond_false] <;> kernel_rfl)
        · skip
          refine rgS [] 6 ?_
          refine sEnd [(22, .bool (a1.op == 4)), (24, .bool (a1.op == 4))] ?_
          refine QJoin.normal trivial ?_
          exact wkJ (by simp only [q7, q13, Bool.true_or, Bool.false_or, Bool.true_and, Bool.false_and, Bool.not_true, Bool.not_false, Bool.and_true, Bool.and_false, Bool.or_true, Bool.or_false, cond_true, cond_false] <;> kernel_rfl)
      refine cCond (.tmp 22) (bif (a1.op == 3) then (a1.op == 3) else (a1.op == 4)) (fun q14 => ?_) (fun q14 => ?_)
      · replace h := h.1 q14
        refine cSeqG ⟨(mkS 74 [(4, .bool ((inR a1.tgt 0 (IntKind.i64.wrap (a0.sections - 1))) && (a1.lie == 0)))]), [(3, (eEvent a1)), (2, (ePlan false a0))], []⟩ (True) ?_ (fun q15 => ?_)
        · skip
          refine rgS [] 7 ?_
          refine sCallV 6 (some 30) [(29, .int .i64 (IntKind.i64.wrap (a0.sections - 1))), (28, .int .i64 a0.sections), (27, .lptr 2 0), (26, .int .i64 a1.tgt), (25, .lptr 3 1)] [.int .i64 a1.tgt, .int .i64 0, .int .i64 (IntKind.i64.wrap (a0.sections - 1))] (spec_l1in_V a1.tgt 0 (IntKind.i64.wrap (a0.sections - 1))) (PW.cons (Snap2.of1 (.int _ _)) (PW.cons (Snap2.of1 (.int _ _)) (PW.cons (Snap2.of1 (.int _ _)) PW.nil))) ?_
          refine sCase 1 [(31, .bool (inR a1.tgt 0 (IntKind.i64.wrap (a0.sections - 1))))] 31 (inR a1.tgt 0 (IntKind.i64.wrap (a0.sections - 1))) (fun q16 => ?_) (fun q16 => ?_)
          · skip
            refine sEnd [(4, .bool (a1.lie == 0)), (35, .bool (a1.lie == 0)), (34, .bool (a1.lie == 0)), (33, .int .i64 a1.lie), (32, .lptr 3 2)] ?_
            refine QJoin.normal trivial ?_
            exact wkJ (by simp only [q7, q14, q16, Bool.true_or, Bool.false_or, Bool.true_and, Bool.false_and, Bool.not_true, Bool.not_false, Bool.and_true, Bool.and_false, Bool.or_true, Bool.or_false, cond_true, cond_false] <;> kernel_rfl)
          · skip
            refine sEnd [(4, .bool false), (35, .bool false), (34, .tup []), (33, .tup []), (32, .tup [])] ?_
            refine QJoin.normal trivial ?_
            exact wkJ (by simp only [q7, q14, q16, Bool.true_or, Bool.false_or, Bool.true_and, Bool.false_and, Bool.not_true, Bool.not_false, Bool.and_true, Bool.and_false, Bool.or_true, Bool.or_false, cond_true, cond_false] <;> kernel_rfl)
        refine cRet ?_
        refine QBlock.ret ?_
        refine QJoin.ret ?_
        refine rtS (.bool ((inR a1.tgt 0 (IntKind.i64.wrap (a0.sections - 1))) && (a1.lie == 0))) [.bool ((inR a1.tgt 0 (IntKind.i64.wrap (a0.sections - 1))) && (a1.lie == 0))] ?_
        exact (SnapR3.of1 (sr_bool (H := []) (a := ((inR a1.tgt 0 (IntKind.i64.wrap (a0.sections - 1))) && (a1.lie == 0))) (b := res) h))
      · replace h := h.2 q14
        refine cSeqG ⟨(mkS 74 [(2, .lptr 2 0), (3, .lptr 3 0), (6, .int .i64 a1.op), (36, .bool (a1.op == 5))]), [(3, (eEvent a1)), (2, (ePlan false a0))], []⟩ (True) ?_ (fun q17 => ?_)
        · skip
          refine rgS [] 8 ?_
          refine sEnd [(36, .bool (a1.op == 5)), (37, .bool (a1.op == 5))] ?_
          refine QJoin.normal trivial ?_
          exact wkJ (by kernel_rfl)
        unfold spec_l2event_C1 at h
        refine cCond (.tmp 36) (a1.op == 5) (fun q18 => ?_) (fun q18 => ?_)
        · replace h := h.1 q18
          refine cSeqG ⟨(mkS 74 [(4, .bool ((inR a1.tgt 0 (IntKind.i64.wrap ((a0.switches.length : Int) - 1))) && (inR a1.lie 0 2)))]), [(3, (eEvent a1)), (2, (ePlan false a0))], []⟩ (a0.switches.length ≤ 4611686018427387904) ?_ (fun q19 => ?_)
          · skip
            refine rgS [] 9 ?_
            refine sLen 5 (some 42) [(41, .lst (List.map eInt a0.switches) false false), (40, .lptr 2 1), (39, .int .i64 a1.tgt), (38, .lptr 3 1)] eInt a0.switches (fun q20 => ?_)
            refine sCallV 2 (some 44) [(43, .int .i64 (IntKind.i64.wrap ((a0.switches.length : Int) - 1)))] [.int .i64 a1.tgt, .int .i64 0, .int .i64 (IntKind.i64.wrap ((a0.switches.length : Int) - 1))] (spec_l1in_V a1.tgt 0 (IntKind.i64.wrap ((a0.switches.length : Int) - 1))) (PW.cons (Snap2.of1 (.int _ _)) (PW.cons (Snap2.of1 (.int _ _)) (PW.cons (Snap2.of1 (.int _ _)) PW.nil))) ?_
            refine sCase 1 [(45, .bool (inR a1.tgt 0 (IntKind.i64.wrap ((a0.switches.length : Int) - 1))))] 45 (inR a1.tgt 0 (IntKind.i64.wrap ((a0.switches.length : Int) - 1))) (fun q21 => ?_) (fun q21 => ?_)
            · skip
              refine sCallV 3 (some 48) [(47, .int .i64 a1.lie), (46, .lptr 3 2)] [.int .i64 a1.lie, .int .i64 0, .int .i64 2] (spec_l1in_V a1.lie 0 2) (PW.cons (Snap2.of1 (.int _ _)) (PW.cons (Snap2.of1 (.int _ _)) (PW.cons (Snap2.of1 (.int _ _)) PW.nil))) ?_
              refine sEnd [(4, .bool (inR a1.lie 0 2)), (49, .bool (inR a1.lie 0 2))] ?_
              refine QJoin.normal q20 ?_
              exact wkJ (by simp only [q7, q14, q18, q21, Bool.true_or, Bool.false_or, Bool.true_and, Bool.false_and, Bool.not_true, Bool.not_false, Bool.and_true, Bool.and_false, Bool.or_true, Bool.or_false, cond_true, cond_false] <;> kernel_rfl)
            · skip
              refine sEnd [(4, .bool false), (49, .bool false), (48, .tup []), (47, .tup []), (46, .tup [])] ?_
              refine QJoin.normal q20 ?_
              exact wkJ (by simp only [q7, q14, q18, q21, Bool.true_or, Bool.false_or, Bool.true_and, Bool.false_and, Bool.not_true, Bool.not_false, Bool.and_true, Bool.and_false, Bool.or_true, Bool.or_false, cond_true, cond_false] <;> kernel_rfl)
          replace h := h q19
          refine cRet ?_
          refine QBlock.ret ?_
          refine QJoin.ret ?_
          refine rtS (.bool ((inR a1.tgt 0 (IntKind.i64.wrap ((a0.switches.length : Int) - 1))) && (inR a1.lie 0 2))) [.bool ((inR a1.tgt 0 (IntKind.i64.wrap ((a0.switches.length : Int) - 1))) && (inR a1.lie 0 2))] ?_
          exact (SnapR3.of1 (sr_bool (H := []) (a := ((inR a1.tgt 0 (IntKind.i64.wrap ((a0.switches.length : Int) - 1))) && (inR a1.lie 0 2))) (b := res) h))
        · replace h := h.2 q18
          refine cSeqG ⟨(mkS 74 [(2, .lptr 2 0), (3, .lptr 3 0), (6, .int .i64 a1.op), (50, .bool (a1.op == 6))]), [(3, (eEvent a1)), (2, (ePlan false a0))], []⟩ (True) ?_ (fun q22 => ?_)
          · skip
            refine rgS [] 10 ?_
            refine sEnd [(50, .bool (a1.op == 6)), (51, .bool (a1.op == 6))] ?_
            refine QJoin.normal trivial ?_
            exact wkJ (by kernel_rfl)
          refine cCond (.tmp 50) (a1.op == 6) (fun q23 => ?_) (fun q23 => ?_)
          · replace h := h.1 q23
            refine cSeqG ⟨(mkS 74 [(4, .bool ((inR a1.tgt 0 (IntKind.i64.wrap ((a0.switches.length : Int) - 1))) && (inR a1.lie 1 2)))]), [(3, (eEvent a1)), (2, (ePlan false a0))], []⟩ (a0.switches.length ≤ 4611686018427387904) ?_ (fun q24 => ?_)
            · skip
              refine rgS [] 11 ?_
              refine sLen 5 (some 56) [(55, .lst (List.map eInt a0.switches) false false), (54, .lptr 2 1), (53, .int .i64 a1.tgt), (52, .lptr 3 1)] eInt a0.switches (fun q25 => ?_)
              refine sCallV 2 (some 58) [(57, .int .i64 (IntKind.i64.wrap ((a0.switches.length : Int) - 1)))] [.int .i64 a1.tgt, .int .i64 0, .int .i64 (IntKind.i64.wrap ((a0.switches.length : Int) - 1))] (spec_l1in_V a1.tgt 0 (IntKind.i64.wrap ((a0.switches.length : Int) - 1))) (PW.cons (Snap2.of1 (.int _ _)) (PW.cons (Snap2.of1 (.int _ _)) (PW.cons (Snap2.of1 (.int _ _)) PW.nil))) ?_
              refine sCase 1 [(59, .bool (inR a1.tgt 0 (IntKind.i64.wrap ((a0.switches.length : Int) - 1))))] 59 (inR a1.tgt 0 (IntKind.i64.wrap ((a0.switches.length : Int) - 1))) (fun q26 => ?_) (fun q26 => ?_)
              · skip
                refine sCallV 3 (some 62) [(61, .int .i64 a1.lie), (60, .lptr 3 2)] [.int .i64 a1.lie, .int .i64 1, .int .i64 2] (spec_l1in_V a1.lie 1 2) (PW.cons (Snap2.of1 (.int _ _)) (PW.cons (Snap2.of1 (.int _ _)) (PW.cons (Snap2.of1 (.int _ _)) PW.nil))) ?_
                refine sEnd [(4, .bool (inR a1.lie 1 2)), (63, .bool (inR a1.lie 1 2))] ?_
                refine QJoin.normal q25 ?_
                exact wkJ (by simp only [q7, q14, q18, q23, q26, Bool.true_or, Bool.false_or, Bool.true_and, Bool.false_and, Bool.not_true, Bool.not_false, Bool.and_true, Bool.and_false, Bool.or_true, Bool.or_false, cond_true, cond_false] <;> kernel_rfl)
              · skip
                refine sEnd [(4, .bool false), (63, .bool false), (62, .tup []), (61, .tup []), (60, .tup [])] ?_
                refine QJoin.normal q25 ?_
                exact wkJ (by simp only [q7, q14, q18, q23, q26, Bool.true_or, Bool.false_or, Bool.true_and, Bool.false_and, Bool.not_true, Bool.not_false, Bool.and_true, Bool.and_false, Bool.or_true, Bool.or_false, cond_true, cond_false] <;> kernel_rfl)
            replace h := h q24
            refine cRet ?_
            refine QBlock.ret ?_
            refine QJoin.ret ?_
            refine rtS (.bool ((inR a1.tgt 0 (IntKind.i64.wrap ((a0.switches.length : Int) - 1))) && (inR a1.lie 1 2))) [.bool ((inR a1.tgt 0 (IntKind.i64.wrap ((a0.switches.length : Int) - 1))) && (inR a1.lie 1 2))] ?_
            exact (SnapR3.of1 (sr_bool (H := []) (a := ((inR a1.tgt 0 (IntKind.i64.wrap ((a0.switches.length : Int) - 1))) && (inR a1.lie 1 2))) (b := res) h))
          · replace h := h.2 q23
            refine cSeqG ⟨(mkS 74 [(3, .lptr 3 0), (64, .bool (a1.op == 7))]), [(3, (eEvent a1)), (2, (ePlan false a0))], []⟩ (True) ?_ (fun q27 => ?_)
            · skip
              refine rgS [] 12 ?_
              refine sEnd [(64, .bool (a1.op == 7)), (65, .bool (a1.op == 7))] ?_
              refine QJoin.normal trivial ?_
              exact wkJ (by kernel_rfl)
            refine cCond (.tmp 64) (a1.op == 7) (fun q28 => ?_) (fun q28 => ?_)
            · replace h := h q28
              refine cSeqG ⟨(mkS 74 [(4, .bool ((a1.tgt == 0) && (a1.lie == 0)))]), [(3, (eEvent a1)), (2, (ePlan false a0))], []⟩ (True) ?_ (fun q29 => ?_)
              · skip
                refine rgS [] 13 ?_
                refine sCase 4 [(69, .bool (a1.tgt == 0)), (68, .bool (a1.tgt == 0)), (67, .int .i64 a1.tgt), (66, .lptr 3 1)] 69 (a1.tgt == 0) (fun q30 => ?_) (fun q30 => ?_)
                · skip
                  refine sEnd [(4, .bool (a1.lie == 0)), (73, .bool (a1.lie == 0)), (72, .bool (a1.lie == 0)), (71, .int .i64 a1.lie), (70, .lptr 3 2)] ?_
                  refine QJoin.normal trivial ?_
                  exact wkJ (by simp only [q7, q14, q18, q23, q28, q30, Bool.true_or, Bool.false_or, Bool.true_and, Bool.false_and, Bool.not_true, Bool.not_false, Bool.and_true, Bool.and_false, Bool.or_true, Bool.or_false, cond_true, cond_false] <;> kernel_rfl)
                · skip
                  refine sEnd [(4, .bool false), (73, .bool false), (72, .tup []), (71, .tup []), (70, .tup [])] ?_
                  refine QJoin.normal trivial ?_
                  exact wkJ (by simp only [q7, q14, q18, q23, q28, q30, Bool.true_or, Bool.false_or, Bool.true_and, Bool.false_and, Bool.not_true, Bool.not_false, Bool.and_true, Bool.and_false, Bool.or_true, Bool.or_false, cond_true, cond_false] <;> kernel_rfl)
              refine cRet ?_
              refine QBlock.ret ?_
              refine QJoin.ret ?_
              refine rtS (.bool ((a1.tgt == 0) && (a1.lie == 0))) [.bool ((a1.tgt == 0) && (a1.lie == 0))] ?_
              exact (SnapR3.of1 (sr_bool (H := []) (a := ((a1.tgt == 0) && (a1.lie == 0))) (b := res) h))
            · skip
              refine cSkip ?_
              refine QBlock.normal ?_
              refine QJoin.normal (by simp only [q7, q14, q18, q23, q28, Bool.true_or, Bool.false_or, Bool.true_and, Bool.false_and, Bool.not_true, Bool.not_false, Bool.and_true, Bool.and_false, Bool.or_true, Bool.or_false, cond_true, cond_false]) ?_
              exact wkJ (by kernel_rfl)
  replace h := h q2
  refine cSeqG ⟨(mkS 74 [(4, .bool false)]), [(3, (eEvent a1)), (2, (ePlan false a0))], []⟩ (True) ?_ (fun q31 => ?_)
  · skip
    refine rgS [] 14 ?_
    refine sEnd [(4, .bool false)] ?_
    refine QJoin.normal trivial ?_
    exact wkJ (by kernel_rfl)
  refine cRet ?_
  refine rtS (.bool false) [.bool false] ?_
  exact (SnapR3.of1 (sr_bool (H := []) (a := false) (b := res) h))

set_option maxHeartbeats 4000000 in
theorem spec_l2event_vc (a0 : Plan) (a1 : Event) (hp : preE a0 a1) : spec_l2event_C a0 a1 (evGood a0 a1) := by
  have hp : -9223372036854775808 < a0.sections ∧ a0.sections ≤ 9223372036854775807 := hp
  unfold spec_l2event_C spec_l2event_C2 spec_l2event_C1
  rw [orB, orB, beq_dec, beq_dec, beq_dec, beq_dec, beq_dec]
  simp only [decide_eq_true_eq, decide_eq_false_iff_not]
  refine ⟨⟨fun h hl => ?_, fun h1 => ⟨fun h => ?_, fun h3 => ⟨fun h hl => ?_, fun h5 => ⟨fun h hl => ?_, fun h6 h => ?_⟩⟩⟩⟩, fun h => ?_⟩
  · rw [w64 (by omega) (by omega), ev12 h]
  · rw [w64 (by omega) (by omega), ev34 h1 h]
  · rw [w64 (by omega) (by omega), ev5 h]
  · rw [w64 (by omega) (by omega), ev6 h]
  · rw [ev7 h]
  · simp only [Bool.and_eq_true, Bool.not_eq_true', decide_eq_false_iff_not] at h
    exact (evNo h.1 h.2.1 h.2.2.1 h.2.2.2.1 h.2.2.2.2).symm

theorem spec_l2event_V (a0 : Plan) (a1 : Event) (hp : preE a0 a1) : FnV Try.prog 78 [.agg (ePlan false a0), .agg (eEvent a1)] (.bool (evGood a0 a1)) := spec_l2event_walk a0 a1 (evGood a0 a1) (spec_l2event_vc a0 a1 hp)

noncomputable def spec_EventOk_b : Code := bodyC Try.f29
def spec_EventOk_C (a0 : Plan) (a1 : Event) (res : Bool) : Prop :=
  ((planGood a0) = true → preE a0 a1) ∧ (((planGood a0) && (evGood a0 a1)) = res)
set_option maxHeartbeats 4000000 in
theorem spec_EventOk_walk (a0 : Plan) (a1 : Event) (res : Bool) (h : spec_EventOk_C a0 a1 res) : FnV Try.prog 29 [.agg (ePlan false a0), .agg (eEvent a1)] (.bool res) := by
  unfold spec_EventOk_C at h
  refine FnS.of_body (fn := Try.f29) (c := spec_EventOk_b) Try.func29 (by kernel_rfl) (by kernel_rfl) ?_
  refine WpS.codeIs (c' := (nv spec_EventOk_b 1)) (by kernel_rfl) ?_
  refine WpS.start (st' := ⟨(mkS 12 [(0, .agg (ePlan false a0)), (1, .agg (eEvent a1))]), [], []⟩) (by kernel_rfl) ?_
  refine cSeqG ⟨(mkS 12 [(2, .lptr 2 0), (3, .lptr 3 0)]), [(3, (eEvent a1)), (2, (ePlan false a0))], []⟩ (True) ?_ (fun q1 => ?_)
  · skip
    refine rgS [] 0 ?_
    refine sEnd' [(4, .bool false), (3, .lptr 3 0), (2, .lptr 2 0)] [(3, (eEvent a1)), (2, (ePlan false a0))] [] ?_
    refine QJoin.normal trivial ?_
    exact wkJ (by kernel_rfl)
  obtain ⟨q5, h⟩ := h
  refine cSeqG ⟨(mkS 12 [(4, .bool ((planGood a0) && (evGood a0 a1)))]), [(3, (eEvent a1)), (2, (ePlan false a0))], []⟩ (True) ?_ (fun q2 => ?_)
  · replace h := q5
    refine rgS [] 1 ?_
    refine sCallV 2 (some 6) [(5, .agg (ePlan false a0))] [.agg (ePlan false a0)] (spec_l1ok_V a0) (PW.cons (Snap2.agg (PW.cons (.int _ _) (PW.cons sa_lst (PW.cons sa_lst (PW.cons sa_lst (PW.cons (.int _ _) PW.nil)))))) PW.nil) ?_
    refine sCase 1 [(7, .bool (planGood a0))] 7 (planGood a0) (fun q3 => ?_) (fun q3 => ?_)
    · replace h := h q3
      have q4 := h
      refine sCallV 3 (some 10) [(9, .agg (eEvent a1)), (8, .agg (ePlan false a0))] [.agg (ePlan false a0), .agg (eEvent a1)] (spec_l2event_V a0 a1 q4) (PW.cons (Snap2.agg (PW.cons (.int _ _) (PW.cons sa_lst (PW.cons sa_lst (PW.cons sa_lst (PW.cons (.int _ _) PW.nil)))))) (PW.cons (Snap2.agg (PW.cons (.int _ _) (PW.cons (.int _ _) (PW.cons (.int _ _) PW.nil)))) PW.nil)) ?_
      refine sEnd [(4, .bool (evGood a0 a1)), (11, .bool (evGood a0 a1))] ?_
      refine QJoin.normal trivial ?_
      exact wkJ (by simp only [q3, Bool.true_or, Bool.false_or, Bool.true_and, Bool.false_and, Bool.not_true, Bool.not_false, Bool.and_true, Bool.and_false, Bool.or_true, Bool.or_false, cond_true, cond_false] <;> kernel_rfl)
    · skip
      refine sEnd [(4, .bool false), (11, .bool false), (10, .tup []), (9, .tup []), (8, .tup [])] ?_
      refine QJoin.normal trivial ?_
      exact wkJ (by simp only [q3, Bool.true_or, Bool.false_or, Bool.true_and, Bool.false_and, Bool.not_true, Bool.not_false, Bool.and_true, Bool.and_false, Bool.or_true, Bool.or_false, cond_true, cond_false] <;> kernel_rfl)
  refine cRet ?_
  refine rtS (.bool ((planGood a0) && (evGood a0 a1))) [.bool ((planGood a0) && (evGood a0 a1))] ?_
  exact (SnapR3.of1 (sr_bool (H := []) (a := ((planGood a0) && (evGood a0 a1))) (b := res) h))

set_option maxHeartbeats 4000000 in
theorem spec_EventOk_vc (a0 : Plan) (a1 : Event) : spec_EventOk_C a0 a1 (eventOk a0 a1) := by
  refine ⟨fun h => ?_, rfl⟩
  have := planBase_iff.1 (planGood_base h)
  unfold preE
  omega

theorem spec_EventOk_V (a0 : Plan) (a1 : Event) : FnV Try.prog 29 [.agg (ePlan false a0), .agg (eEvent a1)] (.bool (eventOk a0 a1)) := spec_EventOk_walk a0 a1 (eventOk a0 a1) (spec_EventOk_vc a0 a1)

noncomputable def laws_toEvent_b : Code := bodyC Try.f30
def laws_toEvent_C (a0 : Event) (res : Event) : Prop :=
  (a0.op = res.op) ∧ (a0.tgt = res.tgt) ∧ (a0.lie = res.lie)
set_option maxHeartbeats 4000000 in
theorem laws_toEvent_walk (a0 : Event) (res : Event) (h : laws_toEvent_C a0 res) : FnV Try.prog 30 [.agg (eEvent a0)] (.agg (eEvent res)) := by
  unfold laws_toEvent_C at h
  refine FnS.of_body (fn := Try.f30) (c := laws_toEvent_b) Try.func30 (by kernel_rfl) (by kernel_rfl) ?_
  refine WpS.codeIs (c' := (nv laws_toEvent_b 1)) (by kernel_rfl) ?_
  refine WpS.start (st' := ⟨(mkS 14 [(0, .agg (eEvent a0))]), [], []⟩) (by kernel_rfl) ?_
  refine cSeqG ⟨(mkS 14 [(1, .lptr 1 0), (2, .lptr 2 0)]), [(2, [.int .i64 0, .int .i64 0, .int .i64 0]), (1, (eEvent a0))], []⟩ (True) ?_ (fun q1 => ?_)
  · skip
    refine rgS [] 0 ?_
    refine sEnd' [(2, .lptr 2 0), (1, .lptr 1 0)] [(2, [.int .i64 0, .int .i64 0, .int .i64 0]), (1, (eEvent a0))] [] ?_
    refine QJoin.normal trivial ?_
    exact wkJ (by kernel_rfl)
  refine cSeqG ⟨(mkS 14 [(1, .lptr 1 0), (2, .lptr 2 0), (3, .lptr 3 0)]), [(3, [.int .i64 0, .int .i64 0, .int .i64 0]), (2, [.int .i64 0, .int .i64 0, .int .i64 0]), (1, (eEvent a0))], []⟩ (True) ?_ (fun q2 => ?_)
  · skip
    refine rgS [] 1 ?_
    refine sEnd' [(3, .lptr 3 0)] [(3, [.int .i64 0, .int .i64 0, .int .i64 0]), (2, [.int .i64 0, .int .i64 0, .int .i64 0]), (1, (eEvent a0))] [] ?_
    refine QJoin.normal trivial ?_
    exact wkJ (by kernel_rfl)
  refine cSeqG ⟨(mkS 14 [(1, .lptr 1 0), (2, .lptr 2 0), (3, .lptr 3 0)]), [(3, [.int .i64 a0.op, .int .i64 0, .int .i64 0]), (2, [.int .i64 0, .int .i64 0, .int .i64 0]), (1, (eEvent a0))], []⟩ (True) ?_ (fun q3 => ?_)
  · skip
    refine rgS [] 2 ?_
    refine sEnd' [(6, .lptr 3 0), (5, .int .i64 a0.op), (4, .lptr 1 0)] [(3, [.int .i64 a0.op, .int .i64 0, .int .i64 0]), (2, [.int .i64 0, .int .i64 0, .int .i64 0]), (1, (eEvent a0))] [] ?_
    refine QJoin.normal trivial ?_
    exact wkJ (by kernel_rfl)
  refine cSeqG ⟨(mkS 14 [(1, .lptr 1 0), (2, .lptr 2 0), (3, .lptr 3 0)]), [(3, [.int .i64 a0.op, .int .i64 a0.tgt, .int .i64 0]), (2, [.int .i64 0, .int .i64 0, .int .i64 0]), (1, (eEvent a0))], []⟩ (True) ?_ (fun q4 => ?_)
  · skip
    refine rgS [] 3 ?_
    refine sEnd' [(9, .lptr 3 1), (8, .int .i64 a0.tgt), (7, .lptr 1 1)] [(3, [.int .i64 a0.op, .int .i64 a0.tgt, .int .i64 0]), (2, [.int .i64 0, .int .i64 0, .int .i64 0]), (1, (eEvent a0))] [] ?_
    refine QJoin.normal trivial ?_
    exact wkJ (by kernel_rfl)
  refine cSeqG ⟨(mkS 14 [(2, .lptr 2 0), (3, .lptr 3 0)]), [(3, (eEvent a0)), (2, [.int .i64 0, .int .i64 0, .int .i64 0]), (1, (eEvent a0))], []⟩ (True) ?_ (fun q5 => ?_)
  · skip
    refine rgS [] 4 ?_
    refine sEnd' [(12, .lptr 3 2), (11, .int .i64 a0.lie), (10, .lptr 1 2)] [(3, (eEvent a0)), (2, [.int .i64 0, .int .i64 0, .int .i64 0]), (1, (eEvent a0))] [] ?_
    refine QJoin.normal trivial ?_
    exact wkJ (by kernel_rfl)
  refine cSeqG ⟨(mkS 14 [(2, .lptr 2 0)]), [(3, (eEvent a0)), (2, (eEvent a0)), (1, (eEvent a0))], []⟩ (True) ?_ (fun q6 => ?_)
  · skip
    refine rgS [] 5 ?_
    refine sEnd' [(13, .agg (eEvent a0))] [(3, (eEvent a0)), (2, (eEvent a0)), (1, (eEvent a0))] [] ?_
    refine QJoin.normal trivial ?_
    exact wkJ (by kernel_rfl)
  refine cRet ?_
  refine rtS (.agg (eEvent a0)) [.agg (eEvent a0)] ?_
  exact (SnapR3.agg (PW.cons (sr_int (H := []) (a := a0.op) (b := res.op) h.1) (PW.cons (sr_int (H := []) (a := a0.tgt) (b := res.tgt) h.2.1) (PW.cons (sr_int (H := []) (a := a0.lie) (b := res.lie) h.2.2) PW.nil))))

set_option maxHeartbeats 4000000 in
theorem laws_toEvent_vc (a0 : Event) : laws_toEvent_C a0 (idt a0) := by
  exact ⟨rfl, rfl, rfl⟩

theorem laws_toEvent_V (a0 : Event) : FnV Try.prog 30 [.agg (eEvent a0)] (.agg (eEvent (idt a0))) := laws_toEvent_walk a0 (idt a0) (laws_toEvent_vc a0)

noncomputable def impl_right_b : Code := bodyC Try.f60
def impl_right_C (a0 : Plan) (res : Bool) : Prop :=
  (((planOk a0).code) == 0 && ((planOk a0).pos) == 0) = res
set_option maxHeartbeats 4000000 in
theorem impl_right_walk (a0 : Plan) (res : Bool) (h : impl_right_C a0 res) : FnV Try.prog 60 [.agg (ePlan false a0)] (.bool res) := by
  unfold impl_right_C at h
  refine FnS.of_body (fn := Try.f60) (c := impl_right_b) Try.func60 (by kernel_rfl) (by kernel_rfl) ?_
  refine WpS.codeIs (c' := (nv impl_right_b 1)) (by kernel_rfl) ?_
  refine WpS.start (st' := ⟨(mkS 7 [(0, .agg (ePlan false a0))]), [], []⟩) (by kernel_rfl) ?_
  refine cSeqG ⟨(mkS 7 [(1, .lptr 1 0)]), [(1, (ePlan false a0))], []⟩ (True) ?_ (fun q1 => ?_)
  · skip
    refine rgS [] 0 ?_
    refine sEnd' [(2, .bool false), (1, .lptr 1 0)] [(1, (ePlan false a0))] [] ?_
    refine QJoin.normal trivial ?_
    exact wkJ (by kernel_rfl)
  refine cSeqG ⟨(mkS 7 [(2, .bool (((planOk a0).code) == 0 && ((planOk a0).pos) == 0))]), [(1, (ePlan false a0))], []⟩ (True) ?_ (fun q2 => ?_)
  · skip
    refine rgS [] 1 ?_
    refine sCallV 2 (some 4) [(3, .agg (ePlan false a0))] [.agg (ePlan false a0)] (impl_PlanOk_V a0) (PW.cons (Snap2.agg (PW.cons (.int _ _) (PW.cons sa_lst (PW.cons sa_lst (PW.cons sa_lst (PW.cons (.int _ _) PW.nil)))))) PW.nil) ?_
    refine sEnd [(2, .bool (((planOk a0).code) == 0 && ((planOk a0).pos) == 0)), (6, .bool (((planOk a0).code) == 0 && ((planOk a0).pos) == 0)), (5, .agg [.int .i64 0, .int .i64 0])] ?_
    refine QJoin.normal trivial ?_
    exact wkJ (by kernel_rfl)
  refine cRet ?_
  refine rtS (.bool (((planOk a0).code) == 0 && ((planOk a0).pos) == 0)) [.bool (((planOk a0).code) == 0 && ((planOk a0).pos) == 0)] ?_
  exact (SnapR3.of1 (sr_bool (H := []) (a := (((planOk a0).code) == 0 && ((planOk a0).pos) == 0)) (b := res) h))

set_option maxHeartbeats 4000000 in
theorem impl_right_vc (a0 : Plan) : impl_right_C a0 (planGood a0) := by
  exact planOk_both a0

theorem impl_right_V (a0 : Plan) : FnV Try.prog 60 [.agg (ePlan false a0)] (.bool (planGood a0)) := impl_right_walk a0 (planGood a0) (impl_right_vc a0)

noncomputable def impl_evOk_1_b : Code := bodyC Try.f122
def impl_evOk_1_C (a0 : Int) (a1 : Event) (res : Bool) : Prop :=
  ((decide (a1.tgt ≥ 0)) && (decide (a1.tgt < a0))) = res
set_option maxHeartbeats 4000000 in
theorem impl_evOk_1_walk (a0 : Int) (a1 : Event) (res : Bool) (h : impl_evOk_1_C a0 a1 res) : FnV Try.prog 122 [.int .i64 a0, .rp (eEvent a1) 0] (.bool res) := by
  unfold impl_evOk_1_C at h
  refine FnS.of_body (fn := Try.f122) (c := impl_evOk_1_b) Try.func122 (by kernel_rfl) (by kernel_rfl) ?_
  refine WpS.codeIs (c' := (nv impl_evOk_1_b 1)) (by kernel_rfl) ?_
  refine WpS.start (st' := ⟨(mkS 13 [(0, .int .i64 a0), (1, .rp (eEvent a1) 0)]), [], []⟩) (by kernel_rfl) ?_
  refine cSeqG ⟨(mkS 13 [(0, .int .i64 a0), (1, .rp (eEvent a1) 0)]), [], []⟩ (True) ?_ (fun q1 => ?_)
  · skip
    refine rgS [] 0 ?_
    refine sEnd [(3, .bool false)] ?_
    refine QJoin.normal trivial ?_
    exact wkJ (by kernel_rfl)
  refine cSeqG ⟨(mkS 13 [(3, .bool ((decide (a1.tgt ≥ 0)) && (decide (a1.tgt < a0))))]), [], []⟩ (True) ?_ (fun q2 => ?_)
  · skip
    refine rgS [] 1 ?_
    refine sCase 4 [(7, .bool (decide (a1.tgt ≥ 0))), (6, .bool (decide (a1.tgt ≥ 0))), (5, .int .i64 a1.tgt), (4, .rp (eEvent a1) 1)] 7 (decide (a1.tgt ≥ 0)) (fun q3 => ?_) (fun q3 => ?_)
    · skip
      refine sEnd [(3, .bool (decide (a1.tgt < a0))), (12, .bool (decide (a1.tgt < a0))), (11, .bool (decide (a1.tgt < a0))), (10, .int .i64 a0), (9, .int .i64 a1.tgt), (8, .rp (eEvent a1) 1)] ?_
      refine QJoin.normal trivial ?_
      exact wkJ (by simp only [q3, Bool.true_or, Bool.false_or, Bool.true_and, Bool.false_and, Bool.not_true, Bool.not_false, Bool.and_true, Bool.and_false, Bool.or_true, Bool.or_false, cond_true, cond_false] <;> kernel_rfl)
    · skip
      refine sEnd [(3, .bool false), (12, .bool false), (11, .tup []), (10, .tup []), (9, .tup []), (8, .tup [])] ?_
      refine QJoin.normal trivial ?_
      exact wkJ (by simp only [q3, Bool.true_or, Bool.false_or, Bool.true_and, Bool.false_and, Bool.not_true, Bool.not_false, Bool.and_true, Bool.and_false, Bool.or_true, Bool.or_false, cond_true, cond_false] <;> kernel_rfl)
  refine cRet ?_
  refine rtS (.bool ((decide (a1.tgt ≥ 0)) && (decide (a1.tgt < a0)))) [.bool ((decide (a1.tgt ≥ 0)) && (decide (a1.tgt < a0)))] ?_
  exact (SnapR3.of1 (sr_bool (H := []) (a := ((decide (a1.tgt ≥ 0)) && (decide (a1.tgt < a0)))) (b := res) h))

set_option maxHeartbeats 4000000 in
theorem impl_evOk_1_vc (a0 : Int) (a1 : Event) : impl_evOk_1_C a0 a1 (inTgt a0 a1) := by
  rfl

theorem impl_evOk_1_V (a0 : Int) (a1 : Event) : FnV Try.prog 122 [.int .i64 a0, .rp (eEvent a1) 0] (.bool (inTgt a0 a1)) := impl_evOk_1_walk a0 a1 (inTgt a0 a1) (impl_evOk_1_vc a0 a1)

noncomputable def impl_evOk_b : Code := bodyC Try.f62
def impl_evOk_C1 (a0 : Plan) (a1 : Event) (res : Bool) : Prop :=
  ((a1.op == 5) = true → a0.switches.length ≤ 4611686018427387904 → ((inTgt (a0.switches.length : Int) a1) && ((decide (a1.lie ≥ 0)) && (decide (a1.lie ≤ 2)))) = res) ∧ ((a1.op == 5) = false → ((a1.op == 6) = true → a0.switches.length ≤ 4611686018427387904 → ((inTgt (a0.switches.length : Int) a1) && ((decide (a1.lie ≥ 1)) && (decide (a1.lie ≤ 2)))) = res) ∧ ((a1.op == 6) = false → (a1.op == 7) = true → ((a1.tgt == 0) && (a1.lie == 0)) = res))
def impl_evOk_C2 (a0 : Plan) (a1 : Event) (res : Bool) : Prop :=
  ((bif (a1.op == 1) then (a1.op == 1) else (a1.op == 2)) = true → a0.ways.length ≤ 4611686018427387904 → ((inTgt (a0.ways.length : Int) a1) && (a1.lie == 0)) = res) ∧ ((bif (a1.op == 1) then (a1.op == 1) else (a1.op == 2)) = false → ((bif (a1.op == 3) then (a1.op == 3) else (a1.op == 4)) = true → ((inTgt a0.sections a1) && (a1.lie == 0)) = res) ∧ ((bif (a1.op == 3) then (a1.op == 3) else (a1.op == 4)) = false → impl_evOk_C1 a0 a1 res))
def impl_evOk_C (a0 : Plan) (a1 : Event) (res : Bool) : Prop :=
  (impl_evOk_C2 a0 a1 res) ∧ ((!(bif (a1.op == 1) then (a1.op == 1) else (a1.op == 2)) && (!(bif (a1.op == 3) then (a1.op == 3) else (a1.op == 4)) && (!(a1.op == 5) && (!(a1.op == 6) && (!(a1.op == 7)))))) = true → false = res)
set_option maxHeartbeats 4000000 in
theorem impl_evOk_walk (a0 : Plan) (a1 : Event) (res : Bool) (h : impl_evOk_C a0 a1 res) : FnV Try.prog 62 [.agg (ePlan false a0), .agg (eEvent a1)] (.bool res) := by
  unfold impl_evOk_C at h
  refine FnS.of_body (fn := Try.f62) (c := impl_evOk_b) Try.func62 (by kernel_rfl) (by kernel_rfl) ?_
  refine WpS.codeIs (c' := (nv impl_evOk_b 1)) (by kernel_rfl) ?_
  refine WpS.start (st' := ⟨(mkS 78 [(0, .agg (ePlan false a0)), (1, .agg (eEvent a1))]), [], []⟩) (by kernel_rfl) ?_
  refine cSeqG ⟨(mkS 78 [(2, .lptr 2 0), (3, .lptr 3 0)]), [(3, (eEvent a1)), (2, (ePlan false a0))], []⟩ (True) ?_ (fun q1 => ?_)
  · skip
    refine rgS [] 0 ?_
    refine sEnd' [(4, .bool false), (3, .lptr 3 0), (2, .lptr 2 0)] [(3, (eEvent a1)), (2, (ePlan false a0))] [] ?_
    refine QJoin.normal trivial ?_
    exact wkJ (by kernel_rfl)
  refine cSeqG ⟨(mkS 78 [(2, .lptr 2 0), (3, .lptr 3 0), (5, .fn 122 [.lptr 3 0])]), [(3, (eEvent a1)), (2, (ePlan false a0))], []⟩ (True) ?_ (fun q2 => ?_)
  · skip
    refine rgS [] 1 ?_
    refine sEnd [(5, .fn 122 [.lptr 3 0]), (6, .fn 122 [.lptr 3 0])] ?_
    refine QJoin.normal trivial ?_
    exact wkJ (by kernel_rfl)
  obtain ⟨q35, h⟩ := h
  refine cSeqG ⟨(mkS 78 []), [(3, (eEvent a1)), (2, (ePlan false a0))], []⟩ ((!(bif (a1.op == 1) then (a1.op == 1) else (a1.op == 2)) && (!(bif (a1.op == 3) then (a1.op == 3) else (a1.op == 4)) && (!(a1.op == 5) && (!(a1.op == 6) && (!(a1.op == 7)))))) = true) ?_ (fun q3 => ?_)
  · replace h := q35
    refine cSeqG ⟨(mkS 78 [(2, .lptr 2 0), (3, .lptr 3 0), (5, .fn 122 [.lptr 3 0]), (8, .int .i64 a1.op)]), [(3, (eEvent a1)), (2, (ePlan false a0))], []⟩ (True) ?_ (fun q4 => ?_)
    · skip
      refine rgS [] 2 ?_
      refine sEnd [(8, .int .i64 a1.op), (7, .lptr 3 0)] ?_
      refine QJoin.normal trivial ?_
      exact wkJ (by kernel_rfl)
    refine cBlock 0 ?_
    refine cSeqG ⟨(mkS 78 [(2, .lptr 2 0), (3, .lptr 3 0), (5, .fn 122 [.lptr 3 0]), (8, .int .i64 a1.op), (9, .bool (bif (a1.op == 1) then (a1.op == 1) else (a1.op == 2)))]), [(3, (eEvent a1)), (2, (ePlan false a0))], []⟩ (True) ?_ (fun q5 => ?_)
    · skip
      refine cSeqG ⟨(mkS 78 [(2, .lptr 2 0), (3, .lptr 3 0), (5, .fn 122 [.lptr 3 0]), (8, .int .i64 a1.op), (9, .bool (a1.op == 1))]), [(3, (eEvent a1)), (2, (ePlan false a0))], []⟩ (True) ?_ (fun q6 => ?_)
      · skip
        refine rgS [] 3 ?_
        refine sEnd [(9, .bool (a1.op == 1)), (10, .bool (a1.op == 1))] ?_
        refine QJoin.normal trivial ?_
        exact wkJ (by kernel_rfl)
      refine cCond (.tmp 9) (a1.op == 1) (fun q7 => ?_) (fun q7 => ?_)
      · skip
        refine cSkip ?_
        refine QJoin.normal trivial ?_
        exact wkJ (by simp only [q7, Bool.true_or, Bool.false_or, Bool.true_and, Bool.false_and, Bool.not_true, Bool.not_false, Bool.and_true, Bool.and_false, Bool.or_true, Bool.or_false, cond_true, cond_false] <;> kernel_rfl)
      · skip
        refine rgS [] 4 ?_
        refine sEnd [(9, .bool (a1.op == 2)), (11, .bool (a1.op == 2))] ?_
        refine QJoin.normal trivial ?_
        exact wkJ (by simp only [q7, Bool.true_or, Bool.false_or, Bool.true_and, Bool.false_and, Bool.not_true, Bool.not_false, Bool.and_true, Bool.and_false, Bool.or_true, Bool.or_false, cond_true, cond_false] <;> kernel_rfl)
    unfold impl_evOk_C2 at h
    refine cCond (.tmp 9) (bif (a1.op == 1) then (a1.op == 1) else (a1.op == 2)) (fun q8 => ?_) (fun q8 => ?_)
    · replace h := h.1 q8
      refine cSeqG ⟨(mkS 78 [(4, .bool ((inTgt (a0.ways.length : Int) a1) && (a1.lie == 0)))]), [(3, (eEvent a1)), (2, (ePlan false a0))], []⟩ (a0.ways.length ≤ 4611686018427387904) ?_ (fun q9 => ?_)
      · skip
        refine rgS [] 5 ?_
        refine sLen 4 (some 15) [(14, .lst (List.map (eWay false) a0.ways) false false), (13, .lptr 2 2), (12, .fn 122 [.lptr 3 0])] (eWay false) a0.ways (fun q10 => ?_)
        refine sCallV 1 (some 16) [] [.int .i64 (a0.ways.length : Int), .lptr 3 0] (impl_evOk_1_V (a0.ways.length : Int) a1) (PW.cons (Snap2.of1 (.int _ _)) (PW.cons (Snap2.of1 (sa_lptr (by kernel_rfl) (CellsIn.cons (.int _ _) (CellsIn.cons (.int _ _) (CellsIn.cons (.int _ _) CellsIn.nil))))) PW.nil)) ?_
        refine sCase 1 [(17, .bool (inTgt (a0.ways.length : Int) a1))] 17 (inTgt (a0.ways.length : Int) a1) (fun q11 => ?_) (fun q11 => ?_)
        · skip
          refine sEnd [(4, .bool (a1.lie == 0)), (21, .bool (a1.lie == 0)), (20, .bool (a1.lie == 0)), (19, .int .i64 a1.lie), (18, .lptr 3 2)] ?_
          refine QJoin.normal q10 ?_
          exact wkJ (by simp only [q8, q11, Bool.true_or, Bool.false_or, Bool.true_and, Bool.false_and, Bool.not_true, Bool.not_false, Bool.and_true, Bool.and_false, Bool.or_true, Bool.or_false, cond_true, cond_false] <;> kernel_rfl)
        · skip
          refine sEnd [(4, .bool false), (21, .bool false), (20, .tup []), (19, .tup []), (18, .tup [])] ?_
          refine QJoin.normal q10 ?_
          exact wkJ (by simp only [q8, q11, Bool.true_or, Bool.false_or, Bool.true_and, Bool.false_and, Bool.not_true, Bool.not_false, Bool.and_true, Bool.and_false, Bool.or_true, Bool.or_false, cond_true, cond_false] <;> kernel_rfl)
      replace h := h q9
      refine cRet ?_
      refine QBlock.ret ?_
      refine QJoin.ret ?_
      refine rtS (.bool ((inTgt (a0.ways.length : Int) a1) && (a1.lie == 0))) [.bool ((inTgt (a0.ways.length : Int) a1) && (a1.lie == 0))] ?_
      exact (SnapR3.of1 (sr_bool (H := []) (a := ((inTgt (a0.ways.length : Int) a1) && (a1.lie == 0))) (b := res) h))
    · replace h := h.2 q8
      refine cSeqG ⟨(mkS 78 [(2, .lptr 2 0), (3, .lptr 3 0), (5, .fn 122 [.lptr 3 0]), (8, .int .i64 a1.op), (22, .bool (bif (a1.op == 3) then (a1.op == 3) else (a1.op == 4)))]), [(3, (eEvent a1)), (2, (ePlan false a0))], []⟩ (True) ?_ (fun q12 => ?_)
      · skip
        refine cSeqG ⟨(mkS 78 [(2, .lptr 2 0), (3, .lptr 3 0), (5, .fn 122 [.lptr 3 0]), (8, .int .i64 a1.op), (22, .bool (a1.op == 3))]), [(3, (eEvent a1)), (2, (ePlan false a0))], []⟩ (True) ?_ (fun q13 => ?_)
        · skip
          refine rgS [] 6 ?_
          refine sEnd [(22, .bool (a1.op == 3)), (23, .bool (a1.op == 3))] ?_
          refine QJoin.normal trivial ?_
          exact wkJ (by kernel_rfl)
        refine cCond (.tmp 22) (a1.op == 3) (fun q14 => ?_) (fun q14 => ?_)
        · skip
          refine cSkip ?_
          refine QJoin.normal trivial ?_
          exact wkJ (by simp only [q8, q14, Bool.true_or, Bool.false_or, Bool.true_and, Bool.false_and, Bool.not_true, Bool.not_false, Bool.and_true, Bool.and_false, Bool.or_true, Bool.or_false, cond_true, cond_false] <;> kernel_rfl)
        · skip
          refine rgS [] 7 ?_
          refine sEnd [(22, .bool (a1.op == 4)), (24, .bool (a1.op == 4))] ?_
          refine QJoin.normal trivial ?_
          exact wkJ (by simp only [q8, q14, Bool.true_or, Bool.false_or, Bool.true_and, Bool.false_and, Bool.not_true, Bool.not_false, Bool.and_true, Bool.and_false, Bool.or_true, Bool.or_false, cond_true, cond_false] <;> kernel_rfl)
      refine cCond (.tmp 22) (bif (a1.op == 3) then (a1.op == 3) else (a1.op == 4)) (fun q15 => ?_) (fun q15 => ?_)
      · replace h := h.1 q15
        refine cSeqG ⟨(mkS 78 [(4, .bool ((inTgt a0.sections a1) && (a1.lie == 0)))]), [(3, (eEvent a1)), (2, (ePlan false a0))], []⟩ (True) ?_ (fun q16 => ?_)
        · skip
          refine rgS [] 8 ?_
          refine sCallV 4 (some 28) [(27, .int .i64 a0.sections), (26, .lptr 2 0), (25, .fn 122 [.lptr 3 0])] [.int .i64 a0.sections, .lptr 3 0] (impl_evOk_1_V a0.sections a1) (PW.cons (Snap2.of1 (.int _ _)) (PW.cons (Snap2.of1 (sa_lptr (by kernel_rfl) (CellsIn.cons (.int _ _) (CellsIn.cons (.int _ _) (CellsIn.cons (.int _ _) CellsIn.nil))))) PW.nil)) ?_
          refine sCase 1 [(29, .bool (inTgt a0.sections a1))] 29 (inTgt a0.sections a1) (fun q17 => ?_) (fun q17 => ?_)
          · skip
            refine sEnd [(4, .bool (a1.lie == 0)), (33, .bool (a1.lie == 0)), (32, .bool (a1.lie == 0)), (31, .int .i64 a1.lie), (30, .lptr 3 2)] ?_
            refine QJoin.normal trivial ?_
            exact wkJ (by simp only [q8, q15, q17, Bool.true_or, Bool.false_or, Bool.true_and, Bool.false_and, Bool.not_true, Bool.not_false, Bool.and_true, Bool.and_false, Bool.or_true, Bool.or_false, cond_true, cond_false] <;> kernel_rfl)
          · skip
            refine sEnd [(4, .bool false), (33, .bool false), (32, .tup []), (31, .tup []), (30, .tup [])] ?_
            refine QJoin.normal trivial ?_
            exact wkJ (by simp only [q8, q15, q17, Bool.true_or, Bool.false_or, Bool.true_and, Bool.false_and, Bool.not_true, Bool.not_false, Bool.and_true, Bool.and_false, Bool.or_true, Bool.or_false, cond_true, cond_false] <;> kernel_rfl)
        refine cRet ?_
        refine QBlock.ret ?_
        refine QJoin.ret ?_
        refine rtS (.bool ((inTgt a0.sections a1) && (a1.lie == 0))) [.bool ((inTgt a0.sections a1) && (a1.lie == 0))] ?_
        exact (SnapR3.of1 (sr_bool (H := []) (a := ((inTgt a0.sections a1) && (a1.lie == 0))) (b := res) h))
      · replace h := h.2 q15
        refine cSeqG ⟨(mkS 78 [(2, .lptr 2 0), (3, .lptr 3 0), (5, .fn 122 [.lptr 3 0]), (8, .int .i64 a1.op), (34, .bool (a1.op == 5))]), [(3, (eEvent a1)), (2, (ePlan false a0))], []⟩ (True) ?_ (fun q18 => ?_)
        · skip
          refine rgS [] 9 ?_
          refine sEnd [(34, .bool (a1.op == 5)), (35, .bool (a1.op == 5))] ?_
          refine QJoin.normal trivial ?_
          exact wkJ (by kernel_rfl)
        unfold impl_evOk_C1 at h
        refine cCond (.tmp 34) (a1.op == 5) (fun q19 => ?_) (fun q19 => ?_)
        · replace h := h.1 q19
          refine cSeqG ⟨(mkS 78 [(4, .bool ((inTgt (a0.switches.length : Int) a1) && ((decide (a1.lie ≥ 0)) && (decide (a1.lie ≤ 2)))))]), [(3, (eEvent a1)), (2, (ePlan false a0))], []⟩ (a0.switches.length ≤ 4611686018427387904) ?_ (fun q20 => ?_)
          · skip
            refine rgS [] 10 ?_
            refine sLen 4 (some 39) [(38, .lst (List.map eInt a0.switches) false false), (37, .lptr 2 1), (36, .fn 122 [.lptr 3 0])] eInt a0.switches (fun q21 => ?_)
            refine sCallV 1 (some 40) [] [.int .i64 (a0.switches.length : Int), .lptr 3 0] (impl_evOk_1_V (a0.switches.length : Int) a1) (PW.cons (Snap2.of1 (.int _ _)) (PW.cons (Snap2.of1 (sa_lptr (by kernel_rfl) (CellsIn.cons (.int _ _) (CellsIn.cons (.int _ _) (CellsIn.cons (.int _ _) CellsIn.nil))))) PW.nil)) ?_
            refine sCase 1 [(41, .bool (inTgt (a0.switches.length : Int) a1))] 41 (inTgt (a0.switches.length : Int) a1) (fun q22 => ?_) (fun q22 => ?_)
            · skip
              refine sCase 5 [(46, .bool (decide (a1.lie ≥ 0))), (45, .bool (decide (a1.lie ≥ 0))), (44, .bool (decide (a1.lie ≥ 0))), (43, .int .i64 a1.lie), (42, .lptr 3 2)] 46 (decide (a1.lie ≥ 0)) (fun q23 => ?_) (fun q23 => ?_)
              · skip
                refine sEnd [(4, .bool (decide (a1.lie ≤ 2))), (50, .bool (decide (a1.lie ≤ 2))), (49, .bool (decide (a1.lie ≤ 2))), (48, .int .i64 a1.lie), (47, .lptr 3 2)] ?_
                refine QJoin.normal q21 ?_
                exact wkJ (by simp only [q8, q15, q19, q22, q23, Bool.true_or, Bool.false_or, Bool.true_and, Bool.false_and, Bool.not_true, Bool.not_false, Bool.and_true, Bool.and_false, Bool.or_true, Bool.or_false, cond_true, cond_false] <;> kernel_rfl)
              · skip
                refine sEnd [(4, .bool false), (50, .bool false), (49, .tup []), (48, .tup []), (47, .tup [])] ?_
                refine QJoin.normal q21 ?_
                exact wkJ (by simp only [q8, q15, q19, q22, q23, Bool.true_or, Bool.false_or, Bool.true_and, Bool.false_and, Bool.not_true, Bool.not_false, Bool.and_true, Bool.and_false, Bool.or_true, Bool.or_false, cond_true, cond_false] <;> kernel_rfl)
            · skip
              refine sEnd [(4, .bool false), (50, .bool false), (49, .tup []), (48, .tup []), (47, .tup []), (46, .bool false), (45, .bool false), (44, .tup []), (43, .tup []), (42, .tup [])] ?_
              refine QJoin.normal q21 ?_
              exact wkJ (by simp only [q8, q15, q19, q22, Bool.true_or, Bool.false_or, Bool.true_and, Bool.false_and, Bool.not_true, Bool.not_false, Bool.and_true, Bool.and_false, Bool.or_true, Bool.or_false, cond_true, cond_false] <;> kernel_rfl)
          replace h := h q20
          refine cRet ?_
          refine QBlock.ret ?_
          refine QJoin.ret ?_
          refine rtS (.bool ((inTgt (a0.switches.length : Int) a1) && ((decide (a1.lie ≥ 0)) && (decide (a1.lie ≤ 2))))) [.bool ((inTgt (a0.switches.length : Int) a1) && ((decide (a1.lie ≥ 0)) && (decide (a1.lie ≤ 2))))] ?_
          exact (SnapR3.of1 (sr_bool (H := []) (a := ((inTgt (a0.switches.length : Int) a1) && ((decide (a1.lie ≥ 0)) && (decide (a1.lie ≤ 2))))) (b := res) h))
        · replace h := h.2 q19
          refine cSeqG ⟨(mkS 78 [(2, .lptr 2 0), (3, .lptr 3 0), (5, .fn 122 [.lptr 3 0]), (8, .int .i64 a1.op), (51, .bool (a1.op == 6))]), [(3, (eEvent a1)), (2, (ePlan false a0))], []⟩ (True) ?_ (fun q24 => ?_)
          · skip
            refine rgS [] 11 ?_
            refine sEnd [(51, .bool (a1.op == 6)), (52, .bool (a1.op == 6))] ?_
            refine QJoin.normal trivial ?_
            exact wkJ (by kernel_rfl)
          refine cCond (.tmp 51) (a1.op == 6) (fun q25 => ?_) (fun q25 => ?_)
          · replace h := h.1 q25
            refine cSeqG ⟨(mkS 78 [(4, .bool ((inTgt (a0.switches.length : Int) a1) && ((decide (a1.lie ≥ 1)) && (decide (a1.lie ≤ 2)))))]), [(3, (eEvent a1)), (2, (ePlan false a0))], []⟩ (a0.switches.length ≤ 4611686018427387904) ?_ (fun q26 => ?_)
            · skip
              refine rgS [] 12 ?_
              refine sLen 4 (some 56) [(55, .lst (List.map eInt a0.switches) false false), (54, .lptr 2 1), (53, .fn 122 [.lptr 3 0])] eInt a0.switches (fun q27 => ?_)
              refine sCallV 1 (some 57) [] [.int .i64 (a0.switches.length : Int), .lptr 3 0] (impl_evOk_1_V (a0.switches.length : Int) a1) (PW.cons (Snap2.of1 (.int _ _)) (PW.cons (Snap2.of1 (sa_lptr (by kernel_rfl) (CellsIn.cons (.int _ _) (CellsIn.cons (.int _ _) (CellsIn.cons (.int _ _) CellsIn.nil))))) PW.nil)) ?_
              refine sCase 1 [(58, .bool (inTgt (a0.switches.length : Int) a1))] 58 (inTgt (a0.switches.length : Int) a1) (fun q28 => ?_) (fun q28 => ?_)
              · skip
                refine sCase 5 [(63, .bool (decide (a1.lie ≥ 1))), (62, .bool (decide (a1.lie ≥ 1))), (61, .bool (decide (a1.lie ≥ 1))), (60, .int .i64 a1.lie), (59, .lptr 3 2)] 63 (decide (a1.lie ≥ 1)) (fun q29 => ?_) (fun q29 => ?_)
                · skip
                  refine sEnd [(4, .bool (decide (a1.lie ≤ 2))), (67, .bool (decide (a1.lie ≤ 2))), (66, .bool (decide (a1.lie ≤ 2))), (65, .int .i64 a1.lie), (64, .lptr 3 2)] ?_
                  refine QJoin.normal q27 ?_
                  exact wkJ (by simp only [q8, q15, q19, q25, q28, q29, Bool.true_or, Bool.false_or, Bool.true_and, Bool.false_and, Bool.not_true, Bool.not_false, Bool.and_true, Bool.and_false, Bool.or_true, Bool.or_false, cond_true, cond_false] <;> kernel_rfl)
                · skip
                  refine sEnd [(4, .bool false), (67, .bool false), (66, .tup []), (65, .tup []), (64, .tup [])] ?_
                  refine QJoin.normal q27 ?_
                  exact wkJ (by simp only [q8, q15, q19, q25, q28, q29, Bool.true_or, Bool.false_or, Bool.true_and, Bool.false_and, Bool.not_true, Bool.not_false, Bool.and_true, Bool.and_false, Bool.or_true, Bool.or_false, cond_true, cond_false] <;> kernel_rfl)
              · skip
                refine sEnd [(4, .bool false), (67, .bool false), (66, .tup []), (65, .tup []), (64, .tup []), (63, .bool false), (62, .bool false), (61, .tup []), (60, .tup []), (59, .tup [])] ?_
                refine QJoin.normal q27 ?_
                exact wkJ (by simp only [q8, q15, q19, q25, q28, Bool.true_or, Bool.false_or, Bool.true_and, Bool.false_and, Bool.not_true, Bool.not_false, Bool.and_true, Bool.and_false, Bool.or_true, Bool.or_false, cond_true, cond_false] <;> kernel_rfl)
            replace h := h q26
            refine cRet ?_
            refine QBlock.ret ?_
            refine QJoin.ret ?_
            refine rtS (.bool ((inTgt (a0.switches.length : Int) a1) && ((decide (a1.lie ≥ 1)) && (decide (a1.lie ≤ 2))))) [.bool ((inTgt (a0.switches.length : Int) a1) && ((decide (a1.lie ≥ 1)) && (decide (a1.lie ≤ 2))))] ?_
            exact (SnapR3.of1 (sr_bool (H := []) (a := ((inTgt (a0.switches.length : Int) a1) && ((decide (a1.lie ≥ 1)) && (decide (a1.lie ≤ 2))))) (b := res) h))
          · replace h := h.2 q25
            refine cSeqG ⟨(mkS 78 [(3, .lptr 3 0), (68, .bool (a1.op == 7))]), [(3, (eEvent a1)), (2, (ePlan false a0))], []⟩ (True) ?_ (fun q30 => ?_)
            · skip
              refine rgS [] 13 ?_
              refine sEnd [(68, .bool (a1.op == 7)), (69, .bool (a1.op == 7))] ?_
              refine QJoin.normal trivial ?_
              exact wkJ (by kernel_rfl)
            refine cCond (.tmp 68) (a1.op == 7) (fun q31 => ?_) (fun q31 => ?_)
            · replace h := h q31
              refine cSeqG ⟨(mkS 78 [(4, .bool ((a1.tgt == 0) && (a1.lie == 0)))]), [(3, (eEvent a1)), (2, (ePlan false a0))], []⟩ (True) ?_ (fun q32 => ?_)
              · skip
                refine rgS [] 14 ?_
                refine sCase 4 [(73, .bool (a1.tgt == 0)), (72, .bool (a1.tgt == 0)), (71, .int .i64 a1.tgt), (70, .lptr 3 1)] 73 (a1.tgt == 0) (fun q33 => ?_) (fun q33 => ?_)
                · skip
                  refine sEnd [(4, .bool (a1.lie == 0)), (77, .bool (a1.lie == 0)), (76, .bool (a1.lie == 0)), (75, .int .i64 a1.lie), (74, .lptr 3 2)] ?_
                  refine QJoin.normal trivial ?_
                  exact wkJ (by simp only [q8, q15, q19, q25, q31, q33, Bool.true_or, Bool.false_or, Bool.true_and, Bool.false_and, Bool.not_true, Bool.not_false, Bool.and_true, Bool.and_false, Bool.or_true, Bool.or_false, cond_true, cond_false] <;> kernel_rfl)
                · skip
                  refine sEnd [(4, .bool false), (77, .bool false), (76, .tup []), (75, .tup []), (74, .tup [])] ?_
                  refine QJoin.normal trivial ?_
                  exact wkJ (by simp only [q8, q15, q19, q25, q31, q33, Bool.true_or, Bool.false_or, Bool.true_and, Bool.false_and, Bool.not_true, Bool.not_false, Bool.and_true, Bool.and_false, Bool.or_true, Bool.or_false, cond_true, cond_false] <;> kernel_rfl)
              refine cRet ?_
              refine QBlock.ret ?_
              refine QJoin.ret ?_
              refine rtS (.bool ((a1.tgt == 0) && (a1.lie == 0))) [.bool ((a1.tgt == 0) && (a1.lie == 0))] ?_
              exact (SnapR3.of1 (sr_bool (H := []) (a := ((a1.tgt == 0) && (a1.lie == 0))) (b := res) h))
            · skip
              refine cSkip ?_
              refine QBlock.normal ?_
              refine QJoin.normal (by simp only [q8, q15, q19, q25, q31, Bool.true_or, Bool.false_or, Bool.true_and, Bool.false_and, Bool.not_true, Bool.not_false, Bool.and_true, Bool.and_false, Bool.or_true, Bool.or_false, cond_true, cond_false]) ?_
              exact wkJ (by kernel_rfl)
  replace h := h q3
  refine cSeqG ⟨(mkS 78 [(4, .bool false)]), [(3, (eEvent a1)), (2, (ePlan false a0))], []⟩ (True) ?_ (fun q34 => ?_)
  · skip
    refine rgS [] 15 ?_
    refine sEnd [(4, .bool false)] ?_
    refine QJoin.normal trivial ?_
    exact wkJ (by kernel_rfl)
  refine cRet ?_
  refine rtS (.bool false) [.bool false] ?_
  exact (SnapR3.of1 (sr_bool (H := []) (a := false) (b := res) h))

set_option maxHeartbeats 4000000 in
theorem impl_evOk_vc (a0 : Plan) (a1 : Event) : impl_evOk_C a0 a1 (evGood a0 a1) := by
  unfold impl_evOk_C impl_evOk_C2 impl_evOk_C1
  rw [orB, orB, beq_dec, beq_dec, beq_dec, beq_dec, beq_dec, tgt_in, tgt_in, tgt_in]
  simp only [decide_eq_true_eq, decide_eq_false_iff_not]
  refine ⟨⟨fun h hl => ?_, fun h1 => ⟨fun h => ?_, fun h3 => ⟨fun h hl => ?_, fun h5 => ⟨fun h hl => ?_, fun h6 h => ?_⟩⟩⟩⟩, fun h => ?_⟩
  · rw [ev12 h]
  · rw [ev34 h1 h]
  · rw [ev5 h]; rfl
  · rw [ev6 h]; rfl
  · rw [ev7 h]
  · simp only [Bool.and_eq_true, Bool.not_eq_true', decide_eq_false_iff_not] at h
    exact (evNo h.1 h.2.1 h.2.2.1 h.2.2.2.1 h.2.2.2.2).symm

theorem impl_evOk_V (a0 : Plan) (a1 : Event) : FnV Try.prog 62 [.agg (ePlan false a0), .agg (eEvent a1)] (.bool (evGood a0 a1)) := impl_evOk_walk a0 a1 (evGood a0 a1) (impl_evOk_vc a0 a1)

noncomputable def impl_EventOk_b : Code := bodyC Try.f31
def impl_EventOk_C (a0 : Plan) (a1 : Event) (res : Bool) : Prop :=
  ((planGood a0) && (evGood a0 a1)) = res
set_option maxHeartbeats 4000000 in
theorem impl_EventOk_walk (a0 : Plan) (a1 : Event) (res : Bool) (h : impl_EventOk_C a0 a1 res) : FnV Try.prog 31 [.agg (ePlan false a0), .agg (eEvent a1)] (.bool res) := by
  unfold impl_EventOk_C at h
  refine FnS.of_body (fn := Try.f31) (c := impl_EventOk_b) Try.func31 (by kernel_rfl) (by kernel_rfl) ?_
  refine WpS.codeIs (c' := (nv impl_EventOk_b 1)) (by kernel_rfl) ?_
  refine WpS.start (st' := ⟨(mkS 12 [(0, .agg (ePlan false a0)), (1, .agg (eEvent a1))]), [], []⟩) (by kernel_rfl) ?_
  refine cSeqG ⟨(mkS 12 [(2, .lptr 2 0), (3, .lptr 3 0)]), [(3, (eEvent a1)), (2, (ePlan false a0))], []⟩ (True) ?_ (fun q1 => ?_)
  · skip
    refine rgS [] 0 ?_
    refine sEnd' [(4, .bool false), (3, .lptr 3 0), (2, .lptr 2 0)] [(3, (eEvent a1)), (2, (ePlan false a0))] [] ?_
    refine QJoin.normal trivial ?_
    exact wkJ (by kernel_rfl)
  refine cSeqG ⟨(mkS 12 [(4, .bool ((planGood a0) && (evGood a0 a1)))]), [(3, (eEvent a1)), (2, (ePlan false a0))], []⟩ (True) ?_ (fun q2 => ?_)
  · skip
    refine rgS [] 1 ?_
    refine sCallV 2 (some 6) [(5, .agg (ePlan false a0))] [.agg (ePlan false a0)] (impl_right_V a0) (PW.cons (Snap2.agg (PW.cons (.int _ _) (PW.cons sa_lst (PW.cons sa_lst (PW.cons sa_lst (PW.cons (.int _ _) PW.nil)))))) PW.nil) ?_
    refine sCase 1 [(7, .bool (planGood a0))] 7 (planGood a0) (fun q3 => ?_) (fun q3 => ?_)
    · skip
      refine sCallV 3 (some 10) [(9, .agg (eEvent a1)), (8, .agg (ePlan false a0))] [.agg (ePlan false a0), .agg (eEvent a1)] (impl_evOk_V a0 a1) (PW.cons (Snap2.agg (PW.cons (.int _ _) (PW.cons sa_lst (PW.cons sa_lst (PW.cons sa_lst (PW.cons (.int _ _) PW.nil)))))) (PW.cons (Snap2.agg (PW.cons (.int _ _) (PW.cons (.int _ _) (PW.cons (.int _ _) PW.nil)))) PW.nil)) ?_
      refine sEnd [(4, .bool (evGood a0 a1)), (11, .bool (evGood a0 a1))] ?_
      refine QJoin.normal trivial ?_
      exact wkJ (by simp only [q3, Bool.true_or, Bool.false_or, Bool.true_and, Bool.false_and, Bool.not_true, Bool.not_false, Bool.and_true, Bool.and_false, Bool.or_true, Bool.or_false, cond_true, cond_false] <;> kernel_rfl)
    · skip
      refine sEnd [(4, .bool false), (11, .bool false), (10, .tup []), (9, .tup []), (8, .tup [])] ?_
      refine QJoin.normal trivial ?_
      exact wkJ (by simp only [q3, Bool.true_or, Bool.false_or, Bool.true_and, Bool.false_and, Bool.not_true, Bool.not_false, Bool.and_true, Bool.and_false, Bool.or_true, Bool.or_false, cond_true, cond_false] <;> kernel_rfl)
  refine cRet ?_
  refine rtS (.bool ((planGood a0) && (evGood a0 a1))) [.bool ((planGood a0) && (evGood a0 a1))] ?_
  exact (SnapR3.of1 (sr_bool (H := []) (a := ((planGood a0) && (evGood a0 a1))) (b := res) h))

set_option maxHeartbeats 4000000 in
theorem impl_EventOk_vc (a0 : Plan) (a1 : Event) : impl_EventOk_C a0 a1 (eventOk a0 a1) := by
  rfl

theorem impl_EventOk_V (a0 : Plan) (a1 : Event) : FnV Try.prog 31 [.agg (ePlan false a0), .agg (eEvent a1)] (.bool (eventOk a0 a1)) := impl_EventOk_walk a0 a1 (eventOk a0 a1) (impl_EventOk_vc a0 a1)

end Go.Proofs.Ytglpfccgmfhkdaa.Fw
