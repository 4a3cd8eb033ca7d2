/- Walks and summaries of functions, printed by a program of mine (tools/mk.py), with the proofs of what they owe. -/
import Derived.Test.YtglpfccgmfhkdaaProg
import Derived.Test.YtglpfccgmfhkdaaWkD
set_option linter.unusedVariables false
set_option maxRecDepth 100000
set_option linter.unusedSimpArgs false
namespace Go.Proofs.Ytglpfccgmfhkdaa.Fw
open Go
attribute [local irreducible] evS evSD WpS Weak Oper.looksAt
noncomputable def laws_FnExactEventOk_b : Code := bodyC Try.f6
def laws_FnExactEventOk_o5 : List Item := [⟨0, true, true, []⟩, ⟨1, true, true, []⟩, ⟨2, true, true, []⟩, ⟨3, true, true, []⟩, ⟨4, true, true, []⟩, ⟨5, true, true, []⟩]
def laws_FnExactEventOk_o5a : List (List Nat) := [[], [0], [], [0, 1, 2], [0, 1, 2, 3], [0, 1, 2, 3, 4]]
def laws_FnExactEventOk_o7 : List Item := [⟨0, true, true, []⟩, ⟨1, true, true, []⟩, ⟨2, true, true, []⟩, ⟨3, true, true, []⟩, ⟨4, true, true, []⟩]
def laws_FnExactEventOk_o7a : List (List Nat) := [[], [], [1], [0, 1, 2], [0, 1, 2, 3]]
def laws_FnExactEventOk_o10 : List Item := [⟨0, true, true, []⟩, ⟨1, true, true, []⟩, ⟨2, true, true, []⟩, ⟨3, true, true, []⟩, ⟨4, true, true, []⟩]
def laws_FnExactEventOk_o10a : List (List Nat) := [[], [], [1], [0, 1, 2], [0, 1, 2, 3]]
def laws_FnExactEventOk_C1 (a0 : Plan) (a1 : Event) (res : Bool) : Prop :=
  ((decide ((szPlan a0 1048576) < 0)) = true → true = res) ∧ ((!(decide ((szPlan a0 1048576) < 0))) = true → (smallPlan a0) ∧ ((smallPlan a0) ∧ ((((eventOk (idt a0) (idt a1)) != (eventOk (idt a0) (idt a1))) = true → false = res) ∧ ((!((eventOk (idt a0) (idt a1)) != (eventOk (idt a0) (idt a1)))) = true → ((smallPlan a0) ∧ ((!(eqv (idt a0) (idt a0))) = true → false = res)) ∧ ((!(!(eqv (idt a0) (idt a0)))) = true → true = res)))))
def laws_FnExactEventOk_C (a0 : Plan) (a1 : Event) (res : Bool) : Prop :=
  (okL a0 1048576) ∧ (laws_FnExactEventOk_C1 a0 a1 res)
set_option maxHeartbeats 4000000 in
theorem laws_FnExactEventOk_walk (a0 : Plan) (a1 : Event) (res : Bool) (h : laws_FnExactEventOk_C a0 a1 res) : FnV Try.prog 6 [.agg (ePlan false a0), .agg (eEvent a1)] (.bool res) := by
  unfold laws_FnExactEventOk_C at h
  refine FnS.of_body (fn := Try.f6) (c := laws_FnExactEventOk_b) Try.func6 (by kernel_rfl) (by kernel_rfl) ?_
  refine WpS.codeIs (c' := (nv laws_FnExactEventOk_b 1)) (by kernel_rfl) ?_
  refine WpS.start (st' := ⟨(mkS 33 [(0, .agg (ePlan false a0)), (1, .agg (eEvent a1))]), [], []⟩) (by kernel_rfl) ?_
  refine cSeqG ⟨(mkS 33 [(2, .lptr 2 0), (3, .lptr 3 0)]), [(3, (eEvent a1)), (2, (ePlan false a0))], []⟩ (True) ?_ (fun q1 => ?_)
  · skip
    refine rgS [] 0 ?_
    refine sEnd' [(4, .bool false), (3, .lptr 3 0), (2, .lptr 2 0)] [(3, (eEvent a1)), (2, (ePlan false a0))] [] ?_
    refine QJoin.normal trivial ?_
    exact wkJ (by kernel_rfl)
  refine cSeqG ⟨(mkS 33 [(2, .lptr 2 0), (3, .lptr 3 0), (5, .int .i64 1048576)]), [(3, (eEvent a1)), (2, (ePlan false a0))], []⟩ (True) ?_ (fun q2 => ?_)
  · skip
    refine rgS [] 1 ?_
    refine sEnd [(5, .int .i64 1048576)] ?_
    refine QJoin.normal trivial ?_
    exact wkJ (by kernel_rfl)
  obtain ⟨q30, h⟩ := h
  refine cSeqG ⟨(mkS 33 [(2, .lptr 2 0), (3, .lptr 3 0), (5, .int .i64 (szPlan a0 1048576))]), [(3, (eEvent a1)), (2, (ePlan false a0))], []⟩ (True) ?_ (fun q3 => ?_)
  · replace h := q30
    refine rgS [] 2 ?_
    have q4 := h
    refine sCallV 3 (some 11) [(10, .int .i64 1048576), (9, .agg (ePlan false a0))] [.agg (ePlan false a0), .int .i64 1048576] (laws_szPlan_V a0 1048576 q4) (PW.cons (Snap2.agg (PW.cons (.int _ _) (PW.cons sa_lst (PW.cons sa_lst (PW.cons sa_lst (PW.cons (.int _ _) PW.nil)))))) (PW.cons (Snap2.of1 (.int _ _)) PW.nil)) ?_
    refine sEnd [(5, .int .i64 (szPlan a0 1048576))] ?_
    refine QJoin.normal trivial ?_
    exact wkJ (by kernel_rfl)
  unfold laws_FnExactEventOk_C1 at h
  obtain ⟨q29, h⟩ := h
  refine cSeqG ⟨(mkS 33 [(2, .lptr 2 0), (3, .lptr 3 0)]), [(3, (eEvent a1)), (2, (ePlan false a0))], []⟩ ((!(decide ((szPlan a0 1048576) < 0))) = true) ?_ (fun q5 => ?_)
  · replace h := q29
    refine cSeqG ⟨(mkS 33 [(2, .lptr 2 0), (3, .lptr 3 0), (13, .bool (decide ((szPlan a0 1048576) < 0)))]), [(3, (eEvent a1)), (2, (ePlan false a0))], []⟩ (True) ?_ (fun q6 => ?_)
    · skip
      refine rgS [] 3 ?_
      refine sEnd [(13, .bool (decide ((szPlan a0 1048576) < 0))), (12, .int .i64 (szPlan a0 1048576))] ?_
      refine QJoin.normal trivial ?_
      exact wkJ (by kernel_rfl)
    refine cCond (.tmp 13) (decide ((szPlan a0 1048576) < 0)) (fun q7 => ?_) (fun q7 => ?_)
    · replace h := h q7
      refine cSeqG ⟨(mkS 33 [(4, .bool true)]), [(3, (eEvent a1)), (2, (ePlan false a0))], []⟩ (True) ?_ (fun q8 => ?_)
      · skip
        refine rgS [] 4 ?_
        refine sEnd [(4, .bool true)] ?_
        refine QJoin.normal trivial ?_
        exact wkJ (by kernel_rfl)
      refine cRet ?_
      refine QJoin.ret ?_
      refine rtS (.bool true) [.bool true] ?_
      exact (SnapR3.of1 (sr_bool (H := []) (a := true) (b := res) h))
    · skip
      refine cSkip ?_
      refine QJoin.normal (by simp only [q7, Bool.true_or, Bool.false_or, Bool.true_and, Bool.false_and, Bool.not_true, Bool.not_false, Bool.and_true, Bool.and_false, Bool.or_true, Bool.or_false, cond_true, cond_false]) ?_
      exact wkJ (by kernel_rfl)
  replace h := h q5
  obtain ⟨q28, h⟩ := h
  refine cSeqG ⟨(mkS 33 [(2, .lptr 2 0), (3, .lptr 3 0), (6, .bool (eventOk (idt a0) (idt a1)))]), [(3, (eEvent a1)), (2, (ePlan false a0))], []⟩ (True) ?_ (fun q9 => ?_)
  · replace h := q28
    refine rgD [] 5 laws_FnExactEventOk_o5 laws_FnExactEventOk_o5a ?_
    have q10 := h
    refine tCallV 2 (some 15) [(14, .agg (ePlan false a0))] [.agg (ePlan false a0)] (laws_toPlan_V a0 q10) (PW.cons (Snap2.agg (PW.cons (.int _ _) (PW.cons sa_lst (PW.cons sa_lst (PW.cons sa_lst (PW.cons (.int _ _) PW.nil)))))) PW.nil) ?_
    refine tCallV 2 (some 17) [(16, .agg (eEvent a1))] [.agg (eEvent a1)] (laws_toEvent_V a1) (PW.cons (Snap2.agg (PW.cons (.int _ _) (PW.cons (.int _ _) (PW.cons (.int _ _) PW.nil)))) PW.nil) ?_
    refine tCallV 1 (some 18) [] [.agg (ePlan true (idt a0)), .agg (eEvent (idt a1))] (spec_EventOk_V (idt a0) (idt a1)) (PW.cons (Snap2.agg (PW.cons (.int _ _) (PW.cons sa_lst (PW.cons sa_lst (PW.cons sa_lst (PW.cons (.int _ _) PW.nil)))))) (PW.cons (Snap2.agg (PW.cons (.int _ _) (PW.cons (.int _ _) (PW.cons (.int _ _) PW.nil)))) PW.nil)) ?_
    refine tEnd [(6, .bool (eventOk (idt a0) (idt a1)))] ?_
    refine QJoin.normal trivial ?_
    exact wkJ (by kernel_rfl)
  obtain ⟨q27, h⟩ := h
  refine cSeqG ⟨(mkS 33 [(2, .lptr 2 0), (3, .lptr 3 0), (6, .bool (eventOk (idt a0) (idt a1))), (7, .lptr 7 0)]), [(7, (ePlan true (idt a0))), (3, (eEvent a1)), (2, (ePlan false a0))], []⟩ (True) ?_ (fun q11 => ?_)
  · replace h := q27
    refine rgS [] 6 ?_
    have q12 := h
    refine sCallV 2 (some 20) [(19, .agg (ePlan false a0))] [.agg (ePlan false a0)] (laws_toPlan_V a0 q12) (PW.cons (Snap2.agg (PW.cons (.int _ _) (PW.cons sa_lst (PW.cons sa_lst (PW.cons sa_lst (PW.cons (.int _ _) PW.nil)))))) PW.nil) ?_
    refine sEnd' [(7, .lptr 7 0)] [(7, (ePlan true (idt a0))), (3, (eEvent a1)), (2, (ePlan false a0))] [] ?_
    refine QJoin.normal trivial ?_
    exact wkJ (by kernel_rfl)
  refine cSeqG ⟨(mkS 33 [(2, .lptr 2 0), (6, .bool (eventOk (idt a0) (idt a1))), (7, .lptr 7 0), (8, .bool (eventOk (idt a0) (idt a1)))]), [(7, (ePlan true (idt a0))), (3, (eEvent a1)), (2, (ePlan false a0))], []⟩ (True) ?_ (fun q13 => ?_)
  · skip
    refine rgD [] 7 laws_FnExactEventOk_o7 laws_FnExactEventOk_o7a ?_
    refine tCallV 3 (some 23) [(22, .agg (eEvent a1)), (21, .agg (ePlan true (idt a0)))] [.agg (eEvent a1)] (laws_toEvent_V a1) (PW.cons (Snap2.agg (PW.cons (.int _ _) (PW.cons (.int _ _) (PW.cons (.int _ _) PW.nil)))) PW.nil) ?_
    refine tCallV 1 (some 24) [] [.agg (ePlan true (idt a0)), .agg (eEvent (idt a1))] (impl_EventOk_V (idt a0) (idt a1)) (PW.cons (Snap2.agg (PW.cons (.int _ _) (PW.cons sa_lst (PW.cons sa_lst (PW.cons sa_lst (PW.cons (.int _ _) PW.nil)))))) (PW.cons (Snap2.agg (PW.cons (.int _ _) (PW.cons (.int _ _) (PW.cons (.int _ _) PW.nil)))) PW.nil)) ?_
    refine tEnd [(8, .bool (eventOk (idt a0) (idt a1)))] ?_
    refine QJoin.normal trivial ?_
    exact wkJ (by kernel_rfl)
  obtain ⟨q26, h⟩ := h
  refine cSeqG ⟨(mkS 33 [(2, .lptr 2 0), (7, .lptr 7 0)]), [(7, (ePlan true (idt a0))), (3, (eEvent a1)), (2, (ePlan false a0))], []⟩ ((!((eventOk (idt a0) (idt a1)) != (eventOk (idt a0) (idt a1)))) = true) ?_ (fun q14 => ?_)
  · replace h := q26
    refine cSeqG ⟨(mkS 33 [(2, .lptr 2 0), (7, .lptr 7 0), (27, .bool ((eventOk (idt a0) (idt a1)) != (eventOk (idt a0) (idt a1))))]), [(7, (ePlan true (idt a0))), (3, (eEvent a1)), (2, (ePlan false a0))], []⟩ (True) ?_ (fun q15 => ?_)
    · skip
      refine rgS [] 8 ?_
      refine sEnd [(27, .bool ((eventOk (idt a0) (idt a1)) != (eventOk (idt a0) (idt a1)))), (26, .bool (eventOk (idt a0) (idt a1))), (25, .bool (eventOk (idt a0) (idt a1)))] ?_
      refine QJoin.normal trivial ?_
      exact wkJ (by kernel_rfl)
    refine cCond (.tmp 27) ((eventOk (idt a0) (idt a1)) != (eventOk (idt a0) (idt a1))) (fun q16 => ?_) (fun q16 => ?_)
    · replace h := h q16
      refine cSeqG ⟨(mkS 33 [(4, .bool false)]), [(7, (ePlan true (idt a0))), (3, (eEvent a1)), (2, (ePlan false a0))], []⟩ (True) ?_ (fun q17 => ?_)
      · skip
        refine rgS [] 9 ?_
        refine sEnd [(4, .bool false)] ?_
        refine QJoin.normal trivial ?_
        exact wkJ (by kernel_rfl)
      refine cRet ?_
      refine QJoin.ret ?_
      refine rtS (.bool false) [.bool false] ?_
      exact (SnapR3.of1 (sr_bool (H := []) (a := false) (b := res) h))
    · skip
      refine cSkip ?_
      refine QJoin.normal (by simp only [q5, q16, Bool.true_or, Bool.false_or, Bool.true_and, Bool.false_and, Bool.not_true, Bool.not_false, Bool.and_true, Bool.and_false, Bool.or_true, Bool.or_false, cond_true, cond_false]) ?_
      exact wkJ (by kernel_rfl)
  replace h := h q14
  obtain ⟨q25, h⟩ := h
  refine cSeqG ⟨(mkS 33 []), [(7, (ePlan true (idt a0))), (3, (eEvent a1)), (2, (ePlan false a0))], []⟩ ((!(!(eqv (idt a0) (idt a0)))) = true) ?_ (fun q18 => ?_)
  · replace h := q25
    obtain ⟨q23, h⟩ := h
    refine cSeqG ⟨(mkS 33 [(32, .bool (!(eqv (idt a0) (idt a0))))]), [(7, (ePlan true (idt a0))), (3, (eEvent a1)), (2, (ePlan false a0))], []⟩ (True) ?_ (fun q19 => ?_)
    · replace h := q23
      refine rgD [] 10 laws_FnExactEventOk_o10 laws_FnExactEventOk_o10a ?_
      have q20 := h
      refine tCallV 3 (some 30) [(29, .agg (ePlan false a0)), (28, .agg (ePlan true (idt a0)))] [.agg (ePlan false a0)] (laws_toPlan_V a0 q20) (PW.cons (Snap2.agg (PW.cons (.int _ _) (PW.cons sa_lst (PW.cons sa_lst (PW.cons sa_lst (PW.cons (.int _ _) PW.nil)))))) PW.nil) ?_
      refine tCallV 1 (some 31) [] [.agg (ePlan true (idt a0)), .agg (ePlan true (idt a0))] (laws_eqPlan_V (idt a0) (idt a0)) (PW.cons (Snap2.agg (PW.cons (.int _ _) (PW.cons sa_lst (PW.cons sa_lst (PW.cons sa_lst (PW.cons (.int _ _) PW.nil)))))) (PW.cons (Snap2.agg (PW.cons (.int _ _) (PW.cons sa_lst (PW.cons sa_lst (PW.cons sa_lst (PW.cons (.int _ _) PW.nil)))))) PW.nil)) ?_
      refine tEnd [(32, .bool (!(eqv (idt a0) (idt a0))))] ?_
      refine QJoin.normal trivial ?_
      exact wkJ (by kernel_rfl)
    refine cCond (.tmp 32) (!(eqv (idt a0) (idt a0))) (fun q21 => ?_) (fun q21 => ?_)
    · replace h := h q21
      refine cSeqG ⟨(mkS 33 [(4, .bool false)]), [(7, (ePlan true (idt a0))), (3, (eEvent a1)), (2, (ePlan false a0))], []⟩ (True) ?_ (fun q22 => ?_)
      · skip
        refine rgS [] 11 ?_
        refine sEnd [(4, .bool false)] ?_
        refine QJoin.normal trivial ?_
        exact wkJ (by kernel_rfl)
      refine cRet ?_
      refine QJoin.ret ?_
      refine rtS (.bool false) [.bool false] ?_
      exact (SnapR3.of1 (sr_bool (H := []) (a := false) (b := res) h))
    · skip
      refine cSkip ?_
      refine QJoin.normal (by simp only [q5, q14, q21, Bool.true_or, Bool.false_or, Bool.true_and, Bool.false_and, Bool.not_true, Bool.not_false, Bool.and_true, Bool.and_false, Bool.or_true, Bool.or_false, cond_true, cond_false]) ?_
      exact wkJ (by kernel_rfl)
  replace h := h q18
  refine cSeqG ⟨(mkS 33 [(4, .bool true)]), [(7, (ePlan true (idt a0))), (3, (eEvent a1)), (2, (ePlan false a0))], []⟩ (True) ?_ (fun q24 => ?_)
  · skip
    refine rgS [] 12 ?_
    refine sEnd [(4, .bool true)] ?_
    refine QJoin.normal trivial ?_
    exact wkJ (by kernel_rfl)
  refine cRet ?_
  refine rtS (.bool true) [.bool true] ?_
  exact (SnapR3.of1 (sr_bool (H := []) (a := true) (b := res) h))

set_option maxHeartbeats 4000000 in
theorem laws_FnExactEventOk_vc (a0 : Plan) (a1 : Event) : laws_FnExactEventOk_C a0 a1 (yes2 a0 a1) := by
  unfold laws_FnExactEventOk_C laws_FnExactEventOk_C1
  refine ⟨⟨by omega, by omega⟩, fun _ => rfl, fun h => ?_⟩
  have hs := small_of h
  exact ⟨hs, hs, fun h => by simp at h, fun _ => ⟨⟨hs, fun h => by simp [eqv] at h⟩, fun _ => rfl⟩⟩

theorem laws_FnExactEventOk_V (a0 : Plan) (a1 : Event) : FnV Try.prog 6 [.agg (ePlan false a0), .agg (eEvent a1)] (.bool (yes2 a0 a1)) := laws_FnExactEventOk_walk a0 a1 (yes2 a0 a1) (laws_FnExactEventOk_vc a0 a1)

end Go.Proofs.Ytglpfccgmfhkdaa.Fw
