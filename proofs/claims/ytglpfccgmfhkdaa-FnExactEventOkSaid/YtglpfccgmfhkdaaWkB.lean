/- Walks and summaries of functions, printed by a program of mine (tools/mk.py), with the proofs of what they owe. -/
import Derived.Test.YtglpfccgmfhkdaaProg
import Derived.Test.YtglpfccgmfhkdaaSpC
import Derived.Test.YtglpfccgmfhkdaaWkA
set_option linter.unusedVariables false
set_option maxRecDepth 100000
set_option linter.unusedSimpArgs false
namespace Go.Proofs.Ytglpfccgmfhkdaa.Fw
open Go
attribute [local irreducible] evS evSD WpS Weak Oper.looksAt
noncomputable def spec_l1list_b : Code := bodyC Try.f126
def spec_l1list_C1 (I0 : Int → Prop) (m0 : Int → Nat) (I1 : Int → Int → Prop) (m1 : Int → Int → Nat) (a0 : (List Int)) (a1 : Int) (res : Bool) (v10 : Int) : Prop :=
  ((!(inR (nth a0 v10) 0 (IntKind.i64.wrap (a1 - 1)))) = true → false = res) ∧ ((!(!(inR (nth a0 v10) 0 (IntKind.i64.wrap (a1 - 1))))) = true → I1 v10 0 ∧ ∀ (v7 : Int), I1 v10 v7 → (((decide (v7 < v10)) = false → I0 (IntKind.i64.wrap (v10 + 1)) ∧ m0 (IntKind.i64.wrap (v10 + 1)) < m0 v10) ∧ ((decide (v7 < v10)) = true → ((0 ≤ v7 ∧ v7.toNat < a0.length) ∧ (((nth a0 v7) == (nth a0 v10)) = true → false = res)) ∧ ((!((nth a0 v7) == (nth a0 v10))) = true → I1 v10 (IntKind.i64.wrap (v7 + 1)) ∧ m1 v10 (IntKind.i64.wrap (v7 + 1)) < m1 v10 v7))))
def spec_l1list_C (a0 : (List Int)) (a1 : Int) (res : Bool) (I0 : Int → Prop) (m0 : Int → Nat) (I1 : Int → Int → Prop) (m1 : Int → Int → Nat) : Prop :=
  a0.length ≤ 4611686018427387904 → I0 0 ∧ ∀ (v10 : Int), I0 v10 → (((decide (v10 < (a0.length : Int))) = false → (decide ((a0.length : Int) ≤ 30)) = res) ∧ ((decide (v10 < (a0.length : Int))) = true → (0 ≤ v10 ∧ v10.toNat < a0.length) ∧ (spec_l1list_C1 I0 m0 I1 m1 a0 a1 res v10)))
set_option maxHeartbeats 4000000 in
theorem spec_l1list_walk (a0 : (List Int)) (a1 : Int) (res : Bool) (I0 : Int → Prop) (m0 : Int → Nat) (I1 : Int → Int → Prop) (m1 : Int → Int → Nat) (h : spec_l1list_C a0 a1 res I0 m0 I1 m1) : FnV Try.prog 126 [.lst (List.map eInt a0) false false, .int .i64 a1] (.bool res) := by
  unfold spec_l1list_C at h
  refine FnS.of_body (fn := Try.f126) (c := spec_l1list_b) Try.func126 (by kernel_rfl) (by kernel_rfl) ?_
  refine WpS.codeIs (c' := (nv spec_l1list_b 1)) (by kernel_rfl) ?_
  refine WpS.start (st' := ⟨(mkS 35 [(0, .lst (List.map eInt a0) false false), (1, .int .i64 a1)]), [], []⟩) (by kernel_rfl) ?_
  refine cSeqG ⟨(mkS 35 [(0, .lst (List.map eInt a0) false false), (1, .int .i64 a1)]), [], []⟩ (True) ?_ (fun q1 => ?_)
  · skip
    refine rgS [] 0 ?_
    refine sEnd [(4, .bool false)] ?_
    refine QJoin.normal trivial ?_
    exact wkJ (by kernel_rfl)
  refine cSeq ?_
  refine cSeqG ⟨(mkS 35 [(0, .lst (List.map eInt a0) false false), (1, .int .i64 a1), (8, .lst (List.map eInt a0) false false), (9, .int .i64 (a0.length : Int)), (10, .int .i64 0)]), [], []⟩ (a0.length ≤ 4611686018427387904) ?_ (fun q2 => ?_)
  · skip
    refine rgS [] 1 ?_
    refine sLen 2 (some 9) [(8, .lst (List.map eInt a0) false false)] eInt a0 (fun q3 => ?_)
    refine sEnd [(10, .int .i64 0)] ?_
    refine QJoin.normal q3 ?_
    exact wkJ (by kernel_rfl)
  replace h := h q2
  refine cBlock 0 ?_
  obtain ⟨q31, h⟩ := h
  refine cLoop (fun (v : Int) => (⟨(mkS 35 [(0, .lst (List.map eInt a0) false false), (1, .int .i64 a1), (8, .lst (List.map eInt a0) false false), (9, .int .i64 (a0.length : Int)), (10, .int .i64 v)]), [], []⟩ : St)) (fun (v : Int) => I0 v) (fun (v : Int) => m0 v) 0 (wkL []) q31 (fun v10 hI => ?_)
  skip
  replace h := h v10 hI
  show WpS _ _ _ ⟨(mkS 35 [(0, .lst (List.map eInt a0) false false), (1, .int .i64 a1), (8, .lst (List.map eInt a0) false false), (9, .int .i64 (a0.length : Int)), (10, .int .i64 v10)]), [], []⟩
  refine cSeqG ⟨(mkS 35 [(0, .lst (List.map eInt a0) false false), (1, .int .i64 a1), (8, .lst (List.map eInt a0) false false), (9, .int .i64 (a0.length : Int)), (10, .int .i64 v10), (11, .bool (decide (v10 < (a0.length : Int))))]), [], []⟩ (True) ?_ (fun q4 => ?_)
  · skip
    refine rgS [] 2 ?_
    refine sEnd [(11, .bool (decide (v10 < (a0.length : Int))))] ?_
    refine QJoin.normal trivial ?_
    exact wkJ (by kernel_rfl)
  obtain ⟨q30, h⟩ := h
  refine cSeqG ⟨(mkS 35 [(0, .lst (List.map eInt a0) false false), (1, .int .i64 a1), (8, .lst (List.map eInt a0) false false), (9, .int .i64 (a0.length : Int)), (10, .int .i64 v10)]), [], []⟩ ((decide (v10 < (a0.length : Int))) = true) ?_ (fun q5 => ?_)
  · replace h := q30
    refine cCond (.tmp 11) (decide (v10 < (a0.length : Int))) (fun q6 => ?_) (fun q6 => ?_)
    · skip
      refine cSkip ?_
      refine QJoin.normal (by simp only [q6, Bool.true_or, Bool.false_or, Bool.true_and, Bool.false_and, Bool.not_true, Bool.not_false, Bool.and_true, Bool.and_false, Bool.or_true, Bool.or_false, cond_true, cond_false]) ?_
      exact wkJ (by kernel_rfl)
    · replace h := h q6
      refine cExit 0 ?_
      refine QJoin.exit ?_
      refine QRound.exit ?_
      refine QBlock.here ?_
      refine QSeq.normal ?_
      refine cSeqG ⟨(mkS 35 [(4, .bool (decide ((a0.length : Int) ≤ 30)))]), [], []⟩ (True) ?_ (fun q7 => ?_)
      · skip
        refine rgS [] 12 ?_
        refine sLen 2 (some 33) [(32, .lst (List.map eInt a0) false false)] eInt a0 (fun q8 => ?_)
        refine sEnd [(4, .bool (decide ((a0.length : Int) ≤ 30))), (34, .bool (decide ((a0.length : Int) ≤ 30)))] ?_
        refine QJoin.normal trivial ?_
        exact wkJ (by kernel_rfl)
      refine cRet ?_
      refine rtS (.bool (decide ((a0.length : Int) ≤ 30))) [.bool (decide ((a0.length : Int) ≤ 30))] ?_
      exact (SnapR3.of1 (sr_bool (H := []) (a := (decide ((a0.length : Int) ≤ 30))) (b := res) h))
  replace h := h q5
  refine cSeq ?_
  refine cBlock 1 ?_
  obtain ⟨q29, h⟩ := h
  refine cSeqG ⟨(mkS 35 [(0, .lst (List.map eInt a0) false false), (1, .int .i64 a1), (5, .int .i64 v10), (6, .int .i64 (nth a0 v10)), (8, .lst (List.map eInt a0) false false), (9, .int .i64 (a0.length : Int)), (10, .int .i64 v10)]), [], []⟩ (True) ?_ (fun q9 => ?_)
  · replace h := q29
    refine rgS [] 3 ?_
    have q10 := h
    refine sIdx 2 (some 13) [(12, .int .i64 v10)] eInt a0 1 q10 ?_
    refine sEnd [(6, .int .i64 (nth a0 v10)), (5, .int .i64 v10), (14, .int .i64 (nth a0 v10))] ?_
    refine QJoin.normal trivial ?_
    exact wkJ (by kernel_rfl)
  unfold spec_l1list_C1 at h
  obtain ⟨q28, h⟩ := h
  refine cSeqG ⟨(mkS 35 [(0, .lst (List.map eInt a0) false false), (1, .int .i64 a1), (5, .int .i64 v10), (6, .int .i64 (nth a0 v10)), (8, .lst (List.map eInt a0) false false), (9, .int .i64 (a0.length : Int)), (10, .int .i64 v10)]), [], []⟩ ((!(!(inR (nth a0 v10) 0 (IntKind.i64.wrap (a1 - 1))))) = true) ?_ (fun q11 => ?_)
  · replace h := q28
    refine cSeqG ⟨(mkS 35 [(0, .lst (List.map eInt a0) false false), (1, .int .i64 a1), (5, .int .i64 v10), (6, .int .i64 (nth a0 v10)), (8, .lst (List.map eInt a0) false false), (9, .int .i64 (a0.length : Int)), (10, .int .i64 v10), (19, .bool (!(inR (nth a0 v10) 0 (IntKind.i64.wrap (a1 - 1)))))]), [], []⟩ (True) ?_ (fun q12 => ?_)
    · skip
      refine rgS [] 4 ?_
      refine sCallV 4 (some 18) [(17, .int .i64 (IntKind.i64.wrap (a1 - 1))), (16, .int .i64 a1), (15, .int .i64 (nth a0 v10))] [.int .i64 (nth a0 v10), .int .i64 0, .int .i64 (IntKind.i64.wrap (a1 - 1))] (spec_l1in_V (nth a0 v10) 0 (IntKind.i64.wrap (a1 - 1))) (PW.cons (Snap2.of1 (.int _ _)) (PW.cons (Snap2.of1 (.int _ _)) (PW.cons (Snap2.of1 (.int _ _)) PW.nil))) ?_
      refine sEnd [(19, .bool (!(inR (nth a0 v10) 0 (IntKind.i64.wrap (a1 - 1)))))] ?_
      refine QJoin.normal trivial ?_
      exact wkJ (by kernel_rfl)
    refine cCond (.tmp 19) (!(inR (nth a0 v10) 0 (IntKind.i64.wrap (a1 - 1)))) (fun q13 => ?_) (fun q13 => ?_)
    · replace h := h q13
      refine cSeqG ⟨(mkS 35 [(4, .bool false)]), [], []⟩ (True) ?_ (fun q14 => ?_)
      · skip
        refine rgS [] 5 ?_
        refine sEnd [(4, .bool false)] ?_
        refine QJoin.normal trivial ?_
        exact wkJ (by kernel_rfl)
      refine cRet ?_
      refine QJoin.ret ?_
      refine QBlock.ret ?_
      refine QSeq.ret ?_
      refine QRound.ret ?_
      refine QBlock.ret ?_
      refine QSeq.ret ?_
      refine rtS (.bool false) [.bool false] ?_
      exact (SnapR3.of1 (sr_bool (H := []) (a := false) (b := res) h))
    · skip
      refine cSkip ?_
      refine QJoin.normal (by simp only [q5, q13, Bool.true_or, Bool.false_or, Bool.true_and, Bool.false_and, Bool.not_true, Bool.not_false, Bool.and_true, Bool.and_false, Bool.or_true, Bool.or_false, cond_true, cond_false]) ?_
      exact wkJ (by kernel_rfl)
  replace h := h q11
  refine cSeqG ⟨(mkS 35 [(0, .lst (List.map eInt a0) false false), (1, .int .i64 a1), (5, .int .i64 v10), (6, .int .i64 (nth a0 v10)), (7, .int .i64 0), (8, .lst (List.map eInt a0) false false), (9, .int .i64 (a0.length : Int)), (10, .int .i64 v10)]), [], []⟩ (True) ?_ (fun q15 => ?_)
  · skip
    refine rgS [] 6 ?_
    refine sEnd [(7, .int .i64 0)] ?_
    refine QJoin.normal trivial ?_
    exact wkJ (by kernel_rfl)
  refine cBlock 2 ?_
  obtain ⟨q27, h⟩ := h
  refine cLoop (fun (v : Int) => (⟨(mkS 35 [(0, .lst (List.map eInt a0) false false), (1, .int .i64 a1), (5, .int .i64 v10), (6, .int .i64 (nth a0 v10)), (7, .int .i64 v), (8, .lst (List.map eInt a0) false false), (9, .int .i64 (a0.length : Int)), (10, .int .i64 v10)]), [], []⟩ : St)) (fun (v : Int) => I1 v10 v) (fun (v : Int) => m1 v10 v) 0 (wkL []) q27 (fun v7 hI => ?_)
  skip
  replace h := h v7 hI
  show WpS _ _ _ ⟨(mkS 35 [(0, .lst (List.map eInt a0) false false), (1, .int .i64 a1), (5, .int .i64 v10), (6, .int .i64 (nth a0 v10)), (7, .int .i64 v7), (8, .lst (List.map eInt a0) false false), (9, .int .i64 (a0.length : Int)), (10, .int .i64 v10)]), [], []⟩
  obtain ⟨q26, h⟩ := h
  refine cSeqG ⟨(mkS 35 [(0, .lst (List.map eInt a0) false false), (1, .int .i64 a1), (5, .int .i64 v10), (6, .int .i64 (nth a0 v10)), (7, .int .i64 v7), (8, .lst (List.map eInt a0) false false), (9, .int .i64 (a0.length : Int)), (10, .int .i64 v10)]), [], []⟩ ((decide (v7 < v10)) = true) ?_ (fun q16 => ?_)
  · replace h := q26
    refine cSeqG ⟨(mkS 35 [(0, .lst (List.map eInt a0) false false), (1, .int .i64 a1), (5, .int .i64 v10), (6, .int .i64 (nth a0 v10)), (7, .int .i64 v7), (8, .lst (List.map eInt a0) false false), (9, .int .i64 (a0.length : Int)), (10, .int .i64 v10), (22, .bool (decide (v7 < v10)))]), [], []⟩ (True) ?_ (fun q17 => ?_)
    · skip
      refine rgS [] 7 ?_
      refine sEnd [(22, .bool (decide (v7 < v10))), (21, .int .i64 v10), (20, .int .i64 v7)] ?_
      refine QJoin.normal trivial ?_
      exact wkJ (by kernel_rfl)
    refine cCond (.tmp 22) (decide (v7 < v10)) (fun q18 => ?_) (fun q18 => ?_)
    · skip
      refine cSkip ?_
      refine QJoin.normal (by simp only [q5, q11, q18, Bool.true_or, Bool.false_or, Bool.true_and, Bool.false_and, Bool.not_true, Bool.not_false, Bool.and_true, Bool.and_false, Bool.or_true, Bool.or_false, cond_true, cond_false]) ?_
      exact wkJ (by kernel_rfl)
    · replace h := h q18
      refine cExit 2 ?_
      refine QJoin.exit ?_
      refine QRound.exit ?_
      refine QBlock.here ?_
      refine QBlock.normal ?_
      refine QSeq.normal ?_
      refine rgS [] 11 ?_
      refine sEnd [(10, .int .i64 (IntKind.i64.wrap (v10 + 1))), (31, .int .i64 (IntKind.i64.wrap (v10 + 1)))] ?_
      exact QRound.again (IntKind.i64.wrap (v10 + 1)) h (wkL [])
  replace h := h q16
  obtain ⟨q25, h⟩ := h
  refine cSeqG ⟨(mkS 35 [(0, .lst (List.map eInt a0) false false), (1, .int .i64 a1), (5, .int .i64 v10), (6, .int .i64 (nth a0 v10)), (7, .int .i64 v7), (8, .lst (List.map eInt a0) false false), (9, .int .i64 (a0.length : Int)), (10, .int .i64 v10)]), [], []⟩ ((!((nth a0 v7) == (nth a0 v10))) = true) ?_ (fun q19 => ?_)
  · replace h := q25
    refine cBlock 3 ?_
    obtain ⟨q24, h⟩ := h
    refine cSeqG ⟨(mkS 35 [(0, .lst (List.map eInt a0) false false), (1, .int .i64 a1), (5, .int .i64 v10), (6, .int .i64 (nth a0 v10)), (7, .int .i64 v7), (8, .lst (List.map eInt a0) false false), (9, .int .i64 (a0.length : Int)), (10, .int .i64 v10), (30, .bool ((nth a0 v7) == (nth a0 v10)))]), [], []⟩ (True) ?_ (fun q20 => ?_)
    · replace h := q24
      refine rgS [] 9 ?_
      have q21 := h
      refine sIdx 3 (some 27) [(26, .int .i64 v7), (25, .lst (List.map eInt a0) false false)] eInt a0 1 q21 ?_
      refine sEnd [(30, .bool ((nth a0 v7) == (nth a0 v10))), (29, .int .i64 (nth a0 v10)), (28, .int .i64 (nth a0 v7))] ?_
      refine QJoin.normal trivial ?_
      exact wkJ (by kernel_rfl)
    refine cCond (.tmp 30) ((nth a0 v7) == (nth a0 v10)) (fun q22 => ?_) (fun q22 => ?_)
    · replace h := h q22
      refine cSeqG ⟨(mkS 35 [(4, .bool false)]), [], []⟩ (True) ?_ (fun q23 => ?_)
      · skip
        refine rgS [] 10 ?_
        refine sEnd [(4, .bool false)] ?_
        refine QJoin.normal trivial ?_
        exact wkJ (by kernel_rfl)
      refine cRet ?_
      refine QBlock.ret ?_
      refine QJoin.ret ?_
      refine QRound.ret ?_
      refine QBlock.ret ?_
      refine QBlock.ret ?_
      refine QSeq.ret ?_
      refine QRound.ret ?_
      refine QBlock.ret ?_
      refine QSeq.ret ?_
      refine rtS (.bool false) [.bool false] ?_
      exact (SnapR3.of1 (sr_bool (H := []) (a := false) (b := res) h))
    · skip
      refine cSkip ?_
      refine QBlock.normal ?_
      refine QJoin.normal (by simp only [q5, q11, q16, q22, Bool.true_or, Bool.false_or, Bool.true_and, Bool.false_and, Bool.not_true, Bool.not_false, Bool.and_true, Bool.and_false, Bool.or_true, Bool.or_false, cond_true, cond_false]) ?_
      exact wkJ (by kernel_rfl)
  replace h := h q19
  refine rgS [] 8 ?_
  refine sEnd [(7, .int .i64 (IntKind.i64.wrap (v7 + 1))), (24, .int .i64 (IntKind.i64.wrap (v7 + 1))), (23, .int .i64 v7)] ?_
  exact QRound.again (IntKind.i64.wrap (v7 + 1)) h (wkL [])

set_option maxHeartbeats 4000000 in
theorem spec_l1list_vc (a0 : (List Int)) (a1 : Int) (hp : preN a0 a1) : spec_l1list_C a0 a1 (listOk a0 a1) (upI a0.length (fun j => !inR (nth a0 j) 0 (a1 - 1) || hasInt (a0.take j.toNat) (nth a0 j))) (upM a0.length) (fun v => upI v (fun k => nth a0 k == nth a0 v)) (fun v => upM v) := by
  have hp : -9223372036854775808 < a1 ∧ a1 ≤ 9223372036854775807 := hp
  unfold spec_l1list_C spec_l1list_C1
  intro hn
  refine ⟨up_start (len0 _), fun v hI => ⟨fun hv => ?_, fun hv => ⟨up_in hI hv, ?_⟩⟩⟩
  · exact (nat_le 30).trans (listOk_end (up_end hI hv)).symm
  · have hi := up_in hI hv
    rw [w64 (by omega) (by omega)]
    refine ⟨fun h => (listOk_r hi.2 h).symm, fun hr => ⟨up_start hI.1, fun k hK => ⟨fun hk => ?_, fun hk => ?_⟩⟩⟩
    · refine up_step (lenI hn) hI hv ?_
      rw [has_take hI.1 (by simpa using hv) (up_end hK hk), Bool.or_false]
      exact not_eq hr
    · have hk' : k < v := by simpa using hk
      have := hK.1
      exact ⟨⟨⟨by omega, by omega⟩, fun he => (listOk_d hK.1 hk' (by omega) he).symm⟩, fun he => up_step (by omega) hK hk (not_eq he)⟩

theorem spec_l1list_V (a0 : (List Int)) (a1 : Int) (hp : preN a0 a1) : FnV Try.prog 126 [.lst (List.map eInt a0) false false, .int .i64 a1] (.bool (listOk a0 a1)) := spec_l1list_walk a0 a1 (listOk a0 a1) (upI a0.length (fun j => !inR (nth a0 j) 0 (a1 - 1) || hasInt (a0.take j.toNat) (nth a0 j))) (upM a0.length) (fun v => upI v (fun k => nth a0 k == nth a0 v)) (fun v => upM v) (spec_l1list_vc a0 a1 hp)

noncomputable def spec_l1lies_b : Code := bodyC Try.f127
def spec_l1lies_o9 : List Item := [⟨0, true, true, []⟩, ⟨1, true, true, []⟩, ⟨2, true, true, []⟩, ⟨3, true, true, []⟩, ⟨4, true, true, []⟩, ⟨5, true, true, []⟩, ⟨6, true, true, []⟩, ⟨7, true, true, []⟩]
def spec_l1lies_o9a : List (List Nat) := [[], [], [0, 1], [0, 1, 2], [0, 1, 2, 3], [], [5], [0, 1, 2, 3, 4, 5, 6]]
def spec_l1lies_C1 (I0 : Int → Prop) (m0 : Int → Nat) (I1 : Int → Int → Prop) (m1 : Int → Int → Nat) (a1 : (List Lie)) (res : Bool) (v10 : Int) : Prop :=
  I1 v10 0 ∧ ∀ (v7 : Int), I1 v10 v7 → (((decide (v7 < v10)) = false → I0 (IntKind.i64.wrap (v10 + 1)) ∧ m0 (IntKind.i64.wrap (v10 + 1)) < m0 v10) ∧ ((decide (v7 < v10)) = true → ((0 ≤ v7 ∧ v7.toNat < a1.length) ∧ ((((nth a1 v7).sw) == ((nth a1 v10).sw)) = true → false = res)) ∧ ((!(((nth a1 v7).sw) == ((nth a1 v10).sw))) = true → I1 v10 (IntKind.i64.wrap (v7 + 1)) ∧ m1 v10 (IntKind.i64.wrap (v7 + 1)) < m1 v10 v7)))
def spec_l1lies_C2 (I0 : Int → Prop) (m0 : Int → Nat) (I1 : Int → Int → Prop) (m1 : Int → Int → Nat) (a0 : Plan) (a1 : (List Lie)) (res : Bool) (v10 : Int) : Prop :=
  (a0.switches.length ≤ 4611686018427387904 → ((!(inR ((nth a1 v10).sw) 0 (IntKind.i64.wrap ((a0.switches.length : Int) - 1)))) || (!(inR ((nth a1 v10).lie) 1 2))) = true → false = res) ∧ ((a0.switches.length ≤ 4611686018427387904) ∧ ((!((!(inR ((nth a1 v10).sw) 0 (IntKind.i64.wrap ((a0.switches.length : Int) - 1)))) || (!(inR ((nth a1 v10).lie) 1 2)))) = true) → spec_l1lies_C1 I0 m0 I1 m1 a1 res v10)
def spec_l1lies_C (a0 : Plan) (a1 : (List Lie)) (res : Bool) (I0 : Int → Prop) (m0 : Int → Nat) (I1 : Int → Int → Prop) (m1 : Int → Int → Nat) : Prop :=
  a1.length ≤ 4611686018427387904 → I0 0 ∧ ∀ (v10 : Int), I0 v10 → (((decide (v10 < (a1.length : Int))) = false → (decide ((a1.length : Int) ≤ 30)) = res) ∧ ((decide (v10 < (a1.length : Int))) = true → (0 ≤ v10 ∧ v10.toNat < a1.length) ∧ (spec_l1lies_C2 I0 m0 I1 m1 a0 a1 res v10)))
set_option maxHeartbeats 4000000 in
theorem spec_l1lies_walk (a0 : Plan) (a1 : (List Lie)) (res : Bool) (I0 : Int → Prop) (m0 : Int → Nat) (I1 : Int → Int → Prop) (m1 : Int → Int → Nat) (h : spec_l1lies_C a0 a1 res I0 m0 I1 m1) : FnV Try.prog 127 [.agg (ePlan false a0), .lst (List.map eLie a1) false false] (.bool res) := by
  unfold spec_l1lies_C at h
  refine FnS.of_body (fn := Try.f127) (c := spec_l1lies_b) Try.func127 (by kernel_rfl) (by kernel_rfl) ?_
  refine WpS.codeIs (c' := (nv spec_l1lies_b 1)) (by kernel_rfl) ?_
  refine WpS.start (st' := ⟨(mkS 46 [(0, .agg (ePlan false a0)), (1, .lst (List.map eLie a1) false false)]), [], []⟩) (by kernel_rfl) ?_
  refine cSeqG ⟨(mkS 46 [(1, .lst (List.map eLie a1) false false), (2, .lptr 2 0)]), [(2, (ePlan false a0))], []⟩ (True) ?_ (fun q1 => ?_)
  · skip
    refine rgS [] 0 ?_
    refine sEnd' [(4, .bool false), (2, .lptr 2 0)] [(2, (ePlan false a0))] [] ?_
    refine QJoin.normal trivial ?_
    exact wkJ (by kernel_rfl)
  refine cSeq ?_
  refine cSeqG ⟨(mkS 46 [(1, .lst (List.map eLie a1) false false), (2, .lptr 2 0), (8, .lst (List.map eLie a1) false false), (9, .int .i64 (a1.length : Int)), (10, .int .i64 0)]), [(2, (ePlan false a0))], []⟩ (a1.length ≤ 4611686018427387904) ?_ (fun q2 => ?_)
  · skip
    refine rgS [] 1 ?_
    refine sLen 2 (some 9) [(8, .lst (List.map eLie a1) false false)] eLie a1 (fun q3 => ?_)
    refine sEnd [(10, .int .i64 0)] ?_
    refine QJoin.normal q3 ?_
    exact wkJ (by kernel_rfl)
  replace h := h q2
  refine cBlock 0 ?_
  obtain ⟨q33, h⟩ := h
  refine cLoop (fun (v : Int) => (⟨(mkS 46 [(1, .lst (List.map eLie a1) false false), (2, .lptr 2 0), (8, .lst (List.map eLie a1) false false), (9, .int .i64 (a1.length : Int)), (10, .int .i64 v)]), [(2, (ePlan false a0))], []⟩ : St)) (fun (v : Int) => I0 v) (fun (v : Int) => m0 v) 0 (wkL []) q33 (fun v10 hI => ?_)
  skip
  replace h := h v10 hI
  show WpS _ _ _ ⟨(mkS 46 [(1, .lst (List.map eLie a1) false false), (2, .lptr 2 0), (8, .lst (List.map eLie a1) false false), (9, .int .i64 (a1.length : Int)), (10, .int .i64 v10)]), [(2, (ePlan false a0))], []⟩
  refine cSeqG ⟨(mkS 46 [(1, .lst (List.map eLie a1) false false), (2, .lptr 2 0), (8, .lst (List.map eLie a1) false false), (9, .int .i64 (a1.length : Int)), (10, .int .i64 v10), (11, .bool (decide (v10 < (a1.length : Int))))]), [(2, (ePlan false a0))], []⟩ (True) ?_ (fun q4 => ?_)
  · skip
    refine rgS [] 2 ?_
    refine sEnd [(11, .bool (decide (v10 < (a1.length : Int))))] ?_
    refine QJoin.normal trivial ?_
    exact wkJ (by kernel_rfl)
  obtain ⟨q32, h⟩ := h
  refine cSeqG ⟨(mkS 46 [(1, .lst (List.map eLie a1) false false), (2, .lptr 2 0), (8, .lst (List.map eLie a1) false false), (9, .int .i64 (a1.length : Int)), (10, .int .i64 v10)]), [(2, (ePlan false a0))], []⟩ ((decide (v10 < (a1.length : Int))) = true) ?_ (fun q5 => ?_)
  · replace h := q32
    refine cCond (.tmp 11) (decide (v10 < (a1.length : Int))) (fun q6 => ?_) (fun q6 => ?_)
    · skip
      refine cSkip ?_
      refine QJoin.normal (by simp only [q6, Bool.true_or, Bool.false_or, Bool.true_and, Bool.false_and, Bool.not_true, Bool.not_false, Bool.and_true, Bool.and_false, Bool.or_true, Bool.or_false, cond_true, cond_false]) ?_
      exact wkJ (by kernel_rfl)
    · replace h := h q6
      refine cExit 0 ?_
      refine QJoin.exit ?_
      refine QRound.exit ?_
      refine QBlock.here ?_
      refine QSeq.normal ?_
      refine cSeqG ⟨(mkS 46 [(4, .bool (decide ((a1.length : Int) ≤ 30)))]), [(2, (ePlan false a0))], []⟩ (True) ?_ (fun q7 => ?_)
      · skip
        refine rgS [] 12 ?_
        refine sLen 2 (some 44) [(43, .lst (List.map eLie a1) false false)] eLie a1 (fun q8 => ?_)
        refine sEnd [(4, .bool (decide ((a1.length : Int) ≤ 30))), (45, .bool (decide ((a1.length : Int) ≤ 30)))] ?_
        refine QJoin.normal trivial ?_
        exact wkJ (by kernel_rfl)
      refine cRet ?_
      refine rtS (.bool (decide ((a1.length : Int) ≤ 30))) [.bool (decide ((a1.length : Int) ≤ 30))] ?_
      exact (SnapR3.of1 (sr_bool (H := []) (a := (decide ((a1.length : Int) ≤ 30))) (b := res) h))
  replace h := h q5
  refine cSeq ?_
  refine cBlock 1 ?_
  obtain ⟨q31, h⟩ := h
  refine cSeqG ⟨(mkS 46 [(1, .lst (List.map eLie a1) false false), (2, .lptr 2 0), (5, .int .i64 v10), (6, .lptr 6 0), (8, .lst (List.map eLie a1) false false), (9, .int .i64 (a1.length : Int)), (10, .int .i64 v10)]), [(6, (eLie (nth a1 v10))), (2, (ePlan false a0))], []⟩ (True) ?_ (fun q9 => ?_)
  · replace h := q31
    refine rgS [] 3 ?_
    have q10 := h
    refine sIdx 2 (some 13) [(12, .int .i64 v10)] eLie a1 2 q10 ?_
    refine sEnd' [(5, .int .i64 v10), (6, .lptr 6 0), (14, .agg (eLie (nth a1 v10)))] [(6, (eLie (nth a1 v10))), (2, (ePlan false a0))] [] ?_
    refine QJoin.normal trivial ?_
    exact wkJ (by kernel_rfl)
  unfold spec_l1lies_C2 at h
  obtain ⟨q30, h⟩ := h
  refine cSeqG ⟨(mkS 46 [(1, .lst (List.map eLie a1) false false), (2, .lptr 2 0), (5, .int .i64 v10), (6, .lptr 6 0), (8, .lst (List.map eLie a1) false false), (9, .int .i64 (a1.length : Int)), (10, .int .i64 v10)]), [(6, (eLie (nth a1 v10))), (2, (ePlan false a0))], []⟩ ((a0.switches.length ≤ 4611686018427387904) ∧ ((!((!(inR ((nth a1 v10).sw) 0 (IntKind.i64.wrap ((a0.switches.length : Int) - 1)))) || (!(inR ((nth a1 v10).lie) 1 2)))) = true)) ?_ (fun q11 => ?_)
  · replace h := q30
    refine cSeqG ⟨(mkS 46 [(1, .lst (List.map eLie a1) false false), (2, .lptr 2 0), (5, .int .i64 v10), (6, .lptr 6 0), (8, .lst (List.map eLie a1) false false), (9, .int .i64 (a1.length : Int)), (10, .int .i64 v10), (28, .bool ((!(inR ((nth a1 v10).sw) 0 (IntKind.i64.wrap ((a0.switches.length : Int) - 1)))) || (!(inR ((nth a1 v10).lie) 1 2))))]), [(6, (eLie (nth a1 v10))), (2, (ePlan false a0))], []⟩ (a0.switches.length ≤ 4611686018427387904) ?_ (fun q12 => ?_)
    · skip
      refine rgS [] 4 ?_
      refine sLen 5 (some 19) [(18, .lst (List.map eInt a0.switches) false false), (17, .lptr 2 1), (16, .int .i64 ((nth a1 v10).sw)), (15, .lptr 6 0)] eInt a0.switches (fun q13 => ?_)
      refine sCallV 2 (some 21) [(20, .int .i64 (IntKind.i64.wrap ((a0.switches.length : Int) - 1)))] [.int .i64 ((nth a1 v10).sw), .int .i64 0, .int .i64 (IntKind.i64.wrap ((a0.switches.length : Int) - 1))] (spec_l1in_V ((nth a1 v10).sw) 0 (IntKind.i64.wrap ((a0.switches.length : Int) - 1))) (PW.cons (Snap2.of1 (.int _ _)) (PW.cons (Snap2.of1 (.int _ _)) (PW.cons (Snap2.of1 (.int _ _)) PW.nil))) ?_
      refine sCase 2 [(23, .bool (!(inR ((nth a1 v10).sw) 0 (IntKind.i64.wrap ((a0.switches.length : Int) - 1))))), (22, .bool (!(inR ((nth a1 v10).sw) 0 (IntKind.i64.wrap ((a0.switches.length : Int) - 1)))))] 23 (!(inR ((nth a1 v10).sw) 0 (IntKind.i64.wrap ((a0.switches.length : Int) - 1)))) (fun q14 => ?_) (fun q14 => ?_)
      · skip
        refine sEnd [(28, .bool true), (27, .tup []), (26, .tup []), (25, .tup []), (24, .tup [])] ?_
        refine QJoin.normal q13 ?_
        exact wkJ (by simp only [q5, q14, Bool.true_or, Bool.false_or, Bool.true_and, Bool.false_and, Bool.not_true, Bool.not_false, Bool.and_true, Bool.and_false, Bool.or_true, Bool.or_false, cond_true, cond_false] <;> kernel_rfl)
      · skip
        refine sCallV 3 (some 26) [(25, .int .i64 ((nth a1 v10).lie)), (24, .lptr 6 1)] [.int .i64 ((nth a1 v10).lie), .int .i64 1, .int .i64 2] (spec_l1in_V ((nth a1 v10).lie) 1 2) (PW.cons (Snap2.of1 (.int _ _)) (PW.cons (Snap2.of1 (.int _ _)) (PW.cons (Snap2.of1 (.int _ _)) PW.nil))) ?_
        refine sEnd [(28, .bool (!(inR ((nth a1 v10).lie) 1 2))), (27, .bool (!(inR ((nth a1 v10).lie) 1 2)))] ?_
        refine QJoin.normal q13 ?_
        exact wkJ (by simp only [q5, q14, Bool.true_or, Bool.false_or, Bool.true_and, Bool.false_and, Bool.not_true, Bool.not_false, Bool.and_true, Bool.and_false, Bool.or_true, Bool.or_false, cond_true, cond_false] <;> kernel_rfl)
    replace h := h q12
    refine cCond (.tmp 28) ((!(inR ((nth a1 v10).sw) 0 (IntKind.i64.wrap ((a0.switches.length : Int) - 1)))) || (!(inR ((nth a1 v10).lie) 1 2))) (fun q15 => ?_) (fun q15 => ?_)
    · replace h := h q15
      refine cSeqG ⟨(mkS 46 [(4, .bool false)]), [(6, (eLie (nth a1 v10))), (2, (ePlan false a0))], []⟩ (True) ?_ (fun q16 => ?_)
      · skip
        refine rgS [] 5 ?_
        refine sEnd [(4, .bool false)] ?_
        refine QJoin.normal trivial ?_
        exact wkJ (by kernel_rfl)
      refine cRet ?_
      refine QJoin.ret ?_
      refine QBlock.ret ?_
      refine QSeq.ret ?_
      refine QRound.ret ?_
      refine QBlock.ret ?_
      refine QSeq.ret ?_
      refine rtS (.bool false) [.bool false] ?_
      exact (SnapR3.of1 (sr_bool (H := []) (a := false) (b := res) h))
    · skip
      refine cSkip ?_
      refine QJoin.normal ⟨q12, (by simp only [q5, q15, Bool.true_or, Bool.false_or, Bool.true_and, Bool.false_and, Bool.not_true, Bool.not_false, Bool.and_true, Bool.and_false, Bool.or_true, Bool.or_false, cond_true, cond_false])⟩ ?_
      exact wkJ (by kernel_rfl)
  replace h := h q11
  refine cSeqG ⟨(mkS 46 [(1, .lst (List.map eLie a1) false false), (2, .lptr 2 0), (5, .int .i64 v10), (6, .lptr 6 0), (7, .int .i64 0), (8, .lst (List.map eLie a1) false false), (9, .int .i64 (a1.length : Int)), (10, .int .i64 v10)]), [(6, (eLie (nth a1 v10))), (2, (ePlan false a0))], []⟩ (True) ?_ (fun q17 => ?_)
  · skip
    refine rgS [] 6 ?_
    refine sEnd [(7, .int .i64 0)] ?_
    refine QJoin.normal trivial ?_
    exact wkJ (by kernel_rfl)
  unfold spec_l1lies_C1 at h
  refine cBlock 2 ?_
  obtain ⟨q29, h⟩ := h
  refine cLoop (fun (v : Int) => (⟨(mkS 46 [(1, .lst (List.map eLie a1) false false), (2, .lptr 2 0), (5, .int .i64 v10), (6, .lptr 6 0), (7, .int .i64 v), (8, .lst (List.map eLie a1) false false), (9, .int .i64 (a1.length : Int)), (10, .int .i64 v10)]), [(6, (eLie (nth a1 v10))), (2, (ePlan false a0))], []⟩ : St)) (fun (v : Int) => I1 v10 v) (fun (v : Int) => m1 v10 v) 0 (wkL []) q29 (fun v7 hI => ?_)
  skip
  replace h := h v7 hI
  show WpS _ _ _ ⟨(mkS 46 [(1, .lst (List.map eLie a1) false false), (2, .lptr 2 0), (5, .int .i64 v10), (6, .lptr 6 0), (7, .int .i64 v7), (8, .lst (List.map eLie a1) false false), (9, .int .i64 (a1.length : Int)), (10, .int .i64 v10)]), [(6, (eLie (nth a1 v10))), (2, (ePlan false a0))], []⟩
  obtain ⟨q28, h⟩ := h
  refine cSeqG ⟨(mkS 46 [(1, .lst (List.map eLie a1) false false), (2, .lptr 2 0), (5, .int .i64 v10), (6, .lptr 6 0), (7, .int .i64 v7), (8, .lst (List.map eLie a1) false false), (9, .int .i64 (a1.length : Int)), (10, .int .i64 v10)]), [(6, (eLie (nth a1 v10))), (2, (ePlan false a0))], []⟩ ((decide (v7 < v10)) = true) ?_ (fun q18 => ?_)
  · replace h := q28
    refine cSeqG ⟨(mkS 46 [(1, .lst (List.map eLie a1) false false), (2, .lptr 2 0), (5, .int .i64 v10), (6, .lptr 6 0), (7, .int .i64 v7), (8, .lst (List.map eLie a1) false false), (9, .int .i64 (a1.length : Int)), (10, .int .i64 v10), (31, .bool (decide (v7 < v10)))]), [(6, (eLie (nth a1 v10))), (2, (ePlan false a0))], []⟩ (True) ?_ (fun q19 => ?_)
    · skip
      refine rgS [] 7 ?_
      refine sEnd [(31, .bool (decide (v7 < v10))), (30, .int .i64 v10), (29, .int .i64 v7)] ?_
      refine QJoin.normal trivial ?_
      exact wkJ (by kernel_rfl)
    refine cCond (.tmp 31) (decide (v7 < v10)) (fun q20 => ?_) (fun q20 => ?_)
    · skip
      refine cSkip ?_
      refine QJoin.normal (by simp only [q5, q11.2, q20, Bool.true_or, Bool.false_or, Bool.true_and, Bool.false_and, Bool.not_true, Bool.not_false, Bool.and_true, Bool.and_false, Bool.or_true, Bool.or_false, cond_true, cond_false]) ?_
      exact wkJ (by kernel_rfl)
    · replace h := h q20
      refine cExit 2 ?_
      refine QJoin.exit ?_
      refine QRound.exit ?_
      refine QBlock.here ?_
      refine QBlock.normal ?_
      refine QSeq.normal ?_
      refine rgS [] 11 ?_
      refine sEnd [(10, .int .i64 (IntKind.i64.wrap (v10 + 1))), (42, .int .i64 (IntKind.i64.wrap (v10 + 1)))] ?_
      exact QRound.again (IntKind.i64.wrap (v10 + 1)) h (wkL [6])
  replace h := h q18
  obtain ⟨q27, h⟩ := h
  refine cSeqG ⟨(mkS 46 [(1, .lst (List.map eLie a1) false false), (2, .lptr 2 0), (5, .int .i64 v10), (6, .lptr 6 0), (7, .int .i64 v7), (8, .lst (List.map eLie a1) false false), (9, .int .i64 (a1.length : Int)), (10, .int .i64 v10)]), [(6, (eLie (nth a1 v10))), (2, (ePlan false a0))], []⟩ ((!(((nth a1 v7).sw) == ((nth a1 v10).sw))) = true) ?_ (fun q21 => ?_)
  · replace h := q27
    refine cBlock 3 ?_
    obtain ⟨q26, h⟩ := h
    refine cSeqG ⟨(mkS 46 [(1, .lst (List.map eLie a1) false false), (2, .lptr 2 0), (5, .int .i64 v10), (6, .lptr 6 0), (7, .int .i64 v7), (8, .lst (List.map eLie a1) false false), (9, .int .i64 (a1.length : Int)), (10, .int .i64 v10), (41, .bool (((nth a1 v7).sw) == ((nth a1 v10).sw)))]), [(6, (eLie (nth a1 v10))), (2, (ePlan false a0))], []⟩ (True) ?_ (fun q22 => ?_)
    · replace h := q26
      refine rgD [] 9 spec_l1lies_o9 spec_l1lies_o9a ?_
      have q23 := h
      refine tIdx 3 (some 36) [(35, .int .i64 v7), (34, .lst (List.map eLie a1) false false)] eLie a1 2 q23 ?_
      refine tEnd [(41, .bool (((nth a1 v7).sw) == ((nth a1 v10).sw))), (40, .int .i64 ((nth a1 v10).sw)), (39, .lptr 6 0), (38, .int .i64 ((nth a1 v7).sw)), (37, .rp (eLie (nth a1 v7)) 0)] ?_
      refine QJoin.normal trivial ?_
      exact wkJ (by kernel_rfl)
    refine cCond (.tmp 41) (((nth a1 v7).sw) == ((nth a1 v10).sw)) (fun q24 => ?_) (fun q24 => ?_)
    · replace h := h q24
      refine cSeqG ⟨(mkS 46 [(4, .bool false)]), [(6, (eLie (nth a1 v10))), (2, (ePlan false a0))], []⟩ (True) ?_ (fun q25 => ?_)
      · skip
        refine rgS [] 10 ?_
        refine sEnd [(4, .bool false)] ?_
        refine QJoin.normal trivial ?_
        exact wkJ (by kernel_rfl)
      refine cRet ?_
      refine QBlock.ret ?_
      refine QJoin.ret ?_
      refine QRound.ret ?_
      refine QBlock.ret ?_
      refine QBlock.ret ?_
      refine QSeq.ret ?_
      refine QRound.ret ?_
      refine QBlock.ret ?_
      refine QSeq.ret ?_
      refine rtS (.bool false) [.bool false] ?_
      exact (SnapR3.of1 (sr_bool (H := []) (a := false) (b := res) h))
    · skip
      refine cSkip ?_
      refine QBlock.normal ?_
      refine QJoin.normal (by simp only [q5, q11.2, q18, q24, Bool.true_or, Bool.false_or, Bool.true_and, Bool.false_and, Bool.not_true, Bool.not_false, Bool.and_true, Bool.and_false, Bool.or_true, Bool.or_false, cond_true, cond_false]) ?_
      exact wkJ (by kernel_rfl)
  replace h := h q21
  refine rgS [] 8 ?_
  refine sEnd [(7, .int .i64 (IntKind.i64.wrap (v7 + 1))), (33, .int .i64 (IntKind.i64.wrap (v7 + 1))), (32, .int .i64 v7)] ?_
  exact QRound.again (IntKind.i64.wrap (v7 + 1)) h (wkL [])

set_option maxHeartbeats 4000000 in
theorem spec_l1lies_vc (a0 : Plan) (a1 : (List Lie)) : spec_l1lies_C a0 a1 (liesIn a0 a1) (upI a1.length (fun j => lieBad a0 (nth a1 j) || lieDup a1 j)) (upM a1.length) (fun v => upI v (fun k => (nth a1 k).sw == (nth a1 v).sw)) (fun v => upM v) := by
  unfold spec_l1lies_C spec_l1lies_C2 spec_l1lies_C1
  intro hn
  refine ⟨up_start (len0 _), fun v hI => ⟨fun hv => ?_, fun hv => ⟨up_in hI hv, ?_⟩⟩⟩
  · exact (nat_le 30).trans (liesIn_end (up_end hI hv)).symm
  · have hi := up_in hI hv
    refine ⟨fun hs h => ?_, fun ⟨hs, hr⟩ => ⟨up_start hI.1, fun k hK => ⟨fun hk => ?_, fun hk => ?_⟩⟩⟩
    · rw [w64 (by omega) (by omega)] at h
      exact (liesIn_r hi.2 h).symm
    · rw [w64 (by omega) (by omega)] at hr
      refine up_step (lenI hn) hI hv ?_
      rw [lieDup_no hI.1 (by simpa using hv) (up_end hK hk), Bool.or_false]
      exact not_eq hr
    · have hk' : k < v := by simpa using hk
      have := hK.1
      exact ⟨⟨⟨by omega, by omega⟩, fun he => (liesIn_d hK.1 hk' (by omega) he).symm⟩, fun he => up_step (by omega) hK hk (not_eq he)⟩

theorem spec_l1lies_V (a0 : Plan) (a1 : (List Lie)) : FnV Try.prog 127 [.agg (ePlan false a0), .lst (List.map eLie a1) false false] (.bool (liesIn a0 a1)) := spec_l1lies_walk a0 a1 (liesIn a0 a1) (upI a1.length (fun j => lieBad a0 (nth a1 j) || lieDup a1 j)) (upM a1.length) (fun v => upI v (fun k => (nth a1 k).sw == (nth a1 v).sw)) (fun v => upM v) (spec_l1lies_vc a0 a1)

noncomputable def spec_l1way_b : Code := bodyC Try.f68
def spec_l1way_o12 : List Item := [⟨0, true, true, []⟩, ⟨1, true, true, []⟩, ⟨2, true, true, []⟩, ⟨3, true, true, []⟩, ⟨4, true, true, []⟩, ⟨5, true, true, []⟩, ⟨6, true, true, []⟩, ⟨7, true, true, []⟩, ⟨8, true, true, []⟩, ⟨9, true, true, []⟩, ⟨10, true, true, []⟩]
def spec_l1way_o12a : List (List Nat) := [[], [0], [], [2], [0, 1, 2, 3], [0, 1, 2, 3, 4], [0, 1, 2, 3, 4, 5], [], [7], [0, 1, 2, 3, 4, 5, 6, 7, 8], [0, 1, 2, 3, 4, 5, 6, 7, 8, 9]]
def spec_l1way_C1 (I0 : Int → Prop) (m0 : Int → Nat) (I1 : Int → Int → Prop) (m1 : Int → Int → Nat) (a0 : Plan) (a1 : Way) (res : Bool) (v61 : Int) (v54 : Int) : Prop :=
  ((decide (v61 < (a1.flanks.length : Int))) = false → (0 ≤ ((nth a1.lies v54).sw) ∧ ((nth a1.lies v54).sw).toNat < a0.switches.length) ∧ (((!(meets [(nth a0.switches ((nth a1.lies v54).sw))] a1.sections)) = true → false = res) ∧ ((!(meets [(nth a0.switches ((nth a1.lies v54).sw))] a1.sections)) = false → I0 (IntKind.i64.wrap (v54 + 1)) ∧ m0 (IntKind.i64.wrap (v54 + 1)) < m0 v54))) ∧ ((decide (v61 < (a1.flanks.length : Int))) = true → ((0 ≤ v61 ∧ v61.toNat < a1.flanks.length) ∧ ((((nth a1.lies v54).sw) == ((nth a1.flanks v61).sw)) = true → false = res)) ∧ ((!(((nth a1.lies v54).sw) == ((nth a1.flanks v61).sw))) = true → I1 v54 (IntKind.i64.wrap (v61 + 1)) ∧ m1 v54 (IntKind.i64.wrap (v61 + 1)) < m1 v54 v61))
def spec_l1way_C2 (I0 : Int → Prop) (m0 : Int → Nat) (I1 : Int → Int → Prop) (m1 : Int → Int → Nat) (a0 : Plan) (a1 : Way) (res : Bool) : Prop :=
  ((a1.sections.length ≤ 4611686018427387904 → ((a1.sections.length : Int) == 0) = false → (preN a1.sections a0.sections) ∧ ((!(listOk a1.sections a0.sections)) = false → (preN a1.over a0.sections) ∧ ((!(listOk a1.over a0.sections)) = false → preN a1.near a0.sections))) ∧ (a1.sections.length ≤ 4611686018427387904 → (((a1.sections.length : Int) == 0) || ((!(listOk a1.sections a0.sections)) || ((!(listOk a1.over a0.sections)) || ((!(listOk a1.near a0.sections)) || ((!(liesIn a0 a1.lies)) || (!(liesIn a0 a1.flanks))))))) = true → false = res)) ∧ ((a1.sections.length ≤ 4611686018427387904) ∧ ((!(((a1.sections.length : Int) == 0) || ((!(listOk a1.sections a0.sections)) || ((!(listOk a1.over a0.sections)) || ((!(listOk a1.near a0.sections)) || ((!(liesIn a0 a1.lies)) || (!(liesIn a0 a1.flanks)))))))) = true) → a1.lies.length ≤ 4611686018427387904 → I0 0 ∧ ∀ (v54 : Int), I0 v54 → (((decide (v54 < (a1.lies.length : Int))) = false → (!(meets a1.over a1.sections)) = res) ∧ ((decide (v54 < (a1.lies.length : Int))) = true → (0 ≤ v54 ∧ v54.toNat < a1.lies.length) ∧ (a1.flanks.length ≤ 4611686018427387904 → I1 v54 0 ∧ ∀ (v61 : Int), I1 v54 v61 → (spec_l1way_C1 I0 m0 I1 m1 a0 a1 res v61 v54)))))
def spec_l1way_C (a0 : Plan) (a1 : Way) (res : Bool) (I0 : Int → Prop) (m0 : Int → Nat) (I1 : Int → Int → Prop) (m1 : Int → Int → Nat) : Prop :=
  spec_l1way_C2 I0 m0 I1 m1 a0 a1 res
set_option maxHeartbeats 4000000 in
theorem spec_l1way_walk (a0 : Plan) (a1 : Way) (res : Bool) (I0 : Int → Prop) (m0 : Int → Nat) (I1 : Int → Int → Prop) (m1 : Int → Int → Nat) (h : spec_l1way_C a0 a1 res I0 m0 I1 m1) : FnV Try.prog 68 [.agg (ePlan false a0), .agg (eWay false a1)] (.bool res) := by
  unfold spec_l1way_C at h
  refine FnS.of_body (fn := Try.f68) (c := spec_l1way_b) Try.func68 (by kernel_rfl) (by kernel_rfl) ?_
  refine WpS.codeIs (c' := (nv spec_l1way_b 1)) (by kernel_rfl) ?_
  refine WpS.start (st' := ⟨(mkS 89 [(0, .agg (ePlan false a0)), (1, .agg (eWay false a1))]), [], []⟩) (by kernel_rfl) ?_
  refine cSeqG ⟨(mkS 89 [(2, .lptr 2 0), (3, .lptr 3 0)]), [(3, (eWay false a1)), (2, (ePlan false a0))], []⟩ (True) ?_ (fun q1 => ?_)
  · skip
    refine rgS [] 0 ?_
    refine sEnd' [(4, .bool false), (3, .lptr 3 0), (2, .lptr 2 0)] [(3, (eWay false a1)), (2, (ePlan false a0))] [] ?_
    refine QJoin.normal trivial ?_
    exact wkJ (by kernel_rfl)
  unfold spec_l1way_C2 at h
  obtain ⟨q47, h⟩ := h
  refine cSeqG ⟨(mkS 89 [(2, .lptr 2 0), (3, .lptr 3 0)]), [(3, (eWay false a1)), (2, (ePlan false a0))], []⟩ ((a1.sections.length ≤ 4611686018427387904) ∧ ((!(((a1.sections.length : Int) == 0) || ((!(listOk a1.sections a0.sections)) || ((!(listOk a1.over a0.sections)) || ((!(listOk a1.near a0.sections)) || ((!(liesIn a0 a1.lies)) || (!(liesIn a0 a1.flanks)))))))) = true)) ?_ (fun q2 => ?_)
  · replace h := q47
    obtain ⟨q15, h⟩ := h
    refine cSeqG ⟨(mkS 89 [(2, .lptr 2 0), (3, .lptr 3 0), (50, .bool (((a1.sections.length : Int) == 0) || ((!(listOk a1.sections a0.sections)) || ((!(listOk a1.over a0.sections)) || ((!(listOk a1.near a0.sections)) || ((!(liesIn a0 a1.lies)) || (!(liesIn a0 a1.flanks))))))))]), [(3, (eWay false a1)), (2, (ePlan false a0))], []⟩ (a1.sections.length ≤ 4611686018427387904) ?_ (fun q3 => ?_)
    · replace h := q15
      refine rgS [] 1 ?_
      refine sLen 3 (some 11) [(10, .lst (List.map eInt a1.sections) false false), (9, .lptr 3 0)] eInt a1.sections (fun q4 => ?_)
      replace h := h q4
      refine sCase 2 [(13, .bool ((a1.sections.length : Int) == 0)), (12, .bool ((a1.sections.length : Int) == 0))] 13 ((a1.sections.length : Int) == 0) (fun q5 => ?_) (fun q5 => ?_)
      · skip
        refine sEnd [(50, .bool true), (49, .tup []), (48, .tup []), (47, .tup []), (46, .tup []), (45, .tup []), (44, .bool true), (43, .bool true), (42, .tup []), (41, .tup []), (40, .tup []), (39, .tup []), (38, .tup []), (37, .bool true), (36, .bool true), (35, .tup []), (34, .tup []), (33, .tup []), (32, .tup []), (31, .tup []), (30, .tup []), (29, .bool true), (28, .bool true), (27, .tup []), (26, .tup []), (25, .tup []), (24, .tup []), (23, .tup []), (22, .tup []), (21, .bool true), (20, .bool true), (19, .tup []), (18, .tup []), (17, .tup []), (16, .tup []), (15, .tup []), (14, .tup [])] ?_
        refine QJoin.normal q4 ?_
        exact wkJ (by simp only [q5, Bool.true_or, Bool.false_or, Bool.true_and, Bool.false_and, Bool.not_true, Bool.not_false, Bool.and_true, Bool.and_false, Bool.or_true, Bool.or_false, cond_true, cond_false] <;> kernel_rfl)
      · replace h := h q5
        obtain ⟨q6, h⟩ := h
        refine sCallV 5 (some 18) [(17, .int .i64 a0.sections), (16, .lptr 2 0), (15, .lst (List.map eInt a1.sections) false false), (14, .lptr 3 0)] [.lst (List.map eInt a1.sections) false false, .int .i64 a0.sections] (spec_l1list_V a1.sections a0.sections q6) (PW.cons (Snap2.of1 sa_lst) (PW.cons (Snap2.of1 (.int _ _)) PW.nil)) ?_
        refine sCase 3 [(21, .bool (!(listOk a1.sections a0.sections))), (20, .bool (!(listOk a1.sections a0.sections))), (19, .bool (!(listOk a1.sections a0.sections)))] 21 (!(listOk a1.sections a0.sections)) (fun q7 => ?_) (fun q7 => ?_)
        · skip
          refine sEnd [(50, .bool true), (49, .tup []), (48, .tup []), (47, .tup []), (46, .tup []), (45, .tup []), (44, .bool true), (43, .bool true), (42, .tup []), (41, .tup []), (40, .tup []), (39, .tup []), (38, .tup []), (37, .bool true), (36, .bool true), (35, .tup []), (34, .tup []), (33, .tup []), (32, .tup []), (31, .tup []), (30, .tup []), (29, .bool true), (28, .bool true), (27, .tup []), (26, .tup []), (25, .tup []), (24, .tup []), (23, .tup []), (22, .tup [])] ?_
          refine QJoin.normal q4 ?_
          exact wkJ (by simp only [q5, q7, Bool.true_or, Bool.false_or, Bool.true_and, Bool.false_and, Bool.not_true, Bool.not_false, Bool.and_true, Bool.and_false, Bool.or_true, Bool.or_false, cond_true, cond_false] <;> kernel_rfl)
        · replace h := h q7
          obtain ⟨q8, h⟩ := h
          refine sCallV 5 (some 26) [(25, .int .i64 a0.sections), (24, .lptr 2 0), (23, .lst (List.map eInt a1.over) false false), (22, .lptr 3 3)] [.lst (List.map eInt a1.over) false false, .int .i64 a0.sections] (spec_l1list_V a1.over a0.sections q8) (PW.cons (Snap2.of1 sa_lst) (PW.cons (Snap2.of1 (.int _ _)) PW.nil)) ?_
          refine sCase 3 [(29, .bool (!(listOk a1.over a0.sections))), (28, .bool (!(listOk a1.over a0.sections))), (27, .bool (!(listOk a1.over a0.sections)))] 29 (!(listOk a1.over a0.sections)) (fun q9 => ?_) (fun q9 => ?_)
          · skip
            refine sEnd [(50, .bool true), (49, .tup []), (48, .tup []), (47, .tup []), (46, .tup []), (45, .tup []), (44, .bool true), (43, .bool true), (42, .tup []), (41, .tup []), (40, .tup []), (39, .tup []), (38, .tup []), (37, .bool true), (36, .bool true), (35, .tup []), (34, .tup []), (33, .tup []), (32, .tup []), (31, .tup []), (30, .tup [])] ?_
            refine QJoin.normal q4 ?_
            exact wkJ (by simp only [q5, q7, q9, Bool.true_or, Bool.false_or, Bool.true_and, Bool.false_and, Bool.not_true, Bool.not_false, Bool.and_true, Bool.and_false, Bool.or_true, Bool.or_false, cond_true, cond_false] <;> kernel_rfl)
          · replace h := h q9
            have q10 := h
            refine sCallV 5 (some 34) [(33, .int .i64 a0.sections), (32, .lptr 2 0), (31, .lst (List.map eInt a1.near) false false), (30, .lptr 3 4)] [.lst (List.map eInt a1.near) false false, .int .i64 a0.sections] (spec_l1list_V a1.near a0.sections q10) (PW.cons (Snap2.of1 sa_lst) (PW.cons (Snap2.of1 (.int _ _)) PW.nil)) ?_
            refine sCase 3 [(37, .bool (!(listOk a1.near a0.sections))), (36, .bool (!(listOk a1.near a0.sections))), (35, .bool (!(listOk a1.near a0.sections)))] 37 (!(listOk a1.near a0.sections)) (fun q11 => ?_) (fun q11 => ?_)
            · skip
              refine sEnd [(50, .bool true), (49, .tup []), (48, .tup []), (47, .tup []), (46, .tup []), (45, .tup []), (44, .bool true), (43, .bool true), (42, .tup []), (41, .tup []), (40, .tup []), (39, .tup []), (38, .tup [])] ?_
              refine QJoin.normal q4 ?_
              exact wkJ (by simp only [q5, q7, q9, q11, Bool.true_or, Bool.false_or, Bool.true_and, Bool.false_and, Bool.not_true, Bool.not_false, Bool.and_true, Bool.and_false, Bool.or_true, Bool.or_false, cond_true, cond_false] <;> kernel_rfl)
            · skip
              refine sCallV 4 (some 41) [(40, .lst (List.map eLie a1.lies) false false), (39, .lptr 3 1), (38, .agg (ePlan false a0))] [.agg (ePlan false a0), .lst (List.map eLie a1.lies) false false] (spec_l1lies_V a0 a1.lies) (PW.cons (Snap2.agg (PW.cons (.int _ _) (PW.cons sa_lst (PW.cons sa_lst (PW.cons sa_lst (PW.cons (.int _ _) PW.nil)))))) (PW.cons (Snap2.of1 sa_lst) PW.nil)) ?_
              refine sCase 3 [(44, .bool (!(liesIn a0 a1.lies))), (43, .bool (!(liesIn a0 a1.lies))), (42, .bool (!(liesIn a0 a1.lies)))] 44 (!(liesIn a0 a1.lies)) (fun q12 => ?_) (fun q12 => ?_)
              · skip
                refine sEnd [(50, .bool true), (49, .tup []), (48, .tup []), (47, .tup []), (46, .tup []), (45, .tup [])] ?_
                refine QJoin.normal q4 ?_
                exact wkJ (by simp only [q5, q7, q9, q11, q12, Bool.true_or, Bool.false_or, Bool.true_and, Bool.false_and, Bool.not_true, Bool.not_false, Bool.and_true, Bool.and_false, Bool.or_true, Bool.or_false, cond_true, cond_false] <;> kernel_rfl)
              · skip
                refine sCallV 4 (some 48) [(47, .lst (List.map eLie a1.flanks) false false), (46, .lptr 3 2), (45, .agg (ePlan false a0))] [.agg (ePlan false a0), .lst (List.map eLie a1.flanks) false false] (spec_l1lies_V a0 a1.flanks) (PW.cons (Snap2.agg (PW.cons (.int _ _) (PW.cons sa_lst (PW.cons sa_lst (PW.cons sa_lst (PW.cons (.int _ _) PW.nil)))))) (PW.cons (Snap2.of1 sa_lst) PW.nil)) ?_
                refine sEnd [(50, .bool (!(liesIn a0 a1.flanks))), (49, .bool (!(liesIn a0 a1.flanks)))] ?_
                refine QJoin.normal q4 ?_
                exact wkJ (by simp only [q5, q7, q9, q11, q12, Bool.true_or, Bool.false_or, Bool.true_and, Bool.false_and, Bool.not_true, Bool.not_false, Bool.and_true, Bool.and_false, Bool.or_true, Bool.or_false, cond_true, cond_false] <;> kernel_rfl)
    replace h := h q3
    refine cCond (.tmp 50) (((a1.sections.length : Int) == 0) || ((!(listOk a1.sections a0.sections)) || ((!(listOk a1.over a0.sections)) || ((!(listOk a1.near a0.sections)) || ((!(liesIn a0 a1.lies)) || (!(liesIn a0 a1.flanks))))))) (fun q13 => ?_) (fun q13 => ?_)
    · replace h := h q13
      refine cSeqG ⟨(mkS 89 [(4, .bool false)]), [(3, (eWay false a1)), (2, (ePlan false a0))], []⟩ (True) ?_ (fun q14 => ?_)
      · skip
        refine rgS [] 2 ?_
        refine sEnd [(4, .bool false)] ?_
        refine QJoin.normal trivial ?_
        exact wkJ (by kernel_rfl)
      refine cRet ?_
      refine QJoin.ret ?_
      refine rtS (.bool false) [.bool false] ?_
      exact (SnapR3.of1 (sr_bool (H := []) (a := false) (b := res) h))
    · skip
      refine cSkip ?_
      refine QJoin.normal ⟨q3, (by simp only [q13, Bool.true_or, Bool.false_or, Bool.true_and, Bool.false_and, Bool.not_true, Bool.not_false, Bool.and_true, Bool.and_false, Bool.or_true, Bool.or_false, cond_true, cond_false])⟩ ?_
      exact wkJ (by kernel_rfl)
  replace h := h q2
  refine cSeq ?_
  refine cSeqG ⟨(mkS 89 [(2, .lptr 2 0), (3, .lptr 3 0), (52, .lst (List.map eLie a1.lies) false false), (53, .int .i64 (a1.lies.length : Int)), (54, .int .i64 0)]), [(3, (eWay false a1)), (2, (ePlan false a0))], []⟩ (a1.lies.length ≤ 4611686018427387904) ?_ (fun q16 => ?_)
  · skip
    refine rgS [] 3 ?_
    refine sLen 3 (some 53) [(52, .lst (List.map eLie a1.lies) false false), (51, .lptr 3 1)] eLie a1.lies (fun q17 => ?_)
    refine sEnd [(54, .int .i64 0)] ?_
    refine QJoin.normal q17 ?_
    exact wkJ (by kernel_rfl)
  replace h := h q16
  refine cBlock 0 ?_
  obtain ⟨q46, h⟩ := h
  refine cLoop (fun (v : Int) => (⟨(mkS 89 [(2, .lptr 2 0), (3, .lptr 3 0), (52, .lst (List.map eLie a1.lies) false false), (53, .int .i64 (a1.lies.length : Int)), (54, .int .i64 v)]), [(3, (eWay false a1)), (2, (ePlan false a0))], []⟩ : St)) (fun (v : Int) => I0 v) (fun (v : Int) => m0 v) 0 (wkL []) q46 (fun v54 hI => ?_)
  skip
  replace h := h v54 hI
  show WpS _ _ _ ⟨(mkS 89 [(2, .lptr 2 0), (3, .lptr 3 0), (52, .lst (List.map eLie a1.lies) false false), (53, .int .i64 (a1.lies.length : Int)), (54, .int .i64 v54)]), [(3, (eWay false a1)), (2, (ePlan false a0))], []⟩
  refine cSeqG ⟨(mkS 89 [(2, .lptr 2 0), (3, .lptr 3 0), (52, .lst (List.map eLie a1.lies) false false), (53, .int .i64 (a1.lies.length : Int)), (54, .int .i64 v54), (55, .bool (decide (v54 < (a1.lies.length : Int))))]), [(3, (eWay false a1)), (2, (ePlan false a0))], []⟩ (True) ?_ (fun q18 => ?_)
  · skip
    refine rgS [] 4 ?_
    refine sEnd [(55, .bool (decide (v54 < (a1.lies.length : Int))))] ?_
    refine QJoin.normal trivial ?_
    exact wkJ (by kernel_rfl)
  obtain ⟨q45, h⟩ := h
  refine cSeqG ⟨(mkS 89 [(2, .lptr 2 0), (3, .lptr 3 0), (52, .lst (List.map eLie a1.lies) false false), (53, .int .i64 (a1.lies.length : Int)), (54, .int .i64 v54)]), [(3, (eWay false a1)), (2, (ePlan false a0))], []⟩ ((decide (v54 < (a1.lies.length : Int))) = true) ?_ (fun q19 => ?_)
  · replace h := q45
    refine cCond (.tmp 55) (decide (v54 < (a1.lies.length : Int))) (fun q20 => ?_) (fun q20 => ?_)
    · skip
      refine cSkip ?_
      refine QJoin.normal (by simp only [q2.2, q20, Bool.true_or, Bool.false_or, Bool.true_and, Bool.false_and, Bool.not_true, Bool.not_false, Bool.and_true, Bool.and_false, Bool.or_true, Bool.or_false, cond_true, cond_false]) ?_
      exact wkJ (by kernel_rfl)
    · replace h := h q20
      refine cExit 0 ?_
      refine QJoin.exit ?_
      refine QRound.exit ?_
      refine QBlock.here ?_
      refine QSeq.normal ?_
      refine cSeqG ⟨(mkS 89 [(4, .bool (!(meets a1.over a1.sections)))]), [(3, (eWay false a1)), (2, (ePlan false a0))], []⟩ (True) ?_ (fun q21 => ?_)
      · skip
        refine rgS [] 15 ?_
        refine sCallV 5 (some 87) [(86, .lst (List.map eInt a1.sections) false false), (85, .lptr 3 0), (84, .lst (List.map eInt a1.over) false false), (83, .lptr 3 3)] [.lst (List.map eInt a1.over) false false, .lst (List.map eInt a1.sections) false false] (spec_l1meet_V a1.over a1.sections) (PW.cons (Snap2.of1 sa_lst) (PW.cons (Snap2.of1 sa_lst) PW.nil)) ?_
        refine sEnd [(4, .bool (!(meets a1.over a1.sections))), (88, .bool (!(meets a1.over a1.sections)))] ?_
        refine QJoin.normal trivial ?_
        exact wkJ (by kernel_rfl)
      refine cRet ?_
      refine rtS (.bool (!(meets a1.over a1.sections))) [.bool (!(meets a1.over a1.sections))] ?_
      exact (SnapR3.of1 (sr_bool (H := []) (a := (!(meets a1.over a1.sections))) (b := res) h))
  replace h := h q19
  refine cSeq ?_
  refine cBlock 1 ?_
  obtain ⟨q44, h⟩ := h
  refine cSeqG ⟨(mkS 89 [(2, .lptr 2 0), (3, .lptr 3 0), (6, .lptr 6 0), (52, .lst (List.map eLie a1.lies) false false), (53, .int .i64 (a1.lies.length : Int)), (54, .int .i64 v54)]), [(6, (eLie (nth a1.lies v54))), (3, (eWay false a1)), (2, (ePlan false a0))], []⟩ (True) ?_ (fun q22 => ?_)
  · replace h := q44
    refine rgS [] 5 ?_
    have q23 := h
    refine sIdx 1 (some 56) [] eLie a1.lies 2 q23 ?_
    refine sEnd' [(6, .lptr 6 0), (57, .agg (eLie (nth a1.lies v54)))] [(6, (eLie (nth a1.lies v54))), (3, (eWay false a1)), (2, (ePlan false a0))] [] ?_
    refine QJoin.normal trivial ?_
    exact wkJ (by kernel_rfl)
  refine cSeq ?_
  refine cSeqG ⟨(mkS 89 [(2, .lptr 2 0), (3, .lptr 3 0), (6, .lptr 6 0), (52, .lst (List.map eLie a1.lies) false false), (53, .int .i64 (a1.lies.length : Int)), (54, .int .i64 v54), (59, .lst (List.map eLie a1.flanks) false false), (60, .int .i64 (a1.flanks.length : Int)), (61, .int .i64 0)]), [(6, (eLie (nth a1.lies v54))), (3, (eWay false a1)), (2, (ePlan false a0))], []⟩ (a1.flanks.length ≤ 4611686018427387904) ?_ (fun q24 => ?_)
  · skip
    refine rgS [] 6 ?_
    refine sLen 3 (some 60) [(59, .lst (List.map eLie a1.flanks) false false), (58, .lptr 3 2)] eLie a1.flanks (fun q25 => ?_)
    refine sEnd [(61, .int .i64 0)] ?_
    refine QJoin.normal q25 ?_
    exact wkJ (by kernel_rfl)
  replace h := h q24
  refine cBlock 2 ?_
  obtain ⟨q43, h⟩ := h
  refine cLoop (fun (v : Int) => (⟨(mkS 89 [(2, .lptr 2 0), (3, .lptr 3 0), (6, .lptr 6 0), (52, .lst (List.map eLie a1.lies) false false), (53, .int .i64 (a1.lies.length : Int)), (54, .int .i64 v54), (59, .lst (List.map eLie a1.flanks) false false), (60, .int .i64 (a1.flanks.length : Int)), (61, .int .i64 v)]), [(6, (eLie (nth a1.lies v54))), (3, (eWay false a1)), (2, (ePlan false a0))], []⟩ : St)) (fun (v : Int) => I1 v54 v) (fun (v : Int) => m1 v54 v) 0 (wkL []) q43 (fun v61 hI => ?_)
  skip
  replace h := h v61 hI
  show WpS _ _ _ ⟨(mkS 89 [(2, .lptr 2 0), (3, .lptr 3 0), (6, .lptr 6 0), (52, .lst (List.map eLie a1.lies) false false), (53, .int .i64 (a1.lies.length : Int)), (54, .int .i64 v54), (59, .lst (List.map eLie a1.flanks) false false), (60, .int .i64 (a1.flanks.length : Int)), (61, .int .i64 v61)]), [(6, (eLie (nth a1.lies v54))), (3, (eWay false a1)), (2, (ePlan false a0))], []⟩
  refine cSeqG ⟨(mkS 89 [(2, .lptr 2 0), (3, .lptr 3 0), (6, .lptr 6 0), (52, .lst (List.map eLie a1.lies) false false), (53, .int .i64 (a1.lies.length : Int)), (54, .int .i64 v54), (59, .lst (List.map eLie a1.flanks) false false), (60, .int .i64 (a1.flanks.length : Int)), (61, .int .i64 v61), (62, .bool (decide (v61 < (a1.flanks.length : Int))))]), [(6, (eLie (nth a1.lies v54))), (3, (eWay false a1)), (2, (ePlan false a0))], []⟩ (True) ?_ (fun q26 => ?_)
  · skip
    refine rgS [] 7 ?_
    refine sEnd [(62, .bool (decide (v61 < (a1.flanks.length : Int))))] ?_
    refine QJoin.normal trivial ?_
    exact wkJ (by kernel_rfl)
  unfold spec_l1way_C1 at h
  obtain ⟨q42, h⟩ := h
  refine cSeqG ⟨(mkS 89 [(2, .lptr 2 0), (3, .lptr 3 0), (6, .lptr 6 0), (52, .lst (List.map eLie a1.lies) false false), (53, .int .i64 (a1.lies.length : Int)), (54, .int .i64 v54), (59, .lst (List.map eLie a1.flanks) false false), (60, .int .i64 (a1.flanks.length : Int)), (61, .int .i64 v61)]), [(6, (eLie (nth a1.lies v54))), (3, (eWay false a1)), (2, (ePlan false a0))], []⟩ ((decide (v61 < (a1.flanks.length : Int))) = true) ?_ (fun q27 => ?_)
  · replace h := q42
    refine cCond (.tmp 62) (decide (v61 < (a1.flanks.length : Int))) (fun q28 => ?_) (fun q28 => ?_)
    · skip
      refine cSkip ?_
      refine QJoin.normal (by simp only [q2.2, q19, q28, Bool.true_or, Bool.false_or, Bool.true_and, Bool.false_and, Bool.not_true, Bool.not_false, Bool.and_true, Bool.and_false, Bool.or_true, Bool.or_false, cond_true, cond_false]) ?_
      exact wkJ (by kernel_rfl)
    · replace h := h q28
      refine cExit 2 ?_
      refine QJoin.exit ?_
      refine QRound.exit ?_
      refine QBlock.here ?_
      refine QSeq.normal ?_
      obtain ⟨q33, h⟩ := h
      refine cSeqG ⟨(mkS 89 [(2, .lptr 2 0), (3, .lptr 3 0), (52, .lst (List.map eLie a1.lies) false false), (53, .int .i64 (a1.lies.length : Int)), (54, .int .i64 v54), (81, .bool (!(meets [(nth a0.switches ((nth a1.lies v54).sw))] a1.sections)))]), [(6, (eLie (nth a1.lies v54))), (3, (eWay false a1)), (2, (ePlan false a0))], []⟩ (True) ?_ (fun q29 => ?_)
      · replace h := q33
        refine rgD [] 12 spec_l1way_o12 spec_l1way_o12a ?_
        have q30 := h
        refine tIdx 5 (some 75) [(74, .int .i64 ((nth a1.lies v54).sw)), (73, .lptr 6 0), (72, .lst (List.map eInt a0.switches) false false), (71, .lptr 2 1)] eInt a0.switches 1 q30 ?_
        refine tCallV 5 (some 80) [(79, .lst (List.map eInt a1.sections) false false), (78, .lptr 3 0), (77, .lst (List.map eInt [(nth a0.switches ((nth a1.lies v54).sw))]) true true), (76, .int .i64 (nth a0.switches ((nth a1.lies v54).sw)))] [.lst (List.map eInt [(nth a0.switches ((nth a1.lies v54).sw))]) true true, .lst (List.map eInt a1.sections) false false] (spec_l1meet_V [(nth a0.switches ((nth a1.lies v54).sw))] a1.sections) (PW.cons (Snap2.of1 sa_lst) (PW.cons (Snap2.of1 sa_lst) PW.nil)) ?_
        refine tEnd [(81, .bool (!(meets [(nth a0.switches ((nth a1.lies v54).sw))] a1.sections)))] ?_
        refine QJoin.normal trivial ?_
        exact wkJ (by kernel_rfl)
      refine cCond (.tmp 81) (!(meets [(nth a0.switches ((nth a1.lies v54).sw))] a1.sections)) (fun q31 => ?_) (fun q31 => ?_)
      · replace h := h.1 q31
        refine cSeqG ⟨(mkS 89 [(4, .bool false)]), [(6, (eLie (nth a1.lies v54))), (3, (eWay false a1)), (2, (ePlan false a0))], []⟩ (True) ?_ (fun q32 => ?_)
        · skip
          refine rgS [] 13 ?_
          refine sEnd [(4, .bool false)] ?_
          refine QJoin.normal trivial ?_
          exact wkJ (by kernel_rfl)
        refine cRet ?_
        refine QBlock.ret ?_
        refine QSeq.ret ?_
        refine QRound.ret ?_
        refine QBlock.ret ?_
        refine QSeq.ret ?_
        refine rtS (.bool false) [.bool false] ?_
        exact (SnapR3.of1 (sr_bool (H := []) (a := false) (b := res) h))
      · replace h := h.2 q31
        refine cSkip ?_
        refine QBlock.normal ?_
        refine QSeq.normal ?_
        refine rgS [] 14 ?_
        refine sEnd [(54, .int .i64 (IntKind.i64.wrap (v54 + 1))), (82, .int .i64 (IntKind.i64.wrap (v54 + 1)))] ?_
        exact QRound.again (IntKind.i64.wrap (v54 + 1)) h (wkL [6])
  replace h := h q27
  obtain ⟨q41, h⟩ := h
  refine cSeqG ⟨(mkS 89 [(2, .lptr 2 0), (3, .lptr 3 0), (6, .lptr 6 0), (52, .lst (List.map eLie a1.lies) false false), (53, .int .i64 (a1.lies.length : Int)), (54, .int .i64 v54), (59, .lst (List.map eLie a1.flanks) false false), (60, .int .i64 (a1.flanks.length : Int)), (61, .int .i64 v61)]), [(8, (eLie (nth a1.flanks v61))), (6, (eLie (nth a1.lies v54))), (3, (eWay false a1)), (2, (ePlan false a0))], []⟩ ((!(((nth a1.lies v54).sw) == ((nth a1.flanks v61).sw))) = true) ?_ (fun q34 => ?_)
  · replace h := q41
    refine cBlock 3 ?_
    obtain ⟨q40, h⟩ := h
    refine cSeqG ⟨(mkS 89 [(2, .lptr 2 0), (3, .lptr 3 0), (6, .lptr 6 0), (8, .lptr 8 0), (52, .lst (List.map eLie a1.lies) false false), (53, .int .i64 (a1.lies.length : Int)), (54, .int .i64 v54), (59, .lst (List.map eLie a1.flanks) false false), (60, .int .i64 (a1.flanks.length : Int)), (61, .int .i64 v61)]), [(8, (eLie (nth a1.flanks v61))), (6, (eLie (nth a1.lies v54))), (3, (eWay false a1)), (2, (ePlan false a0))], []⟩ (True) ?_ (fun q35 => ?_)
    · replace h := q40
      refine rgS [] 8 ?_
      have q36 := h
      refine sIdx 1 (some 63) [] eLie a1.flanks 2 q36 ?_
      refine sEnd' [(8, .lptr 8 0), (64, .agg (eLie (nth a1.flanks v61)))] [(8, (eLie (nth a1.flanks v61))), (6, (eLie (nth a1.lies v54))), (3, (eWay false a1)), (2, (ePlan false a0))] [] ?_
      refine QJoin.normal trivial ?_
      exact wkJ (by kernel_rfl)
    refine cSeqG ⟨(mkS 89 [(2, .lptr 2 0), (3, .lptr 3 0), (6, .lptr 6 0), (52, .lst (List.map eLie a1.lies) false false), (53, .int .i64 (a1.lies.length : Int)), (54, .int .i64 v54), (59, .lst (List.map eLie a1.flanks) false false), (60, .int .i64 (a1.flanks.length : Int)), (61, .int .i64 v61), (69, .bool (((nth a1.lies v54).sw) == ((nth a1.flanks v61).sw)))]), [(8, (eLie (nth a1.flanks v61))), (6, (eLie (nth a1.lies v54))), (3, (eWay false a1)), (2, (ePlan false a0))], []⟩ (True) ?_ (fun q37 => ?_)
    · skip
      refine rgS [] 9 ?_
      refine sEnd [(69, .bool (((nth a1.lies v54).sw) == ((nth a1.flanks v61).sw))), (68, .int .i64 ((nth a1.flanks v61).sw)), (67, .lptr 8 0), (66, .int .i64 ((nth a1.lies v54).sw)), (65, .lptr 6 0)] ?_
      refine QJoin.normal trivial ?_
      exact wkJ (by kernel_rfl)
    refine cCond (.tmp 69) (((nth a1.lies v54).sw) == ((nth a1.flanks v61).sw)) (fun q38 => ?_) (fun q38 => ?_)
    · replace h := h q38
      refine cSeqG ⟨(mkS 89 [(4, .bool false)]), [(8, (eLie (nth a1.flanks v61))), (6, (eLie (nth a1.lies v54))), (3, (eWay false a1)), (2, (ePlan false a0))], []⟩ (True) ?_ (fun q39 => ?_)
      · skip
        refine rgS [] 10 ?_
        refine sEnd [(4, .bool false)] ?_
        refine QJoin.normal trivial ?_
        exact wkJ (by kernel_rfl)
      refine cRet ?_
      refine QBlock.ret ?_
      refine QJoin.ret ?_
      refine QRound.ret ?_
      refine QBlock.ret ?_
      refine QSeq.ret ?_
      refine QBlock.ret ?_
      refine QSeq.ret ?_
      refine QRound.ret ?_
      refine QBlock.ret ?_
      refine QSeq.ret ?_
      refine rtS (.bool false) [.bool false] ?_
      exact (SnapR3.of1 (sr_bool (H := []) (a := false) (b := res) h))
    · skip
      refine cSkip ?_
      refine QBlock.normal ?_
      refine QJoin.normal (by simp only [q2.2, q19, q27, q38, Bool.true_or, Bool.false_or, Bool.true_and, Bool.false_and, Bool.not_true, Bool.not_false, Bool.and_true, Bool.and_false, Bool.or_true, Bool.or_false, cond_true, cond_false]) ?_
      exact wkJ (by kernel_rfl)
  replace h := h q34
  refine rgS [] 11 ?_
  refine sEnd [(61, .int .i64 (IntKind.i64.wrap (v61 + 1))), (70, .int .i64 (IntKind.i64.wrap (v61 + 1)))] ?_
  exact QRound.again (IntKind.i64.wrap (v61 + 1)) h (wkL [8])

set_option maxHeartbeats 4000000 in
theorem spec_l1way_vc (a0 : Plan) (a1 : Way) (hp : preW a0 a1) : spec_l1way_C a0 a1 (wayGood a0 a1) (upI a1.lies.length (fun j => a1.flanks.any (fun y => (nth a1.lies j).sw == y.sw) || !(a1.sections.contains (nth a0.switches (nth a1.lies j).sw)))) (upM a1.lies.length) (fun v => upI a1.flanks.length (fun k => (nth a1.lies v).sw == (nth a1.flanks k).sw)) (fun v => upM a1.flanks.length) := by
  unfold spec_l1way_C spec_l1way_C2 spec_l1way_C1
  refine ⟨⟨fun _ _ => ⟨hp, fun _ => ⟨hp, fun _ => hp⟩⟩, fun hn h => ?_⟩, fun ⟨hn, h⟩ hl => ?_⟩
  · symm
    rw [← Bool.not_eq_true, wayGood_iff]
    rintro ⟨h1, h2, h3, h4, h5, h6, -⟩
    have hz : a1.sections.length ≠ 0 := fun e => h1 (List.eq_nil_of_length_eq_zero e)
    simp only [h2, h3, h4, h5, h6, Bool.not_true, Bool.or_false] at h
    simp at h
    exact h1 h
  · simp only [Bool.not_eq_true', Bool.or_eq_false_iff, Bool.not_eq_false'] at h
    obtain ⟨h1, h2, h3, h4, h5, h6⟩ := h
    have h1 : a1.sections ≠ [] := fun e => by rw [e] at h1; simp at h1
    have hl5 := liesIn_iff.1 h5
    have hl6 := liesIn_iff.1 h6
    refine ⟨up_start (len0 _), fun v hI => ⟨fun hv => ?_, fun hv => ⟨up_in hI hv, fun hf => ⟨up_start (len0 _), fun k hK => ⟨fun hk => ?_, fun hk => ⟨⟨up_in hK hk, fun he => ?_⟩, fun he => up_step (lenI hf) hK hk (not_eq he)⟩⟩⟩⟩⟩⟩
    · have hall := up_end hI hv
      have hd : ((needs a1).map (·.sw)).Nodup := by
        rw [needs_nodup]
        refine ⟨hl5.2.2, hl6.2.2, fun x hx y hy he => ?_⟩
        have := up_all (q := fun x => a1.flanks.any (fun y => x.sw == y.sw) || !(a1.sections.contains (nth a0.switches x.sw))) hall x hx
        simp only [Bool.or_eq_false_iff] at this
        have := this.1
        rw [List.any_eq_false] at this
        exact this y hy (by simpa using he)
      have hc : ∀ x ∈ a1.lies, a1.sections.contains (nth a0.switches x.sw) = true := fun x hx => by
        have := up_all (q := fun x => a1.flanks.any (fun y => x.sw == y.sw) || !(a1.sections.contains (nth a0.switches x.sw))) hall x hx
        simp only [Bool.or_eq_false_iff] at this
        simpa using this.2
      rw [meets_comm, Bool.eq_iff_iff, wayGood_iff]
      constructor
      · intro hm; exact ⟨h1, h2, h3, h4, h5, h6, hd, hc, by simpa using hm⟩
      · rintro ⟨-, -, -, -, -, -, -, -, hm⟩; rw [hm]; rfl
    · have hin := hl5.2.1 _ (nth_mem (up_in hI hv).2)
      rw [Bool.and_eq_true, inR_true] at hin
      refine ⟨⟨hin.1.1, by omega⟩, fun hm => ?_, fun hm => ?_⟩
      · symm
        rw [← Bool.not_eq_true, wayGood_iff]
        rintro ⟨-, -, -, -, -, -, -, hc, -⟩
        rw [meets_one, hc _ (nth_mem (up_in hI hv).2)] at hm
        cases hm
      · refine up_step (lenI hl) hI hv ?_
        rw [meets_one] at hm
        rw [hm, Bool.or_false]
        have := up_all (q := fun y : Lie => (nth a1.lies v).sw == y.sw) (up_end hK hk)
        rw [List.any_eq_false]
        intro y hy
        rw [this y hy]; simp
    · symm
      rw [← Bool.not_eq_true, wayGood_iff]
      rintro ⟨-, -, -, -, -, -, hd, -, -⟩
      exact (needs_nodup.1 hd).2.2 _ (nth_mem (up_in hI hv).2) _ (nth_mem (up_in hK hk).2) (by simpa using he)

theorem spec_l1way_V (a0 : Plan) (a1 : Way) (hp : preW a0 a1) : FnV Try.prog 68 [.agg (ePlan false a0), .agg (eWay false a1)] (.bool (wayGood a0 a1)) := spec_l1way_walk a0 a1 (wayGood a0 a1) (upI a1.lies.length (fun j => a1.flanks.any (fun y => (nth a1.lies j).sw == y.sw) || !(a1.sections.contains (nth a0.switches (nth a1.lies j).sw)))) (upM a1.lies.length) (fun v => upI a1.flanks.length (fun k => (nth a1.lies v).sw == (nth a1.flanks k).sw)) (fun v => upM a1.flanks.length) (spec_l1way_vc a0 a1 hp)

noncomputable def impl_wayOk_b : Code := bodyC Try.f73
def impl_wayOk_o21 : List Item := [⟨0, true, true, []⟩, ⟨1, true, true, []⟩, ⟨2, true, true, []⟩, ⟨3, true, true, []⟩, ⟨4, true, true, []⟩, ⟨5, true, true, []⟩, ⟨6, true, true, []⟩, ⟨7, true, true, []⟩, ⟨8, true, true, []⟩, ⟨9, true, true, []⟩, ⟨10, true, true, []⟩, ⟨11, true, true, []⟩, ⟨12, true, true, []⟩, ⟨13, true, true, []⟩, ⟨14, true, true, []⟩, ⟨15, true, true, []⟩, ⟨16, true, true, []⟩]
def impl_wayOk_o21a : List (List Nat) := [[], [], [1], [1, 2], [0, 1, 2, 3], [0, 1, 2, 3, 4], [0, 1, 2, 3, 4, 5], [0, 1, 2, 3, 4, 5, 6], [0, 1, 2, 3, 4, 5], [0, 1, 2, 3, 4, 5, 8], [0, 1, 2, 3, 4, 5], [0, 1, 2, 3, 4, 5, 10], [0, 1, 2, 3, 4, 5, 8, 9, 10, 11], [0, 1, 2, 3, 4, 5, 8, 9, 10, 11, 12], [0, 1, 2, 3, 4, 5, 6, 7, 8, 9, 10, 11, 12, 13], [0, 1, 2, 3, 4, 5, 6, 7, 8, 9, 10, 11, 12, 13, 14], [0, 1, 2, 3, 4, 5, 6, 7, 8, 9, 10, 11, 12, 13, 14, 15]]
def impl_wayOk_C1 (a0 : Plan) (a1 : Way) (res : Bool) (x0 : (List Int)) (v66 : Int) : Prop :=
  (((decide (v66 < (a1.lies.length : Int))) = true → 0 ≤ ((nth (needs a1) v66).sw) ∧ ((nth (needs a1) v66).sw).toNat < a0.switches.length) ∧ (((decide (v66 < (a1.lies.length : Int))) && (!(hasInt a1.sections (nth a0.switches ((nth (needs a1) v66).sw))))) = true → false = res)) ∧ ((!((decide (v66 < (a1.lies.length : Int))) && (!(hasInt a1.sections (nth a0.switches ((nth (needs a1) v66).sw)))))) = true → (x0.length + [(nth (needs a1) v66).sw].length) * 8 ≤ 140737488355328 ∧ x0.length + [(nth (needs a1) v66).sw].length ≤ 4611686018427387904)
def impl_wayOk_C2 (a0 : Plan) (a1 : Way) (res : Bool) (x0 : (List Int)) (v66 : Int) : Prop :=
  (((decide (((nth (needs a1) v66).sw) < 0)) || ((decide (((nth (needs a1) v66).sw) ≥ (a0.switches.length : Int))) || ((((nth (needs a1) v66).lie) != 1) && (((nth (needs a1) v66).lie) != 2)))) = true → false = res) ∧ ((!((decide (((nth (needs a1) v66).sw) < 0)) || ((decide (((nth (needs a1) v66).sw) ≥ (a0.switches.length : Int))) || ((((nth (needs a1) v66).lie) != 1) && (((nth (needs a1) v66).lie) != 2))))) = true → impl_wayOk_C1 a0 a1 res x0 v66)
def impl_wayOk_C3 (I1 : Int → Nat → (List Int) → Int → Prop) (m1 : Int → Nat → (List Int) → Int → Nat) (a0 : Plan) (a1 : Way) (res : Bool) (v36 : Int) (g0 : Nat) (x0 : (List Int)) (v66 : Int) : Prop :=
  ((0 ≤ v66 ∧ v66.toNat < (needs a1).length) ∧ (impl_wayOk_C2 a0 a1 res x0 v66)) ∧ (((!((decide (((nth (needs a1) v66).sw) < 0)) || ((decide (((nth (needs a1) v66).sw) ≥ (a0.switches.length : Int))) || ((((nth (needs a1) v66).lie) != 1) && (((nth (needs a1) v66).lie) != 2))))) && (!((decide (v66 < (a1.lies.length : Int))) && (!(hasInt a1.sections (nth a0.switches ((nth (needs a1) v66).sw))))))) = true → I1 v36 (g0 + 1) (x0 ++ [(nth (needs a1) v66).sw]) (IntKind.i64.wrap (v66 + 1)) ∧ m1 v36 (g0 + 1) (x0 ++ [(nth (needs a1) v66).sw]) (IntKind.i64.wrap (v66 + 1)) < m1 v36 g0 x0 v66)
def impl_wayOk_C4 (I1 : Int → Nat → (List Int) → Int → Prop) (m1 : Int → Nat → (List Int) → Int → Nat) (a0 : Plan) (a1 : Way) (res : Bool) (v36 : Int) : Prop :=
  (preNeeds a1) ∧ ((needs a1).length ≤ 4611686018427387904 → I1 v36 0 ([] : List Int) 0 ∧ ∀ (g0 : Nat) (x0 : (List Int)) (v66 : Int), I1 v36 g0 x0 v66 → (((decide (v66 < ((needs a1).length : Int))) = false → (x0.length ≤ 4611686018427387904) ∧ (((!(dup x0)) && (!(meets a1.sections a1.over))) = res)) ∧ ((decide (v66 < ((needs a1).length : Int))) = true → impl_wayOk_C3 I1 m1 a0 a1 res v36 g0 x0 v66)))
def impl_wayOk_C5 (I2 : Int → Int → Prop) (m2 : Int → Int → Nat) (a0 : Plan) (a1 : Way) (res : Bool) (v49 : Int) (v36 : Int) : Prop :=
  ((0 ≤ v49 ∧ v49.toNat < (nth [a1.sections, a1.over, a1.near] v36).length) ∧ (((decide ((nth (nth [a1.sections, a1.over, a1.near] v36) v49) < 0)) || (decide ((nth (nth [a1.sections, a1.over, a1.near] v36) v49) ≥ a0.sections))) = true → false = res)) ∧ ((!((decide ((nth (nth [a1.sections, a1.over, a1.near] v36) v49) < 0)) || (decide ((nth (nth [a1.sections, a1.over, a1.near] v36) v49) ≥ a0.sections)))) = true → I2 v36 (IntKind.i64.wrap (v49 + 1)) ∧ m2 v36 (IntKind.i64.wrap (v49 + 1)) < m2 v36 v49)
def impl_wayOk_C6 (I0 : Int → Prop) (m0 : Int → Nat) (I2 : Int → Int → Prop) (m2 : Int → Int → Nat) (a0 : Plan) (a1 : Way) (res : Bool) (v36 : Int) : Prop :=
  ((nth [a1.sections, a1.over, a1.near] v36).length ≤ 4611686018427387904 → ((decide (((nth [a1.sections, a1.over, a1.near] v36).length : Int) > 30)) || (dup (nth [a1.sections, a1.over, a1.near] v36))) = true → false = res) ∧ (((nth [a1.sections, a1.over, a1.near] v36).length ≤ 4611686018427387904) ∧ ((!((decide (((nth [a1.sections, a1.over, a1.near] v36).length : Int) > 30)) || (dup (nth [a1.sections, a1.over, a1.near] v36)))) = true) → I2 v36 0 ∧ ∀ (v49 : Int), I2 v36 v49 → (((decide (v49 < ((nth [a1.sections, a1.over, a1.near] v36).length : Int))) = false → I0 (IntKind.i64.wrap (v36 + 1)) ∧ m0 (IntKind.i64.wrap (v36 + 1)) < m0 v36) ∧ ((decide (v49 < ((nth [a1.sections, a1.over, a1.near] v36).length : Int))) = true → impl_wayOk_C5 I2 m2 a0 a1 res v49 v36)))
def impl_wayOk_C7 (I0 : Int → Prop) (m0 : Int → Nat) (I1 : Int → Nat → (List Int) → Int → Prop) (m1 : Int → Nat → (List Int) → Int → Nat) (I2 : Int → Int → Prop) (m2 : Int → Int → Nat) (a0 : Plan) (a1 : Way) (res : Bool) : Prop :=
  (a1.sections.length ≤ 4611686018427387904 → (((a1.sections.length : Int) == 0) || ((decide ((a1.lies.length : Int) > 30)) || (decide ((a1.flanks.length : Int) > 30)))) = true → false = res) ∧ ((a1.sections.length ≤ 4611686018427387904) ∧ ((!(((a1.sections.length : Int) == 0) || ((decide ((a1.lies.length : Int) > 30)) || (decide ((a1.flanks.length : Int) > 30))))) = true) → [a1.sections, a1.over, a1.near].length ≤ 4611686018427387904 → I0 0 ∧ ∀ (v36 : Int), I0 v36 → (((decide (v36 < ([a1.sections, a1.over, a1.near].length : Int))) = false → impl_wayOk_C4 I1 m1 a0 a1 res v36) ∧ ((decide (v36 < ([a1.sections, a1.over, a1.near].length : Int))) = true → (0 ≤ v36 ∧ v36.toNat < [a1.sections, a1.over, a1.near].length) ∧ (impl_wayOk_C6 I0 m0 I2 m2 a0 a1 res v36))))
def impl_wayOk_C (a0 : Plan) (a1 : Way) (res : Bool) (I0 : Int → Prop) (m0 : Int → Nat) (I1 : Int → Nat → (List Int) → Int → Prop) (m1 : Int → Nat → (List Int) → Int → Nat) (I2 : Int → Int → Prop) (m2 : Int → Int → Nat) : Prop :=
  impl_wayOk_C7 I0 m0 I1 m1 I2 m2 a0 a1 res
set_option maxHeartbeats 4000000 in
theorem impl_wayOk_walk (a0 : Plan) (a1 : Way) (res : Bool) (I0 : Int → Prop) (m0 : Int → Nat) (I1 : Int → Nat → (List Int) → Int → Prop) (m1 : Int → Nat → (List Int) → Int → Nat) (I2 : Int → Int → Prop) (m2 : Int → Int → Nat) (h : impl_wayOk_C a0 a1 res I0 m0 I1 m1 I2 m2) : FnV Try.prog 73 [.agg (ePlan false a0), .agg (eWay false a1)] (.bool res) := by
  unfold impl_wayOk_C at h
  refine FnS.of_body (fn := Try.f73) (c := impl_wayOk_b) Try.func73 (by kernel_rfl) (by kernel_rfl) ?_
  refine WpS.codeIs (c' := (nv impl_wayOk_b 1)) (by kernel_rfl) ?_
  refine WpS.start (st' := ⟨(mkS 126 [(0, .agg (ePlan false a0)), (1, .agg (eWay false a1))]), [], []⟩) (by kernel_rfl) ?_
  refine cSeqG ⟨(mkS 126 [(2, .lptr 2 0), (3, .lptr 3 0)]), [(3, (eWay false a1)), (2, (ePlan false a0))], []⟩ (True) ?_ (fun q1 => ?_)
  · skip
    refine rgS [] 0 ?_
    refine sEnd' [(4, .bool false), (3, .lptr 3 0), (2, .lptr 2 0)] [(3, (eWay false a1)), (2, (ePlan false a0))] [] ?_
    refine QJoin.normal trivial ?_
    exact wkJ (by kernel_rfl)
  unfold impl_wayOk_C7 at h
  obtain ⟨q82, h⟩ := h
  refine cSeqG ⟨(mkS 126 [(2, .lptr 2 0), (3, .lptr 3 0)]), [(3, (eWay false a1)), (2, (ePlan false a0))], []⟩ ((a1.sections.length ≤ 4611686018427387904) ∧ ((!(((a1.sections.length : Int) == 0) || ((decide ((a1.lies.length : Int) > 30)) || (decide ((a1.flanks.length : Int) > 30))))) = true)) ?_ (fun q2 => ?_)
  · replace h := q82
    refine cSeqG ⟨(mkS 126 [(2, .lptr 2 0), (3, .lptr 3 0), (27, .bool (((a1.sections.length : Int) == 0) || ((decide ((a1.lies.length : Int) > 30)) || (decide ((a1.flanks.length : Int) > 30)))))]), [(3, (eWay false a1)), (2, (ePlan false a0))], []⟩ (a1.sections.length ≤ 4611686018427387904) ?_ (fun q3 => ?_)
    · skip
      refine rgS [] 1 ?_
      refine sLen 3 (some 14) [(13, .lst (List.map eInt a1.sections) false false), (12, .lptr 3 0)] eInt a1.sections (fun q4 => ?_)
      refine sCase 2 [(16, .bool ((a1.sections.length : Int) == 0)), (15, .bool ((a1.sections.length : Int) == 0))] 16 ((a1.sections.length : Int) == 0) (fun q5 => ?_) (fun q5 => ?_)
      · skip
        refine sEnd [(27, .bool true), (26, .tup []), (25, .tup []), (24, .tup []), (23, .tup []), (22, .bool true), (21, .bool true), (20, .tup []), (19, .tup []), (18, .tup []), (17, .tup [])] ?_
        refine QJoin.normal q4 ?_
        exact wkJ (by simp only [q5, Bool.true_or, Bool.false_or, Bool.true_and, Bool.false_and, Bool.not_true, Bool.not_false, Bool.and_true, Bool.and_false, Bool.or_true, Bool.or_false, cond_true, cond_false] <;> kernel_rfl)
      · skip
        refine sLen 3 (some 19) [(18, .lst (List.map eLie a1.lies) false false), (17, .lptr 3 1)] eLie a1.lies (fun q6 => ?_)
        refine sCase 3 [(22, .bool (decide ((a1.lies.length : Int) > 30))), (21, .bool (decide ((a1.lies.length : Int) > 30))), (20, .bool (decide ((a1.lies.length : Int) > 30)))] 22 (decide ((a1.lies.length : Int) > 30)) (fun q7 => ?_) (fun q7 => ?_)
        · skip
          refine sEnd [(27, .bool true), (26, .tup []), (25, .tup []), (24, .tup []), (23, .tup [])] ?_
          refine QJoin.normal q4 ?_
          exact wkJ (by simp only [q5, q7, Bool.true_or, Bool.false_or, Bool.true_and, Bool.false_and, Bool.not_true, Bool.not_false, Bool.and_true, Bool.and_false, Bool.or_true, Bool.or_false, cond_true, cond_false] <;> kernel_rfl)
        · skip
          refine sLen 3 (some 25) [(24, .lst (List.map eLie a1.flanks) false false), (23, .lptr 3 2)] eLie a1.flanks (fun q8 => ?_)
          refine sEnd [(27, .bool (decide ((a1.flanks.length : Int) > 30))), (26, .bool (decide ((a1.flanks.length : Int) > 30)))] ?_
          refine QJoin.normal q4 ?_
          exact wkJ (by simp only [q5, q7, Bool.true_or, Bool.false_or, Bool.true_and, Bool.false_and, Bool.not_true, Bool.not_false, Bool.and_true, Bool.and_false, Bool.or_true, Bool.or_false, cond_true, cond_false] <;> kernel_rfl)
    replace h := h q3
    refine cCond (.tmp 27) (((a1.sections.length : Int) == 0) || ((decide ((a1.lies.length : Int) > 30)) || (decide ((a1.flanks.length : Int) > 30)))) (fun q9 => ?_) (fun q9 => ?_)
    · replace h := h q9
      refine cSeqG ⟨(mkS 126 [(4, .bool false)]), [(3, (eWay false a1)), (2, (ePlan false a0))], []⟩ (True) ?_ (fun q10 => ?_)
      · skip
        refine rgS [] 2 ?_
        refine sEnd [(4, .bool false)] ?_
        refine QJoin.normal trivial ?_
        exact wkJ (by kernel_rfl)
      refine cRet ?_
      refine QJoin.ret ?_
      refine rtS (.bool false) [.bool false] ?_
      exact (SnapR3.of1 (sr_bool (H := []) (a := false) (b := res) h))
    · skip
      refine cSkip ?_
      refine QJoin.normal ⟨q3, (by simp only [q9, Bool.true_or, Bool.false_or, Bool.true_and, Bool.false_and, Bool.not_true, Bool.not_false, Bool.and_true, Bool.and_false, Bool.or_true, Bool.or_false, cond_true, cond_false])⟩ ?_
      exact wkJ (by kernel_rfl)
  replace h := h q2
  refine cSeq ?_
  refine cSeqG ⟨(mkS 126 [(2, .lptr 2 0), (3, .lptr 3 0), (34, .lst (List.map (eL eInt false) [a1.sections, a1.over, a1.near]) true false), (35, .int .i64 ([a1.sections, a1.over, a1.near].length : Int)), (36, .int .i64 0)]), [(3, (eWay false a1)), (2, (ePlan false a0))], []⟩ ([a1.sections, a1.over, a1.near].length ≤ 4611686018427387904) ?_ (fun q11 => ?_)
  · skip
    refine rgS [] 3 ?_
    refine sLen 8 (some 35) [(34, .lst (List.map (eL eInt false) [a1.sections, a1.over, a1.near]) true false), (33, .lst (List.map eInt a1.near) false false), (32, .lptr 3 4), (31, .lst (List.map eInt a1.over) false false), (30, .lptr 3 3), (29, .lst (List.map eInt a1.sections) false false), (28, .lptr 3 0)] (eL eInt false) [a1.sections, a1.over, a1.near] (fun q12 => ?_)
    refine sEnd [(36, .int .i64 0)] ?_
    refine QJoin.normal q12 ?_
    exact wkJ (by kernel_rfl)
  replace h := h q11
  refine cBlock 0 ?_
  obtain ⟨q81, h⟩ := h
  refine cLoop (fun (v : Int) => (⟨(mkS 126 [(2, .lptr 2 0), (3, .lptr 3 0), (34, .lst (List.map (eL eInt false) [a1.sections, a1.over, a1.near]) true false), (35, .int .i64 ([a1.sections, a1.over, a1.near].length : Int)), (36, .int .i64 v)]), [(3, (eWay false a1)), (2, (ePlan false a0))], []⟩ : St)) (fun (v : Int) => I0 v) (fun (v : Int) => m0 v) 0 (wkL []) q81 (fun v36 hI => ?_)
  skip
  replace h := h v36 hI
  show WpS _ _ _ ⟨(mkS 126 [(2, .lptr 2 0), (3, .lptr 3 0), (34, .lst (List.map (eL eInt false) [a1.sections, a1.over, a1.near]) true false), (35, .int .i64 ([a1.sections, a1.over, a1.near].length : Int)), (36, .int .i64 v36)]), [(3, (eWay false a1)), (2, (ePlan false a0))], []⟩
  refine cSeqG ⟨(mkS 126 [(2, .lptr 2 0), (3, .lptr 3 0), (34, .lst (List.map (eL eInt false) [a1.sections, a1.over, a1.near]) true false), (35, .int .i64 ([a1.sections, a1.over, a1.near].length : Int)), (36, .int .i64 v36), (37, .bool (decide (v36 < ([a1.sections, a1.over, a1.near].length : Int))))]), [(3, (eWay false a1)), (2, (ePlan false a0))], []⟩ (True) ?_ (fun q13 => ?_)
  · skip
    refine rgS [] 4 ?_
    refine sEnd [(37, .bool (decide (v36 < ([a1.sections, a1.over, a1.near].length : Int))))] ?_
    refine QJoin.normal trivial ?_
    exact wkJ (by kernel_rfl)
  obtain ⟨q80, h⟩ := h
  refine cSeqG ⟨(mkS 126 [(2, .lptr 2 0), (3, .lptr 3 0), (34, .lst (List.map (eL eInt false) [a1.sections, a1.over, a1.near]) true false), (35, .int .i64 ([a1.sections, a1.over, a1.near].length : Int)), (36, .int .i64 v36)]), [(3, (eWay false a1)), (2, (ePlan false a0))], []⟩ ((decide (v36 < ([a1.sections, a1.over, a1.near].length : Int))) = true) ?_ (fun q14 => ?_)
  · replace h := q80
    refine cCond (.tmp 37) (decide (v36 < ([a1.sections, a1.over, a1.near].length : Int))) (fun q15 => ?_) (fun q15 => ?_)
    · skip
      refine cSkip ?_
      refine QJoin.normal (by simp only [q2.2, q15, Bool.true_or, Bool.false_or, Bool.true_and, Bool.false_and, Bool.not_true, Bool.not_false, Bool.and_true, Bool.and_false, Bool.or_true, Bool.or_false, cond_true, cond_false]) ?_
      exact wkJ (by kernel_rfl)
    · replace h := h q15
      refine cExit 0 ?_
      refine QJoin.exit ?_
      refine QRound.exit ?_
      refine QBlock.here ?_
      refine QSeq.normal ?_
      refine cSeqG ⟨(mkS 126 [(2, .lptr 2 0), (3, .lptr 3 0), (9, .lst [] true true)]), [(3, (eWay false a1)), (2, (ePlan false a0))], []⟩ (True) ?_ (fun q16 => ?_)
      · skip
        refine rgS [] 15 ?_
        refine sEnd [(9, .lst [] true true)] ?_
        refine QJoin.normal trivial ?_
        exact wkJ (by kernel_rfl)
      unfold impl_wayOk_C4 at h
      refine cSeq ?_
      obtain ⟨q53, h⟩ := h
      refine cSeqG ⟨(mkS 126 [(2, .lptr 2 0), (3, .lptr 3 0), (9, .lst [] true true), (64, .lst (List.map eLie (needs a1)) false true), (65, .int .i64 ((needs a1).length : Int)), (66, .int .i64 0)]), [(3, (eWay false a1)), (2, (ePlan false a0))], []⟩ ((needs a1).length ≤ 4611686018427387904) ?_ (fun q17 => ?_)
      · replace h := q53
        refine rgS [] 16 ?_
        have q18 := h
        refine sCallV 2 (some 64) [(63, .agg (eWay false a1))] [.agg (eWay false a1)] (impl_needs_V a1 q18) (PW.cons (Snap2.agg (PW.cons sa_lst (PW.cons sa_lst (PW.cons sa_lst (PW.cons sa_lst (PW.cons sa_lst PW.nil)))))) PW.nil) ?_
        refine sLen 1 (some 65) [] eLie (needs a1) (fun q19 => ?_)
        refine sEnd [(66, .int .i64 0)] ?_
        refine QJoin.normal q19 ?_
        exact wkJ (by kernel_rfl)
      replace h := h q17
      refine cBlock 4 ?_
      refine WpS.weak ?_ (weak_adoptS (n := 126) (A' := [(9, .ref 0 0 0 (([] : List Int).length) false), (2, .lptr 2 0), (3, .lptr 3 0), (64, .lst (List.map eLie (needs a1)) false true), (65, .int .i64 ((needs a1).length : Int)), (66, .int .i64 0)]) 9 1 (by kernel_rfl) (by kernel_rfl) (by kernel_rfl) : Weak _ ⟨(mkS 126 [(9, .ref 0 0 0 (([] : List Int).length) false), (2, .lptr 2 0), (3, .lptr 3 0), (64, .lst (List.map eLie (needs a1)) false true), (65, .int .i64 ((needs a1).length : Int)), (66, .int .i64 0)]), [(3, (eWay false a1)), (2, (ePlan false a0))], [⟨0, 1, List.map eInt ([] : List Int)⟩]⟩)
      obtain ⟨q52, h⟩ := h
      refine cLoop (fun (v : Nat × (List Int) × Int) => (⟨(mkS 126 [(2, .lptr 2 0), (3, .lptr 3 0), (9, .ref 0 (v.1) 0 ((v.2.1).length) false), (64, .lst (List.map eLie (needs a1)) false true), (65, .int .i64 ((needs a1).length : Int)), (66, .int .i64 (v.2.2))]), [(3, (eWay false a1)), (2, (ePlan false a0))], [⟨(v.1), 1, List.map eInt (v.2.1)⟩]⟩ : St)) (fun (v : Nat × (List Int) × Int) => I1 v36 (v.1) (v.2.1) (v.2.2)) (fun (v : Nat × (List Int) × Int) => m1 v36 (v.1) (v.2.1) (v.2.2)) (0, ([] : List Int), 0) (wkL []) q52 (fun v hI => ?_)
      obtain ⟨g0, x0, v66⟩ := v
      replace h := h g0 x0 v66 hI
      show WpS _ _ _ ⟨(mkS 126 [(2, .lptr 2 0), (3, .lptr 3 0), (9, .ref 0 g0 0 x0.length false), (64, .lst (List.map eLie (needs a1)) false true), (65, .int .i64 ((needs a1).length : Int)), (66, .int .i64 v66)]), [(3, (eWay false a1)), (2, (ePlan false a0))], [⟨g0, 1, List.map eInt x0⟩]⟩
      refine cSeqG ⟨(mkS 126 [(2, .lptr 2 0), (3, .lptr 3 0), (9, .ref 0 g0 0 x0.length false), (64, .lst (List.map eLie (needs a1)) false true), (65, .int .i64 ((needs a1).length : Int)), (66, .int .i64 v66), (67, .bool (decide (v66 < ((needs a1).length : Int))))]), [(3, (eWay false a1)), (2, (ePlan false a0))], [⟨g0, 1, List.map eInt x0⟩]⟩ (True) ?_ (fun q20 => ?_)
      · skip
        refine rgS [] 17 ?_
        refine sEnd [(67, .bool (decide (v66 < ((needs a1).length : Int))))] ?_
        refine QJoin.normal trivial ?_
        exact wkJ (by kernel_rfl)
      obtain ⟨q51, h⟩ := h
      refine cSeqG ⟨(mkS 126 [(2, .lptr 2 0), (3, .lptr 3 0), (9, .ref 0 g0 0 x0.length false), (64, .lst (List.map eLie (needs a1)) false true), (65, .int .i64 ((needs a1).length : Int)), (66, .int .i64 v66)]), [(3, (eWay false a1)), (2, (ePlan false a0))], [⟨g0, 1, List.map eInt x0⟩]⟩ ((decide (v66 < ((needs a1).length : Int))) = true) ?_ (fun q21 => ?_)
      · replace h := q51
        refine cCond (.tmp 67) (decide (v66 < ((needs a1).length : Int))) (fun q22 => ?_) (fun q22 => ?_)
        · skip
          refine cSkip ?_
          refine QJoin.normal (by simp only [q2.2, q15, q22, Bool.true_or, Bool.false_or, Bool.true_and, Bool.false_and, Bool.not_true, Bool.not_false, Bool.and_true, Bool.and_false, Bool.or_true, Bool.or_false, cond_true, cond_false]) ?_
          exact wkJ (by kernel_rfl)
        · replace h := h q22
          refine cExit 4 ?_
          refine QJoin.exit ?_
          refine QRound.exit ?_
          refine QBlock.here ?_
          refine QSeq.normal ?_
          obtain ⟨q26, h⟩ := h
          refine cSeqG ⟨(mkS 126 [(4, .bool ((!(dup x0)) && (!(meets a1.sections a1.over))))]), [(3, (eWay false a1)), (2, (ePlan false a0))], [⟨g0, 1, List.map eInt x0⟩]⟩ (True) ?_ (fun q23 => ?_)
          · replace h := q26
            refine rgS [] 25 ?_
            have q24 := h
            refine sCallV 2 (some 116) [(115, .ref 0 g0 0 x0.length false)] [.ref 0 g0 0 x0.length false] (impl_twice_int_V x0) (PW.cons (Snap2.of1 (sa_blk' (sz := 1) (by simp) rfl (iInt) q24)) PW.nil) ?_
            refine sCase 2 [(118, .bool (!(dup x0))), (117, .bool (!(dup x0)))] 118 (!(dup x0)) (fun q25 => ?_) (fun q25 => ?_)
            · skip
              refine sCallV 5 (some 123) [(122, .lst (List.map eInt a1.over) false false), (121, .lptr 3 3), (120, .lst (List.map eInt a1.sections) false false), (119, .lptr 3 0)] [.lst (List.map eInt a1.sections) false false, .lst (List.map eInt a1.over) false false] (impl_meet_V a1.sections a1.over) (PW.cons (Snap2.of1 sa_lst) (PW.cons (Snap2.of1 sa_lst) PW.nil)) ?_
              refine sEnd [(4, .bool (!(meets a1.sections a1.over))), (125, .bool (!(meets a1.sections a1.over))), (124, .bool (!(meets a1.sections a1.over)))] ?_
              refine QJoin.normal trivial ?_
              exact wkJ (by simp only [q2.2, q15, q22, q25, Bool.true_or, Bool.false_or, Bool.true_and, Bool.false_and, Bool.not_true, Bool.not_false, Bool.and_true, Bool.and_false, Bool.or_true, Bool.or_false, cond_true, cond_false] <;> kernel_rfl)
            · skip
              refine sEnd [(4, .bool false), (125, .bool false), (124, .tup []), (123, .tup []), (122, .tup []), (121, .tup []), (120, .tup []), (119, .tup [])] ?_
              refine QJoin.normal trivial ?_
              exact wkJ (by simp only [q2.2, q15, q22, q25, Bool.true_or, Bool.false_or, Bool.true_and, Bool.false_and, Bool.not_true, Bool.not_false, Bool.and_true, Bool.and_false, Bool.or_true, Bool.or_false, cond_true, cond_false] <;> kernel_rfl)
          refine cRet ?_
          refine rtS (.bool ((!(dup x0)) && (!(meets a1.sections a1.over)))) [.bool ((!(dup x0)) && (!(meets a1.sections a1.over)))] ?_
          exact (SnapR3.of1 (sr_bool (H := [⟨g0, 1, List.map eInt x0⟩]) (a := ((!(dup x0)) && (!(meets a1.sections a1.over)))) (b := res) h))
      replace h := h q21
      unfold impl_wayOk_C3 at h
      obtain ⟨q50, h⟩ := h
      refine cSeqG ⟨(mkS 126 [(2, .lptr 2 0), (3, .lptr 3 0), (9, .ref 0 (g0 + 1) 0 ((x0 ++ [(nth (needs a1) v66).sw]).length) false), (64, .lst (List.map eLie (needs a1)) false true), (65, .int .i64 ((needs a1).length : Int)), (66, .int .i64 v66)]), [(11, (eLie (nth (needs a1) v66))), (3, (eWay false a1)), (2, (ePlan false a0))], [⟨(g0 + 1), 1, List.map eInt (x0 ++ [(nth (needs a1) v66).sw])⟩]⟩ (((!((decide (((nth (needs a1) v66).sw) < 0)) || ((decide (((nth (needs a1) v66).sw) ≥ (a0.switches.length : Int))) || ((((nth (needs a1) v66).lie) != 1) && (((nth (needs a1) v66).lie) != 2))))) && (!((decide (v66 < (a1.lies.length : Int))) && (!(hasInt a1.sections (nth a0.switches ((nth (needs a1) v66).sw))))))) = true) ?_ (fun q27 => ?_)
      · replace h := q50
        refine cBlock 5 ?_
        obtain ⟨q49, h⟩ := h
        refine cSeqG ⟨(mkS 126 [(2, .lptr 2 0), (3, .lptr 3 0), (9, .ref 0 g0 0 x0.length false), (10, .int .i64 v66), (11, .lptr 11 0), (64, .lst (List.map eLie (needs a1)) false true), (65, .int .i64 ((needs a1).length : Int)), (66, .int .i64 v66)]), [(11, (eLie (nth (needs a1) v66))), (3, (eWay false a1)), (2, (ePlan false a0))], [⟨g0, 1, List.map eInt x0⟩]⟩ (True) ?_ (fun q28 => ?_)
        · replace h := q49
          refine rgS [] 18 ?_
          have q29 := h
          refine sIdx 2 (some 69) [(68, .int .i64 v66)] eLie (needs a1) 2 q29 ?_
          refine sEnd' [(10, .int .i64 v66), (11, .lptr 11 0), (70, .agg (eLie (nth (needs a1) v66)))] [(11, (eLie (nth (needs a1) v66))), (3, (eWay false a1)), (2, (ePlan false a0))] [⟨g0, 1, List.map eInt x0⟩] ?_
          refine QJoin.normal trivial ?_
          exact wkJ (by kernel_rfl)
        unfold impl_wayOk_C2 at h
        obtain ⟨q48, h⟩ := h
        refine cSeqG ⟨(mkS 126 [(2, .lptr 2 0), (3, .lptr 3 0), (9, .ref 0 g0 0 x0.length false), (10, .int .i64 v66), (11, .lptr 11 0), (64, .lst (List.map eLie (needs a1)) false true), (65, .int .i64 ((needs a1).length : Int)), (66, .int .i64 v66)]), [(11, (eLie (nth (needs a1) v66))), (3, (eWay false a1)), (2, (ePlan false a0))], [⟨g0, 1, List.map eInt x0⟩]⟩ ((!((decide (((nth (needs a1) v66).sw) < 0)) || ((decide (((nth (needs a1) v66).sw) ≥ (a0.switches.length : Int))) || ((((nth (needs a1) v66).lie) != 1) && (((nth (needs a1) v66).lie) != 2))))) = true) ?_ (fun q30 => ?_)
        · replace h := q48
          refine cSeqG ⟨(mkS 126 [(2, .lptr 2 0), (3, .lptr 3 0), (9, .ref 0 g0 0 x0.length false), (10, .int .i64 v66), (11, .lptr 11 0), (64, .lst (List.map eLie (needs a1)) false true), (65, .int .i64 ((needs a1).length : Int)), (66, .int .i64 v66), (91, .bool ((decide (((nth (needs a1) v66).sw) < 0)) || ((decide (((nth (needs a1) v66).sw) ≥ (a0.switches.length : Int))) || ((((nth (needs a1) v66).lie) != 1) && (((nth (needs a1) v66).lie) != 2)))))]), [(11, (eLie (nth (needs a1) v66))), (3, (eWay false a1)), (2, (ePlan false a0))], [⟨g0, 1, List.map eInt x0⟩]⟩ (True) ?_ (fun q31 => ?_)
          · skip
            refine rgS [] 19 ?_
            refine sCase 4 [(74, .bool (decide (((nth (needs a1) v66).sw) < 0))), (73, .bool (decide (((nth (needs a1) v66).sw) < 0))), (72, .int .i64 ((nth (needs a1) v66).sw)), (71, .lptr 11 0)] 74 (decide (((nth (needs a1) v66).sw) < 0)) (fun q32 => ?_) (fun q32 => ?_)
            · skip
              refine sEnd [(91, .bool true), (90, .tup []), (89, .tup []), (88, .tup []), (87, .tup []), (86, .tup []), (85, .tup []), (84, .tup []), (83, .tup []), (82, .bool true), (81, .bool true), (80, .tup []), (79, .tup []), (78, .tup []), (77, .tup []), (76, .tup []), (75, .tup [])] ?_
              refine QJoin.normal trivial ?_
              exact wkJ (by simp only [q2.2, q15, q21, q32, Bool.true_or, Bool.false_or, Bool.true_and, Bool.false_and, Bool.not_true, Bool.not_false, Bool.and_true, Bool.and_false, Bool.or_true, Bool.or_false, cond_true, cond_false] <;> kernel_rfl)
            · skip
              refine sLen 5 (some 79) [(78, .lst (List.map eInt a0.switches) false false), (77, .lptr 2 1), (76, .int .i64 ((nth (needs a1) v66).sw)), (75, .lptr 11 0)] eInt a0.switches (fun q33 => ?_)
              refine sCase 3 [(82, .bool (decide (((nth (needs a1) v66).sw) ≥ (a0.switches.length : Int)))), (81, .bool (decide (((nth (needs a1) v66).sw) ≥ (a0.switches.length : Int)))), (80, .bool (decide (((nth (needs a1) v66).sw) ≥ (a0.switches.length : Int))))] 82 (decide (((nth (needs a1) v66).sw) ≥ (a0.switches.length : Int))) (fun q34 => ?_) (fun q34 => ?_)
              · skip
                refine sEnd [(91, .bool true), (90, .tup []), (89, .tup []), (88, .tup []), (87, .tup []), (86, .tup []), (85, .tup []), (84, .tup []), (83, .tup [])] ?_
                refine QJoin.normal trivial ?_
                exact wkJ (by simp only [q2.2, q15, q21, q32, q34, Bool.true_or, Bool.false_or, Bool.true_and, Bool.false_and, Bool.not_true, Bool.not_false, Bool.and_true, Bool.and_false, Bool.or_true, Bool.or_false, cond_true, cond_false] <;> kernel_rfl)
              · skip
                refine sCase 4 [(86, .bool (((nth (needs a1) v66).lie) != 1)), (85, .bool (((nth (needs a1) v66).lie) != 1)), (84, .int .i64 ((nth (needs a1) v66).lie)), (83, .lptr 11 1)] 86 (((nth (needs a1) v66).lie) != 1) (fun q35 => ?_) (fun q35 => ?_)
                · skip
                  refine sEnd [(91, .bool (((nth (needs a1) v66).lie) != 2)), (90, .bool (((nth (needs a1) v66).lie) != 2)), (89, .bool (((nth (needs a1) v66).lie) != 2)), (88, .int .i64 ((nth (needs a1) v66).lie)), (87, .lptr 11 1)] ?_
                  refine QJoin.normal trivial ?_
                  exact wkJ (by simp only [q2.2, q15, q21, q32, q34, q35, Bool.true_or, Bool.false_or, Bool.true_and, Bool.false_and, Bool.not_true, Bool.not_false, Bool.and_true, Bool.and_false, Bool.or_true, Bool.or_false, cond_true, cond_false] <;> kernel_rfl)
                · skip
                  refine sEnd [(91, .bool false), (90, .bool false), (89, .tup []), (88, .tup []), (87, .tup [])] ?_
                  refine QJoin.normal trivial ?_
                  exact wkJ (by simp only [q2.2, q15, q21, q32, q34, q35, Bool.true_or, Bool.false_or, Bool.true_and, Bool.false_and, Bool.not_true, Bool.not_false, Bool.and_true, Bool.and_false, Bool.or_true, Bool.or_false, cond_true, cond_false] <;> kernel_rfl)
          refine cCond (.tmp 91) ((decide (((nth (needs a1) v66).sw) < 0)) || ((decide (((nth (needs a1) v66).sw) ≥ (a0.switches.length : Int))) || ((((nth (needs a1) v66).lie) != 1) && (((nth (needs a1) v66).lie) != 2)))) (fun q36 => ?_) (fun q36 => ?_)
          · replace h := h q36
            refine cSeqG ⟨(mkS 126 [(4, .bool false)]), [(11, (eLie (nth (needs a1) v66))), (3, (eWay false a1)), (2, (ePlan false a0))], [⟨g0, 1, List.map eInt x0⟩]⟩ (True) ?_ (fun q37 => ?_)
            · skip
              refine rgS [] 20 ?_
              refine sEnd [(4, .bool false)] ?_
              refine QJoin.normal trivial ?_
              exact wkJ (by kernel_rfl)
            refine cRet ?_
            refine QJoin.ret ?_
            refine QBlock.ret ?_
            refine QJoin.ret ?_
            refine QRound.ret ?_
            refine QBlock.ret ?_
            refine QSeq.ret ?_
            refine rtS (.bool false) [.bool false] ?_
            exact (SnapR3.of1 (sr_bool (H := [⟨g0, 1, List.map eInt x0⟩]) (a := false) (b := res) h))
          · skip
            refine cSkip ?_
            refine QJoin.normal (by simp only [q2.2, q15, q21, q36, Bool.true_or, Bool.false_or, Bool.true_and, Bool.false_and, Bool.not_true, Bool.not_false, Bool.and_true, Bool.and_false, Bool.or_true, Bool.or_false, cond_true, cond_false]) ?_
            exact wkJ (by kernel_rfl)
        replace h := h q30
        unfold impl_wayOk_C1 at h
        obtain ⟨q47, h⟩ := h
        refine cSeqG ⟨(mkS 126 [(2, .lptr 2 0), (3, .lptr 3 0), (9, .ref 0 g0 0 x0.length false), (11, .lptr 11 0), (64, .lst (List.map eLie (needs a1)) false true), (65, .int .i64 ((needs a1).length : Int)), (66, .int .i64 v66)]), [(11, (eLie (nth (needs a1) v66))), (3, (eWay false a1)), (2, (ePlan false a0))], [⟨g0, 1, List.map eInt x0⟩]⟩ ((!((decide (v66 < (a1.lies.length : Int))) && (!(hasInt a1.sections (nth a0.switches ((nth (needs a1) v66).sw)))))) = true) ?_ (fun q38 => ?_)
        · replace h := q47
          obtain ⟨q45, h⟩ := h
          refine cSeqG ⟨(mkS 126 [(2, .lptr 2 0), (3, .lptr 3 0), (9, .ref 0 g0 0 x0.length false), (11, .lptr 11 0), (64, .lst (List.map eLie (needs a1)) false true), (65, .int .i64 ((needs a1).length : Int)), (66, .int .i64 v66), (108, .bool ((decide (v66 < (a1.lies.length : Int))) && (!(hasInt a1.sections (nth a0.switches ((nth (needs a1) v66).sw))))))]), [(11, (eLie (nth (needs a1) v66))), (3, (eWay false a1)), (2, (ePlan false a0))], [⟨g0, 1, List.map eInt x0⟩]⟩ (True) ?_ (fun q39 => ?_)
          · replace h := q45
            refine rgD [] 21 impl_wayOk_o21 impl_wayOk_o21a ?_
            refine tLen 4 (some 95) [(94, .lst (List.map eLie a1.lies) false false), (93, .lptr 3 1), (92, .int .i64 v66)] eLie a1.lies ?_
            refine tCase 2 [(97, .bool (decide (v66 < (a1.lies.length : Int)))), (96, .bool (decide (v66 < (a1.lies.length : Int))))] 97 (decide (v66 < (a1.lies.length : Int))) (fun q41 => ?_) (fun q41 => ?_)
            · replace h := h q41
              have q42 := h
              refine tIdx 7 (some 104) [(103, .int .i64 ((nth (needs a1) v66).sw)), (102, .lptr 11 0), (101, .lst (List.map eInt a0.switches) false false), (100, .lptr 2 1), (99, .lst (List.map eInt a1.sections) false false), (98, .lptr 3 0)] eInt a0.switches 1 q42 ?_
              refine tCallV 2 (some 106) [(105, .int .i64 (nth a0.switches ((nth (needs a1) v66).sw)))] [.lst (List.map eInt a1.sections) false false, .int .i64 (nth a0.switches ((nth (needs a1) v66).sw))] (slices_Contains_int_V a1.sections (nth a0.switches ((nth (needs a1) v66).sw))) (PW.cons (Snap2.of1 sa_lst) (PW.cons (Snap2.of1 (.int _ _)) PW.nil)) ?_
              refine tEnd [(108, .bool (!(hasInt a1.sections (nth a0.switches ((nth (needs a1) v66).sw))))), (107, .bool (!(hasInt a1.sections (nth a0.switches ((nth (needs a1) v66).sw)))))] ?_
              refine QJoin.normal trivial ?_
              exact wkJ (by simp only [q2.2, q15, q21, q30, q41, Bool.true_or, Bool.false_or, Bool.true_and, Bool.false_and, Bool.not_true, Bool.not_false, Bool.and_true, Bool.and_false, Bool.or_true, Bool.or_false, cond_true, cond_false] <;> kernel_rfl)
            · skip
              refine tEnd [(108, .bool false), (107, .tup []), (106, .tup []), (105, .tup []), (104, .tup []), (103, .tup []), (102, .tup []), (101, .tup []), (100, .tup []), (99, .tup []), (98, .tup [])] ?_
              refine QJoin.normal trivial ?_
              exact wkJ (by simp only [q2.2, q15, q21, q30, q41, Bool.true_or, Bool.false_or, Bool.true_and, Bool.false_and, Bool.not_true, Bool.not_false, Bool.and_true, Bool.and_false, Bool.or_true, Bool.or_false, cond_true, cond_false] <;> kernel_rfl)
          refine cCond (.tmp 108) ((decide (v66 < (a1.lies.length : Int))) && (!(hasInt a1.sections (nth a0.switches ((nth (needs a1) v66).sw))))) (fun q43 => ?_) (fun q43 => ?_)
          · replace h := h q43
            refine cSeqG ⟨(mkS 126 [(4, .bool false)]), [(11, (eLie (nth (needs a1) v66))), (3, (eWay false a1)), (2, (ePlan false a0))], [⟨g0, 1, List.map eInt x0⟩]⟩ (True) ?_ (fun q44 => ?_)
            · skip
              refine rgS [] 22 ?_
              refine sEnd [(4, .bool false)] ?_
              refine QJoin.normal trivial ?_
              exact wkJ (by kernel_rfl)
            refine cRet ?_
            refine QJoin.ret ?_
            refine QBlock.ret ?_
            refine QJoin.ret ?_
            refine QRound.ret ?_
            refine QBlock.ret ?_
            refine QSeq.ret ?_
            refine rtS (.bool false) [.bool false] ?_
            exact (SnapR3.of1 (sr_bool (H := [⟨g0, 1, List.map eInt x0⟩]) (a := false) (b := res) h))
          · skip
            refine cSkip ?_
            refine QJoin.normal (by simp only [q2.2, q15, q21, q30, q43, Bool.true_or, Bool.false_or, Bool.true_and, Bool.false_and, Bool.not_true, Bool.not_false, Bool.and_true, Bool.and_false, Bool.or_true, Bool.or_false, cond_true, cond_false]) ?_
            exact wkJ (by kernel_rfl)
        replace h := h q38
        refine rgS [] 23 ?_
        have q46 := h
        refine sApp 5 (some 113) [(112, .lst (List.map eInt [(nth (needs a1) v66).sw]) true true), (111, .int .i64 ((nth (needs a1) v66).sw)), (110, .lptr 11 0), (109, .ref 0 g0 0 x0.length false)] eInt x0 [(nth (needs a1) v66).sw] (refrs true (List.map eInt [(nth (needs a1) v66).sw])) 0 g0 1 8 (fun r => [⟨(g0 + 1), 1, r⟩]) rfl q46 ?_
        refine sEnd [(9, .ref 0 (g0 + 1) 0 ((x0 ++ [(nth (needs a1) v66).sw]).length) false)] ?_
        refine QBlock.normal ?_
        refine QJoin.normal (by simp only [q2.2, q15, q21, q30, q38, Bool.true_or, Bool.false_or, Bool.true_and, Bool.false_and, Bool.not_true, Bool.not_false, Bool.and_true, Bool.and_false, Bool.or_true, Bool.or_false, cond_true, cond_false]) ?_
        exact wkJ (by kernel_rfl)
      replace h := h q27
      refine rgS [] 24 ?_
      refine sEnd [(66, .int .i64 (IntKind.i64.wrap (v66 + 1))), (114, .int .i64 (IntKind.i64.wrap (v66 + 1)))] ?_
      exact QRound.again ((g0 + 1), (x0 ++ [(nth (needs a1) v66).sw]), (IntKind.i64.wrap (v66 + 1))) h (wkL [11])
  replace h := h q14
  refine cSeq ?_
  refine cBlock 1 ?_
  obtain ⟨q79, h⟩ := h
  refine cSeqG ⟨(mkS 126 [(2, .lptr 2 0), (3, .lptr 3 0), (6, .lst (List.map eInt (nth [a1.sections, a1.over, a1.near] v36)) false false), (34, .lst (List.map (eL eInt false) [a1.sections, a1.over, a1.near]) true false), (35, .int .i64 ([a1.sections, a1.over, a1.near].length : Int)), (36, .int .i64 v36)]), [(3, (eWay false a1)), (2, (ePlan false a0))], []⟩ (True) ?_ (fun q54 => ?_)
  · replace h := q79
    refine rgS [] 5 ?_
    have q55 := h
    refine sIdx 1 (some 38) [] (eL eInt false) [a1.sections, a1.over, a1.near] 1 q55 ?_
    refine sEnd [(6, .lst (List.map eInt (nth [a1.sections, a1.over, a1.near] v36)) false false), (39, .lst (List.map eInt (nth [a1.sections, a1.over, a1.near] v36)) false false)] ?_
    refine QJoin.normal trivial ?_
    exact wkJ (by kernel_rfl)
  unfold impl_wayOk_C6 at h
  obtain ⟨q78, h⟩ := h
  refine cSeqG ⟨(mkS 126 [(2, .lptr 2 0), (3, .lptr 3 0), (6, .lst (List.map eInt (nth [a1.sections, a1.over, a1.near] v36)) false false), (34, .lst (List.map (eL eInt false) [a1.sections, a1.over, a1.near]) true false), (35, .int .i64 ([a1.sections, a1.over, a1.near].length : Int)), (36, .int .i64 v36)]), [(3, (eWay false a1)), (2, (ePlan false a0))], []⟩ (((nth [a1.sections, a1.over, a1.near] v36).length ≤ 4611686018427387904) ∧ ((!((decide (((nth [a1.sections, a1.over, a1.near] v36).length : Int) > 30)) || (dup (nth [a1.sections, a1.over, a1.near] v36)))) = true)) ?_ (fun q56 => ?_)
  · replace h := q78
    refine cSeqG ⟨(mkS 126 [(2, .lptr 2 0), (3, .lptr 3 0), (6, .lst (List.map eInt (nth [a1.sections, a1.over, a1.near] v36)) false false), (34, .lst (List.map (eL eInt false) [a1.sections, a1.over, a1.near]) true false), (35, .int .i64 ([a1.sections, a1.over, a1.near].length : Int)), (36, .int .i64 v36), (46, .bool ((decide (((nth [a1.sections, a1.over, a1.near] v36).length : Int) > 30)) || (dup (nth [a1.sections, a1.over, a1.near] v36))))]), [(3, (eWay false a1)), (2, (ePlan false a0))], []⟩ ((nth [a1.sections, a1.over, a1.near] v36).length ≤ 4611686018427387904) ?_ (fun q57 => ?_)
    · skip
      refine rgS [] 6 ?_
      refine sLen 2 (some 41) [(40, .lst (List.map eInt (nth [a1.sections, a1.over, a1.near] v36)) false false)] eInt (nth [a1.sections, a1.over, a1.near] v36) (fun q58 => ?_)
      refine sCase 2 [(43, .bool (decide (((nth [a1.sections, a1.over, a1.near] v36).length : Int) > 30))), (42, .bool (decide (((nth [a1.sections, a1.over, a1.near] v36).length : Int) > 30)))] 43 (decide (((nth [a1.sections, a1.over, a1.near] v36).length : Int) > 30)) (fun q59 => ?_) (fun q59 => ?_)
      · skip
        refine sEnd [(46, .bool true), (45, .tup []), (44, .tup [])] ?_
        refine QJoin.normal q58 ?_
        exact wkJ (by simp only [q2.2, q14, q59, Bool.true_or, Bool.false_or, Bool.true_and, Bool.false_and, Bool.not_true, Bool.not_false, Bool.and_true, Bool.and_false, Bool.or_true, Bool.or_false, cond_true, cond_false] <;> kernel_rfl)
      · skip
        refine sCallV 2 (some 45) [(44, .lst (List.map eInt (nth [a1.sections, a1.over, a1.near] v36)) false false)] [.lst (List.map eInt (nth [a1.sections, a1.over, a1.near] v36)) false false] (impl_twice_int_V (nth [a1.sections, a1.over, a1.near] v36)) (PW.cons (Snap2.of1 sa_lst) PW.nil) ?_
        refine sEnd [(46, .bool (dup (nth [a1.sections, a1.over, a1.near] v36)))] ?_
        refine QJoin.normal q58 ?_
        exact wkJ (by simp only [q2.2, q14, q59, Bool.true_or, Bool.false_or, Bool.true_and, Bool.false_and, Bool.not_true, Bool.not_false, Bool.and_true, Bool.and_false, Bool.or_true, Bool.or_false, cond_true, cond_false] <;> kernel_rfl)
    replace h := h q57
    refine cCond (.tmp 46) ((decide (((nth [a1.sections, a1.over, a1.near] v36).length : Int) > 30)) || (dup (nth [a1.sections, a1.over, a1.near] v36))) (fun q60 => ?_) (fun q60 => ?_)
    · replace h := h q60
      refine cSeqG ⟨(mkS 126 [(4, .bool false)]), [(3, (eWay false a1)), (2, (ePlan false a0))], []⟩ (True) ?_ (fun q61 => ?_)
      · skip
        refine rgS [] 7 ?_
        refine sEnd [(4, .bool false)] ?_
        refine QJoin.normal trivial ?_
        exact wkJ (by kernel_rfl)
      refine cRet ?_
      refine QJoin.ret ?_
      refine QBlock.ret ?_
      refine QSeq.ret ?_
      refine QRound.ret ?_
      refine QBlock.ret ?_
      refine QSeq.ret ?_
      refine rtS (.bool false) [.bool false] ?_
      exact (SnapR3.of1 (sr_bool (H := []) (a := false) (b := res) h))
    · skip
      refine cSkip ?_
      refine QJoin.normal ⟨q57, (by simp only [q2.2, q14, q60, Bool.true_or, Bool.false_or, Bool.true_and, Bool.false_and, Bool.not_true, Bool.not_false, Bool.and_true, Bool.and_false, Bool.or_true, Bool.or_false, cond_true, cond_false])⟩ ?_
      exact wkJ (by kernel_rfl)
  replace h := h q56
  refine cSeqG ⟨(mkS 126 [(2, .lptr 2 0), (3, .lptr 3 0), (34, .lst (List.map (eL eInt false) [a1.sections, a1.over, a1.near]) true false), (35, .int .i64 ([a1.sections, a1.over, a1.near].length : Int)), (36, .int .i64 v36), (47, .lst (List.map eInt (nth [a1.sections, a1.over, a1.near] v36)) false false), (48, .int .i64 ((nth [a1.sections, a1.over, a1.near] v36).length : Int)), (49, .int .i64 0)]), [(3, (eWay false a1)), (2, (ePlan false a0))], []⟩ (True) ?_ (fun q62 => ?_)
  · skip
    refine rgS [] 8 ?_
    refine sLen 2 (some 48) [(47, .lst (List.map eInt (nth [a1.sections, a1.over, a1.near] v36)) false false)] eInt (nth [a1.sections, a1.over, a1.near] v36) (fun q63 => ?_)
    refine sEnd [(49, .int .i64 0)] ?_
    refine QJoin.normal trivial ?_
    exact wkJ (by kernel_rfl)
  refine cBlock 2 ?_
  obtain ⟨q77, h⟩ := h
  refine cLoop (fun (v : Int) => (⟨(mkS 126 [(2, .lptr 2 0), (3, .lptr 3 0), (34, .lst (List.map (eL eInt false) [a1.sections, a1.over, a1.near]) true false), (35, .int .i64 ([a1.sections, a1.over, a1.near].length : Int)), (36, .int .i64 v36), (47, .lst (List.map eInt (nth [a1.sections, a1.over, a1.near] v36)) false false), (48, .int .i64 ((nth [a1.sections, a1.over, a1.near] v36).length : Int)), (49, .int .i64 v)]), [(3, (eWay false a1)), (2, (ePlan false a0))], []⟩ : St)) (fun (v : Int) => I2 v36 v) (fun (v : Int) => m2 v36 v) 0 (wkL []) q77 (fun v49 hI => ?_)
  skip
  replace h := h v49 hI
  show WpS _ _ _ ⟨(mkS 126 [(2, .lptr 2 0), (3, .lptr 3 0), (34, .lst (List.map (eL eInt false) [a1.sections, a1.over, a1.near]) true false), (35, .int .i64 ([a1.sections, a1.over, a1.near].length : Int)), (36, .int .i64 v36), (47, .lst (List.map eInt (nth [a1.sections, a1.over, a1.near] v36)) false false), (48, .int .i64 ((nth [a1.sections, a1.over, a1.near] v36).length : Int)), (49, .int .i64 v49)]), [(3, (eWay false a1)), (2, (ePlan false a0))], []⟩
  refine cSeqG ⟨(mkS 126 [(2, .lptr 2 0), (3, .lptr 3 0), (34, .lst (List.map (eL eInt false) [a1.sections, a1.over, a1.near]) true false), (35, .int .i64 ([a1.sections, a1.over, a1.near].length : Int)), (36, .int .i64 v36), (47, .lst (List.map eInt (nth [a1.sections, a1.over, a1.near] v36)) false false), (48, .int .i64 ((nth [a1.sections, a1.over, a1.near] v36).length : Int)), (49, .int .i64 v49), (50, .bool (decide (v49 < ((nth [a1.sections, a1.over, a1.near] v36).length : Int))))]), [(3, (eWay false a1)), (2, (ePlan false a0))], []⟩ (True) ?_ (fun q64 => ?_)
  · skip
    refine rgS [] 9 ?_
    refine sEnd [(50, .bool (decide (v49 < ((nth [a1.sections, a1.over, a1.near] v36).length : Int))))] ?_
    refine QJoin.normal trivial ?_
    exact wkJ (by kernel_rfl)
  obtain ⟨q76, h⟩ := h
  refine cSeqG ⟨(mkS 126 [(2, .lptr 2 0), (3, .lptr 3 0), (34, .lst (List.map (eL eInt false) [a1.sections, a1.over, a1.near]) true false), (35, .int .i64 ([a1.sections, a1.over, a1.near].length : Int)), (36, .int .i64 v36), (47, .lst (List.map eInt (nth [a1.sections, a1.over, a1.near] v36)) false false), (48, .int .i64 ((nth [a1.sections, a1.over, a1.near] v36).length : Int)), (49, .int .i64 v49)]), [(3, (eWay false a1)), (2, (ePlan false a0))], []⟩ ((decide (v49 < ((nth [a1.sections, a1.over, a1.near] v36).length : Int))) = true) ?_ (fun q65 => ?_)
  · replace h := q76
    refine cCond (.tmp 50) (decide (v49 < ((nth [a1.sections, a1.over, a1.near] v36).length : Int))) (fun q66 => ?_) (fun q66 => ?_)
    · skip
      refine cSkip ?_
      refine QJoin.normal (by simp only [q2.2, q14, q56.2, q66, Bool.true_or, Bool.false_or, Bool.true_and, Bool.false_and, Bool.not_true, Bool.not_false, Bool.and_true, Bool.and_false, Bool.or_true, Bool.or_false, cond_true, cond_false]) ?_
      exact wkJ (by kernel_rfl)
    · replace h := h q66
      refine cExit 2 ?_
      refine QJoin.exit ?_
      refine QRound.exit ?_
      refine QBlock.here ?_
      refine QBlock.normal ?_
      refine QSeq.normal ?_
      refine rgS [] 14 ?_
      refine sEnd [(36, .int .i64 (IntKind.i64.wrap (v36 + 1))), (62, .int .i64 (IntKind.i64.wrap (v36 + 1)))] ?_
      exact QRound.again (IntKind.i64.wrap (v36 + 1)) h (wkL [])
  replace h := h q65
  unfold impl_wayOk_C5 at h
  obtain ⟨q75, h⟩ := h
  refine cSeqG ⟨(mkS 126 [(2, .lptr 2 0), (3, .lptr 3 0), (34, .lst (List.map (eL eInt false) [a1.sections, a1.over, a1.near]) true false), (35, .int .i64 ([a1.sections, a1.over, a1.near].length : Int)), (36, .int .i64 v36), (47, .lst (List.map eInt (nth [a1.sections, a1.over, a1.near] v36)) false false), (48, .int .i64 ((nth [a1.sections, a1.over, a1.near] v36).length : Int)), (49, .int .i64 v49)]), [(3, (eWay false a1)), (2, (ePlan false a0))], []⟩ ((!((decide ((nth (nth [a1.sections, a1.over, a1.near] v36) v49) < 0)) || (decide ((nth (nth [a1.sections, a1.over, a1.near] v36) v49) ≥ a0.sections)))) = true) ?_ (fun q67 => ?_)
  · replace h := q75
    refine cBlock 3 ?_
    obtain ⟨q74, h⟩ := h
    refine cSeqG ⟨(mkS 126 [(2, .lptr 2 0), (3, .lptr 3 0), (8, .int .i64 (nth (nth [a1.sections, a1.over, a1.near] v36) v49)), (34, .lst (List.map (eL eInt false) [a1.sections, a1.over, a1.near]) true false), (35, .int .i64 ([a1.sections, a1.over, a1.near].length : Int)), (36, .int .i64 v36), (47, .lst (List.map eInt (nth [a1.sections, a1.over, a1.near] v36)) false false), (48, .int .i64 ((nth [a1.sections, a1.over, a1.near] v36).length : Int)), (49, .int .i64 v49)]), [(3, (eWay false a1)), (2, (ePlan false a0))], []⟩ (True) ?_ (fun q68 => ?_)
    · replace h := q74
      refine rgS [] 10 ?_
      have q69 := h
      refine sIdx 1 (some 51) [] eInt (nth [a1.sections, a1.over, a1.near] v36) 1 q69 ?_
      refine sEnd [(8, .int .i64 (nth (nth [a1.sections, a1.over, a1.near] v36) v49)), (52, .int .i64 (nth (nth [a1.sections, a1.over, a1.near] v36) v49))] ?_
      refine QJoin.normal trivial ?_
      exact wkJ (by kernel_rfl)
    refine cSeqG ⟨(mkS 126 [(2, .lptr 2 0), (3, .lptr 3 0), (34, .lst (List.map (eL eInt false) [a1.sections, a1.over, a1.near]) true false), (35, .int .i64 ([a1.sections, a1.over, a1.near].length : Int)), (36, .int .i64 v36), (47, .lst (List.map eInt (nth [a1.sections, a1.over, a1.near] v36)) false false), (48, .int .i64 ((nth [a1.sections, a1.over, a1.near] v36).length : Int)), (49, .int .i64 v49), (60, .bool ((decide ((nth (nth [a1.sections, a1.over, a1.near] v36) v49) < 0)) || (decide ((nth (nth [a1.sections, a1.over, a1.near] v36) v49) ≥ a0.sections))))]), [(3, (eWay false a1)), (2, (ePlan false a0))], []⟩ (True) ?_ (fun q70 => ?_)
    · skip
      refine rgS [] 11 ?_
      refine sCase 3 [(55, .bool (decide ((nth (nth [a1.sections, a1.over, a1.near] v36) v49) < 0))), (54, .bool (decide ((nth (nth [a1.sections, a1.over, a1.near] v36) v49) < 0))), (53, .int .i64 (nth (nth [a1.sections, a1.over, a1.near] v36) v49))] 55 (decide ((nth (nth [a1.sections, a1.over, a1.near] v36) v49) < 0)) (fun q71 => ?_) (fun q71 => ?_)
      · skip
        refine sEnd [(60, .bool true), (59, .tup []), (58, .tup []), (57, .tup []), (56, .tup [])] ?_
        refine QJoin.normal trivial ?_
        exact wkJ (by simp only [q2.2, q14, q56.2, q65, q71, Bool.true_or, Bool.false_or, Bool.true_and, Bool.false_and, Bool.not_true, Bool.not_false, Bool.and_true, Bool.and_false, Bool.or_true, Bool.or_false, cond_true, cond_false] <;> kernel_rfl)
      · skip
        refine sEnd [(60, .bool (decide ((nth (nth [a1.sections, a1.over, a1.near] v36) v49) ≥ a0.sections))), (59, .bool (decide ((nth (nth [a1.sections, a1.over, a1.near] v36) v49) ≥ a0.sections))), (58, .int .i64 a0.sections), (57, .lptr 2 0), (56, .int .i64 (nth (nth [a1.sections, a1.over, a1.near] v36) v49))] ?_
        refine QJoin.normal trivial ?_
        exact wkJ (by simp only [q2.2, q14, q56.2, q65, q71, Bool.true_or, Bool.false_or, Bool.true_and, Bool.false_and, Bool.not_true, Bool.not_false, Bool.and_true, Bool.and_false, Bool.or_true, Bool.or_false, cond_true, cond_false] <;> kernel_rfl)
    refine cCond (.tmp 60) ((decide ((nth (nth [a1.sections, a1.over, a1.near] v36) v49) < 0)) || (decide ((nth (nth [a1.sections, a1.over, a1.near] v36) v49) ≥ a0.sections))) (fun q72 => ?_) (fun q72 => ?_)
    · replace h := h q72
      refine cSeqG ⟨(mkS 126 [(4, .bool false)]), [(3, (eWay false a1)), (2, (ePlan false a0))], []⟩ (True) ?_ (fun q73 => ?_)
      · skip
        refine rgS [] 12 ?_
        refine sEnd [(4, .bool false)] ?_
        refine QJoin.normal trivial ?_
        exact wkJ (by kernel_rfl)
      refine cRet ?_
      refine QBlock.ret ?_
      refine QJoin.ret ?_
      refine QRound.ret ?_
      refine QBlock.ret ?_
      refine QBlock.ret ?_
      refine QSeq.ret ?_
      refine QRound.ret ?_
      refine QBlock.ret ?_
      refine QSeq.ret ?_
      refine rtS (.bool false) [.bool false] ?_
      exact (SnapR3.of1 (sr_bool (H := []) (a := false) (b := res) h))
    · skip
      refine cSkip ?_
      refine QBlock.normal ?_
      refine QJoin.normal (by simp only [q2.2, q14, q56.2, q65, q72, Bool.true_or, Bool.false_or, Bool.true_and, Bool.false_and, Bool.not_true, Bool.not_false, Bool.and_true, Bool.and_false, Bool.or_true, Bool.or_false, cond_true, cond_false]) ?_
      exact wkJ (by kernel_rfl)
  replace h := h q67
  refine rgS [] 13 ?_
  refine sEnd [(49, .int .i64 (IntKind.i64.wrap (v49 + 1))), (61, .int .i64 (IntKind.i64.wrap (v49 + 1)))] ?_
  exact QRound.again (IntKind.i64.wrap (v49 + 1)) h (wkL [])

set_option maxHeartbeats 4000000 in
theorem impl_wayOk_vc (a0 : Plan) (a1 : Way) : impl_wayOk_C a0 a1 (wayGood a0 a1) (upI ([a1.sections, a1.over, a1.near].length : Int) (fun k => !listOk (nth [a1.sections, a1.over, a1.near] k) a0.sections)) (upM ([a1.sections, a1.over, a1.near].length : Int)) (fun _ _ x v => upI (needs a1).length (needBad a0 a1) v ∧ x = ((needs a1).take v.toNat).map (·.sw)) (fun _ _ _ v => upM (needs a1).length v) (fun i => upI (nth [a1.sections, a1.over, a1.near] i).length (fun j => !inR (nth (nth [a1.sections, a1.over, a1.near] i) j) 0 (a0.sections - 1))) (fun i => upM (nth [a1.sections, a1.over, a1.near] i).length) := by
  unfold impl_wayOk_C impl_wayOk_C7
  have hlen : a1.lies.length ≤ 30 → a1.flanks.length ≤ 30 → (needs a1).length ≤ 60 := by unfold needs; rw [List.length_append]; omega
  refine ⟨fun hn h => ?_, fun ⟨hn, h⟩ hL => ?_⟩
  · symm
    rw [← Bool.not_eq_true, wayGood_iff]
    rintro ⟨h1, -, -, -, h5, h6, -⟩
    have := (liesIn_iff.1 h5).1
    have := (liesIn_iff.1 h6).1
    simp at h
    rcases h with h | h | h
    · exact h1 h
    · omega
    · omega
  · simp at h
    obtain ⟨h1, h2, h3⟩ := h
    have h2 : a1.lies.length ≤ 30 := by omega
    have h3 : a1.flanks.length ≤ 30 := by omega
    have h60 := hlen h2 h3
    refine ⟨up_start (len0 _), fun i hI => ⟨fun hi => ?_, fun hi => ⟨up_in hI hi, ?_⟩⟩⟩
    · have hall : ∀ l ∈ [a1.sections, a1.over, a1.near], listOk l a0.sections = true := fun l hl => by
        have := up_all (q := fun l => !listOk l a0.sections) (up_end hI hi) l hl
        simpa using this
      unfold impl_wayOk_C4
      refine ⟨⟨by omega, by omega⟩, fun hN => ⟨⟨up_start (len0 _), rfl⟩, fun g x v ⟨hJ, hx⟩ => ⟨fun hv => ?_, fun hv => ?_⟩⟩⟩
      · have hv' : ¬ v < ((needs a1).length : Int) := by simpa using hv
        rw [List.take_of_length_le (by have := hJ.1; omega)] at hx
        subst hx
        exact ⟨by rw [List.length_map]; omega, good_all h1 hall h2 h3 (up_end hJ hv)⟩
      · have hin := up_in hJ hv
        have hxl : x.length ≤ 60 := by rw [hx, List.length_map, List.length_take]; omega
        have bad : needBad a0 a1 v = true → false = wayGood a0 a1 := fun hb => by
          symm
          rw [← Bool.not_eq_true]
          intro hg
          rw [good_needs hg hin.1 hin.2] at hb
          cases hb
        unfold impl_wayOk_C3 impl_wayOk_C2 impl_wayOk_C1
        rw [lieBad_cond]
        refine ⟨⟨hin, fun hb => bad (by unfold needBad; rw [hb]; rfl), fun hb => ⟨⟨fun hl => ?_, fun hc => bad (by unfold needBad; rw [hc, Bool.or_true])⟩, fun _ => ?_⟩⟩, fun hb => ?_⟩
        · have hb : lieBad a0 (nth (needs a1) v) = false := not_eq hb
          rw [lieBad_eq] at hb
          simp only [Bool.not_eq_false', Bool.and_eq_true, inR_true] at hb
          exact ⟨hb.1.1, by omega⟩
        · simp only [List.length_cons, List.length_nil]; omega
        · have hb : needBad a0 a1 v = false := by
            unfold needBad
            rw [Bool.and_eq_true] at hb
            rw [not_eq hb.1, not_eq hb.2]; rfl
          have hst := up_step (lenI hN) hJ hv hb
          have hw : IntKind.i64.wrap (v + 1) = v + 1 := w64 (by omega) (by omega)
          refine ⟨⟨hst.1, ?_⟩, hst.2⟩
          rw [hw, hx, show (v + 1).toNat = v.toNat + 1 by omega, List.take_succ_eq_append_getElem hin.2, List.map_append, ← nth_eq hin.2]
          rfl
    · have hii := up_in hI hi
      have badl : listOk (nth [a1.sections, a1.over, a1.near] i) a0.sections = false → false = wayGood a0 a1 := fun hb => by
        symm
        rw [← Bool.not_eq_true]
        intro hg
        rw [good_lists hg _ (nth_mem hii.2)] at hb
        cases hb
      unfold impl_wayOk_C6 impl_wayOk_C5
      refine ⟨fun hn h => badl ?_, fun ⟨hn, h⟩ => ⟨up_start (len0 _), fun v hV => ⟨fun hv => ?_, fun hv => ?_⟩⟩⟩
      · rw [← Bool.not_eq_true, listOk_iff]
        rintro ⟨q1, -, q3⟩
        simp only [Bool.or_eq_true, decide_eq_true_eq] at h
        rcases h with h | h
        · omega
        · unfold dup at h; simp [q3] at h
      · refine up_step (by simp) hI hi ?_
        simp only [Bool.not_eq_true', Bool.or_eq_false_iff, decide_eq_false_iff_not] at h
        have hd : (nth [a1.sections, a1.over, a1.near] i).Nodup := by have := h.2; unfold dup at this; simpa using this
        have : listOk (nth [a1.sections, a1.over, a1.near] i) a0.sections = true := by
          rw [listOk_iff]
          refine ⟨by omega, fun x hx => ?_, hd⟩
          have := up_all (q := fun x => !inR x 0 (a0.sections - 1)) (up_end hV hv) x hx
          simpa using this
        rw [this]; rfl
      · rw [rng_eq]
        exact ⟨⟨up_in hV hv, fun h => badl (listOk_r (up_in hV hv).2 h)⟩, fun h => up_step (lenI hn) hV hv (not_eq h)⟩

theorem impl_wayOk_V (a0 : Plan) (a1 : Way) : FnV Try.prog 73 [.agg (ePlan false a0), .agg (eWay false a1)] (.bool (wayGood a0 a1)) := impl_wayOk_walk a0 a1 (wayGood a0 a1) (upI ([a1.sections, a1.over, a1.near].length : Int) (fun k => !listOk (nth [a1.sections, a1.over, a1.near] k) a0.sections)) (upM ([a1.sections, a1.over, a1.near].length : Int)) (fun _ _ x v => upI (needs a1).length (needBad a0 a1) v ∧ x = ((needs a1).take v.toNat).map (·.sw)) (fun _ _ _ v => upM (needs a1).length v) (fun i => upI (nth [a1.sections, a1.over, a1.near] i).length (fun j => !inR (nth (nth [a1.sections, a1.over, a1.near] i) j) 0 (a0.sections - 1))) (fun i => upM (nth [a1.sections, a1.over, a1.near] i).length) (impl_wayOk_vc a0 a1)

noncomputable def impl_PlanOk_b : Code := bodyC Try.f26
def impl_PlanOk_o29 : List Item := [⟨0, true, true, []⟩, ⟨1, true, true, []⟩, ⟨2, true, true, []⟩, ⟨3, true, true, []⟩, ⟨4, true, true, []⟩, ⟨5, true, true, []⟩, ⟨6, true, true, []⟩, ⟨7, true, true, []⟩, ⟨8, true, true, []⟩, ⟨9, true, true, []⟩, ⟨10, true, true, []⟩, ⟨11, true, true, []⟩, ⟨12, true, true, []⟩, ⟨13, true, true, []⟩, ⟨14, true, true, []⟩, ⟨15, true, true, []⟩, ⟨16, true, true, []⟩, ⟨17, true, true, []⟩, ⟨18, true, true, []⟩, ⟨19, true, true, []⟩, ⟨20, true, true, []⟩, ⟨21, true, true, []⟩, ⟨22, true, true, []⟩, ⟨23, true, true, []⟩, ⟨24, true, true, []⟩, ⟨25, true, true, []⟩, ⟨26, true, true, []⟩, ⟨27, true, true, []⟩, ⟨28, true, true, []⟩, ⟨29, true, true, []⟩, ⟨30, true, true, []⟩, ⟨31, true, true, []⟩, ⟨32, true, true, []⟩, ⟨33, true, true, []⟩, ⟨34, true, true, []⟩, ⟨35, true, true, []⟩, ⟨36, true, true, []⟩, ⟨37, true, true, []⟩, ⟨38, true, true, []⟩, ⟨39, true, true, []⟩, ⟨40, true, true, []⟩, ⟨41, true, true, []⟩, ⟨42, true, true, []⟩, ⟨43, true, true, []⟩, ⟨44, true, true, []⟩, ⟨45, true, true, []⟩, ⟨46, true, true, []⟩, ⟨47, true, true, []⟩]
def impl_PlanOk_o29a : List (List Nat) := [[], [0], [], [0, 1, 2], [0, 1, 2, 3], [], [0, 1, 2, 3, 4, 5], [0, 1, 2, 3, 4, 5, 6], [], [8], [], [8, 9, 10], [8, 9, 10, 11], [], [8, 9, 10, 11, 12, 13], [8, 9, 10, 11, 12, 13, 14], [0, 1, 2, 3, 4, 5, 6, 7, 8, 9, 10, 11, 12, 13, 14, 15], [0, 1, 2, 3, 4, 5, 6, 7, 8, 9, 10, 11, 12, 13, 14, 15, 16], [0, 1, 2, 3, 4, 5, 6, 7, 8, 9, 10, 11, 12, 13, 14, 15, 16, 17], [0, 1, 2, 3, 4, 5, 6, 7, 8, 9, 10, 11, 12, 13, 14, 15, 16, 17], [0, 1, 2, 3, 4, 5, 6, 7, 8, 9, 10, 11, 12, 13, 14, 15, 16, 17, 18, 19], [0, 1, 2, 3, 4, 5, 6, 7, 8, 9, 10, 11, 12, 13, 14, 15, 16, 17, 18, 19, 20], [0, 1, 2, 3, 4, 5, 6, 7, 8, 9, 10, 11, 12, 13, 14, 15, 16, 17, 18, 19, 20, 21], [0, 1, 2, 3, 4, 5, 6, 7, 8, 9, 10, 11, 12, 13, 14, 15, 16, 17, 18, 19, 20, 21, 22], [0, 1, 2, 3, 4, 5, 6, 7, 8, 9, 10, 11, 12, 13, 14, 15, 16, 17, 18, 19, 20, 21], [0, 1, 2, 3, 4, 5, 6, 7, 8, 9, 10, 11, 12, 13, 14, 15, 16, 17, 18, 19, 20, 21, 22, 23, 24], [0, 1, 2, 3, 4, 5, 6, 7, 8, 9, 10, 11, 12, 13, 14, 15, 16, 17, 18, 19, 20, 21, 22, 23, 24, 25], [0, 1, 2, 3, 4, 5, 6, 7, 8, 9, 10, 11, 12, 13, 14, 15, 16, 17, 18, 19, 20, 21], [0, 1, 2, 3, 4, 5, 6, 7, 8, 9, 10, 11, 12, 13, 14, 15, 16, 17, 18, 19, 20, 21, 22, 23, 24, 25, 26, 27], [0, 1, 2, 3, 4, 5, 6, 7, 8, 9, 10, 11, 12, 13, 14, 15, 16, 17, 18, 19, 20, 21, 22, 23, 24, 25, 26, 27, 28], [0, 1, 2, 3, 4, 5, 6, 7, 8, 9, 10, 11, 12, 13, 14, 15, 16, 17, 18, 19, 20, 21, 22, 23, 24, 25, 26, 27, 28, 29], [0, 1, 2, 3, 4, 5, 6, 7, 8, 9, 10, 11, 12, 13, 14, 15, 16, 17, 18, 19, 20, 21, 22, 23, 24, 25, 26, 27, 28, 29, 30], [0, 1, 2, 3, 4, 5, 6, 7, 8, 9, 10, 11, 12, 13, 14, 15, 16, 17, 18, 19, 20, 21, 22, 23, 24, 25, 26, 27, 28, 29, 30, 31], [0, 1, 2, 3, 4, 5, 6, 7, 8, 9, 10, 11, 12, 13, 14, 15, 16, 17, 18, 19, 20, 21, 22, 23, 24, 25, 26, 27, 28, 29, 30, 31, 32], [0, 1, 2, 3, 4, 5, 6, 7, 8, 9, 10, 11, 12, 13, 14, 15, 16, 17, 18, 19, 20, 21, 22, 23, 24, 25, 26, 27, 28, 29, 30, 31, 32, 33], [0, 1, 2, 3, 4, 5, 6, 7, 8, 9, 10, 11, 12, 13, 14, 15, 16, 17, 18, 19, 20, 21, 22, 23, 24, 25, 26, 27, 28, 29, 30, 31, 32], [0, 1, 2, 3, 4, 5, 6, 7, 8, 9, 10, 11, 12, 13, 14, 15, 16, 17, 18, 19, 20, 21, 22, 23, 24, 25, 26, 27, 28, 29, 30, 31, 32, 33, 34, 35], [0, 1, 2, 3, 4, 5, 6, 7, 8, 9, 10, 11, 12, 13, 14, 15, 16, 17, 18, 19, 20, 21, 22, 23, 24, 25, 26, 27, 28, 29, 30, 31, 32, 33, 34, 35, 36], [0, 1, 2, 3, 4, 5, 6, 7, 8, 9, 10, 11, 12, 13, 14, 15, 16, 17, 18, 19, 20, 21, 22, 23, 24, 25, 26, 27, 28, 29, 30, 31, 32, 33, 34, 35, 36, 37], [0, 1, 2, 3, 4, 5, 6, 7, 8, 9, 10, 11, 12, 13, 14, 15, 16, 17, 18, 19, 20, 21, 22, 23, 24, 25, 26, 27, 28, 29, 30, 31, 32], [0, 1, 2, 3, 4, 5, 6, 7, 8, 9, 10, 11, 12, 13, 14, 15, 16, 17, 18, 19, 20, 21, 22, 23, 24, 25, 26, 27, 28, 29, 30, 31, 32, 39], [0, 1, 2, 3, 4, 5, 6, 7, 8, 9, 10, 11, 12, 13, 14, 15, 16, 17, 18, 19, 20, 21, 22, 23, 24, 25, 26, 27, 28, 29, 30, 31, 32], [0, 1, 2, 3, 4, 5, 6, 7, 8, 9, 10, 11, 12, 13, 14, 15, 16, 17, 18, 19, 20, 21, 22, 23, 24, 25, 26, 27, 28, 29, 30, 31, 32, 39, 40, 41], [0, 1, 2, 3, 4, 5, 6, 7, 8, 9, 10, 11, 12, 13, 14, 15, 16, 17, 18, 19, 20, 21, 22, 23, 24, 25, 26, 27, 28, 29, 30, 31, 32, 39, 40, 41, 42], [0, 1, 2, 3, 4, 5, 6, 7, 8, 9, 10, 11, 12, 13, 14, 15, 16, 17, 18, 19, 20, 21, 22, 23, 24, 25, 26, 27, 28, 29, 30, 31, 32, 39, 40, 41, 42, 43], [0, 1, 2, 3, 4, 5, 6, 7, 8, 9, 10, 11, 12, 13, 14, 15, 16, 17, 18, 19, 20, 21, 22, 23, 24, 25, 26, 27, 28, 29, 30, 31, 32, 33, 34, 35, 36, 37, 38, 39, 40, 41, 42, 43, 44], [0, 1, 2, 3, 4, 5, 6, 7, 8, 9, 10, 11, 12, 13, 14, 15, 16, 17, 18, 19, 20, 21, 22, 23, 24, 25, 26, 27, 28, 29, 30, 31, 32, 33, 34, 35, 36, 37, 38, 39, 40, 41, 42, 43, 44, 45], [0, 1, 2, 3, 4, 5, 6, 7, 8, 9, 10, 11, 12, 13, 14, 15, 16, 17, 18, 19, 20, 21, 22, 23, 24, 25, 26, 27, 28, 29, 30, 31, 32, 33, 34, 35, 36, 37, 38, 39, 40, 41, 42, 43, 44, 45, 46]]
def impl_PlanOk_C1 (a0 : Plan) (res : Fault) (v110 : Int) (v104 : Int) : Prop :=
  ((0 ≤ v104 ∧ v104.toNat < a0.bars.length) ∧ ((0 ≤ v110 ∧ v110.toNat < (nth a0.bars v104).length) ∧ ((0 ≤ v110 ∧ v110.toNat < a0.bars.length) ∧ ((0 ≤ v104 ∧ v104.toNat < (nth a0.bars v110).length) ∧ (((nth (nth a0.bars v104) v110) != (nth (nth a0.bars v110) v104)) = false → (v104 != v110) = true → (0 ≤ v104 ∧ v104.toNat < a0.bars.length) ∧ ((0 ≤ v110 ∧ v110.toNat < (nth a0.bars v104).length) ∧ ((!(nth (nth a0.bars v104) v110)) = true → (0 ≤ v104 ∧ v104.toNat < a0.ways.length) ∧ (0 ≤ v110 ∧ v110.toNat < a0.ways.length)))))))) ∧ ((((nth (nth a0.bars v104) v110) != (nth (nth a0.bars v110) v104)) || ((v104 != v110) && ((!(nth (nth a0.bars v104) v110)) && (meets ((nth a0.ways v104).sections) ((nth a0.ways v110).sections))))) = true → (5 = res.code) ∧ (v104 = res.pos))
def impl_PlanOk_C2 (I3 : Int → Int → Int → Int → Prop) (m3 : Int → Int → Int → Int → Nat) (I4 : Int → Int → Int → Int → Int → Prop) (m4 : Int → Int → Int → Int → Int → Nat) (a0 : Plan) (res : Fault) (v45 : Int) (v64 : Int) (v87 : Int) (v110 : Int) (v104 : Int) : Prop :=
  ((decide (v110 < (a0.ways.length : Int))) = false → I3 v45 v64 v87 (IntKind.i64.wrap (v104 + 1)) ∧ m3 v45 v64 v87 (IntKind.i64.wrap (v104 + 1)) < m3 v45 v64 v87 v104) ∧ ((decide (v110 < (a0.ways.length : Int))) = true → (impl_PlanOk_C1 a0 res v110 v104) ∧ ((!(((nth (nth a0.bars v104) v110) != (nth (nth a0.bars v110) v104)) || ((v104 != v110) && ((!(nth (nth a0.bars v104) v110)) && (meets ((nth a0.ways v104).sections) ((nth a0.ways v110).sections)))))) = true → I4 v45 v64 v87 v104 (IntKind.i64.wrap (v110 + 1)) ∧ m4 v45 v64 v87 v104 (IntKind.i64.wrap (v110 + 1)) < m4 v45 v64 v87 v104 v110))
def impl_PlanOk_C3 (I2 : Int → Int → Int → Prop) (m2 : Int → Int → Int → Nat) (a0 : Plan) (res : Fault) (v45 : Int) (v64 : Int) (v87 : Int) : Prop :=
  ((0 ≤ v87 ∧ v87.toNat < a0.bars.length) ∧ ((nth a0.bars v87).length ≤ 4611686018427387904 → (((nth a0.bars v87).length : Int) != (a0.ways.length : Int)) = true → (4 = res.code) ∧ (v87 = res.pos))) ∧ (((nth a0.bars v87).length ≤ 4611686018427387904) ∧ ((!(((nth a0.bars v87).length : Int) != (a0.ways.length : Int))) = true) → I2 v45 v64 (IntKind.i64.wrap (v87 + 1)) ∧ m2 v45 v64 (IntKind.i64.wrap (v87 + 1)) < m2 v45 v64 v87)
def impl_PlanOk_C4 (I2 : Int → Int → Int → Prop) (m2 : Int → Int → Int → Nat) (I3 : Int → Int → Int → Int → Prop) (m3 : Int → Int → Int → Int → Nat) (I4 : Int → Int → Int → Int → Int → Prop) (m4 : Int → Int → Int → Int → Int → Nat) (a0 : Plan) (res : Fault) (v45 : Int) (v64 : Int) (v87 : Int) : Prop :=
  ((decide (v87 < (a0.bars.length : Int))) = false → I3 v45 v64 v87 0 ∧ ∀ (v104 : Int), I3 v45 v64 v87 v104 → (((decide (v104 < (a0.ways.length : Int))) = false → (0 = res.code) ∧ (0 = res.pos)) ∧ ((decide (v104 < (a0.ways.length : Int))) = true → I4 v45 v64 v87 v104 0 ∧ ∀ (v110 : Int), I4 v45 v64 v87 v104 v110 → (impl_PlanOk_C2 I3 m3 I4 m4 a0 res v45 v64 v87 v110 v104)))) ∧ ((decide (v87 < (a0.bars.length : Int))) = true → impl_PlanOk_C3 I2 m2 a0 res v45 v64 v87)
def impl_PlanOk_C5 (I1 : Int → Int → Prop) (m1 : Int → Int → Nat) (I2 : Int → Int → Int → Prop) (m2 : Int → Int → Int → Nat) (I3 : Int → Int → Int → Int → Prop) (m3 : Int → Int → Int → Int → Nat) (I4 : Int → Int → Int → Int → Int → Prop) (m4 : Int → Int → Int → Int → Int → Nat) (a0 : Plan) (res : Fault) (v45 : Int) (v64 : Int) : Prop :=
  ((decide (v64 < (a0.ways.length : Int))) = false → (a0.bars.length ≤ 4611686018427387904 → ((a0.bars.length : Int) != (a0.ways.length : Int)) = true → (4 = res.code) ∧ (0 = res.pos)) ∧ ((a0.bars.length ≤ 4611686018427387904) ∧ ((!((a0.bars.length : Int) != (a0.ways.length : Int))) = true) → I2 v45 v64 0 ∧ ∀ (v87 : Int), I2 v45 v64 v87 → (impl_PlanOk_C4 I2 m2 I3 m3 I4 m4 a0 res v45 v64 v87))) ∧ ((decide (v64 < (a0.ways.length : Int))) = true → ((0 ≤ v64 ∧ v64.toNat < a0.ways.length) ∧ ((!(wayGood a0 (nth a0.ways v64))) = true → (3 = res.code) ∧ (v64 = res.pos))) ∧ ((!(!(wayGood a0 (nth a0.ways v64)))) = true → I1 v45 (IntKind.i64.wrap (v64 + 1)) ∧ m1 v45 (IntKind.i64.wrap (v64 + 1)) < m1 v45 v64))
def impl_PlanOk_C6 (I0 : Int → Prop) (m0 : Int → Nat) (I1 : Int → Int → Prop) (m1 : Int → Int → Nat) (I2 : Int → Int → Int → Prop) (m2 : Int → Int → Int → Nat) (I3 : Int → Int → Int → Int → Prop) (m3 : Int → Int → Int → Int → Nat) (I4 : Int → Int → Int → Int → Int → Prop) (m4 : Int → Int → Int → Int → Int → Nat) (a0 : Plan) (res : Fault) (v45 : Int) : Prop :=
  ((decide (v45 < (a0.switches.length : Int))) = false → a0.ways.length ≤ 4611686018427387904 → I1 v45 0 ∧ ∀ (v64 : Int), I1 v45 v64 → (impl_PlanOk_C5 I1 m1 I2 m2 I3 m3 I4 m4 a0 res v45 v64)) ∧ ((decide (v45 < (a0.switches.length : Int))) = true → ((0 ≤ v45 ∧ v45.toNat < a0.switches.length) ∧ (((decide ((nth a0.switches v45) < 0)) || (decide ((nth a0.switches v45) ≥ a0.sections))) = true → (2 = res.code) ∧ (v45 = res.pos))) ∧ ((!((decide ((nth a0.switches v45) < 0)) || (decide ((nth a0.switches v45) ≥ a0.sections)))) = true → I0 (IntKind.i64.wrap (v45 + 1)) ∧ m0 (IntKind.i64.wrap (v45 + 1)) < m0 v45))
def impl_PlanOk_C7 (I0 : Int → Prop) (m0 : Int → Nat) (I1 : Int → Int → Prop) (m1 : Int → Int → Nat) (I2 : Int → Int → Int → Prop) (m2 : Int → Int → Int → Nat) (I3 : Int → Int → Int → Int → Prop) (m3 : Int → Int → Int → Int → Nat) (I4 : Int → Int → Int → Int → Int → Prop) (m4 : Int → Int → Int → Int → Int → Nat) (a0 : Plan) (res : Fault) : Prop :=
  (((decide (a0.sections < 1)) || ((decide (a0.sections > 60)) || ((decide (a0.hold < 1)) || ((decide (a0.hold > 300)) || ((decide ((a0.switches.length : Int) > 40)) || (decide ((a0.ways.length : Int) > 100))))))) = true → (1 = res.code) ∧ (0 = res.pos)) ∧ ((!((decide (a0.sections < 1)) || ((decide (a0.sections > 60)) || ((decide (a0.hold < 1)) || ((decide (a0.hold > 300)) || ((decide ((a0.switches.length : Int) > 40)) || (decide ((a0.ways.length : Int) > 100)))))))) = true → a0.switches.length ≤ 4611686018427387904 → I0 0 ∧ ∀ (v45 : Int), I0 v45 → (impl_PlanOk_C6 I0 m0 I1 m1 I2 m2 I3 m3 I4 m4 a0 res v45))
def impl_PlanOk_C (a0 : Plan) (res : Fault) (I0 : Int → Prop) (m0 : Int → Nat) (I1 : Int → Int → Prop) (m1 : Int → Int → Nat) (I2 : Int → Int → Int → Prop) (m2 : Int → Int → Int → Nat) (I3 : Int → Int → Int → Int → Prop) (m3 : Int → Int → Int → Int → Nat) (I4 : Int → Int → Int → Int → Int → Prop) (m4 : Int → Int → Int → Int → Int → Nat) : Prop :=
  impl_PlanOk_C7 I0 m0 I1 m1 I2 m2 I3 m3 I4 m4 a0 res
set_option maxHeartbeats 4000000 in
theorem impl_PlanOk_walk (a0 : Plan) (res : Fault) (I0 : Int → Prop) (m0 : Int → Nat) (I1 : Int → Int → Prop) (m1 : Int → Int → Nat) (I2 : Int → Int → Int → Prop) (m2 : Int → Int → Int → Nat) (I3 : Int → Int → Int → Int → Prop) (m3 : Int → Int → Int → Int → Nat) (I4 : Int → Int → Int → Int → Int → Prop) (m4 : Int → Int → Int → Int → Int → Nat) (h : impl_PlanOk_C a0 res I0 m0 I1 m1 I2 m2 I3 m3 I4 m4) : FnV Try.prog 26 [.agg (ePlan false a0)] (.agg (eFault res)) := by
  unfold impl_PlanOk_C at h
  refine FnS.of_body (fn := Try.f26) (c := impl_PlanOk_b) Try.func26 (by kernel_rfl) (by kernel_rfl) ?_
  refine WpS.codeIs (c' := (nv impl_PlanOk_b 1)) (by kernel_rfl) ?_
  refine WpS.start (st' := ⟨(mkS 166 [(0, .agg (ePlan false a0))]), [], []⟩) (by kernel_rfl) ?_
  refine cSeqG ⟨(mkS 166 [(1, .lptr 1 0), (2, .lptr 2 0)]), [(2, [.int .i64 0, .int .i64 0]), (1, (ePlan false a0))], []⟩ (True) ?_ (fun q1 => ?_)
  · skip
    refine rgS [] 0 ?_
    refine sEnd' [(2, .lptr 2 0), (1, .lptr 1 0)] [(2, [.int .i64 0, .int .i64 0]), (1, (ePlan false a0))] [] ?_
    refine QJoin.normal trivial ?_
    exact wkJ (by kernel_rfl)
  unfold impl_PlanOk_C7 at h
  obtain ⟨q102, h⟩ := h
  refine cSeqG ⟨(mkS 166 [(1, .lptr 1 0), (2, .lptr 2 0)]), [(2, [.int .i64 0, .int .i64 0]), (1, (ePlan false a0))], []⟩ ((!((decide (a0.sections < 1)) || ((decide (a0.sections > 60)) || ((decide (a0.hold < 1)) || ((decide (a0.hold > 300)) || ((decide ((a0.switches.length : Int) > 40)) || (decide ((a0.ways.length : Int) > 100)))))))) = true) ?_ (fun q2 => ?_)
  · replace h := q102
    refine cSeqG ⟨(mkS 166 [(1, .lptr 1 0), (2, .lptr 2 0), (40, .bool ((decide (a0.sections < 1)) || ((decide (a0.sections > 60)) || ((decide (a0.hold < 1)) || ((decide (a0.hold > 300)) || ((decide ((a0.switches.length : Int) > 40)) || (decide ((a0.ways.length : Int) > 100))))))))]), [(2, [.int .i64 0, .int .i64 0]), (1, (ePlan false a0))], []⟩ (True) ?_ (fun q3 => ?_)
    · skip
      refine rgS [] 1 ?_
      refine sCase 4 [(14, .bool (decide (a0.sections < 1))), (13, .bool (decide (a0.sections < 1))), (12, .int .i64 a0.sections), (11, .lptr 1 0)] 14 (decide (a0.sections < 1)) (fun q4 => ?_) (fun q4 => ?_)
      · skip
        refine sEnd [(40, .bool true), (39, .tup []), (38, .tup []), (37, .tup []), (36, .tup []), (35, .bool true), (34, .bool true), (33, .tup []), (32, .tup []), (31, .tup []), (30, .tup []), (29, .bool true), (28, .bool true), (27, .tup []), (26, .tup []), (25, .tup []), (24, .bool true), (23, .bool true), (22, .tup []), (21, .tup []), (20, .tup []), (19, .bool true), (18, .bool true), (17, .tup []), (16, .tup []), (15, .tup [])] ?_
        refine QJoin.normal trivial ?_
        exact wkJ (by simp only [q4, Bool.true_or, Bool.false_or, Bool.true_and, Bool.false_and, Bool.not_true, Bool.not_false, Bool.and_true, Bool.and_false, Bool.or_true, Bool.or_false, cond_true, cond_false] <;> kernel_rfl)
      · skip
        refine sCase 5 [(19, .bool (decide (a0.sections > 60))), (18, .bool (decide (a0.sections > 60))), (17, .bool (decide (a0.sections > 60))), (16, .int .i64 a0.sections), (15, .lptr 1 0)] 19 (decide (a0.sections > 60)) (fun q5 => ?_) (fun q5 => ?_)
        · skip
          refine sEnd [(40, .bool true), (39, .tup []), (38, .tup []), (37, .tup []), (36, .tup []), (35, .bool true), (34, .bool true), (33, .tup []), (32, .tup []), (31, .tup []), (30, .tup []), (29, .bool true), (28, .bool true), (27, .tup []), (26, .tup []), (25, .tup []), (24, .bool true), (23, .bool true), (22, .tup []), (21, .tup []), (20, .tup [])] ?_
          refine QJoin.normal trivial ?_
          exact wkJ (by simp only [q4, q5, Bool.true_or, Bool.false_or, Bool.true_and, Bool.false_and, Bool.not_true, Bool.not_false, Bool.and_true, Bool.and_false, Bool.or_true, Bool.or_false, cond_true, cond_false] <;> kernel_rfl)
        · skip
          refine sCase 5 [(24, .bool (decide (a0.hold < 1))), (23, .bool (decide (a0.hold < 1))), (22, .bool (decide (a0.hold < 1))), (21, .int .i64 a0.hold), (20, .lptr 1 4)] 24 (decide (a0.hold < 1)) (fun q6 => ?_) (fun q6 => ?_)
          · skip
            refine sEnd [(40, .bool true), (39, .tup []), (38, .tup []), (37, .tup []), (36, .tup []), (35, .bool true), (34, .bool true), (33, .tup []), (32, .tup []), (31, .tup []), (30, .tup []), (29, .bool true), (28, .bool true), (27, .tup []), (26, .tup []), (25, .tup [])] ?_
            refine QJoin.normal trivial ?_
            exact wkJ (by simp only [q4, q5, q6, Bool.true_or, Bool.false_or, Bool.true_and, Bool.false_and, Bool.not_true, Bool.not_false, Bool.and_true, Bool.and_false, Bool.or_true, Bool.or_false, cond_true, cond_false] <;> kernel_rfl)
          · skip
            refine sCase 5 [(29, .bool (decide (a0.hold > 300))), (28, .bool (decide (a0.hold > 300))), (27, .bool (decide (a0.hold > 300))), (26, .int .i64 a0.hold), (25, .lptr 1 4)] 29 (decide (a0.hold > 300)) (fun q7 => ?_) (fun q7 => ?_)
            · skip
              refine sEnd [(40, .bool true), (39, .tup []), (38, .tup []), (37, .tup []), (36, .tup []), (35, .bool true), (34, .bool true), (33, .tup []), (32, .tup []), (31, .tup []), (30, .tup [])] ?_
              refine QJoin.normal trivial ?_
              exact wkJ (by simp only [q4, q5, q6, q7, Bool.true_or, Bool.false_or, Bool.true_and, Bool.false_and, Bool.not_true, Bool.not_false, Bool.and_true, Bool.and_false, Bool.or_true, Bool.or_false, cond_true, cond_false] <;> kernel_rfl)
            · skip
              refine sLen 3 (some 32) [(31, .lst (List.map eInt a0.switches) false false), (30, .lptr 1 1)] eInt a0.switches (fun q8 => ?_)
              refine sCase 3 [(35, .bool (decide ((a0.switches.length : Int) > 40))), (34, .bool (decide ((a0.switches.length : Int) > 40))), (33, .bool (decide ((a0.switches.length : Int) > 40)))] 35 (decide ((a0.switches.length : Int) > 40)) (fun q9 => ?_) (fun q9 => ?_)
              · skip
                refine sEnd [(40, .bool true), (39, .tup []), (38, .tup []), (37, .tup []), (36, .tup [])] ?_
                refine QJoin.normal trivial ?_
                exact wkJ (by simp only [q4, q5, q6, q7, q9, Bool.true_or, Bool.false_or, Bool.true_and, Bool.false_and, Bool.not_true, Bool.not_false, Bool.and_true, Bool.and_false, Bool.or_true, Bool.or_false, cond_true, cond_false] <;> kernel_rfl)
              · skip
                refine sLen 3 (some 38) [(37, .lst (List.map (eWay false) a0.ways) false false), (36, .lptr 1 2)] (eWay false) a0.ways (fun q10 => ?_)
                refine sEnd [(40, .bool (decide ((a0.ways.length : Int) > 100))), (39, .bool (decide ((a0.ways.length : Int) > 100)))] ?_
                refine QJoin.normal trivial ?_
                exact wkJ (by simp only [q4, q5, q6, q7, q9, Bool.true_or, Bool.false_or, Bool.true_and, Bool.false_and, Bool.not_true, Bool.not_false, Bool.and_true, Bool.and_false, Bool.or_true, Bool.or_false, cond_true, cond_false] <;> kernel_rfl)
    refine cCond (.tmp 40) ((decide (a0.sections < 1)) || ((decide (a0.sections > 60)) || ((decide (a0.hold < 1)) || ((decide (a0.hold > 300)) || ((decide ((a0.switches.length : Int) > 40)) || (decide ((a0.ways.length : Int) > 100))))))) (fun q11 => ?_) (fun q11 => ?_)
    · replace h := h q11
      refine cSeqG ⟨(mkS 166 [(2, .lptr 2 0)]), [(2, [.int .i64 1, .int .i64 0]), (1, (ePlan false a0))], []⟩ (True) ?_ (fun q12 => ?_)
      · skip
        refine rgS [] 2 ?_
        refine sEnd' [(41, .agg [.int .i64 1, .int .i64 0])] [(2, [.int .i64 1, .int .i64 0]), (1, (ePlan false a0))] [] ?_
        refine QJoin.normal trivial ?_
        exact wkJ (by kernel_rfl)
      refine cRet ?_
      refine QJoin.ret ?_
      refine rtS (.agg [.int .i64 1, .int .i64 0]) [.agg [.int .i64 1, .int .i64 0]] ?_
      exact (SnapR3.agg (PW.cons (sr_int (H := []) (a := 1) (b := res.code) h.1) (PW.cons (sr_int (H := []) (a := 0) (b := res.pos) h.2) PW.nil)))
    · skip
      refine cSkip ?_
      refine QJoin.normal (by simp only [q11, Bool.true_or, Bool.false_or, Bool.true_and, Bool.false_and, Bool.not_true, Bool.not_false, Bool.and_true, Bool.and_false, Bool.or_true, Bool.or_false, cond_true, cond_false]) ?_
      exact wkJ (by kernel_rfl)
  replace h := h q2
  refine cSeq ?_
  refine cSeqG ⟨(mkS 166 [(1, .lptr 1 0), (2, .lptr 2 0), (43, .lst (List.map eInt a0.switches) false false), (44, .int .i64 (a0.switches.length : Int)), (45, .int .i64 0)]), [(2, [.int .i64 0, .int .i64 0]), (1, (ePlan false a0))], []⟩ (a0.switches.length ≤ 4611686018427387904) ?_ (fun q13 => ?_)
  · skip
    refine rgS [] 3 ?_
    refine sLen 3 (some 44) [(43, .lst (List.map eInt a0.switches) false false), (42, .lptr 1 1)] eInt a0.switches (fun q14 => ?_)
    refine sEnd [(45, .int .i64 0)] ?_
    refine QJoin.normal q14 ?_
    exact wkJ (by kernel_rfl)
  replace h := h q13
  refine cBlock 0 ?_
  obtain ⟨q101, h⟩ := h
  refine cLoop (fun (v : Int) => (⟨(mkS 166 [(1, .lptr 1 0), (2, .lptr 2 0), (43, .lst (List.map eInt a0.switches) false false), (44, .int .i64 (a0.switches.length : Int)), (45, .int .i64 v)]), [(2, [.int .i64 0, .int .i64 0]), (1, (ePlan false a0))], []⟩ : St)) (fun (v : Int) => I0 v) (fun (v : Int) => m0 v) 0 (wkL []) q101 (fun v45 hI => ?_)
  skip
  replace h := h v45 hI
  show WpS _ _ _ ⟨(mkS 166 [(1, .lptr 1 0), (2, .lptr 2 0), (43, .lst (List.map eInt a0.switches) false false), (44, .int .i64 (a0.switches.length : Int)), (45, .int .i64 v45)]), [(2, [.int .i64 0, .int .i64 0]), (1, (ePlan false a0))], []⟩
  refine cSeqG ⟨(mkS 166 [(1, .lptr 1 0), (2, .lptr 2 0), (43, .lst (List.map eInt a0.switches) false false), (44, .int .i64 (a0.switches.length : Int)), (45, .int .i64 v45), (46, .bool (decide (v45 < (a0.switches.length : Int))))]), [(2, [.int .i64 0, .int .i64 0]), (1, (ePlan false a0))], []⟩ (True) ?_ (fun q15 => ?_)
  · skip
    refine rgS [] 4 ?_
    refine sEnd [(46, .bool (decide (v45 < (a0.switches.length : Int))))] ?_
    refine QJoin.normal trivial ?_
    exact wkJ (by kernel_rfl)
  unfold impl_PlanOk_C6 at h
  obtain ⟨q100, h⟩ := h
  refine cSeqG ⟨(mkS 166 [(1, .lptr 1 0), (2, .lptr 2 0), (43, .lst (List.map eInt a0.switches) false false), (44, .int .i64 (a0.switches.length : Int)), (45, .int .i64 v45)]), [(2, [.int .i64 0, .int .i64 0]), (1, (ePlan false a0))], []⟩ ((decide (v45 < (a0.switches.length : Int))) = true) ?_ (fun q16 => ?_)
  · replace h := q100
    refine cCond (.tmp 46) (decide (v45 < (a0.switches.length : Int))) (fun q17 => ?_) (fun q17 => ?_)
    · skip
      refine cSkip ?_
      refine QJoin.normal (by simp only [q2, q17, Bool.true_or, Bool.false_or, Bool.true_and, Bool.false_and, Bool.not_true, Bool.not_false, Bool.and_true, Bool.and_false, Bool.or_true, Bool.or_false, cond_true, cond_false]) ?_
      exact wkJ (by kernel_rfl)
    · replace h := h q17
      refine cExit 0 ?_
      refine QJoin.exit ?_
      refine QRound.exit ?_
      refine QBlock.here ?_
      refine QSeq.normal ?_
      refine cSeq ?_
      refine cSeqG ⟨(mkS 166 [(1, .lptr 1 0), (2, .lptr 2 0), (62, .lst (List.map (eWay false) a0.ways) false false), (63, .int .i64 (a0.ways.length : Int)), (64, .int .i64 0)]), [(2, [.int .i64 0, .int .i64 0]), (1, (ePlan false a0))], []⟩ (a0.ways.length ≤ 4611686018427387904) ?_ (fun q18 => ?_)
      · skip
        refine rgS [] 9 ?_
        refine sLen 3 (some 63) [(62, .lst (List.map (eWay false) a0.ways) false false), (61, .lptr 1 2)] (eWay false) a0.ways (fun q19 => ?_)
        refine sEnd [(64, .int .i64 0)] ?_
        refine QJoin.normal q19 ?_
        exact wkJ (by kernel_rfl)
      replace h := h q18
      refine cBlock 2 ?_
      obtain ⟨q90, h⟩ := h
      refine cLoop (fun (v : Int) => (⟨(mkS 166 [(1, .lptr 1 0), (2, .lptr 2 0), (62, .lst (List.map (eWay false) a0.ways) false false), (63, .int .i64 (a0.ways.length : Int)), (64, .int .i64 v)]), [(2, [.int .i64 0, .int .i64 0]), (1, (ePlan false a0))], []⟩ : St)) (fun (v : Int) => I1 v45 v) (fun (v : Int) => m1 v45 v) 0 (wkL []) q90 (fun v64 hI => ?_)
      skip
      replace h := h v64 hI
      show WpS _ _ _ ⟨(mkS 166 [(1, .lptr 1 0), (2, .lptr 2 0), (62, .lst (List.map (eWay false) a0.ways) false false), (63, .int .i64 (a0.ways.length : Int)), (64, .int .i64 v64)]), [(2, [.int .i64 0, .int .i64 0]), (1, (ePlan false a0))], []⟩
      refine cSeqG ⟨(mkS 166 [(1, .lptr 1 0), (2, .lptr 2 0), (62, .lst (List.map (eWay false) a0.ways) false false), (63, .int .i64 (a0.ways.length : Int)), (64, .int .i64 v64), (65, .bool (decide (v64 < (a0.ways.length : Int))))]), [(2, [.int .i64 0, .int .i64 0]), (1, (ePlan false a0))], []⟩ (True) ?_ (fun q20 => ?_)
      · skip
        refine rgS [] 10 ?_
        refine sEnd [(65, .bool (decide (v64 < (a0.ways.length : Int))))] ?_
        refine QJoin.normal trivial ?_
        exact wkJ (by kernel_rfl)
      unfold impl_PlanOk_C5 at h
      obtain ⟨q89, h⟩ := h
      refine cSeqG ⟨(mkS 166 [(1, .lptr 1 0), (2, .lptr 2 0), (62, .lst (List.map (eWay false) a0.ways) false false), (63, .int .i64 (a0.ways.length : Int)), (64, .int .i64 v64)]), [(2, [.int .i64 0, .int .i64 0]), (1, (ePlan false a0))], []⟩ ((decide (v64 < (a0.ways.length : Int))) = true) ?_ (fun q21 => ?_)
      · replace h := q89
        refine cCond (.tmp 65) (decide (v64 < (a0.ways.length : Int))) (fun q22 => ?_) (fun q22 => ?_)
        · skip
          refine cSkip ?_
          refine QJoin.normal (by simp only [q2, q17, q22, Bool.true_or, Bool.false_or, Bool.true_and, Bool.false_and, Bool.not_true, Bool.not_false, Bool.and_true, Bool.and_false, Bool.or_true, Bool.or_false, cond_true, cond_false]) ?_
          exact wkJ (by kernel_rfl)
        · replace h := h q22
          refine cExit 2 ?_
          refine QJoin.exit ?_
          refine QRound.exit ?_
          refine QBlock.here ?_
          refine QSeq.normal ?_
          obtain ⟨q80, h⟩ := h
          refine cSeqG ⟨(mkS 166 [(1, .lptr 1 0), (2, .lptr 2 0)]), [(2, [.int .i64 0, .int .i64 0]), (1, (ePlan false a0))], []⟩ ((a0.bars.length ≤ 4611686018427387904) ∧ ((!((a0.bars.length : Int) != (a0.ways.length : Int))) = true)) ?_ (fun q23 => ?_)
          · replace h := q80
            refine cSeqG ⟨(mkS 166 [(1, .lptr 1 0), (2, .lptr 2 0), (82, .bool ((a0.bars.length : Int) != (a0.ways.length : Int)))]), [(2, [.int .i64 0, .int .i64 0]), (1, (ePlan false a0))], []⟩ (a0.bars.length ≤ 4611686018427387904) ?_ (fun q24 => ?_)
            · skip
              refine rgS [] 15 ?_
              refine sLen 3 (some 78) [(77, .lst (List.map (eL eBool false) a0.bars) false false), (76, .lptr 1 3)] (eL eBool false) a0.bars (fun q25 => ?_)
              refine sLen 3 (some 81) [(80, .lst (List.map (eWay false) a0.ways) false false), (79, .lptr 1 2)] (eWay false) a0.ways (fun q26 => ?_)
              refine sEnd [(82, .bool ((a0.bars.length : Int) != (a0.ways.length : Int)))] ?_
              refine QJoin.normal q25 ?_
              exact wkJ (by kernel_rfl)
            replace h := h q24
            refine cCond (.tmp 82) ((a0.bars.length : Int) != (a0.ways.length : Int)) (fun q27 => ?_) (fun q27 => ?_)
            · replace h := h q27
              refine cSeqG ⟨(mkS 166 [(2, .lptr 2 0)]), [(2, [.int .i64 4, .int .i64 0]), (1, (ePlan false a0))], []⟩ (True) ?_ (fun q28 => ?_)
              · skip
                refine rgS [] 16 ?_
                refine sEnd' [(83, .agg [.int .i64 4, .int .i64 0])] [(2, [.int .i64 4, .int .i64 0]), (1, (ePlan false a0))] [] ?_
                refine QJoin.normal trivial ?_
                exact wkJ (by kernel_rfl)
              refine cRet ?_
              refine QJoin.ret ?_
              refine rtS (.agg [.int .i64 4, .int .i64 0]) [.agg [.int .i64 4, .int .i64 0]] ?_
              exact (SnapR3.agg (PW.cons (sr_int (H := []) (a := 4) (b := res.code) h.1) (PW.cons (sr_int (H := []) (a := 0) (b := res.pos) h.2) PW.nil)))
            · skip
              refine cSkip ?_
              refine QJoin.normal ⟨q24, (by simp only [q2, q17, q22, q27, Bool.true_or, Bool.false_or, Bool.true_and, Bool.false_and, Bool.not_true, Bool.not_false, Bool.and_true, Bool.and_false, Bool.or_true, Bool.or_false, cond_true, cond_false])⟩ ?_
              exact wkJ (by kernel_rfl)
          replace h := h q23
          refine cSeq ?_
          refine cSeqG ⟨(mkS 166 [(1, .lptr 1 0), (2, .lptr 2 0), (85, .lst (List.map (eL eBool false) a0.bars) false false), (86, .int .i64 (a0.bars.length : Int)), (87, .int .i64 0)]), [(2, [.int .i64 0, .int .i64 0]), (1, (ePlan false a0))], []⟩ (True) ?_ (fun q29 => ?_)
          · skip
            refine rgS [] 17 ?_
            refine sLen 3 (some 86) [(85, .lst (List.map (eL eBool false) a0.bars) false false), (84, .lptr 1 3)] (eL eBool false) a0.bars (fun q30 => ?_)
            refine sEnd [(87, .int .i64 0)] ?_
            refine QJoin.normal trivial ?_
            exact wkJ (by kernel_rfl)
          refine cBlock 4 ?_
          obtain ⟨q79, h⟩ := h
          refine cLoop (fun (v : Int) => (⟨(mkS 166 [(1, .lptr 1 0), (2, .lptr 2 0), (85, .lst (List.map (eL eBool false) a0.bars) false false), (86, .int .i64 (a0.bars.length : Int)), (87, .int .i64 v)]), [(2, [.int .i64 0, .int .i64 0]), (1, (ePlan false a0))], []⟩ : St)) (fun (v : Int) => I2 v45 v64 v) (fun (v : Int) => m2 v45 v64 v) 0 (wkL []) q79 (fun v87 hI => ?_)
          skip
          replace h := h v87 hI
          show WpS _ _ _ ⟨(mkS 166 [(1, .lptr 1 0), (2, .lptr 2 0), (85, .lst (List.map (eL eBool false) a0.bars) false false), (86, .int .i64 (a0.bars.length : Int)), (87, .int .i64 v87)]), [(2, [.int .i64 0, .int .i64 0]), (1, (ePlan false a0))], []⟩
          refine cSeqG ⟨(mkS 166 [(1, .lptr 1 0), (2, .lptr 2 0), (85, .lst (List.map (eL eBool false) a0.bars) false false), (86, .int .i64 (a0.bars.length : Int)), (87, .int .i64 v87), (88, .bool (decide (v87 < (a0.bars.length : Int))))]), [(2, [.int .i64 0, .int .i64 0]), (1, (ePlan false a0))], []⟩ (True) ?_ (fun q31 => ?_)
          · skip
            refine rgS [] 18 ?_
            refine sEnd [(88, .bool (decide (v87 < (a0.bars.length : Int))))] ?_
            refine QJoin.normal trivial ?_
            exact wkJ (by kernel_rfl)
          unfold impl_PlanOk_C4 at h
          obtain ⟨q78, h⟩ := h
          refine cSeqG ⟨(mkS 166 [(1, .lptr 1 0), (2, .lptr 2 0), (85, .lst (List.map (eL eBool false) a0.bars) false false), (86, .int .i64 (a0.bars.length : Int)), (87, .int .i64 v87)]), [(2, [.int .i64 0, .int .i64 0]), (1, (ePlan false a0))], []⟩ ((decide (v87 < (a0.bars.length : Int))) = true) ?_ (fun q32 => ?_)
          · replace h := q78
            refine cCond (.tmp 88) (decide (v87 < (a0.bars.length : Int))) (fun q33 => ?_) (fun q33 => ?_)
            · skip
              refine cSkip ?_
              refine QJoin.normal (by simp only [q2, q17, q22, q23.2, q33, Bool.true_or, Bool.false_or, Bool.true_and, Bool.false_and, Bool.not_true, Bool.not_false, Bool.and_true, Bool.and_false, Bool.or_true, Bool.or_false, cond_true, cond_false]) ?_
              exact wkJ (by kernel_rfl)
            · replace h := h q33
              refine cExit 4 ?_
              refine QJoin.exit ?_
              refine QRound.exit ?_
              refine QBlock.here ?_
              refine QSeq.normal ?_
              refine cSeq ?_
              refine cSeqG ⟨(mkS 166 [(1, .lptr 1 0), (2, .lptr 2 0), (103, .int .i64 (a0.ways.length : Int)), (104, .int .i64 0)]), [(2, [.int .i64 0, .int .i64 0]), (1, (ePlan false a0))], []⟩ (True) ?_ (fun q34 => ?_)
              · skip
                refine rgS [] 23 ?_
                refine sLen 3 (some 103) [(102, .lst (List.map (eWay false) a0.ways) false false), (101, .lptr 1 2)] (eWay false) a0.ways (fun q35 => ?_)
                refine sEnd [(104, .int .i64 0)] ?_
                refine QJoin.normal trivial ?_
                exact wkJ (by kernel_rfl)
              refine cBlock 6 ?_
              obtain ⟨q67, h⟩ := h
              refine cLoop (fun (v : Int) => (⟨(mkS 166 [(1, .lptr 1 0), (2, .lptr 2 0), (103, .int .i64 (a0.ways.length : Int)), (104, .int .i64 v)]), [(2, [.int .i64 0, .int .i64 0]), (1, (ePlan false a0))], []⟩ : St)) (fun (v : Int) => I3 v45 v64 v87 v) (fun (v : Int) => m3 v45 v64 v87 v) 0 (wkL []) q67 (fun v104 hI => ?_)
              skip
              replace h := h v104 hI
              show WpS _ _ _ ⟨(mkS 166 [(1, .lptr 1 0), (2, .lptr 2 0), (103, .int .i64 (a0.ways.length : Int)), (104, .int .i64 v104)]), [(2, [.int .i64 0, .int .i64 0]), (1, (ePlan false a0))], []⟩
              refine cSeqG ⟨(mkS 166 [(1, .lptr 1 0), (2, .lptr 2 0), (103, .int .i64 (a0.ways.length : Int)), (104, .int .i64 v104), (105, .bool (decide (v104 < (a0.ways.length : Int))))]), [(2, [.int .i64 0, .int .i64 0]), (1, (ePlan false a0))], []⟩ (True) ?_ (fun q36 => ?_)
              · skip
                refine rgS [] 24 ?_
                refine sEnd [(105, .bool (decide (v104 < (a0.ways.length : Int))))] ?_
                refine QJoin.normal trivial ?_
                exact wkJ (by kernel_rfl)
              obtain ⟨q66, h⟩ := h
              refine cSeqG ⟨(mkS 166 [(1, .lptr 1 0), (2, .lptr 2 0), (103, .int .i64 (a0.ways.length : Int)), (104, .int .i64 v104)]), [(2, [.int .i64 0, .int .i64 0]), (1, (ePlan false a0))], []⟩ ((decide (v104 < (a0.ways.length : Int))) = true) ?_ (fun q37 => ?_)
              · replace h := q66
                refine cCond (.tmp 105) (decide (v104 < (a0.ways.length : Int))) (fun q38 => ?_) (fun q38 => ?_)
                · skip
                  refine cSkip ?_
                  refine QJoin.normal (by simp only [q2, q17, q22, q23.2, q33, q38, Bool.true_or, Bool.false_or, Bool.true_and, Bool.false_and, Bool.not_true, Bool.not_false, Bool.and_true, Bool.and_false, Bool.or_true, Bool.or_false, cond_true, cond_false]) ?_
                  exact wkJ (by kernel_rfl)
                · replace h := h q38
                  refine cExit 6 ?_
                  refine QJoin.exit ?_
                  refine QRound.exit ?_
                  refine QBlock.here ?_
                  refine QSeq.normal ?_
                  refine cSeqG ⟨(mkS 166 [(2, .lptr 2 0)]), [(2, [.int .i64 0, .int .i64 0]), (1, (ePlan false a0))], []⟩ (True) ?_ (fun q39 => ?_)
                  · skip
                    refine rgS [] 33 ?_
                    refine sEnd [(165, .agg [.int .i64 0, .int .i64 0])] ?_
                    refine QJoin.normal trivial ?_
                    exact wkJ (by kernel_rfl)
                  refine cRet ?_
                  refine rtS (.agg [.int .i64 0, .int .i64 0]) [.agg [.int .i64 0, .int .i64 0]] ?_
                  exact (SnapR3.agg (PW.cons (sr_int (H := []) (a := 0) (b := res.code) h.1) (PW.cons (sr_int (H := []) (a := 0) (b := res.pos) h.2) PW.nil)))
              replace h := h q37
              refine cSeq ?_
              refine cBlock 7 ?_
              refine cSeqG ⟨(mkS 166 [(1, .lptr 1 0), (2, .lptr 2 0), (9, .int .i64 v104), (103, .int .i64 (a0.ways.length : Int)), (104, .int .i64 v104)]), [(2, [.int .i64 0, .int .i64 0]), (1, (ePlan false a0))], []⟩ (True) ?_ (fun q40 => ?_)
              · skip
                refine rgS [] 25 ?_
                refine sEnd [(9, .int .i64 v104), (106, .int .i64 v104)] ?_
                refine QJoin.normal trivial ?_
                exact wkJ (by kernel_rfl)
              refine cSeqG ⟨(mkS 166 [(1, .lptr 1 0), (2, .lptr 2 0), (9, .int .i64 v104), (103, .int .i64 (a0.ways.length : Int)), (104, .int .i64 v104), (109, .int .i64 (a0.ways.length : Int)), (110, .int .i64 0)]), [(2, [.int .i64 0, .int .i64 0]), (1, (ePlan false a0))], []⟩ (True) ?_ (fun q41 => ?_)
              · skip
                refine rgS [] 26 ?_
                refine sLen 3 (some 109) [(108, .lst (List.map (eWay false) a0.ways) false false), (107, .lptr 1 2)] (eWay false) a0.ways (fun q42 => ?_)
                refine sEnd [(110, .int .i64 0)] ?_
                refine QJoin.normal trivial ?_
                exact wkJ (by kernel_rfl)
              refine cBlock 8 ?_
              obtain ⟨q65, h⟩ := h
              refine cLoop (fun (v : Int) => (⟨(mkS 166 [(1, .lptr 1 0), (2, .lptr 2 0), (9, .int .i64 v104), (103, .int .i64 (a0.ways.length : Int)), (104, .int .i64 v104), (109, .int .i64 (a0.ways.length : Int)), (110, .int .i64 v)]), [(2, [.int .i64 0, .int .i64 0]), (1, (ePlan false a0))], []⟩ : St)) (fun (v : Int) => I4 v45 v64 v87 v104 v) (fun (v : Int) => m4 v45 v64 v87 v104 v) 0 (wkL []) q65 (fun v110 hI => ?_)
              skip
              replace h := h v110 hI
              show WpS _ _ _ ⟨(mkS 166 [(1, .lptr 1 0), (2, .lptr 2 0), (9, .int .i64 v104), (103, .int .i64 (a0.ways.length : Int)), (104, .int .i64 v104), (109, .int .i64 (a0.ways.length : Int)), (110, .int .i64 v110)]), [(2, [.int .i64 0, .int .i64 0]), (1, (ePlan false a0))], []⟩
              refine cSeqG ⟨(mkS 166 [(1, .lptr 1 0), (2, .lptr 2 0), (9, .int .i64 v104), (103, .int .i64 (a0.ways.length : Int)), (104, .int .i64 v104), (109, .int .i64 (a0.ways.length : Int)), (110, .int .i64 v110), (111, .bool (decide (v110 < (a0.ways.length : Int))))]), [(2, [.int .i64 0, .int .i64 0]), (1, (ePlan false a0))], []⟩ (True) ?_ (fun q43 => ?_)
              · skip
                refine rgS [] 27 ?_
                refine sEnd [(111, .bool (decide (v110 < (a0.ways.length : Int))))] ?_
                refine QJoin.normal trivial ?_
                exact wkJ (by kernel_rfl)
              unfold impl_PlanOk_C2 at h
              obtain ⟨q64, h⟩ := h
              refine cSeqG ⟨(mkS 166 [(1, .lptr 1 0), (2, .lptr 2 0), (9, .int .i64 v104), (103, .int .i64 (a0.ways.length : Int)), (104, .int .i64 v104), (109, .int .i64 (a0.ways.length : Int)), (110, .int .i64 v110)]), [(2, [.int .i64 0, .int .i64 0]), (1, (ePlan false a0))], []⟩ ((decide (v110 < (a0.ways.length : Int))) = true) ?_ (fun q44 => ?_)
              · replace h := q64
                refine cCond (.tmp 111) (decide (v110 < (a0.ways.length : Int))) (fun q45 => ?_) (fun q45 => ?_)
                · skip
                  refine cSkip ?_
                  refine QJoin.normal (by simp only [q2, q17, q22, q23.2, q33, q37, q45, Bool.true_or, Bool.false_or, Bool.true_and, Bool.false_and, Bool.not_true, Bool.not_false, Bool.and_true, Bool.and_false, Bool.or_true, Bool.or_false, cond_true, cond_false]) ?_
                  exact wkJ (by kernel_rfl)
                · replace h := h q45
                  refine cExit 8 ?_
                  refine QJoin.exit ?_
                  refine QRound.exit ?_
                  refine QBlock.here ?_
                  refine QBlock.normal ?_
                  refine QSeq.normal ?_
                  refine rgS [] 32 ?_
                  refine sEnd [(104, .int .i64 (IntKind.i64.wrap (v104 + 1))), (164, .int .i64 (IntKind.i64.wrap (v104 + 1)))] ?_
                  exact QRound.again (IntKind.i64.wrap (v104 + 1)) h (wkL [])
              replace h := h q44
              obtain ⟨q63, h⟩ := h
              refine cSeqG ⟨(mkS 166 [(1, .lptr 1 0), (2, .lptr 2 0), (9, .int .i64 v104), (103, .int .i64 (a0.ways.length : Int)), (104, .int .i64 v104), (109, .int .i64 (a0.ways.length : Int)), (110, .int .i64 v110)]), [(2, [.int .i64 0, .int .i64 0]), (1, (ePlan false a0))], []⟩ ((!(((nth (nth a0.bars v104) v110) != (nth (nth a0.bars v110) v104)) || ((v104 != v110) && ((!(nth (nth a0.bars v104) v110)) && (meets ((nth a0.ways v104).sections) ((nth a0.ways v110).sections)))))) = true) ?_ (fun q46 => ?_)
              · replace h := q63
                refine cBlock 9 ?_
                refine cSeqG ⟨(mkS 166 [(1, .lptr 1 0), (2, .lptr 2 0), (9, .int .i64 v104), (10, .int .i64 v110), (103, .int .i64 (a0.ways.length : Int)), (104, .int .i64 v104), (109, .int .i64 (a0.ways.length : Int)), (110, .int .i64 v110)]), [(2, [.int .i64 0, .int .i64 0]), (1, (ePlan false a0))], []⟩ (True) ?_ (fun q47 => ?_)
                · skip
                  refine rgS [] 28 ?_
                  refine sEnd [(10, .int .i64 v110), (112, .int .i64 v110)] ?_
                  refine QJoin.normal trivial ?_
                  exact wkJ (by kernel_rfl)
                unfold impl_PlanOk_C1 at h
                obtain ⟨q62, h⟩ := h
                refine cSeqG ⟨(mkS 166 [(1, .lptr 1 0), (2, .lptr 2 0), (9, .int .i64 v104), (103, .int .i64 (a0.ways.length : Int)), (104, .int .i64 v104), (109, .int .i64 (a0.ways.length : Int)), (110, .int .i64 v110), (160, .bool (((nth (nth a0.bars v104) v110) != (nth (nth a0.bars v110) v104)) || ((v104 != v110) && ((!(nth (nth a0.bars v104) v110)) && (meets ((nth a0.ways v104).sections) ((nth a0.ways v110).sections))))))]), [(2, [.int .i64 0, .int .i64 0]), (1, (ePlan false a0))], []⟩ (True) ?_ (fun q48 => ?_)
                · replace h := q62
                  refine rgD [] 29 impl_PlanOk_o29 impl_PlanOk_o29a ?_
                  obtain ⟨q59, h⟩ := h
                  refine tIdx 4 (some 116) [(115, .int .i64 v104), (114, .lst (List.map (eL eBool false) a0.bars) false false), (113, .lptr 1 3)] (eL eBool false) a0.bars 1 q59 ?_
                  obtain ⟨q58, h⟩ := h
                  refine tIdx 3 (some 119) [(118, .int .i64 v110), (117, .lst (List.map eBool (nth a0.bars v104)) false false)] eBool (nth a0.bars v104) 1 q58 ?_
                  obtain ⟨q57, h⟩ := h
                  refine tIdx 5 (some 124) [(123, .int .i64 v110), (122, .lst (List.map (eL eBool false) a0.bars) false false), (121, .lptr 1 3), (120, .bool (nth (nth a0.bars v104) v110))] (eL eBool false) a0.bars 1 q57 ?_
                  obtain ⟨q56, h⟩ := h
                  refine tIdx 3 (some 127) [(126, .int .i64 v104), (125, .lst (List.map eBool (nth a0.bars v110)) false false)] eBool (nth a0.bars v110) 1 q56 ?_
                  refine tCase 3 [(130, .bool ((nth (nth a0.bars v104) v110) != (nth (nth a0.bars v110) v104))), (129, .bool ((nth (nth a0.bars v104) v110) != (nth (nth a0.bars v110) v104))), (128, .bool (nth (nth a0.bars v110) v104))] 130 ((nth (nth a0.bars v104) v110) != (nth (nth a0.bars v110) v104)) (fun q49 => ?_) (fun q49 => ?_)
                  · skip
                    refine tEnd [(160, .bool true), (159, .tup []), (158, .tup []), (157, .tup []), (156, .tup []), (155, .tup []), (154, .tup []), (153, .tup []), (152, .tup []), (151, .tup []), (150, .tup []), (149, .tup []), (148, .tup []), (147, .tup []), (146, .tup []), (145, .tup []), (144, .tup []), (143, .tup []), (142, .tup []), (141, .tup []), (140, .tup []), (139, .tup []), (138, .tup []), (137, .tup []), (136, .tup []), (135, .tup []), (134, .tup []), (133, .tup []), (132, .tup []), (131, .tup [])] ?_
                    refine QJoin.normal trivial ?_
                    exact wkJ (by simp only [q2, q17, q22, q23.2, q33, q37, q44, q49, Bool.true_or, Bool.false_or, Bool.true_and, Bool.false_and, Bool.not_true, Bool.not_false, Bool.and_true, Bool.and_false, Bool.or_true, Bool.or_false, cond_true, cond_false] <;> kernel_rfl)
                  · replace h := h q49
                    refine tCase 4 [(134, .bool (v104 != v110)), (133, .bool (v104 != v110)), (132, .int .i64 v110), (131, .int .i64 v104)] 134 (v104 != v110) (fun q50 => ?_) (fun q50 => ?_)
                    · replace h := h q50
                      obtain ⟨q55, h⟩ := h
                      refine tIdx 4 (some 138) [(137, .int .i64 v104), (136, .lst (List.map (eL eBool false) a0.bars) false false), (135, .lptr 1 3)] (eL eBool false) a0.bars 1 q55 ?_
                      obtain ⟨q54, h⟩ := h
                      refine tIdx 3 (some 141) [(140, .int .i64 v110), (139, .lst (List.map eBool (nth a0.bars v104)) false false)] eBool (nth a0.bars v104) 1 q54 ?_
                      refine tCase 4 [(145, .bool (!(nth (nth a0.bars v104) v110))), (144, .bool (!(nth (nth a0.bars v104) v110))), (143, .bool (!(nth (nth a0.bars v104) v110))), (142, .bool (nth (nth a0.bars v104) v110))] 145 (!(nth (nth a0.bars v104) v110)) (fun q51 => ?_) (fun q51 => ?_)
                      · replace h := h q51
                        obtain ⟨q53, h⟩ := h
                        refine tIdx 4 (some 149) [(148, .int .i64 v104), (147, .lst (List.map (eWay false) a0.ways) false false), (146, .lptr 1 2)] (eWay false) a0.ways 5 q53 ?_
                        have q52 := h
                        refine tIdx 6 (some 155) [(154, .int .i64 v110), (153, .lst (List.map (eWay false) a0.ways) false false), (152, .lptr 1 2), (151, .lst (List.map eInt ((nth a0.ways v104).sections)) false false), (150, .rp (eWay false (nth a0.ways v104)) 0)] (eWay false) a0.ways 5 q52 ?_
                        refine tCallV 3 (some 158) [(157, .lst (List.map eInt ((nth a0.ways v110).sections)) false false), (156, .rp (eWay false (nth a0.ways v110)) 0)] [.lst (List.map eInt ((nth a0.ways v104).sections)) false false, .lst (List.map eInt ((nth a0.ways v110).sections)) false false] (impl_meet_V ((nth a0.ways v104).sections) ((nth a0.ways v110).sections)) (PW.cons (Snap2.of1 sa_lst) (PW.cons (Snap2.of1 sa_lst) PW.nil)) ?_
                        refine tEnd [(160, .bool (meets ((nth a0.ways v104).sections) ((nth a0.ways v110).sections))), (159, .bool (meets ((nth a0.ways v104).sections) ((nth a0.ways v110).sections)))] ?_
                        refine QJoin.normal trivial ?_
                        exact wkJ (by simp only [q2, q17, q22, q23.2, q33, q37, q44, q49, q50, q51, Bool.true_or, Bool.false_or, Bool.true_and, Bool.false_and, Bool.not_true, Bool.not_false, Bool.and_true, Bool.and_false, Bool.or_true, Bool.or_false, cond_true, cond_false] <;> kernel_rfl)
                      · skip
                        refine tEnd [(160, .bool false), (159, .bool false), (158, .tup []), (157, .tup []), (156, .tup []), (155, .tup []), (154, .tup []), (153, .tup []), (152, .tup []), (151, .tup []), (150, .tup []), (149, .tup []), (148, .tup []), (147, .tup []), (146, .tup [])] ?_
                        refine QJoin.normal trivial ?_
                        exact wkJ (by simp only [q2, q17, q22, q23.2, q33, q37, q44, q49, q50, q51, Bool.true_or, Bool.false_or, Bool.true_and, Bool.false_and, Bool.not_true, Bool.not_false, Bool.and_true, Bool.and_false, Bool.or_true, Bool.or_false, cond_true, cond_false] <;> kernel_rfl)
                    · skip
                      refine tEnd [(160, .bool false), (159, .bool false), (158, .tup []), (157, .tup []), (156, .tup []), (155, .tup []), (154, .tup []), (153, .tup []), (152, .tup []), (151, .tup []), (150, .tup []), (149, .tup []), (148, .tup []), (147, .tup []), (146, .tup []), (145, .bool false), (144, .bool false), (143, .tup []), (142, .tup []), (141, .tup []), (140, .tup []), (139, .tup []), (138, .tup []), (137, .tup []), (136, .tup []), (135, .tup [])] ?_
                      refine QJoin.normal trivial ?_
                      exact wkJ (by simp only [q2, q17, q22, q23.2, q33, q37, q44, q49, q50, Bool.true_or, Bool.false_or, Bool.true_and, Bool.false_and, Bool.not_true, Bool.not_false, Bool.and_true, Bool.and_false, Bool.or_true, Bool.or_false, cond_true, cond_false] <;> kernel_rfl)
                refine cCond (.tmp 160) (((nth (nth a0.bars v104) v110) != (nth (nth a0.bars v110) v104)) || ((v104 != v110) && ((!(nth (nth a0.bars v104) v110)) && (meets ((nth a0.ways v104).sections) ((nth a0.ways v110).sections))))) (fun q60 => ?_) (fun q60 => ?_)
                · replace h := h q60
                  refine cSeqG ⟨(mkS 166 [(2, .lptr 2 0)]), [(2, [.int .i64 5, .int .i64 v104]), (1, (ePlan false a0))], []⟩ (True) ?_ (fun q61 => ?_)
                  · skip
                    refine rgS [] 30 ?_
                    refine sEnd' [(162, .agg [.int .i64 5, .int .i64 v104]), (161, .int .i64 v104)] [(2, [.int .i64 5, .int .i64 v104]), (1, (ePlan false a0))] [] ?_
                    refine QJoin.normal trivial ?_
                    exact wkJ (by kernel_rfl)
                  refine cRet ?_
                  refine QBlock.ret ?_
                  refine QJoin.ret ?_
                  refine QRound.ret ?_
                  refine QBlock.ret ?_
                  refine QBlock.ret ?_
                  refine QSeq.ret ?_
                  refine QRound.ret ?_
                  refine QBlock.ret ?_
                  refine QSeq.ret ?_
                  refine rtS (.agg [.int .i64 5, .int .i64 v104]) [.agg [.int .i64 5, .int .i64 v104]] ?_
                  exact (SnapR3.agg (PW.cons (sr_int (H := []) (a := 5) (b := res.code) h.1) (PW.cons (sr_int (H := []) (a := v104) (b := res.pos) h.2) PW.nil)))
                · skip
                  refine cSkip ?_
                  refine QBlock.normal ?_
                  refine QJoin.normal (by simp only [q2, q17, q22, q23.2, q33, q37, q44, q60, Bool.true_or, Bool.false_or, Bool.true_and, Bool.false_and, Bool.not_true, Bool.not_false, Bool.and_true, Bool.and_false, Bool.or_true, Bool.or_false, cond_true, cond_false]) ?_
                  exact wkJ (by kernel_rfl)
              replace h := h q46
              refine rgS [] 31 ?_
              refine sEnd [(110, .int .i64 (IntKind.i64.wrap (v110 + 1))), (163, .int .i64 (IntKind.i64.wrap (v110 + 1)))] ?_
              exact QRound.again (IntKind.i64.wrap (v110 + 1)) h (wkL [])
          replace h := h q32
          unfold impl_PlanOk_C3 at h
          obtain ⟨q77, h⟩ := h
          refine cSeqG ⟨(mkS 166 [(1, .lptr 1 0), (2, .lptr 2 0), (85, .lst (List.map (eL eBool false) a0.bars) false false), (86, .int .i64 (a0.bars.length : Int)), (87, .int .i64 v87)]), [(2, [.int .i64 0, .int .i64 0]), (1, (ePlan false a0))], []⟩ (((nth a0.bars v87).length ≤ 4611686018427387904) ∧ ((!(((nth a0.bars v87).length : Int) != (a0.ways.length : Int))) = true)) ?_ (fun q68 => ?_)
          · replace h := q77
            refine cBlock 5 ?_
            obtain ⟨q76, h⟩ := h
            refine cSeqG ⟨(mkS 166 [(1, .lptr 1 0), (2, .lptr 2 0), (7, .int .i64 v87), (8, .lst (List.map eBool (nth a0.bars v87)) false false), (85, .lst (List.map (eL eBool false) a0.bars) false false), (86, .int .i64 (a0.bars.length : Int)), (87, .int .i64 v87)]), [(2, [.int .i64 0, .int .i64 0]), (1, (ePlan false a0))], []⟩ (True) ?_ (fun q69 => ?_)
            · replace h := q76
              refine rgS [] 19 ?_
              have q70 := h
              refine sIdx 2 (some 90) [(89, .int .i64 v87)] (eL eBool false) a0.bars 1 q70 ?_
              refine sEnd [(8, .lst (List.map eBool (nth a0.bars v87)) false false), (7, .int .i64 v87), (91, .lst (List.map eBool (nth a0.bars v87)) false false)] ?_
              refine QJoin.normal trivial ?_
              exact wkJ (by kernel_rfl)
            refine cSeqG ⟨(mkS 166 [(1, .lptr 1 0), (2, .lptr 2 0), (7, .int .i64 v87), (85, .lst (List.map (eL eBool false) a0.bars) false false), (86, .int .i64 (a0.bars.length : Int)), (87, .int .i64 v87), (97, .bool (((nth a0.bars v87).length : Int) != (a0.ways.length : Int)))]), [(2, [.int .i64 0, .int .i64 0]), (1, (ePlan false a0))], []⟩ ((nth a0.bars v87).length ≤ 4611686018427387904) ?_ (fun q71 => ?_)
            · skip
              refine rgS [] 20 ?_
              refine sLen 2 (some 93) [(92, .lst (List.map eBool (nth a0.bars v87)) false false)] eBool (nth a0.bars v87) (fun q72 => ?_)
              refine sLen 3 (some 96) [(95, .lst (List.map (eWay false) a0.ways) false false), (94, .lptr 1 2)] (eWay false) a0.ways (fun q73 => ?_)
              refine sEnd [(97, .bool (((nth a0.bars v87).length : Int) != (a0.ways.length : Int)))] ?_
              refine QJoin.normal q72 ?_
              exact wkJ (by kernel_rfl)
            replace h := h q71
            refine cCond (.tmp 97) (((nth a0.bars v87).length : Int) != (a0.ways.length : Int)) (fun q74 => ?_) (fun q74 => ?_)
            · replace h := h q74
              refine cSeqG ⟨(mkS 166 [(2, .lptr 2 0)]), [(2, [.int .i64 4, .int .i64 v87]), (1, (ePlan false a0))], []⟩ (True) ?_ (fun q75 => ?_)
              · skip
                refine rgS [] 21 ?_
                refine sEnd' [(99, .agg [.int .i64 4, .int .i64 v87]), (98, .int .i64 v87)] [(2, [.int .i64 4, .int .i64 v87]), (1, (ePlan false a0))] [] ?_
                refine QJoin.normal trivial ?_
                exact wkJ (by kernel_rfl)
              refine cRet ?_
              refine QBlock.ret ?_
              refine QJoin.ret ?_
              refine QRound.ret ?_
              refine QBlock.ret ?_
              refine QSeq.ret ?_
              refine rtS (.agg [.int .i64 4, .int .i64 v87]) [.agg [.int .i64 4, .int .i64 v87]] ?_
              exact (SnapR3.agg (PW.cons (sr_int (H := []) (a := 4) (b := res.code) h.1) (PW.cons (sr_int (H := []) (a := v87) (b := res.pos) h.2) PW.nil)))
            · skip
              refine cSkip ?_
              refine QBlock.normal ?_
              refine QJoin.normal ⟨q71, (by simp only [q2, q17, q22, q23.2, q32, q74, Bool.true_or, Bool.false_or, Bool.true_and, Bool.false_and, Bool.not_true, Bool.not_false, Bool.and_true, Bool.and_false, Bool.or_true, Bool.or_false, cond_true, cond_false])⟩ ?_
              exact wkJ (by kernel_rfl)
          replace h := h q68
          refine rgS [] 22 ?_
          refine sEnd [(87, .int .i64 (IntKind.i64.wrap (v87 + 1))), (100, .int .i64 (IntKind.i64.wrap (v87 + 1)))] ?_
          exact QRound.again (IntKind.i64.wrap (v87 + 1)) h (wkL [])
      replace h := h q21
      obtain ⟨q88, h⟩ := h
      refine cSeqG ⟨(mkS 166 [(1, .lptr 1 0), (2, .lptr 2 0), (62, .lst (List.map (eWay false) a0.ways) false false), (63, .int .i64 (a0.ways.length : Int)), (64, .int .i64 v64)]), [(6, (eWay false (nth a0.ways v64))), (2, [.int .i64 0, .int .i64 0]), (1, (ePlan false a0))], []⟩ ((!(!(wayGood a0 (nth a0.ways v64)))) = true) ?_ (fun q81 => ?_)
      · replace h := q88
        refine cBlock 3 ?_
        obtain ⟨q87, h⟩ := h
        refine cSeqG ⟨(mkS 166 [(1, .lptr 1 0), (2, .lptr 2 0), (5, .int .i64 v64), (6, .lptr 6 0), (62, .lst (List.map (eWay false) a0.ways) false false), (63, .int .i64 (a0.ways.length : Int)), (64, .int .i64 v64)]), [(6, (eWay false (nth a0.ways v64))), (2, [.int .i64 0, .int .i64 0]), (1, (ePlan false a0))], []⟩ (True) ?_ (fun q82 => ?_)
        · replace h := q87
          refine rgS [] 11 ?_
          have q83 := h
          refine sIdx 2 (some 67) [(66, .int .i64 v64)] (eWay false) a0.ways 5 q83 ?_
          refine sEnd' [(5, .int .i64 v64), (6, .lptr 6 0), (68, .agg (eWay false (nth a0.ways v64)))] [(6, (eWay false (nth a0.ways v64))), (2, [.int .i64 0, .int .i64 0]), (1, (ePlan false a0))] [] ?_
          refine QJoin.normal trivial ?_
          exact wkJ (by kernel_rfl)
        refine cSeqG ⟨(mkS 166 [(1, .lptr 1 0), (2, .lptr 2 0), (5, .int .i64 v64), (62, .lst (List.map (eWay false) a0.ways) false false), (63, .int .i64 (a0.ways.length : Int)), (64, .int .i64 v64), (72, .bool (!(wayGood a0 (nth a0.ways v64))))]), [(6, (eWay false (nth a0.ways v64))), (2, [.int .i64 0, .int .i64 0]), (1, (ePlan false a0))], []⟩ (True) ?_ (fun q84 => ?_)
        · skip
          refine rgS [] 12 ?_
          refine sCallV 3 (some 71) [(70, .agg (eWay false (nth a0.ways v64))), (69, .agg (ePlan false a0))] [.agg (ePlan false a0), .agg (eWay false (nth a0.ways v64))] (impl_wayOk_V a0 (nth a0.ways v64)) (PW.cons (Snap2.agg (PW.cons (.int _ _) (PW.cons sa_lst (PW.cons sa_lst (PW.cons sa_lst (PW.cons (.int _ _) PW.nil)))))) (PW.cons (Snap2.agg (PW.cons sa_lst (PW.cons sa_lst (PW.cons sa_lst (PW.cons sa_lst (PW.cons sa_lst PW.nil)))))) PW.nil)) ?_
          refine sEnd [(72, .bool (!(wayGood a0 (nth a0.ways v64))))] ?_
          refine QJoin.normal trivial ?_
          exact wkJ (by kernel_rfl)
        refine cCond (.tmp 72) (!(wayGood a0 (nth a0.ways v64))) (fun q85 => ?_) (fun q85 => ?_)
        · replace h := h q85
          refine cSeqG ⟨(mkS 166 [(2, .lptr 2 0)]), [(6, (eWay false (nth a0.ways v64))), (2, [.int .i64 3, .int .i64 v64]), (1, (ePlan false a0))], []⟩ (True) ?_ (fun q86 => ?_)
          · skip
            refine rgS [] 13 ?_
            refine sEnd' [(74, .agg [.int .i64 3, .int .i64 v64]), (73, .int .i64 v64)] [(6, (eWay false (nth a0.ways v64))), (2, [.int .i64 3, .int .i64 v64]), (1, (ePlan false a0))] [] ?_
            refine QJoin.normal trivial ?_
            exact wkJ (by kernel_rfl)
          refine cRet ?_
          refine QBlock.ret ?_
          refine QJoin.ret ?_
          refine QRound.ret ?_
          refine QBlock.ret ?_
          refine QSeq.ret ?_
          refine rtS (.agg [.int .i64 3, .int .i64 v64]) [.agg [.int .i64 3, .int .i64 v64]] ?_
          exact (SnapR3.agg (PW.cons (sr_int (H := []) (a := 3) (b := res.code) h.1) (PW.cons (sr_int (H := []) (a := v64) (b := res.pos) h.2) PW.nil)))
        · skip
          refine cSkip ?_
          refine QBlock.normal ?_
          refine QJoin.normal (by simp only [q2, q17, q21, q85, Bool.true_or, Bool.false_or, Bool.true_and, Bool.false_and, Bool.not_true, Bool.not_false, Bool.and_true, Bool.and_false, Bool.or_true, Bool.or_false, cond_true, cond_false]) ?_
          exact wkJ (by kernel_rfl)
      replace h := h q81
      refine rgS [] 14 ?_
      refine sEnd [(64, .int .i64 (IntKind.i64.wrap (v64 + 1))), (75, .int .i64 (IntKind.i64.wrap (v64 + 1)))] ?_
      exact QRound.again (IntKind.i64.wrap (v64 + 1)) h (wkL [6])
  replace h := h q16
  obtain ⟨q99, h⟩ := h
  refine cSeqG ⟨(mkS 166 [(1, .lptr 1 0), (2, .lptr 2 0), (43, .lst (List.map eInt a0.switches) false false), (44, .int .i64 (a0.switches.length : Int)), (45, .int .i64 v45)]), [(2, [.int .i64 0, .int .i64 0]), (1, (ePlan false a0))], []⟩ ((!((decide ((nth a0.switches v45) < 0)) || (decide ((nth a0.switches v45) ≥ a0.sections)))) = true) ?_ (fun q91 => ?_)
  · replace h := q99
    refine cBlock 1 ?_
    obtain ⟨q98, h⟩ := h
    refine cSeqG ⟨(mkS 166 [(1, .lptr 1 0), (2, .lptr 2 0), (3, .int .i64 v45), (4, .int .i64 (nth a0.switches v45)), (43, .lst (List.map eInt a0.switches) false false), (44, .int .i64 (a0.switches.length : Int)), (45, .int .i64 v45)]), [(2, [.int .i64 0, .int .i64 0]), (1, (ePlan false a0))], []⟩ (True) ?_ (fun q92 => ?_)
    · replace h := q98
      refine rgS [] 5 ?_
      have q93 := h
      refine sIdx 2 (some 48) [(47, .int .i64 v45)] eInt a0.switches 1 q93 ?_
      refine sEnd [(4, .int .i64 (nth a0.switches v45)), (3, .int .i64 v45), (49, .int .i64 (nth a0.switches v45))] ?_
      refine QJoin.normal trivial ?_
      exact wkJ (by kernel_rfl)
    refine cSeqG ⟨(mkS 166 [(1, .lptr 1 0), (2, .lptr 2 0), (3, .int .i64 v45), (43, .lst (List.map eInt a0.switches) false false), (44, .int .i64 (a0.switches.length : Int)), (45, .int .i64 v45), (57, .bool ((decide ((nth a0.switches v45) < 0)) || (decide ((nth a0.switches v45) ≥ a0.sections))))]), [(2, [.int .i64 0, .int .i64 0]), (1, (ePlan false a0))], []⟩ (True) ?_ (fun q94 => ?_)
    · skip
      refine rgS [] 6 ?_
      refine sCase 3 [(52, .bool (decide ((nth a0.switches v45) < 0))), (51, .bool (decide ((nth a0.switches v45) < 0))), (50, .int .i64 (nth a0.switches v45))] 52 (decide ((nth a0.switches v45) < 0)) (fun q95 => ?_) (fun q95 => ?_)
      · skip
        refine sEnd [(57, .bool true), (56, .tup []), (55, .tup []), (54, .tup []), (53, .tup [])] ?_
        refine QJoin.normal trivial ?_
        exact wkJ (by simp only [q2, q16, q95, Bool.true_or, Bool.false_or, Bool.true_and, Bool.false_and, Bool.not_true, Bool.not_false, Bool.and_true, Bool.and_false, Bool.or_true, Bool.or_false, cond_true, cond_false] <;> kernel_rfl)
      · skip
        refine sEnd [(57, .bool (decide ((nth a0.switches v45) ≥ a0.sections))), (56, .bool (decide ((nth a0.switches v45) ≥ a0.sections))), (55, .int .i64 a0.sections), (54, .lptr 1 0), (53, .int .i64 (nth a0.switches v45))] ?_
        refine QJoin.normal trivial ?_
        exact wkJ (by simp only [q2, q16, q95, Bool.true_or, Bool.false_or, Bool.true_and, Bool.false_and, Bool.not_true, Bool.not_false, Bool.and_true, Bool.and_false, Bool.or_true, Bool.or_false, cond_true, cond_false] <;> kernel_rfl)
    refine cCond (.tmp 57) ((decide ((nth a0.switches v45) < 0)) || (decide ((nth a0.switches v45) ≥ a0.sections))) (fun q96 => ?_) (fun q96 => ?_)
    · replace h := h q96
      refine cSeqG ⟨(mkS 166 [(2, .lptr 2 0)]), [(2, [.int .i64 2, .int .i64 v45]), (1, (ePlan false a0))], []⟩ (True) ?_ (fun q97 => ?_)
      · skip
        refine rgS [] 7 ?_
        refine sEnd' [(59, .agg [.int .i64 2, .int .i64 v45]), (58, .int .i64 v45)] [(2, [.int .i64 2, .int .i64 v45]), (1, (ePlan false a0))] [] ?_
        refine QJoin.normal trivial ?_
        exact wkJ (by kernel_rfl)
      refine cRet ?_
      refine QBlock.ret ?_
      refine QJoin.ret ?_
      refine QRound.ret ?_
      refine QBlock.ret ?_
      refine QSeq.ret ?_
      refine rtS (.agg [.int .i64 2, .int .i64 v45]) [.agg [.int .i64 2, .int .i64 v45]] ?_
      exact (SnapR3.agg (PW.cons (sr_int (H := []) (a := 2) (b := res.code) h.1) (PW.cons (sr_int (H := []) (a := v45) (b := res.pos) h.2) PW.nil)))
    · skip
      refine cSkip ?_
      refine QBlock.normal ?_
      refine QJoin.normal (by simp only [q2, q16, q96, Bool.true_or, Bool.false_or, Bool.true_and, Bool.false_and, Bool.not_true, Bool.not_false, Bool.and_true, Bool.and_false, Bool.or_true, Bool.or_false, cond_true, cond_false]) ?_
      exact wkJ (by kernel_rfl)
  replace h := h q91
  refine rgS [] 8 ?_
  refine sEnd [(45, .int .i64 (IntKind.i64.wrap (v45 + 1))), (60, .int .i64 (IntKind.i64.wrap (v45 + 1)))] ?_
  exact QRound.again (IntKind.i64.wrap (v45 + 1)) h (wkL [])

set_option maxHeartbeats 4000000 in
theorem impl_PlanOk_vc (a0 : Plan) : impl_PlanOk_C a0 (planOk a0) (upI a0.switches.length (fun j => !inR (nth a0.switches j) 0 (a0.sections - 1))) (upM a0.switches.length) (fun _ => upI a0.ways.length (fun j => !wayGood a0 (nth a0.ways j))) (fun _ => upM a0.ways.length) (fun _ _ => upI a0.bars.length (fun j => decide ((nth a0.bars j).length ≠ a0.ways.length))) (fun _ _ => upM a0.bars.length) (fun _ _ _ => upI a0.ways.length (fun i => (List.range a0.ways.length).any fun k => barBad a0 i.toNat k)) (fun _ _ _ => upM a0.ways.length) (fun _ _ _ i => upI a0.ways.length (fun k => barBad a0 i.toNat k.toNat)) (fun _ _ _ _ => upM a0.ways.length) := by
  unfold impl_PlanOk_C impl_PlanOk_C7
  refine ⟨fun h => ?_, fun h hn0 => ?_⟩
  · have hb : planBase a0 = false := by
      rw [← Bool.not_eq_true, planBase_iff]
      intro hb
      simp [planBase] at h
      omega
    rw [planOk_1 hb]; exact ⟨rfl, rfl⟩
  · have hb : planBase a0 = true := by
      rw [planBase_iff]
      simp [planBase] at h
      omega
    have hB := planBase_iff.1 hb
    refine ⟨up_start (len0 _), fun v0 hI0 => ?_⟩
    unfold impl_PlanOk_C6
    refine ⟨fun e0 hn1 => ?_, fun hv0 => ?_⟩
    case refine_2 =>
      rw [rng_eq]
      refine ⟨⟨up_in hI0 hv0, fun hbad => ?_⟩, fun hok => up_step (lenI hn0) hI0 hv0 (not_eq hok)⟩
      rw [planOk_2 hb (up_first (q := fun s => !inR s 0 (a0.sections - 1)) hI0 hv0 hbad)]
      have := hI0.1
      exact ⟨rfl, by show v0 = (v0.toNat : Int); omega⟩
    have f0 := up_none (q := fun s => !inR s 0 (a0.sections - 1)) hI0 e0
    refine ⟨up_start (len0 _), fun v1 hI1 => ?_⟩
    unfold impl_PlanOk_C5
    refine ⟨fun e1 => ?_, fun hv1 => ?_⟩
    case refine_2 =>
      refine ⟨⟨up_in hI1 hv1,  fun hbad => ?_⟩, fun hok => up_step (lenI hn1) hI1 hv1 (not_eq hok)⟩
      rw [planOk_3 hb f0 (up_first (q := fun w => !wayGood a0 w) hI1 hv1 hbad)]
      have := hI1.1
      exact ⟨rfl, by show v1 = (v1.toNat : Int); omega⟩
    have f1 := up_none (q := fun w => !wayGood a0 w) hI1 e1
    rw [planOk_b hb f0 f1]
    refine ⟨fun hm hne => ?_, fun ⟨hm, hne⟩ => ?_⟩
    · have hne : a0.bars.length ≠ a0.ways.length := by
        intro e; rw [e] at hne; simp at hne
      rw [planBars_l hne]; exact ⟨rfl, rfl⟩
    have hl : a0.bars.length = a0.ways.length := by
      have : (a0.bars.length : Int) = a0.ways.length := by simpa using hne
      omega
    refine ⟨up_start (len0 _), fun v2 hI2 => ?_⟩
    unfold impl_PlanOk_C4
    refine ⟨fun e2 => ?_, fun hv2 => ?_⟩
    case refine_2 =>
      have hcond : (((nth a0.bars v2).length : Int) != (a0.ways.length : Int)) = decide ((nth a0.bars v2).length ≠ a0.ways.length) := by
        rw [Bool.eq_iff_iff]; simp; omega
      unfold impl_PlanOk_C3
      rw [hcond]
      refine ⟨⟨up_in hI2 hv2, fun hr hbad => ?_⟩, fun ⟨hr, hok⟩ => up_step (lenI hm) hI2 hv2 (not_eq hok)⟩
      rw [planBars_4 hl (up_first (q := fun b => decide (b.length ≠ a0.ways.length)) hI2 hv2 hbad)]
      have := hI2.1
      exact ⟨rfl, by show v2 = (v2.toNat : Int); omega⟩
    have f2 := up_none (q := fun b : List Bool => decide (b.length ≠ a0.ways.length)) hI2 e2
    have rl : ∀ i : Int, 0 ≤ i → i < a0.ways.length → (nth a0.bars i).length = a0.ways.length := fun i i0 i1 => by
      have := up_end hI2 e2 i i0 (by omega)
      simpa using this
    refine ⟨up_start (len0 _), fun v3 hI3 => ⟨fun e3 => ?_, fun hv3 => ?_⟩⟩
    · skip
      rw [planBars_0 hl f2 (first_range_none fun j j0 j1 => up_end hI3 e3 j j0 j1)]
      exact ⟨rfl, rfl⟩
    · have hv3' : v3 < (a0.ways.length : Int) := by simpa using hv3
      have h30 := hI3.1
      refine ⟨up_start (len0 _), fun v4 hI4 => ?_⟩
      unfold impl_PlanOk_C2 impl_PlanOk_C1
      rw [bars_bad hI3.1 hI4.1]
      have h40 := hI4.1
      refine ⟨fun e4 => up_step (by omega) hI3 hv3 (nany_range fun j j0 j1 => up_end hI4 e4 j j0 j1), fun hv4 => ?_⟩
      have hv4' : v4 < (a0.ways.length : Int) := by simpa using hv4
      have r3 := rl v3 hI3.1 hv3'
      have r4 := rl v4 hI4.1 hv4'
      refine ⟨⟨⟨⟨h30, by omega⟩, ⟨h40, by omega⟩, ⟨h40, by omega⟩, ⟨h30, by omega⟩, fun _ _ => ⟨⟨h30, by omega⟩, ⟨h40, by omega⟩, fun _ => ⟨⟨h30, by omega⟩, ⟨h40, by omega⟩⟩⟩⟩, fun hbad => ?_⟩, fun hok => up_step (by omega) hI4 hv4 (not_eq hok)⟩
      rw [planBars_5 hl f2 (first_range_some h30 hv3' (fun j j0 j1 => hI3.2.2 j j0 j1) (any_range h40 hv4' hbad))]
      exact ⟨rfl, by show v3 = (v3.toNat : Int); omega⟩

theorem impl_PlanOk_V (a0 : Plan) : FnV Try.prog 26 [.agg (ePlan false a0)] (.agg (eFault (planOk a0))) := impl_PlanOk_walk a0 (planOk a0) (upI a0.switches.length (fun j => !inR (nth a0.switches j) 0 (a0.sections - 1))) (upM a0.switches.length) (fun _ => upI a0.ways.length (fun j => !wayGood a0 (nth a0.ways j))) (fun _ => upM a0.ways.length) (fun _ _ => upI a0.bars.length (fun j => decide ((nth a0.bars j).length ≠ a0.ways.length))) (fun _ _ => upM a0.bars.length) (fun _ _ _ => upI a0.ways.length (fun i => (List.range a0.ways.length).any fun k => barBad a0 i.toNat k)) (fun _ _ _ => upM a0.ways.length) (fun _ _ _ i => upI a0.ways.length (fun k => barBad a0 i.toNat k.toNat)) (fun _ _ _ _ => upM a0.ways.length) (impl_PlanOk_vc a0)

end Go.Proofs.Ytglpfccgmfhkdaa.Fw
