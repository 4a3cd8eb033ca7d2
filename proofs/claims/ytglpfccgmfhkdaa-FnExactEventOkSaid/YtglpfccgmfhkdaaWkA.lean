/- Walks and summaries of functions, printed by a program of mine (tools/mk.py), with the proofs of what they owe. -/
import Derived.Test.YtglpfccgmfhkdaaProg
import Derived.Test.YtglpfccgmfhkdaaSpC
set_option linter.unusedVariables false
set_option maxRecDepth 100000
set_option linter.unusedSimpArgs false
namespace Go.Proofs.Ytglpfccgmfhkdaa.Fw
open Go
attribute [local irreducible] evS evSD WpS Weak Oper.looksAt
noncomputable def laws_szIntS_b : Code := bodyC Try.f64
def laws_szIntS_C (a0 : (List Int)) (a1 : Int) (res : Int) : Prop :=
  a0.length ≤ 4611686018427387904 → ((decide ((IntKind.i64.wrap (a1 - (a0.length : Int))) < 0)) = true → (-1) = res) ∧ ((!(decide ((IntKind.i64.wrap (a1 - (a0.length : Int))) < 0))) = true → (IntKind.i64.wrap (a1 - (a0.length : Int))) = res)
set_option maxHeartbeats 4000000 in
theorem laws_szIntS_walk (a0 : (List Int)) (a1 : Int) (res : Int) (h : laws_szIntS_C a0 a1 res) : FnV Try.prog 64 [.lst (List.map eInt a0) false false, .int .i64 a1] (.int .i64 res) := by
  unfold laws_szIntS_C at h
  refine FnS.of_body (fn := Try.f64) (c := laws_szIntS_b) Try.func64 (by kernel_rfl) (by kernel_rfl) ?_
  refine WpS.codeIs (c' := (nv laws_szIntS_b 1)) (by kernel_rfl) ?_
  refine WpS.start (st' := ⟨(mkS 12 [(0, .lst (List.map eInt a0) false false), (1, .int .i64 a1)]), [], []⟩) (by kernel_rfl) ?_
  refine cSeqG ⟨(mkS 12 [(0, .lst (List.map eInt a0) false false), (1, .int .i64 a1)]), [], []⟩ (True) ?_ (fun q1 => ?_)
  · skip
    refine rgS [] 0 ?_
    refine sEnd [(4, .int .i64 0)] ?_
    refine QJoin.normal trivial ?_
    exact wkJ (by kernel_rfl)
  refine cSeqG ⟨(mkS 12 [(1, .int .i64 (IntKind.i64.wrap (a1 - (a0.length : Int))))]), [], []⟩ (a0.length ≤ 4611686018427387904) ?_ (fun q2 => ?_)
  · skip
    refine rgS [] 1 ?_
    refine sLen 3 (some 7) [(6, .lst (List.map eInt a0) false false), (5, .int .i64 a1)] eInt a0 (fun q3 => ?_)
    refine sEnd [(1, .int .i64 (IntKind.i64.wrap (a1 - (a0.length : Int)))), (8, .int .i64 (IntKind.i64.wrap (a1 - (a0.length : Int))))] ?_
    refine QJoin.normal q3 ?_
    exact wkJ (by kernel_rfl)
  replace h := h q2
  obtain ⟨q9, h⟩ := h
  refine cSeqG ⟨(mkS 12 [(1, .int .i64 (IntKind.i64.wrap (a1 - (a0.length : Int))))]), [], []⟩ ((!(decide ((IntKind.i64.wrap (a1 - (a0.length : Int))) < 0))) = true) ?_ (fun q4 => ?_)
  · replace h := q9
    refine cSeqG ⟨(mkS 12 [(1, .int .i64 (IntKind.i64.wrap (a1 - (a0.length : Int)))), (10, .bool (decide ((IntKind.i64.wrap (a1 - (a0.length : Int))) < 0)))]), [], []⟩ (True) ?_ (fun q5 => ?_)
    · skip
      refine rgS [] 2 ?_
      refine sEnd [(10, .bool (decide ((IntKind.i64.wrap (a1 - (a0.length : Int))) < 0))), (9, .int .i64 (IntKind.i64.wrap (a1 - (a0.length : Int))))] ?_
      refine QJoin.normal trivial ?_
      exact wkJ (by kernel_rfl)
    refine cCond (.tmp 10) (decide ((IntKind.i64.wrap (a1 - (a0.length : Int))) < 0)) (fun q6 => ?_) (fun q6 => ?_)
    · replace h := h q6
      refine cSeqG ⟨(mkS 12 [(4, .int .i64 (-1))]), [], []⟩ (True) ?_ (fun q7 => ?_)
      · skip
        refine rgS [] 3 ?_
        refine sEnd [(4, .int .i64 (-1))] ?_
        refine QJoin.normal trivial ?_
        exact wkJ (by kernel_rfl)
      refine cRet ?_
      refine QJoin.ret ?_
      refine rtS (.int .i64 (-1)) [.int .i64 (-1)] ?_
      exact (SnapR3.of1 (sr_int (H := []) (a := (-1)) (b := res) h))
    · skip
      refine cSkip ?_
      refine QJoin.normal (by simp only [q6, Bool.true_or, Bool.false_or, Bool.true_and, Bool.false_and, Bool.not_true, Bool.not_false, Bool.and_true, Bool.and_false, Bool.or_true, Bool.or_false, cond_true, cond_false]) ?_
      exact wkJ (by kernel_rfl)
  replace h := h q4
  refine cSeqG ⟨(mkS 12 [(4, .int .i64 (IntKind.i64.wrap (a1 - (a0.length : Int))))]), [], []⟩ (True) ?_ (fun q8 => ?_)
  · skip
    refine rgS [] 4 ?_
    refine sEnd [(4, .int .i64 (IntKind.i64.wrap (a1 - (a0.length : Int)))), (11, .int .i64 (IntKind.i64.wrap (a1 - (a0.length : Int))))] ?_
    refine QJoin.normal trivial ?_
    exact wkJ (by kernel_rfl)
  refine cRet ?_
  refine rtS (.int .i64 (IntKind.i64.wrap (a1 - (a0.length : Int)))) [.int .i64 (IntKind.i64.wrap (a1 - (a0.length : Int)))] ?_
  exact (SnapR3.of1 (sr_int (H := []) (a := (IntKind.i64.wrap (a1 - (a0.length : Int)))) (b := res) h))

set_option maxHeartbeats 4000000 in
theorem laws_szIntS_vc (a0 : (List Int)) (a1 : Int) (hp : okL a0 a1) : laws_szIntS_C a0 a1 (szL a0 a1) := by
  unfold laws_szIntS_C
  exact fun hn => sz_len hp hn

theorem laws_szIntS_V (a0 : (List Int)) (a1 : Int) (hp : okL a0 a1) : FnV Try.prog 64 [.lst (List.map eInt a0) false false, .int .i64 a1] (.int .i64 (szL a0 a1)) := laws_szIntS_walk a0 a1 (szL a0 a1) (laws_szIntS_vc a0 a1 hp)

noncomputable def laws_szLieS_b : Code := bodyC Try.f159
def laws_szLieS_C (a0 : (List Lie)) (a1 : Int) (res : Int) : Prop :=
  a0.length ≤ 4611686018427387904 → ((decide ((IntKind.i64.wrap (a1 - (a0.length : Int))) < 0)) = true → (-1) = res) ∧ ((!(decide ((IntKind.i64.wrap (a1 - (a0.length : Int))) < 0))) = true → (IntKind.i64.wrap (a1 - (a0.length : Int))) = res)
set_option maxHeartbeats 4000000 in
theorem laws_szLieS_walk (a0 : (List Lie)) (a1 : Int) (res : Int) (h : laws_szLieS_C a0 a1 res) : FnV Try.prog 159 [.lst (List.map eLie a0) false false, .int .i64 a1] (.int .i64 res) := by
  unfold laws_szLieS_C at h
  refine FnS.of_body (fn := Try.f159) (c := laws_szLieS_b) Try.func159 (by kernel_rfl) (by kernel_rfl) ?_
  refine WpS.codeIs (c' := (nv laws_szLieS_b 1)) (by kernel_rfl) ?_
  refine WpS.start (st' := ⟨(mkS 12 [(0, .lst (List.map eLie a0) false false), (1, .int .i64 a1)]), [], []⟩) (by kernel_rfl) ?_
  refine cSeqG ⟨(mkS 12 [(0, .lst (List.map eLie a0) false false), (1, .int .i64 a1)]), [], []⟩ (True) ?_ (fun q1 => ?_)
  · skip
    refine rgS [] 0 ?_
    refine sEnd [(4, .int .i64 0)] ?_
    refine QJoin.normal trivial ?_
    exact wkJ (by kernel_rfl)
  refine cSeqG ⟨(mkS 12 [(1, .int .i64 (IntKind.i64.wrap (a1 - (a0.length : Int))))]), [], []⟩ (a0.length ≤ 4611686018427387904) ?_ (fun q2 => ?_)
  · skip
    refine rgS [] 1 ?_
    refine sLen 3 (some 7) [(6, .lst (List.map eLie a0) false false), (5, .int .i64 a1)] eLie a0 (fun q3 => ?_)
    refine sEnd [(1, .int .i64 (IntKind.i64.wrap (a1 - (a0.length : Int)))), (8, .int .i64 (IntKind.i64.wrap (a1 - (a0.length : Int))))] ?_
    refine QJoin.normal q3 ?_
    exact wkJ (by kernel_rfl)
  replace h := h q2
  obtain ⟨q9, h⟩ := h
  refine cSeqG ⟨(mkS 12 [(1, .int .i64 (IntKind.i64.wrap (a1 - (a0.length : Int))))]), [], []⟩ ((!(decide ((IntKind.i64.wrap (a1 - (a0.length : Int))) < 0))) = true) ?_ (fun q4 => ?_)
  · replace h := q9
    refine cSeqG ⟨(mkS 12 [(1, .int .i64 (IntKind.i64.wrap (a1 - (a0.length : Int)))), (10, .bool (decide ((IntKind.i64.wrap (a1 - (a0.length : Int))) < 0)))]), [], []⟩ (True) ?_ (fun q5 => ?_)
    · skip
      refine rgS [] 2 ?_
      refine sEnd [(10, .bool (decide ((IntKind.i64.wrap (a1 - (a0.length : Int))) < 0))), (9, .int .i64 (IntKind.i64.wrap (a1 - (a0.length : Int))))] ?_
      refine QJoin.normal trivial ?_
      exact wkJ (by kernel_rfl)
    refine cCond (.tmp 10) (decide ((IntKind.i64.wrap (a1 - (a0.length : Int))) < 0)) (fun q6 => ?_) (fun q6 => ?_)
    · replace h := h q6
      refine cSeqG ⟨(mkS 12 [(4, .int .i64 (-1))]), [], []⟩ (True) ?_ (fun q7 => ?_)
      · skip
        refine rgS [] 3 ?_
        refine sEnd [(4, .int .i64 (-1))] ?_
        refine QJoin.normal trivial ?_
        exact wkJ (by kernel_rfl)
      refine cRet ?_
      refine QJoin.ret ?_
      refine rtS (.int .i64 (-1)) [.int .i64 (-1)] ?_
      exact (SnapR3.of1 (sr_int (H := []) (a := (-1)) (b := res) h))
    · skip
      refine cSkip ?_
      refine QJoin.normal (by simp only [q6, Bool.true_or, Bool.false_or, Bool.true_and, Bool.false_and, Bool.not_true, Bool.not_false, Bool.and_true, Bool.and_false, Bool.or_true, Bool.or_false, cond_true, cond_false]) ?_
      exact wkJ (by kernel_rfl)
  replace h := h q4
  refine cSeqG ⟨(mkS 12 [(4, .int .i64 (IntKind.i64.wrap (a1 - (a0.length : Int))))]), [], []⟩ (True) ?_ (fun q8 => ?_)
  · skip
    refine rgS [] 4 ?_
    refine sEnd [(4, .int .i64 (IntKind.i64.wrap (a1 - (a0.length : Int)))), (11, .int .i64 (IntKind.i64.wrap (a1 - (a0.length : Int))))] ?_
    refine QJoin.normal trivial ?_
    exact wkJ (by kernel_rfl)
  refine cRet ?_
  refine rtS (.int .i64 (IntKind.i64.wrap (a1 - (a0.length : Int)))) [.int .i64 (IntKind.i64.wrap (a1 - (a0.length : Int)))] ?_
  exact (SnapR3.of1 (sr_int (H := []) (a := (IntKind.i64.wrap (a1 - (a0.length : Int)))) (b := res) h))

set_option maxHeartbeats 4000000 in
theorem laws_szLieS_vc (a0 : (List Lie)) (a1 : Int) (hp : okL a0 a1) : laws_szLieS_C a0 a1 (szL a0 a1) := by
  unfold laws_szLieS_C
  exact fun hn => sz_len hp hn

theorem laws_szLieS_V (a0 : (List Lie)) (a1 : Int) (hp : okL a0 a1) : FnV Try.prog 159 [.lst (List.map eLie a0) false false, .int .i64 a1] (.int .i64 (szL a0 a1)) := laws_szLieS_walk a0 a1 (szL a0 a1) (laws_szLieS_vc a0 a1 hp)

noncomputable def laws_szWay_b : Code := bodyC Try.f125
def laws_szWay_C1 (a0 : Way) (a1 : Int) (res : Int) : Prop :=
  ((decide ((szL a0.over (szL a0.flanks (szL a0.lies (szL a0.sections a1)))) < 0)) = true → (-1) = res) ∧ ((!(decide ((szL a0.over (szL a0.flanks (szL a0.lies (szL a0.sections a1)))) < 0))) = true → (okL a0.near (szL a0.over (szL a0.flanks (szL a0.lies (szL a0.sections a1))))) ∧ (((decide ((szL a0.near (szL a0.over (szL a0.flanks (szL a0.lies (szL a0.sections a1))))) < 0)) = true → (-1) = res) ∧ ((!(decide ((szL a0.near (szL a0.over (szL a0.flanks (szL a0.lies (szL a0.sections a1))))) < 0))) = true → (szL a0.near (szL a0.over (szL a0.flanks (szL a0.lies (szL a0.sections a1))))) = res)))
def laws_szWay_C2 (a0 : Way) (a1 : Int) (res : Int) : Prop :=
  ((decide ((szL a0.lies (szL a0.sections a1)) < 0)) = true → (-1) = res) ∧ ((!(decide ((szL a0.lies (szL a0.sections a1)) < 0))) = true → (okL a0.flanks (szL a0.lies (szL a0.sections a1))) ∧ (((decide ((szL a0.flanks (szL a0.lies (szL a0.sections a1))) < 0)) = true → (-1) = res) ∧ ((!(decide ((szL a0.flanks (szL a0.lies (szL a0.sections a1))) < 0))) = true → (okL a0.over (szL a0.flanks (szL a0.lies (szL a0.sections a1)))) ∧ (laws_szWay_C1 a0 a1 res))))
def laws_szWay_C (a0 : Way) (a1 : Int) (res : Int) : Prop :=
  (okL a0.sections a1) ∧ (((decide ((szL a0.sections a1) < 0)) = true → (-1) = res) ∧ ((!(decide ((szL a0.sections a1) < 0))) = true → (okL a0.lies (szL a0.sections a1)) ∧ (laws_szWay_C2 a0 a1 res)))
set_option maxHeartbeats 4000000 in
theorem laws_szWay_walk (a0 : Way) (a1 : Int) (res : Int) (h : laws_szWay_C a0 a1 res) : FnV Try.prog 125 [.agg (eWay false a0), .int .i64 a1] (.int .i64 res) := by
  unfold laws_szWay_C at h
  refine FnS.of_body (fn := Try.f125) (c := laws_szWay_b) Try.func125 (by kernel_rfl) (by kernel_rfl) ?_
  refine WpS.codeIs (c' := (nv laws_szWay_b 1)) (by kernel_rfl) ?_
  refine WpS.start (st' := ⟨(mkS 36 [(0, .agg (eWay false a0)), (1, .int .i64 a1)]), [], []⟩) (by kernel_rfl) ?_
  refine cSeqG ⟨(mkS 36 [(1, .int .i64 a1), (2, .lptr 2 0)]), [(2, (eWay false a0))], []⟩ (True) ?_ (fun q1 => ?_)
  · skip
    refine rgS [] 0 ?_
    refine sEnd' [(4, .int .i64 0), (2, .lptr 2 0)] [(2, (eWay false a0))] [] ?_
    refine QJoin.normal trivial ?_
    exact wkJ (by kernel_rfl)
  obtain ⟨q42, h⟩ := h
  refine cSeqG ⟨(mkS 36 [(1, .int .i64 (szL a0.sections a1)), (2, .lptr 2 0)]), [(2, (eWay false a0))], []⟩ (True) ?_ (fun q2 => ?_)
  · replace h := q42
    refine rgS [] 1 ?_
    have q3 := h
    refine sCallV 4 (some 8) [(7, .int .i64 a1), (6, .lst (List.map eInt a0.sections) false false), (5, .lptr 2 0)] [.lst (List.map eInt a0.sections) false false, .int .i64 a1] (laws_szIntS_V a0.sections a1 q3) (PW.cons (Snap2.of1 sa_lst) (PW.cons (Snap2.of1 (.int _ _)) PW.nil)) ?_
    refine sEnd [(1, .int .i64 (szL a0.sections a1))] ?_
    refine QJoin.normal trivial ?_
    exact wkJ (by kernel_rfl)
  obtain ⟨q41, h⟩ := h
  refine cSeqG ⟨(mkS 36 [(1, .int .i64 (szL a0.sections a1)), (2, .lptr 2 0)]), [(2, (eWay false a0))], []⟩ ((!(decide ((szL a0.sections a1) < 0))) = true) ?_ (fun q4 => ?_)
  · replace h := q41
    refine cSeqG ⟨(mkS 36 [(1, .int .i64 (szL a0.sections a1)), (2, .lptr 2 0), (10, .bool (decide ((szL a0.sections a1) < 0)))]), [(2, (eWay false a0))], []⟩ (True) ?_ (fun q5 => ?_)
    · skip
      refine rgS [] 2 ?_
      refine sEnd [(10, .bool (decide ((szL a0.sections a1) < 0))), (9, .int .i64 (szL a0.sections a1))] ?_
      refine QJoin.normal trivial ?_
      exact wkJ (by kernel_rfl)
    refine cCond (.tmp 10) (decide ((szL a0.sections a1) < 0)) (fun q6 => ?_) (fun q6 => ?_)
    · replace h := h q6
      refine cSeqG ⟨(mkS 36 [(4, .int .i64 (-1))]), [(2, (eWay false a0))], []⟩ (True) ?_ (fun q7 => ?_)
      · skip
        refine rgS [] 3 ?_
        refine sEnd [(4, .int .i64 (-1))] ?_
        refine QJoin.normal trivial ?_
        exact wkJ (by kernel_rfl)
      refine cRet ?_
      refine QJoin.ret ?_
      refine rtS (.int .i64 (-1)) [.int .i64 (-1)] ?_
      exact (SnapR3.of1 (sr_int (H := []) (a := (-1)) (b := res) h))
    · skip
      refine cSkip ?_
      refine QJoin.normal (by simp only [q6, Bool.true_or, Bool.false_or, Bool.true_and, Bool.false_and, Bool.not_true, Bool.not_false, Bool.and_true, Bool.and_false, Bool.or_true, Bool.or_false, cond_true, cond_false]) ?_
      exact wkJ (by kernel_rfl)
  replace h := h q4
  obtain ⟨q40, h⟩ := h
  refine cSeqG ⟨(mkS 36 [(1, .int .i64 (szL a0.lies (szL a0.sections a1))), (2, .lptr 2 0)]), [(2, (eWay false a0))], []⟩ (True) ?_ (fun q8 => ?_)
  · replace h := q40
    refine rgS [] 4 ?_
    have q9 := h
    refine sCallV 4 (some 14) [(13, .int .i64 (szL a0.sections a1)), (12, .lst (List.map eLie a0.lies) false false), (11, .lptr 2 1)] [.lst (List.map eLie a0.lies) false false, .int .i64 (szL a0.sections a1)] (laws_szLieS_V a0.lies (szL a0.sections a1) q9) (PW.cons (Snap2.of1 sa_lst) (PW.cons (Snap2.of1 (.int _ _)) PW.nil)) ?_
    refine sEnd [(1, .int .i64 (szL a0.lies (szL a0.sections a1)))] ?_
    refine QJoin.normal trivial ?_
    exact wkJ (by kernel_rfl)
  unfold laws_szWay_C2 at h
  obtain ⟨q39, h⟩ := h
  refine cSeqG ⟨(mkS 36 [(1, .int .i64 (szL a0.lies (szL a0.sections a1))), (2, .lptr 2 0)]), [(2, (eWay false a0))], []⟩ ((!(decide ((szL a0.lies (szL a0.sections a1)) < 0))) = true) ?_ (fun q10 => ?_)
  · replace h := q39
    refine cSeqG ⟨(mkS 36 [(1, .int .i64 (szL a0.lies (szL a0.sections a1))), (2, .lptr 2 0), (16, .bool (decide ((szL a0.lies (szL a0.sections a1)) < 0)))]), [(2, (eWay false a0))], []⟩ (True) ?_ (fun q11 => ?_)
    · skip
      refine rgS [] 5 ?_
      refine sEnd [(16, .bool (decide ((szL a0.lies (szL a0.sections a1)) < 0))), (15, .int .i64 (szL a0.lies (szL a0.sections a1)))] ?_
      refine QJoin.normal trivial ?_
      exact wkJ (by kernel_rfl)
    refine cCond (.tmp 16) (decide ((szL a0.lies (szL a0.sections a1)) < 0)) (fun q12 => ?_) (fun q12 => ?_)
    · replace h := h q12
      refine cSeqG ⟨(mkS 36 [(4, .int .i64 (-1))]), [(2, (eWay false a0))], []⟩ (True) ?_ (fun q13 => ?_)
      · skip
        refine rgS [] 6 ?_
        refine sEnd [(4, .int .i64 (-1))] ?_
        refine QJoin.normal trivial ?_
        exact wkJ (by kernel_rfl)
      refine cRet ?_
      refine QJoin.ret ?_
      refine rtS (.int .i64 (-1)) [.int .i64 (-1)] ?_
      exact (SnapR3.of1 (sr_int (H := []) (a := (-1)) (b := res) h))
    · skip
      refine cSkip ?_
      refine QJoin.normal (by simp only [q4, q12, Bool.true_or, Bool.false_or, Bool.true_and, Bool.false_and, Bool.not_true, Bool.not_false, Bool.and_true, Bool.and_false, Bool.or_true, Bool.or_false, cond_true, cond_false]) ?_
      exact wkJ (by kernel_rfl)
  replace h := h q10
  obtain ⟨q38, h⟩ := h
  refine cSeqG ⟨(mkS 36 [(1, .int .i64 (szL a0.flanks (szL a0.lies (szL a0.sections a1)))), (2, .lptr 2 0)]), [(2, (eWay false a0))], []⟩ (True) ?_ (fun q14 => ?_)
  · replace h := q38
    refine rgS [] 7 ?_
    have q15 := h
    refine sCallV 4 (some 20) [(19, .int .i64 (szL a0.lies (szL a0.sections a1))), (18, .lst (List.map eLie a0.flanks) false false), (17, .lptr 2 2)] [.lst (List.map eLie a0.flanks) false false, .int .i64 (szL a0.lies (szL a0.sections a1))] (laws_szLieS_V a0.flanks (szL a0.lies (szL a0.sections a1)) q15) (PW.cons (Snap2.of1 sa_lst) (PW.cons (Snap2.of1 (.int _ _)) PW.nil)) ?_
    refine sEnd [(1, .int .i64 (szL a0.flanks (szL a0.lies (szL a0.sections a1))))] ?_
    refine QJoin.normal trivial ?_
    exact wkJ (by kernel_rfl)
  obtain ⟨q37, h⟩ := h
  refine cSeqG ⟨(mkS 36 [(1, .int .i64 (szL a0.flanks (szL a0.lies (szL a0.sections a1)))), (2, .lptr 2 0)]), [(2, (eWay false a0))], []⟩ ((!(decide ((szL a0.flanks (szL a0.lies (szL a0.sections a1))) < 0))) = true) ?_ (fun q16 => ?_)
  · replace h := q37
    refine cSeqG ⟨(mkS 36 [(1, .int .i64 (szL a0.flanks (szL a0.lies (szL a0.sections a1)))), (2, .lptr 2 0), (22, .bool (decide ((szL a0.flanks (szL a0.lies (szL a0.sections a1))) < 0)))]), [(2, (eWay false a0))], []⟩ (True) ?_ (fun q17 => ?_)
    · skip
      refine rgS [] 8 ?_
      refine sEnd [(22, .bool (decide ((szL a0.flanks (szL a0.lies (szL a0.sections a1))) < 0))), (21, .int .i64 (szL a0.flanks (szL a0.lies (szL a0.sections a1))))] ?_
      refine QJoin.normal trivial ?_
      exact wkJ (by kernel_rfl)
    refine cCond (.tmp 22) (decide ((szL a0.flanks (szL a0.lies (szL a0.sections a1))) < 0)) (fun q18 => ?_) (fun q18 => ?_)
    · replace h := h q18
      refine cSeqG ⟨(mkS 36 [(4, .int .i64 (-1))]), [(2, (eWay false a0))], []⟩ (True) ?_ (fun q19 => ?_)
      · skip
        refine rgS [] 9 ?_
        refine sEnd [(4, .int .i64 (-1))] ?_
        refine QJoin.normal trivial ?_
        exact wkJ (by kernel_rfl)
      refine cRet ?_
      refine QJoin.ret ?_
      refine rtS (.int .i64 (-1)) [.int .i64 (-1)] ?_
      exact (SnapR3.of1 (sr_int (H := []) (a := (-1)) (b := res) h))
    · skip
      refine cSkip ?_
      refine QJoin.normal (by simp only [q4, q10, q18, Bool.true_or, Bool.false_or, Bool.true_and, Bool.false_and, Bool.not_true, Bool.not_false, Bool.and_true, Bool.and_false, Bool.or_true, Bool.or_false, cond_true, cond_false]) ?_
      exact wkJ (by kernel_rfl)
  replace h := h q16
  obtain ⟨q36, h⟩ := h
  refine cSeqG ⟨(mkS 36 [(1, .int .i64 (szL a0.over (szL a0.flanks (szL a0.lies (szL a0.sections a1))))), (2, .lptr 2 0)]), [(2, (eWay false a0))], []⟩ (True) ?_ (fun q20 => ?_)
  · replace h := q36
    refine rgS [] 10 ?_
    have q21 := h
    refine sCallV 4 (some 26) [(25, .int .i64 (szL a0.flanks (szL a0.lies (szL a0.sections a1)))), (24, .lst (List.map eInt a0.over) false false), (23, .lptr 2 3)] [.lst (List.map eInt a0.over) false false, .int .i64 (szL a0.flanks (szL a0.lies (szL a0.sections a1)))] (laws_szIntS_V a0.over (szL a0.flanks (szL a0.lies (szL a0.sections a1))) q21) (PW.cons (Snap2.of1 sa_lst) (PW.cons (Snap2.of1 (.int _ _)) PW.nil)) ?_
    refine sEnd [(1, .int .i64 (szL a0.over (szL a0.flanks (szL a0.lies (szL a0.sections a1)))))] ?_
    refine QJoin.normal trivial ?_
    exact wkJ (by kernel_rfl)
  unfold laws_szWay_C1 at h
  obtain ⟨q35, h⟩ := h
  refine cSeqG ⟨(mkS 36 [(1, .int .i64 (szL a0.over (szL a0.flanks (szL a0.lies (szL a0.sections a1))))), (2, .lptr 2 0)]), [(2, (eWay false a0))], []⟩ ((!(decide ((szL a0.over (szL a0.flanks (szL a0.lies (szL a0.sections a1)))) < 0))) = true) ?_ (fun q22 => ?_)
  · replace h := q35
    refine cSeqG ⟨(mkS 36 [(1, .int .i64 (szL a0.over (szL a0.flanks (szL a0.lies (szL a0.sections a1))))), (2, .lptr 2 0), (28, .bool (decide ((szL a0.over (szL a0.flanks (szL a0.lies (szL a0.sections a1)))) < 0)))]), [(2, (eWay false a0))], []⟩ (True) ?_ (fun q23 => ?_)
    · skip
      refine rgS [] 11 ?_
      refine sEnd [(28, .bool (decide ((szL a0.over (szL a0.flanks (szL a0.lies (szL a0.sections a1)))) < 0))), (27, .int .i64 (szL a0.over (szL a0.flanks (szL a0.lies (szL a0.sections a1)))))] ?_
      refine QJoin.normal trivial ?_
      exact wkJ (by kernel_rfl)
    refine cCond (.tmp 28) (decide ((szL a0.over (szL a0.flanks (szL a0.lies (szL a0.sections a1)))) < 0)) (fun q24 => ?_) (fun q24 => ?_)
    · replace h := h q24
      refine cSeqG ⟨(mkS 36 [(4, .int .i64 (-1))]), [(2, (eWay false a0))], []⟩ (True) ?_ (fun q25 => ?_)
      · skip
        refine rgS [] 12 ?_
        refine sEnd [(4, .int .i64 (-1))] ?_
        refine QJoin.normal trivial ?_
        exact wkJ (by kernel_rfl)
      refine cRet ?_
      refine QJoin.ret ?_
      refine rtS (.int .i64 (-1)) [.int .i64 (-1)] ?_
      exact (SnapR3.of1 (sr_int (H := []) (a := (-1)) (b := res) h))
    · skip
      refine cSkip ?_
      refine QJoin.normal (by simp only [q4, q10, q16, q24, Bool.true_or, Bool.false_or, Bool.true_and, Bool.false_and, Bool.not_true, Bool.not_false, Bool.and_true, Bool.and_false, Bool.or_true, Bool.or_false, cond_true, cond_false]) ?_
      exact wkJ (by kernel_rfl)
  replace h := h q22
  obtain ⟨q34, h⟩ := h
  refine cSeqG ⟨(mkS 36 [(1, .int .i64 (szL a0.near (szL a0.over (szL a0.flanks (szL a0.lies (szL a0.sections a1))))))]), [(2, (eWay false a0))], []⟩ (True) ?_ (fun q26 => ?_)
  · replace h := q34
    refine rgS [] 13 ?_
    have q27 := h
    refine sCallV 4 (some 32) [(31, .int .i64 (szL a0.over (szL a0.flanks (szL a0.lies (szL a0.sections a1))))), (30, .lst (List.map eInt a0.near) false false), (29, .lptr 2 4)] [.lst (List.map eInt a0.near) false false, .int .i64 (szL a0.over (szL a0.flanks (szL a0.lies (szL a0.sections a1))))] (laws_szIntS_V a0.near (szL a0.over (szL a0.flanks (szL a0.lies (szL a0.sections a1)))) q27) (PW.cons (Snap2.of1 sa_lst) (PW.cons (Snap2.of1 (.int _ _)) PW.nil)) ?_
    refine sEnd [(1, .int .i64 (szL a0.near (szL a0.over (szL a0.flanks (szL a0.lies (szL a0.sections a1))))))] ?_
    refine QJoin.normal trivial ?_
    exact wkJ (by kernel_rfl)
  obtain ⟨q33, h⟩ := h
  refine cSeqG ⟨(mkS 36 [(1, .int .i64 (szL a0.near (szL a0.over (szL a0.flanks (szL a0.lies (szL a0.sections a1))))))]), [(2, (eWay false a0))], []⟩ ((!(decide ((szL a0.near (szL a0.over (szL a0.flanks (szL a0.lies (szL a0.sections a1))))) < 0))) = true) ?_ (fun q28 => ?_)
  · replace h := q33
    refine cSeqG ⟨(mkS 36 [(1, .int .i64 (szL a0.near (szL a0.over (szL a0.flanks (szL a0.lies (szL a0.sections a1)))))), (34, .bool (decide ((szL a0.near (szL a0.over (szL a0.flanks (szL a0.lies (szL a0.sections a1))))) < 0)))]), [(2, (eWay false a0))], []⟩ (True) ?_ (fun q29 => ?_)
    · skip
      refine rgS [] 14 ?_
      refine sEnd [(34, .bool (decide ((szL a0.near (szL a0.over (szL a0.flanks (szL a0.lies (szL a0.sections a1))))) < 0))), (33, .int .i64 (szL a0.near (szL a0.over (szL a0.flanks (szL a0.lies (szL a0.sections a1))))))] ?_
      refine QJoin.normal trivial ?_
      exact wkJ (by kernel_rfl)
    refine cCond (.tmp 34) (decide ((szL a0.near (szL a0.over (szL a0.flanks (szL a0.lies (szL a0.sections a1))))) < 0)) (fun q30 => ?_) (fun q30 => ?_)
    · replace h := h q30
      refine cSeqG ⟨(mkS 36 [(4, .int .i64 (-1))]), [(2, (eWay false a0))], []⟩ (True) ?_ (fun q31 => ?_)
      · skip
        refine rgS [] 15 ?_
        refine sEnd [(4, .int .i64 (-1))] ?_
        refine QJoin.normal trivial ?_
        exact wkJ (by kernel_rfl)
      refine cRet ?_
      refine QJoin.ret ?_
      refine rtS (.int .i64 (-1)) [.int .i64 (-1)] ?_
      exact (SnapR3.of1 (sr_int (H := []) (a := (-1)) (b := res) h))
    · skip
      refine cSkip ?_
      refine QJoin.normal (by simp only [q4, q10, q16, q22, q30, Bool.true_or, Bool.false_or, Bool.true_and, Bool.false_and, Bool.not_true, Bool.not_false, Bool.and_true, Bool.and_false, Bool.or_true, Bool.or_false, cond_true, cond_false]) ?_
      exact wkJ (by kernel_rfl)
  replace h := h q28
  refine cSeqG ⟨(mkS 36 [(4, .int .i64 (szL a0.near (szL a0.over (szL a0.flanks (szL a0.lies (szL a0.sections a1))))))]), [(2, (eWay false a0))], []⟩ (True) ?_ (fun q32 => ?_)
  · skip
    refine rgS [] 16 ?_
    refine sEnd [(4, .int .i64 (szL a0.near (szL a0.over (szL a0.flanks (szL a0.lies (szL a0.sections a1)))))), (35, .int .i64 (szL a0.near (szL a0.over (szL a0.flanks (szL a0.lies (szL a0.sections a1))))))] ?_
    refine QJoin.normal trivial ?_
    exact wkJ (by kernel_rfl)
  refine cRet ?_
  refine rtS (.int .i64 (szL a0.near (szL a0.over (szL a0.flanks (szL a0.lies (szL a0.sections a1)))))) [.int .i64 (szL a0.near (szL a0.over (szL a0.flanks (szL a0.lies (szL a0.sections a1)))))] ?_
  exact (SnapR3.of1 (sr_int (H := []) (a := (szL a0.near (szL a0.over (szL a0.flanks (szL a0.lies (szL a0.sections a1)))))) (b := res) h))

set_option maxHeartbeats 4000000 in
theorem laws_szWay_vc (a0 : Way) (a1 : Int) (hp : okL a0 a1) : laws_szWay_C a0 a1 (szWay a0 a1) := by
  unfold laws_szWay_C laws_szWay_C2 laws_szWay_C1 szWay wayN szL
  have hp : 0 ≤ a1 ∧ a1 ≤ 1048576 := hp
  refine ⟨hp, sz_step (m := a0.lies.length + a0.flanks.length + a0.over.length + a0.near.length) hp (by omega) fun c k => ⟨k, ?_⟩⟩
  rw [lessN_plus hp.1 c]
  refine sz_step (m := a0.flanks.length + a0.over.length + a0.near.length) hp (by omega) fun c k => ⟨k, ?_⟩
  rw [lessN_plus hp.1 c]
  refine sz_step (m := a0.over.length + a0.near.length) hp (by omega) fun c k => ⟨k, ?_⟩
  rw [lessN_plus hp.1 c]
  refine sz_step (m := a0.near.length) hp (by omega) fun c k => ⟨k, ?_⟩
  rw [lessN_plus hp.1 c]
  exact sz_step (m := 0) hp (by omega) fun c k => rfl

theorem laws_szWay_V (a0 : Way) (a1 : Int) (hp : okL a0 a1) : FnV Try.prog 125 [.agg (eWay false a0), .int .i64 a1] (.int .i64 (szWay a0 a1)) := laws_szWay_walk a0 a1 (szWay a0 a1) (laws_szWay_vc a0 a1 hp)

noncomputable def laws_szWayS_b : Code := bodyC Try.f65
def laws_szWayS_C1 (I0 : Int → Int → Prop) (m0 : Int → Int → Nat) (a0 : (List Way)) (a1 : Int) (res : Int) : Prop :=
  I0 (IntKind.i64.wrap (a1 - (a0.length : Int))) 0 ∧ ∀ (v1 : Int) (v5 : Int), I0 v1 v5 → (((decide (v5 < (a0.length : Int))) = false → v1 = res) ∧ ((decide (v5 < (a0.length : Int))) = true → (((0 ≤ v5 ∧ v5.toNat < a0.length) ∧ (okL (nth a0 v5) v1)) ∧ ((decide ((szWay (nth a0 v5) v1) < 0)) = true → (-1) = res)) ∧ ((!(decide ((szWay (nth a0 v5) v1) < 0))) = true → I0 (szWay (nth a0 v5) v1) (IntKind.i64.wrap (v5 + 1)) ∧ m0 (szWay (nth a0 v5) v1) (IntKind.i64.wrap (v5 + 1)) < m0 v1 v5)))
def laws_szWayS_C (a0 : (List Way)) (a1 : Int) (res : Int) (I0 : Int → Int → Prop) (m0 : Int → Int → Nat) : Prop :=
  a0.length ≤ 4611686018427387904 → ((decide ((IntKind.i64.wrap (a1 - (a0.length : Int))) < 0)) = true → (-1) = res) ∧ ((!(decide ((IntKind.i64.wrap (a1 - (a0.length : Int))) < 0))) = true → laws_szWayS_C1 I0 m0 a0 a1 res)
set_option maxHeartbeats 4000000 in
theorem laws_szWayS_walk (a0 : (List Way)) (a1 : Int) (res : Int) (I0 : Int → Int → Prop) (m0 : Int → Int → Nat) (h : laws_szWayS_C a0 a1 res I0 m0) : FnV Try.prog 65 [.lst (List.map (eWay false) a0) false false, .int .i64 a1] (.int .i64 res) := by
  unfold laws_szWayS_C at h
  refine FnS.of_body (fn := Try.f65) (c := laws_szWayS_b) Try.func65 (by kernel_rfl) (by kernel_rfl) ?_
  refine WpS.codeIs (c' := (nv laws_szWayS_b 1)) (by kernel_rfl) ?_
  refine WpS.start (st' := ⟨(mkS 27 [(0, .lst (List.map (eWay false) a0) false false), (1, .int .i64 a1)]), [], []⟩) (by kernel_rfl) ?_
  refine cSeqG ⟨(mkS 27 [(0, .lst (List.map (eWay false) a0) false false), (1, .int .i64 a1)]), [], []⟩ (True) ?_ (fun q1 => ?_)
  · skip
    refine rgS [] 0 ?_
    refine sEnd [(4, .int .i64 0)] ?_
    refine QJoin.normal trivial ?_
    exact wkJ (by kernel_rfl)
  refine cSeqG ⟨(mkS 27 [(0, .lst (List.map (eWay false) a0) false false), (1, .int .i64 (IntKind.i64.wrap (a1 - (a0.length : Int))))]), [], []⟩ (a0.length ≤ 4611686018427387904) ?_ (fun q2 => ?_)
  · skip
    refine rgS [] 1 ?_
    refine sLen 3 (some 8) [(7, .lst (List.map (eWay false) a0) false false), (6, .int .i64 a1)] (eWay false) a0 (fun q3 => ?_)
    refine sEnd [(1, .int .i64 (IntKind.i64.wrap (a1 - (a0.length : Int)))), (9, .int .i64 (IntKind.i64.wrap (a1 - (a0.length : Int))))] ?_
    refine QJoin.normal q3 ?_
    exact wkJ (by kernel_rfl)
  replace h := h q2
  obtain ⟨q25, h⟩ := h
  refine cSeqG ⟨(mkS 27 [(0, .lst (List.map (eWay false) a0) false false), (1, .int .i64 (IntKind.i64.wrap (a1 - (a0.length : Int))))]), [], []⟩ ((!(decide ((IntKind.i64.wrap (a1 - (a0.length : Int))) < 0))) = true) ?_ (fun q4 => ?_)
  · replace h := q25
    refine cSeqG ⟨(mkS 27 [(0, .lst (List.map (eWay false) a0) false false), (1, .int .i64 (IntKind.i64.wrap (a1 - (a0.length : Int)))), (11, .bool (decide ((IntKind.i64.wrap (a1 - (a0.length : Int))) < 0)))]), [], []⟩ (True) ?_ (fun q5 => ?_)
    · skip
      refine rgS [] 2 ?_
      refine sEnd [(11, .bool (decide ((IntKind.i64.wrap (a1 - (a0.length : Int))) < 0))), (10, .int .i64 (IntKind.i64.wrap (a1 - (a0.length : Int))))] ?_
      refine QJoin.normal trivial ?_
      exact wkJ (by kernel_rfl)
    refine cCond (.tmp 11) (decide ((IntKind.i64.wrap (a1 - (a0.length : Int))) < 0)) (fun q6 => ?_) (fun q6 => ?_)
    · replace h := h q6
      refine cSeqG ⟨(mkS 27 [(4, .int .i64 (-1))]), [], []⟩ (True) ?_ (fun q7 => ?_)
      · skip
        refine rgS [] 3 ?_
        refine sEnd [(4, .int .i64 (-1))] ?_
        refine QJoin.normal trivial ?_
        exact wkJ (by kernel_rfl)
      refine cRet ?_
      refine QJoin.ret ?_
      refine rtS (.int .i64 (-1)) [.int .i64 (-1)] ?_
      exact (SnapR3.of1 (sr_int (H := []) (a := (-1)) (b := res) h))
    · skip
      refine cSkip ?_
      refine QJoin.normal (by simp only [q6, Bool.true_or, Bool.false_or, Bool.true_and, Bool.false_and, Bool.not_true, Bool.not_false, Bool.and_true, Bool.and_false, Bool.or_true, Bool.or_false, cond_true, cond_false]) ?_
      exact wkJ (by kernel_rfl)
  replace h := h q4
  refine cSeq ?_
  refine cSeqG ⟨(mkS 27 [(0, .lst (List.map (eWay false) a0) false false), (1, .int .i64 (IntKind.i64.wrap (a1 - (a0.length : Int)))), (5, .int .i64 0)]), [], []⟩ (True) ?_ (fun q8 => ?_)
  · skip
    refine rgS [] 4 ?_
    refine sEnd [(5, .int .i64 0)] ?_
    refine QJoin.normal trivial ?_
    exact wkJ (by kernel_rfl)
  unfold laws_szWayS_C1 at h
  refine cBlock 0 ?_
  obtain ⟨q24, h⟩ := h
  refine cLoop (fun (v : Int × Int) => (⟨(mkS 27 [(0, .lst (List.map (eWay false) a0) false false), (1, .int .i64 (v.1)), (5, .int .i64 (v.2))]), [], []⟩ : St)) (fun (v : Int × Int) => I0 (v.1) (v.2)) (fun (v : Int × Int) => m0 (v.1) (v.2)) ((IntKind.i64.wrap (a1 - (a0.length : Int))), 0) (wkL []) q24 (fun v hI => ?_)
  obtain ⟨v1, v5⟩ := v
  replace h := h v1 v5 hI
  show WpS _ _ _ ⟨(mkS 27 [(0, .lst (List.map (eWay false) a0) false false), (1, .int .i64 v1), (5, .int .i64 v5)]), [], []⟩
  obtain ⟨q23, h⟩ := h
  refine cSeqG ⟨(mkS 27 [(0, .lst (List.map (eWay false) a0) false false), (1, .int .i64 v1), (5, .int .i64 v5)]), [], []⟩ ((decide (v5 < (a0.length : Int))) = true) ?_ (fun q9 => ?_)
  · replace h := q23
    refine cSeqG ⟨(mkS 27 [(0, .lst (List.map (eWay false) a0) false false), (1, .int .i64 v1), (5, .int .i64 v5), (15, .bool (decide (v5 < (a0.length : Int))))]), [], []⟩ (True) ?_ (fun q10 => ?_)
    · skip
      refine rgS [] 5 ?_
      refine sLen 3 (some 14) [(13, .lst (List.map (eWay false) a0) false false), (12, .int .i64 v5)] (eWay false) a0 (fun q11 => ?_)
      refine sEnd [(15, .bool (decide (v5 < (a0.length : Int))))] ?_
      refine QJoin.normal trivial ?_
      exact wkJ (by kernel_rfl)
    refine cCond (.tmp 15) (decide (v5 < (a0.length : Int))) (fun q12 => ?_) (fun q12 => ?_)
    · skip
      refine cSkip ?_
      refine QJoin.normal (by simp only [q4, q12, Bool.true_or, Bool.false_or, Bool.true_and, Bool.false_and, Bool.not_true, Bool.not_false, Bool.and_true, Bool.and_false, Bool.or_true, Bool.or_false, cond_true, cond_false]) ?_
      exact wkJ (by kernel_rfl)
    · replace h := h q12
      refine cExit 0 ?_
      refine QJoin.exit ?_
      refine QRound.exit ?_
      refine QBlock.here ?_
      refine QSeq.normal ?_
      refine cSeqG ⟨(mkS 27 [(4, .int .i64 v1)]), [], []⟩ (True) ?_ (fun q13 => ?_)
      · skip
        refine rgS [] 10 ?_
        refine sEnd [(4, .int .i64 v1), (26, .int .i64 v1)] ?_
        refine QJoin.normal trivial ?_
        exact wkJ (by kernel_rfl)
      refine cRet ?_
      refine rtS (.int .i64 v1) [.int .i64 v1] ?_
      exact (SnapR3.of1 (sr_int (H := []) (a := v1) (b := res) h))
  replace h := h q9
  obtain ⟨q22, h⟩ := h
  refine cSeqG ⟨(mkS 27 [(0, .lst (List.map (eWay false) a0) false false), (1, .int .i64 (szWay (nth a0 v5) v1)), (5, .int .i64 v5)]), [], []⟩ ((!(decide ((szWay (nth a0 v5) v1) < 0))) = true) ?_ (fun q14 => ?_)
  · replace h := q22
    refine cBlock 1 ?_
    obtain ⟨q21, h⟩ := h
    refine cSeqG ⟨(mkS 27 [(0, .lst (List.map (eWay false) a0) false false), (1, .int .i64 (szWay (nth a0 v5) v1)), (5, .int .i64 v5)]), [], []⟩ (True) ?_ (fun q15 => ?_)
    · replace h := q21
      refine rgS [] 7 ?_
      obtain ⟨q17, h⟩ := h
      refine sIdx 3 (some 20) [(19, .int .i64 v5), (18, .lst (List.map (eWay false) a0) false false)] (eWay false) a0 5 q17 ?_
      have q16 := h
      refine sCallV 3 (some 23) [(22, .int .i64 v1), (21, .agg (eWay false (nth a0 v5)))] [.agg (eWay false (nth a0 v5)), .int .i64 v1] (laws_szWay_V (nth a0 v5) v1 q16) (PW.cons (Snap2.agg (PW.cons sa_lst (PW.cons sa_lst (PW.cons sa_lst (PW.cons sa_lst (PW.cons sa_lst PW.nil)))))) (PW.cons (Snap2.of1 (.int _ _)) PW.nil)) ?_
      refine sEnd [(1, .int .i64 (szWay (nth a0 v5) v1))] ?_
      refine QJoin.normal trivial ?_
      exact wkJ (by kernel_rfl)
    refine cSeqG ⟨(mkS 27 [(0, .lst (List.map (eWay false) a0) false false), (1, .int .i64 (szWay (nth a0 v5) v1)), (5, .int .i64 v5), (25, .bool (decide ((szWay (nth a0 v5) v1) < 0)))]), [], []⟩ (True) ?_ (fun q18 => ?_)
    · skip
      refine rgS [] 8 ?_
      refine sEnd [(25, .bool (decide ((szWay (nth a0 v5) v1) < 0))), (24, .int .i64 (szWay (nth a0 v5) v1))] ?_
      refine QJoin.normal trivial ?_
      exact wkJ (by kernel_rfl)
    refine cCond (.tmp 25) (decide ((szWay (nth a0 v5) v1) < 0)) (fun q19 => ?_) (fun q19 => ?_)
    · replace h := h q19
      refine cSeqG ⟨(mkS 27 [(4, .int .i64 (-1))]), [], []⟩ (True) ?_ (fun q20 => ?_)
      · skip
        refine rgS [] 9 ?_
        refine sEnd [(4, .int .i64 (-1))] ?_
        refine QJoin.normal trivial ?_
        exact wkJ (by kernel_rfl)
      refine cRet ?_
      refine QBlock.ret ?_
      refine QJoin.ret ?_
      refine QRound.ret ?_
      refine QBlock.ret ?_
      refine QSeq.ret ?_
      refine rtS (.int .i64 (-1)) [.int .i64 (-1)] ?_
      exact (SnapR3.of1 (sr_int (H := []) (a := (-1)) (b := res) h))
    · skip
      refine cSkip ?_
      refine QBlock.normal ?_
      refine QJoin.normal (by simp only [q4, q9, q19, Bool.true_or, Bool.false_or, Bool.true_and, Bool.false_and, Bool.not_true, Bool.not_false, Bool.and_true, Bool.and_false, Bool.or_true, Bool.or_false, cond_true, cond_false]) ?_
      exact wkJ (by kernel_rfl)
  replace h := h q14
  refine rgS [] 6 ?_
  refine sEnd [(5, .int .i64 (IntKind.i64.wrap (v5 + 1))), (17, .int .i64 (IntKind.i64.wrap (v5 + 1))), (16, .int .i64 v5)] ?_
  exact QRound.again ((szWay (nth a0 v5) v1), (IntKind.i64.wrap (v5 + 1))) h (wkL [])

set_option maxHeartbeats 4000000 in
theorem laws_szWayS_vc (a0 : (List Way)) (a1 : Int) (hp : okL a0 a1) : laws_szWayS_C a0 a1 (szWays a0 a1) (sumI a0 wayN a1) (sumM a0) := by
  unfold laws_szWayS_C laws_szWayS_C1
  exact fun hn => sum_loop (g := szWay) (fun _ _ => rfl) hp hn

theorem laws_szWayS_V (a0 : (List Way)) (a1 : Int) (hp : okL a0 a1) : FnV Try.prog 65 [.lst (List.map (eWay false) a0) false false, .int .i64 a1] (.int .i64 (szWays a0 a1)) := laws_szWayS_walk a0 a1 (szWays a0 a1) (sumI a0 wayN a1) (sumM a0) (laws_szWayS_vc a0 a1 hp)

noncomputable def laws_szBoolS_b : Code := bodyC Try.f94
def laws_szBoolS_C (a0 : (List Bool)) (a1 : Int) (res : Int) : Prop :=
  a0.length ≤ 4611686018427387904 → ((decide ((IntKind.i64.wrap (a1 - (a0.length : Int))) < 0)) = true → (-1) = res) ∧ ((!(decide ((IntKind.i64.wrap (a1 - (a0.length : Int))) < 0))) = true → (IntKind.i64.wrap (a1 - (a0.length : Int))) = res)
set_option maxHeartbeats 4000000 in
theorem laws_szBoolS_walk (a0 : (List Bool)) (a1 : Int) (res : Int) (h : laws_szBoolS_C a0 a1 res) : FnV Try.prog 94 [.lst (List.map eBool a0) false false, .int .i64 a1] (.int .i64 res) := by
  unfold laws_szBoolS_C at h
  refine FnS.of_body (fn := Try.f94) (c := laws_szBoolS_b) Try.func94 (by kernel_rfl) (by kernel_rfl) ?_
  refine WpS.codeIs (c' := (nv laws_szBoolS_b 1)) (by kernel_rfl) ?_
  refine WpS.start (st' := ⟨(mkS 12 [(0, .lst (List.map eBool a0) false false), (1, .int .i64 a1)]), [], []⟩) (by kernel_rfl) ?_
  refine cSeqG ⟨(mkS 12 [(0, .lst (List.map eBool a0) false false), (1, .int .i64 a1)]), [], []⟩ (True) ?_ (fun q1 => ?_)
  · skip
    refine rgS [] 0 ?_
    refine sEnd [(4, .int .i64 0)] ?_
    refine QJoin.normal trivial ?_
    exact wkJ (by kernel_rfl)
  refine cSeqG ⟨(mkS 12 [(1, .int .i64 (IntKind.i64.wrap (a1 - (a0.length : Int))))]), [], []⟩ (a0.length ≤ 4611686018427387904) ?_ (fun q2 => ?_)
  · skip
    refine rgS [] 1 ?_
    refine sLen 3 (some 7) [(6, .lst (List.map eBool a0) false false), (5, .int .i64 a1)] eBool a0 (fun q3 => ?_)
    refine sEnd [(1, .int .i64 (IntKind.i64.wrap (a1 - (a0.length : Int)))), (8, .int .i64 (IntKind.i64.wrap (a1 - (a0.length : Int))))] ?_
    refine QJoin.normal q3 ?_
    exact wkJ (by kernel_rfl)
  replace h := h q2
  obtain ⟨q9, h⟩ := h
  refine cSeqG ⟨(mkS 12 [(1, .int .i64 (IntKind.i64.wrap (a1 - (a0.length : Int))))]), [], []⟩ ((!(decide ((IntKind.i64.wrap (a1 - (a0.length : Int))) < 0))) = true) ?_ (fun q4 => ?_)
  · replace h := q9
    refine cSeqG ⟨(mkS 12 [(1, .int .i64 (IntKind.i64.wrap (a1 - (a0.length : Int)))), (10, .bool (decide ((IntKind.i64.wrap (a1 - (a0.length : Int))) < 0)))]), [], []⟩ (True) ?_ (fun q5 => ?_)
    · skip
      refine rgS [] 2 ?_
      refine sEnd [(10, .bool (decide ((IntKind.i64.wrap (a1 - (a0.length : Int))) < 0))), (9, .int .i64 (IntKind.i64.wrap (a1 - (a0.length : Int))))] ?_
      refine QJoin.normal trivial ?_
      exact wkJ (by kernel_rfl)
    refine cCond (.tmp 10) (decide ((IntKind.i64.wrap (a1 - (a0.length : Int))) < 0)) (fun q6 => ?_) (fun q6 => ?_)
    · replace h := h q6
      refine cSeqG ⟨(mkS 12 [(4, .int .i64 (-1))]), [], []⟩ (True) ?_ (fun q7 => ?_)
      · skip
        refine rgS [] 3 ?_
        refine sEnd [(4, .int .i64 (-1))] ?_
        refine QJoin.normal trivial ?_
        exact wkJ (by kernel_rfl)
      refine cRet ?_
      refine QJoin.ret ?_
      refine rtS (.int .i64 (-1)) [.int .i64 (-1)] ?_
      exact (SnapR3.of1 (sr_int (H := []) (a := (-1)) (b := res) h))
    · skip
      refine cSkip ?_
      refine QJoin.normal (by simp only [q6, Bool.true_or, Bool.false_or, Bool.true_and, Bool.false_and, Bool.not_true, Bool.not_false, Bool.and_true, Bool.and_false, Bool.or_true, Bool.or_false, cond_true, cond_false]) ?_
      exact wkJ (by kernel_rfl)
  replace h := h q4
  refine cSeqG ⟨(mkS 12 [(4, .int .i64 (IntKind.i64.wrap (a1 - (a0.length : Int))))]), [], []⟩ (True) ?_ (fun q8 => ?_)
  · skip
    refine rgS [] 4 ?_
    refine sEnd [(4, .int .i64 (IntKind.i64.wrap (a1 - (a0.length : Int)))), (11, .int .i64 (IntKind.i64.wrap (a1 - (a0.length : Int))))] ?_
    refine QJoin.normal trivial ?_
    exact wkJ (by kernel_rfl)
  refine cRet ?_
  refine rtS (.int .i64 (IntKind.i64.wrap (a1 - (a0.length : Int)))) [.int .i64 (IntKind.i64.wrap (a1 - (a0.length : Int)))] ?_
  exact (SnapR3.of1 (sr_int (H := []) (a := (IntKind.i64.wrap (a1 - (a0.length : Int)))) (b := res) h))

set_option maxHeartbeats 4000000 in
theorem laws_szBoolS_vc (a0 : (List Bool)) (a1 : Int) (hp : okL a0 a1) : laws_szBoolS_C a0 a1 (szL a0 a1) := by
  unfold laws_szBoolS_C
  exact fun hn => sz_len hp hn

theorem laws_szBoolS_V (a0 : (List Bool)) (a1 : Int) (hp : okL a0 a1) : FnV Try.prog 94 [.lst (List.map eBool a0) false false, .int .i64 a1] (.int .i64 (szL a0 a1)) := laws_szBoolS_walk a0 a1 (szL a0 a1) (laws_szBoolS_vc a0 a1 hp)

noncomputable def laws_szBoolSS_b : Code := bodyC Try.f66
def laws_szBoolSS_C1 (I0 : Int → Int → Prop) (m0 : Int → Int → Nat) (a0 : (List (List Bool))) (a1 : Int) (res : Int) : Prop :=
  I0 (IntKind.i64.wrap (a1 - (a0.length : Int))) 0 ∧ ∀ (v1 : Int) (v5 : Int), I0 v1 v5 → (((decide (v5 < (a0.length : Int))) = false → v1 = res) ∧ ((decide (v5 < (a0.length : Int))) = true → (((0 ≤ v5 ∧ v5.toNat < a0.length) ∧ (okL (nth a0 v5) v1)) ∧ ((decide ((szL (nth a0 v5) v1) < 0)) = true → (-1) = res)) ∧ ((!(decide ((szL (nth a0 v5) v1) < 0))) = true → I0 (szL (nth a0 v5) v1) (IntKind.i64.wrap (v5 + 1)) ∧ m0 (szL (nth a0 v5) v1) (IntKind.i64.wrap (v5 + 1)) < m0 v1 v5)))
def laws_szBoolSS_C (a0 : (List (List Bool))) (a1 : Int) (res : Int) (I0 : Int → Int → Prop) (m0 : Int → Int → Nat) : Prop :=
  a0.length ≤ 4611686018427387904 → ((decide ((IntKind.i64.wrap (a1 - (a0.length : Int))) < 0)) = true → (-1) = res) ∧ ((!(decide ((IntKind.i64.wrap (a1 - (a0.length : Int))) < 0))) = true → laws_szBoolSS_C1 I0 m0 a0 a1 res)
set_option maxHeartbeats 4000000 in
theorem laws_szBoolSS_walk (a0 : (List (List Bool))) (a1 : Int) (res : Int) (I0 : Int → Int → Prop) (m0 : Int → Int → Nat) (h : laws_szBoolSS_C a0 a1 res I0 m0) : FnV Try.prog 66 [.lst (List.map (eL eBool false) a0) false false, .int .i64 a1] (.int .i64 res) := by
  unfold laws_szBoolSS_C at h
  refine FnS.of_body (fn := Try.f66) (c := laws_szBoolSS_b) Try.func66 (by kernel_rfl) (by kernel_rfl) ?_
  refine WpS.codeIs (c' := (nv laws_szBoolSS_b 1)) (by kernel_rfl) ?_
  refine WpS.start (st' := ⟨(mkS 27 [(0, .lst (List.map (eL eBool false) a0) false false), (1, .int .i64 a1)]), [], []⟩) (by kernel_rfl) ?_
  refine cSeqG ⟨(mkS 27 [(0, .lst (List.map (eL eBool false) a0) false false), (1, .int .i64 a1)]), [], []⟩ (True) ?_ (fun q1 => ?_)
  · skip
    refine rgS [] 0 ?_
    refine sEnd [(4, .int .i64 0)] ?_
    refine QJoin.normal trivial ?_
    exact wkJ (by kernel_rfl)
  refine cSeqG ⟨(mkS 27 [(0, .lst (List.map (eL eBool false) a0) false false), (1, .int .i64 (IntKind.i64.wrap (a1 - (a0.length : Int))))]), [], []⟩ (a0.length ≤ 4611686018427387904) ?_ (fun q2 => ?_)
  · skip
    refine rgS [] 1 ?_
    refine sLen 3 (some 8) [(7, .lst (List.map (eL eBool false) a0) false false), (6, .int .i64 a1)] (eL eBool false) a0 (fun q3 => ?_)
    refine sEnd [(1, .int .i64 (IntKind.i64.wrap (a1 - (a0.length : Int)))), (9, .int .i64 (IntKind.i64.wrap (a1 - (a0.length : Int))))] ?_
    refine QJoin.normal q3 ?_
    exact wkJ (by kernel_rfl)
  replace h := h q2
  obtain ⟨q25, h⟩ := h
  refine cSeqG ⟨(mkS 27 [(0, .lst (List.map (eL eBool false) a0) false false), (1, .int .i64 (IntKind.i64.wrap (a1 - (a0.length : Int))))]), [], []⟩ ((!(decide ((IntKind.i64.wrap (a1 - (a0.length : Int))) < 0))) = true) ?_ (fun q4 => ?_)
  · replace h := q25
    refine cSeqG ⟨(mkS 27 [(0, .lst (List.map (eL eBool false) a0) false false), (1, .int .i64 (IntKind.i64.wrap (a1 - (a0.length : Int)))), (11, .bool (decide ((IntKind.i64.wrap (a1 - (a0.length : Int))) < 0)))]), [], []⟩ (True) ?_ (fun q5 => ?_)
    · skip
      refine rgS [] 2 ?_
      refine sEnd [(11, .bool (decide ((IntKind.i64.wrap (a1 - (a0.length : Int))) < 0))), (10, .int .i64 (IntKind.i64.wrap (a1 - (a0.length : Int))))] ?_
      refine QJoin.normal trivial ?_
      exact wkJ (by kernel_rfl)
    refine cCond (.tmp 11) (decide ((IntKind.i64.wrap (a1 - (a0.length : Int))) < 0)) (fun q6 => ?_) (fun q6 => ?_)
    · replace h := h q6
      refine cSeqG ⟨(mkS 27 [(4, .int .i64 (-1))]), [], []⟩ (True) ?_ (fun q7 => ?_)
      · skip
        refine rgS [] 3 ?_
        refine sEnd [(4, .int .i64 (-1))] ?_
        refine QJoin.normal trivial ?_
        exact wkJ (by kernel_rfl)
      refine cRet ?_
      refine QJoin.ret ?_
      refine rtS (.int .i64 (-1)) [.int .i64 (-1)] ?_
      exact (SnapR3.of1 (sr_int (H := []) (a := (-1)) (b := res) h))
    · skip
      refine cSkip ?_
      refine QJoin.normal (by simp only [q6, Bool.true_or, Bool.false_or, Bool.true_and, Bool.false_and, Bool.not_true, Bool.not_false, Bool.and_true, Bool.and_false, Bool.or_true, Bool.or_false, cond_true, cond_false]) ?_
      exact wkJ (by kernel_rfl)
  replace h := h q4
  refine cSeq ?_
  refine cSeqG ⟨(mkS 27 [(0, .lst (List.map (eL eBool false) a0) false false), (1, .int .i64 (IntKind.i64.wrap (a1 - (a0.length : Int)))), (5, .int .i64 0)]), [], []⟩ (True) ?_ (fun q8 => ?_)
  · skip
    refine rgS [] 4 ?_
    refine sEnd [(5, .int .i64 0)] ?_
    refine QJoin.normal trivial ?_
    exact wkJ (by kernel_rfl)
  unfold laws_szBoolSS_C1 at h
  refine cBlock 0 ?_
  obtain ⟨q24, h⟩ := h
  refine cLoop (fun (v : Int × Int) => (⟨(mkS 27 [(0, .lst (List.map (eL eBool false) a0) false false), (1, .int .i64 (v.1)), (5, .int .i64 (v.2))]), [], []⟩ : St)) (fun (v : Int × Int) => I0 (v.1) (v.2)) (fun (v : Int × Int) => m0 (v.1) (v.2)) ((IntKind.i64.wrap (a1 - (a0.length : Int))), 0) (wkL []) q24 (fun v hI => ?_)
  obtain ⟨v1, v5⟩ := v
  replace h := h v1 v5 hI
  show WpS _ _ _ ⟨(mkS 27 [(0, .lst (List.map (eL eBool false) a0) false false), (1, .int .i64 v1), (5, .int .i64 v5)]), [], []⟩
  obtain ⟨q23, h⟩ := h
  refine cSeqG ⟨(mkS 27 [(0, .lst (List.map (eL eBool false) a0) false false), (1, .int .i64 v1), (5, .int .i64 v5)]), [], []⟩ ((decide (v5 < (a0.length : Int))) = true) ?_ (fun q9 => ?_)
  · replace h := q23
    refine cSeqG ⟨(mkS 27 [(0, .lst (List.map (eL eBool false) a0) false false), (1, .int .i64 v1), (5, .int .i64 v5), (15, .bool (decide (v5 < (a0.length : Int))))]), [], []⟩ (True) ?_ (fun q10 => ?_)
    · skip
      refine rgS [] 5 ?_
      refine sLen 3 (some 14) [(13, .lst (List.map (eL eBool false) a0) false false), (12, .int .i64 v5)] (eL eBool false) a0 (fun q11 => ?_)
      refine sEnd [(15, .bool (decide (v5 < (a0.length : Int))))] ?_
      refine QJoin.normal trivial ?_
      exact wkJ (by kernel_rfl)
    refine cCond (.tmp 15) (decide (v5 < (a0.length : Int))) (fun q12 => ?_) (fun q12 => ?_)
    · skip
      refine cSkip ?_
      refine QJoin.normal (by simp only [q4, q12, Bool.true_or, Bool.false_or, Bool.true_and, Bool.false_and, Bool.not_true, Bool.not_false, Bool.and_true, Bool.and_false, Bool.or_true, Bool.or_false, cond_true, cond_false]) ?_
      exact wkJ (by kernel_rfl)
    · replace h := h q12
      refine cExit 0 ?_
      refine QJoin.exit ?_
      refine QRound.exit ?_
      refine QBlock.here ?_
      refine QSeq.normal ?_
      refine cSeqG ⟨(mkS 27 [(4, .int .i64 v1)]), [], []⟩ (True) ?_ (fun q13 => ?_)
      · skip
        refine rgS [] 10 ?_
        refine sEnd [(4, .int .i64 v1), (26, .int .i64 v1)] ?_
        refine QJoin.normal trivial ?_
        exact wkJ (by kernel_rfl)
      refine cRet ?_
      refine rtS (.int .i64 v1) [.int .i64 v1] ?_
      exact (SnapR3.of1 (sr_int (H := []) (a := v1) (b := res) h))
  replace h := h q9
  obtain ⟨q22, h⟩ := h
  refine cSeqG ⟨(mkS 27 [(0, .lst (List.map (eL eBool false) a0) false false), (1, .int .i64 (szL (nth a0 v5) v1)), (5, .int .i64 v5)]), [], []⟩ ((!(decide ((szL (nth a0 v5) v1) < 0))) = true) ?_ (fun q14 => ?_)
  · replace h := q22
    refine cBlock 1 ?_
    obtain ⟨q21, h⟩ := h
    refine cSeqG ⟨(mkS 27 [(0, .lst (List.map (eL eBool false) a0) false false), (1, .int .i64 (szL (nth a0 v5) v1)), (5, .int .i64 v5)]), [], []⟩ (True) ?_ (fun q15 => ?_)
    · replace h := q21
      refine rgS [] 7 ?_
      obtain ⟨q17, h⟩ := h
      refine sIdx 3 (some 20) [(19, .int .i64 v5), (18, .lst (List.map (eL eBool false) a0) false false)] (eL eBool false) a0 1 q17 ?_
      have q16 := h
      refine sCallV 3 (some 23) [(22, .int .i64 v1), (21, .lst (List.map eBool (nth a0 v5)) false false)] [.lst (List.map eBool (nth a0 v5)) false false, .int .i64 v1] (laws_szBoolS_V (nth a0 v5) v1 q16) (PW.cons (Snap2.of1 sa_lst) (PW.cons (Snap2.of1 (.int _ _)) PW.nil)) ?_
      refine sEnd [(1, .int .i64 (szL (nth a0 v5) v1))] ?_
      refine QJoin.normal trivial ?_
      exact wkJ (by kernel_rfl)
    refine cSeqG ⟨(mkS 27 [(0, .lst (List.map (eL eBool false) a0) false false), (1, .int .i64 (szL (nth a0 v5) v1)), (5, .int .i64 v5), (25, .bool (decide ((szL (nth a0 v5) v1) < 0)))]), [], []⟩ (True) ?_ (fun q18 => ?_)
    · skip
      refine rgS [] 8 ?_
      refine sEnd [(25, .bool (decide ((szL (nth a0 v5) v1) < 0))), (24, .int .i64 (szL (nth a0 v5) v1))] ?_
      refine QJoin.normal trivial ?_
      exact wkJ (by kernel_rfl)
    refine cCond (.tmp 25) (decide ((szL (nth a0 v5) v1) < 0)) (fun q19 => ?_) (fun q19 => ?_)
    · replace h := h q19
      refine cSeqG ⟨(mkS 27 [(4, .int .i64 (-1))]), [], []⟩ (True) ?_ (fun q20 => ?_)
      · skip
        refine rgS [] 9 ?_
        refine sEnd [(4, .int .i64 (-1))] ?_
        refine QJoin.normal trivial ?_
        exact wkJ (by kernel_rfl)
      refine cRet ?_
      refine QBlock.ret ?_
      refine QJoin.ret ?_
      refine QRound.ret ?_
      refine QBlock.ret ?_
      refine QSeq.ret ?_
      refine rtS (.int .i64 (-1)) [.int .i64 (-1)] ?_
      exact (SnapR3.of1 (sr_int (H := []) (a := (-1)) (b := res) h))
    · skip
      refine cSkip ?_
      refine QBlock.normal ?_
      refine QJoin.normal (by simp only [q4, q9, q19, Bool.true_or, Bool.false_or, Bool.true_and, Bool.false_and, Bool.not_true, Bool.not_false, Bool.and_true, Bool.and_false, Bool.or_true, Bool.or_false, cond_true, cond_false]) ?_
      exact wkJ (by kernel_rfl)
  replace h := h q14
  refine rgS [] 6 ?_
  refine sEnd [(5, .int .i64 (IntKind.i64.wrap (v5 + 1))), (17, .int .i64 (IntKind.i64.wrap (v5 + 1))), (16, .int .i64 v5)] ?_
  exact QRound.again ((szL (nth a0 v5) v1), (IntKind.i64.wrap (v5 + 1))) h (wkL [])

set_option maxHeartbeats 4000000 in
theorem laws_szBoolSS_vc (a0 : (List (List Bool))) (a1 : Int) (hp : okL a0 a1) : laws_szBoolSS_C a0 a1 (szBars a0 a1) (sumI a0 List.length a1) (sumM a0) := by
  unfold laws_szBoolSS_C laws_szBoolSS_C1
  exact fun hn => sum_loop (g := szL) (fun _ _ => rfl) hp hn

theorem laws_szBoolSS_V (a0 : (List (List Bool))) (a1 : Int) (hp : okL a0 a1) : FnV Try.prog 66 [.lst (List.map (eL eBool false) a0) false false, .int .i64 a1] (.int .i64 (szBars a0 a1)) := laws_szBoolSS_walk a0 a1 (szBars a0 a1) (sumI a0 List.length a1) (sumM a0) (laws_szBoolSS_vc a0 a1 hp)

noncomputable def laws_szPlan_b : Code := bodyC Try.f23
def laws_szPlan_C1 (a0 : Plan) (a1 : Int) (res : Int) : Prop :=
  ((decide ((szWays a0.ways (szL a0.switches a1)) < 0)) = true → (-1) = res) ∧ ((!(decide ((szWays a0.ways (szL a0.switches a1)) < 0))) = true → (okL a0.bars (szWays a0.ways (szL a0.switches a1))) ∧ (((decide ((szBars a0.bars (szWays a0.ways (szL a0.switches a1))) < 0)) = true → (-1) = res) ∧ ((!(decide ((szBars a0.bars (szWays a0.ways (szL a0.switches a1))) < 0))) = true → (szBars a0.bars (szWays a0.ways (szL a0.switches a1))) = res)))
def laws_szPlan_C (a0 : Plan) (a1 : Int) (res : Int) : Prop :=
  (okL a0.switches a1) ∧ (((decide ((szL a0.switches a1) < 0)) = true → (-1) = res) ∧ ((!(decide ((szL a0.switches a1) < 0))) = true → (okL a0.ways (szL a0.switches a1)) ∧ (laws_szPlan_C1 a0 a1 res)))
set_option maxHeartbeats 4000000 in
theorem laws_szPlan_walk (a0 : Plan) (a1 : Int) (res : Int) (h : laws_szPlan_C a0 a1 res) : FnV Try.prog 23 [.agg (ePlan false a0), .int .i64 a1] (.int .i64 res) := by
  unfold laws_szPlan_C at h
  refine FnS.of_body (fn := Try.f23) (c := laws_szPlan_b) Try.func23 (by kernel_rfl) (by kernel_rfl) ?_
  refine WpS.codeIs (c' := (nv laws_szPlan_b 1)) (by kernel_rfl) ?_
  refine WpS.start (st' := ⟨(mkS 24 [(0, .agg (ePlan false a0)), (1, .int .i64 a1)]), [], []⟩) (by kernel_rfl) ?_
  refine cSeqG ⟨(mkS 24 [(1, .int .i64 a1), (2, .lptr 2 0)]), [(2, (ePlan false a0))], []⟩ (True) ?_ (fun q1 => ?_)
  · skip
    refine rgS [] 0 ?_
    refine sEnd' [(4, .int .i64 0), (2, .lptr 2 0)] [(2, (ePlan false a0))] [] ?_
    refine QJoin.normal trivial ?_
    exact wkJ (by kernel_rfl)
  obtain ⟨q26, h⟩ := h
  refine cSeqG ⟨(mkS 24 [(1, .int .i64 (szL a0.switches a1)), (2, .lptr 2 0)]), [(2, (ePlan false a0))], []⟩ (True) ?_ (fun q2 => ?_)
  · replace h := q26
    refine rgS [] 1 ?_
    have q3 := h
    refine sCallV 4 (some 8) [(7, .int .i64 a1), (6, .lst (List.map eInt a0.switches) false false), (5, .lptr 2 1)] [.lst (List.map eInt a0.switches) false false, .int .i64 a1] (laws_szIntS_V a0.switches a1 q3) (PW.cons (Snap2.of1 sa_lst) (PW.cons (Snap2.of1 (.int _ _)) PW.nil)) ?_
    refine sEnd [(1, .int .i64 (szL a0.switches a1))] ?_
    refine QJoin.normal trivial ?_
    exact wkJ (by kernel_rfl)
  obtain ⟨q25, h⟩ := h
  refine cSeqG ⟨(mkS 24 [(1, .int .i64 (szL a0.switches a1)), (2, .lptr 2 0)]), [(2, (ePlan false a0))], []⟩ ((!(decide ((szL a0.switches a1) < 0))) = true) ?_ (fun q4 => ?_)
  · replace h := q25
    refine cSeqG ⟨(mkS 24 [(1, .int .i64 (szL a0.switches a1)), (2, .lptr 2 0), (10, .bool (decide ((szL a0.switches a1) < 0)))]), [(2, (ePlan false a0))], []⟩ (True) ?_ (fun q5 => ?_)
    · skip
      refine rgS [] 2 ?_
      refine sEnd [(10, .bool (decide ((szL a0.switches a1) < 0))), (9, .int .i64 (szL a0.switches a1))] ?_
      refine QJoin.normal trivial ?_
      exact wkJ (by kernel_rfl)
    refine cCond (.tmp 10) (decide ((szL a0.switches a1) < 0)) (fun q6 => ?_) (fun q6 => ?_)
    · replace h := h q6
      refine cSeqG ⟨(mkS 24 [(4, .int .i64 (-1))]), [(2, (ePlan false a0))], []⟩ (True) ?_ (fun q7 => ?_)
      · skip
        refine rgS [] 3 ?_
        refine sEnd [(4, .int .i64 (-1))] ?_
        refine QJoin.normal trivial ?_
        exact wkJ (by kernel_rfl)
      refine cRet ?_
      refine QJoin.ret ?_
      refine rtS (.int .i64 (-1)) [.int .i64 (-1)] ?_
      exact (SnapR3.of1 (sr_int (H := []) (a := (-1)) (b := res) h))
    · skip
      refine cSkip ?_
      refine QJoin.normal (by simp only [q6, Bool.true_or, Bool.false_or, Bool.true_and, Bool.false_and, Bool.not_true, Bool.not_false, Bool.and_true, Bool.and_false, Bool.or_true, Bool.or_false, cond_true, cond_false]) ?_
      exact wkJ (by kernel_rfl)
  replace h := h q4
  obtain ⟨q24, h⟩ := h
  refine cSeqG ⟨(mkS 24 [(1, .int .i64 (szWays a0.ways (szL a0.switches a1))), (2, .lptr 2 0)]), [(2, (ePlan false a0))], []⟩ (True) ?_ (fun q8 => ?_)
  · replace h := q24
    refine rgS [] 4 ?_
    have q9 := h
    refine sCallV 4 (some 14) [(13, .int .i64 (szL a0.switches a1)), (12, .lst (List.map (eWay false) a0.ways) false false), (11, .lptr 2 2)] [.lst (List.map (eWay false) a0.ways) false false, .int .i64 (szL a0.switches a1)] (laws_szWayS_V a0.ways (szL a0.switches a1) q9) (PW.cons (Snap2.of1 sa_lst) (PW.cons (Snap2.of1 (.int _ _)) PW.nil)) ?_
    refine sEnd [(1, .int .i64 (szWays a0.ways (szL a0.switches a1)))] ?_
    refine QJoin.normal trivial ?_
    exact wkJ (by kernel_rfl)
  unfold laws_szPlan_C1 at h
  obtain ⟨q23, h⟩ := h
  refine cSeqG ⟨(mkS 24 [(1, .int .i64 (szWays a0.ways (szL a0.switches a1))), (2, .lptr 2 0)]), [(2, (ePlan false a0))], []⟩ ((!(decide ((szWays a0.ways (szL a0.switches a1)) < 0))) = true) ?_ (fun q10 => ?_)
  · replace h := q23
    refine cSeqG ⟨(mkS 24 [(1, .int .i64 (szWays a0.ways (szL a0.switches a1))), (2, .lptr 2 0), (16, .bool (decide ((szWays a0.ways (szL a0.switches a1)) < 0)))]), [(2, (ePlan false a0))], []⟩ (True) ?_ (fun q11 => ?_)
    · skip
      refine rgS [] 5 ?_
      refine sEnd [(16, .bool (decide ((szWays a0.ways (szL a0.switches a1)) < 0))), (15, .int .i64 (szWays a0.ways (szL a0.switches a1)))] ?_
      refine QJoin.normal trivial ?_
      exact wkJ (by kernel_rfl)
    refine cCond (.tmp 16) (decide ((szWays a0.ways (szL a0.switches a1)) < 0)) (fun q12 => ?_) (fun q12 => ?_)
    · replace h := h q12
      refine cSeqG ⟨(mkS 24 [(4, .int .i64 (-1))]), [(2, (ePlan false a0))], []⟩ (True) ?_ (fun q13 => ?_)
      · skip
        refine rgS [] 6 ?_
        refine sEnd [(4, .int .i64 (-1))] ?_
        refine QJoin.normal trivial ?_
        exact wkJ (by kernel_rfl)
      refine cRet ?_
      refine QJoin.ret ?_
      refine rtS (.int .i64 (-1)) [.int .i64 (-1)] ?_
      exact (SnapR3.of1 (sr_int (H := []) (a := (-1)) (b := res) h))
    · skip
      refine cSkip ?_
      refine QJoin.normal (by simp only [q4, q12, Bool.true_or, Bool.false_or, Bool.true_and, Bool.false_and, Bool.not_true, Bool.not_false, Bool.and_true, Bool.and_false, Bool.or_true, Bool.or_false, cond_true, cond_false]) ?_
      exact wkJ (by kernel_rfl)
  replace h := h q10
  obtain ⟨q22, h⟩ := h
  refine cSeqG ⟨(mkS 24 [(1, .int .i64 (szBars a0.bars (szWays a0.ways (szL a0.switches a1))))]), [(2, (ePlan false a0))], []⟩ (True) ?_ (fun q14 => ?_)
  · replace h := q22
    refine rgS [] 7 ?_
    have q15 := h
    refine sCallV 4 (some 20) [(19, .int .i64 (szWays a0.ways (szL a0.switches a1))), (18, .lst (List.map (eL eBool false) a0.bars) false false), (17, .lptr 2 3)] [.lst (List.map (eL eBool false) a0.bars) false false, .int .i64 (szWays a0.ways (szL a0.switches a1))] (laws_szBoolSS_V a0.bars (szWays a0.ways (szL a0.switches a1)) q15) (PW.cons (Snap2.of1 sa_lst) (PW.cons (Snap2.of1 (.int _ _)) PW.nil)) ?_
    refine sEnd [(1, .int .i64 (szBars a0.bars (szWays a0.ways (szL a0.switches a1))))] ?_
    refine QJoin.normal trivial ?_
    exact wkJ (by kernel_rfl)
  obtain ⟨q21, h⟩ := h
  refine cSeqG ⟨(mkS 24 [(1, .int .i64 (szBars a0.bars (szWays a0.ways (szL a0.switches a1))))]), [(2, (ePlan false a0))], []⟩ ((!(decide ((szBars a0.bars (szWays a0.ways (szL a0.switches a1))) < 0))) = true) ?_ (fun q16 => ?_)
  · replace h := q21
    refine cSeqG ⟨(mkS 24 [(1, .int .i64 (szBars a0.bars (szWays a0.ways (szL a0.switches a1)))), (22, .bool (decide ((szBars a0.bars (szWays a0.ways (szL a0.switches a1))) < 0)))]), [(2, (ePlan false a0))], []⟩ (True) ?_ (fun q17 => ?_)
    · skip
      refine rgS [] 8 ?_
      refine sEnd [(22, .bool (decide ((szBars a0.bars (szWays a0.ways (szL a0.switches a1))) < 0))), (21, .int .i64 (szBars a0.bars (szWays a0.ways (szL a0.switches a1))))] ?_
      refine QJoin.normal trivial ?_
      exact wkJ (by kernel_rfl)
    refine cCond (.tmp 22) (decide ((szBars a0.bars (szWays a0.ways (szL a0.switches a1))) < 0)) (fun q18 => ?_) (fun q18 => ?_)
    · replace h := h q18
      refine cSeqG ⟨(mkS 24 [(4, .int .i64 (-1))]), [(2, (ePlan false a0))], []⟩ (True) ?_ (fun q19 => ?_)
      · skip
        refine rgS [] 9 ?_
        refine sEnd [(4, .int .i64 (-1))] ?_
        refine QJoin.normal trivial ?_
        exact wkJ (by kernel_rfl)
      refine cRet ?_
      refine QJoin.ret ?_
      refine rtS (.int .i64 (-1)) [.int .i64 (-1)] ?_
      exact (SnapR3.of1 (sr_int (H := []) (a := (-1)) (b := res) h))
    · skip
      refine cSkip ?_
      refine QJoin.normal (by simp only [q4, q10, q18, Bool.true_or, Bool.false_or, Bool.true_and, Bool.false_and, Bool.not_true, Bool.not_false, Bool.and_true, Bool.and_false, Bool.or_true, Bool.or_false, cond_true, cond_false]) ?_
      exact wkJ (by kernel_rfl)
  replace h := h q16
  refine cSeqG ⟨(mkS 24 [(4, .int .i64 (szBars a0.bars (szWays a0.ways (szL a0.switches a1))))]), [(2, (ePlan false a0))], []⟩ (True) ?_ (fun q20 => ?_)
  · skip
    refine rgS [] 10 ?_
    refine sEnd [(4, .int .i64 (szBars a0.bars (szWays a0.ways (szL a0.switches a1)))), (23, .int .i64 (szBars a0.bars (szWays a0.ways (szL a0.switches a1))))] ?_
    refine QJoin.normal trivial ?_
    exact wkJ (by kernel_rfl)
  refine cRet ?_
  refine rtS (.int .i64 (szBars a0.bars (szWays a0.ways (szL a0.switches a1)))) [.int .i64 (szBars a0.bars (szWays a0.ways (szL a0.switches a1)))] ?_
  exact (SnapR3.of1 (sr_int (H := []) (a := (szBars a0.bars (szWays a0.ways (szL a0.switches a1)))) (b := res) h))

set_option maxHeartbeats 4000000 in
theorem laws_szPlan_vc (a0 : Plan) (a1 : Int) (hp : okL a0 a1) : laws_szPlan_C a0 a1 (szPlan a0 a1) := by
  unfold laws_szPlan_C laws_szPlan_C1 szPlan planN szL szWays szBars
  have hp : 0 ≤ a1 ∧ a1 ≤ 1048576 := hp
  refine ⟨hp, sz_step (m := waysN a0.ways + barsN a0.bars) hp (by omega) fun c k => ⟨k, ?_⟩⟩
  rw [lessN_plus hp.1 c]
  refine sz_step (m := barsN a0.bars) hp (by omega) fun c k => ⟨k, ?_⟩
  rw [lessN_plus hp.1 c]
  exact sz_step (m := 0) hp (by omega) fun c k => rfl

theorem laws_szPlan_V (a0 : Plan) (a1 : Int) (hp : okL a0 a1) : FnV Try.prog 23 [.agg (ePlan false a0), .int .i64 a1] (.int .i64 (szPlan a0 a1)) := laws_szPlan_walk a0 a1 (szPlan a0 a1) (laws_szPlan_vc a0 a1 hp)

noncomputable def spec_l1in_b : Code := bodyC Try.f67
def spec_l1in_C (a0 : Int) (a1 : Int) (a2 : Int) (res : Bool) : Prop :=
  ((decide (a0 ≥ a1)) && (decide (a0 ≤ a2))) = res
set_option maxHeartbeats 4000000 in
theorem spec_l1in_walk (a0 : Int) (a1 : Int) (a2 : Int) (res : Bool) (h : spec_l1in_C a0 a1 a2 res) : FnV Try.prog 67 [.int .i64 a0, .int .i64 a1, .int .i64 a2] (.bool res) := by
  unfold spec_l1in_C at h
  refine FnS.of_body (fn := Try.f67) (c := spec_l1in_b) Try.func67 (by kernel_rfl) (by kernel_rfl) ?_
  refine WpS.codeIs (c' := (nv spec_l1in_b 1)) (by kernel_rfl) ?_
  refine WpS.start (st' := ⟨(mkS 15 [(0, .int .i64 a0), (1, .int .i64 a1), (2, .int .i64 a2)]), [], []⟩) (by kernel_rfl) ?_
  refine cSeqG ⟨(mkS 15 [(0, .int .i64 a0), (1, .int .i64 a1), (2, .int .i64 a2)]), [], []⟩ (True) ?_ (fun q1 => ?_)
  · skip
    refine rgS [] 0 ?_
    refine sEnd [(6, .bool false)] ?_
    refine QJoin.normal trivial ?_
    exact wkJ (by kernel_rfl)
  refine cSeqG ⟨(mkS 15 [(6, .bool ((decide (a0 ≥ a1)) && (decide (a0 ≤ a2))))]), [], []⟩ (True) ?_ (fun q2 => ?_)
  · skip
    refine rgS [] 1 ?_
    refine sCase 4 [(10, .bool (decide (a0 ≥ a1))), (9, .bool (decide (a0 ≥ a1))), (8, .int .i64 a1), (7, .int .i64 a0)] 10 (decide (a0 ≥ a1)) (fun q3 => ?_) (fun q3 => ?_)
    · skip
      refine sEnd [(6, .bool (decide (a0 ≤ a2))), (14, .bool (decide (a0 ≤ a2))), (13, .bool (decide (a0 ≤ a2))), (12, .int .i64 a2), (11, .int .i64 a0)] ?_
      refine QJoin.normal trivial ?_
      exact wkJ (by simp only [q3, Bool.true_or, Bool.false_or, Bool.true_and, Bool.false_and, Bool.not_true, Bool.not_false, Bool.and_true, Bool.and_false, Bool.or_true, Bool.or_false, cond_true, cond_false] <;> kernel_rfl)
    · skip
      refine sEnd [(6, .bool false), (14, .bool false), (13, .tup []), (12, .tup []), (11, .tup [])] ?_
      refine QJoin.normal trivial ?_
      exact wkJ (by simp only [q3, Bool.true_or, Bool.false_or, Bool.true_and, Bool.false_and, Bool.not_true, Bool.not_false, Bool.and_true, Bool.and_false, Bool.or_true, Bool.or_false, cond_true, cond_false] <;> kernel_rfl)
  refine cRet ?_
  refine rtS (.bool ((decide (a0 ≥ a1)) && (decide (a0 ≤ a2)))) [.bool ((decide (a0 ≥ a1)) && (decide (a0 ≤ a2)))] ?_
  exact (SnapR3.of1 (sr_bool (H := []) (a := ((decide (a0 ≥ a1)) && (decide (a0 ≤ a2)))) (b := res) h))

set_option maxHeartbeats 4000000 in
theorem spec_l1in_vc (a0 : Int) (a1 : Int) (a2 : Int) : spec_l1in_C a0 a1 a2 (inR a0 a1 a2) := by
  rfl

theorem spec_l1in_V (a0 : Int) (a1 : Int) (a2 : Int) : FnV Try.prog 67 [.int .i64 a0, .int .i64 a1, .int .i64 a2] (.bool (inR a0 a1 a2)) := spec_l1in_walk a0 a1 a2 (inR a0 a1 a2) (spec_l1in_vc a0 a1 a2)

noncomputable def spec_l1meet_b : Code := bodyC Try.f69
def spec_l1meet_C1 (I0 : Int → Prop) (m0 : Int → Nat) (I1 : Int → Int → Prop) (m1 : Int → Int → Nat) (a0 : (List Int)) (a1 : (List Int)) (res : Bool) (v11 : Int) : Prop :=
  I1 v11 0 ∧ ∀ (v17 : Int), I1 v11 v17 → (((decide (v17 < (a1.length : Int))) = false → I0 (IntKind.i64.wrap (v11 + 1)) ∧ m0 (IntKind.i64.wrap (v11 + 1)) < m0 v11) ∧ ((decide (v17 < (a1.length : Int))) = true → ((0 ≤ v17 ∧ v17.toNat < a1.length) ∧ (((nth a0 v11) == (nth a1 v17)) = true → true = res)) ∧ ((!((nth a0 v11) == (nth a1 v17))) = true → I1 v11 (IntKind.i64.wrap (v17 + 1)) ∧ m1 v11 (IntKind.i64.wrap (v17 + 1)) < m1 v11 v17)))
def spec_l1meet_C (a0 : (List Int)) (a1 : (List Int)) (res : Bool) (I0 : Int → Prop) (m0 : Int → Nat) (I1 : Int → Int → Prop) (m1 : Int → Int → Nat) : Prop :=
  a0.length ≤ 4611686018427387904 → I0 0 ∧ ∀ (v11 : Int), I0 v11 → (((decide (v11 < (a0.length : Int))) = false → false = res) ∧ ((decide (v11 < (a0.length : Int))) = true → (0 ≤ v11 ∧ v11.toNat < a0.length) ∧ (a1.length ≤ 4611686018427387904 → spec_l1meet_C1 I0 m0 I1 m1 a0 a1 res v11)))
set_option maxHeartbeats 4000000 in
theorem spec_l1meet_walk (a0 : (List Int)) (a1 : (List Int)) (res : Bool) (I0 : Int → Prop) (m0 : Int → Nat) (I1 : Int → Int → Prop) (m1 : Int → Int → Nat) (h : spec_l1meet_C a0 a1 res I0 m0 I1 m1) : FnV Try.prog 69 [.lst (List.map eInt a0) false false, .lst (List.map eInt a1) false false] (.bool res) := by
  unfold spec_l1meet_C at h
  refine FnS.of_body (fn := Try.f69) (c := spec_l1meet_b) Try.func69 (by kernel_rfl) (by kernel_rfl) ?_
  refine WpS.codeIs (c' := (nv spec_l1meet_b 1)) (by kernel_rfl) ?_
  refine WpS.start (st' := ⟨(mkS 26 [(0, .lst (List.map eInt a0) false false), (1, .lst (List.map eInt a1) false false)]), [], []⟩) (by kernel_rfl) ?_
  refine cSeqG ⟨(mkS 26 [(0, .lst (List.map eInt a0) false false), (1, .lst (List.map eInt a1) false false)]), [], []⟩ (True) ?_ (fun q1 => ?_)
  · skip
    refine rgS [] 0 ?_
    refine sEnd [(4, .bool false)] ?_
    refine QJoin.normal trivial ?_
    exact wkJ (by kernel_rfl)
  refine cSeq ?_
  refine cSeqG ⟨(mkS 26 [(1, .lst (List.map eInt a1) false false), (9, .lst (List.map eInt a0) false false), (10, .int .i64 (a0.length : Int)), (11, .int .i64 0)]), [], []⟩ (a0.length ≤ 4611686018427387904) ?_ (fun q2 => ?_)
  · skip
    refine rgS [] 1 ?_
    refine sLen 2 (some 10) [(9, .lst (List.map eInt a0) false false)] eInt a0 (fun q3 => ?_)
    refine sEnd [(11, .int .i64 0)] ?_
    refine QJoin.normal q3 ?_
    exact wkJ (by kernel_rfl)
  replace h := h q2
  refine cBlock 0 ?_
  obtain ⟨q27, h⟩ := h
  refine cLoop (fun (v : Int) => (⟨(mkS 26 [(1, .lst (List.map eInt a1) false false), (9, .lst (List.map eInt a0) false false), (10, .int .i64 (a0.length : Int)), (11, .int .i64 v)]), [], []⟩ : St)) (fun (v : Int) => I0 v) (fun (v : Int) => m0 v) 0 (wkL []) q27 (fun v11 hI => ?_)
  skip
  replace h := h v11 hI
  show WpS _ _ _ ⟨(mkS 26 [(1, .lst (List.map eInt a1) false false), (9, .lst (List.map eInt a0) false false), (10, .int .i64 (a0.length : Int)), (11, .int .i64 v11)]), [], []⟩
  refine cSeqG ⟨(mkS 26 [(1, .lst (List.map eInt a1) false false), (9, .lst (List.map eInt a0) false false), (10, .int .i64 (a0.length : Int)), (11, .int .i64 v11), (12, .bool (decide (v11 < (a0.length : Int))))]), [], []⟩ (True) ?_ (fun q4 => ?_)
  · skip
    refine rgS [] 2 ?_
    refine sEnd [(12, .bool (decide (v11 < (a0.length : Int))))] ?_
    refine QJoin.normal trivial ?_
    exact wkJ (by kernel_rfl)
  obtain ⟨q26, h⟩ := h
  refine cSeqG ⟨(mkS 26 [(1, .lst (List.map eInt a1) false false), (9, .lst (List.map eInt a0) false false), (10, .int .i64 (a0.length : Int)), (11, .int .i64 v11)]), [], []⟩ ((decide (v11 < (a0.length : Int))) = true) ?_ (fun q5 => ?_)
  · replace h := q26
    refine cCond (.tmp 12) (decide (v11 < (a0.length : Int))) (fun q6 => ?_) (fun q6 => ?_)
    · skip
      refine cSkip ?_
      refine QJoin.normal (by simp only [q6, Bool.true_or, Bool.false_or, Bool.true_and, Bool.false_and, Bool.not_true, Bool.not_false, Bool.and_true, Bool.and_false, Bool.or_true, Bool.or_false, cond_true, cond_false]) ?_
      exact wkJ (by kernel_rfl)
    · replace h := h q6
      refine cExit 0 ?_
      refine QJoin.exit ?_
      refine QRound.exit ?_
      refine QBlock.here ?_
      refine QSeq.normal ?_
      refine cSeqG ⟨(mkS 26 [(4, .bool false)]), [], []⟩ (True) ?_ (fun q7 => ?_)
      · skip
        refine rgS [] 11 ?_
        refine sEnd [(4, .bool false)] ?_
        refine QJoin.normal trivial ?_
        exact wkJ (by kernel_rfl)
      refine cRet ?_
      refine rtS (.bool false) [.bool false] ?_
      exact (SnapR3.of1 (sr_bool (H := []) (a := false) (b := res) h))
  replace h := h q5
  refine cSeq ?_
  refine cBlock 1 ?_
  obtain ⟨q25, h⟩ := h
  refine cSeqG ⟨(mkS 26 [(1, .lst (List.map eInt a1) false false), (6, .int .i64 (nth a0 v11)), (9, .lst (List.map eInt a0) false false), (10, .int .i64 (a0.length : Int)), (11, .int .i64 v11)]), [], []⟩ (True) ?_ (fun q8 => ?_)
  · replace h := q25
    refine rgS [] 3 ?_
    have q9 := h
    refine sIdx 1 (some 13) [] eInt a0 1 q9 ?_
    refine sEnd [(6, .int .i64 (nth a0 v11)), (14, .int .i64 (nth a0 v11))] ?_
    refine QJoin.normal trivial ?_
    exact wkJ (by kernel_rfl)
  refine cSeqG ⟨(mkS 26 [(1, .lst (List.map eInt a1) false false), (6, .int .i64 (nth a0 v11)), (9, .lst (List.map eInt a0) false false), (10, .int .i64 (a0.length : Int)), (11, .int .i64 v11), (15, .lst (List.map eInt a1) false false), (16, .int .i64 (a1.length : Int)), (17, .int .i64 0)]), [], []⟩ (a1.length ≤ 4611686018427387904) ?_ (fun q10 => ?_)
  · skip
    refine rgS [] 4 ?_
    refine sLen 2 (some 16) [(15, .lst (List.map eInt a1) false false)] eInt a1 (fun q11 => ?_)
    refine sEnd [(17, .int .i64 0)] ?_
    refine QJoin.normal q11 ?_
    exact wkJ (by kernel_rfl)
  replace h := h q10
  unfold spec_l1meet_C1 at h
  refine cBlock 2 ?_
  obtain ⟨q24, h⟩ := h
  refine cLoop (fun (v : Int) => (⟨(mkS 26 [(1, .lst (List.map eInt a1) false false), (6, .int .i64 (nth a0 v11)), (9, .lst (List.map eInt a0) false false), (10, .int .i64 (a0.length : Int)), (11, .int .i64 v11), (15, .lst (List.map eInt a1) false false), (16, .int .i64 (a1.length : Int)), (17, .int .i64 v)]), [], []⟩ : St)) (fun (v : Int) => I1 v11 v) (fun (v : Int) => m1 v11 v) 0 (wkL []) q24 (fun v17 hI => ?_)
  skip
  replace h := h v17 hI
  show WpS _ _ _ ⟨(mkS 26 [(1, .lst (List.map eInt a1) false false), (6, .int .i64 (nth a0 v11)), (9, .lst (List.map eInt a0) false false), (10, .int .i64 (a0.length : Int)), (11, .int .i64 v11), (15, .lst (List.map eInt a1) false false), (16, .int .i64 (a1.length : Int)), (17, .int .i64 v17)]), [], []⟩
  refine cSeqG ⟨(mkS 26 [(1, .lst (List.map eInt a1) false false), (6, .int .i64 (nth a0 v11)), (9, .lst (List.map eInt a0) false false), (10, .int .i64 (a0.length : Int)), (11, .int .i64 v11), (15, .lst (List.map eInt a1) false false), (16, .int .i64 (a1.length : Int)), (17, .int .i64 v17), (18, .bool (decide (v17 < (a1.length : Int))))]), [], []⟩ (True) ?_ (fun q12 => ?_)
  · skip
    refine rgS [] 5 ?_
    refine sEnd [(18, .bool (decide (v17 < (a1.length : Int))))] ?_
    refine QJoin.normal trivial ?_
    exact wkJ (by kernel_rfl)
  obtain ⟨q23, h⟩ := h
  refine cSeqG ⟨(mkS 26 [(1, .lst (List.map eInt a1) false false), (6, .int .i64 (nth a0 v11)), (9, .lst (List.map eInt a0) false false), (10, .int .i64 (a0.length : Int)), (11, .int .i64 v11), (15, .lst (List.map eInt a1) false false), (16, .int .i64 (a1.length : Int)), (17, .int .i64 v17)]), [], []⟩ ((decide (v17 < (a1.length : Int))) = true) ?_ (fun q13 => ?_)
  · replace h := q23
    refine cCond (.tmp 18) (decide (v17 < (a1.length : Int))) (fun q14 => ?_) (fun q14 => ?_)
    · skip
      refine cSkip ?_
      refine QJoin.normal (by simp only [q5, q14, Bool.true_or, Bool.false_or, Bool.true_and, Bool.false_and, Bool.not_true, Bool.not_false, Bool.and_true, Bool.and_false, Bool.or_true, Bool.or_false, cond_true, cond_false]) ?_
      exact wkJ (by kernel_rfl)
    · replace h := h q14
      refine cExit 2 ?_
      refine QJoin.exit ?_
      refine QRound.exit ?_
      refine QBlock.here ?_
      refine QBlock.normal ?_
      refine QSeq.normal ?_
      refine rgS [] 10 ?_
      refine sEnd [(11, .int .i64 (IntKind.i64.wrap (v11 + 1))), (25, .int .i64 (IntKind.i64.wrap (v11 + 1)))] ?_
      exact QRound.again (IntKind.i64.wrap (v11 + 1)) h (wkL [])
  replace h := h q13
  obtain ⟨q22, h⟩ := h
  refine cSeqG ⟨(mkS 26 [(1, .lst (List.map eInt a1) false false), (6, .int .i64 (nth a0 v11)), (9, .lst (List.map eInt a0) false false), (10, .int .i64 (a0.length : Int)), (11, .int .i64 v11), (15, .lst (List.map eInt a1) false false), (16, .int .i64 (a1.length : Int)), (17, .int .i64 v17)]), [], []⟩ ((!((nth a0 v11) == (nth a1 v17))) = true) ?_ (fun q15 => ?_)
  · replace h := q22
    refine cBlock 3 ?_
    obtain ⟨q21, h⟩ := h
    refine cSeqG ⟨(mkS 26 [(1, .lst (List.map eInt a1) false false), (6, .int .i64 (nth a0 v11)), (8, .int .i64 (nth a1 v17)), (9, .lst (List.map eInt a0) false false), (10, .int .i64 (a0.length : Int)), (11, .int .i64 v11), (15, .lst (List.map eInt a1) false false), (16, .int .i64 (a1.length : Int)), (17, .int .i64 v17)]), [], []⟩ (True) ?_ (fun q16 => ?_)
    · replace h := q21
      refine rgS [] 6 ?_
      have q17 := h
      refine sIdx 1 (some 19) [] eInt a1 1 q17 ?_
      refine sEnd [(8, .int .i64 (nth a1 v17)), (20, .int .i64 (nth a1 v17))] ?_
      refine QJoin.normal trivial ?_
      exact wkJ (by kernel_rfl)
    refine cSeqG ⟨(mkS 26 [(1, .lst (List.map eInt a1) false false), (6, .int .i64 (nth a0 v11)), (9, .lst (List.map eInt a0) false false), (10, .int .i64 (a0.length : Int)), (11, .int .i64 v11), (15, .lst (List.map eInt a1) false false), (16, .int .i64 (a1.length : Int)), (17, .int .i64 v17), (23, .bool ((nth a0 v11) == (nth a1 v17)))]), [], []⟩ (True) ?_ (fun q18 => ?_)
    · skip
      refine rgS [] 7 ?_
      refine sEnd [(23, .bool ((nth a0 v11) == (nth a1 v17))), (22, .int .i64 (nth a1 v17)), (21, .int .i64 (nth a0 v11))] ?_
      refine QJoin.normal trivial ?_
      exact wkJ (by kernel_rfl)
    refine cCond (.tmp 23) ((nth a0 v11) == (nth a1 v17)) (fun q19 => ?_) (fun q19 => ?_)
    · replace h := h q19
      refine cSeqG ⟨(mkS 26 [(4, .bool true)]), [], []⟩ (True) ?_ (fun q20 => ?_)
      · skip
        refine rgS [] 8 ?_
        refine sEnd [(4, .bool true)] ?_
        refine QJoin.normal trivial ?_
        exact wkJ (by kernel_rfl)
      refine cRet ?_
      refine QBlock.ret ?_
      refine QJoin.ret ?_
      refine QRound.ret ?_
      refine QBlock.ret ?_
      refine QBlock.ret ?_
      refine QSeq.ret ?_
      refine QRound.ret ?_
      refine QBlock.ret ?_
      refine QSeq.ret ?_
      refine rtS (.bool true) [.bool true] ?_
      exact (SnapR3.of1 (sr_bool (H := []) (a := true) (b := res) h))
    · skip
      refine cSkip ?_
      refine QBlock.normal ?_
      refine QJoin.normal (by simp only [q5, q13, q19, Bool.true_or, Bool.false_or, Bool.true_and, Bool.false_and, Bool.not_true, Bool.not_false, Bool.and_true, Bool.and_false, Bool.or_true, Bool.or_false, cond_true, cond_false]) ?_
      exact wkJ (by kernel_rfl)
  replace h := h q15
  refine rgS [] 9 ?_
  refine sEnd [(17, .int .i64 (IntKind.i64.wrap (v17 + 1))), (24, .int .i64 (IntKind.i64.wrap (v17 + 1)))] ?_
  exact QRound.again (IntKind.i64.wrap (v17 + 1)) h (wkL [])

set_option maxHeartbeats 4000000 in
theorem spec_l1meet_vc (a0 : (List Int)) (a1 : (List Int)) : spec_l1meet_C a0 a1 (meets a0 a1) (upI a0.length (fun j => hasInt a1 (nth a0 j))) (upM a0.length) (fun v => upI a1.length (fun k => nth a0 v == nth a1 k)) (fun v => upM a1.length) := by
  unfold spec_l1meet_C spec_l1meet_C1
  intro hn
  refine ⟨up_start (len0 _), fun v hI => ⟨fun hv => ?_, fun hv => ⟨up_in hI hv, fun hm => ⟨up_start (len0 _), fun k hK => ⟨fun hk => ?_, fun hk => ⟨⟨up_in hK hk, fun hp => ?_⟩, fun hp => up_step (lenI hm) hK hk (not_eq hp)⟩⟩⟩⟩⟩⟩
  · exact (up_nany (q := fun x => hasInt a1 x) hI hv).symm
  · exact up_step (lenI hn) hI hv (has_false (up_end hK hk))
  · exact (up_any (q := fun x => hasInt a1 x) hI hv (has_true (up_in hK hk).2 hp)).symm

theorem spec_l1meet_V (a0 : (List Int)) (a1 : (List Int)) : FnV Try.prog 69 [.lst (List.map eInt a0) false false, .lst (List.map eInt a1) false false] (.bool (meets a0 a1)) := spec_l1meet_walk a0 a1 (meets a0 a1) (upI a0.length (fun j => hasInt a1 (nth a0 j))) (upM a0.length) (fun v => upI a1.length (fun k => nth a0 v == nth a1 k)) (fun v => upM a1.length) (spec_l1meet_vc a0 a1)

noncomputable def laws_toIntS_b : Code := bodyC Try.f70
def laws_toIntS_C1 (I0 : (List Int) → Int → Prop) (m0 : (List Int) → Int → Nat) (a0 : (List Int)) (res : (List Int)) : Prop :=
  I0 (List.replicate (a0.length : Int).toNat (0 : Int)) 0 ∧ ∀ (x0 : (List Int)) (v4 : Int), I0 x0 v4 → (((decide (v4 < (a0.length : Int))) = false → x0.length ≤ 4611686018427387904 ∧ x0 = res) ∧ ((decide (v4 < (a0.length : Int))) = true → ((0 ≤ v4 ∧ v4.toNat < a0.length) ∧ (0 ≤ v4 ∧ v4.toNat < x0.length)) ∧ (I0 (x0.set v4.toNat (nth a0 v4)) (IntKind.i64.wrap (v4 + 1)) ∧ m0 (x0.set v4.toNat (nth a0 v4)) (IntKind.i64.wrap (v4 + 1)) < m0 x0 v4)))
def laws_toIntS_C (a0 : (List Int)) (res : (List Int)) (I0 : (List Int) → Int → Prop) (m0 : (List Int) → Int → Nat) : Prop :=
  (a0.length ≤ 4611686018427387904 → 0 ≤ (a0.length : Int) ∧ 8 * (a0.length : Int) ≤ 140737488355328 ∧ (a0.length : Int) ≤ 4611686018427387904) ∧ (a0.length ≤ 4611686018427387904 → laws_toIntS_C1 I0 m0 a0 res)
set_option maxHeartbeats 4000000 in
theorem laws_toIntS_walk (a0 : (List Int)) (res : (List Int)) (I0 : (List Int) → Int → Prop) (m0 : (List Int) → Int → Nat) (h : laws_toIntS_C a0 res I0 m0) : FnV Try.prog 70 [.lst (List.map eInt a0) false false] (.lst (List.map eInt res) false true) := by
  unfold laws_toIntS_C at h
  refine FnS.of_body (fn := Try.f70) (c := laws_toIntS_b) Try.func70 (by kernel_rfl) (by kernel_rfl) ?_
  refine WpS.codeIs (c' := (nv laws_toIntS_b 1)) (by kernel_rfl) ?_
  refine WpS.start (st' := ⟨(mkS 22 [(0, .lst (List.map eInt a0) false false)]), [], []⟩) (by kernel_rfl) ?_
  refine cSeqG ⟨(mkS 22 [(0, .lst (List.map eInt a0) false false)]), [], []⟩ (True) ?_ (fun q1 => ?_)
  · skip
    refine rgS [] 0 ?_
    refine sEnd [(2, .lst [] true true)] ?_
    refine QJoin.normal trivial ?_
    exact wkJ (by kernel_rfl)
  obtain ⟨q17, h⟩ := h
  refine cSeqG ⟨(mkS 22 [(0, .lst (List.map eInt a0) false false), (3, .ref 0 0 0 ((List.replicate (a0.length : Int).toNat (0 : Int)).length) false)]), [], [⟨0, 1, List.map eInt (List.replicate (a0.length : Int).toNat (0 : Int))⟩]⟩ (a0.length ≤ 4611686018427387904) ?_ (fun q2 => ?_)
  · replace h := q17
    refine rgS [] 1 ?_
    refine sLen 2 (some 6) [(5, .lst (List.map eInt a0) false false)] eInt a0 (fun q3 => ?_)
    replace h := h q3
    have q4 := h
    refine sMks 1 (some 7) [] eInt 8 [.int .i64 0] 0 (fun r => [⟨0, 1, r⟩]) (0 : Int) q4 ?_
    refine sEnd [(3, .ref 0 0 0 ((List.replicate (a0.length : Int).toNat (0 : Int)).length) false)] ?_
    refine QJoin.normal q3 ?_
    exact wkJ (by kernel_rfl)
  replace h := h q2
  refine cSeq ?_
  refine cSeqG ⟨(mkS 22 [(0, .lst (List.map eInt a0) false false), (3, .ref 0 0 0 ((List.replicate (a0.length : Int).toNat (0 : Int)).length) false), (4, .int .i64 0)]), [], [⟨0, 1, List.map eInt (List.replicate (a0.length : Int).toNat (0 : Int))⟩]⟩ (True) ?_ (fun q5 => ?_)
  · skip
    refine rgS [] 2 ?_
    refine sEnd [(4, .int .i64 0)] ?_
    refine QJoin.normal trivial ?_
    exact wkJ (by kernel_rfl)
  unfold laws_toIntS_C1 at h
  refine cBlock 0 ?_
  obtain ⟨q16, h⟩ := h
  refine cLoop (fun (v : (List Int) × Int) => (⟨(mkS 22 [(0, .lst (List.map eInt a0) false false), (3, .ref 0 0 0 ((v.1).length) false), (4, .int .i64 (v.2))]), [], [⟨0, 1, List.map eInt (v.1)⟩]⟩ : St)) (fun (v : (List Int) × Int) => I0 (v.1) (v.2)) (fun (v : (List Int) × Int) => m0 (v.1) (v.2)) ((List.replicate (a0.length : Int).toNat (0 : Int)), 0) (wkL []) q16 (fun v hI => ?_)
  obtain ⟨x0, v4⟩ := v
  replace h := h x0 v4 hI
  show WpS _ _ _ ⟨(mkS 22 [(0, .lst (List.map eInt a0) false false), (3, .ref 0 0 0 x0.length false), (4, .int .i64 v4)]), [], [⟨0, 1, List.map eInt x0⟩]⟩
  obtain ⟨q15, h⟩ := h
  refine cSeqG ⟨(mkS 22 [(0, .lst (List.map eInt a0) false false), (3, .ref 0 0 0 x0.length false), (4, .int .i64 v4)]), [], [⟨0, 1, List.map eInt x0⟩]⟩ ((decide (v4 < (a0.length : Int))) = true) ?_ (fun q6 => ?_)
  · replace h := q15
    refine cSeqG ⟨(mkS 22 [(0, .lst (List.map eInt a0) false false), (3, .ref 0 0 0 x0.length false), (4, .int .i64 v4), (11, .bool (decide (v4 < (a0.length : Int))))]), [], [⟨0, 1, List.map eInt x0⟩]⟩ (True) ?_ (fun q7 => ?_)
    · skip
      refine rgS [] 3 ?_
      refine sLen 3 (some 10) [(9, .lst (List.map eInt a0) false false), (8, .int .i64 v4)] eInt a0 (fun q8 => ?_)
      refine sEnd [(11, .bool (decide (v4 < (a0.length : Int))))] ?_
      refine QJoin.normal trivial ?_
      exact wkJ (by kernel_rfl)
    refine cCond (.tmp 11) (decide (v4 < (a0.length : Int))) (fun q9 => ?_) (fun q9 => ?_)
    · skip
      refine cSkip ?_
      refine QJoin.normal (by simp only [q9, Bool.true_or, Bool.false_or, Bool.true_and, Bool.false_and, Bool.not_true, Bool.not_false, Bool.and_true, Bool.and_false, Bool.or_true, Bool.or_false, cond_true, cond_false]) ?_
      exact wkJ (by kernel_rfl)
    · replace h := h q9
      refine cExit 0 ?_
      refine QJoin.exit ?_
      refine QRound.exit ?_
      refine QBlock.here ?_
      refine QSeq.normal ?_
      refine cSeqG ⟨(mkS 22 [(2, .ref 0 0 0 x0.length false)]), [], [⟨0, 1, List.map eInt x0⟩]⟩ (True) ?_ (fun q10 => ?_)
      · skip
        refine rgS [] 6 ?_
        refine sEnd [(2, .ref 0 0 0 x0.length false), (21, .ref 0 0 0 x0.length false)] ?_
        refine QJoin.normal trivial ?_
        exact wkJ (by kernel_rfl)
      refine cRet ?_
      refine rtS (.ref 0 0 0 x0.length false) [.ref 0 0 0 x0.length false] ?_
      exact (SnapR3.of1 (sr_blk' (sz := 1) (by simp) rfl (cInt) h))
  replace h := h q6
  obtain ⟨q14, h⟩ := h
  refine cSeqG ⟨(mkS 22 [(0, .lst (List.map eInt a0) false false), (3, .ref 0 0 0 x0.length false), (4, .int .i64 v4)]), [], [⟨0, 1, List.map eInt (x0.set v4.toNat (nth a0 v4))⟩]⟩ (True) ?_ (fun q11 => ?_)
  · replace h := q14
    refine cBlock 1 ?_
    refine rgS [] 5 ?_
    obtain ⟨q13, h⟩ := h
    refine sIdx 5 (some 18) [(17, .int .i64 v4), (16, .lst (List.map eInt a0) false false), (15, .int .i64 v4), (14, .ref 0 0 0 x0.length false)] eInt a0 1 q13 ?_
    have q12 := h
    refine sAdr 2 (some 20) [(19, .int .i64 (nth a0 v4))] 0 0 1 q12 ?_
    refine sStB 1 none [] eInt x0 v4 0 1 0 [.int .i64 (nth a0 v4)] (fun r => [⟨0, 1, r⟩]) (nth a0 v4) (by simpa using q12.2) ?_
    refine sEnd [] ?_
    refine QBlock.normal ?_
    refine QJoin.normal trivial ?_
    exact wkJ (by kernel_rfl)
  refine rgS [] 4 ?_
  refine sEnd [(4, .int .i64 (IntKind.i64.wrap (v4 + 1))), (13, .int .i64 (IntKind.i64.wrap (v4 + 1))), (12, .int .i64 v4)] ?_
  exact QRound.again ((x0.set v4.toNat (nth a0 v4)), (IntKind.i64.wrap (v4 + 1))) h (weak_eq (s' := ⟨(mkS 22 [(0, .lst (List.map eInt a0) false false), (3, .ref 0 0 0 x0.length false), (4, .int .i64 (IntKind.i64.wrap (v4 + 1)))]), [], [⟨0, 1, List.map eInt (x0.set v4.toNat (nth a0 v4))⟩]⟩) (wkL (n := 22) (A' := [(0, .lst (List.map eInt a0) false false), (3, .ref 0 0 0 x0.length false), (4, .int .i64 (IntKind.i64.wrap (v4 + 1)))]) (L' := []) []) (congrArg (fun z => (⟨(mkS 22 [(0, .lst (List.map eInt a0) false false), (3, .ref 0 0 0 z false), (4, .int .i64 (IntKind.i64.wrap (v4 + 1)))]), [], [⟨0, 1, List.map eInt (x0.set v4.toNat (nth a0 v4))⟩]⟩ : St)) (show x0.length = (x0.set v4.toNat (nth a0 v4)).length by simp)))

set_option maxHeartbeats 4000000 in
theorem laws_toIntS_vc (a0 : (List Int)) (hp : small a0) : laws_toIntS_C a0 (idt a0) (fillI a0 (fun x => x) (0 : Int)) (fillM a0) := by
  unfold laws_toIntS_C laws_toIntS_C1
  have hp : a0.length ≤ 1048576 := hp
  exact ⟨fun hn => ⟨len0 _, by omega, by omega⟩, fun hn => fill_loop0 (f := fun x => x) hn (by simp [idt])⟩

theorem laws_toIntS_V (a0 : (List Int)) (hp : small a0) : FnV Try.prog 70 [.lst (List.map eInt a0) false false] (.lst (List.map eInt (idt a0)) false true) := laws_toIntS_walk a0 (idt a0) (fillI a0 (fun x => x) (0 : Int)) (fillM a0) (laws_toIntS_vc a0 hp)

noncomputable def laws_toLie_b : Code := bodyC Try.f168
def laws_toLie_C (a0 : Lie) (res : Lie) : Prop :=
  (a0.sw = res.sw) ∧ (a0.lie = res.lie)
set_option maxHeartbeats 4000000 in
theorem laws_toLie_walk (a0 : Lie) (res : Lie) (h : laws_toLie_C a0 res) : FnV Try.prog 168 [.agg (eLie a0)] (.agg (eLie res)) := by
  unfold laws_toLie_C at h
  refine FnS.of_body (fn := Try.f168) (c := laws_toLie_b) Try.func168 (by kernel_rfl) (by kernel_rfl) ?_
  refine WpS.codeIs (c' := (nv laws_toLie_b 1)) (by kernel_rfl) ?_
  refine WpS.start (st' := ⟨(mkS 11 [(0, .agg (eLie a0))]), [], []⟩) (by kernel_rfl) ?_
  refine cSeqG ⟨(mkS 11 [(1, .lptr 1 0), (2, .lptr 2 0)]), [(2, [.int .i64 0, .int .i64 0]), (1, (eLie a0))], []⟩ (True) ?_ (fun q1 => ?_)
  · skip
    refine rgS [] 0 ?_
    refine sEnd' [(2, .lptr 2 0), (1, .lptr 1 0)] [(2, [.int .i64 0, .int .i64 0]), (1, (eLie a0))] [] ?_
    refine QJoin.normal trivial ?_
    exact wkJ (by kernel_rfl)
  refine cSeqG ⟨(mkS 11 [(1, .lptr 1 0), (2, .lptr 2 0), (3, .lptr 3 0)]), [(3, [.int .i64 0, .int .i64 0]), (2, [.int .i64 0, .int .i64 0]), (1, (eLie a0))], []⟩ (True) ?_ (fun q2 => ?_)
  · skip
    refine rgS [] 1 ?_
    refine sEnd' [(3, .lptr 3 0)] [(3, [.int .i64 0, .int .i64 0]), (2, [.int .i64 0, .int .i64 0]), (1, (eLie a0))] [] ?_
    refine QJoin.normal trivial ?_
    exact wkJ (by kernel_rfl)
  refine cSeqG ⟨(mkS 11 [(1, .lptr 1 0), (2, .lptr 2 0), (3, .lptr 3 0)]), [(3, [.int .i64 a0.sw, .int .i64 0]), (2, [.int .i64 0, .int .i64 0]), (1, (eLie a0))], []⟩ (True) ?_ (fun q3 => ?_)
  · skip
    refine rgS [] 2 ?_
    refine sEnd' [(6, .lptr 3 0), (5, .int .i64 a0.sw), (4, .lptr 1 0)] [(3, [.int .i64 a0.sw, .int .i64 0]), (2, [.int .i64 0, .int .i64 0]), (1, (eLie a0))] [] ?_
    refine QJoin.normal trivial ?_
    exact wkJ (by kernel_rfl)
  refine cSeqG ⟨(mkS 11 [(2, .lptr 2 0), (3, .lptr 3 0)]), [(3, (eLie a0)), (2, [.int .i64 0, .int .i64 0]), (1, (eLie a0))], []⟩ (True) ?_ (fun q4 => ?_)
  · skip
    refine rgS [] 3 ?_
    refine sEnd' [(9, .lptr 3 1), (8, .int .i64 a0.lie), (7, .lptr 1 1)] [(3, (eLie a0)), (2, [.int .i64 0, .int .i64 0]), (1, (eLie a0))] [] ?_
    refine QJoin.normal trivial ?_
    exact wkJ (by kernel_rfl)
  refine cSeqG ⟨(mkS 11 [(2, .lptr 2 0)]), [(3, (eLie a0)), (2, (eLie a0)), (1, (eLie a0))], []⟩ (True) ?_ (fun q5 => ?_)
  · skip
    refine rgS [] 4 ?_
    refine sEnd' [(10, .agg (eLie a0))] [(3, (eLie a0)), (2, (eLie a0)), (1, (eLie a0))] [] ?_
    refine QJoin.normal trivial ?_
    exact wkJ (by kernel_rfl)
  refine cRet ?_
  refine rtS (.agg (eLie a0)) [.agg (eLie a0)] ?_
  exact (SnapR3.agg (PW.cons (sr_int (H := []) (a := a0.sw) (b := res.sw) h.1) (PW.cons (sr_int (H := []) (a := a0.lie) (b := res.lie) h.2) PW.nil)))

set_option maxHeartbeats 4000000 in
theorem laws_toLie_vc (a0 : Lie) : laws_toLie_C a0 (idt a0) := by
  exact ⟨rfl, rfl⟩

theorem laws_toLie_V (a0 : Lie) : FnV Try.prog 168 [.agg (eLie a0)] (.agg (eLie (idt a0))) := laws_toLie_walk a0 (idt a0) (laws_toLie_vc a0)

noncomputable def laws_toLieS_b : Code := bodyC Try.f160
def laws_toLieS_C1 (I0 : (List Lie) → Int → Prop) (m0 : (List Lie) → Int → Nat) (a0 : (List Lie)) (res : (List Lie)) : Prop :=
  I0 (List.replicate (a0.length : Int).toNat ({ sw := (0 : Int), lie := (0 : Int) } : Lie)) 0 ∧ ∀ (x0 : (List Lie)) (v4 : Int), I0 x0 v4 → (((decide (v4 < (a0.length : Int))) = false → x0.length ≤ 4611686018427387904 ∧ x0 = res) ∧ ((decide (v4 < (a0.length : Int))) = true → ((0 ≤ v4 ∧ v4.toNat < a0.length) ∧ (0 ≤ v4 ∧ v4.toNat < x0.length)) ∧ (I0 (x0.set v4.toNat (idt (nth a0 v4))) (IntKind.i64.wrap (v4 + 1)) ∧ m0 (x0.set v4.toNat (idt (nth a0 v4))) (IntKind.i64.wrap (v4 + 1)) < m0 x0 v4)))
def laws_toLieS_C (a0 : (List Lie)) (res : (List Lie)) (I0 : (List Lie) → Int → Prop) (m0 : (List Lie) → Int → Nat) : Prop :=
  (a0.length ≤ 4611686018427387904 → 0 ≤ (a0.length : Int) ∧ 16 * (a0.length : Int) ≤ 140737488355328 ∧ (a0.length : Int) ≤ 4611686018427387904) ∧ (a0.length ≤ 4611686018427387904 → laws_toLieS_C1 I0 m0 a0 res)
set_option maxHeartbeats 4000000 in
theorem laws_toLieS_walk (a0 : (List Lie)) (res : (List Lie)) (I0 : (List Lie) → Int → Prop) (m0 : (List Lie) → Int → Nat) (h : laws_toLieS_C a0 res I0 m0) : FnV Try.prog 160 [.lst (List.map eLie a0) false false] (.lst (List.map eLie res) false true) := by
  unfold laws_toLieS_C at h
  refine FnS.of_body (fn := Try.f160) (c := laws_toLieS_b) Try.func160 (by kernel_rfl) (by kernel_rfl) ?_
  refine WpS.codeIs (c' := (nv laws_toLieS_b 1)) (by kernel_rfl) ?_
  refine WpS.start (st' := ⟨(mkS 23 [(0, .lst (List.map eLie a0) false false)]), [], []⟩) (by kernel_rfl) ?_
  refine cSeqG ⟨(mkS 23 [(0, .lst (List.map eLie a0) false false)]), [], []⟩ (True) ?_ (fun q1 => ?_)
  · skip
    refine rgS [] 0 ?_
    refine sEnd [(2, .lst [] true true)] ?_
    refine QJoin.normal trivial ?_
    exact wkJ (by kernel_rfl)
  obtain ⟨q17, h⟩ := h
  refine cSeqG ⟨(mkS 23 [(0, .lst (List.map eLie a0) false false), (3, .ref 0 0 0 ((List.replicate (a0.length : Int).toNat ({ sw := (0 : Int), lie := (0 : Int) } : Lie)).length) false)]), [], [⟨0, 2, List.map eLie (List.replicate (a0.length : Int).toNat ({ sw := (0 : Int), lie := (0 : Int) } : Lie))⟩]⟩ (a0.length ≤ 4611686018427387904) ?_ (fun q2 => ?_)
  · replace h := q17
    refine rgS [] 1 ?_
    refine sLen 2 (some 6) [(5, .lst (List.map eLie a0) false false)] eLie a0 (fun q3 => ?_)
    replace h := h q3
    have q4 := h
    refine sMks 1 (some 7) [] eLie 16 [.int .i64 0, .int .i64 0] 0 (fun r => [⟨0, 2, r⟩]) ({ sw := (0 : Int), lie := (0 : Int) } : Lie) q4 ?_
    refine sEnd [(3, .ref 0 0 0 ((List.replicate (a0.length : Int).toNat ({ sw := (0 : Int), lie := (0 : Int) } : Lie)).length) false)] ?_
    refine QJoin.normal q3 ?_
    exact wkJ (by kernel_rfl)
  replace h := h q2
  refine cSeq ?_
  refine cSeqG ⟨(mkS 23 [(0, .lst (List.map eLie a0) false false), (3, .ref 0 0 0 ((List.replicate (a0.length : Int).toNat ({ sw := (0 : Int), lie := (0 : Int) } : Lie)).length) false), (4, .int .i64 0)]), [], [⟨0, 2, List.map eLie (List.replicate (a0.length : Int).toNat ({ sw := (0 : Int), lie := (0 : Int) } : Lie))⟩]⟩ (True) ?_ (fun q5 => ?_)
  · skip
    refine rgS [] 2 ?_
    refine sEnd [(4, .int .i64 0)] ?_
    refine QJoin.normal trivial ?_
    exact wkJ (by kernel_rfl)
  unfold laws_toLieS_C1 at h
  refine cBlock 0 ?_
  obtain ⟨q16, h⟩ := h
  refine cLoop (fun (v : (List Lie) × Int) => (⟨(mkS 23 [(0, .lst (List.map eLie a0) false false), (3, .ref 0 0 0 ((v.1).length) false), (4, .int .i64 (v.2))]), [], [⟨0, 2, List.map eLie (v.1)⟩]⟩ : St)) (fun (v : (List Lie) × Int) => I0 (v.1) (v.2)) (fun (v : (List Lie) × Int) => m0 (v.1) (v.2)) ((List.replicate (a0.length : Int).toNat ({ sw := (0 : Int), lie := (0 : Int) } : Lie)), 0) (wkL []) q16 (fun v hI => ?_)
  obtain ⟨x0, v4⟩ := v
  replace h := h x0 v4 hI
  show WpS _ _ _ ⟨(mkS 23 [(0, .lst (List.map eLie a0) false false), (3, .ref 0 0 0 x0.length false), (4, .int .i64 v4)]), [], [⟨0, 2, List.map eLie x0⟩]⟩
  obtain ⟨q15, h⟩ := h
  refine cSeqG ⟨(mkS 23 [(0, .lst (List.map eLie a0) false false), (3, .ref 0 0 0 x0.length false), (4, .int .i64 v4)]), [], [⟨0, 2, List.map eLie x0⟩]⟩ ((decide (v4 < (a0.length : Int))) = true) ?_ (fun q6 => ?_)
  · replace h := q15
    refine cSeqG ⟨(mkS 23 [(0, .lst (List.map eLie a0) false false), (3, .ref 0 0 0 x0.length false), (4, .int .i64 v4), (11, .bool (decide (v4 < (a0.length : Int))))]), [], [⟨0, 2, List.map eLie x0⟩]⟩ (True) ?_ (fun q7 => ?_)
    · skip
      refine rgS [] 3 ?_
      refine sLen 3 (some 10) [(9, .lst (List.map eLie a0) false false), (8, .int .i64 v4)] eLie a0 (fun q8 => ?_)
      refine sEnd [(11, .bool (decide (v4 < (a0.length : Int))))] ?_
      refine QJoin.normal trivial ?_
      exact wkJ (by kernel_rfl)
    refine cCond (.tmp 11) (decide (v4 < (a0.length : Int))) (fun q9 => ?_) (fun q9 => ?_)
    · skip
      refine cSkip ?_
      refine QJoin.normal (by simp only [q9, Bool.true_or, Bool.false_or, Bool.true_and, Bool.false_and, Bool.not_true, Bool.not_false, Bool.and_true, Bool.and_false, Bool.or_true, Bool.or_false, cond_true, cond_false]) ?_
      exact wkJ (by kernel_rfl)
    · replace h := h q9
      refine cExit 0 ?_
      refine QJoin.exit ?_
      refine QRound.exit ?_
      refine QBlock.here ?_
      refine QSeq.normal ?_
      refine cSeqG ⟨(mkS 23 [(2, .ref 0 0 0 x0.length false)]), [], [⟨0, 2, List.map eLie x0⟩]⟩ (True) ?_ (fun q10 => ?_)
      · skip
        refine rgS [] 6 ?_
        refine sEnd [(2, .ref 0 0 0 x0.length false), (22, .ref 0 0 0 x0.length false)] ?_
        refine QJoin.normal trivial ?_
        exact wkJ (by kernel_rfl)
      refine cRet ?_
      refine rtS (.ref 0 0 0 x0.length false) [.ref 0 0 0 x0.length false] ?_
      exact (SnapR3.of1 (sr_blk' (sz := 2) (by simp) rfl (cLie) h))
  replace h := h q6
  obtain ⟨q14, h⟩ := h
  refine cSeqG ⟨(mkS 23 [(0, .lst (List.map eLie a0) false false), (3, .ref 0 0 0 x0.length false), (4, .int .i64 v4)]), [], [⟨0, 2, List.map eLie (x0.set v4.toNat (idt (nth a0 v4)))⟩]⟩ (True) ?_ (fun q11 => ?_)
  · replace h := q14
    refine cBlock 1 ?_
    refine rgS [] 5 ?_
    obtain ⟨q13, h⟩ := h
    refine sIdx 5 (some 18) [(17, .int .i64 v4), (16, .lst (List.map eLie a0) false false), (15, .int .i64 v4), (14, .ref 0 0 0 x0.length false)] eLie a0 2 q13 ?_
    refine sCallV 2 (some 20) [(19, .agg (eLie (nth a0 v4)))] [.agg (eLie (nth a0 v4))] (laws_toLie_V (nth a0 v4)) (PW.cons (Snap2.agg (PW.cons (.int _ _) (PW.cons (.int _ _) PW.nil))) PW.nil) ?_
    have q12 := h
    refine sAdr 1 (some 21) [] 0 0 2 q12 ?_
    refine sStB 1 none [] eLie x0 v4 0 2 0 (eLie (idt (nth a0 v4))) (fun r => [⟨0, 2, r⟩]) (idt (nth a0 v4)) (by simpa using q12.2) ?_
    refine sEnd [] ?_
    refine QBlock.normal ?_
    refine QJoin.normal trivial ?_
    exact wkJ (by kernel_rfl)
  refine rgS [] 4 ?_
  refine sEnd [(4, .int .i64 (IntKind.i64.wrap (v4 + 1))), (13, .int .i64 (IntKind.i64.wrap (v4 + 1))), (12, .int .i64 v4)] ?_
  exact QRound.again ((x0.set v4.toNat (idt (nth a0 v4))), (IntKind.i64.wrap (v4 + 1))) h (weak_eq (s' := ⟨(mkS 23 [(0, .lst (List.map eLie a0) false false), (3, .ref 0 0 0 x0.length false), (4, .int .i64 (IntKind.i64.wrap (v4 + 1)))]), [], [⟨0, 2, List.map eLie (x0.set v4.toNat (idt (nth a0 v4)))⟩]⟩) (wkL (n := 23) (A' := [(0, .lst (List.map eLie a0) false false), (3, .ref 0 0 0 x0.length false), (4, .int .i64 (IntKind.i64.wrap (v4 + 1)))]) (L' := []) []) (congrArg (fun z => (⟨(mkS 23 [(0, .lst (List.map eLie a0) false false), (3, .ref 0 0 0 z false), (4, .int .i64 (IntKind.i64.wrap (v4 + 1)))]), [], [⟨0, 2, List.map eLie (x0.set v4.toNat (idt (nth a0 v4)))⟩]⟩ : St)) (show x0.length = (x0.set v4.toNat (idt (nth a0 v4))).length by simp)))

set_option maxHeartbeats 4000000 in
theorem laws_toLieS_vc (a0 : (List Lie)) (hp : small a0) : laws_toLieS_C a0 (idt a0) (fillI a0 (idt) ({ sw := (0 : Int), lie := (0 : Int) } : Lie)) (fillM a0) := by
  unfold laws_toLieS_C laws_toLieS_C1
  have hp : a0.length ≤ 1048576 := hp
  exact ⟨fun hn => ⟨len0 _, by omega, by omega⟩, fun hn => fill_loop0 (f := idt) hn (map_idt _)⟩

theorem laws_toLieS_V (a0 : (List Lie)) (hp : small a0) : FnV Try.prog 160 [.lst (List.map eLie a0) false false] (.lst (List.map eLie (idt a0)) false true) := laws_toLieS_walk a0 (idt a0) (fillI a0 (idt) ({ sw := (0 : Int), lie := (0 : Int) } : Lie)) (fillM a0) (laws_toLieS_vc a0 hp)

noncomputable def laws_toWay_b : Code := bodyC Try.f128
def laws_toWay_C (a0 : Way) (res : Way) : Prop :=
  (small a0.sections) ∧ ((small a0.lies) ∧ ((small a0.flanks) ∧ ((small a0.over) ∧ ((small a0.near) ∧ (((idt a0.sections) = res.sections) ∧ ((idt a0.lies) = res.lies) ∧ ((idt a0.flanks) = res.flanks) ∧ ((idt a0.over) = res.over) ∧ ((idt a0.near) = res.near))))))
set_option maxHeartbeats 4000000 in
theorem laws_toWay_walk (a0 : Way) (res : Way) (h : laws_toWay_C a0 res) : FnV Try.prog 128 [.agg (eWay false a0)] (.agg (eWay true res)) := by
  unfold laws_toWay_C at h
  refine FnS.of_body (fn := Try.f128) (c := laws_toWay_b) Try.func128 (by kernel_rfl) (by kernel_rfl) ?_
  refine WpS.codeIs (c' := (nv laws_toWay_b 1)) (by kernel_rfl) ?_
  refine WpS.start (st' := ⟨(mkS 25 [(0, .agg (eWay false a0))]), [], []⟩) (by kernel_rfl) ?_
  refine cSeqG ⟨(mkS 25 [(1, .lptr 1 0), (2, .lptr 2 0)]), [(2, [.lst [] true true, .lst [] true true, .lst [] true true, .lst [] true true, .lst [] true true]), (1, (eWay false a0))], []⟩ (True) ?_ (fun q1 => ?_)
  · skip
    refine rgS [] 0 ?_
    refine sEnd' [(2, .lptr 2 0), (1, .lptr 1 0)] [(2, [.lst [] true true, .lst [] true true, .lst [] true true, .lst [] true true, .lst [] true true]), (1, (eWay false a0))] [] ?_
    refine QJoin.normal trivial ?_
    exact wkJ (by kernel_rfl)
  refine cSeqG ⟨(mkS 25 [(1, .lptr 1 0), (2, .lptr 2 0), (3, .lptr 3 0)]), [(3, [.lst [] true true, .lst [] true true, .lst [] true true, .lst [] true true, .lst [] true true]), (2, [.lst [] true true, .lst [] true true, .lst [] true true, .lst [] true true, .lst [] true true]), (1, (eWay false a0))], []⟩ (True) ?_ (fun q2 => ?_)
  · skip
    refine rgS [] 1 ?_
    refine sEnd' [(3, .lptr 3 0)] [(3, [.lst [] true true, .lst [] true true, .lst [] true true, .lst [] true true, .lst [] true true]), (2, [.lst [] true true, .lst [] true true, .lst [] true true, .lst [] true true, .lst [] true true]), (1, (eWay false a0))] [] ?_
    refine QJoin.normal trivial ?_
    exact wkJ (by kernel_rfl)
  obtain ⟨q18, h⟩ := h
  refine cSeqG ⟨(mkS 25 [(1, .lptr 1 0), (2, .lptr 2 0), (3, .lptr 3 0)]), [(3, [.lst (List.map eInt (idt a0.sections)) false true, .lst [] true true, .lst [] true true, .lst [] true true, .lst [] true true]), (2, [.lst [] true true, .lst [] true true, .lst [] true true, .lst [] true true, .lst [] true true]), (1, (eWay false a0))], []⟩ (True) ?_ (fun q3 => ?_)
  · replace h := q18
    refine rgS [] 2 ?_
    have q4 := h
    refine sCallV 3 (some 6) [(5, .lst (List.map eInt a0.sections) false false), (4, .lptr 1 0)] [.lst (List.map eInt a0.sections) false false] (laws_toIntS_V a0.sections q4) (PW.cons (Snap2.of1 sa_lst) PW.nil) ?_
    refine sEnd' [(7, .lptr 3 0)] [(3, [.lst (List.map eInt (idt a0.sections)) false true, .lst [] true true, .lst [] true true, .lst [] true true, .lst [] true true]), (2, [.lst [] true true, .lst [] true true, .lst [] true true, .lst [] true true, .lst [] true true]), (1, (eWay false a0))] [] ?_
    refine QJoin.normal trivial ?_
    exact wkJ (by kernel_rfl)
  obtain ⟨q17, h⟩ := h
  refine cSeqG ⟨(mkS 25 [(1, .lptr 1 0), (2, .lptr 2 0), (3, .lptr 3 0)]), [(3, [.lst (List.map eInt (idt a0.sections)) false true, .lst (List.map eLie (idt a0.lies)) false true, .lst [] true true, .lst [] true true, .lst [] true true]), (2, [.lst [] true true, .lst [] true true, .lst [] true true, .lst [] true true, .lst [] true true]), (1, (eWay false a0))], []⟩ (True) ?_ (fun q5 => ?_)
  · replace h := q17
    refine rgS [] 3 ?_
    have q6 := h
    refine sCallV 3 (some 10) [(9, .lst (List.map eLie a0.lies) false false), (8, .lptr 1 1)] [.lst (List.map eLie a0.lies) false false] (laws_toLieS_V a0.lies q6) (PW.cons (Snap2.of1 sa_lst) PW.nil) ?_
    refine sEnd' [(11, .lptr 3 1)] [(3, [.lst (List.map eInt (idt a0.sections)) false true, .lst (List.map eLie (idt a0.lies)) false true, .lst [] true true, .lst [] true true, .lst [] true true]), (2, [.lst [] true true, .lst [] true true, .lst [] true true, .lst [] true true, .lst [] true true]), (1, (eWay false a0))] [] ?_
    refine QJoin.normal trivial ?_
    exact wkJ (by kernel_rfl)
  obtain ⟨q16, h⟩ := h
  refine cSeqG ⟨(mkS 25 [(1, .lptr 1 0), (2, .lptr 2 0), (3, .lptr 3 0)]), [(3, [.lst (List.map eInt (idt a0.sections)) false true, .lst (List.map eLie (idt a0.lies)) false true, .lst (List.map eLie (idt a0.flanks)) false true, .lst [] true true, .lst [] true true]), (2, [.lst [] true true, .lst [] true true, .lst [] true true, .lst [] true true, .lst [] true true]), (1, (eWay false a0))], []⟩ (True) ?_ (fun q7 => ?_)
  · replace h := q16
    refine rgS [] 4 ?_
    have q8 := h
    refine sCallV 3 (some 14) [(13, .lst (List.map eLie a0.flanks) false false), (12, .lptr 1 2)] [.lst (List.map eLie a0.flanks) false false] (laws_toLieS_V a0.flanks q8) (PW.cons (Snap2.of1 sa_lst) PW.nil) ?_
    refine sEnd' [(15, .lptr 3 2)] [(3, [.lst (List.map eInt (idt a0.sections)) false true, .lst (List.map eLie (idt a0.lies)) false true, .lst (List.map eLie (idt a0.flanks)) false true, .lst [] true true, .lst [] true true]), (2, [.lst [] true true, .lst [] true true, .lst [] true true, .lst [] true true, .lst [] true true]), (1, (eWay false a0))] [] ?_
    refine QJoin.normal trivial ?_
    exact wkJ (by kernel_rfl)
  obtain ⟨q15, h⟩ := h
  refine cSeqG ⟨(mkS 25 [(1, .lptr 1 0), (2, .lptr 2 0), (3, .lptr 3 0)]), [(3, [.lst (List.map eInt (idt a0.sections)) false true, .lst (List.map eLie (idt a0.lies)) false true, .lst (List.map eLie (idt a0.flanks)) false true, .lst (List.map eInt (idt a0.over)) false true, .lst [] true true]), (2, [.lst [] true true, .lst [] true true, .lst [] true true, .lst [] true true, .lst [] true true]), (1, (eWay false a0))], []⟩ (True) ?_ (fun q9 => ?_)
  · replace h := q15
    refine rgS [] 5 ?_
    have q10 := h
    refine sCallV 3 (some 18) [(17, .lst (List.map eInt a0.over) false false), (16, .lptr 1 3)] [.lst (List.map eInt a0.over) false false] (laws_toIntS_V a0.over q10) (PW.cons (Snap2.of1 sa_lst) PW.nil) ?_
    refine sEnd' [(19, .lptr 3 3)] [(3, [.lst (List.map eInt (idt a0.sections)) false true, .lst (List.map eLie (idt a0.lies)) false true, .lst (List.map eLie (idt a0.flanks)) false true, .lst (List.map eInt (idt a0.over)) false true, .lst [] true true]), (2, [.lst [] true true, .lst [] true true, .lst [] true true, .lst [] true true, .lst [] true true]), (1, (eWay false a0))] [] ?_
    refine QJoin.normal trivial ?_
    exact wkJ (by kernel_rfl)
  obtain ⟨q14, h⟩ := h
  refine cSeqG ⟨(mkS 25 [(2, .lptr 2 0), (3, .lptr 3 0)]), [(3, [.lst (List.map eInt (idt a0.sections)) false true, .lst (List.map eLie (idt a0.lies)) false true, .lst (List.map eLie (idt a0.flanks)) false true, .lst (List.map eInt (idt a0.over)) false true, .lst (List.map eInt (idt a0.near)) false true]), (2, [.lst [] true true, .lst [] true true, .lst [] true true, .lst [] true true, .lst [] true true]), (1, (eWay false a0))], []⟩ (True) ?_ (fun q11 => ?_)
  · replace h := q14
    refine rgS [] 6 ?_
    have q12 := h
    refine sCallV 3 (some 22) [(21, .lst (List.map eInt a0.near) false false), (20, .lptr 1 4)] [.lst (List.map eInt a0.near) false false] (laws_toIntS_V a0.near q12) (PW.cons (Snap2.of1 sa_lst) PW.nil) ?_
    refine sEnd' [(23, .lptr 3 4)] [(3, [.lst (List.map eInt (idt a0.sections)) false true, .lst (List.map eLie (idt a0.lies)) false true, .lst (List.map eLie (idt a0.flanks)) false true, .lst (List.map eInt (idt a0.over)) false true, .lst (List.map eInt (idt a0.near)) false true]), (2, [.lst [] true true, .lst [] true true, .lst [] true true, .lst [] true true, .lst [] true true]), (1, (eWay false a0))] [] ?_
    refine QJoin.normal trivial ?_
    exact wkJ (by kernel_rfl)
  refine cSeqG ⟨(mkS 25 [(2, .lptr 2 0)]), [(3, [.lst (List.map eInt (idt a0.sections)) false true, .lst (List.map eLie (idt a0.lies)) false true, .lst (List.map eLie (idt a0.flanks)) false true, .lst (List.map eInt (idt a0.over)) false true, .lst (List.map eInt (idt a0.near)) false true]), (2, [.lst (List.map eInt (idt a0.sections)) false true, .lst (List.map eLie (idt a0.lies)) false true, .lst (List.map eLie (idt a0.flanks)) false true, .lst (List.map eInt (idt a0.over)) false true, .lst (List.map eInt (idt a0.near)) false true]), (1, (eWay false a0))], []⟩ (True) ?_ (fun q13 => ?_)
  · skip
    refine rgS [] 7 ?_
    refine sEnd' [(24, .agg [.lst (List.map eInt (idt a0.sections)) false true, .lst (List.map eLie (idt a0.lies)) false true, .lst (List.map eLie (idt a0.flanks)) false true, .lst (List.map eInt (idt a0.over)) false true, .lst (List.map eInt (idt a0.near)) false true])] [(3, [.lst (List.map eInt (idt a0.sections)) false true, .lst (List.map eLie (idt a0.lies)) false true, .lst (List.map eLie (idt a0.flanks)) false true, .lst (List.map eInt (idt a0.over)) false true, .lst (List.map eInt (idt a0.near)) false true]), (2, [.lst (List.map eInt (idt a0.sections)) false true, .lst (List.map eLie (idt a0.lies)) false true, .lst (List.map eLie (idt a0.flanks)) false true, .lst (List.map eInt (idt a0.over)) false true, .lst (List.map eInt (idt a0.near)) false true]), (1, (eWay false a0))] [] ?_
    refine QJoin.normal trivial ?_
    exact wkJ (by kernel_rfl)
  refine cRet ?_
  refine rtS (.agg [.lst (List.map eInt (idt a0.sections)) false true, .lst (List.map eLie (idt a0.lies)) false true, .lst (List.map eLie (idt a0.flanks)) false true, .lst (List.map eInt (idt a0.over)) false true, .lst (List.map eInt (idt a0.near)) false true]) [.agg [.lst (List.map eInt (idt a0.sections)) false true, .lst (List.map eLie (idt a0.lies)) false true, .lst (List.map eLie (idt a0.flanks)) false true, .lst (List.map eInt (idt a0.over)) false true, .lst (List.map eInt (idt a0.near)) false true]] ?_
  exact (SnapR3.agg (PW.cons (sr_lst h.1) (PW.cons (sr_lst h.2.1) (PW.cons (sr_lst h.2.2.1) (PW.cons (sr_lst h.2.2.2.1) (PW.cons (sr_lst h.2.2.2.2) PW.nil))))))

set_option maxHeartbeats 4000000 in
theorem laws_toWay_vc (a0 : Way) (hp : smallWay a0) : laws_toWay_C a0 (idt a0) := by
  have hp : a0.sections.length + a0.lies.length + a0.flanks.length + a0.over.length + a0.near.length ≤ 1048576 := hp
  unfold laws_toWay_C small
  exact ⟨by omega, by omega, by omega, by omega, by omega, rfl, rfl, rfl, rfl, rfl⟩

theorem laws_toWay_V (a0 : Way) (hp : smallWay a0) : FnV Try.prog 128 [.agg (eWay false a0)] (.agg (eWay true (idt a0))) := laws_toWay_walk a0 (idt a0) (laws_toWay_vc a0 hp)

noncomputable def laws_toWayS_b : Code := bodyC Try.f71
def laws_toWayS_C1 (I0 : (List Way) → Int → Prop) (m0 : (List Way) → Int → Nat) (a0 : (List Way)) (res : (List Way)) : Prop :=
  I0 (List.replicate (a0.length : Int).toNat ({ sections := ([] : (List Int)), lies := ([] : (List Lie)), flanks := ([] : (List Lie)), over := ([] : (List Int)), near := ([] : (List Int)) } : Way)) 0 ∧ ∀ (x0 : (List Way)) (v4 : Int), I0 x0 v4 → (((decide (v4 < (a0.length : Int))) = false → x0.length ≤ 4611686018427387904 ∧ x0 = res) ∧ ((decide (v4 < (a0.length : Int))) = true → ((0 ≤ v4 ∧ v4.toNat < a0.length) ∧ ((smallWay (nth a0 v4)) ∧ (0 ≤ v4 ∧ v4.toNat < x0.length))) ∧ (I0 (x0.set v4.toNat (idt (nth a0 v4))) (IntKind.i64.wrap (v4 + 1)) ∧ m0 (x0.set v4.toNat (idt (nth a0 v4))) (IntKind.i64.wrap (v4 + 1)) < m0 x0 v4)))
def laws_toWayS_C (a0 : (List Way)) (res : (List Way)) (I0 : (List Way) → Int → Prop) (m0 : (List Way) → Int → Nat) : Prop :=
  (a0.length ≤ 4611686018427387904 → 0 ≤ (a0.length : Int) ∧ 120 * (a0.length : Int) ≤ 140737488355328 ∧ (a0.length : Int) ≤ 4611686018427387904) ∧ (a0.length ≤ 4611686018427387904 → laws_toWayS_C1 I0 m0 a0 res)
set_option maxHeartbeats 4000000 in
theorem laws_toWayS_walk (a0 : (List Way)) (res : (List Way)) (I0 : (List Way) → Int → Prop) (m0 : (List Way) → Int → Nat) (h : laws_toWayS_C a0 res I0 m0) : FnV Try.prog 71 [.lst (List.map (eWay false) a0) false false] (.lst (List.map (eWay false) res) false true) := by
  unfold laws_toWayS_C at h
  refine FnS.of_body (fn := Try.f71) (c := laws_toWayS_b) Try.func71 (by kernel_rfl) (by kernel_rfl) ?_
  refine WpS.codeIs (c' := (nv laws_toWayS_b 1)) (by kernel_rfl) ?_
  refine WpS.start (st' := ⟨(mkS 23 [(0, .lst (List.map (eWay false) a0) false false)]), [], []⟩) (by kernel_rfl) ?_
  refine cSeqG ⟨(mkS 23 [(0, .lst (List.map (eWay false) a0) false false)]), [], []⟩ (True) ?_ (fun q1 => ?_)
  · skip
    refine rgS [] 0 ?_
    refine sEnd [(2, .lst [] true true)] ?_
    refine QJoin.normal trivial ?_
    exact wkJ (by kernel_rfl)
  obtain ⟨q18, h⟩ := h
  refine cSeqG ⟨(mkS 23 [(0, .lst (List.map (eWay false) a0) false false), (3, .ref 0 0 0 ((List.replicate (a0.length : Int).toNat ({ sections := ([] : (List Int)), lies := ([] : (List Lie)), flanks := ([] : (List Lie)), over := ([] : (List Int)), near := ([] : (List Int)) } : Way)).length) false)]), [], [⟨0, 5, List.map (eWay true) (List.replicate (a0.length : Int).toNat ({ sections := ([] : (List Int)), lies := ([] : (List Lie)), flanks := ([] : (List Lie)), over := ([] : (List Int)), near := ([] : (List Int)) } : Way))⟩]⟩ (a0.length ≤ 4611686018427387904) ?_ (fun q2 => ?_)
  · replace h := q18
    refine rgS [] 1 ?_
    refine sLen 2 (some 6) [(5, .lst (List.map (eWay false) a0) false false)] (eWay false) a0 (fun q3 => ?_)
    replace h := h q3
    have q4 := h
    refine sMks 1 (some 7) [] (eWay true) 120 [.lst [] false true, .lst [] false true, .lst [] false true, .lst [] false true, .lst [] false true] 0 (fun r => [⟨0, 5, r⟩]) ({ sections := ([] : (List Int)), lies := ([] : (List Lie)), flanks := ([] : (List Lie)), over := ([] : (List Int)), near := ([] : (List Int)) } : Way) q4 ?_
    refine sEnd [(3, .ref 0 0 0 ((List.replicate (a0.length : Int).toNat ({ sections := ([] : (List Int)), lies := ([] : (List Lie)), flanks := ([] : (List Lie)), over := ([] : (List Int)), near := ([] : (List Int)) } : Way)).length) false)] ?_
    refine QJoin.normal q3 ?_
    exact wkJ (by kernel_rfl)
  replace h := h q2
  refine cSeq ?_
  refine cSeqG ⟨(mkS 23 [(0, .lst (List.map (eWay false) a0) false false), (3, .ref 0 0 0 ((List.replicate (a0.length : Int).toNat ({ sections := ([] : (List Int)), lies := ([] : (List Lie)), flanks := ([] : (List Lie)), over := ([] : (List Int)), near := ([] : (List Int)) } : Way)).length) false), (4, .int .i64 0)]), [], [⟨0, 5, List.map (eWay true) (List.replicate (a0.length : Int).toNat ({ sections := ([] : (List Int)), lies := ([] : (List Lie)), flanks := ([] : (List Lie)), over := ([] : (List Int)), near := ([] : (List Int)) } : Way))⟩]⟩ (True) ?_ (fun q5 => ?_)
  · skip
    refine rgS [] 2 ?_
    refine sEnd [(4, .int .i64 0)] ?_
    refine QJoin.normal trivial ?_
    exact wkJ (by kernel_rfl)
  unfold laws_toWayS_C1 at h
  refine cBlock 0 ?_
  obtain ⟨q17, h⟩ := h
  refine cLoop (fun (v : (List Way) × Int) => (⟨(mkS 23 [(0, .lst (List.map (eWay false) a0) false false), (3, .ref 0 0 0 ((v.1).length) false), (4, .int .i64 (v.2))]), [], [⟨0, 5, List.map (eWay true) (v.1)⟩]⟩ : St)) (fun (v : (List Way) × Int) => I0 (v.1) (v.2)) (fun (v : (List Way) × Int) => m0 (v.1) (v.2)) ((List.replicate (a0.length : Int).toNat ({ sections := ([] : (List Int)), lies := ([] : (List Lie)), flanks := ([] : (List Lie)), over := ([] : (List Int)), near := ([] : (List Int)) } : Way)), 0) (wkL []) q17 (fun v hI => ?_)
  obtain ⟨x0, v4⟩ := v
  replace h := h x0 v4 hI
  show WpS _ _ _ ⟨(mkS 23 [(0, .lst (List.map (eWay false) a0) false false), (3, .ref 0 0 0 x0.length false), (4, .int .i64 v4)]), [], [⟨0, 5, List.map (eWay true) x0⟩]⟩
  obtain ⟨q16, h⟩ := h
  refine cSeqG ⟨(mkS 23 [(0, .lst (List.map (eWay false) a0) false false), (3, .ref 0 0 0 x0.length false), (4, .int .i64 v4)]), [], [⟨0, 5, List.map (eWay true) x0⟩]⟩ ((decide (v4 < (a0.length : Int))) = true) ?_ (fun q6 => ?_)
  · replace h := q16
    refine cSeqG ⟨(mkS 23 [(0, .lst (List.map (eWay false) a0) false false), (3, .ref 0 0 0 x0.length false), (4, .int .i64 v4), (11, .bool (decide (v4 < (a0.length : Int))))]), [], [⟨0, 5, List.map (eWay true) x0⟩]⟩ (True) ?_ (fun q7 => ?_)
    · skip
      refine rgS [] 3 ?_
      refine sLen 3 (some 10) [(9, .lst (List.map (eWay false) a0) false false), (8, .int .i64 v4)] (eWay false) a0 (fun q8 => ?_)
      refine sEnd [(11, .bool (decide (v4 < (a0.length : Int))))] ?_
      refine QJoin.normal trivial ?_
      exact wkJ (by kernel_rfl)
    refine cCond (.tmp 11) (decide (v4 < (a0.length : Int))) (fun q9 => ?_) (fun q9 => ?_)
    · skip
      refine cSkip ?_
      refine QJoin.normal (by simp only [q9, Bool.true_or, Bool.false_or, Bool.true_and, Bool.false_and, Bool.not_true, Bool.not_false, Bool.and_true, Bool.and_false, Bool.or_true, Bool.or_false, cond_true, cond_false]) ?_
      exact wkJ (by kernel_rfl)
    · replace h := h q9
      refine cExit 0 ?_
      refine QJoin.exit ?_
      refine QRound.exit ?_
      refine QBlock.here ?_
      refine QSeq.normal ?_
      refine cSeqG ⟨(mkS 23 [(2, .ref 0 0 0 x0.length false)]), [], [⟨0, 5, List.map (eWay true) x0⟩]⟩ (True) ?_ (fun q10 => ?_)
      · skip
        refine rgS [] 6 ?_
        refine sEnd [(2, .ref 0 0 0 x0.length false), (22, .ref 0 0 0 x0.length false)] ?_
        refine QJoin.normal trivial ?_
        exact wkJ (by kernel_rfl)
      refine cRet ?_
      refine rtS (.ref 0 0 0 x0.length false) [.ref 0 0 0 x0.length false] ?_
      exact (SnapR3.of1 (sr_blk' (sz := 5) (by simp) rfl (cWay) h))
  replace h := h q6
  obtain ⟨q15, h⟩ := h
  refine cSeqG ⟨(mkS 23 [(0, .lst (List.map (eWay false) a0) false false), (3, .ref 0 0 0 x0.length false), (4, .int .i64 v4)]), [], [⟨0, 5, List.map (eWay true) (x0.set v4.toNat (idt (nth a0 v4)))⟩]⟩ (True) ?_ (fun q11 => ?_)
  · replace h := q15
    refine cBlock 1 ?_
    refine rgS [] 5 ?_
    obtain ⟨q14, h⟩ := h
    refine sIdx 5 (some 18) [(17, .int .i64 v4), (16, .lst (List.map (eWay false) a0) false false), (15, .int .i64 v4), (14, .ref 0 0 0 x0.length false)] (eWay false) a0 5 q14 ?_
    obtain ⟨q12, h⟩ := h
    refine sCallV 2 (some 20) [(19, .agg (eWay false (nth a0 v4)))] [.agg (eWay false (nth a0 v4))] (laws_toWay_V (nth a0 v4) q12) (PW.cons (Snap2.agg (PW.cons sa_lst (PW.cons sa_lst (PW.cons sa_lst (PW.cons sa_lst (PW.cons sa_lst PW.nil)))))) PW.nil) ?_
    have q13 := h
    refine sAdr 1 (some 21) [] 0 0 5 q13 ?_
    refine sStB 1 none [] (eWay true) x0 v4 0 5 0 (eWay true (idt (nth a0 v4))) (fun r => [⟨0, 5, r⟩]) (idt (nth a0 v4)) (by simpa using q13.2) ?_
    refine sEnd [] ?_
    refine QBlock.normal ?_
    refine QJoin.normal trivial ?_
    exact wkJ (by kernel_rfl)
  refine rgS [] 4 ?_
  refine sEnd [(4, .int .i64 (IntKind.i64.wrap (v4 + 1))), (13, .int .i64 (IntKind.i64.wrap (v4 + 1))), (12, .int .i64 v4)] ?_
  exact QRound.again ((x0.set v4.toNat (idt (nth a0 v4))), (IntKind.i64.wrap (v4 + 1))) h (weak_eq (s' := ⟨(mkS 23 [(0, .lst (List.map (eWay false) a0) false false), (3, .ref 0 0 0 x0.length false), (4, .int .i64 (IntKind.i64.wrap (v4 + 1)))]), [], [⟨0, 5, List.map (eWay true) (x0.set v4.toNat (idt (nth a0 v4)))⟩]⟩) (wkL (n := 23) (A' := [(0, .lst (List.map (eWay false) a0) false false), (3, .ref 0 0 0 x0.length false), (4, .int .i64 (IntKind.i64.wrap (v4 + 1)))]) (L' := []) []) (congrArg (fun z => (⟨(mkS 23 [(0, .lst (List.map (eWay false) a0) false false), (3, .ref 0 0 0 z false), (4, .int .i64 (IntKind.i64.wrap (v4 + 1)))]), [], [⟨0, 5, List.map (eWay true) (x0.set v4.toNat (idt (nth a0 v4)))⟩]⟩ : St)) (show x0.length = (x0.set v4.toNat (idt (nth a0 v4))).length by simp)))

set_option maxHeartbeats 4000000 in
theorem laws_toWayS_vc (a0 : (List Way)) (hp : smallWays a0) : laws_toWayS_C a0 (idt a0) (fillI a0 idt ({ sections := ([] : (List Int)), lies := ([] : (List Lie)), flanks := ([] : (List Lie)), over := ([] : (List Int)), near := ([] : (List Int)) } : Way)) (fillM a0) := by
  unfold laws_toWayS_C laws_toWayS_C1
  have hp : a0.length + (a0.map wayN).sum ≤ 1048576 := hp
  refine ⟨fun hn => ⟨len0 _, by omega, by omega⟩, fun hn => fill_loop (f := idt) (φ := fun v => smallWay (nth a0 v)) hn (map_idt _) fun v _ hv => ?_⟩
  have := mem_sum wayN (nth_mem hv)
  unfold smallWay; omega

theorem laws_toWayS_V (a0 : (List Way)) (hp : smallWays a0) : FnV Try.prog 71 [.lst (List.map (eWay false) a0) false false] (.lst (List.map (eWay false) (idt a0)) false true) := laws_toWayS_walk a0 (idt a0) (fillI a0 idt ({ sections := ([] : (List Int)), lies := ([] : (List Lie)), flanks := ([] : (List Lie)), over := ([] : (List Int)), near := ([] : (List Int)) } : Way)) (fillM a0) (laws_toWayS_vc a0 hp)

noncomputable def laws_toBoolS_b : Code := bodyC Try.f100
def laws_toBoolS_C1 (I0 : (List Bool) → Int → Prop) (m0 : (List Bool) → Int → Nat) (a0 : (List Bool)) (res : (List Bool)) : Prop :=
  I0 (List.replicate (a0.length : Int).toNat false) 0 ∧ ∀ (x0 : (List Bool)) (v4 : Int), I0 x0 v4 → (((decide (v4 < (a0.length : Int))) = false → x0.length ≤ 4611686018427387904 ∧ x0 = res) ∧ ((decide (v4 < (a0.length : Int))) = true → ((0 ≤ v4 ∧ v4.toNat < a0.length) ∧ (0 ≤ v4 ∧ v4.toNat < x0.length)) ∧ (I0 (x0.set v4.toNat (nth a0 v4)) (IntKind.i64.wrap (v4 + 1)) ∧ m0 (x0.set v4.toNat (nth a0 v4)) (IntKind.i64.wrap (v4 + 1)) < m0 x0 v4)))
def laws_toBoolS_C (a0 : (List Bool)) (res : (List Bool)) (I0 : (List Bool) → Int → Prop) (m0 : (List Bool) → Int → Nat) : Prop :=
  (a0.length ≤ 4611686018427387904 → 0 ≤ (a0.length : Int) ∧ 1 * (a0.length : Int) ≤ 140737488355328 ∧ (a0.length : Int) ≤ 4611686018427387904) ∧ (a0.length ≤ 4611686018427387904 → laws_toBoolS_C1 I0 m0 a0 res)
set_option maxHeartbeats 4000000 in
theorem laws_toBoolS_walk (a0 : (List Bool)) (res : (List Bool)) (I0 : (List Bool) → Int → Prop) (m0 : (List Bool) → Int → Nat) (h : laws_toBoolS_C a0 res I0 m0) : FnV Try.prog 100 [.lst (List.map eBool a0) false false] (.lst (List.map eBool res) false true) := by
  unfold laws_toBoolS_C at h
  refine FnS.of_body (fn := Try.f100) (c := laws_toBoolS_b) Try.func100 (by kernel_rfl) (by kernel_rfl) ?_
  refine WpS.codeIs (c' := (nv laws_toBoolS_b 1)) (by kernel_rfl) ?_
  refine WpS.start (st' := ⟨(mkS 22 [(0, .lst (List.map eBool a0) false false)]), [], []⟩) (by kernel_rfl) ?_
  refine cSeqG ⟨(mkS 22 [(0, .lst (List.map eBool a0) false false)]), [], []⟩ (True) ?_ (fun q1 => ?_)
  · skip
    refine rgS [] 0 ?_
    refine sEnd [(2, .lst [] true true)] ?_
    refine QJoin.normal trivial ?_
    exact wkJ (by kernel_rfl)
  obtain ⟨q17, h⟩ := h
  refine cSeqG ⟨(mkS 22 [(0, .lst (List.map eBool a0) false false), (3, .ref 0 0 0 ((List.replicate (a0.length : Int).toNat false).length) false)]), [], [⟨0, 1, List.map eBool (List.replicate (a0.length : Int).toNat false)⟩]⟩ (a0.length ≤ 4611686018427387904) ?_ (fun q2 => ?_)
  · replace h := q17
    refine rgS [] 1 ?_
    refine sLen 2 (some 6) [(5, .lst (List.map eBool a0) false false)] eBool a0 (fun q3 => ?_)
    replace h := h q3
    have q4 := h
    refine sMks 1 (some 7) [] eBool 1 [.bool false] 0 (fun r => [⟨0, 1, r⟩]) false q4 ?_
    refine sEnd [(3, .ref 0 0 0 ((List.replicate (a0.length : Int).toNat false).length) false)] ?_
    refine QJoin.normal q3 ?_
    exact wkJ (by kernel_rfl)
  replace h := h q2
  refine cSeq ?_
  refine cSeqG ⟨(mkS 22 [(0, .lst (List.map eBool a0) false false), (3, .ref 0 0 0 ((List.replicate (a0.length : Int).toNat false).length) false), (4, .int .i64 0)]), [], [⟨0, 1, List.map eBool (List.replicate (a0.length : Int).toNat false)⟩]⟩ (True) ?_ (fun q5 => ?_)
  · skip
    refine rgS [] 2 ?_
    refine sEnd [(4, .int .i64 0)] ?_
    refine QJoin.normal trivial ?_
    exact wkJ (by kernel_rfl)
  unfold laws_toBoolS_C1 at h
  refine cBlock 0 ?_
  obtain ⟨q16, h⟩ := h
  refine cLoop (fun (v : (List Bool) × Int) => (⟨(mkS 22 [(0, .lst (List.map eBool a0) false false), (3, .ref 0 0 0 ((v.1).length) false), (4, .int .i64 (v.2))]), [], [⟨0, 1, List.map eBool (v.1)⟩]⟩ : St)) (fun (v : (List Bool) × Int) => I0 (v.1) (v.2)) (fun (v : (List Bool) × Int) => m0 (v.1) (v.2)) ((List.replicate (a0.length : Int).toNat false), 0) (wkL []) q16 (fun v hI => ?_)
  obtain ⟨x0, v4⟩ := v
  replace h := h x0 v4 hI
  show WpS _ _ _ ⟨(mkS 22 [(0, .lst (List.map eBool a0) false false), (3, .ref 0 0 0 x0.length false), (4, .int .i64 v4)]), [], [⟨0, 1, List.map eBool x0⟩]⟩
  obtain ⟨q15, h⟩ := h
  refine cSeqG ⟨(mkS 22 [(0, .lst (List.map eBool a0) false false), (3, .ref 0 0 0 x0.length false), (4, .int .i64 v4)]), [], [⟨0, 1, List.map eBool x0⟩]⟩ ((decide (v4 < (a0.length : Int))) = true) ?_ (fun q6 => ?_)
  · replace h := q15
    refine cSeqG ⟨(mkS 22 [(0, .lst (List.map eBool a0) false false), (3, .ref 0 0 0 x0.length false), (4, .int .i64 v4), (11, .bool (decide (v4 < (a0.length : Int))))]), [], [⟨0, 1, List.map eBool x0⟩]⟩ (True) ?_ (fun q7 => ?_)
    · skip
      refine rgS [] 3 ?_
      refine sLen 3 (some 10) [(9, .lst (List.map eBool a0) false false), (8, .int .i64 v4)] eBool a0 (fun q8 => ?_)
      refine sEnd [(11, .bool (decide (v4 < (a0.length : Int))))] ?_
      refine QJoin.normal trivial ?_
      exact wkJ (by kernel_rfl)
    refine cCond (.tmp 11) (decide (v4 < (a0.length : Int))) (fun q9 => ?_) (fun q9 => ?_)
    · skip
      refine cSkip ?_
      refine QJoin.normal (by simp only [q9, Bool.true_or, Bool.false_or, Bool.true_and, Bool.false_and, Bool.not_true, Bool.not_false, Bool.and_true, Bool.and_false, Bool.or_true, Bool.or_false, cond_true, cond_false]) ?_
      exact wkJ (by kernel_rfl)
    · replace h := h q9
      refine cExit 0 ?_
      refine QJoin.exit ?_
      refine QRound.exit ?_
      refine QBlock.here ?_
      refine QSeq.normal ?_
      refine cSeqG ⟨(mkS 22 [(2, .ref 0 0 0 x0.length false)]), [], [⟨0, 1, List.map eBool x0⟩]⟩ (True) ?_ (fun q10 => ?_)
      · skip
        refine rgS [] 6 ?_
        refine sEnd [(2, .ref 0 0 0 x0.length false), (21, .ref 0 0 0 x0.length false)] ?_
        refine QJoin.normal trivial ?_
        exact wkJ (by kernel_rfl)
      refine cRet ?_
      refine rtS (.ref 0 0 0 x0.length false) [.ref 0 0 0 x0.length false] ?_
      exact (SnapR3.of1 (sr_blk' (sz := 1) (by simp) rfl (cBool) h))
  replace h := h q6
  obtain ⟨q14, h⟩ := h
  refine cSeqG ⟨(mkS 22 [(0, .lst (List.map eBool a0) false false), (3, .ref 0 0 0 x0.length false), (4, .int .i64 v4)]), [], [⟨0, 1, List.map eBool (x0.set v4.toNat (nth a0 v4))⟩]⟩ (True) ?_ (fun q11 => ?_)
  · replace h := q14
    refine cBlock 1 ?_
    refine rgS [] 5 ?_
    obtain ⟨q13, h⟩ := h
    refine sIdx 5 (some 18) [(17, .int .i64 v4), (16, .lst (List.map eBool a0) false false), (15, .int .i64 v4), (14, .ref 0 0 0 x0.length false)] eBool a0 1 q13 ?_
    have q12 := h
    refine sAdr 2 (some 20) [(19, .bool (nth a0 v4))] 0 0 1 q12 ?_
    refine sStB 1 none [] eBool x0 v4 0 1 0 [.bool (nth a0 v4)] (fun r => [⟨0, 1, r⟩]) (nth a0 v4) (by simpa using q12.2) ?_
    refine sEnd [] ?_
    refine QBlock.normal ?_
    refine QJoin.normal trivial ?_
    exact wkJ (by kernel_rfl)
  refine rgS [] 4 ?_
  refine sEnd [(4, .int .i64 (IntKind.i64.wrap (v4 + 1))), (13, .int .i64 (IntKind.i64.wrap (v4 + 1))), (12, .int .i64 v4)] ?_
  exact QRound.again ((x0.set v4.toNat (nth a0 v4)), (IntKind.i64.wrap (v4 + 1))) h (weak_eq (s' := ⟨(mkS 22 [(0, .lst (List.map eBool a0) false false), (3, .ref 0 0 0 x0.length false), (4, .int .i64 (IntKind.i64.wrap (v4 + 1)))]), [], [⟨0, 1, List.map eBool (x0.set v4.toNat (nth a0 v4))⟩]⟩) (wkL (n := 22) (A' := [(0, .lst (List.map eBool a0) false false), (3, .ref 0 0 0 x0.length false), (4, .int .i64 (IntKind.i64.wrap (v4 + 1)))]) (L' := []) []) (congrArg (fun z => (⟨(mkS 22 [(0, .lst (List.map eBool a0) false false), (3, .ref 0 0 0 z false), (4, .int .i64 (IntKind.i64.wrap (v4 + 1)))]), [], [⟨0, 1, List.map eBool (x0.set v4.toNat (nth a0 v4))⟩]⟩ : St)) (show x0.length = (x0.set v4.toNat (nth a0 v4)).length by simp)))

set_option maxHeartbeats 4000000 in
theorem laws_toBoolS_vc (a0 : (List Bool)) (hp : small a0) : laws_toBoolS_C a0 (idt a0) (fillI a0 (fun x => x) false) (fillM a0) := by
  unfold laws_toBoolS_C laws_toBoolS_C1
  have hp : a0.length ≤ 1048576 := hp
  exact ⟨fun hn => ⟨len0 _, by omega, by omega⟩, fun hn => fill_loop0 (f := fun x => x) hn (by simp [idt])⟩

theorem laws_toBoolS_V (a0 : (List Bool)) (hp : small a0) : FnV Try.prog 100 [.lst (List.map eBool a0) false false] (.lst (List.map eBool (idt a0)) false true) := laws_toBoolS_walk a0 (idt a0) (fillI a0 (fun x => x) false) (fillM a0) (laws_toBoolS_vc a0 hp)

noncomputable def laws_toBoolSS_b : Code := bodyC Try.f72
def laws_toBoolSS_C1 (I0 : (List (List Bool)) → Int → Prop) (m0 : (List (List Bool)) → Int → Nat) (a0 : (List (List Bool))) (res : (List (List Bool))) : Prop :=
  I0 (List.replicate (a0.length : Int).toNat ([] : (List Bool))) 0 ∧ ∀ (x0 : (List (List Bool))) (v4 : Int), I0 x0 v4 → (((decide (v4 < (a0.length : Int))) = false → x0.length ≤ 4611686018427387904 ∧ x0 = res) ∧ ((decide (v4 < (a0.length : Int))) = true → ((0 ≤ v4 ∧ v4.toNat < a0.length) ∧ ((small (nth a0 v4)) ∧ (0 ≤ v4 ∧ v4.toNat < x0.length))) ∧ (I0 (x0.set v4.toNat (idt (nth a0 v4))) (IntKind.i64.wrap (v4 + 1)) ∧ m0 (x0.set v4.toNat (idt (nth a0 v4))) (IntKind.i64.wrap (v4 + 1)) < m0 x0 v4)))
def laws_toBoolSS_C (a0 : (List (List Bool))) (res : (List (List Bool))) (I0 : (List (List Bool)) → Int → Prop) (m0 : (List (List Bool)) → Int → Nat) : Prop :=
  (a0.length ≤ 4611686018427387904 → 0 ≤ (a0.length : Int) ∧ 24 * (a0.length : Int) ≤ 140737488355328 ∧ (a0.length : Int) ≤ 4611686018427387904) ∧ (a0.length ≤ 4611686018427387904 → laws_toBoolSS_C1 I0 m0 a0 res)
set_option maxHeartbeats 4000000 in
theorem laws_toBoolSS_walk (a0 : (List (List Bool))) (res : (List (List Bool))) (I0 : (List (List Bool)) → Int → Prop) (m0 : (List (List Bool)) → Int → Nat) (h : laws_toBoolSS_C a0 res I0 m0) : FnV Try.prog 72 [.lst (List.map (eL eBool false) a0) false false] (.lst (List.map (eL eBool false) res) false true) := by
  unfold laws_toBoolSS_C at h
  refine FnS.of_body (fn := Try.f72) (c := laws_toBoolSS_b) Try.func72 (by kernel_rfl) (by kernel_rfl) ?_
  refine WpS.codeIs (c' := (nv laws_toBoolSS_b 1)) (by kernel_rfl) ?_
  refine WpS.start (st' := ⟨(mkS 23 [(0, .lst (List.map (eL eBool false) a0) false false)]), [], []⟩) (by kernel_rfl) ?_
  refine cSeqG ⟨(mkS 23 [(0, .lst (List.map (eL eBool false) a0) false false)]), [], []⟩ (True) ?_ (fun q1 => ?_)
  · skip
    refine rgS [] 0 ?_
    refine sEnd [(2, .lst [] true true)] ?_
    refine QJoin.normal trivial ?_
    exact wkJ (by kernel_rfl)
  obtain ⟨q18, h⟩ := h
  refine cSeqG ⟨(mkS 23 [(0, .lst (List.map (eL eBool false) a0) false false), (3, .ref 0 0 0 ((List.replicate (a0.length : Int).toNat ([] : (List Bool))).length) false)]), [], [⟨0, 1, List.map (eL eBool true) (List.replicate (a0.length : Int).toNat ([] : (List Bool)))⟩]⟩ (a0.length ≤ 4611686018427387904) ?_ (fun q2 => ?_)
  · replace h := q18
    refine rgS [] 1 ?_
    refine sLen 2 (some 6) [(5, .lst (List.map (eL eBool false) a0) false false)] (eL eBool false) a0 (fun q3 => ?_)
    replace h := h q3
    have q4 := h
    refine sMks 1 (some 7) [] (eL eBool true) 24 [.lst [] false true] 0 (fun r => [⟨0, 1, r⟩]) ([] : (List Bool)) q4 ?_
    refine sEnd [(3, .ref 0 0 0 ((List.replicate (a0.length : Int).toNat ([] : (List Bool))).length) false)] ?_
    refine QJoin.normal q3 ?_
    exact wkJ (by kernel_rfl)
  replace h := h q2
  refine cSeq ?_
  refine cSeqG ⟨(mkS 23 [(0, .lst (List.map (eL eBool false) a0) false false), (3, .ref 0 0 0 ((List.replicate (a0.length : Int).toNat ([] : (List Bool))).length) false), (4, .int .i64 0)]), [], [⟨0, 1, List.map (eL eBool true) (List.replicate (a0.length : Int).toNat ([] : (List Bool)))⟩]⟩ (True) ?_ (fun q5 => ?_)
  · skip
    refine rgS [] 2 ?_
    refine sEnd [(4, .int .i64 0)] ?_
    refine QJoin.normal trivial ?_
    exact wkJ (by kernel_rfl)
  unfold laws_toBoolSS_C1 at h
  refine cBlock 0 ?_
  obtain ⟨q17, h⟩ := h
  refine cLoop (fun (v : (List (List Bool)) × Int) => (⟨(mkS 23 [(0, .lst (List.map (eL eBool false) a0) false false), (3, .ref 0 0 0 ((v.1).length) false), (4, .int .i64 (v.2))]), [], [⟨0, 1, List.map (eL eBool true) (v.1)⟩]⟩ : St)) (fun (v : (List (List Bool)) × Int) => I0 (v.1) (v.2)) (fun (v : (List (List Bool)) × Int) => m0 (v.1) (v.2)) ((List.replicate (a0.length : Int).toNat ([] : (List Bool))), 0) (wkL []) q17 (fun v hI => ?_)
  obtain ⟨x0, v4⟩ := v
  replace h := h x0 v4 hI
  show WpS _ _ _ ⟨(mkS 23 [(0, .lst (List.map (eL eBool false) a0) false false), (3, .ref 0 0 0 x0.length false), (4, .int .i64 v4)]), [], [⟨0, 1, List.map (eL eBool true) x0⟩]⟩
  obtain ⟨q16, h⟩ := h
  refine cSeqG ⟨(mkS 23 [(0, .lst (List.map (eL eBool false) a0) false false), (3, .ref 0 0 0 x0.length false), (4, .int .i64 v4)]), [], [⟨0, 1, List.map (eL eBool true) x0⟩]⟩ ((decide (v4 < (a0.length : Int))) = true) ?_ (fun q6 => ?_)
  · replace h := q16
    refine cSeqG ⟨(mkS 23 [(0, .lst (List.map (eL eBool false) a0) false false), (3, .ref 0 0 0 x0.length false), (4, .int .i64 v4), (11, .bool (decide (v4 < (a0.length : Int))))]), [], [⟨0, 1, List.map (eL eBool true) x0⟩]⟩ (True) ?_ (fun q7 => ?_)
    · skip
      refine rgS [] 3 ?_
      refine sLen 3 (some 10) [(9, .lst (List.map (eL eBool false) a0) false false), (8, .int .i64 v4)] (eL eBool false) a0 (fun q8 => ?_)
      refine sEnd [(11, .bool (decide (v4 < (a0.length : Int))))] ?_
      refine QJoin.normal trivial ?_
      exact wkJ (by kernel_rfl)
    refine cCond (.tmp 11) (decide (v4 < (a0.length : Int))) (fun q9 => ?_) (fun q9 => ?_)
    · skip
      refine cSkip ?_
      refine QJoin.normal (by simp only [q9, Bool.true_or, Bool.false_or, Bool.true_and, Bool.false_and, Bool.not_true, Bool.not_false, Bool.and_true, Bool.and_false, Bool.or_true, Bool.or_false, cond_true, cond_false]) ?_
      exact wkJ (by kernel_rfl)
    · replace h := h q9
      refine cExit 0 ?_
      refine QJoin.exit ?_
      refine QRound.exit ?_
      refine QBlock.here ?_
      refine QSeq.normal ?_
      refine cSeqG ⟨(mkS 23 [(2, .ref 0 0 0 x0.length false)]), [], [⟨0, 1, List.map (eL eBool true) x0⟩]⟩ (True) ?_ (fun q10 => ?_)
      · skip
        refine rgS [] 6 ?_
        refine sEnd [(2, .ref 0 0 0 x0.length false), (22, .ref 0 0 0 x0.length false)] ?_
        refine QJoin.normal trivial ?_
        exact wkJ (by kernel_rfl)
      refine cRet ?_
      refine rtS (.ref 0 0 0 x0.length false) [.ref 0 0 0 x0.length false] ?_
      exact (SnapR3.of1 (sr_blk' (sz := 1) (by simp) rfl (cL _) h))
  replace h := h q6
  obtain ⟨q15, h⟩ := h
  refine cSeqG ⟨(mkS 23 [(0, .lst (List.map (eL eBool false) a0) false false), (3, .ref 0 0 0 x0.length false), (4, .int .i64 v4)]), [], [⟨0, 1, List.map (eL eBool true) (x0.set v4.toNat (idt (nth a0 v4)))⟩]⟩ (True) ?_ (fun q11 => ?_)
  · replace h := q15
    refine cBlock 1 ?_
    refine rgS [] 5 ?_
    obtain ⟨q14, h⟩ := h
    refine sIdx 5 (some 18) [(17, .int .i64 v4), (16, .lst (List.map (eL eBool false) a0) false false), (15, .int .i64 v4), (14, .ref 0 0 0 x0.length false)] (eL eBool false) a0 1 q14 ?_
    obtain ⟨q12, h⟩ := h
    refine sCallV 2 (some 20) [(19, .lst (List.map eBool (nth a0 v4)) false false)] [.lst (List.map eBool (nth a0 v4)) false false] (laws_toBoolS_V (nth a0 v4) q12) (PW.cons (Snap2.of1 sa_lst) PW.nil) ?_
    have q13 := h
    refine sAdr 1 (some 21) [] 0 0 1 q13 ?_
    refine sStB 1 none [] (eL eBool true) x0 v4 0 1 0 [.lst (List.map eBool (idt (nth a0 v4))) false true] (fun r => [⟨0, 1, r⟩]) (idt (nth a0 v4)) (by simpa using q13.2) ?_
    refine sEnd [] ?_
    refine QBlock.normal ?_
    refine QJoin.normal trivial ?_
    exact wkJ (by kernel_rfl)
  refine rgS [] 4 ?_
  refine sEnd [(4, .int .i64 (IntKind.i64.wrap (v4 + 1))), (13, .int .i64 (IntKind.i64.wrap (v4 + 1))), (12, .int .i64 v4)] ?_
  exact QRound.again ((x0.set v4.toNat (idt (nth a0 v4))), (IntKind.i64.wrap (v4 + 1))) h (weak_eq (s' := ⟨(mkS 23 [(0, .lst (List.map (eL eBool false) a0) false false), (3, .ref 0 0 0 x0.length false), (4, .int .i64 (IntKind.i64.wrap (v4 + 1)))]), [], [⟨0, 1, List.map (eL eBool true) (x0.set v4.toNat (idt (nth a0 v4)))⟩]⟩) (wkL (n := 23) (A' := [(0, .lst (List.map (eL eBool false) a0) false false), (3, .ref 0 0 0 x0.length false), (4, .int .i64 (IntKind.i64.wrap (v4 + 1)))]) (L' := []) []) (congrArg (fun z => (⟨(mkS 23 [(0, .lst (List.map (eL eBool false) a0) false false), (3, .ref 0 0 0 z false), (4, .int .i64 (IntKind.i64.wrap (v4 + 1)))]), [], [⟨0, 1, List.map (eL eBool true) (x0.set v4.toNat (idt (nth a0 v4)))⟩]⟩ : St)) (show x0.length = (x0.set v4.toNat (idt (nth a0 v4))).length by simp)))

set_option maxHeartbeats 4000000 in
theorem laws_toBoolSS_vc (a0 : (List (List Bool))) (hp : smallBars a0) : laws_toBoolSS_C a0 (idt a0) (fillI a0 idt ([] : (List Bool))) (fillM a0) := by
  unfold laws_toBoolSS_C laws_toBoolSS_C1
  have hp : a0.length + (a0.map List.length).sum ≤ 1048576 := hp
  refine ⟨fun hn => ⟨len0 _, by omega, by omega⟩, fun hn => fill_loop (f := idt) (φ := fun v => small (nth a0 v)) hn (map_idt _) fun v _ hv => ?_⟩
  have := mem_sum List.length (nth_mem hv)
  unfold small; omega

theorem laws_toBoolSS_V (a0 : (List (List Bool))) (hp : smallBars a0) : FnV Try.prog 72 [.lst (List.map (eL eBool false) a0) false false] (.lst (List.map (eL eBool false) (idt a0)) false true) := laws_toBoolSS_walk a0 (idt a0) (fillI a0 idt ([] : (List Bool))) (fillM a0) (laws_toBoolSS_vc a0 hp)

noncomputable def laws_toPlan_b : Code := bodyC Try.f25
def laws_toPlan_C (a0 : Plan) (res : Plan) : Prop :=
  (small a0.switches) ∧ ((smallWays a0.ways) ∧ ((smallBars a0.bars) ∧ ((a0.sections = res.sections) ∧ ((idt a0.switches) = res.switches) ∧ ((idt a0.ways) = res.ways) ∧ ((idt a0.bars) = res.bars) ∧ (a0.hold = res.hold))))
set_option maxHeartbeats 4000000 in
theorem laws_toPlan_walk (a0 : Plan) (res : Plan) (h : laws_toPlan_C a0 res) : FnV Try.prog 25 [.agg (ePlan false a0)] (.agg (ePlan true res)) := by
  unfold laws_toPlan_C at h
  refine FnS.of_body (fn := Try.f25) (c := laws_toPlan_b) Try.func25 (by kernel_rfl) (by kernel_rfl) ?_
  refine WpS.codeIs (c' := (nv laws_toPlan_b 1)) (by kernel_rfl) ?_
  refine WpS.start (st' := ⟨(mkS 23 [(0, .agg (ePlan false a0))]), [], []⟩) (by kernel_rfl) ?_
  refine cSeqG ⟨(mkS 23 [(1, .lptr 1 0), (2, .lptr 2 0)]), [(2, [.int .i64 0, .lst [] true true, .lst [] true true, .lst [] true true, .int .i64 0]), (1, (ePlan false a0))], []⟩ (True) ?_ (fun q1 => ?_)
  · skip
    refine rgS [] 0 ?_
    refine sEnd' [(2, .lptr 2 0), (1, .lptr 1 0)] [(2, [.int .i64 0, .lst [] true true, .lst [] true true, .lst [] true true, .int .i64 0]), (1, (ePlan false a0))] [] ?_
    refine QJoin.normal trivial ?_
    exact wkJ (by kernel_rfl)
  refine cSeqG ⟨(mkS 23 [(1, .lptr 1 0), (2, .lptr 2 0), (3, .lptr 3 0)]), [(3, [.int .i64 0, .lst [] true true, .lst [] true true, .lst [] true true, .int .i64 0]), (2, [.int .i64 0, .lst [] true true, .lst [] true true, .lst [] true true, .int .i64 0]), (1, (ePlan false a0))], []⟩ (True) ?_ (fun q2 => ?_)
  · skip
    refine rgS [] 1 ?_
    refine sEnd' [(3, .lptr 3 0)] [(3, [.int .i64 0, .lst [] true true, .lst [] true true, .lst [] true true, .int .i64 0]), (2, [.int .i64 0, .lst [] true true, .lst [] true true, .lst [] true true, .int .i64 0]), (1, (ePlan false a0))] [] ?_
    refine QJoin.normal trivial ?_
    exact wkJ (by kernel_rfl)
  refine cSeqG ⟨(mkS 23 [(1, .lptr 1 0), (2, .lptr 2 0), (3, .lptr 3 0)]), [(3, [.int .i64 a0.sections, .lst [] true true, .lst [] true true, .lst [] true true, .int .i64 0]), (2, [.int .i64 0, .lst [] true true, .lst [] true true, .lst [] true true, .int .i64 0]), (1, (ePlan false a0))], []⟩ (True) ?_ (fun q3 => ?_)
  · skip
    refine rgS [] 2 ?_
    refine sEnd' [(6, .lptr 3 0), (5, .int .i64 a0.sections), (4, .lptr 1 0)] [(3, [.int .i64 a0.sections, .lst [] true true, .lst [] true true, .lst [] true true, .int .i64 0]), (2, [.int .i64 0, .lst [] true true, .lst [] true true, .lst [] true true, .int .i64 0]), (1, (ePlan false a0))] [] ?_
    refine QJoin.normal trivial ?_
    exact wkJ (by kernel_rfl)
  obtain ⟨q14, h⟩ := h
  refine cSeqG ⟨(mkS 23 [(1, .lptr 1 0), (2, .lptr 2 0), (3, .lptr 3 0)]), [(3, [.int .i64 a0.sections, .lst (List.map eInt (idt a0.switches)) false true, .lst [] true true, .lst [] true true, .int .i64 0]), (2, [.int .i64 0, .lst [] true true, .lst [] true true, .lst [] true true, .int .i64 0]), (1, (ePlan false a0))], []⟩ (True) ?_ (fun q4 => ?_)
  · replace h := q14
    refine rgS [] 3 ?_
    have q5 := h
    refine sCallV 3 (some 9) [(8, .lst (List.map eInt a0.switches) false false), (7, .lptr 1 1)] [.lst (List.map eInt a0.switches) false false] (laws_toIntS_V a0.switches q5) (PW.cons (Snap2.of1 sa_lst) PW.nil) ?_
    refine sEnd' [(10, .lptr 3 1)] [(3, [.int .i64 a0.sections, .lst (List.map eInt (idt a0.switches)) false true, .lst [] true true, .lst [] true true, .int .i64 0]), (2, [.int .i64 0, .lst [] true true, .lst [] true true, .lst [] true true, .int .i64 0]), (1, (ePlan false a0))] [] ?_
    refine QJoin.normal trivial ?_
    exact wkJ (by kernel_rfl)
  obtain ⟨q13, h⟩ := h
  refine cSeqG ⟨(mkS 23 [(1, .lptr 1 0), (2, .lptr 2 0), (3, .lptr 3 0)]), [(3, [.int .i64 a0.sections, .lst (List.map eInt (idt a0.switches)) false true, .lst (List.map (eWay false) (idt a0.ways)) false true, .lst [] true true, .int .i64 0]), (2, [.int .i64 0, .lst [] true true, .lst [] true true, .lst [] true true, .int .i64 0]), (1, (ePlan false a0))], []⟩ (True) ?_ (fun q6 => ?_)
  · replace h := q13
    refine rgS [] 4 ?_
    have q7 := h
    refine sCallV 3 (some 13) [(12, .lst (List.map (eWay false) a0.ways) false false), (11, .lptr 1 2)] [.lst (List.map (eWay false) a0.ways) false false] (laws_toWayS_V a0.ways q7) (PW.cons (Snap2.of1 sa_lst) PW.nil) ?_
    refine sEnd' [(14, .lptr 3 2)] [(3, [.int .i64 a0.sections, .lst (List.map eInt (idt a0.switches)) false true, .lst (List.map (eWay false) (idt a0.ways)) false true, .lst [] true true, .int .i64 0]), (2, [.int .i64 0, .lst [] true true, .lst [] true true, .lst [] true true, .int .i64 0]), (1, (ePlan false a0))] [] ?_
    refine QJoin.normal trivial ?_
    exact wkJ (by kernel_rfl)
  obtain ⟨q12, h⟩ := h
  refine cSeqG ⟨(mkS 23 [(1, .lptr 1 0), (2, .lptr 2 0), (3, .lptr 3 0)]), [(3, [.int .i64 a0.sections, .lst (List.map eInt (idt a0.switches)) false true, .lst (List.map (eWay false) (idt a0.ways)) false true, .lst (List.map (eL eBool false) (idt a0.bars)) false true, .int .i64 0]), (2, [.int .i64 0, .lst [] true true, .lst [] true true, .lst [] true true, .int .i64 0]), (1, (ePlan false a0))], []⟩ (True) ?_ (fun q8 => ?_)
  · replace h := q12
    refine rgS [] 5 ?_
    have q9 := h
    refine sCallV 3 (some 17) [(16, .lst (List.map (eL eBool false) a0.bars) false false), (15, .lptr 1 3)] [.lst (List.map (eL eBool false) a0.bars) false false] (laws_toBoolSS_V a0.bars q9) (PW.cons (Snap2.of1 sa_lst) PW.nil) ?_
    refine sEnd' [(18, .lptr 3 3)] [(3, [.int .i64 a0.sections, .lst (List.map eInt (idt a0.switches)) false true, .lst (List.map (eWay false) (idt a0.ways)) false true, .lst (List.map (eL eBool false) (idt a0.bars)) false true, .int .i64 0]), (2, [.int .i64 0, .lst [] true true, .lst [] true true, .lst [] true true, .int .i64 0]), (1, (ePlan false a0))] [] ?_
    refine QJoin.normal trivial ?_
    exact wkJ (by kernel_rfl)
  refine cSeqG ⟨(mkS 23 [(2, .lptr 2 0), (3, .lptr 3 0)]), [(3, [.int .i64 a0.sections, .lst (List.map eInt (idt a0.switches)) false true, .lst (List.map (eWay false) (idt a0.ways)) false true, .lst (List.map (eL eBool false) (idt a0.bars)) false true, .int .i64 a0.hold]), (2, [.int .i64 0, .lst [] true true, .lst [] true true, .lst [] true true, .int .i64 0]), (1, (ePlan false a0))], []⟩ (True) ?_ (fun q10 => ?_)
  · skip
    refine rgS [] 6 ?_
    refine sEnd' [(21, .lptr 3 4), (20, .int .i64 a0.hold), (19, .lptr 1 4)] [(3, [.int .i64 a0.sections, .lst (List.map eInt (idt a0.switches)) false true, .lst (List.map (eWay false) (idt a0.ways)) false true, .lst (List.map (eL eBool false) (idt a0.bars)) false true, .int .i64 a0.hold]), (2, [.int .i64 0, .lst [] true true, .lst [] true true, .lst [] true true, .int .i64 0]), (1, (ePlan false a0))] [] ?_
    refine QJoin.normal trivial ?_
    exact wkJ (by kernel_rfl)
  refine cSeqG ⟨(mkS 23 [(2, .lptr 2 0)]), [(3, [.int .i64 a0.sections, .lst (List.map eInt (idt a0.switches)) false true, .lst (List.map (eWay false) (idt a0.ways)) false true, .lst (List.map (eL eBool false) (idt a0.bars)) false true, .int .i64 a0.hold]), (2, [.int .i64 a0.sections, .lst (List.map eInt (idt a0.switches)) false true, .lst (List.map (eWay false) (idt a0.ways)) false true, .lst (List.map (eL eBool false) (idt a0.bars)) false true, .int .i64 a0.hold]), (1, (ePlan false a0))], []⟩ (True) ?_ (fun q11 => ?_)
  · skip
    refine rgS [] 7 ?_
    refine sEnd' [(22, .agg [.int .i64 a0.sections, .lst (List.map eInt (idt a0.switches)) false true, .lst (List.map (eWay false) (idt a0.ways)) false true, .lst (List.map (eL eBool false) (idt a0.bars)) false true, .int .i64 a0.hold])] [(3, [.int .i64 a0.sections, .lst (List.map eInt (idt a0.switches)) false true, .lst (List.map (eWay false) (idt a0.ways)) false true, .lst (List.map (eL eBool false) (idt a0.bars)) false true, .int .i64 a0.hold]), (2, [.int .i64 a0.sections, .lst (List.map eInt (idt a0.switches)) false true, .lst (List.map (eWay false) (idt a0.ways)) false true, .lst (List.map (eL eBool false) (idt a0.bars)) false true, .int .i64 a0.hold]), (1, (ePlan false a0))] [] ?_
    refine QJoin.normal trivial ?_
    exact wkJ (by kernel_rfl)
  refine cRet ?_
  refine rtS (.agg [.int .i64 a0.sections, .lst (List.map eInt (idt a0.switches)) false true, .lst (List.map (eWay false) (idt a0.ways)) false true, .lst (List.map (eL eBool false) (idt a0.bars)) false true, .int .i64 a0.hold]) [.agg [.int .i64 a0.sections, .lst (List.map eInt (idt a0.switches)) false true, .lst (List.map (eWay false) (idt a0.ways)) false true, .lst (List.map (eL eBool false) (idt a0.bars)) false true, .int .i64 a0.hold]] ?_
  exact (SnapR3.agg (PW.cons (sr_int (H := []) (a := a0.sections) (b := res.sections) h.1) (PW.cons (sr_lst h.2.1) (PW.cons (sr_lst h.2.2.1) (PW.cons (sr_lst h.2.2.2.1) (PW.cons (sr_int (H := []) (a := a0.hold) (b := res.hold) h.2.2.2.2) PW.nil))))))

set_option maxHeartbeats 4000000 in
theorem laws_toPlan_vc (a0 : Plan) (hp : smallPlan a0) : laws_toPlan_C a0 (idt a0) := by
  have hp : a0.switches.length + waysN a0.ways + barsN a0.bars ≤ 1048576 := hp
  unfold laws_toPlan_C small smallWays smallBars
  exact ⟨by omega, by omega, by omega, rfl, rfl, rfl, rfl, rfl⟩

theorem laws_toPlan_V (a0 : Plan) (hp : smallPlan a0) : FnV Try.prog 25 [.agg (ePlan false a0)] (.agg (ePlan true (idt a0))) := laws_toPlan_walk a0 (idt a0) (laws_toPlan_vc a0 hp)

noncomputable def slices_Index_int_b : Code := bodyC Try.f161
def slices_Index_int_C (a0 : (List Int)) (a1 : Int) (res : Int) (I0 : Int → Prop) (m0 : Int → Nat) : Prop :=
  a0.length ≤ 4611686018427387904 → I0 0 ∧ ∀ (v8 : Int), I0 v8 → (((decide (v8 < (a0.length : Int))) = false → (-1) = res) ∧ ((decide (v8 < (a0.length : Int))) = true → ((0 ≤ v8 ∧ v8.toNat < a0.length) ∧ ((a1 == (nth a0 v8)) = true → v8 = res)) ∧ ((!(a1 == (nth a0 v8))) = true → I0 (IntKind.i64.wrap (v8 + 1)) ∧ m0 (IntKind.i64.wrap (v8 + 1)) < m0 v8)))
set_option maxHeartbeats 4000000 in
theorem slices_Index_int_walk (a0 : (List Int)) (a1 : Int) (res : Int) (I0 : Int → Prop) (m0 : Int → Nat) (h : slices_Index_int_C a0 a1 res I0 m0) : FnV Try.prog 161 [.lst (List.map eInt a0) false false, .int .i64 a1] (.int .i64 res) := by
  unfold slices_Index_int_C at h
  refine FnS.of_body (fn := Try.f161) (c := slices_Index_int_b) Try.func161 (by kernel_rfl) (by kernel_rfl) ?_
  refine WpS.codeIs (c' := (nv slices_Index_int_b 1)) (by kernel_rfl) ?_
  refine WpS.start (st' := ⟨(mkS 19 [(0, .lst (List.map eInt a0) false false), (1, .int .i64 a1)]), [], []⟩) (by kernel_rfl) ?_
  refine cSeqG ⟨(mkS 19 [(0, .lst (List.map eInt a0) false false), (1, .int .i64 a1)]), [], []⟩ (True) ?_ (fun q1 => ?_)
  · skip
    refine rgS [] 0 ?_
    refine sEnd [(4, .int .i64 0)] ?_
    refine QJoin.normal trivial ?_
    exact wkJ (by kernel_rfl)
  refine cSeq ?_
  refine cSeqG ⟨(mkS 19 [(0, .lst (List.map eInt a0) false false), (1, .int .i64 a1), (7, .int .i64 (a0.length : Int)), (8, .int .i64 0)]), [], []⟩ (a0.length ≤ 4611686018427387904) ?_ (fun q2 => ?_)
  · skip
    refine rgS [] 1 ?_
    refine sLen 2 (some 7) [(6, .lst (List.map eInt a0) false false)] eInt a0 (fun q3 => ?_)
    refine sEnd [(8, .int .i64 0)] ?_
    refine QJoin.normal q3 ?_
    exact wkJ (by kernel_rfl)
  replace h := h q2
  refine cBlock 0 ?_
  obtain ⟨q17, h⟩ := h
  refine cLoop (fun (v : Int) => (⟨(mkS 19 [(0, .lst (List.map eInt a0) false false), (1, .int .i64 a1), (7, .int .i64 (a0.length : Int)), (8, .int .i64 v)]), [], []⟩ : St)) (fun (v : Int) => I0 v) (fun (v : Int) => m0 v) 0 (wkL []) q17 (fun v8 hI => ?_)
  skip
  replace h := h v8 hI
  show WpS _ _ _ ⟨(mkS 19 [(0, .lst (List.map eInt a0) false false), (1, .int .i64 a1), (7, .int .i64 (a0.length : Int)), (8, .int .i64 v8)]), [], []⟩
  refine cSeqG ⟨(mkS 19 [(0, .lst (List.map eInt a0) false false), (1, .int .i64 a1), (7, .int .i64 (a0.length : Int)), (8, .int .i64 v8), (9, .bool (decide (v8 < (a0.length : Int))))]), [], []⟩ (True) ?_ (fun q4 => ?_)
  · skip
    refine rgS [] 2 ?_
    refine sEnd [(9, .bool (decide (v8 < (a0.length : Int))))] ?_
    refine QJoin.normal trivial ?_
    exact wkJ (by kernel_rfl)
  obtain ⟨q16, h⟩ := h
  refine cSeqG ⟨(mkS 19 [(0, .lst (List.map eInt a0) false false), (1, .int .i64 a1), (7, .int .i64 (a0.length : Int)), (8, .int .i64 v8)]), [], []⟩ ((decide (v8 < (a0.length : Int))) = true) ?_ (fun q5 => ?_)
  · replace h := q16
    refine cCond (.tmp 9) (decide (v8 < (a0.length : Int))) (fun q6 => ?_) (fun q6 => ?_)
    · skip
      refine cSkip ?_
      refine QJoin.normal (by simp only [q6, Bool.true_or, Bool.false_or, Bool.true_and, Bool.false_and, Bool.not_true, Bool.not_false, Bool.and_true, Bool.and_false, Bool.or_true, Bool.or_false, cond_true, cond_false]) ?_
      exact wkJ (by kernel_rfl)
    · replace h := h q6
      refine cExit 0 ?_
      refine QJoin.exit ?_
      refine QRound.exit ?_
      refine QBlock.here ?_
      refine QSeq.normal ?_
      refine cSeqG ⟨(mkS 19 [(4, .int .i64 (-1))]), [], []⟩ (True) ?_ (fun q7 => ?_)
      · skip
        refine rgS [] 7 ?_
        refine sEnd [(4, .int .i64 (-1))] ?_
        refine QJoin.normal trivial ?_
        exact wkJ (by kernel_rfl)
      refine cRet ?_
      refine rtS (.int .i64 (-1)) [.int .i64 (-1)] ?_
      exact (SnapR3.of1 (sr_int (H := []) (a := (-1)) (b := res) h))
  replace h := h q5
  obtain ⟨q15, h⟩ := h
  refine cSeqG ⟨(mkS 19 [(0, .lst (List.map eInt a0) false false), (1, .int .i64 a1), (7, .int .i64 (a0.length : Int)), (8, .int .i64 v8)]), [], []⟩ ((!(a1 == (nth a0 v8))) = true) ?_ (fun q8 => ?_)
  · replace h := q15
    refine cBlock 1 ?_
    refine cSeqG ⟨(mkS 19 [(0, .lst (List.map eInt a0) false false), (1, .int .i64 a1), (5, .int .i64 v8), (7, .int .i64 (a0.length : Int)), (8, .int .i64 v8)]), [], []⟩ (True) ?_ (fun q9 => ?_)
    · skip
      refine rgS [] 3 ?_
      refine sEnd [(5, .int .i64 v8), (10, .int .i64 v8)] ?_
      refine QJoin.normal trivial ?_
      exact wkJ (by kernel_rfl)
    obtain ⟨q14, h⟩ := h
    refine cSeqG ⟨(mkS 19 [(0, .lst (List.map eInt a0) false false), (1, .int .i64 a1), (5, .int .i64 v8), (7, .int .i64 (a0.length : Int)), (8, .int .i64 v8), (16, .bool (a1 == (nth a0 v8)))]), [], []⟩ (True) ?_ (fun q10 => ?_)
    · replace h := q14
      refine rgS [] 4 ?_
      have q11 := h
      refine sIdx 4 (some 14) [(13, .int .i64 v8), (12, .lst (List.map eInt a0) false false), (11, .int .i64 a1)] eInt a0 1 q11 ?_
      refine sEnd [(16, .bool (a1 == (nth a0 v8))), (15, .int .i64 (nth a0 v8))] ?_
      refine QJoin.normal trivial ?_
      exact wkJ (by kernel_rfl)
    refine cCond (.tmp 16) (a1 == (nth a0 v8)) (fun q12 => ?_) (fun q12 => ?_)
    · replace h := h q12
      refine cSeqG ⟨(mkS 19 [(4, .int .i64 v8)]), [], []⟩ (True) ?_ (fun q13 => ?_)
      · skip
        refine rgS [] 5 ?_
        refine sEnd [(4, .int .i64 v8), (17, .int .i64 v8)] ?_
        refine QJoin.normal trivial ?_
        exact wkJ (by kernel_rfl)
      refine cRet ?_
      refine QBlock.ret ?_
      refine QJoin.ret ?_
      refine QRound.ret ?_
      refine QBlock.ret ?_
      refine QSeq.ret ?_
      refine rtS (.int .i64 v8) [.int .i64 v8] ?_
      exact (SnapR3.of1 (sr_int (H := []) (a := v8) (b := res) h))
    · skip
      refine cSkip ?_
      refine QBlock.normal ?_
      refine QJoin.normal (by simp only [q5, q12, Bool.true_or, Bool.false_or, Bool.true_and, Bool.false_and, Bool.not_true, Bool.not_false, Bool.and_true, Bool.and_false, Bool.or_true, Bool.or_false, cond_true, cond_false]) ?_
      exact wkJ (by kernel_rfl)
  replace h := h q8
  refine rgS [] 6 ?_
  refine sEnd [(8, .int .i64 (IntKind.i64.wrap (v8 + 1))), (18, .int .i64 (IntKind.i64.wrap (v8 + 1)))] ?_
  exact QRound.again (IntKind.i64.wrap (v8 + 1)) h (wkL [])

set_option maxHeartbeats 4000000 in
theorem slices_Index_int_vc (a0 : (List Int)) (a1 : Int) : slices_Index_int_C a0 a1 (idxInt a0 a1) (upI a0.length (fun j => a1 == nth a0 j)) (upM a0.length) := by
  unfold slices_Index_int_C
  intro hn
  refine ⟨up_start (len0 _), fun v hI => ⟨fun hv => ?_, fun hv => ⟨⟨up_in hI hv, fun hp => ?_⟩, fun hp => up_step (lenI hn) hI hv (not_eq hp)⟩⟩⟩
  · unfold idxInt; rw [up_none (q := fun x => a1 == x) hI hv]; rfl
  · unfold idxInt; rw [up_first (q := fun x => a1 == x) hI hv hp]
    have := hI.1
    show v = (v.toNat : Int)
    omega

theorem slices_Index_int_V (a0 : (List Int)) (a1 : Int) : FnV Try.prog 161 [.lst (List.map eInt a0) false false, .int .i64 a1] (.int .i64 (idxInt a0 a1)) := slices_Index_int_walk a0 a1 (idxInt a0 a1) (upI a0.length (fun j => a1 == nth a0 j)) (upM a0.length) (slices_Index_int_vc a0 a1)

noncomputable def slices_Contains_int_b : Code := bodyC Try.f130
def slices_Contains_int_C (a0 : (List Int)) (a1 : Int) (res : Bool) : Prop :=
  (decide ((idxInt a0 a1) ≥ 0)) = res
set_option maxHeartbeats 4000000 in
theorem slices_Contains_int_walk (a0 : (List Int)) (a1 : Int) (res : Bool) (h : slices_Contains_int_C a0 a1 res) : FnV Try.prog 130 [.lst (List.map eInt a0) false false, .int .i64 a1] (.bool res) := by
  unfold slices_Contains_int_C at h
  refine FnS.of_body (fn := Try.f130) (c := slices_Contains_int_b) Try.func130 (by kernel_rfl) (by kernel_rfl) ?_
  refine WpS.codeIs (c' := (nv slices_Contains_int_b 1)) (by kernel_rfl) ?_
  refine WpS.start (st' := ⟨(mkS 9 [(0, .lst (List.map eInt a0) false false), (1, .int .i64 a1)]), [], []⟩) (by kernel_rfl) ?_
  refine cSeqG ⟨(mkS 9 [(0, .lst (List.map eInt a0) false false), (1, .int .i64 a1)]), [], []⟩ (True) ?_ (fun q1 => ?_)
  · skip
    refine rgS [] 0 ?_
    refine sEnd [(4, .bool false)] ?_
    refine QJoin.normal trivial ?_
    exact wkJ (by kernel_rfl)
  refine cSeqG ⟨(mkS 9 [(4, .bool (decide ((idxInt a0 a1) ≥ 0)))]), [], []⟩ (True) ?_ (fun q2 => ?_)
  · skip
    refine rgS [] 1 ?_
    refine sCallV 3 (some 7) [(6, .int .i64 a1), (5, .lst (List.map eInt a0) false false)] [.lst (List.map eInt a0) false false, .int .i64 a1] (slices_Index_int_V a0 a1) (PW.cons (Snap2.of1 sa_lst) (PW.cons (Snap2.of1 (.int _ _)) PW.nil)) ?_
    refine sEnd [(4, .bool (decide ((idxInt a0 a1) ≥ 0))), (8, .bool (decide ((idxInt a0 a1) ≥ 0)))] ?_
    refine QJoin.normal trivial ?_
    exact wkJ (by kernel_rfl)
  refine cRet ?_
  refine rtS (.bool (decide ((idxInt a0 a1) ≥ 0))) [.bool (decide ((idxInt a0 a1) ≥ 0))] ?_
  exact (SnapR3.of1 (sr_bool (H := []) (a := (decide ((idxInt a0 a1) ≥ 0))) (b := res) h))

set_option maxHeartbeats 4000000 in
theorem slices_Contains_int_vc (a0 : (List Int)) (a1 : Int) : slices_Contains_int_C a0 a1 (hasInt a0 a1) := by
  unfold slices_Contains_int_C
  exact idxInt_has a0 a1

theorem slices_Contains_int_V (a0 : (List Int)) (a1 : Int) : FnV Try.prog 130 [.lst (List.map eInt a0) false false, .int .i64 a1] (.bool (hasInt a0 a1)) := slices_Contains_int_walk a0 a1 (hasInt a0 a1) (slices_Contains_int_vc a0 a1)

noncomputable def impl_meet_b : Code := bodyC Try.f74
def impl_meet_C (a0 : (List Int)) (a1 : (List Int)) (res : Bool) (I0 : Int → Prop) (m0 : Int → Nat) : Prop :=
  a0.length ≤ 4611686018427387904 → I0 0 ∧ ∀ (v9 : Int), I0 v9 → (((decide (v9 < (a0.length : Int))) = false → false = res) ∧ ((decide (v9 < (a0.length : Int))) = true → ((0 ≤ v9 ∧ v9.toNat < a0.length) ∧ ((hasInt a1 (nth a0 v9)) = true → true = res)) ∧ ((!(hasInt a1 (nth a0 v9))) = true → I0 (IntKind.i64.wrap (v9 + 1)) ∧ m0 (IntKind.i64.wrap (v9 + 1)) < m0 v9)))
set_option maxHeartbeats 4000000 in
theorem impl_meet_walk (a0 : (List Int)) (a1 : (List Int)) (res : Bool) (I0 : Int → Prop) (m0 : Int → Nat) (h : impl_meet_C a0 a1 res I0 m0) : FnV Try.prog 74 [.lst (List.map eInt a0) false false, .lst (List.map eInt a1) false false] (.bool res) := by
  unfold impl_meet_C at h
  refine FnS.of_body (fn := Try.f74) (c := impl_meet_b) Try.func74 (by kernel_rfl) (by kernel_rfl) ?_
  refine WpS.codeIs (c' := (nv impl_meet_b 1)) (by kernel_rfl) ?_
  refine WpS.start (st' := ⟨(mkS 17 [(0, .lst (List.map eInt a0) false false), (1, .lst (List.map eInt a1) false false)]), [], []⟩) (by kernel_rfl) ?_
  refine cSeqG ⟨(mkS 17 [(0, .lst (List.map eInt a0) false false), (1, .lst (List.map eInt a1) false false)]), [], []⟩ (True) ?_ (fun q1 => ?_)
  · skip
    refine rgS [] 0 ?_
    refine sEnd [(4, .bool false)] ?_
    refine QJoin.normal trivial ?_
    exact wkJ (by kernel_rfl)
  refine cSeq ?_
  refine cSeqG ⟨(mkS 17 [(1, .lst (List.map eInt a1) false false), (7, .lst (List.map eInt a0) false false), (8, .int .i64 (a0.length : Int)), (9, .int .i64 0)]), [], []⟩ (a0.length ≤ 4611686018427387904) ?_ (fun q2 => ?_)
  · skip
    refine rgS [] 1 ?_
    refine sLen 2 (some 8) [(7, .lst (List.map eInt a0) false false)] eInt a0 (fun q3 => ?_)
    refine sEnd [(9, .int .i64 0)] ?_
    refine QJoin.normal q3 ?_
    exact wkJ (by kernel_rfl)
  replace h := h q2
  refine cBlock 0 ?_
  obtain ⟨q17, h⟩ := h
  refine cLoop (fun (v : Int) => (⟨(mkS 17 [(1, .lst (List.map eInt a1) false false), (7, .lst (List.map eInt a0) false false), (8, .int .i64 (a0.length : Int)), (9, .int .i64 v)]), [], []⟩ : St)) (fun (v : Int) => I0 v) (fun (v : Int) => m0 v) 0 (wkL []) q17 (fun v9 hI => ?_)
  skip
  replace h := h v9 hI
  show WpS _ _ _ ⟨(mkS 17 [(1, .lst (List.map eInt a1) false false), (7, .lst (List.map eInt a0) false false), (8, .int .i64 (a0.length : Int)), (9, .int .i64 v9)]), [], []⟩
  refine cSeqG ⟨(mkS 17 [(1, .lst (List.map eInt a1) false false), (7, .lst (List.map eInt a0) false false), (8, .int .i64 (a0.length : Int)), (9, .int .i64 v9), (10, .bool (decide (v9 < (a0.length : Int))))]), [], []⟩ (True) ?_ (fun q4 => ?_)
  · skip
    refine rgS [] 2 ?_
    refine sEnd [(10, .bool (decide (v9 < (a0.length : Int))))] ?_
    refine QJoin.normal trivial ?_
    exact wkJ (by kernel_rfl)
  obtain ⟨q16, h⟩ := h
  refine cSeqG ⟨(mkS 17 [(1, .lst (List.map eInt a1) false false), (7, .lst (List.map eInt a0) false false), (8, .int .i64 (a0.length : Int)), (9, .int .i64 v9)]), [], []⟩ ((decide (v9 < (a0.length : Int))) = true) ?_ (fun q5 => ?_)
  · replace h := q16
    refine cCond (.tmp 10) (decide (v9 < (a0.length : Int))) (fun q6 => ?_) (fun q6 => ?_)
    · skip
      refine cSkip ?_
      refine QJoin.normal (by simp only [q6, Bool.true_or, Bool.false_or, Bool.true_and, Bool.false_and, Bool.not_true, Bool.not_false, Bool.and_true, Bool.and_false, Bool.or_true, Bool.or_false, cond_true, cond_false]) ?_
      exact wkJ (by kernel_rfl)
    · replace h := h q6
      refine cExit 0 ?_
      refine QJoin.exit ?_
      refine QRound.exit ?_
      refine QBlock.here ?_
      refine QSeq.normal ?_
      refine cSeqG ⟨(mkS 17 [(4, .bool false)]), [], []⟩ (True) ?_ (fun q7 => ?_)
      · skip
        refine rgS [] 7 ?_
        refine sEnd [(4, .bool false)] ?_
        refine QJoin.normal trivial ?_
        exact wkJ (by kernel_rfl)
      refine cRet ?_
      refine rtS (.bool false) [.bool false] ?_
      exact (SnapR3.of1 (sr_bool (H := []) (a := false) (b := res) h))
  replace h := h q5
  obtain ⟨q15, h⟩ := h
  refine cSeqG ⟨(mkS 17 [(1, .lst (List.map eInt a1) false false), (7, .lst (List.map eInt a0) false false), (8, .int .i64 (a0.length : Int)), (9, .int .i64 v9)]), [], []⟩ ((!(hasInt a1 (nth a0 v9))) = true) ?_ (fun q8 => ?_)
  · replace h := q15
    refine cBlock 1 ?_
    obtain ⟨q14, h⟩ := h
    refine cSeqG ⟨(mkS 17 [(1, .lst (List.map eInt a1) false false), (6, .int .i64 (nth a0 v9)), (7, .lst (List.map eInt a0) false false), (8, .int .i64 (a0.length : Int)), (9, .int .i64 v9)]), [], []⟩ (True) ?_ (fun q9 => ?_)
    · replace h := q14
      refine rgS [] 3 ?_
      have q10 := h
      refine sIdx 1 (some 11) [] eInt a0 1 q10 ?_
      refine sEnd [(6, .int .i64 (nth a0 v9)), (12, .int .i64 (nth a0 v9))] ?_
      refine QJoin.normal trivial ?_
      exact wkJ (by kernel_rfl)
    refine cSeqG ⟨(mkS 17 [(1, .lst (List.map eInt a1) false false), (7, .lst (List.map eInt a0) false false), (8, .int .i64 (a0.length : Int)), (9, .int .i64 v9), (15, .bool (hasInt a1 (nth a0 v9)))]), [], []⟩ (True) ?_ (fun q11 => ?_)
    · skip
      refine rgS [] 4 ?_
      refine sCallV 3 (some 15) [(14, .int .i64 (nth a0 v9)), (13, .lst (List.map eInt a1) false false)] [.lst (List.map eInt a1) false false, .int .i64 (nth a0 v9)] (slices_Contains_int_V a1 (nth a0 v9)) (PW.cons (Snap2.of1 sa_lst) (PW.cons (Snap2.of1 (.int _ _)) PW.nil)) ?_
      refine sEnd [] ?_
      refine QJoin.normal trivial ?_
      exact wkJ (by kernel_rfl)
    refine cCond (.tmp 15) (hasInt a1 (nth a0 v9)) (fun q12 => ?_) (fun q12 => ?_)
    · replace h := h q12
      refine cSeqG ⟨(mkS 17 [(4, .bool true)]), [], []⟩ (True) ?_ (fun q13 => ?_)
      · skip
        refine rgS [] 5 ?_
        refine sEnd [(4, .bool true)] ?_
        refine QJoin.normal trivial ?_
        exact wkJ (by kernel_rfl)
      refine cRet ?_
      refine QBlock.ret ?_
      refine QJoin.ret ?_
      refine QRound.ret ?_
      refine QBlock.ret ?_
      refine QSeq.ret ?_
      refine rtS (.bool true) [.bool true] ?_
      exact (SnapR3.of1 (sr_bool (H := []) (a := true) (b := res) h))
    · skip
      refine cSkip ?_
      refine QBlock.normal ?_
      refine QJoin.normal (by simp only [q5, q12, Bool.true_or, Bool.false_or, Bool.true_and, Bool.false_and, Bool.not_true, Bool.not_false, Bool.and_true, Bool.and_false, Bool.or_true, Bool.or_false, cond_true, cond_false]) ?_
      exact wkJ (by kernel_rfl)
  replace h := h q8
  refine rgS [] 6 ?_
  refine sEnd [(9, .int .i64 (IntKind.i64.wrap (v9 + 1))), (16, .int .i64 (IntKind.i64.wrap (v9 + 1)))] ?_
  exact QRound.again (IntKind.i64.wrap (v9 + 1)) h (wkL [])

set_option maxHeartbeats 4000000 in
theorem impl_meet_vc (a0 : (List Int)) (a1 : (List Int)) : impl_meet_C a0 a1 (meets a0 a1) (upI a0.length (fun j => hasInt a1 (nth a0 j))) (upM a0.length) := by
  unfold impl_meet_C
  intro hn
  refine ⟨up_start (len0 _), fun v hI => ⟨fun hv => ?_, fun hv => ⟨⟨up_in hI hv, fun hp => ?_⟩, fun hp => up_step (lenI hn) hI hv (not_eq hp)⟩⟩⟩
  · exact (up_nany (q := fun x => hasInt a1 x) hI hv).symm
  · exact (up_any (q := fun x => hasInt a1 x) hI hv hp).symm

theorem impl_meet_V (a0 : (List Int)) (a1 : (List Int)) : FnV Try.prog 74 [.lst (List.map eInt a0) false false, .lst (List.map eInt a1) false false] (.bool (meets a0 a1)) := impl_meet_walk a0 a1 (meets a0 a1) (upI a0.length (fun j => hasInt a1 (nth a0 j))) (upM a0.length) (impl_meet_vc a0 a1)

noncomputable def slices_Clone_Lie_b : Code := bodyC Try.f158
def slices_Clone_Lie_C (a0 : (List Lie)) (res : (List Lie)) : Prop :=
  (a0 ≠ [] → (a0.length * 16 ≤ 140737488355328 ∧ a0.length ≤ 4611686018427387904) ∧ (a0 = res)) ∧ (a0 = [] → ∀ b2 : Bool, (b2 = true → [] = res) ∧ (b2 = false → (a0.length * 16 ≤ 140737488355328 ∧ a0.length ≤ 4611686018427387904) ∧ (a0 = res)))
set_option maxHeartbeats 4000000 in
theorem slices_Clone_Lie_walk (a0 : (List Lie)) (res : (List Lie)) (h : slices_Clone_Lie_C a0 res) : FnS Try.prog 158 [.lst (List.map eLie a0) false false] [] (fun r H => r = .ref 0 0 0 res.length false ∧ H = [⟨0, 2, List.map eLie res⟩]) := by
  refine FnS.toOwn ?_
  unfold slices_Clone_Lie_C at h
  refine FnS.of_body (fn := Try.f158) (c := slices_Clone_Lie_b) Try.func158 (by kernel_rfl) (by kernel_rfl) ?_
  refine WpS.codeIs (c' := (nv slices_Clone_Lie_b 1)) (by kernel_rfl) ?_
  refine WpS.start (st' := ⟨(mkS 8 [(0, .lst (List.map eLie a0) false false)]), [], []⟩) (by kernel_rfl) ?_
  refine cSeqG ⟨(mkS 8 [(0, .lst (List.map eLie a0) false false)]), [], []⟩ (True) ?_ (fun q1 => ?_)
  · skip
    refine rgS [] 0 ?_
    refine sEnd [(2, .lst [] true true)] ?_
    refine QJoin.normal trivial ?_
    exact wkJ (by kernel_rfl)
  refine cSeq ?_
  refine cSeq ?_
  refine rgS [] 1 ?_
  refine sNil 2 (some 4) [(3, .lst (List.map eLie a0) false false)] eLie a0 (fun hx => ?_) (fun hx b2 => ?_)
  · replace h := h.1 hx
    refine sEnd [] ?_
    refine QSeq.normal ?_
    refine cCond (.tmp 4) false (fun q3 => ?_) (fun q3 => ?_)
    · cases q3
    · skip
      refine cSkip ?_
      refine QSeq.normal ?_
      obtain ⟨q6, h⟩ := h
      refine cSeqG ⟨(mkS 8 [(2, .ref 0 0 0 a0.length false)]), [], [⟨0, 2, List.map eLie a0⟩]⟩ (True) ?_ (fun q4 => ?_)
      · replace h := q6
        refine rgS [] 3 ?_
        have q5 := h
        refine sApp0 3 (some 7) [(6, .lst (List.map eLie a0) false false), (5, .lst [] true true)] eLie a0 (refrs false (List.map eLie a0)) 0 2 16 (fun r => [⟨0, 2, r⟩]) rfl q5 ?_
        refine sEnd [(2, .ref 0 0 0 a0.length false)] ?_
        refine QJoin.normal trivial ?_
        exact wkJ (by kernel_rfl)
      refine cRet ?_
      refine rtS (.ref 0 0 0 a0.length false) [.ref 0 0 0 a0.length false] ?_
      exact ⟨sg [some 0], own_of [some 0] rfl (by decide) ⟨rfl, (rowsOwn_eq (b := 0) (g := 0) (sz := 2) (xs := a0) (ys := res) rfl oLie h), trivial⟩, (.inr (ow_ref (by simp) rfl rfl (by have := congrArg List.length h; simpa using this)))⟩
  · replace h := h.2 hx b2
    refine sEnd [] ?_
    refine QSeq.normal ?_
    refine cCond (.tmp 4) b2 (fun q7 => ?_) (fun q7 => ?_)
    · replace h := h.1 q7
      refine cSeqG ⟨(mkS 8 [(2, .lst [] true true)]), [], []⟩ (True) ?_ (fun q8 => ?_)
      · skip
        refine rgS [] 2 ?_
        refine sEnd [(2, .lst [] true true)] ?_
        refine QJoin.normal trivial ?_
        exact wkJ (by kernel_rfl)
      refine cRet ?_
      refine QSeq.ret ?_
      refine rtS (.lst [] true true) [.lst [] true true] ?_
      exact ⟨sg [none], own_of [none] rfl (by decide) ⟨rfl, trivial, trivial⟩, (.inr (ow_nil (by simp) rfl rfl (by rw [← h]; rfl)))⟩
    · replace h := h.2 q7
      refine cSkip ?_
      refine QSeq.normal ?_
      obtain ⟨q11, h⟩ := h
      refine cSeqG ⟨(mkS 8 [(2, .ref 0 0 0 a0.length false)]), [], [⟨0, 2, List.map eLie a0⟩]⟩ (True) ?_ (fun q9 => ?_)
      · replace h := q11
        refine rgS [] 3 ?_
        have q10 := h
        refine sApp0 3 (some 7) [(6, .lst (List.map eLie a0) false false), (5, .lst [] true true)] eLie a0 (refrs false (List.map eLie a0)) 0 2 16 (fun r => [⟨0, 2, r⟩]) rfl q10 ?_
        refine sEnd [(2, .ref 0 0 0 a0.length false)] ?_
        refine QJoin.normal trivial ?_
        exact wkJ (by kernel_rfl)
      refine cRet ?_
      refine rtS (.ref 0 0 0 a0.length false) [.ref 0 0 0 a0.length false] ?_
      exact ⟨sg [some 0], own_of [some 0] rfl (by decide) ⟨rfl, (rowsOwn_eq (b := 0) (g := 0) (sz := 2) (xs := a0) (ys := res) rfl oLie h), trivial⟩, (.inr (ow_ref (by simp) rfl rfl (by have := congrArg List.length h; simpa using this)))⟩

set_option maxHeartbeats 4000000 in
theorem slices_Clone_Lie_vc (a0 : (List Lie)) (hp : small a0) : slices_Clone_Lie_C a0 (idt a0) := by
  have hp : a0.length ≤ 1048576 := hp
  unfold slices_Clone_Lie_C
  refine ⟨fun h => ⟨⟨by omega, by omega⟩, rfl⟩, fun h b => ⟨fun _ => ?_, fun _ => ⟨⟨by omega, by omega⟩, rfl⟩⟩⟩
  exact h.symm

theorem slices_Clone_Lie_O (a0 : (List Lie)) (hp : small a0) : FnS Try.prog 158 [.lst (List.map eLie a0) false false] [] (fun r H => r = .ref 0 0 0 ((idt a0).length) false ∧ H = [⟨0, 2, List.map eLie (idt a0)⟩]) := slices_Clone_Lie_walk a0 (idt a0) (slices_Clone_Lie_vc a0 hp)

noncomputable def impl_needs_b : Code := bodyC Try.f123
def impl_needs_o1 : List Item := [⟨0, true, true, []⟩, ⟨1, true, true, []⟩, ⟨3, true, true, []⟩, ⟨4, true, true, []⟩, ⟨2, true, false, [3, 4]⟩, ⟨5, true, false, []⟩, ⟨6, true, true, []⟩]
def impl_needs_o1a : List (List Nat) := [[], [0], [0, 1], [], [3], [0, 1, 2, 3, 4], [0, 1, 2, 3, 4, 5]]
def impl_needs_C (a0 : Way) (res : (List Lie)) : Prop :=
  ((small a0.lies) ∧ (((idt a0.lies).length + a0.flanks.length) * 16 ≤ 140737488355328 ∧ (idt a0.lies).length + a0.flanks.length ≤ 4611686018427387904)) ∧ (((idt a0.lies) ++ a0.flanks).length ≤ 4611686018427387904 ∧ ((idt a0.lies) ++ a0.flanks) = res)
set_option maxHeartbeats 4000000 in
theorem impl_needs_walk (a0 : Way) (res : (List Lie)) (h : impl_needs_C a0 res) : FnV Try.prog 123 [.agg (eWay false a0)] (.lst (List.map eLie res) false true) := by
  unfold impl_needs_C at h
  refine FnS.of_body (fn := Try.f123) (c := impl_needs_b) Try.func123 (by kernel_rfl) (by kernel_rfl) ?_
  refine WpS.codeIs (c' := (nv impl_needs_b 1)) (by kernel_rfl) ?_
  refine WpS.start (st' := ⟨(mkS 9 [(0, .agg (eWay false a0))]), [], []⟩) (by kernel_rfl) ?_
  refine cSeqG ⟨(mkS 9 [(1, .lptr 1 0)]), [(1, (eWay false a0))], []⟩ (True) ?_ (fun q1 => ?_)
  · skip
    refine rgS [] 0 ?_
    refine sEnd' [(2, .lst [] true true), (1, .lptr 1 0)] [(1, (eWay false a0))] [] ?_
    refine QJoin.normal trivial ?_
    exact wkJ (by kernel_rfl)
  obtain ⟨q5, h⟩ := h
  refine cSeqG ⟨(mkS 9 [(2, .ref 0 1 0 (((idt a0.lies) ++ a0.flanks).length) false)]), [(1, (eWay false a0))], [⟨1, 2, List.map eLie ((idt a0.lies) ++ a0.flanks)⟩]⟩ (True) ?_ (fun q2 => ?_)
  · replace h := q5
    refine rgD [] 1 impl_needs_o1 impl_needs_o1a ?_
    obtain ⟨q3, h⟩ := h
    refine tCallO 5 (some 5) [(7, .lst (List.map eLie a0.flanks) false false), (6, .lptr 1 2), (4, .lst (List.map eLie a0.lies) false false), (3, .lptr 1 1)] [.lst (List.map eLie a0.lies) false false] (fun L H => floatsS Try.prog (opsN impl_needs_b 6) [3, 4] [(7, .lst (List.map eLie a0.flanks) false false), (6, .lptr 1 2), (4, .lst (List.map eLie a0.lies) false false), (3, .lptr 1 1), (1, .lptr 1 0)] L H) (.ref 0 0 0 ((idt a0.lies).length) false) [⟨0, 2, List.map eLie (idt a0.lies)⟩] (slices_Clone_Lie_O a0.lies q3) (PW.cons (Snap2.of1 sa_lst) PW.nil) (ownH_cons (fun _ => rfl) rfl) (shift_eq (shift_cons (fun _ => rfl) rfl) (by kernel_rfl)) (of_eqP (ψ := ((true = true ∧ true = true ∧ ((.lptr 1 2 : AV) = .lptr 1 2)) ∧ ((true = true ∧ true = true ∧ ((.lst (List.map eLie a0.flanks) false false : AV) = .lst (List.map eLie a0.flanks) false false)) ∧ True))) (by kernel_rfl) ⟨⟨rfl, rfl, rfl⟩, ⟨⟨rfl, rfl, rfl⟩, trivial⟩⟩) ?_
    have q4 := h
    refine tApp 1 (some 8) [] eLie (idt a0.lies) a0.flanks (refrs false (List.map eLie a0.flanks)) 0 0 2 16 (fun _ => True) (fun r => [⟨1, 2, r⟩]) rfl q4 trivial ?_
    refine tEnd [(2, .ref 0 1 0 (((idt a0.lies) ++ a0.flanks).length) false)] ?_
    refine QJoin.normal trivial ?_
    exact wkJ (by kernel_rfl)
  refine cRet ?_
  refine rtS (.ref 0 1 0 (((idt a0.lies) ++ a0.flanks).length) false) [.ref 0 1 0 (((idt a0.lies) ++ a0.flanks).length) false] ?_
  exact (SnapR3.of1 (sr_blk' (sz := 2) (by simp) rfl (cLie) h))

set_option maxHeartbeats 4000000 in
theorem impl_needs_vc (a0 : Way) (hp : preNeeds a0) : impl_needs_C a0 (needs a0) := by
  obtain ⟨h1, h2⟩ := hp
  unfold impl_needs_C idt small
  exact ⟨⟨h1, by omega, by omega⟩, by rw [List.length_append]; omega, rfl⟩

theorem impl_needs_V (a0 : Way) (hp : preNeeds a0) : FnV Try.prog 123 [.agg (eWay false a0)] (.lst (List.map eLie (needs a0)) false true) := impl_needs_walk a0 (needs a0) (impl_needs_vc a0 hp)

noncomputable def impl_twice_int_b : Code := bodyC Try.f129
def impl_twice_int_o4 : List Item := [⟨0, true, true, []⟩, ⟨1, true, true, []⟩, ⟨2, true, true, []⟩, ⟨3, true, true, []⟩, ⟨4, true, true, []⟩, ⟨5, true, true, []⟩, ⟨6, true, true, []⟩, ⟨7, true, true, []⟩]
def impl_twice_int_o4a : List (List Nat) := [[], [], [0, 1], [], [], [3, 4], [3, 4, 5], [0, 1, 2, 3, 4, 5, 6]]
def impl_twice_int_C1 (I0 : Int → Prop) (m0 : Int → Nat) (a0 : (List Int)) (res : Bool) : Prop :=
  a0.length ≤ 4611686018427387904 → I0 0 ∧ ∀ (v6 : Int), I0 v6 → (((decide (v6 < (a0.length : Int))) = false → false = res) ∧ ((decide (v6 < (a0.length : Int))) = true → (((0 ≤ v6 ∧ v6 ≤ (a0.length : Int)) ∧ (0 ≤ v6 ∧ v6.toNat < a0.length)) ∧ ((hasInt (a0.take v6.toNat) (nth a0 v6)) = true → true = res)) ∧ ((!(hasInt (a0.take v6.toNat) (nth a0 v6))) = true → I0 (IntKind.i64.wrap (v6 + 1)) ∧ m0 (IntKind.i64.wrap (v6 + 1)) < m0 v6)))
def impl_twice_int_C (a0 : (List Int)) (res : Bool) (I0 : Int → Prop) (m0 : Int → Nat) : Prop :=
  impl_twice_int_C1 I0 m0 a0 res
set_option maxHeartbeats 4000000 in
theorem impl_twice_int_walk (a0 : (List Int)) (res : Bool) (I0 : Int → Prop) (m0 : Int → Nat) (h : impl_twice_int_C a0 res I0 m0) : FnV Try.prog 129 [.lst (List.map eInt a0) false false] (.bool res) := by
  unfold impl_twice_int_C at h
  refine FnS.of_body (fn := Try.f129) (c := impl_twice_int_b) Try.func129 (by kernel_rfl) (by kernel_rfl) ?_
  refine WpS.codeIs (c' := (nv impl_twice_int_b 1)) (by kernel_rfl) ?_
  refine WpS.start (st' := ⟨(mkS 18 [(0, .lst (List.map eInt a0) false false)]), [], []⟩) (by kernel_rfl) ?_
  refine cSeqG ⟨(mkS 18 [(0, .lst (List.map eInt a0) false false)]), [], []⟩ (True) ?_ (fun q1 => ?_)
  · skip
    refine rgS [] 0 ?_
    refine sEnd [(2, .bool false)] ?_
    refine QJoin.normal trivial ?_
    exact wkJ (by kernel_rfl)
  unfold impl_twice_int_C1 at h
  refine cSeq ?_
  refine cSeqG ⟨(mkS 18 [(0, .lst (List.map eInt a0) false false), (5, .int .i64 (a0.length : Int)), (6, .int .i64 0)]), [], []⟩ (a0.length ≤ 4611686018427387904) ?_ (fun q2 => ?_)
  · skip
    refine rgS [] 1 ?_
    refine sLen 2 (some 5) [(4, .lst (List.map eInt a0) false false)] eInt a0 (fun q3 => ?_)
    refine sEnd [(6, .int .i64 0)] ?_
    refine QJoin.normal q3 ?_
    exact wkJ (by kernel_rfl)
  replace h := h q2
  refine cBlock 0 ?_
  obtain ⟨q18, h⟩ := h
  refine cLoop (fun (v : Int) => (⟨(mkS 18 [(0, .lst (List.map eInt a0) false false), (5, .int .i64 (a0.length : Int)), (6, .int .i64 v)]), [], []⟩ : St)) (fun (v : Int) => I0 v) (fun (v : Int) => m0 v) 0 (wkL []) q18 (fun v6 hI => ?_)
  skip
  replace h := h v6 hI
  show WpS _ _ _ ⟨(mkS 18 [(0, .lst (List.map eInt a0) false false), (5, .int .i64 (a0.length : Int)), (6, .int .i64 v6)]), [], []⟩
  refine cSeqG ⟨(mkS 18 [(0, .lst (List.map eInt a0) false false), (5, .int .i64 (a0.length : Int)), (6, .int .i64 v6), (7, .bool (decide (v6 < (a0.length : Int))))]), [], []⟩ (True) ?_ (fun q4 => ?_)
  · skip
    refine rgS [] 2 ?_
    refine sEnd [(7, .bool (decide (v6 < (a0.length : Int))))] ?_
    refine QJoin.normal trivial ?_
    exact wkJ (by kernel_rfl)
  obtain ⟨q17, h⟩ := h
  refine cSeqG ⟨(mkS 18 [(0, .lst (List.map eInt a0) false false), (5, .int .i64 (a0.length : Int)), (6, .int .i64 v6)]), [], []⟩ ((decide (v6 < (a0.length : Int))) = true) ?_ (fun q5 => ?_)
  · replace h := q17
    refine cCond (.tmp 7) (decide (v6 < (a0.length : Int))) (fun q6 => ?_) (fun q6 => ?_)
    · skip
      refine cSkip ?_
      refine QJoin.normal (by simp only [q6, Bool.true_or, Bool.false_or, Bool.true_and, Bool.false_and, Bool.not_true, Bool.not_false, Bool.and_true, Bool.and_false, Bool.or_true, Bool.or_false, cond_true, cond_false]) ?_
      exact wkJ (by kernel_rfl)
    · replace h := h q6
      refine cExit 0 ?_
      refine QJoin.exit ?_
      refine QRound.exit ?_
      refine QBlock.here ?_
      refine QSeq.normal ?_
      refine cSeqG ⟨(mkS 18 [(2, .bool false)]), [], []⟩ (True) ?_ (fun q7 => ?_)
      · skip
        refine rgS [] 7 ?_
        refine sEnd [(2, .bool false)] ?_
        refine QJoin.normal trivial ?_
        exact wkJ (by kernel_rfl)
      refine cRet ?_
      refine rtS (.bool false) [.bool false] ?_
      exact (SnapR3.of1 (sr_bool (H := []) (a := false) (b := res) h))
  replace h := h q5
  obtain ⟨q16, h⟩ := h
  refine cSeqG ⟨(mkS 18 [(0, .lst (List.map eInt a0) false false), (5, .int .i64 (a0.length : Int)), (6, .int .i64 v6)]), [], []⟩ ((!(hasInt (a0.take v6.toNat) (nth a0 v6))) = true) ?_ (fun q8 => ?_)
  · replace h := q16
    refine cBlock 1 ?_
    refine cSeqG ⟨(mkS 18 [(0, .lst (List.map eInt a0) false false), (3, .int .i64 v6), (5, .int .i64 (a0.length : Int)), (6, .int .i64 v6)]), [], []⟩ (True) ?_ (fun q9 => ?_)
    · skip
      refine rgS [] 3 ?_
      refine sEnd [(3, .int .i64 v6), (8, .int .i64 v6)] ?_
      refine QJoin.normal trivial ?_
      exact wkJ (by kernel_rfl)
    obtain ⟨q15, h⟩ := h
    refine cSeqG ⟨(mkS 18 [(0, .lst (List.map eInt a0) false false), (5, .int .i64 (a0.length : Int)), (6, .int .i64 v6), (16, .bool (hasInt (a0.take v6.toNat) (nth a0 v6)))]), [], []⟩ (True) ?_ (fun q10 => ?_)
    · replace h := q15
      refine rgD [] 4 impl_twice_int_o4 impl_twice_int_o4a ?_
      obtain ⟨q12, h⟩ := h
      refine tSlcTo 3 (some 11) [(10, .int .i64 v6), (9, .lst (List.map eInt a0) false false)] eInt a0 1 false q12 ?_
      have q11 := h
      refine tIdx 3 (some 14) [(13, .int .i64 v6), (12, .lst (List.map eInt a0) false false)] eInt a0 1 q11 ?_
      refine tCallV 2 (some 16) [(15, .int .i64 (nth a0 v6))] [.lst (List.map eInt (a0.take v6.toNat)) false false, .int .i64 (nth a0 v6)] (slices_Contains_int_V (a0.take v6.toNat) (nth a0 v6)) (PW.cons (Snap2.of1 sa_lst) (PW.cons (Snap2.of1 (.int _ _)) PW.nil)) ?_
      refine tEnd [] ?_
      refine QJoin.normal trivial ?_
      exact wkJ (by kernel_rfl)
    refine cCond (.tmp 16) (hasInt (a0.take v6.toNat) (nth a0 v6)) (fun q13 => ?_) (fun q13 => ?_)
    · replace h := h q13
      refine cSeqG ⟨(mkS 18 [(2, .bool true)]), [], []⟩ (True) ?_ (fun q14 => ?_)
      · skip
        refine rgS [] 5 ?_
        refine sEnd [(2, .bool true)] ?_
        refine QJoin.normal trivial ?_
        exact wkJ (by kernel_rfl)
      refine cRet ?_
      refine QBlock.ret ?_
      refine QJoin.ret ?_
      refine QRound.ret ?_
      refine QBlock.ret ?_
      refine QSeq.ret ?_
      refine rtS (.bool true) [.bool true] ?_
      exact (SnapR3.of1 (sr_bool (H := []) (a := true) (b := res) h))
    · skip
      refine cSkip ?_
      refine QBlock.normal ?_
      refine QJoin.normal (by simp only [q5, q13, Bool.true_or, Bool.false_or, Bool.true_and, Bool.false_and, Bool.not_true, Bool.not_false, Bool.and_true, Bool.and_false, Bool.or_true, Bool.or_false, cond_true, cond_false]) ?_
      exact wkJ (by kernel_rfl)
  replace h := h q8
  refine rgS [] 6 ?_
  refine sEnd [(6, .int .i64 (IntKind.i64.wrap (v6 + 1))), (17, .int .i64 (IntKind.i64.wrap (v6 + 1)))] ?_
  exact QRound.again (IntKind.i64.wrap (v6 + 1)) h (wkL [])

set_option maxHeartbeats 4000000 in
theorem impl_twice_int_vc (a0 : (List Int)) : impl_twice_int_C a0 (dup a0) (upI a0.length (fun j => hasInt (a0.take j.toNat) (nth a0 j))) (upM a0.length) := by
  unfold impl_twice_int_C impl_twice_int_C1
  intro hn
  refine ⟨up_start (len0 _), fun v hI => ⟨fun hv => ?_, fun hv => ⟨⟨⟨⟨hI.1, hI.2.1⟩, up_in hI hv⟩, fun hp => ?_⟩, fun hp => up_step (lenI hn) hI hv (not_eq hp)⟩⟩⟩
  · exact (dup_false (up_end hI hv)).symm
  · exact (dup_true (up_in hI hv).1 (up_in hI hv).2 hp).symm

theorem impl_twice_int_V (a0 : (List Int)) : FnV Try.prog 129 [.lst (List.map eInt a0) false false] (.bool (dup a0)) := impl_twice_int_walk a0 (dup a0) (upI a0.length (fun j => hasInt (a0.take j.toNat) (nth a0 j))) (upM a0.length) (impl_twice_int_vc a0)

noncomputable def laws_eqFault_b : Code := bodyC Try.f27
def laws_eqFault_C (a0 : Fault) (a1 : Fault) (res : Bool) : Prop :=
  ((a0.code != a1.code) = true → false = res) ∧ ((!(a0.code != a1.code)) = true → ((a0.pos != a1.pos) = true → false = res) ∧ ((!(a0.pos != a1.pos)) = true → true = res))
set_option maxHeartbeats 4000000 in
theorem laws_eqFault_walk (a0 : Fault) (a1 : Fault) (res : Bool) (h : laws_eqFault_C a0 a1 res) : FnV Try.prog 27 [.agg (eFault a0), .agg (eFault a1)] (.bool res) := by
  unfold laws_eqFault_C at h
  refine FnS.of_body (fn := Try.f27) (c := laws_eqFault_b) Try.func27 (by kernel_rfl) (by kernel_rfl) ?_
  refine WpS.codeIs (c' := (nv laws_eqFault_b 1)) (by kernel_rfl) ?_
  refine WpS.start (st' := ⟨(mkS 15 [(0, .agg (eFault a0)), (1, .agg (eFault a1))]), [], []⟩) (by kernel_rfl) ?_
  refine cSeqG ⟨(mkS 15 [(2, .lptr 2 0), (3, .lptr 3 0)]), [(3, (eFault a1)), (2, (eFault a0))], []⟩ (True) ?_ (fun q1 => ?_)
  · skip
    refine rgS [] 0 ?_
    refine sEnd' [(4, .bool false), (3, .lptr 3 0), (2, .lptr 2 0)] [(3, (eFault a1)), (2, (eFault a0))] [] ?_
    refine QJoin.normal trivial ?_
    exact wkJ (by kernel_rfl)
  obtain ⟨q12, h⟩ := h
  refine cSeqG ⟨(mkS 15 [(2, .lptr 2 0), (3, .lptr 3 0)]), [(3, (eFault a1)), (2, (eFault a0))], []⟩ ((!(a0.code != a1.code)) = true) ?_ (fun q2 => ?_)
  · replace h := q12
    refine cSeqG ⟨(mkS 15 [(2, .lptr 2 0), (3, .lptr 3 0), (9, .bool (a0.code != a1.code))]), [(3, (eFault a1)), (2, (eFault a0))], []⟩ (True) ?_ (fun q3 => ?_)
    · skip
      refine rgS [] 1 ?_
      refine sEnd [(9, .bool (a0.code != a1.code)), (8, .int .i64 a1.code), (7, .lptr 3 0), (6, .int .i64 a0.code), (5, .lptr 2 0)] ?_
      refine QJoin.normal trivial ?_
      exact wkJ (by kernel_rfl)
    refine cCond (.tmp 9) (a0.code != a1.code) (fun q4 => ?_) (fun q4 => ?_)
    · replace h := h q4
      refine cSeqG ⟨(mkS 15 [(4, .bool false)]), [(3, (eFault a1)), (2, (eFault a0))], []⟩ (True) ?_ (fun q5 => ?_)
      · skip
        refine rgS [] 2 ?_
        refine sEnd [(4, .bool false)] ?_
        refine QJoin.normal trivial ?_
        exact wkJ (by kernel_rfl)
      refine cRet ?_
      refine QJoin.ret ?_
      refine rtS (.bool false) [.bool false] ?_
      exact (SnapR3.of1 (sr_bool (H := []) (a := false) (b := res) h))
    · skip
      refine cSkip ?_
      refine QJoin.normal (by simp only [q4, Bool.true_or, Bool.false_or, Bool.true_and, Bool.false_and, Bool.not_true, Bool.not_false, Bool.and_true, Bool.and_false, Bool.or_true, Bool.or_false, cond_true, cond_false]) ?_
      exact wkJ (by kernel_rfl)
  replace h := h q2
  obtain ⟨q11, h⟩ := h
  refine cSeqG ⟨(mkS 15 []), [(3, (eFault a1)), (2, (eFault a0))], []⟩ ((!(a0.pos != a1.pos)) = true) ?_ (fun q6 => ?_)
  · replace h := q11
    refine cSeqG ⟨(mkS 15 [(14, .bool (a0.pos != a1.pos))]), [(3, (eFault a1)), (2, (eFault a0))], []⟩ (True) ?_ (fun q7 => ?_)
    · skip
      refine rgS [] 3 ?_
      refine sEnd [(14, .bool (a0.pos != a1.pos)), (13, .int .i64 a1.pos), (12, .lptr 3 1), (11, .int .i64 a0.pos), (10, .lptr 2 1)] ?_
      refine QJoin.normal trivial ?_
      exact wkJ (by kernel_rfl)
    refine cCond (.tmp 14) (a0.pos != a1.pos) (fun q8 => ?_) (fun q8 => ?_)
    · replace h := h q8
      refine cSeqG ⟨(mkS 15 [(4, .bool false)]), [(3, (eFault a1)), (2, (eFault a0))], []⟩ (True) ?_ (fun q9 => ?_)
      · skip
        refine rgS [] 4 ?_
        refine sEnd [(4, .bool false)] ?_
        refine QJoin.normal trivial ?_
        exact wkJ (by kernel_rfl)
      refine cRet ?_
      refine QJoin.ret ?_
      refine rtS (.bool false) [.bool false] ?_
      exact (SnapR3.of1 (sr_bool (H := []) (a := false) (b := res) h))
    · skip
      refine cSkip ?_
      refine QJoin.normal (by simp only [q2, q8, Bool.true_or, Bool.false_or, Bool.true_and, Bool.false_and, Bool.not_true, Bool.not_false, Bool.and_true, Bool.and_false, Bool.or_true, Bool.or_false, cond_true, cond_false]) ?_
      exact wkJ (by kernel_rfl)
  replace h := h q6
  refine cSeqG ⟨(mkS 15 [(4, .bool true)]), [(3, (eFault a1)), (2, (eFault a0))], []⟩ (True) ?_ (fun q10 => ?_)
  · skip
    refine rgS [] 5 ?_
    refine sEnd [(4, .bool true)] ?_
    refine QJoin.normal trivial ?_
    exact wkJ (by kernel_rfl)
  refine cRet ?_
  refine rtS (.bool true) [.bool true] ?_
  exact (SnapR3.of1 (sr_bool (H := []) (a := true) (b := res) h))

set_option maxHeartbeats 4000000 in
theorem laws_eqFault_vc (a0 : Fault) (a1 : Fault) : laws_eqFault_C a0 a1 (eqv a0 a1) := by
  unfold laws_eqFault_C
  obtain ⟨c, p⟩ := a0
  obtain ⟨c', p'⟩ := a1
  simp [eqv]
  intros
  simp_all

theorem laws_eqFault_V (a0 : Fault) (a1 : Fault) : FnV Try.prog 27 [.agg (eFault a0), .agg (eFault a1)] (.bool (eqv a0 a1)) := laws_eqFault_walk a0 a1 (eqv a0 a1) (laws_eqFault_vc a0 a1)

noncomputable def laws_eqIntS_b : Code := bodyC Try.f55
def laws_eqIntS_o6 : List Item := [⟨0, true, true, []⟩, ⟨1, true, true, []⟩, ⟨2, true, true, []⟩, ⟨3, true, true, []⟩, ⟨4, true, true, []⟩, ⟨5, true, true, []⟩, ⟨6, true, true, []⟩, ⟨7, true, true, []⟩, ⟨8, true, true, []⟩]
def laws_eqIntS_o6a : List (List Nat) := [[], [], [0, 1], [0, 1, 2], [], [], [4, 5], [4, 5, 6], [0, 1, 2, 3, 4, 5, 6, 7]]
def laws_eqIntS_C1 (I0 : Int → Prop) (m0 : Int → Nat) (a0 : (List Int)) (a1 : (List Int)) (res : Bool) : Prop :=
  ((a0.length ≤ 4611686018427387904) ∧ (a1.length ≤ 4611686018427387904) → ((a0.length : Int) != (a1.length : Int)) = true → false = res) ∧ ((a0.length ≤ 4611686018427387904) ∧ (a1.length ≤ 4611686018427387904) ∧ ((!((a0.length : Int) != (a1.length : Int))) = true) → I0 0 ∧ ∀ (v5 : Int), I0 v5 → (((decide (v5 < (a0.length : Int))) = false → true = res) ∧ ((decide (v5 < (a0.length : Int))) = true → (((0 ≤ v5 ∧ v5.toNat < a0.length) ∧ (0 ≤ v5 ∧ v5.toNat < a1.length)) ∧ (((nth a0 v5) != (nth a1 v5)) = true → false = res)) ∧ ((!((nth a0 v5) != (nth a1 v5))) = true → I0 (IntKind.i64.wrap (v5 + 1)) ∧ m0 (IntKind.i64.wrap (v5 + 1)) < m0 v5))))
def laws_eqIntS_C (a0 : (List Int)) (a1 : (List Int)) (res : Bool) (I0 : Int → Prop) (m0 : Int → Nat) : Prop :=
  laws_eqIntS_C1 I0 m0 a0 a1 res
set_option maxHeartbeats 4000000 in
theorem laws_eqIntS_walk (a0 : (List Int)) (a1 : (List Int)) (res : Bool) (I0 : Int → Prop) (m0 : Int → Nat) (h : laws_eqIntS_C a0 a1 res I0 m0) : FnV Try.prog 55 [.lst (List.map eInt a0) false false, .lst (List.map eInt a1) false false] (.bool res) := by
  unfold laws_eqIntS_C at h
  refine FnS.of_body (fn := Try.f55) (c := laws_eqIntS_b) Try.func55 (by kernel_rfl) (by kernel_rfl) ?_
  refine WpS.codeIs (c' := (nv laws_eqIntS_b 1)) (by kernel_rfl) ?_
  refine WpS.start (st' := ⟨(mkS 26 [(0, .lst (List.map eInt a0) false false), (1, .lst (List.map eInt a1) false false)]), [], []⟩) (by kernel_rfl) ?_
  refine cSeqG ⟨(mkS 26 [(0, .lst (List.map eInt a0) false false), (1, .lst (List.map eInt a1) false false)]), [], []⟩ (True) ?_ (fun q1 => ?_)
  · skip
    refine rgS [] 0 ?_
    refine sEnd [(4, .bool false)] ?_
    refine QJoin.normal trivial ?_
    exact wkJ (by kernel_rfl)
  unfold laws_eqIntS_C1 at h
  obtain ⟨q24, h⟩ := h
  refine cSeqG ⟨(mkS 26 [(0, .lst (List.map eInt a0) false false), (1, .lst (List.map eInt a1) false false)]), [], []⟩ ((a0.length ≤ 4611686018427387904) ∧ (a1.length ≤ 4611686018427387904) ∧ ((!((a0.length : Int) != (a1.length : Int))) = true)) ?_ (fun q2 => ?_)
  · replace h := q24
    refine cSeqG ⟨(mkS 26 [(0, .lst (List.map eInt a0) false false), (1, .lst (List.map eInt a1) false false), (10, .bool ((a0.length : Int) != (a1.length : Int)))]), [], []⟩ ((a0.length ≤ 4611686018427387904) ∧ (a1.length ≤ 4611686018427387904)) ?_ (fun q3 => ?_)
    · skip
      refine rgS [] 1 ?_
      refine sLen 2 (some 7) [(6, .lst (List.map eInt a0) false false)] eInt a0 (fun q4 => ?_)
      refine sLen 2 (some 9) [(8, .lst (List.map eInt a1) false false)] eInt a1 (fun q5 => ?_)
      refine sEnd [(10, .bool ((a0.length : Int) != (a1.length : Int)))] ?_
      refine QJoin.normal ⟨q4, q5⟩ ?_
      exact wkJ (by kernel_rfl)
    replace h := h q3
    refine cCond (.tmp 10) ((a0.length : Int) != (a1.length : Int)) (fun q6 => ?_) (fun q6 => ?_)
    · replace h := h q6
      refine cSeqG ⟨(mkS 26 [(4, .bool false)]), [], []⟩ (True) ?_ (fun q7 => ?_)
      · skip
        refine rgS [] 2 ?_
        refine sEnd [(4, .bool false)] ?_
        refine QJoin.normal trivial ?_
        exact wkJ (by kernel_rfl)
      refine cRet ?_
      refine QJoin.ret ?_
      refine rtS (.bool false) [.bool false] ?_
      exact (SnapR3.of1 (sr_bool (H := []) (a := false) (b := res) h))
    · skip
      refine cSkip ?_
      refine QJoin.normal ⟨q3.1, q3.2, (by simp only [q6, Bool.true_or, Bool.false_or, Bool.true_and, Bool.false_and, Bool.not_true, Bool.not_false, Bool.and_true, Bool.and_false, Bool.or_true, Bool.or_false, cond_true, cond_false])⟩ ?_
      exact wkJ (by kernel_rfl)
  replace h := h q2
  refine cSeq ?_
  refine cSeqG ⟨(mkS 26 [(0, .lst (List.map eInt a0) false false), (1, .lst (List.map eInt a1) false false), (5, .int .i64 0)]), [], []⟩ (True) ?_ (fun q8 => ?_)
  · skip
    refine rgS [] 3 ?_
    refine sEnd [(5, .int .i64 0)] ?_
    refine QJoin.normal trivial ?_
    exact wkJ (by kernel_rfl)
  refine cBlock 0 ?_
  obtain ⟨q23, h⟩ := h
  refine cLoop (fun (v : Int) => (⟨(mkS 26 [(0, .lst (List.map eInt a0) false false), (1, .lst (List.map eInt a1) false false), (5, .int .i64 v)]), [], []⟩ : St)) (fun (v : Int) => I0 v) (fun (v : Int) => m0 v) 0 (wkL []) q23 (fun v5 hI => ?_)
  skip
  replace h := h v5 hI
  show WpS _ _ _ ⟨(mkS 26 [(0, .lst (List.map eInt a0) false false), (1, .lst (List.map eInt a1) false false), (5, .int .i64 v5)]), [], []⟩
  obtain ⟨q22, h⟩ := h
  refine cSeqG ⟨(mkS 26 [(0, .lst (List.map eInt a0) false false), (1, .lst (List.map eInt a1) false false), (5, .int .i64 v5)]), [], []⟩ ((decide (v5 < (a0.length : Int))) = true) ?_ (fun q9 => ?_)
  · replace h := q22
    refine cSeqG ⟨(mkS 26 [(0, .lst (List.map eInt a0) false false), (1, .lst (List.map eInt a1) false false), (5, .int .i64 v5), (14, .bool (decide (v5 < (a0.length : Int))))]), [], []⟩ (True) ?_ (fun q10 => ?_)
    · skip
      refine rgS [] 4 ?_
      refine sLen 3 (some 13) [(12, .lst (List.map eInt a0) false false), (11, .int .i64 v5)] eInt a0 (fun q11 => ?_)
      refine sEnd [(14, .bool (decide (v5 < (a0.length : Int))))] ?_
      refine QJoin.normal trivial ?_
      exact wkJ (by kernel_rfl)
    refine cCond (.tmp 14) (decide (v5 < (a0.length : Int))) (fun q12 => ?_) (fun q12 => ?_)
    · skip
      refine cSkip ?_
      refine QJoin.normal (by simp only [q2.2.2, q12, Bool.true_or, Bool.false_or, Bool.true_and, Bool.false_and, Bool.not_true, Bool.not_false, Bool.and_true, Bool.and_false, Bool.or_true, Bool.or_false, cond_true, cond_false]) ?_
      exact wkJ (by kernel_rfl)
    · replace h := h q12
      refine cExit 0 ?_
      refine QJoin.exit ?_
      refine QRound.exit ?_
      refine QBlock.here ?_
      refine QSeq.normal ?_
      refine cSeqG ⟨(mkS 26 [(4, .bool true)]), [], []⟩ (True) ?_ (fun q13 => ?_)
      · skip
        refine rgS [] 8 ?_
        refine sEnd [(4, .bool true)] ?_
        refine QJoin.normal trivial ?_
        exact wkJ (by kernel_rfl)
      refine cRet ?_
      refine rtS (.bool true) [.bool true] ?_
      exact (SnapR3.of1 (sr_bool (H := []) (a := true) (b := res) h))
  replace h := h q9
  obtain ⟨q21, h⟩ := h
  refine cSeqG ⟨(mkS 26 [(0, .lst (List.map eInt a0) false false), (1, .lst (List.map eInt a1) false false), (5, .int .i64 v5)]), [], []⟩ ((!((nth a0 v5) != (nth a1 v5))) = true) ?_ (fun q14 => ?_)
  · replace h := q21
    refine cBlock 1 ?_
    obtain ⟨q20, h⟩ := h
    refine cSeqG ⟨(mkS 26 [(0, .lst (List.map eInt a0) false false), (1, .lst (List.map eInt a1) false false), (5, .int .i64 v5), (25, .bool ((nth a0 v5) != (nth a1 v5)))]), [], []⟩ (True) ?_ (fun q15 => ?_)
    · replace h := q20
      refine rgD [] 6 laws_eqIntS_o6 laws_eqIntS_o6a ?_
      obtain ⟨q17, h⟩ := h
      refine tIdx 3 (some 19) [(18, .int .i64 v5), (17, .lst (List.map eInt a0) false false)] eInt a0 1 q17 ?_
      have q16 := h
      refine tIdx 4 (some 23) [(22, .int .i64 v5), (21, .lst (List.map eInt a1) false false), (20, .int .i64 (nth a0 v5))] eInt a1 1 q16 ?_
      refine tEnd [(25, .bool ((nth a0 v5) != (nth a1 v5))), (24, .int .i64 (nth a1 v5))] ?_
      refine QJoin.normal trivial ?_
      exact wkJ (by kernel_rfl)
    refine cCond (.tmp 25) ((nth a0 v5) != (nth a1 v5)) (fun q18 => ?_) (fun q18 => ?_)
    · replace h := h q18
      refine cSeqG ⟨(mkS 26 [(4, .bool false)]), [], []⟩ (True) ?_ (fun q19 => ?_)
      · skip
        refine rgS [] 7 ?_
        refine sEnd [(4, .bool false)] ?_
        refine QJoin.normal trivial ?_
        exact wkJ (by kernel_rfl)
      refine cRet ?_
      refine QBlock.ret ?_
      refine QJoin.ret ?_
      refine QRound.ret ?_
      refine QBlock.ret ?_
      refine QSeq.ret ?_
      refine rtS (.bool false) [.bool false] ?_
      exact (SnapR3.of1 (sr_bool (H := []) (a := false) (b := res) h))
    · skip
      refine cSkip ?_
      refine QBlock.normal ?_
      refine QJoin.normal (by simp only [q2.2.2, q9, q18, Bool.true_or, Bool.false_or, Bool.true_and, Bool.false_and, Bool.not_true, Bool.not_false, Bool.and_true, Bool.and_false, Bool.or_true, Bool.or_false, cond_true, cond_false]) ?_
      exact wkJ (by kernel_rfl)
  replace h := h q14
  refine rgS [] 5 ?_
  refine sEnd [(5, .int .i64 (IntKind.i64.wrap (v5 + 1))), (16, .int .i64 (IntKind.i64.wrap (v5 + 1))), (15, .int .i64 v5)] ?_
  exact QRound.again (IntKind.i64.wrap (v5 + 1)) h (wkL [])

set_option maxHeartbeats 4000000 in
theorem laws_eqIntS_vc (a0 : (List Int)) (a1 : (List Int)) : laws_eqIntS_C a0 a1 (eqv a0 a1) (upI a0.length (fun v => nth a0 v != nth a1 v)) (upM a0.length) := by
  unfold laws_eqIntS_C laws_eqIntS_C1
  exact eq_loop (ne := fun v => nth a0 v != nth a1 v) (fun v => by simp [eqv])

theorem laws_eqIntS_V (a0 : (List Int)) (a1 : (List Int)) : FnV Try.prog 55 [.lst (List.map eInt a0) false false, .lst (List.map eInt a1) false false] (.bool (eqv a0 a1)) := laws_eqIntS_walk a0 a1 (eqv a0 a1) (upI a0.length (fun v => nth a0 v != nth a1 v)) (upM a0.length) (laws_eqIntS_vc a0 a1)

noncomputable def laws_eqLie_b : Code := bodyC Try.f169
def laws_eqLie_C (a0 : Lie) (a1 : Lie) (res : Bool) : Prop :=
  ((a0.sw != a1.sw) = true → false = res) ∧ ((!(a0.sw != a1.sw)) = true → ((a0.lie != a1.lie) = true → false = res) ∧ ((!(a0.lie != a1.lie)) = true → true = res))
set_option maxHeartbeats 4000000 in
theorem laws_eqLie_walk (a0 : Lie) (a1 : Lie) (res : Bool) (h : laws_eqLie_C a0 a1 res) : FnV Try.prog 169 [.agg (eLie a0), .agg (eLie a1)] (.bool res) := by
  unfold laws_eqLie_C at h
  refine FnS.of_body (fn := Try.f169) (c := laws_eqLie_b) Try.func169 (by kernel_rfl) (by kernel_rfl) ?_
  refine WpS.codeIs (c' := (nv laws_eqLie_b 1)) (by kernel_rfl) ?_
  refine WpS.start (st' := ⟨(mkS 15 [(0, .agg (eLie a0)), (1, .agg (eLie a1))]), [], []⟩) (by kernel_rfl) ?_
  refine cSeqG ⟨(mkS 15 [(2, .lptr 2 0), (3, .lptr 3 0)]), [(3, (eLie a1)), (2, (eLie a0))], []⟩ (True) ?_ (fun q1 => ?_)
  · skip
    refine rgS [] 0 ?_
    refine sEnd' [(4, .bool false), (3, .lptr 3 0), (2, .lptr 2 0)] [(3, (eLie a1)), (2, (eLie a0))] [] ?_
    refine QJoin.normal trivial ?_
    exact wkJ (by kernel_rfl)
  obtain ⟨q12, h⟩ := h
  refine cSeqG ⟨(mkS 15 [(2, .lptr 2 0), (3, .lptr 3 0)]), [(3, (eLie a1)), (2, (eLie a0))], []⟩ ((!(a0.sw != a1.sw)) = true) ?_ (fun q2 => ?_)
  · replace h := q12
    refine cSeqG ⟨(mkS 15 [(2, .lptr 2 0), (3, .lptr 3 0), (9, .bool (a0.sw != a1.sw))]), [(3, (eLie a1)), (2, (eLie a0))], []⟩ (True) ?_ (fun q3 => ?_)
    · skip
      refine rgS [] 1 ?_
      refine sEnd [(9, .bool (a0.sw != a1.sw)), (8, .int .i64 a1.sw), (7, .lptr 3 0), (6, .int .i64 a0.sw), (5, .lptr 2 0)] ?_
      refine QJoin.normal trivial ?_
      exact wkJ (by kernel_rfl)
    refine cCond (.tmp 9) (a0.sw != a1.sw) (fun q4 => ?_) (fun q4 => ?_)
    · replace h := h q4
      refine cSeqG ⟨(mkS 15 [(4, .bool false)]), [(3, (eLie a1)), (2, (eLie a0))], []⟩ (True) ?_ (fun q5 => ?_)
      · skip
        refine rgS [] 2 ?_
        refine sEnd [(4, .bool false)] ?_
        refine QJoin.normal trivial ?_
        exact wkJ (by kernel_rfl)
      refine cRet ?_
      refine QJoin.ret ?_
      refine rtS (.bool false) [.bool false] ?_
      exact (SnapR3.of1 (sr_bool (H := []) (a := false) (b := res) h))
    · skip
      refine cSkip ?_
      refine QJoin.normal (by simp only [q4, Bool.true_or, Bool.false_or, Bool.true_and, Bool.false_and, Bool.not_true, Bool.not_false, Bool.and_true, Bool.and_false, Bool.or_true, Bool.or_false, cond_true, cond_false]) ?_
      exact wkJ (by kernel_rfl)
  replace h := h q2
  obtain ⟨q11, h⟩ := h
  refine cSeqG ⟨(mkS 15 []), [(3, (eLie a1)), (2, (eLie a0))], []⟩ ((!(a0.lie != a1.lie)) = true) ?_ (fun q6 => ?_)
  · replace h := q11
    refine cSeqG ⟨(mkS 15 [(14, .bool (a0.lie != a1.lie))]), [(3, (eLie a1)), (2, (eLie a0))], []⟩ (True) ?_ (fun q7 => ?_)
    · skip
      refine rgS [] 3 ?_
      refine sEnd [(14, .bool (a0.lie != a1.lie)), (13, .int .i64 a1.lie), (12, .lptr 3 1), (11, .int .i64 a0.lie), (10, .lptr 2 1)] ?_
      refine QJoin.normal trivial ?_
      exact wkJ (by kernel_rfl)
    refine cCond (.tmp 14) (a0.lie != a1.lie) (fun q8 => ?_) (fun q8 => ?_)
    · replace h := h q8
      refine cSeqG ⟨(mkS 15 [(4, .bool false)]), [(3, (eLie a1)), (2, (eLie a0))], []⟩ (True) ?_ (fun q9 => ?_)
      · skip
        refine rgS [] 4 ?_
        refine sEnd [(4, .bool false)] ?_
        refine QJoin.normal trivial ?_
        exact wkJ (by kernel_rfl)
      refine cRet ?_
      refine QJoin.ret ?_
      refine rtS (.bool false) [.bool false] ?_
      exact (SnapR3.of1 (sr_bool (H := []) (a := false) (b := res) h))
    · skip
      refine cSkip ?_
      refine QJoin.normal (by simp only [q2, q8, Bool.true_or, Bool.false_or, Bool.true_and, Bool.false_and, Bool.not_true, Bool.not_false, Bool.and_true, Bool.and_false, Bool.or_true, Bool.or_false, cond_true, cond_false]) ?_
      exact wkJ (by kernel_rfl)
  replace h := h q6
  refine cSeqG ⟨(mkS 15 [(4, .bool true)]), [(3, (eLie a1)), (2, (eLie a0))], []⟩ (True) ?_ (fun q10 => ?_)
  · skip
    refine rgS [] 5 ?_
    refine sEnd [(4, .bool true)] ?_
    refine QJoin.normal trivial ?_
    exact wkJ (by kernel_rfl)
  refine cRet ?_
  refine rtS (.bool true) [.bool true] ?_
  exact (SnapR3.of1 (sr_bool (H := []) (a := true) (b := res) h))

set_option maxHeartbeats 4000000 in
theorem laws_eqLie_vc (a0 : Lie) (a1 : Lie) : laws_eqLie_C a0 a1 (eqv a0 a1) := by
  unfold laws_eqLie_C
  obtain ⟨c, p⟩ := a0
  obtain ⟨c', p'⟩ := a1
  simp [eqv]
  intros
  simp_all

theorem laws_eqLie_V (a0 : Lie) (a1 : Lie) : FnV Try.prog 169 [.agg (eLie a0), .agg (eLie a1)] (.bool (eqv a0 a1)) := laws_eqLie_walk a0 a1 (eqv a0 a1) (laws_eqLie_vc a0 a1)

noncomputable def laws_eqLieS_b : Code := bodyC Try.f162
def laws_eqLieS_o6 : List Item := [⟨0, true, true, []⟩, ⟨1, true, true, []⟩, ⟨2, true, true, []⟩, ⟨3, true, true, []⟩, ⟨4, true, true, []⟩, ⟨5, true, true, []⟩, ⟨6, true, true, []⟩, ⟨7, true, true, []⟩, ⟨8, true, true, []⟩, ⟨9, true, true, []⟩]
def laws_eqLieS_o6a : List (List Nat) := [[], [], [0, 1], [0, 1, 2], [], [], [4, 5], [4, 5, 6], [0, 1, 2, 3, 4, 5, 6, 7], [0, 1, 2, 3, 4, 5, 6, 7, 8]]
def laws_eqLieS_C1 (I0 : Int → Prop) (m0 : Int → Nat) (a0 : (List Lie)) (a1 : (List Lie)) (res : Bool) : Prop :=
  ((a0.length ≤ 4611686018427387904) ∧ (a1.length ≤ 4611686018427387904) → ((a0.length : Int) != (a1.length : Int)) = true → false = res) ∧ ((a0.length ≤ 4611686018427387904) ∧ (a1.length ≤ 4611686018427387904) ∧ ((!((a0.length : Int) != (a1.length : Int))) = true) → I0 0 ∧ ∀ (v5 : Int), I0 v5 → (((decide (v5 < (a0.length : Int))) = false → true = res) ∧ ((decide (v5 < (a0.length : Int))) = true → (((0 ≤ v5 ∧ v5.toNat < a0.length) ∧ (0 ≤ v5 ∧ v5.toNat < a1.length)) ∧ ((!(eqv (nth a0 v5) (nth a1 v5))) = true → false = res)) ∧ ((!(!(eqv (nth a0 v5) (nth a1 v5)))) = true → I0 (IntKind.i64.wrap (v5 + 1)) ∧ m0 (IntKind.i64.wrap (v5 + 1)) < m0 v5))))
def laws_eqLieS_C (a0 : (List Lie)) (a1 : (List Lie)) (res : Bool) (I0 : Int → Prop) (m0 : Int → Nat) : Prop :=
  laws_eqLieS_C1 I0 m0 a0 a1 res
set_option maxHeartbeats 4000000 in
theorem laws_eqLieS_walk (a0 : (List Lie)) (a1 : (List Lie)) (res : Bool) (I0 : Int → Prop) (m0 : Int → Nat) (h : laws_eqLieS_C a0 a1 res I0 m0) : FnV Try.prog 162 [.lst (List.map eLie a0) false false, .lst (List.map eLie a1) false false] (.bool res) := by
  unfold laws_eqLieS_C at h
  refine FnS.of_body (fn := Try.f162) (c := laws_eqLieS_b) Try.func162 (by kernel_rfl) (by kernel_rfl) ?_
  refine WpS.codeIs (c' := (nv laws_eqLieS_b 1)) (by kernel_rfl) ?_
  refine WpS.start (st' := ⟨(mkS 27 [(0, .lst (List.map eLie a0) false false), (1, .lst (List.map eLie a1) false false)]), [], []⟩) (by kernel_rfl) ?_
  refine cSeqG ⟨(mkS 27 [(0, .lst (List.map eLie a0) false false), (1, .lst (List.map eLie a1) false false)]), [], []⟩ (True) ?_ (fun q1 => ?_)
  · skip
    refine rgS [] 0 ?_
    refine sEnd [(4, .bool false)] ?_
    refine QJoin.normal trivial ?_
    exact wkJ (by kernel_rfl)
  unfold laws_eqLieS_C1 at h
  obtain ⟨q24, h⟩ := h
  refine cSeqG ⟨(mkS 27 [(0, .lst (List.map eLie a0) false false), (1, .lst (List.map eLie a1) false false)]), [], []⟩ ((a0.length ≤ 4611686018427387904) ∧ (a1.length ≤ 4611686018427387904) ∧ ((!((a0.length : Int) != (a1.length : Int))) = true)) ?_ (fun q2 => ?_)
  · replace h := q24
    refine cSeqG ⟨(mkS 27 [(0, .lst (List.map eLie a0) false false), (1, .lst (List.map eLie a1) false false), (10, .bool ((a0.length : Int) != (a1.length : Int)))]), [], []⟩ ((a0.length ≤ 4611686018427387904) ∧ (a1.length ≤ 4611686018427387904)) ?_ (fun q3 => ?_)
    · skip
      refine rgS [] 1 ?_
      refine sLen 2 (some 7) [(6, .lst (List.map eLie a0) false false)] eLie a0 (fun q4 => ?_)
      refine sLen 2 (some 9) [(8, .lst (List.map eLie a1) false false)] eLie a1 (fun q5 => ?_)
      refine sEnd [(10, .bool ((a0.length : Int) != (a1.length : Int)))] ?_
      refine QJoin.normal ⟨q4, q5⟩ ?_
      exact wkJ (by kernel_rfl)
    replace h := h q3
    refine cCond (.tmp 10) ((a0.length : Int) != (a1.length : Int)) (fun q6 => ?_) (fun q6 => ?_)
    · replace h := h q6
      refine cSeqG ⟨(mkS 27 [(4, .bool false)]), [], []⟩ (True) ?_ (fun q7 => ?_)
      · skip
        refine rgS [] 2 ?_
        refine sEnd [(4, .bool false)] ?_
        refine QJoin.normal trivial ?_
        exact wkJ (by kernel_rfl)
      refine cRet ?_
      refine QJoin.ret ?_
      refine rtS (.bool false) [.bool false] ?_
      exact (SnapR3.of1 (sr_bool (H := []) (a := false) (b := res) h))
    · skip
      refine cSkip ?_
      refine QJoin.normal ⟨q3.1, q3.2, (by simp only [q6, Bool.true_or, Bool.false_or, Bool.true_and, Bool.false_and, Bool.not_true, Bool.not_false, Bool.and_true, Bool.and_false, Bool.or_true, Bool.or_false, cond_true, cond_false])⟩ ?_
      exact wkJ (by kernel_rfl)
  replace h := h q2
  refine cSeq ?_
  refine cSeqG ⟨(mkS 27 [(0, .lst (List.map eLie a0) false false), (1, .lst (List.map eLie a1) false false), (5, .int .i64 0)]), [], []⟩ (True) ?_ (fun q8 => ?_)
  · skip
    refine rgS [] 3 ?_
    refine sEnd [(5, .int .i64 0)] ?_
    refine QJoin.normal trivial ?_
    exact wkJ (by kernel_rfl)
  refine cBlock 0 ?_
  obtain ⟨q23, h⟩ := h
  refine cLoop (fun (v : Int) => (⟨(mkS 27 [(0, .lst (List.map eLie a0) false false), (1, .lst (List.map eLie a1) false false), (5, .int .i64 v)]), [], []⟩ : St)) (fun (v : Int) => I0 v) (fun (v : Int) => m0 v) 0 (wkL []) q23 (fun v5 hI => ?_)
  skip
  replace h := h v5 hI
  show WpS _ _ _ ⟨(mkS 27 [(0, .lst (List.map eLie a0) false false), (1, .lst (List.map eLie a1) false false), (5, .int .i64 v5)]), [], []⟩
  obtain ⟨q22, h⟩ := h
  refine cSeqG ⟨(mkS 27 [(0, .lst (List.map eLie a0) false false), (1, .lst (List.map eLie a1) false false), (5, .int .i64 v5)]), [], []⟩ ((decide (v5 < (a0.length : Int))) = true) ?_ (fun q9 => ?_)
  · replace h := q22
    refine cSeqG ⟨(mkS 27 [(0, .lst (List.map eLie a0) false false), (1, .lst (List.map eLie a1) false false), (5, .int .i64 v5), (14, .bool (decide (v5 < (a0.length : Int))))]), [], []⟩ (True) ?_ (fun q10 => ?_)
    · skip
      refine rgS [] 4 ?_
      refine sLen 3 (some 13) [(12, .lst (List.map eLie a0) false false), (11, .int .i64 v5)] eLie a0 (fun q11 => ?_)
      refine sEnd [(14, .bool (decide (v5 < (a0.length : Int))))] ?_
      refine QJoin.normal trivial ?_
      exact wkJ (by kernel_rfl)
    refine cCond (.tmp 14) (decide (v5 < (a0.length : Int))) (fun q12 => ?_) (fun q12 => ?_)
    · skip
      refine cSkip ?_
      refine QJoin.normal (by simp only [q2.2.2, q12, Bool.true_or, Bool.false_or, Bool.true_and, Bool.false_and, Bool.not_true, Bool.not_false, Bool.and_true, Bool.and_false, Bool.or_true, Bool.or_false, cond_true, cond_false]) ?_
      exact wkJ (by kernel_rfl)
    · replace h := h q12
      refine cExit 0 ?_
      refine QJoin.exit ?_
      refine QRound.exit ?_
      refine QBlock.here ?_
      refine QSeq.normal ?_
      refine cSeqG ⟨(mkS 27 [(4, .bool true)]), [], []⟩ (True) ?_ (fun q13 => ?_)
      · skip
        refine rgS [] 8 ?_
        refine sEnd [(4, .bool true)] ?_
        refine QJoin.normal trivial ?_
        exact wkJ (by kernel_rfl)
      refine cRet ?_
      refine rtS (.bool true) [.bool true] ?_
      exact (SnapR3.of1 (sr_bool (H := []) (a := true) (b := res) h))
  replace h := h q9
  obtain ⟨q21, h⟩ := h
  refine cSeqG ⟨(mkS 27 [(0, .lst (List.map eLie a0) false false), (1, .lst (List.map eLie a1) false false), (5, .int .i64 v5)]), [], []⟩ ((!(!(eqv (nth a0 v5) (nth a1 v5)))) = true) ?_ (fun q14 => ?_)
  · replace h := q21
    refine cBlock 1 ?_
    obtain ⟨q20, h⟩ := h
    refine cSeqG ⟨(mkS 27 [(0, .lst (List.map eLie a0) false false), (1, .lst (List.map eLie a1) false false), (5, .int .i64 v5), (26, .bool (!(eqv (nth a0 v5) (nth a1 v5))))]), [], []⟩ (True) ?_ (fun q15 => ?_)
    · replace h := q20
      refine rgD [] 6 laws_eqLieS_o6 laws_eqLieS_o6a ?_
      obtain ⟨q17, h⟩ := h
      refine tIdx 3 (some 19) [(18, .int .i64 v5), (17, .lst (List.map eLie a0) false false)] eLie a0 2 q17 ?_
      have q16 := h
      refine tIdx 4 (some 23) [(22, .int .i64 v5), (21, .lst (List.map eLie a1) false false), (20, .agg (eLie (nth a0 v5)))] eLie a1 2 q16 ?_
      refine tCallV 2 (some 25) [(24, .agg (eLie (nth a1 v5)))] [.agg (eLie (nth a0 v5)), .agg (eLie (nth a1 v5))] (laws_eqLie_V (nth a0 v5) (nth a1 v5)) (PW.cons (Snap2.agg (PW.cons (.int _ _) (PW.cons (.int _ _) PW.nil))) (PW.cons (Snap2.agg (PW.cons (.int _ _) (PW.cons (.int _ _) PW.nil))) PW.nil)) ?_
      refine tEnd [(26, .bool (!(eqv (nth a0 v5) (nth a1 v5))))] ?_
      refine QJoin.normal trivial ?_
      exact wkJ (by kernel_rfl)
    refine cCond (.tmp 26) (!(eqv (nth a0 v5) (nth a1 v5))) (fun q18 => ?_) (fun q18 => ?_)
    · replace h := h q18
      refine cSeqG ⟨(mkS 27 [(4, .bool false)]), [], []⟩ (True) ?_ (fun q19 => ?_)
      · skip
        refine rgS [] 7 ?_
        refine sEnd [(4, .bool false)] ?_
        refine QJoin.normal trivial ?_
        exact wkJ (by kernel_rfl)
      refine cRet ?_
      refine QBlock.ret ?_
      refine QJoin.ret ?_
      refine QRound.ret ?_
      refine QBlock.ret ?_
      refine QSeq.ret ?_
      refine rtS (.bool false) [.bool false] ?_
      exact (SnapR3.of1 (sr_bool (H := []) (a := false) (b := res) h))
    · skip
      refine cSkip ?_
      refine QBlock.normal ?_
      refine QJoin.normal (by simp only [q2.2.2, q9, q18, Bool.true_or, Bool.false_or, Bool.true_and, Bool.false_and, Bool.not_true, Bool.not_false, Bool.and_true, Bool.and_false, Bool.or_true, Bool.or_false, cond_true, cond_false]) ?_
      exact wkJ (by kernel_rfl)
  replace h := h q14
  refine rgS [] 5 ?_
  refine sEnd [(5, .int .i64 (IntKind.i64.wrap (v5 + 1))), (16, .int .i64 (IntKind.i64.wrap (v5 + 1))), (15, .int .i64 v5)] ?_
  exact QRound.again (IntKind.i64.wrap (v5 + 1)) h (wkL [])

set_option maxHeartbeats 4000000 in
theorem laws_eqLieS_vc (a0 : (List Lie)) (a1 : (List Lie)) : laws_eqLieS_C a0 a1 (eqv a0 a1) (upI a0.length (fun v => !(eqv (nth a0 v) (nth a1 v)))) (upM a0.length) := by
  unfold laws_eqLieS_C laws_eqLieS_C1
  exact eq_loop (ne := fun v => !(eqv (nth a0 v) (nth a1 v))) (fun v => by simp [eqv])

theorem laws_eqLieS_V (a0 : (List Lie)) (a1 : (List Lie)) : FnV Try.prog 162 [.lst (List.map eLie a0) false false, .lst (List.map eLie a1) false false] (.bool (eqv a0 a1)) := laws_eqLieS_walk a0 a1 (eqv a0 a1) (upI a0.length (fun v => !(eqv (nth a0 v) (nth a1 v)))) (upM a0.length) (laws_eqLieS_vc a0 a1)

noncomputable def laws_eqWay_b : Code := bodyC Try.f131
def laws_eqWay_C1 (a0 : Way) (a1 : Way) (res : Bool) : Prop :=
  ((!(eqv a0.sections a1.sections)) = true → false = res) ∧ ((!(!(eqv a0.sections a1.sections))) = true → ((!(eqv a0.lies a1.lies)) = true → false = res) ∧ ((!(!(eqv a0.lies a1.lies))) = true → ((!(eqv a0.flanks a1.flanks)) = true → false = res) ∧ ((!(!(eqv a0.flanks a1.flanks))) = true → ((!(eqv a0.over a1.over)) = true → false = res) ∧ ((!(!(eqv a0.over a1.over))) = true → ((!(eqv a0.near a1.near)) = true → false = res) ∧ ((!(!(eqv a0.near a1.near))) = true → true = res)))))
def laws_eqWay_C (a0 : Way) (a1 : Way) (res : Bool) : Prop :=
  laws_eqWay_C1 a0 a1 res
set_option maxHeartbeats 4000000 in
theorem laws_eqWay_walk (a0 : Way) (a1 : Way) (res : Bool) (h : laws_eqWay_C a0 a1 res) : FnV Try.prog 131 [.agg (eWay false a0), .agg (eWay false a1)] (.bool res) := by
  unfold laws_eqWay_C at h
  refine FnS.of_body (fn := Try.f131) (c := laws_eqWay_b) Try.func131 (by kernel_rfl) (by kernel_rfl) ?_
  refine WpS.codeIs (c' := (nv laws_eqWay_b 1)) (by kernel_rfl) ?_
  refine WpS.start (st' := ⟨(mkS 35 [(0, .agg (eWay false a0)), (1, .agg (eWay false a1))]), [], []⟩) (by kernel_rfl) ?_
  refine cSeqG ⟨(mkS 35 [(2, .lptr 2 0), (3, .lptr 3 0)]), [(3, (eWay false a1)), (2, (eWay false a0))], []⟩ (True) ?_ (fun q1 => ?_)
  · skip
    refine rgS [] 0 ?_
    refine sEnd' [(4, .bool false), (3, .lptr 3 0), (2, .lptr 2 0)] [(3, (eWay false a1)), (2, (eWay false a0))] [] ?_
    refine QJoin.normal trivial ?_
    exact wkJ (by kernel_rfl)
  unfold laws_eqWay_C1 at h
  obtain ⟨q27, h⟩ := h
  refine cSeqG ⟨(mkS 35 [(2, .lptr 2 0), (3, .lptr 3 0)]), [(3, (eWay false a1)), (2, (eWay false a0))], []⟩ ((!(!(eqv a0.sections a1.sections))) = true) ?_ (fun q2 => ?_)
  · replace h := q27
    refine cSeqG ⟨(mkS 35 [(2, .lptr 2 0), (3, .lptr 3 0), (10, .bool (!(eqv a0.sections a1.sections)))]), [(3, (eWay false a1)), (2, (eWay false a0))], []⟩ (True) ?_ (fun q3 => ?_)
    · skip
      refine rgS [] 1 ?_
      refine sCallV 5 (some 9) [(8, .lst (List.map eInt a1.sections) false false), (7, .lptr 3 0), (6, .lst (List.map eInt a0.sections) false false), (5, .lptr 2 0)] [.lst (List.map eInt a0.sections) false false, .lst (List.map eInt a1.sections) false false] (laws_eqIntS_V a0.sections a1.sections) (PW.cons (Snap2.of1 sa_lst) (PW.cons (Snap2.of1 sa_lst) PW.nil)) ?_
      refine sEnd [(10, .bool (!(eqv a0.sections a1.sections)))] ?_
      refine QJoin.normal trivial ?_
      exact wkJ (by kernel_rfl)
    refine cCond (.tmp 10) (!(eqv a0.sections a1.sections)) (fun q4 => ?_) (fun q4 => ?_)
    · replace h := h q4
      refine cSeqG ⟨(mkS 35 [(4, .bool false)]), [(3, (eWay false a1)), (2, (eWay false a0))], []⟩ (True) ?_ (fun q5 => ?_)
      · skip
        refine rgS [] 2 ?_
        refine sEnd [(4, .bool false)] ?_
        refine QJoin.normal trivial ?_
        exact wkJ (by kernel_rfl)
      refine cRet ?_
      refine QJoin.ret ?_
      refine rtS (.bool false) [.bool false] ?_
      exact (SnapR3.of1 (sr_bool (H := []) (a := false) (b := res) h))
    · skip
      refine cSkip ?_
      refine QJoin.normal (by simp only [q4, Bool.true_or, Bool.false_or, Bool.true_and, Bool.false_and, Bool.not_true, Bool.not_false, Bool.and_true, Bool.and_false, Bool.or_true, Bool.or_false, cond_true, cond_false]) ?_
      exact wkJ (by kernel_rfl)
  replace h := h q2
  obtain ⟨q26, h⟩ := h
  refine cSeqG ⟨(mkS 35 [(2, .lptr 2 0), (3, .lptr 3 0)]), [(3, (eWay false a1)), (2, (eWay false a0))], []⟩ ((!(!(eqv a0.lies a1.lies))) = true) ?_ (fun q6 => ?_)
  · replace h := q26
    refine cSeqG ⟨(mkS 35 [(2, .lptr 2 0), (3, .lptr 3 0), (16, .bool (!(eqv a0.lies a1.lies)))]), [(3, (eWay false a1)), (2, (eWay false a0))], []⟩ (True) ?_ (fun q7 => ?_)
    · skip
      refine rgS [] 3 ?_
      refine sCallV 5 (some 15) [(14, .lst (List.map eLie a1.lies) false false), (13, .lptr 3 1), (12, .lst (List.map eLie a0.lies) false false), (11, .lptr 2 1)] [.lst (List.map eLie a0.lies) false false, .lst (List.map eLie a1.lies) false false] (laws_eqLieS_V a0.lies a1.lies) (PW.cons (Snap2.of1 sa_lst) (PW.cons (Snap2.of1 sa_lst) PW.nil)) ?_
      refine sEnd [(16, .bool (!(eqv a0.lies a1.lies)))] ?_
      refine QJoin.normal trivial ?_
      exact wkJ (by kernel_rfl)
    refine cCond (.tmp 16) (!(eqv a0.lies a1.lies)) (fun q8 => ?_) (fun q8 => ?_)
    · replace h := h q8
      refine cSeqG ⟨(mkS 35 [(4, .bool false)]), [(3, (eWay false a1)), (2, (eWay false a0))], []⟩ (True) ?_ (fun q9 => ?_)
      · skip
        refine rgS [] 4 ?_
        refine sEnd [(4, .bool false)] ?_
        refine QJoin.normal trivial ?_
        exact wkJ (by kernel_rfl)
      refine cRet ?_
      refine QJoin.ret ?_
      refine rtS (.bool false) [.bool false] ?_
      exact (SnapR3.of1 (sr_bool (H := []) (a := false) (b := res) h))
    · skip
      refine cSkip ?_
      refine QJoin.normal (by simp only [q2, q8, Bool.true_or, Bool.false_or, Bool.true_and, Bool.false_and, Bool.not_true, Bool.not_false, Bool.and_true, Bool.and_false, Bool.or_true, Bool.or_false, cond_true, cond_false]) ?_
      exact wkJ (by kernel_rfl)
  replace h := h q6
  obtain ⟨q25, h⟩ := h
  refine cSeqG ⟨(mkS 35 [(2, .lptr 2 0), (3, .lptr 3 0)]), [(3, (eWay false a1)), (2, (eWay false a0))], []⟩ ((!(!(eqv a0.flanks a1.flanks))) = true) ?_ (fun q10 => ?_)
  · replace h := q25
    refine cSeqG ⟨(mkS 35 [(2, .lptr 2 0), (3, .lptr 3 0), (22, .bool (!(eqv a0.flanks a1.flanks)))]), [(3, (eWay false a1)), (2, (eWay false a0))], []⟩ (True) ?_ (fun q11 => ?_)
    · skip
      refine rgS [] 5 ?_
      refine sCallV 5 (some 21) [(20, .lst (List.map eLie a1.flanks) false false), (19, .lptr 3 2), (18, .lst (List.map eLie a0.flanks) false false), (17, .lptr 2 2)] [.lst (List.map eLie a0.flanks) false false, .lst (List.map eLie a1.flanks) false false] (laws_eqLieS_V a0.flanks a1.flanks) (PW.cons (Snap2.of1 sa_lst) (PW.cons (Snap2.of1 sa_lst) PW.nil)) ?_
      refine sEnd [(22, .bool (!(eqv a0.flanks a1.flanks)))] ?_
      refine QJoin.normal trivial ?_
      exact wkJ (by kernel_rfl)
    refine cCond (.tmp 22) (!(eqv a0.flanks a1.flanks)) (fun q12 => ?_) (fun q12 => ?_)
    · replace h := h q12
      refine cSeqG ⟨(mkS 35 [(4, .bool false)]), [(3, (eWay false a1)), (2, (eWay false a0))], []⟩ (True) ?_ (fun q13 => ?_)
      · skip
        refine rgS [] 6 ?_
        refine sEnd [(4, .bool false)] ?_
        refine QJoin.normal trivial ?_
        exact wkJ (by kernel_rfl)
      refine cRet ?_
      refine QJoin.ret ?_
      refine rtS (.bool false) [.bool false] ?_
      exact (SnapR3.of1 (sr_bool (H := []) (a := false) (b := res) h))
    · skip
      refine cSkip ?_
      refine QJoin.normal (by simp only [q2, q6, q12, Bool.true_or, Bool.false_or, Bool.true_and, Bool.false_and, Bool.not_true, Bool.not_false, Bool.and_true, Bool.and_false, Bool.or_true, Bool.or_false, cond_true, cond_false]) ?_
      exact wkJ (by kernel_rfl)
  replace h := h q10
  obtain ⟨q24, h⟩ := h
  refine cSeqG ⟨(mkS 35 [(2, .lptr 2 0), (3, .lptr 3 0)]), [(3, (eWay false a1)), (2, (eWay false a0))], []⟩ ((!(!(eqv a0.over a1.over))) = true) ?_ (fun q14 => ?_)
  · replace h := q24
    refine cSeqG ⟨(mkS 35 [(2, .lptr 2 0), (3, .lptr 3 0), (28, .bool (!(eqv a0.over a1.over)))]), [(3, (eWay false a1)), (2, (eWay false a0))], []⟩ (True) ?_ (fun q15 => ?_)
    · skip
      refine rgS [] 7 ?_
      refine sCallV 5 (some 27) [(26, .lst (List.map eInt a1.over) false false), (25, .lptr 3 3), (24, .lst (List.map eInt a0.over) false false), (23, .lptr 2 3)] [.lst (List.map eInt a0.over) false false, .lst (List.map eInt a1.over) false false] (laws_eqIntS_V a0.over a1.over) (PW.cons (Snap2.of1 sa_lst) (PW.cons (Snap2.of1 sa_lst) PW.nil)) ?_
      refine sEnd [(28, .bool (!(eqv a0.over a1.over)))] ?_
      refine QJoin.normal trivial ?_
      exact wkJ (by kernel_rfl)
    refine cCond (.tmp 28) (!(eqv a0.over a1.over)) (fun q16 => ?_) (fun q16 => ?_)
    · replace h := h q16
      refine cSeqG ⟨(mkS 35 [(4, .bool false)]), [(3, (eWay false a1)), (2, (eWay false a0))], []⟩ (True) ?_ (fun q17 => ?_)
      · skip
        refine rgS [] 8 ?_
        refine sEnd [(4, .bool false)] ?_
        refine QJoin.normal trivial ?_
        exact wkJ (by kernel_rfl)
      refine cRet ?_
      refine QJoin.ret ?_
      refine rtS (.bool false) [.bool false] ?_
      exact (SnapR3.of1 (sr_bool (H := []) (a := false) (b := res) h))
    · skip
      refine cSkip ?_
      refine QJoin.normal (by simp only [q2, q6, q10, q16, Bool.true_or, Bool.false_or, Bool.true_and, Bool.false_and, Bool.not_true, Bool.not_false, Bool.and_true, Bool.and_false, Bool.or_true, Bool.or_false, cond_true, cond_false]) ?_
      exact wkJ (by kernel_rfl)
  replace h := h q14
  obtain ⟨q23, h⟩ := h
  refine cSeqG ⟨(mkS 35 []), [(3, (eWay false a1)), (2, (eWay false a0))], []⟩ ((!(!(eqv a0.near a1.near))) = true) ?_ (fun q18 => ?_)
  · replace h := q23
    refine cSeqG ⟨(mkS 35 [(34, .bool (!(eqv a0.near a1.near)))]), [(3, (eWay false a1)), (2, (eWay false a0))], []⟩ (True) ?_ (fun q19 => ?_)
    · skip
      refine rgS [] 9 ?_
      refine sCallV 5 (some 33) [(32, .lst (List.map eInt a1.near) false false), (31, .lptr 3 4), (30, .lst (List.map eInt a0.near) false false), (29, .lptr 2 4)] [.lst (List.map eInt a0.near) false false, .lst (List.map eInt a1.near) false false] (laws_eqIntS_V a0.near a1.near) (PW.cons (Snap2.of1 sa_lst) (PW.cons (Snap2.of1 sa_lst) PW.nil)) ?_
      refine sEnd [(34, .bool (!(eqv a0.near a1.near)))] ?_
      refine QJoin.normal trivial ?_
      exact wkJ (by kernel_rfl)
    refine cCond (.tmp 34) (!(eqv a0.near a1.near)) (fun q20 => ?_) (fun q20 => ?_)
    · replace h := h q20
      refine cSeqG ⟨(mkS 35 [(4, .bool false)]), [(3, (eWay false a1)), (2, (eWay false a0))], []⟩ (True) ?_ (fun q21 => ?_)
      · skip
        refine rgS [] 10 ?_
        refine sEnd [(4, .bool false)] ?_
        refine QJoin.normal trivial ?_
        exact wkJ (by kernel_rfl)
      refine cRet ?_
      refine QJoin.ret ?_
      refine rtS (.bool false) [.bool false] ?_
      exact (SnapR3.of1 (sr_bool (H := []) (a := false) (b := res) h))
    · skip
      refine cSkip ?_
      refine QJoin.normal (by simp only [q2, q6, q10, q14, q20, Bool.true_or, Bool.false_or, Bool.true_and, Bool.false_and, Bool.not_true, Bool.not_false, Bool.and_true, Bool.and_false, Bool.or_true, Bool.or_false, cond_true, cond_false]) ?_
      exact wkJ (by kernel_rfl)
  replace h := h q18
  refine cSeqG ⟨(mkS 35 [(4, .bool true)]), [(3, (eWay false a1)), (2, (eWay false a0))], []⟩ (True) ?_ (fun q22 => ?_)
  · skip
    refine rgS [] 11 ?_
    refine sEnd [(4, .bool true)] ?_
    refine QJoin.normal trivial ?_
    exact wkJ (by kernel_rfl)
  refine cRet ?_
  refine rtS (.bool true) [.bool true] ?_
  exact (SnapR3.of1 (sr_bool (H := []) (a := true) (b := res) h))

set_option maxHeartbeats 4000000 in
theorem laws_eqWay_vc (a0 : Way) (a1 : Way) : laws_eqWay_C a0 a1 (eqv a0 a1) := by
  unfold laws_eqWay_C laws_eqWay_C1
  obtain ⟨a, b, c, d, e⟩ := a0
  obtain ⟨a', b', c', d', e'⟩ := a1
  simp [eqv]
  refine ⟨fun h h1 => absurd h1 h, fun h => ⟨fun k _ k1 => absurd k1 k, ?_⟩⟩
  intros
  simp_all

theorem laws_eqWay_V (a0 : Way) (a1 : Way) : FnV Try.prog 131 [.agg (eWay false a0), .agg (eWay false a1)] (.bool (eqv a0 a1)) := laws_eqWay_walk a0 a1 (eqv a0 a1) (laws_eqWay_vc a0 a1)

noncomputable def laws_eqWayS_b : Code := bodyC Try.f75
def laws_eqWayS_o6 : List Item := [⟨0, true, true, []⟩, ⟨1, true, true, []⟩, ⟨2, true, true, []⟩, ⟨3, true, true, []⟩, ⟨4, true, true, []⟩, ⟨5, true, true, []⟩, ⟨6, true, true, []⟩, ⟨7, true, true, []⟩, ⟨8, true, true, []⟩, ⟨9, true, true, []⟩]
def laws_eqWayS_o6a : List (List Nat) := [[], [], [0, 1], [0, 1, 2], [], [], [4, 5], [4, 5, 6], [0, 1, 2, 3, 4, 5, 6, 7], [0, 1, 2, 3, 4, 5, 6, 7, 8]]
def laws_eqWayS_C1 (I0 : Int → Prop) (m0 : Int → Nat) (a0 : (List Way)) (a1 : (List Way)) (res : Bool) : Prop :=
  ((a0.length ≤ 4611686018427387904) ∧ (a1.length ≤ 4611686018427387904) → ((a0.length : Int) != (a1.length : Int)) = true → false = res) ∧ ((a0.length ≤ 4611686018427387904) ∧ (a1.length ≤ 4611686018427387904) ∧ ((!((a0.length : Int) != (a1.length : Int))) = true) → I0 0 ∧ ∀ (v5 : Int), I0 v5 → (((decide (v5 < (a0.length : Int))) = false → true = res) ∧ ((decide (v5 < (a0.length : Int))) = true → (((0 ≤ v5 ∧ v5.toNat < a0.length) ∧ (0 ≤ v5 ∧ v5.toNat < a1.length)) ∧ ((!(eqv (nth a0 v5) (nth a1 v5))) = true → false = res)) ∧ ((!(!(eqv (nth a0 v5) (nth a1 v5)))) = true → I0 (IntKind.i64.wrap (v5 + 1)) ∧ m0 (IntKind.i64.wrap (v5 + 1)) < m0 v5))))
def laws_eqWayS_C (a0 : (List Way)) (a1 : (List Way)) (res : Bool) (I0 : Int → Prop) (m0 : Int → Nat) : Prop :=
  laws_eqWayS_C1 I0 m0 a0 a1 res
set_option maxHeartbeats 4000000 in
theorem laws_eqWayS_walk (a0 : (List Way)) (a1 : (List Way)) (res : Bool) (I0 : Int → Prop) (m0 : Int → Nat) (h : laws_eqWayS_C a0 a1 res I0 m0) : FnV Try.prog 75 [.lst (List.map (eWay false) a0) false false, .lst (List.map (eWay false) a1) false false] (.bool res) := by
  unfold laws_eqWayS_C at h
  refine FnS.of_body (fn := Try.f75) (c := laws_eqWayS_b) Try.func75 (by kernel_rfl) (by kernel_rfl) ?_
  refine WpS.codeIs (c' := (nv laws_eqWayS_b 1)) (by kernel_rfl) ?_
  refine WpS.start (st' := ⟨(mkS 27 [(0, .lst (List.map (eWay false) a0) false false), (1, .lst (List.map (eWay false) a1) false false)]), [], []⟩) (by kernel_rfl) ?_
  refine cSeqG ⟨(mkS 27 [(0, .lst (List.map (eWay false) a0) false false), (1, .lst (List.map (eWay false) a1) false false)]), [], []⟩ (True) ?_ (fun q1 => ?_)
  · skip
    refine rgS [] 0 ?_
    refine sEnd [(4, .bool false)] ?_
    refine QJoin.normal trivial ?_
    exact wkJ (by kernel_rfl)
  unfold laws_eqWayS_C1 at h
  obtain ⟨q24, h⟩ := h
  refine cSeqG ⟨(mkS 27 [(0, .lst (List.map (eWay false) a0) false false), (1, .lst (List.map (eWay false) a1) false false)]), [], []⟩ ((a0.length ≤ 4611686018427387904) ∧ (a1.length ≤ 4611686018427387904) ∧ ((!((a0.length : Int) != (a1.length : Int))) = true)) ?_ (fun q2 => ?_)
  · replace h := q24
    refine cSeqG ⟨(mkS 27 [(0, .lst (List.map (eWay false) a0) false false), (1, .lst (List.map (eWay false) a1) false false), (10, .bool ((a0.length : Int) != (a1.length : Int)))]), [], []⟩ ((a0.length ≤ 4611686018427387904) ∧ (a1.length ≤ 4611686018427387904)) ?_ (fun q3 => ?_)
    · skip
      refine rgS [] 1 ?_
      refine sLen 2 (some 7) [(6, .lst (List.map (eWay false) a0) false false)] (eWay false) a0 (fun q4 => ?_)
      refine sLen 2 (some 9) [(8, .lst (List.map (eWay false) a1) false false)] (eWay false) a1 (fun q5 => ?_)
      refine sEnd [(10, .bool ((a0.length : Int) != (a1.length : Int)))] ?_
      refine QJoin.normal ⟨q4, q5⟩ ?_
      exact wkJ (by kernel_rfl)
    replace h := h q3
    refine cCond (.tmp 10) ((a0.length : Int) != (a1.length : Int)) (fun q6 => ?_) (fun q6 => ?_)
    · replace h := h q6
      refine cSeqG ⟨(mkS 27 [(4, .bool false)]), [], []⟩ (True) ?_ (fun q7 => ?_)
      · skip
        refine rgS [] 2 ?_
        refine sEnd [(4, .bool false)] ?_
        refine QJoin.normal trivial ?_
        exact wkJ (by kernel_rfl)
      refine cRet ?_
      refine QJoin.ret ?_
      refine rtS (.bool false) [.bool false] ?_
      exact (SnapR3.of1 (sr_bool (H := []) (a := false) (b := res) h))
    · skip
      refine cSkip ?_
      refine QJoin.normal ⟨q3.1, q3.2, (by simp only [q6, Bool.true_or, Bool.false_or, Bool.true_and, Bool.false_and, Bool.not_true, Bool.not_false, Bool.and_true, Bool.and_false, Bool.or_true, Bool.or_false, cond_true, cond_false])⟩ ?_
      exact wkJ (by kernel_rfl)
  replace h := h q2
  refine cSeq ?_
  refine cSeqG ⟨(mkS 27 [(0, .lst (List.map (eWay false) a0) false false), (1, .lst (List.map (eWay false) a1) false false), (5, .int .i64 0)]), [], []⟩ (True) ?_ (fun q8 => ?_)
  · skip
    refine rgS [] 3 ?_
    refine sEnd [(5, .int .i64 0)] ?_
    refine QJoin.normal trivial ?_
    exact wkJ (by kernel_rfl)
  refine cBlock 0 ?_
  obtain ⟨q23, h⟩ := h
  refine cLoop (fun (v : Int) => (⟨(mkS 27 [(0, .lst (List.map (eWay false) a0) false false), (1, .lst (List.map (eWay false) a1) false false), (5, .int .i64 v)]), [], []⟩ : St)) (fun (v : Int) => I0 v) (fun (v : Int) => m0 v) 0 (wkL []) q23 (fun v5 hI => ?_)
  skip
  replace h := h v5 hI
  show WpS _ _ _ ⟨(mkS 27 [(0, .lst (List.map (eWay false) a0) false false), (1, .lst (List.map (eWay false) a1) false false), (5, .int .i64 v5)]), [], []⟩
  obtain ⟨q22, h⟩ := h
  refine cSeqG ⟨(mkS 27 [(0, .lst (List.map (eWay false) a0) false false), (1, .lst (List.map (eWay false) a1) false false), (5, .int .i64 v5)]), [], []⟩ ((decide (v5 < (a0.length : Int))) = true) ?_ (fun q9 => ?_)
  · replace h := q22
    refine cSeqG ⟨(mkS 27 [(0, .lst (List.map (eWay false) a0) false false), (1, .lst (List.map (eWay false) a1) false false), (5, .int .i64 v5), (14, .bool (decide (v5 < (a0.length : Int))))]), [], []⟩ (True) ?_ (fun q10 => ?_)
    · skip
      refine rgS [] 4 ?_
      refine sLen 3 (some 13) [(12, .lst (List.map (eWay false) a0) false false), (11, .int .i64 v5)] (eWay false) a0 (fun q11 => ?_)
      refine sEnd [(14, .bool (decide (v5 < (a0.length : Int))))] ?_
      refine QJoin.normal trivial ?_
      exact wkJ (by kernel_rfl)
    refine cCond (.tmp 14) (decide (v5 < (a0.length : Int))) (fun q12 => ?_) (fun q12 => ?_)
    · skip
      refine cSkip ?_
      refine QJoin.normal (by simp only [q2.2.2, q12, Bool.true_or, Bool.false_or, Bool.true_and, Bool.false_and, Bool.not_true, Bool.not_false, Bool.and_true, Bool.and_false, Bool.or_true, Bool.or_false, cond_true, cond_false]) ?_
      exact wkJ (by kernel_rfl)
    · replace h := h q12
      refine cExit 0 ?_
      refine QJoin.exit ?_
      refine QRound.exit ?_
      refine QBlock.here ?_
      refine QSeq.normal ?_
      refine cSeqG ⟨(mkS 27 [(4, .bool true)]), [], []⟩ (True) ?_ (fun q13 => ?_)
      · skip
        refine rgS [] 8 ?_
        refine sEnd [(4, .bool true)] ?_
        refine QJoin.normal trivial ?_
        exact wkJ (by kernel_rfl)
      refine cRet ?_
      refine rtS (.bool true) [.bool true] ?_
      exact (SnapR3.of1 (sr_bool (H := []) (a := true) (b := res) h))
  replace h := h q9
  obtain ⟨q21, h⟩ := h
  refine cSeqG ⟨(mkS 27 [(0, .lst (List.map (eWay false) a0) false false), (1, .lst (List.map (eWay false) a1) false false), (5, .int .i64 v5)]), [], []⟩ ((!(!(eqv (nth a0 v5) (nth a1 v5)))) = true) ?_ (fun q14 => ?_)
  · replace h := q21
    refine cBlock 1 ?_
    obtain ⟨q20, h⟩ := h
    refine cSeqG ⟨(mkS 27 [(0, .lst (List.map (eWay false) a0) false false), (1, .lst (List.map (eWay false) a1) false false), (5, .int .i64 v5), (26, .bool (!(eqv (nth a0 v5) (nth a1 v5))))]), [], []⟩ (True) ?_ (fun q15 => ?_)
    · replace h := q20
      refine rgD [] 6 laws_eqWayS_o6 laws_eqWayS_o6a ?_
      obtain ⟨q17, h⟩ := h
      refine tIdx 3 (some 19) [(18, .int .i64 v5), (17, .lst (List.map (eWay false) a0) false false)] (eWay false) a0 5 q17 ?_
      have q16 := h
      refine tIdx 4 (some 23) [(22, .int .i64 v5), (21, .lst (List.map (eWay false) a1) false false), (20, .agg (eWay false (nth a0 v5)))] (eWay false) a1 5 q16 ?_
      refine tCallV 2 (some 25) [(24, .agg (eWay false (nth a1 v5)))] [.agg (eWay false (nth a0 v5)), .agg (eWay false (nth a1 v5))] (laws_eqWay_V (nth a0 v5) (nth a1 v5)) (PW.cons (Snap2.agg (PW.cons sa_lst (PW.cons sa_lst (PW.cons sa_lst (PW.cons sa_lst (PW.cons sa_lst PW.nil)))))) (PW.cons (Snap2.agg (PW.cons sa_lst (PW.cons sa_lst (PW.cons sa_lst (PW.cons sa_lst (PW.cons sa_lst PW.nil)))))) PW.nil)) ?_
      refine tEnd [(26, .bool (!(eqv (nth a0 v5) (nth a1 v5))))] ?_
      refine QJoin.normal trivial ?_
      exact wkJ (by kernel_rfl)
    refine cCond (.tmp 26) (!(eqv (nth a0 v5) (nth a1 v5))) (fun q18 => ?_) (fun q18 => ?_)
    · replace h := h q18
      refine cSeqG ⟨(mkS 27 [(4, .bool false)]), [], []⟩ (True) ?_ (fun q19 => ?_)
      · skip
        refine rgS [] 7 ?_
        refine sEnd [(4, .bool false)] ?_
        refine QJoin.normal trivial ?_
        exact wkJ (by kernel_rfl)
      refine cRet ?_
      refine QBlock.ret ?_
      refine QJoin.ret ?_
      refine QRound.ret ?_
      refine QBlock.ret ?_
      refine QSeq.ret ?_
      refine rtS (.bool false) [.bool false] ?_
      exact (SnapR3.of1 (sr_bool (H := []) (a := false) (b := res) h))
    · skip
      refine cSkip ?_
      refine QBlock.normal ?_
      refine QJoin.normal (by simp only [q2.2.2, q9, q18, Bool.true_or, Bool.false_or, Bool.true_and, Bool.false_and, Bool.not_true, Bool.not_false, Bool.and_true, Bool.and_false, Bool.or_true, Bool.or_false, cond_true, cond_false]) ?_
      exact wkJ (by kernel_rfl)
  replace h := h q14
  refine rgS [] 5 ?_
  refine sEnd [(5, .int .i64 (IntKind.i64.wrap (v5 + 1))), (16, .int .i64 (IntKind.i64.wrap (v5 + 1))), (15, .int .i64 v5)] ?_
  exact QRound.again (IntKind.i64.wrap (v5 + 1)) h (wkL [])

set_option maxHeartbeats 4000000 in
theorem laws_eqWayS_vc (a0 : (List Way)) (a1 : (List Way)) : laws_eqWayS_C a0 a1 (eqv a0 a1) (upI a0.length (fun v => !(eqv (nth a0 v) (nth a1 v)))) (upM a0.length) := by
  unfold laws_eqWayS_C laws_eqWayS_C1
  exact eq_loop (ne := fun v => !(eqv (nth a0 v) (nth a1 v))) (fun v => by simp [eqv])

theorem laws_eqWayS_V (a0 : (List Way)) (a1 : (List Way)) : FnV Try.prog 75 [.lst (List.map (eWay false) a0) false false, .lst (List.map (eWay false) a1) false false] (.bool (eqv a0 a1)) := laws_eqWayS_walk a0 a1 (eqv a0 a1) (upI a0.length (fun v => !(eqv (nth a0 v) (nth a1 v)))) (upM a0.length) (laws_eqWayS_vc a0 a1)

noncomputable def laws_eqBoolS_b : Code := bodyC Try.f80
def laws_eqBoolS_o6 : List Item := [⟨0, true, true, []⟩, ⟨1, true, true, []⟩, ⟨2, true, true, []⟩, ⟨3, true, true, []⟩, ⟨4, true, true, []⟩, ⟨5, true, true, []⟩, ⟨6, true, true, []⟩, ⟨7, true, true, []⟩, ⟨8, true, true, []⟩]
def laws_eqBoolS_o6a : List (List Nat) := [[], [], [0, 1], [0, 1, 2], [], [], [4, 5], [4, 5, 6], [0, 1, 2, 3, 4, 5, 6, 7]]
def laws_eqBoolS_C1 (I0 : Int → Prop) (m0 : Int → Nat) (a0 : (List Bool)) (a1 : (List Bool)) (res : Bool) : Prop :=
  ((a0.length ≤ 4611686018427387904) ∧ (a1.length ≤ 4611686018427387904) → ((a0.length : Int) != (a1.length : Int)) = true → false = res) ∧ ((a0.length ≤ 4611686018427387904) ∧ (a1.length ≤ 4611686018427387904) ∧ ((!((a0.length : Int) != (a1.length : Int))) = true) → I0 0 ∧ ∀ (v5 : Int), I0 v5 → (((decide (v5 < (a0.length : Int))) = false → true = res) ∧ ((decide (v5 < (a0.length : Int))) = true → (((0 ≤ v5 ∧ v5.toNat < a0.length) ∧ (0 ≤ v5 ∧ v5.toNat < a1.length)) ∧ (((nth a0 v5) != (nth a1 v5)) = true → false = res)) ∧ ((!((nth a0 v5) != (nth a1 v5))) = true → I0 (IntKind.i64.wrap (v5 + 1)) ∧ m0 (IntKind.i64.wrap (v5 + 1)) < m0 v5))))
def laws_eqBoolS_C (a0 : (List Bool)) (a1 : (List Bool)) (res : Bool) (I0 : Int → Prop) (m0 : Int → Nat) : Prop :=
  laws_eqBoolS_C1 I0 m0 a0 a1 res
set_option maxHeartbeats 4000000 in
theorem laws_eqBoolS_walk (a0 : (List Bool)) (a1 : (List Bool)) (res : Bool) (I0 : Int → Prop) (m0 : Int → Nat) (h : laws_eqBoolS_C a0 a1 res I0 m0) : FnV Try.prog 80 [.lst (List.map eBool a0) false false, .lst (List.map eBool a1) false false] (.bool res) := by
  unfold laws_eqBoolS_C at h
  refine FnS.of_body (fn := Try.f80) (c := laws_eqBoolS_b) Try.func80 (by kernel_rfl) (by kernel_rfl) ?_
  refine WpS.codeIs (c' := (nv laws_eqBoolS_b 1)) (by kernel_rfl) ?_
  refine WpS.start (st' := ⟨(mkS 26 [(0, .lst (List.map eBool a0) false false), (1, .lst (List.map eBool a1) false false)]), [], []⟩) (by kernel_rfl) ?_
  refine cSeqG ⟨(mkS 26 [(0, .lst (List.map eBool a0) false false), (1, .lst (List.map eBool a1) false false)]), [], []⟩ (True) ?_ (fun q1 => ?_)
  · skip
    refine rgS [] 0 ?_
    refine sEnd [(4, .bool false)] ?_
    refine QJoin.normal trivial ?_
    exact wkJ (by kernel_rfl)
  unfold laws_eqBoolS_C1 at h
  obtain ⟨q24, h⟩ := h
  refine cSeqG ⟨(mkS 26 [(0, .lst (List.map eBool a0) false false), (1, .lst (List.map eBool a1) false false)]), [], []⟩ ((a0.length ≤ 4611686018427387904) ∧ (a1.length ≤ 4611686018427387904) ∧ ((!((a0.length : Int) != (a1.length : Int))) = true)) ?_ (fun q2 => ?_)
  · replace h := q24
    refine cSeqG ⟨(mkS 26 [(0, .lst (List.map eBool a0) false false), (1, .lst (List.map eBool a1) false false), (10, .bool ((a0.length : Int) != (a1.length : Int)))]), [], []⟩ ((a0.length ≤ 4611686018427387904) ∧ (a1.length ≤ 4611686018427387904)) ?_ (fun q3 => ?_)
    · skip
      refine rgS [] 1 ?_
      refine sLen 2 (some 7) [(6, .lst (List.map eBool a0) false false)] eBool a0 (fun q4 => ?_)
      refine sLen 2 (some 9) [(8, .lst (List.map eBool a1) false false)] eBool a1 (fun q5 => ?_)
      refine sEnd [(10, .bool ((a0.length : Int) != (a1.length : Int)))] ?_
      refine QJoin.normal ⟨q4, q5⟩ ?_
      exact wkJ (by kernel_rfl)
    replace h := h q3
    refine cCond (.tmp 10) ((a0.length : Int) != (a1.length : Int)) (fun q6 => ?_) (fun q6 => ?_)
    · replace h := h q6
      refine cSeqG ⟨(mkS 26 [(4, .bool false)]), [], []⟩ (True) ?_ (fun q7 => ?_)
      · skip
        refine rgS [] 2 ?_
        refine sEnd [(4, .bool false)] ?_
        refine QJoin.normal trivial ?_
        exact wkJ (by kernel_rfl)
      refine cRet ?_
      refine QJoin.ret ?_
      refine rtS (.bool false) [.bool false] ?_
      exact (SnapR3.of1 (sr_bool (H := []) (a := false) (b := res) h))
    · skip
      refine cSkip ?_
      refine QJoin.normal ⟨q3.1, q3.2, (by simp only [q6, Bool.true_or, Bool.false_or, Bool.true_and, Bool.false_and, Bool.not_true, Bool.not_false, Bool.and_true, Bool.and_false, Bool.or_true, Bool.or_false, cond_true, cond_false])⟩ ?_
      exact wkJ (by kernel_rfl)
  replace h := h q2
  refine cSeq ?_
  refine cSeqG ⟨(mkS 26 [(0, .lst (List.map eBool a0) false false), (1, .lst (List.map eBool a1) false false), (5, .int .i64 0)]), [], []⟩ (True) ?_ (fun q8 => ?_)
  · skip
    refine rgS [] 3 ?_
    refine sEnd [(5, .int .i64 0)] ?_
    refine QJoin.normal trivial ?_
    exact wkJ (by kernel_rfl)
  refine cBlock 0 ?_
  obtain ⟨q23, h⟩ := h
  refine cLoop (fun (v : Int) => (⟨(mkS 26 [(0, .lst (List.map eBool a0) false false), (1, .lst (List.map eBool a1) false false), (5, .int .i64 v)]), [], []⟩ : St)) (fun (v : Int) => I0 v) (fun (v : Int) => m0 v) 0 (wkL []) q23 (fun v5 hI => ?_)
  skip
  replace h := h v5 hI
  show WpS _ _ _ ⟨(mkS 26 [(0, .lst (List.map eBool a0) false false), (1, .lst (List.map eBool a1) false false), (5, .int .i64 v5)]), [], []⟩
  obtain ⟨q22, h⟩ := h
  refine cSeqG ⟨(mkS 26 [(0, .lst (List.map eBool a0) false false), (1, .lst (List.map eBool a1) false false), (5, .int .i64 v5)]), [], []⟩ ((decide (v5 < (a0.length : Int))) = true) ?_ (fun q9 => ?_)
  · replace h := q22
    refine cSeqG ⟨(mkS 26 [(0, .lst (List.map eBool a0) false false), (1, .lst (List.map eBool a1) false false), (5, .int .i64 v5), (14, .bool (decide (v5 < (a0.length : Int))))]), [], []⟩ (True) ?_ (fun q10 => ?_)
    · skip
      refine rgS [] 4 ?_
      refine sLen 3 (some 13) [(12, .lst (List.map eBool a0) false false), (11, .int .i64 v5)] eBool a0 (fun q11 => ?_)
      refine sEnd [(14, .bool (decide (v5 < (a0.length : Int))))] ?_
      refine QJoin.normal trivial ?_
      exact wkJ (by kernel_rfl)
    refine cCond (.tmp 14) (decide (v5 < (a0.length : Int))) (fun q12 => ?_) (fun q12 => ?_)
    · skip
      refine cSkip ?_
      refine QJoin.normal (by simp only [q2.2.2, q12, Bool.true_or, Bool.false_or, Bool.true_and, Bool.false_and, Bool.not_true, Bool.not_false, Bool.and_true, Bool.and_false, Bool.or_true, Bool.or_false, cond_true, cond_false]) ?_
      exact wkJ (by kernel_rfl)
    · replace h := h q12
      refine cExit 0 ?_
      refine QJoin.exit ?_
      refine QRound.exit ?_
      refine QBlock.here ?_
      refine QSeq.normal ?_
      refine cSeqG ⟨(mkS 26 [(4, .bool true)]), [], []⟩ (True) ?_ (fun q13 => ?_)
      · skip
        refine rgS [] 8 ?_
        refine sEnd [(4, .bool true)] ?_
        refine QJoin.normal trivial ?_
        exact wkJ (by kernel_rfl)
      refine cRet ?_
      refine rtS (.bool true) [.bool true] ?_
      exact (SnapR3.of1 (sr_bool (H := []) (a := true) (b := res) h))
  replace h := h q9
  obtain ⟨q21, h⟩ := h
  refine cSeqG ⟨(mkS 26 [(0, .lst (List.map eBool a0) false false), (1, .lst (List.map eBool a1) false false), (5, .int .i64 v5)]), [], []⟩ ((!((nth a0 v5) != (nth a1 v5))) = true) ?_ (fun q14 => ?_)
  · replace h := q21
    refine cBlock 1 ?_
    obtain ⟨q20, h⟩ := h
    refine cSeqG ⟨(mkS 26 [(0, .lst (List.map eBool a0) false false), (1, .lst (List.map eBool a1) false false), (5, .int .i64 v5), (25, .bool ((nth a0 v5) != (nth a1 v5)))]), [], []⟩ (True) ?_ (fun q15 => ?_)
    · replace h := q20
      refine rgD [] 6 laws_eqBoolS_o6 laws_eqBoolS_o6a ?_
      obtain ⟨q17, h⟩ := h
      refine tIdx 3 (some 19) [(18, .int .i64 v5), (17, .lst (List.map eBool a0) false false)] eBool a0 1 q17 ?_
      have q16 := h
      refine tIdx 4 (some 23) [(22, .int .i64 v5), (21, .lst (List.map eBool a1) false false), (20, .bool (nth a0 v5))] eBool a1 1 q16 ?_
      refine tEnd [(25, .bool ((nth a0 v5) != (nth a1 v5))), (24, .bool (nth a1 v5))] ?_
      refine QJoin.normal trivial ?_
      exact wkJ (by kernel_rfl)
    refine cCond (.tmp 25) ((nth a0 v5) != (nth a1 v5)) (fun q18 => ?_) (fun q18 => ?_)
    · replace h := h q18
      refine cSeqG ⟨(mkS 26 [(4, .bool false)]), [], []⟩ (True) ?_ (fun q19 => ?_)
      · skip
        refine rgS [] 7 ?_
        refine sEnd [(4, .bool false)] ?_
        refine QJoin.normal trivial ?_
        exact wkJ (by kernel_rfl)
      refine cRet ?_
      refine QBlock.ret ?_
      refine QJoin.ret ?_
      refine QRound.ret ?_
      refine QBlock.ret ?_
      refine QSeq.ret ?_
      refine rtS (.bool false) [.bool false] ?_
      exact (SnapR3.of1 (sr_bool (H := []) (a := false) (b := res) h))
    · skip
      refine cSkip ?_
      refine QBlock.normal ?_
      refine QJoin.normal (by simp only [q2.2.2, q9, q18, Bool.true_or, Bool.false_or, Bool.true_and, Bool.false_and, Bool.not_true, Bool.not_false, Bool.and_true, Bool.and_false, Bool.or_true, Bool.or_false, cond_true, cond_false]) ?_
      exact wkJ (by kernel_rfl)
  replace h := h q14
  refine rgS [] 5 ?_
  refine sEnd [(5, .int .i64 (IntKind.i64.wrap (v5 + 1))), (16, .int .i64 (IntKind.i64.wrap (v5 + 1))), (15, .int .i64 v5)] ?_
  exact QRound.again (IntKind.i64.wrap (v5 + 1)) h (wkL [])

set_option maxHeartbeats 4000000 in
theorem laws_eqBoolS_vc (a0 : (List Bool)) (a1 : (List Bool)) : laws_eqBoolS_C a0 a1 (eqv a0 a1) (upI a0.length (fun v => nth a0 v != nth a1 v)) (upM a0.length) := by
  unfold laws_eqBoolS_C laws_eqBoolS_C1
  exact eq_loop (ne := fun v => nth a0 v != nth a1 v) (fun v => by simp [eqv])

theorem laws_eqBoolS_V (a0 : (List Bool)) (a1 : (List Bool)) : FnV Try.prog 80 [.lst (List.map eBool a0) false false, .lst (List.map eBool a1) false false] (.bool (eqv a0 a1)) := laws_eqBoolS_walk a0 a1 (eqv a0 a1) (upI a0.length (fun v => nth a0 v != nth a1 v)) (upM a0.length) (laws_eqBoolS_vc a0 a1)

noncomputable def laws_eqBoolSS_b : Code := bodyC Try.f76
def laws_eqBoolSS_o6 : List Item := [⟨0, true, true, []⟩, ⟨1, true, true, []⟩, ⟨2, true, true, []⟩, ⟨3, true, true, []⟩, ⟨4, true, true, []⟩, ⟨5, true, true, []⟩, ⟨6, true, true, []⟩, ⟨7, true, true, []⟩, ⟨8, true, true, []⟩, ⟨9, true, true, []⟩]
def laws_eqBoolSS_o6a : List (List Nat) := [[], [], [0, 1], [0, 1, 2], [], [], [4, 5], [4, 5, 6], [0, 1, 2, 3, 4, 5, 6, 7], [0, 1, 2, 3, 4, 5, 6, 7, 8]]
def laws_eqBoolSS_C1 (I0 : Int → Prop) (m0 : Int → Nat) (a0 : (List (List Bool))) (a1 : (List (List Bool))) (res : Bool) : Prop :=
  ((a0.length ≤ 4611686018427387904) ∧ (a1.length ≤ 4611686018427387904) → ((a0.length : Int) != (a1.length : Int)) = true → false = res) ∧ ((a0.length ≤ 4611686018427387904) ∧ (a1.length ≤ 4611686018427387904) ∧ ((!((a0.length : Int) != (a1.length : Int))) = true) → I0 0 ∧ ∀ (v5 : Int), I0 v5 → (((decide (v5 < (a0.length : Int))) = false → true = res) ∧ ((decide (v5 < (a0.length : Int))) = true → (((0 ≤ v5 ∧ v5.toNat < a0.length) ∧ (0 ≤ v5 ∧ v5.toNat < a1.length)) ∧ ((!(eqv (nth a0 v5) (nth a1 v5))) = true → false = res)) ∧ ((!(!(eqv (nth a0 v5) (nth a1 v5)))) = true → I0 (IntKind.i64.wrap (v5 + 1)) ∧ m0 (IntKind.i64.wrap (v5 + 1)) < m0 v5))))
def laws_eqBoolSS_C (a0 : (List (List Bool))) (a1 : (List (List Bool))) (res : Bool) (I0 : Int → Prop) (m0 : Int → Nat) : Prop :=
  laws_eqBoolSS_C1 I0 m0 a0 a1 res
set_option maxHeartbeats 4000000 in
theorem laws_eqBoolSS_walk (a0 : (List (List Bool))) (a1 : (List (List Bool))) (res : Bool) (I0 : Int → Prop) (m0 : Int → Nat) (h : laws_eqBoolSS_C a0 a1 res I0 m0) : FnV Try.prog 76 [.lst (List.map (eL eBool false) a0) false false, .lst (List.map (eL eBool false) a1) false false] (.bool res) := by
  unfold laws_eqBoolSS_C at h
  refine FnS.of_body (fn := Try.f76) (c := laws_eqBoolSS_b) Try.func76 (by kernel_rfl) (by kernel_rfl) ?_
  refine WpS.codeIs (c' := (nv laws_eqBoolSS_b 1)) (by kernel_rfl) ?_
  refine WpS.start (st' := ⟨(mkS 27 [(0, .lst (List.map (eL eBool false) a0) false false), (1, .lst (List.map (eL eBool false) a1) false false)]), [], []⟩) (by kernel_rfl) ?_
  refine cSeqG ⟨(mkS 27 [(0, .lst (List.map (eL eBool false) a0) false false), (1, .lst (List.map (eL eBool false) a1) false false)]), [], []⟩ (True) ?_ (fun q1 => ?_)
  · skip
    refine rgS [] 0 ?_
    refine sEnd [(4, .bool false)] ?_
    refine QJoin.normal trivial ?_
    exact wkJ (by kernel_rfl)
  unfold laws_eqBoolSS_C1 at h
  obtain ⟨q24, h⟩ := h
  refine cSeqG ⟨(mkS 27 [(0, .lst (List.map (eL eBool false) a0) false false), (1, .lst (List.map (eL eBool false) a1) false false)]), [], []⟩ ((a0.length ≤ 4611686018427387904) ∧ (a1.length ≤ 4611686018427387904) ∧ ((!((a0.length : Int) != (a1.length : Int))) = true)) ?_ (fun q2 => ?_)
  · replace h := q24
    refine cSeqG ⟨(mkS 27 [(0, .lst (List.map (eL eBool false) a0) false false), (1, .lst (List.map (eL eBool false) a1) false false), (10, .bool ((a0.length : Int) != (a1.length : Int)))]), [], []⟩ ((a0.length ≤ 4611686018427387904) ∧ (a1.length ≤ 4611686018427387904)) ?_ (fun q3 => ?_)
    · skip
      refine rgS [] 1 ?_
      refine sLen 2 (some 7) [(6, .lst (List.map (eL eBool false) a0) false false)] (eL eBool false) a0 (fun q4 => ?_)
      refine sLen 2 (some 9) [(8, .lst (List.map (eL eBool false) a1) false false)] (eL eBool false) a1 (fun q5 => ?_)
      refine sEnd [(10, .bool ((a0.length : Int) != (a1.length : Int)))] ?_
      refine QJoin.normal ⟨q4, q5⟩ ?_
      exact wkJ (by kernel_rfl)
    replace h := h q3
    refine cCond (.tmp 10) ((a0.length : Int) != (a1.length : Int)) (fun q6 => ?_) (fun q6 => ?_)
    · replace h := h q6
      refine cSeqG ⟨(mkS 27 [(4, .bool false)]), [], []⟩ (True) ?_ (fun q7 => ?_)
      · skip
        refine rgS [] 2 ?_
        refine sEnd [(4, .bool false)] ?_
        refine QJoin.normal trivial ?_
        exact wkJ (by kernel_rfl)
      refine cRet ?_
      refine QJoin.ret ?_
      refine rtS (.bool false) [.bool false] ?_
      exact (SnapR3.of1 (sr_bool (H := []) (a := false) (b := res) h))
    · skip
      refine cSkip ?_
      refine QJoin.normal ⟨q3.1, q3.2, (by simp only [q6, Bool.true_or, Bool.false_or, Bool.true_and, Bool.false_and, Bool.not_true, Bool.not_false, Bool.and_true, Bool.and_false, Bool.or_true, Bool.or_false, cond_true, cond_false])⟩ ?_
      exact wkJ (by kernel_rfl)
  replace h := h q2
  refine cSeq ?_
  refine cSeqG ⟨(mkS 27 [(0, .lst (List.map (eL eBool false) a0) false false), (1, .lst (List.map (eL eBool false) a1) false false), (5, .int .i64 0)]), [], []⟩ (True) ?_ (fun q8 => ?_)
  · skip
    refine rgS [] 3 ?_
    refine sEnd [(5, .int .i64 0)] ?_
    refine QJoin.normal trivial ?_
    exact wkJ (by kernel_rfl)
  refine cBlock 0 ?_
  obtain ⟨q23, h⟩ := h
  refine cLoop (fun (v : Int) => (⟨(mkS 27 [(0, .lst (List.map (eL eBool false) a0) false false), (1, .lst (List.map (eL eBool false) a1) false false), (5, .int .i64 v)]), [], []⟩ : St)) (fun (v : Int) => I0 v) (fun (v : Int) => m0 v) 0 (wkL []) q23 (fun v5 hI => ?_)
  skip
  replace h := h v5 hI
  show WpS _ _ _ ⟨(mkS 27 [(0, .lst (List.map (eL eBool false) a0) false false), (1, .lst (List.map (eL eBool false) a1) false false), (5, .int .i64 v5)]), [], []⟩
  obtain ⟨q22, h⟩ := h
  refine cSeqG ⟨(mkS 27 [(0, .lst (List.map (eL eBool false) a0) false false), (1, .lst (List.map (eL eBool false) a1) false false), (5, .int .i64 v5)]), [], []⟩ ((decide (v5 < (a0.length : Int))) = true) ?_ (fun q9 => ?_)
  · replace h := q22
    refine cSeqG ⟨(mkS 27 [(0, .lst (List.map (eL eBool false) a0) false false), (1, .lst (List.map (eL eBool false) a1) false false), (5, .int .i64 v5), (14, .bool (decide (v5 < (a0.length : Int))))]), [], []⟩ (True) ?_ (fun q10 => ?_)
    · skip
      refine rgS [] 4 ?_
      refine sLen 3 (some 13) [(12, .lst (List.map (eL eBool false) a0) false false), (11, .int .i64 v5)] (eL eBool false) a0 (fun q11 => ?_)
      refine sEnd [(14, .bool (decide (v5 < (a0.length : Int))))] ?_
      refine QJoin.normal trivial ?_
      exact wkJ (by kernel_rfl)
    refine cCond (.tmp 14) (decide (v5 < (a0.length : Int))) (fun q12 => ?_) (fun q12 => ?_)
    · skip
      refine cSkip ?_
      refine QJoin.normal (by simp only [q2.2.2, q12, Bool.true_or, Bool.false_or, Bool.true_and, Bool.false_and, Bool.not_true, Bool.not_false, Bool.and_true, Bool.and_false, Bool.or_true, Bool.or_false, cond_true, cond_false]) ?_
      exact wkJ (by kernel_rfl)
    · replace h := h q12
      refine cExit 0 ?_
      refine QJoin.exit ?_
      refine QRound.exit ?_
      refine QBlock.here ?_
      refine QSeq.normal ?_
      refine cSeqG ⟨(mkS 27 [(4, .bool true)]), [], []⟩ (True) ?_ (fun q13 => ?_)
      · skip
        refine rgS [] 8 ?_
        refine sEnd [(4, .bool true)] ?_
        refine QJoin.normal trivial ?_
        exact wkJ (by kernel_rfl)
      refine cRet ?_
      refine rtS (.bool true) [.bool true] ?_
      exact (SnapR3.of1 (sr_bool (H := []) (a := true) (b := res) h))
  replace h := h q9
  obtain ⟨q21, h⟩ := h
  refine cSeqG ⟨(mkS 27 [(0, .lst (List.map (eL eBool false) a0) false false), (1, .lst (List.map (eL eBool false) a1) false false), (5, .int .i64 v5)]), [], []⟩ ((!(!(eqv (nth a0 v5) (nth a1 v5)))) = true) ?_ (fun q14 => ?_)
  · replace h := q21
    refine cBlock 1 ?_
    obtain ⟨q20, h⟩ := h
    refine cSeqG ⟨(mkS 27 [(0, .lst (List.map (eL eBool false) a0) false false), (1, .lst (List.map (eL eBool false) a1) false false), (5, .int .i64 v5), (26, .bool (!(eqv (nth a0 v5) (nth a1 v5))))]), [], []⟩ (True) ?_ (fun q15 => ?_)
    · replace h := q20
      refine rgD [] 6 laws_eqBoolSS_o6 laws_eqBoolSS_o6a ?_
      obtain ⟨q17, h⟩ := h
      refine tIdx 3 (some 19) [(18, .int .i64 v5), (17, .lst (List.map (eL eBool false) a0) false false)] (eL eBool false) a0 1 q17 ?_
      have q16 := h
      refine tIdx 4 (some 23) [(22, .int .i64 v5), (21, .lst (List.map (eL eBool false) a1) false false), (20, .lst (List.map eBool (nth a0 v5)) false false)] (eL eBool false) a1 1 q16 ?_
      refine tCallV 2 (some 25) [(24, .lst (List.map eBool (nth a1 v5)) false false)] [.lst (List.map eBool (nth a0 v5)) false false, .lst (List.map eBool (nth a1 v5)) false false] (laws_eqBoolS_V (nth a0 v5) (nth a1 v5)) (PW.cons (Snap2.of1 sa_lst) (PW.cons (Snap2.of1 sa_lst) PW.nil)) ?_
      refine tEnd [(26, .bool (!(eqv (nth a0 v5) (nth a1 v5))))] ?_
      refine QJoin.normal trivial ?_
      exact wkJ (by kernel_rfl)
    refine cCond (.tmp 26) (!(eqv (nth a0 v5) (nth a1 v5))) (fun q18 => ?_) (fun q18 => ?_)
    · replace h := h q18
      refine cSeqG ⟨(mkS 27 [(4, .bool false)]), [], []⟩ (True) ?_ (fun q19 => ?_)
      · skip
        refine rgS [] 7 ?_
        refine sEnd [(4, .bool false)] ?_
        refine QJoin.normal trivial ?_
        exact wkJ (by kernel_rfl)
      refine cRet ?_
      refine QBlock.ret ?_
      refine QJoin.ret ?_
      refine QRound.ret ?_
      refine QBlock.ret ?_
      refine QSeq.ret ?_
      refine rtS (.bool false) [.bool false] ?_
      exact (SnapR3.of1 (sr_bool (H := []) (a := false) (b := res) h))
    · skip
      refine cSkip ?_
      refine QBlock.normal ?_
      refine QJoin.normal (by simp only [q2.2.2, q9, q18, Bool.true_or, Bool.false_or, Bool.true_and, Bool.false_and, Bool.not_true, Bool.not_false, Bool.and_true, Bool.and_false, Bool.or_true, Bool.or_false, cond_true, cond_false]) ?_
      exact wkJ (by kernel_rfl)
  replace h := h q14
  refine rgS [] 5 ?_
  refine sEnd [(5, .int .i64 (IntKind.i64.wrap (v5 + 1))), (16, .int .i64 (IntKind.i64.wrap (v5 + 1))), (15, .int .i64 v5)] ?_
  exact QRound.again (IntKind.i64.wrap (v5 + 1)) h (wkL [])

set_option maxHeartbeats 4000000 in
theorem laws_eqBoolSS_vc (a0 : (List (List Bool))) (a1 : (List (List Bool))) : laws_eqBoolSS_C a0 a1 (eqv a0 a1) (upI a0.length (fun v => !(eqv (nth a0 v) (nth a1 v)))) (upM a0.length) := by
  unfold laws_eqBoolSS_C laws_eqBoolSS_C1
  exact eq_loop (ne := fun v => !(eqv (nth a0 v) (nth a1 v))) (fun v => by simp [eqv])

theorem laws_eqBoolSS_V (a0 : (List (List Bool))) (a1 : (List (List Bool))) : FnV Try.prog 76 [.lst (List.map (eL eBool false) a0) false false, .lst (List.map (eL eBool false) a1) false false] (.bool (eqv a0 a1)) := laws_eqBoolSS_walk a0 a1 (eqv a0 a1) (upI a0.length (fun v => !(eqv (nth a0 v) (nth a1 v)))) (upM a0.length) (laws_eqBoolSS_vc a0 a1)

noncomputable def laws_eqPlan_b : Code := bodyC Try.f28
def laws_eqPlan_C1 (a0 : Plan) (a1 : Plan) (res : Bool) : Prop :=
  ((a0.sections != a1.sections) = true → false = res) ∧ ((!(a0.sections != a1.sections)) = true → ((!(eqv a0.switches a1.switches)) = true → false = res) ∧ ((!(!(eqv a0.switches a1.switches))) = true → ((!(eqv a0.ways a1.ways)) = true → false = res) ∧ ((!(!(eqv a0.ways a1.ways))) = true → ((!(eqv a0.bars a1.bars)) = true → false = res) ∧ ((!(!(eqv a0.bars a1.bars))) = true → ((a0.hold != a1.hold) = true → false = res) ∧ ((!(a0.hold != a1.hold)) = true → true = res)))))
def laws_eqPlan_C (a0 : Plan) (a1 : Plan) (res : Bool) : Prop :=
  laws_eqPlan_C1 a0 a1 res
set_option maxHeartbeats 4000000 in
theorem laws_eqPlan_walk (a0 : Plan) (a1 : Plan) (res : Bool) (h : laws_eqPlan_C a0 a1 res) : FnV Try.prog 28 [.agg (ePlan false a0), .agg (ePlan false a1)] (.bool res) := by
  unfold laws_eqPlan_C at h
  refine FnS.of_body (fn := Try.f28) (c := laws_eqPlan_b) Try.func28 (by kernel_rfl) (by kernel_rfl) ?_
  refine WpS.codeIs (c' := (nv laws_eqPlan_b 1)) (by kernel_rfl) ?_
  refine WpS.start (st' := ⟨(mkS 33 [(0, .agg (ePlan false a0)), (1, .agg (ePlan false a1))]), [], []⟩) (by kernel_rfl) ?_
  refine cSeqG ⟨(mkS 33 [(2, .lptr 2 0), (3, .lptr 3 0)]), [(3, (ePlan false a1)), (2, (ePlan false a0))], []⟩ (True) ?_ (fun q1 => ?_)
  · skip
    refine rgS [] 0 ?_
    refine sEnd' [(4, .bool false), (3, .lptr 3 0), (2, .lptr 2 0)] [(3, (ePlan false a1)), (2, (ePlan false a0))] [] ?_
    refine QJoin.normal trivial ?_
    exact wkJ (by kernel_rfl)
  unfold laws_eqPlan_C1 at h
  obtain ⟨q27, h⟩ := h
  refine cSeqG ⟨(mkS 33 [(2, .lptr 2 0), (3, .lptr 3 0)]), [(3, (ePlan false a1)), (2, (ePlan false a0))], []⟩ ((!(a0.sections != a1.sections)) = true) ?_ (fun q2 => ?_)
  · replace h := q27
    refine cSeqG ⟨(mkS 33 [(2, .lptr 2 0), (3, .lptr 3 0), (9, .bool (a0.sections != a1.sections))]), [(3, (ePlan false a1)), (2, (ePlan false a0))], []⟩ (True) ?_ (fun q3 => ?_)
    · skip
      refine rgS [] 1 ?_
      refine sEnd [(9, .bool (a0.sections != a1.sections)), (8, .int .i64 a1.sections), (7, .lptr 3 0), (6, .int .i64 a0.sections), (5, .lptr 2 0)] ?_
      refine QJoin.normal trivial ?_
      exact wkJ (by kernel_rfl)
    refine cCond (.tmp 9) (a0.sections != a1.sections) (fun q4 => ?_) (fun q4 => ?_)
    · replace h := h q4
      refine cSeqG ⟨(mkS 33 [(4, .bool false)]), [(3, (ePlan false a1)), (2, (ePlan false a0))], []⟩ (True) ?_ (fun q5 => ?_)
      · skip
        refine rgS [] 2 ?_
        refine sEnd [(4, .bool false)] ?_
        refine QJoin.normal trivial ?_
        exact wkJ (by kernel_rfl)
      refine cRet ?_
      refine QJoin.ret ?_
      refine rtS (.bool false) [.bool false] ?_
      exact (SnapR3.of1 (sr_bool (H := []) (a := false) (b := res) h))
    · skip
      refine cSkip ?_
      refine QJoin.normal (by simp only [q4, Bool.true_or, Bool.false_or, Bool.true_and, Bool.false_and, Bool.not_true, Bool.not_false, Bool.and_true, Bool.and_false, Bool.or_true, Bool.or_false, cond_true, cond_false]) ?_
      exact wkJ (by kernel_rfl)
  replace h := h q2
  obtain ⟨q26, h⟩ := h
  refine cSeqG ⟨(mkS 33 [(2, .lptr 2 0), (3, .lptr 3 0)]), [(3, (ePlan false a1)), (2, (ePlan false a0))], []⟩ ((!(!(eqv a0.switches a1.switches))) = true) ?_ (fun q6 => ?_)
  · replace h := q26
    refine cSeqG ⟨(mkS 33 [(2, .lptr 2 0), (3, .lptr 3 0), (15, .bool (!(eqv a0.switches a1.switches)))]), [(3, (ePlan false a1)), (2, (ePlan false a0))], []⟩ (True) ?_ (fun q7 => ?_)
    · skip
      refine rgS [] 3 ?_
      refine sCallV 5 (some 14) [(13, .lst (List.map eInt a1.switches) false false), (12, .lptr 3 1), (11, .lst (List.map eInt a0.switches) false false), (10, .lptr 2 1)] [.lst (List.map eInt a0.switches) false false, .lst (List.map eInt a1.switches) false false] (laws_eqIntS_V a0.switches a1.switches) (PW.cons (Snap2.of1 sa_lst) (PW.cons (Snap2.of1 sa_lst) PW.nil)) ?_
      refine sEnd [(15, .bool (!(eqv a0.switches a1.switches)))] ?_
      refine QJoin.normal trivial ?_
      exact wkJ (by kernel_rfl)
    refine cCond (.tmp 15) (!(eqv a0.switches a1.switches)) (fun q8 => ?_) (fun q8 => ?_)
    · replace h := h q8
      refine cSeqG ⟨(mkS 33 [(4, .bool false)]), [(3, (ePlan false a1)), (2, (ePlan false a0))], []⟩ (True) ?_ (fun q9 => ?_)
      · skip
        refine rgS [] 4 ?_
        refine sEnd [(4, .bool false)] ?_
        refine QJoin.normal trivial ?_
        exact wkJ (by kernel_rfl)
      refine cRet ?_
      refine QJoin.ret ?_
      refine rtS (.bool false) [.bool false] ?_
      exact (SnapR3.of1 (sr_bool (H := []) (a := false) (b := res) h))
    · skip
      refine cSkip ?_
      refine QJoin.normal (by simp only [q2, q8, Bool.true_or, Bool.false_or, Bool.true_and, Bool.false_and, Bool.not_true, Bool.not_false, Bool.and_true, Bool.and_false, Bool.or_true, Bool.or_false, cond_true, cond_false]) ?_
      exact wkJ (by kernel_rfl)
  replace h := h q6
  obtain ⟨q25, h⟩ := h
  refine cSeqG ⟨(mkS 33 [(2, .lptr 2 0), (3, .lptr 3 0)]), [(3, (ePlan false a1)), (2, (ePlan false a0))], []⟩ ((!(!(eqv a0.ways a1.ways))) = true) ?_ (fun q10 => ?_)
  · replace h := q25
    refine cSeqG ⟨(mkS 33 [(2, .lptr 2 0), (3, .lptr 3 0), (21, .bool (!(eqv a0.ways a1.ways)))]), [(3, (ePlan false a1)), (2, (ePlan false a0))], []⟩ (True) ?_ (fun q11 => ?_)
    · skip
      refine rgS [] 5 ?_
      refine sCallV 5 (some 20) [(19, .lst (List.map (eWay false) a1.ways) false false), (18, .lptr 3 2), (17, .lst (List.map (eWay false) a0.ways) false false), (16, .lptr 2 2)] [.lst (List.map (eWay false) a0.ways) false false, .lst (List.map (eWay false) a1.ways) false false] (laws_eqWayS_V a0.ways a1.ways) (PW.cons (Snap2.of1 sa_lst) (PW.cons (Snap2.of1 sa_lst) PW.nil)) ?_
      refine sEnd [(21, .bool (!(eqv a0.ways a1.ways)))] ?_
      refine QJoin.normal trivial ?_
      exact wkJ (by kernel_rfl)
    refine cCond (.tmp 21) (!(eqv a0.ways a1.ways)) (fun q12 => ?_) (fun q12 => ?_)
    · replace h := h q12
      refine cSeqG ⟨(mkS 33 [(4, .bool false)]), [(3, (ePlan false a1)), (2, (ePlan false a0))], []⟩ (True) ?_ (fun q13 => ?_)
      · skip
        refine rgS [] 6 ?_
        refine sEnd [(4, .bool false)] ?_
        refine QJoin.normal trivial ?_
        exact wkJ (by kernel_rfl)
      refine cRet ?_
      refine QJoin.ret ?_
      refine rtS (.bool false) [.bool false] ?_
      exact (SnapR3.of1 (sr_bool (H := []) (a := false) (b := res) h))
    · skip
      refine cSkip ?_
      refine QJoin.normal (by simp only [q2, q6, q12, Bool.true_or, Bool.false_or, Bool.true_and, Bool.false_and, Bool.not_true, Bool.not_false, Bool.and_true, Bool.and_false, Bool.or_true, Bool.or_false, cond_true, cond_false]) ?_
      exact wkJ (by kernel_rfl)
  replace h := h q10
  obtain ⟨q24, h⟩ := h
  refine cSeqG ⟨(mkS 33 [(2, .lptr 2 0), (3, .lptr 3 0)]), [(3, (ePlan false a1)), (2, (ePlan false a0))], []⟩ ((!(!(eqv a0.bars a1.bars))) = true) ?_ (fun q14 => ?_)
  · replace h := q24
    refine cSeqG ⟨(mkS 33 [(2, .lptr 2 0), (3, .lptr 3 0), (27, .bool (!(eqv a0.bars a1.bars)))]), [(3, (ePlan false a1)), (2, (ePlan false a0))], []⟩ (True) ?_ (fun q15 => ?_)
    · skip
      refine rgS [] 7 ?_
      refine sCallV 5 (some 26) [(25, .lst (List.map (eL eBool false) a1.bars) false false), (24, .lptr 3 3), (23, .lst (List.map (eL eBool false) a0.bars) false false), (22, .lptr 2 3)] [.lst (List.map (eL eBool false) a0.bars) false false, .lst (List.map (eL eBool false) a1.bars) false false] (laws_eqBoolSS_V a0.bars a1.bars) (PW.cons (Snap2.of1 sa_lst) (PW.cons (Snap2.of1 sa_lst) PW.nil)) ?_
      refine sEnd [(27, .bool (!(eqv a0.bars a1.bars)))] ?_
      refine QJoin.normal trivial ?_
      exact wkJ (by kernel_rfl)
    refine cCond (.tmp 27) (!(eqv a0.bars a1.bars)) (fun q16 => ?_) (fun q16 => ?_)
    · replace h := h q16
      refine cSeqG ⟨(mkS 33 [(4, .bool false)]), [(3, (ePlan false a1)), (2, (ePlan false a0))], []⟩ (True) ?_ (fun q17 => ?_)
      · skip
        refine rgS [] 8 ?_
        refine sEnd [(4, .bool false)] ?_
        refine QJoin.normal trivial ?_
        exact wkJ (by kernel_rfl)
      refine cRet ?_
      refine QJoin.ret ?_
      refine rtS (.bool false) [.bool false] ?_
      exact (SnapR3.of1 (sr_bool (H := []) (a := false) (b := res) h))
    · skip
      refine cSkip ?_
      refine QJoin.normal (by simp only [q2, q6, q10, q16, Bool.true_or, Bool.false_or, Bool.true_and, Bool.false_and, Bool.not_true, Bool.not_false, Bool.and_true, Bool.and_false, Bool.or_true, Bool.or_false, cond_true, cond_false]) ?_
      exact wkJ (by kernel_rfl)
  replace h := h q14
  obtain ⟨q23, h⟩ := h
  refine cSeqG ⟨(mkS 33 []), [(3, (ePlan false a1)), (2, (ePlan false a0))], []⟩ ((!(a0.hold != a1.hold)) = true) ?_ (fun q18 => ?_)
  · replace h := q23
    refine cSeqG ⟨(mkS 33 [(32, .bool (a0.hold != a1.hold))]), [(3, (ePlan false a1)), (2, (ePlan false a0))], []⟩ (True) ?_ (fun q19 => ?_)
    · skip
      refine rgS [] 9 ?_
      refine sEnd [(32, .bool (a0.hold != a1.hold)), (31, .int .i64 a1.hold), (30, .lptr 3 4), (29, .int .i64 a0.hold), (28, .lptr 2 4)] ?_
      refine QJoin.normal trivial ?_
      exact wkJ (by kernel_rfl)
    refine cCond (.tmp 32) (a0.hold != a1.hold) (fun q20 => ?_) (fun q20 => ?_)
    · replace h := h q20
      refine cSeqG ⟨(mkS 33 [(4, .bool false)]), [(3, (ePlan false a1)), (2, (ePlan false a0))], []⟩ (True) ?_ (fun q21 => ?_)
      · skip
        refine rgS [] 10 ?_
        refine sEnd [(4, .bool false)] ?_
        refine QJoin.normal trivial ?_
        exact wkJ (by kernel_rfl)
      refine cRet ?_
      refine QJoin.ret ?_
      refine rtS (.bool false) [.bool false] ?_
      exact (SnapR3.of1 (sr_bool (H := []) (a := false) (b := res) h))
    · skip
      refine cSkip ?_
      refine QJoin.normal (by simp only [q2, q6, q10, q14, q20, Bool.true_or, Bool.false_or, Bool.true_and, Bool.false_and, Bool.not_true, Bool.not_false, Bool.and_true, Bool.and_false, Bool.or_true, Bool.or_false, cond_true, cond_false]) ?_
      exact wkJ (by kernel_rfl)
  replace h := h q18
  refine cSeqG ⟨(mkS 33 [(4, .bool true)]), [(3, (ePlan false a1)), (2, (ePlan false a0))], []⟩ (True) ?_ (fun q22 => ?_)
  · skip
    refine rgS [] 11 ?_
    refine sEnd [(4, .bool true)] ?_
    refine QJoin.normal trivial ?_
    exact wkJ (by kernel_rfl)
  refine cRet ?_
  refine rtS (.bool true) [.bool true] ?_
  exact (SnapR3.of1 (sr_bool (H := []) (a := true) (b := res) h))

set_option maxHeartbeats 4000000 in
theorem laws_eqPlan_vc (a0 : Plan) (a1 : Plan) : laws_eqPlan_C a0 a1 (eqv a0 a1) := by
  unfold laws_eqPlan_C laws_eqPlan_C1
  obtain ⟨a, b, c, d, e⟩ := a0
  obtain ⟨a', b', c', d', e'⟩ := a1
  simp [eqv]
  refine ⟨fun h h1 => absurd h1 h, fun h => ⟨fun k _ k1 => absurd k1 k, ?_⟩⟩
  intros
  simp_all

theorem laws_eqPlan_V (a0 : Plan) (a1 : Plan) : FnV Try.prog 28 [.agg (ePlan false a0), .agg (ePlan false a1)] (.bool (eqv a0 a1)) := laws_eqPlan_walk a0 a1 (eqv a0 a1) (laws_eqPlan_vc a0 a1)

end Go.Proofs.Ytglpfccgmfhkdaa.Fw
