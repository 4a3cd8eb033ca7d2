/- Walks and summaries of functions, printed by a program of mine (tools/mk.py), with the proofs of what they owe. -/
import Derived.Test.YtglpfccgmfhkdaaProg
import Derived.Test.YtglpfccgmfhkdaaWkJ
import Derived.Test.YtglpfccgmfhkdaaWkM
set_option linter.unusedVariables false
set_option maxRecDepth 100000
set_option maxHeartbeats 4000000
set_option linter.unusedSimpArgs false
namespace Go.Proofs.Ytglpfccgmfhkdaa.Fw
open Go
attribute [local irreducible] evS evSD WpS Weak Oper.looksAt
noncomputable def laws_FnExactLockedBy_b : Code := bodyC Try.f12
def laws_FnExactLockedBy_o8 : List Item := [iq 0, iq 1, iq 2, iq 3, iq 4, iq 5, iq 6]
def laws_FnExactLockedBy_o8a : List (List Nat) := [[], [0], [], [0, 1, 2], [], rg 0 5, rg 0 6]
def laws_FnExactLockedBy_o14 : List Item := [iq 0, iq 1, iq 2, iq 3, iq 4]
def laws_FnExactLockedBy_o14a : List (List Nat) := [[], [], [1], [0, 1, 2], rg 0 4]
def laws_FnExactLockedBy_o16 : List Item := [iq 0, iq 1, iq 2, iq 3, iq 4]
def laws_FnExactLockedBy_o16a : List (List Nat) := [[], [], [1], [0, 1, 2], rg 0 4]
def laws_FnExactLockedBy_C1 (a0 : Plan) (a1 : Frame) (a2 : Int) (res : Bool) : Prop :=
  (((LockedByF (idt a0) (idt a1) a2) != (LockedByF (idt a0) (idt a1) a2)) = true → false = res) ∧ ((!((LockedByF (idt a0) (idt a1) a2) != (LockedByF (idt a0) (idt a1) a2))) = true → ((smallPlan a0) ∧ ((!(eqv (idt a0) (idt a0))) = true → false = res)) ∧ ((!(!(eqv (idt a0) (idt a0)))) = true → ((smallFr a1) ∧ ((!(eqv (idt a1) (idt a1))) = true → false = res)) ∧ ((!(!(eqv (idt a1) (idt a1)))) = true → true = res)))
def laws_FnExactLockedBy_C2 (a0 : Plan) (a1 : Frame) (a2 : Int) (res : Bool) : Prop :=
  ((decide ((szPlan a0 1048576) < 0)) = true → true = res) ∧ ((!(decide ((szPlan a0 1048576) < 0))) = true → (okL a1 (szPlan a0 1048576)) ∧ (((decide ((szFrame a1 (szPlan a0 1048576)) < 0)) = true → true = res) ∧ ((!(decide ((szFrame a1 (szPlan a0 1048576)) < 0))) = true → ((smallPlan a0) ∧ ((smallFr a1) ∧ (frameSm3 (idt a0) (idt a1) a2))) ∧ ((smallPlan a0) ∧ ((smallFr a1) ∧ ((frameSm3 (idt a0) (idt a1) a2) ∧ (laws_FnExactLockedBy_C1 a0 a1 a2 res)))))))
def laws_FnExactLockedBy_C (a0 : Plan) (a1 : Frame) (a2 : Int) (res : Bool) : Prop :=
 (okL a0 1048576) ∧ (laws_FnExactLockedBy_C2 a0 a1 a2 res)
theorem laws_FnExactLockedBy_walk (a0 : Plan) (a1 : Frame) (a2 : Int) (res : Bool) (h : laws_FnExactLockedBy_C a0 a1 a2 res) : FnV Try.prog 12 [.agg (ePlan false a0), .agg (eFrame false a1), ai a2] (ab res) := by
 unfold laws_FnExactLockedBy_C at h
 refine FnS.go (fn := Try.f12) [(0, .agg (ePlan false a0)), (1, .agg (eFrame false a1)), (2, ai a2)] Try.func12 ?_
 show WpS _ (nv laws_FnExactLockedBy_b 1) _ ⟨mkS 49 [(0, .agg (ePlan false a0)), (1, .agg (eFrame false a1)), (2, ai a2)], [], []⟩
 refine cRN [] 0 [(6, ab false), (4, ap 4 0), (3, ap 3 0)] [0, 1, 2] [0, 2, 1] [(4, (eFrame false a1)), (3, (ePlan false a0))] [] ?_
 refine cRM [] 1 [(7, ai 1048576)] [1] [3] ?_
 obtain ⟨q52, h⟩ := h
 refine cSeqM [(7, ai (szPlan a0 1048576))] [0, 1, 3] (True) ?_ (fun q3 => ?_)
 ·
  replace h := q52
  refine rgS [] 2 ?_
  have q4 := h
  refine sCallV 3 (some 14) [(13, ai 1048576), (12, .agg (ePlan false a0))] [.agg (ePlan false a0), ai 1048576] (laws_szPlan_V a0 1048576 q4) (PW.cons (Snap2.agg (PW.cons (.int _ _) (PW.cons sa_lst (PW.cons sa_lst (PW.cons sa_lst (PW.cons (.int _ _) PW.nil)))))) (PW.cons (Snap2.of1 (.int _ _)) PW.nil)) ?_
  exact sEJ [(7, ai (szPlan a0 1048576))] trivial
 unfold laws_FnExactLockedBy_C2 at h
 obtain ⟨q51, h⟩ := h
 refine cSeqM [] [4] ((!(decide ((szPlan a0 1048576) < 0))) = true) ?_ (fun q5 => ?_)
 ·
  replace h := q51
  refine cRM [] 3 [(16, ab (decide ((szPlan a0 1048576) < 0))), (15, ai (szPlan a0 1048576))] [1] [4] ?_
  refine cCond1 (fun q7 => ?_) (fun q7 => ?_)
  ·
   replace h := h q7
   refine cRM [] 4 [(6, ab true)] [1] [] ?_
   exact cRet (QJoin.ret (rt1 (ab true) (SnapR3.of1 (sr_bool h))))
  ·
   refine cSkip ?_
   exact QJoin.normal (by simp only [q7] <;> rfl) wkJ
 replace h := h q5
 obtain ⟨q50, h⟩ := h
 refine cSeqM [(7, ai (szFrame a1 (szPlan a0 1048576)))] [0, 1, 3] (True) ?_ (fun q9 => ?_)
 ·
  replace h := q50
  refine rgS [] 5 ?_
  have q10 := h
  refine sCallV 3 (some 19) [(18, ai (szPlan a0 1048576)), (17, .agg (eFrame false a1))] [.agg (eFrame false a1), ai (szPlan a0 1048576)] (laws_szFrame_V a1 (szPlan a0 1048576) q10) (PW.cons (Snap2.agg (PW.cons (.bool _) (PW.cons sa_lst (PW.cons sa_lst (PW.cons sa_lst PW.nil))))) (PW.cons (Snap2.of1 (.int _ _)) PW.nil)) ?_
  exact sEJ [(7, ai (szFrame a1 (szPlan a0 1048576)))] trivial
 obtain ⟨q49, h⟩ := h
 refine cSeqM [] [0, 1, 3] ((!(decide ((szFrame a1 (szPlan a0 1048576)) < 0))) = true) ?_ (fun q11 => ?_)
 ·
  replace h := q49
  refine cRM [] 6 [(21, ab (decide ((szFrame a1 (szPlan a0 1048576)) < 0))), (20, ai (szFrame a1 (szPlan a0 1048576)))] [1] [0, 1, 3] ?_
  refine cCond1 (fun q13 => ?_) (fun q13 => ?_)
  ·
   replace h := h q13
   refine cRM [] 7 [(6, ab true)] [1] [] ?_
   exact cRet (QJoin.ret (rt1 (ab true) (SnapR3.of1 (sr_bool h))))
  ·
   refine cSkip ?_
   exact QJoin.normal (by simp only [q5, q13] <;> rfl) wkJ
 replace h := h q11
 obtain ⟨q48, h⟩ := h
 refine cSeqM [(8, ai (LockedByF (idt a0) (idt a1) a2))] [3] (True) ?_ (fun q15 => ?_)
 ·
  replace h := q48
  refine rgD [] 8 laws_FnExactLockedBy_o8 laws_FnExactLockedBy_o8a [] ?_
  obtain ⟨q16, h⟩ := h
  refine tCallV 2 (some 23) [(22, .agg (ePlan false a0))] [.agg (ePlan false a0)] (laws_toPlan_V a0 q16) (PW.cons (Snap2.agg (PW.cons (.int _ _) (PW.cons sa_lst (PW.cons sa_lst (PW.cons sa_lst (PW.cons (.int _ _) PW.nil)))))) PW.nil) ?_
  obtain ⟨q17, h⟩ := h
  refine tCallV 2 (some 25) [(24, .agg (eFrame false a1))] [.agg (eFrame false a1)] (laws_toFrame_V a1 q17) (PW.cons (Snap2.agg (PW.cons (.bool _) (PW.cons sa_lst (PW.cons sa_lst (PW.cons sa_lst PW.nil))))) PW.nil) ?_
  have q18 := h
  refine tCallV 2 (some 27) [(26, ai a2)] [.agg (ePlan true (idt a0)), .agg (eFrame true (idt a1)), ai a2] (spec_LockedBy_V (idt a0) (idt a1) a2 q18) (PW.cons (Snap2.agg (PW.cons (.int _ _) (PW.cons sa_lst (PW.cons sa_lst (PW.cons sa_lst (PW.cons (.int _ _) PW.nil)))))) (PW.cons (Snap2.agg (PW.cons (.bool _) (PW.cons sa_lst (PW.cons sa_lst (PW.cons sa_lst PW.nil))))) (PW.cons (Snap2.of1 (.int _ _)) PW.nil))) ?_
  exact tEJ [(8, ai (LockedByF (idt a0) (idt a1) a2))] trivial
 obtain ⟨q47, h⟩ := h
 refine cSeqE [(9, ap 9 0)] [4] (fun L => (9, (ePlan true (idt a0))) :: L) id (True) ?_ (fun q19 => ?_)
 ·
  replace h := q47
  refine rgS [] 9 ?_
  have q20 := h
  refine sCallV 2 (some 29) [(28, .agg (ePlan false a0))] [.agg (ePlan false a0)] (laws_toPlan_V a0 q20) (PW.cons (Snap2.agg (PW.cons (.int _ _) (PW.cons sa_lst (PW.cons sa_lst (PW.cons sa_lst (PW.cons (.int _ _) PW.nil)))))) PW.nil) ?_
  exact sEJ [(9, ap 9 0)] trivial
 obtain ⟨q46, h⟩ := h
 refine cSeqE [(10, ap 10 0)] [5] (fun L => (10, (eFrame true (idt a1))) :: L) id (True) ?_ (fun q21 => ?_)
 ·
  replace h := q46
  refine rgS [] 10 ?_
  have q22 := h
  refine sCallV 2 (some 31) [(30, .agg (eFrame false a1))] [.agg (eFrame false a1)] (laws_toFrame_V a1 q22) (PW.cons (Snap2.agg (PW.cons (.bool _) (PW.cons sa_lst (PW.cons sa_lst (PW.cons sa_lst PW.nil))))) PW.nil) ?_
  exact sEJ [(10, ap 10 0)] trivial
 obtain ⟨q45, h⟩ := h
 refine cSeqM [(11, ai (LockedByF (idt a0) (idt a1) a2))] [5] (True) ?_ (fun q23 => ?_)
 ·
  replace h := q45
  refine rgS [] 11 ?_
  have q24 := h
  refine sCallV 4 (some 35) [(34, ai a2), (33, .agg (eFrame true (idt a1))), (32, .agg (ePlan true (idt a0)))] [.agg (ePlan true (idt a0)), .agg (eFrame true (idt a1)), ai a2] (impl_LockedBy_V (idt a0) (idt a1) a2 q24) (PW.cons (Snap2.agg (PW.cons (.int _ _) (PW.cons sa_lst (PW.cons sa_lst (PW.cons sa_lst (PW.cons (.int _ _) PW.nil)))))) (PW.cons (Snap2.agg (PW.cons (.bool _) (PW.cons sa_lst (PW.cons sa_lst (PW.cons sa_lst PW.nil))))) (PW.cons (Snap2.of1 (.int _ _)) PW.nil))) ?_
  exact sEJ [(11, ai (LockedByF (idt a0) (idt a1) a2))] trivial
 unfold laws_FnExactLockedBy_C1 at h
 obtain ⟨q44, h⟩ := h
 refine cSeqM [] [0, 1, 2, 1, 2] ((!((LockedByF (idt a0) (idt a1) a2) != (LockedByF (idt a0) (idt a1) a2))) = true) ?_ (fun q25 => ?_)
 ·
  replace h := q44
  refine cRM [] 12 [(38, ab ((LockedByF (idt a0) (idt a1) a2) != (LockedByF (idt a0) (idt a1) a2))), (37, ai (LockedByF (idt a0) (idt a1) a2)), (36, ai (LockedByF (idt a0) (idt a1) a2))] [1] [0, 1, 2, 1, 2] ?_
  refine cCond1 (fun q27 => ?_) (fun q27 => ?_)
  ·
   replace h := h q27
   refine cRM [] 13 [(6, ab false)] [1] [] ?_
   exact cRet (QJoin.ret (rt1 (ab false) (SnapR3.of1 (sr_bool h))))
  ·
   refine cSkip ?_
   exact QJoin.normal (by simp only [q5, q11, q27] <;> rfl) wkJ
 replace h := h q25
 obtain ⟨q43, h⟩ := h
 refine cSeqM [] [1, 1, 1] ((!(!(eqv (idt a0) (idt a0)))) = true) ?_ (fun q29 => ?_)
 ·
  replace h := q43
  obtain ⟨q34, h⟩ := h
  refine cSeqM [(43, ab (!(eqv (idt a0) (idt a0))))] [1, 1, 1] (True) ?_ (fun q30 => ?_)
  ·
   replace h := q34
   refine rgD [] 14 laws_FnExactLockedBy_o14 laws_FnExactLockedBy_o14a [] ?_
   have q31 := h
   refine tCallV 3 (some 41) [(40, .agg (ePlan false a0)), (39, .agg (ePlan true (idt a0)))] [.agg (ePlan false a0)] (laws_toPlan_V a0 q31) (PW.cons (Snap2.agg (PW.cons (.int _ _) (PW.cons sa_lst (PW.cons sa_lst (PW.cons sa_lst (PW.cons (.int _ _) PW.nil)))))) PW.nil) ?_
   refine tCallV 1 (some 42) [] [.agg (ePlan true (idt a0)), .agg (ePlan true (idt a0))] (laws_eqPlan_V (idt a0) (idt a0)) (PW.cons (Snap2.agg (PW.cons (.int _ _) (PW.cons sa_lst (PW.cons sa_lst (PW.cons sa_lst (PW.cons (.int _ _) PW.nil)))))) (PW.cons (Snap2.agg (PW.cons (.int _ _) (PW.cons sa_lst (PW.cons sa_lst (PW.cons sa_lst (PW.cons (.int _ _) PW.nil)))))) PW.nil)) ?_
   exact tEJ [(43, ab (!(eqv (idt a0) (idt a0))))] trivial
  refine cCond1 (fun q32 => ?_) (fun q32 => ?_)
  ·
   replace h := h q32
   refine cRM [] 15 [(6, ab false)] [1] [] ?_
   exact cRet (QJoin.ret (rt1 (ab false) (SnapR3.of1 (sr_bool h))))
  ·
   refine cSkip ?_
   exact QJoin.normal (by simp only [q5, q11, q25, q32] <;> rfl) wkJ
 replace h := h q29
 obtain ⟨q42, h⟩ := h
 refine cSeqM [] [] ((!(!(eqv (idt a1) (idt a1)))) = true) ?_ (fun q35 => ?_)
 ·
  replace h := q42
  obtain ⟨q40, h⟩ := h
  refine cSeqM [(48, ab (!(eqv (idt a1) (idt a1))))] [] (True) ?_ (fun q36 => ?_)
  ·
   replace h := q40
   refine rgD [] 16 laws_FnExactLockedBy_o16 laws_FnExactLockedBy_o16a [] ?_
   have q37 := h
   refine tCallV 3 (some 46) [(45, .agg (eFrame false a1)), (44, .agg (eFrame true (idt a1)))] [.agg (eFrame false a1)] (laws_toFrame_V a1 q37) (PW.cons (Snap2.agg (PW.cons (.bool _) (PW.cons sa_lst (PW.cons sa_lst (PW.cons sa_lst PW.nil))))) PW.nil) ?_
   refine tCallV 1 (some 47) [] [.agg (eFrame true (idt a1)), .agg (eFrame true (idt a1))] (laws_eqFrame_V (idt a1) (idt a1)) (PW.cons (Snap2.agg (PW.cons (.bool _) (PW.cons sa_lst (PW.cons sa_lst (PW.cons sa_lst PW.nil))))) (PW.cons (Snap2.agg (PW.cons (.bool _) (PW.cons sa_lst (PW.cons sa_lst (PW.cons sa_lst PW.nil))))) PW.nil)) ?_
   exact tEJ [(48, ab (!(eqv (idt a1) (idt a1))))] trivial
  refine cCond1 (fun q38 => ?_) (fun q38 => ?_)
  ·
   replace h := h q38
   refine cRM [] 17 [(6, ab false)] [1] [] ?_
   exact cRet (QJoin.ret (rt1 (ab false) (SnapR3.of1 (sr_bool h))))
  ·
   refine cSkip ?_
   exact QJoin.normal (by simp only [q5, q11, q25, q29, q38] <;> rfl) wkJ
 replace h := h q35
 refine cRM [] 18 [(6, ab true)] [1] [] ?_
 exact cRet (rt1 (ab true) (SnapR3.of1 (sr_bool h)))

theorem laws_FnExactLockedBy_V (a0 : Plan) (a1 : Frame) (a2 : Int) : FnV Try.prog 12 [.agg (ePlan false a0), .agg (eFrame false a1), ai a2] (ab (yes3 a0 a1 a2)) := laws_FnExactLockedBy_walk a0 a1 a2 (yes3 a0 a1 a2) (by
 unfold laws_FnExactLockedBy_C laws_FnExactLockedBy_C2 laws_FnExactLockedBy_C1
 refine ⟨⟨by omega, by omega⟩, fun _ => rfl, fun h => ?_⟩
 have hs := small_of h
 have hl := left_of (n := planN a0) ⟨by omega, by omega⟩ h
 refine ⟨hl.2, fun _ => rfl, fun h2 => ?_⟩
 have hf : smallFr a1 := (left_of (n := frameN a1) hl.2 h2).1
 have hF : frameSm3 (idt a0) (idt a1) a2 := smallFr_F hf
 exact ⟨⟨hs, hf, hF⟩, hs, hf, hF, fun h => by simp at h, fun _ => ⟨⟨hs, fun h => by simp [eqv] at h⟩, fun _ => ⟨⟨hf, fun h => by simp [eqv] at h⟩, fun _ => rfl⟩⟩⟩)

end Go.Proofs.Ytglpfccgmfhkdaa.Fw
