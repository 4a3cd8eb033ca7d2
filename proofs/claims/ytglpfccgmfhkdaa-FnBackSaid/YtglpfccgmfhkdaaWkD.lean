/- Walks and summaries of functions, printed by a program of mine (tools/mk.py), with the proofs of what they owe. -/

import Derived.Test.YtglpfccgmfhkdaaProg
import Derived.Test.YtglpfccgmfhkdaaSpD
import Derived.Test.YtglpfccgmfhkdaaWkA
import Derived.Test.YtglpfccgmfhkdaaWkB
import Derived.Test.YtglpfccgmfhkdaaWkC
set_option linter.unusedVariables false
set_option maxRecDepth 100000
set_option maxHeartbeats 4000000
set_option linter.unusedSimpArgs false
namespace Go.Proofs.Ytglpfccgmfhkdaa.Fw
open Go
attribute [local irreducible] evS evSD WpS Weak Oper.looksAt
noncomputable def impl_right_b : Code := bodyC Try.f60
def impl_right_C (a0 : Plan) (res : Bool) : Prop :=
 (((planOk a0).code) == 0 && ((planOk a0).pos) == 0) = res
theorem impl_right_walk (a0 : Plan) (res : Bool) (h : impl_right_C a0 res) : FnV Try.prog 60 [.agg (ePlan false a0)] (ab res) := by
 unfold impl_right_C at h
 refine FnS.go (fn := Try.f60) [(0, .agg (ePlan false a0))] Try.func60 ?_
 show WpS _ (nv impl_right_b 1) _ ⟨mkS 7 [(0, .agg (ePlan false a0))], [], []⟩
 refine cRN [] 0 [(2, ab false), (1, ap 1 0)] [0, 1, 1] [] [(1, (ePlan false a0))] [] ?_
 refine cSeqM [(2, ab (((planOk a0).code) == 0 && ((planOk a0).pos) == 0))] [] (True) ?_ (fun q2 => ?_)
 ·
  refine rgS [] 1 ?_
  refine sCallV 2 (some 4) [(3, .agg (ePlan false a0))] [.agg (ePlan false a0)] (impl_PlanOk_V a0) (PW.cons (Snap2.agg (PW.cons (.int _ _) (PW.cons sa_lst (PW.cons sa_lst (PW.cons sa_lst (PW.cons (.int _ _) PW.nil)))))) PW.nil) ?_
  exact sEJ [(2, ab (((planOk a0).code) == 0 && ((planOk a0).pos) == 0)), (6, ab (((planOk a0).code) == 0 && ((planOk a0).pos) == 0)), (5, .agg [ai 0, ai 0])] trivial
 exact cRet (rt1 (ab (((planOk a0).code) == 0 && ((planOk a0).pos) == 0)) (SnapR3.of1 (sr_bool h)))
theorem impl_right_V (a0 : Plan) : FnV Try.prog 60 [.agg (ePlan false a0)] (ab (planGood a0)) := impl_right_walk a0 (planGood a0) (by
 exact planOk_both a0)
noncomputable def impl_evOk_1_b : Code := bodyC Try.f122
def impl_evOk_1_C (a0 : Int) (a1 : Event) (res : Bool) : Prop :=
 ((decide (a1.tgt ≥ 0)) && (decide (a1.tgt < a0))) = res
theorem impl_evOk_1_walk (a0 : Int) (a1 : Event) (res : Bool) (h : impl_evOk_1_C a0 a1 res) : FnV Try.prog 122 [ai a0, .rp (eEvent a1) 0] (ab res) := by
 unfold impl_evOk_1_C at h
 refine FnS.go (fn := Try.f122) [(0, ai a0), (1, .rp (eEvent a1) 0)] Try.func122 ?_
 show WpS _ (nv impl_evOk_1_b 1) _ ⟨mkS 13 [(0, ai a0), (1, .rp (eEvent a1) 0)], [], []⟩
 refine cRM [] 0 [(3, ab false)] [] [2] ?_
 refine cSeqM [(3, ab ((decide (a1.tgt ≥ 0)) && (decide (a1.tgt < a0))))] [] (True) ?_ (fun q2 => ?_)
 ·
  refine rgS [] 1 ?_
  refine sCase1 4 7 (decide (a1.tgt ≥ 0)) [(6, ab (decide (a1.tgt ≥ 0))), (5, ai a1.tgt), (4, .rp (eEvent a1) 1)] (fun q3 => ?_) (fun q3 => ?_)
  ·
   exact sEJ [(3, ab (decide (a1.tgt < a0))), (12, ab (decide (a1.tgt < a0))), (11, ab (decide (a1.tgt < a0))), (10, ai a0), (9, ai a1.tgt), (8, .rp (eEvent a1) 1)] trivial (by simp only [q3] <;> kernel_rfl)
  ·
   exact sEJ ([(3, ab false), (12, ab false)] ++ tz [11, 10, 9, 8]) trivial (by simp only [q3] <;> kernel_rfl)
 exact cRet (rt1 (ab ((decide (a1.tgt ≥ 0)) && (decide (a1.tgt < a0)))) (SnapR3.of1 (sr_bool h)))
theorem impl_evOk_1_V (a0 : Int) (a1 : Event) : FnV Try.prog 122 [ai a0, .rp (eEvent a1) 0] (ab (inTgt a0 a1)) := impl_evOk_1_walk a0 a1 (inTgt a0 a1) (by
 rfl)
noncomputable def impl_evOk_b : Code := bodyC Try.f62
def impl_evOk_C1 (a0 : Plan) (a1 : Event) (res : Bool) : Prop :=
  ((a1.op == 5) = true → a0.switches.length ≤ 4611686018427387904 → ((inTgt (a0.switches.length : Int) a1) && ((decide (a1.lie ≥ 0)) && (decide (a1.lie ≤ 2)))) = res) ∧ ((a1.op == 5) = false → ((a1.op == 6) = true → a0.switches.length ≤ 4611686018427387904 → ((inTgt (a0.switches.length : Int) a1) && ((decide (a1.lie ≥ 1)) && (decide (a1.lie ≤ 2)))) = res) ∧ ((a1.op == 6) = false → (a1.op == 7) = true → ((a1.tgt == 0) && (a1.lie == 0)) = res))
def impl_evOk_C2 (a0 : Plan) (a1 : Event) (res : Bool) : Prop :=
  ((bif (a1.op == 1) then (a1.op == 1) else (a1.op == 2)) = true → a0.ways.length ≤ 4611686018427387904 → ((inTgt (a0.ways.length : Int) a1) && (a1.lie == 0)) = res) ∧ ((bif (a1.op == 1) then (a1.op == 1) else (a1.op == 2)) = false → ((bif (a1.op == 3) then (a1.op == 3) else (a1.op == 4)) = true → ((inTgt a0.sections a1) && (a1.lie == 0)) = res) ∧ ((bif (a1.op == 3) then (a1.op == 3) else (a1.op == 4)) = false → impl_evOk_C1 a0 a1 res))
def impl_evOk_C (a0 : Plan) (a1 : Event) (res : Bool) : Prop :=
 (impl_evOk_C2 a0 a1 res) ∧ ((!(bif (a1.op == 1) then (a1.op == 1) else (a1.op == 2)) && (!(bif (a1.op == 3) then (a1.op == 3) else (a1.op == 4)) && (!(a1.op == 5) && (!(a1.op == 6) && (!(a1.op == 7)))))) = true → false = res)
theorem impl_evOk_walk (a0 : Plan) (a1 : Event) (res : Bool) (h : impl_evOk_C a0 a1 res) : FnV Try.prog 62 [.agg (ePlan false a0), .agg (eEvent a1)] (ab res) := by
 unfold impl_evOk_C at h
 refine FnS.go (fn := Try.f62) [(0, .agg (ePlan false a0)), (1, .agg (eEvent a1))] Try.func62 ?_
 show WpS _ (nv impl_evOk_b 1) _ ⟨mkS 78 [(0, .agg (ePlan false a0)), (1, .agg (eEvent a1))], [], []⟩
 refine cRN [] 0 [(4, ab false), (3, ap 3 0), (2, ap 2 0)] [0, 1, 2] [] [(3, (eEvent a1)), (2, (ePlan false a0))] [] ?_
 refine cRM [] 1 [(5, .fn 122 [ap 3 0]), (6, .fn 122 [ap 3 0])] [1] [2] ?_
 obtain ⟨q35, h⟩ := h
 refine cSeqM [] [] ((!(bif (a1.op == 1) then (a1.op == 1) else (a1.op == 2)) && (!(bif (a1.op == 3) then (a1.op == 3) else (a1.op == 4)) && (!(a1.op == 5) && (!(a1.op == 6) && (!(a1.op == 7)))))) = true) ?_ (fun q3 => ?_)
 ·
  replace h := q35
  refine cRM [] 2 [(8, ai a1.op), (7, ap 3 0)] [1] [3] ?_
  refine cBlock 0 ?_
  refine cSeqM [(9, ab (bif (a1.op == 1) then (a1.op == 1) else (a1.op == 2)))] [4] (True) ?_ (fun q5 => ?_)
  ·
   refine cRM [] 3 [(9, ab (a1.op == 1)), (10, ab (a1.op == 1))] [1] [4] ?_
   refine cCond1 (fun q7 => ?_) (fun q7 => ?_)
   ·
    refine cSkip ?_
    exact QJoin.normal trivial (wkJ (by simp only [q7] <;> kernel_rfl))
   ·
    refine rgS [] 4 ?_
    exact sEJ [(9, ab (a1.op == 2)), (11, ab (a1.op == 2))] trivial (by simp only [q7] <;> kernel_rfl)
  unfold impl_evOk_C2 at h
  refine cCond1 (fun q8 => ?_) (fun q8 => ?_)
  ·
   replace h := h.1 q8
   refine cSeqM [(4, ab ((inTgt (a0.ways.length : Int) a1) && (a1.lie == 0)))] [] (a0.ways.length ≤ 4611686018427387904) ?_ (fun q9 => ?_)
   ·
    refine rgS [] 5 ?_
    refine sLen 4 (some 15) [(14, al (eWay false) a0.ways), (13, ap 2 2), (12, .fn 122 [ap 3 0])] (eWay false) a0.ways (fun q10 => ?_)
    refine sCallV 1 (some 16) [] [ai (a0.ways.length : Int), ap 3 0] (impl_evOk_1_V (a0.ways.length : Int) a1) (PW.cons (Snap2.of1 (.int _ _)) (PW.cons (Snap2.of1 (sa_lptr (by kernel_rfl) (CellsIn.cons (.int _ _) (CellsIn.cons (.int _ _) (CellsIn.cons (.int _ _) CellsIn.nil))))) PW.nil)) ?_
    refine sCase1 1 17 (inTgt (a0.ways.length : Int) a1) [] (fun q11 => ?_) (fun q11 => ?_)
    ·
     exact sEJ [(4, ab (a1.lie == 0)), (21, ab (a1.lie == 0)), (20, ab (a1.lie == 0)), (19, ai a1.lie), (18, ap 3 2)] q10 (by simp only [q8, q11] <;> kernel_rfl)
    ·
     exact sEJ ([(4, ab false), (21, ab false)] ++ tz [20, 19, 18]) q10 (by simp only [q8, q11] <;> kernel_rfl)
   replace h := h q9
   exact cRet (QBlock.ret (QJoin.ret (rt1 (ab ((inTgt (a0.ways.length : Int) a1) && (a1.lie == 0))) (SnapR3.of1 (sr_bool h)))))
  ·
   replace h := h.2 q8
   refine cSeqM [(22, ab (bif (a1.op == 3) then (a1.op == 3) else (a1.op == 4)))] [0, 1, 4] (True) ?_ (fun q12 => ?_)
   ·
    refine cRM [] 6 [(22, ab (a1.op == 3)), (23, ab (a1.op == 3))] [1] [0, 1, 4] ?_
    refine cCond1 (fun q14 => ?_) (fun q14 => ?_)
    ·
     refine cSkip ?_
     exact QJoin.normal trivial (wkJ (by simp only [q8, q14] <;> kernel_rfl))
    ·
     refine rgS [] 7 ?_
     exact sEJ [(22, ab (a1.op == 4)), (24, ab (a1.op == 4))] trivial (by simp only [q8, q14] <;> kernel_rfl)
   refine cCond1 (fun q15 => ?_) (fun q15 => ?_)
   ·
    replace h := h.1 q15
    refine cSeqM [(4, ab ((inTgt a0.sections a1) && (a1.lie == 0)))] [] (True) ?_ (fun q16 => ?_)
    ·
     refine rgS [] 8 ?_
     refine sCallV 4 (some 28) [(27, ai a0.sections), (26, ap 2 0), (25, .fn 122 [ap 3 0])] [ai a0.sections, ap 3 0] (impl_evOk_1_V a0.sections a1) (PW.cons (Snap2.of1 (.int _ _)) (PW.cons (Snap2.of1 (sa_lptr (by kernel_rfl) (CellsIn.cons (.int _ _) (CellsIn.cons (.int _ _) (CellsIn.cons (.int _ _) CellsIn.nil))))) PW.nil)) ?_
     refine sCase1 1 29 (inTgt a0.sections a1) [] (fun q17 => ?_) (fun q17 => ?_)
     ·
      exact sEJ [(4, ab (a1.lie == 0)), (33, ab (a1.lie == 0)), (32, ab (a1.lie == 0)), (31, ai a1.lie), (30, ap 3 2)] trivial (by simp only [q8, q15, q17] <;> kernel_rfl)
     ·
      exact sEJ ([(4, ab false), (33, ab false)] ++ tz [32, 31, 30]) trivial (by simp only [q8, q15, q17] <;> kernel_rfl)
    exact cRet (QBlock.ret (QJoin.ret (rt1 (ab ((inTgt a0.sections a1) && (a1.lie == 0))) (SnapR3.of1 (sr_bool h)))))
   ·
    replace h := h.2 q15
    refine cRM [] 9 [(34, ab (a1.op == 5)), (35, ab (a1.op == 5))] [1] [0, 1, 4] ?_
    unfold impl_evOk_C1 at h
    refine cCond1 (fun q19 => ?_) (fun q19 => ?_)
    ·
     replace h := h.1 q19
     refine cSeqM [(4, ab ((inTgt (a0.switches.length : Int) a1) && ((decide (a1.lie ≥ 0)) && (decide (a1.lie ≤ 2)))))] [] (a0.switches.length ≤ 4611686018427387904) ?_ (fun q20 => ?_)
     ·
      refine rgS [] 10 ?_
      refine sLen 4 (some 39) [(38, al eInt a0.switches), (37, ap 2 1), (36, .fn 122 [ap 3 0])] eInt a0.switches (fun q21 => ?_)
      refine sCallV 1 (some 40) [] [ai (a0.switches.length : Int), ap 3 0] (impl_evOk_1_V (a0.switches.length : Int) a1) (PW.cons (Snap2.of1 (.int _ _)) (PW.cons (Snap2.of1 (sa_lptr (by kernel_rfl) (CellsIn.cons (.int _ _) (CellsIn.cons (.int _ _) (CellsIn.cons (.int _ _) CellsIn.nil))))) PW.nil)) ?_
      refine sCase1 1 41 (inTgt (a0.switches.length : Int) a1) [] (fun q22 => ?_) (fun q22 => ?_)
      ·
       refine sCase1 5 46 (decide (a1.lie ≥ 0)) [(45, ab (decide (a1.lie ≥ 0))), (44, ab (decide (a1.lie ≥ 0))), (43, ai a1.lie), (42, ap 3 2)] (fun q23 => ?_) (fun q23 => ?_)
       ·
        exact sEJ [(4, ab (decide (a1.lie ≤ 2))), (50, ab (decide (a1.lie ≤ 2))), (49, ab (decide (a1.lie ≤ 2))), (48, ai a1.lie), (47, ap 3 2)] q21 (by simp only [q8, q15, q19, q22, q23] <;> kernel_rfl)
       ·
        exact sEJ ([(4, ab false), (50, ab false)] ++ tz [49, 48, 47]) q21 (by simp only [q8, q15, q19, q22, q23] <;> kernel_rfl)
      ·
       exact sEJ ([(4, ab false), (50, ab false)] ++ tz [49, 48, 47] ++ [(46, ab false), (45, ab false)] ++ tz [44, 43, 42]) q21 (by simp only [q8, q15, q19, q22] <;> kernel_rfl)
     replace h := h q20
     exact cRet (QBlock.ret (QJoin.ret (rt1 (ab ((inTgt (a0.switches.length : Int) a1) && ((decide (a1.lie ≥ 0)) && (decide (a1.lie ≤ 2))))) (SnapR3.of1 (sr_bool h)))))
    ·
     replace h := h.2 q19
     refine cRM [] 11 [(51, ab (a1.op == 6)), (52, ab (a1.op == 6))] [1] [0, 1, 4] ?_
     refine cCond1 (fun q25 => ?_) (fun q25 => ?_)
     ·
      replace h := h.1 q25
      refine cSeqM [(4, ab ((inTgt (a0.switches.length : Int) a1) && ((decide (a1.lie ≥ 1)) && (decide (a1.lie ≤ 2)))))] [] (a0.switches.length ≤ 4611686018427387904) ?_ (fun q26 => ?_)
      ·
       refine rgS [] 12 ?_
       refine sLen 4 (some 56) [(55, al eInt a0.switches), (54, ap 2 1), (53, .fn 122 [ap 3 0])] eInt a0.switches (fun q27 => ?_)
       refine sCallV 1 (some 57) [] [ai (a0.switches.length : Int), ap 3 0] (impl_evOk_1_V (a0.switches.length : Int) a1) (PW.cons (Snap2.of1 (.int _ _)) (PW.cons (Snap2.of1 (sa_lptr (by kernel_rfl) (CellsIn.cons (.int _ _) (CellsIn.cons (.int _ _) (CellsIn.cons (.int _ _) CellsIn.nil))))) PW.nil)) ?_
       refine sCase1 1 58 (inTgt (a0.switches.length : Int) a1) [] (fun q28 => ?_) (fun q28 => ?_)
       ·
        refine sCase1 5 63 (decide (a1.lie ≥ 1)) [(62, ab (decide (a1.lie ≥ 1))), (61, ab (decide (a1.lie ≥ 1))), (60, ai a1.lie), (59, ap 3 2)] (fun q29 => ?_) (fun q29 => ?_)
        ·
         exact sEJ [(4, ab (decide (a1.lie ≤ 2))), (67, ab (decide (a1.lie ≤ 2))), (66, ab (decide (a1.lie ≤ 2))), (65, ai a1.lie), (64, ap 3 2)] q27 (by simp only [q8, q15, q19, q25, q28, q29] <;> kernel_rfl)
        ·
         exact sEJ ([(4, ab false), (67, ab false)] ++ tz [66, 65, 64]) q27 (by simp only [q8, q15, q19, q25, q28, q29] <;> kernel_rfl)
       ·
        exact sEJ ([(4, ab false), (67, ab false)] ++ tz [66, 65, 64] ++ [(63, ab false), (62, ab false)] ++ tz [61, 60, 59]) q27 (by simp only [q8, q15, q19, q25, q28] <;> kernel_rfl)
      replace h := h q26
      exact cRet (QBlock.ret (QJoin.ret (rt1 (ab ((inTgt (a0.switches.length : Int) a1) && ((decide (a1.lie ≥ 1)) && (decide (a1.lie ≤ 2))))) (SnapR3.of1 (sr_bool h)))))
     ·
      replace h := h.2 q25
      refine cRM [] 13 [(68, ab (a1.op == 7)), (69, ab (a1.op == 7))] [1] [0, 3, 1] ?_
      refine cCond1 (fun q31 => ?_) (fun q31 => ?_)
      ·
       replace h := h q31
       refine cSeqM [(4, ab ((a1.tgt == 0) && (a1.lie == 0)))] [] (True) ?_ (fun q32 => ?_)
       ·
        refine rgS [] 14 ?_
        refine sCase1 4 73 (a1.tgt == 0) [(72, ab (a1.tgt == 0)), (71, ai a1.tgt), (70, ap 3 1)] (fun q33 => ?_) (fun q33 => ?_)
        ·
         exact sEJ [(4, ab (a1.lie == 0)), (77, ab (a1.lie == 0)), (76, ab (a1.lie == 0)), (75, ai a1.lie), (74, ap 3 2)] trivial (by simp only [q8, q15, q19, q25, q31, q33] <;> kernel_rfl)
        ·
         exact sEJ ([(4, ab false), (77, ab false)] ++ tz [76, 75, 74]) trivial (by simp only [q8, q15, q19, q25, q31, q33] <;> kernel_rfl)
       exact cRet (QBlock.ret (QJoin.ret (rt1 (ab ((a1.tgt == 0) && (a1.lie == 0))) (SnapR3.of1 (sr_bool h)))))
      ·
       refine cSkip ?_
       refine QBlock.normal ?_
       exact QJoin.normal (by simp only [q8, q15, q19, q25, q31] <;> rfl) wkJ
 replace h := h q3
 refine cRM [] 15 [(4, ab false)] [1] [] ?_
 exact cRet (rt1 (ab false) (SnapR3.of1 (sr_bool h)))
theorem impl_evOk_V (a0 : Plan) (a1 : Event) : FnV Try.prog 62 [.agg (ePlan false a0), .agg (eEvent a1)] (ab (evGood a0 a1)) := impl_evOk_walk a0 a1 (evGood a0 a1) (by
 unfold impl_evOk_C impl_evOk_C2 impl_evOk_C1
 rw [orB, orB, beq_dec, beq_dec, beq_dec, beq_dec, beq_dec, tgt_in, tgt_in, tgt_in]
 simp only [decide_eq_true_eq, decide_eq_false_iff_not]
 refine ⟨⟨fun h hl => ?_, fun h1 => ⟨fun h => ?_, fun h3 => ⟨fun h hl => ?_, fun h5 => ⟨fun h hl => ?_, fun h6 h => ?_⟩⟩⟩⟩, fun h => ?_⟩
 ·rw [ev12 h]
 ·rw [ev34 h1 h]
 ·rw [ev5 h]; rfl
 ·rw [ev6 h]; rfl
 ·rw [ev7 h]
 ·simp only [Bool.and_eq_true, Bool.not_eq_true', decide_eq_false_iff_not] at h
  exact (evNo h.1 h.2.1 h.2.2.1 h.2.2.2.1 h.2.2.2.2).symm)
end Go.Proofs.Ytglpfccgmfhkdaa.Fw
