/- Walks and summaries of functions, printed by a program of mine (tools/mk.py), with the proofs of what they owe. -/
import Derived.Test.YtglpfccgmfhkdaaProg
import Derived.Test.YtglpfccgmfhkdaaSpI
import Derived.Test.YtglpfccgmfhkdaaWkA
import Derived.Test.YtglpfccgmfhkdaaWkE
import Derived.Test.YtglpfccgmfhkdaaWkG
import Derived.Test.YtglpfccgmfhkdaaWkI
set_option linter.unusedVariables false
set_option maxRecDepth 100000
set_option maxHeartbeats 4000000
set_option linter.unusedSimpArgs false
namespace Go.Proofs.Ytglpfccgmfhkdaa.Fw
open Go
attribute [local irreducible] evS evSD WpS Weak Oper.looksAt
noncomputable def impl_is_b : Code := bodyC Try.f107
def impl_is_C (a0 : Int) (a1 : Int) (res : Bool) : Prop :=
 ((decide (a0 ≥ 0)) && (decide (a0 < a1))) = res
theorem impl_is_walk (a0 : Int) (a1 : Int) (res : Bool) (h : impl_is_C a0 a1 res) : FnV Try.prog 107 [ai a0, ai a1] (ab res) := by
 unfold impl_is_C at h
 refine FnS.go (fn := Try.f107) [(0, ai a0), (1, ai a1)] Try.func107 ?_
 show WpS _ (nv impl_is_b 1) _ ⟨mkS 12 [(0, ai a0), (1, ai a1)], [], []⟩
 refine cRM [] 0 [(4, ab false)] [] [2] ?_
 refine cSeqM [(4, ab ((decide (a0 ≥ 0)) && (decide (a0 < a1))))] [] (True) ?_ (fun q2 => ?_)
 ·
  refine rgS [] 1 ?_
  refine sCase1 3 7 (decide (a0 ≥ 0)) [(6, ab (decide (a0 ≥ 0))), (5, ai a0)] (fun q3 => ?_) (fun q3 => ?_)
  ·
   exact sEJ [(4, ab (decide (a0 < a1))), (11, ab (decide (a0 < a1))), (10, ab (decide (a0 < a1))), (9, ai a1), (8, ai a0)] trivial (by simp only [q3] <;> kernel_rfl)
  ·
   exact sEJ ([(4, ab false), (11, ab false)] ++ tz [10, 9, 8]) trivial (by simp only [q3] <;> kernel_rfl)
 exact cRet (rt1 (ab ((decide (a0 ≥ 0)) && (decide (a0 < a1)))) (SnapR3.of1 (sr_bool h)))

theorem impl_is_V (a0 : Int) (a1 : Int) : FnV Try.prog 107 [ai a0, ai a1] (ab (isIn a0 a1)) := impl_is_walk a0 a1 (isIn a0 a1) (by
 unfold impl_is_C isIn
 rfl)

noncomputable def spec_Proved_b : Code := bodyC Try.f44
def spec_Proved_C (a0 : Plan) (a1 : Frame) (a2 : Int) (res : Bool) : Prop :=
 ((frameSm a0 a1) ∧ ((frameOk a0 a1) = true → a0.ways.length ≤ 4611686018427387904 → (inR a2 0 (IntKind.i64.wrap ((a0.ways.length : Int) - 1))) = true → provedPre a0 a1 a2)) ∧ (((frameOk a0 a1) && ((inR a2 0 (IntKind.i64.wrap ((a0.ways.length : Int) - 1))) && (provedF a0 a1 a2))) = res)
theorem spec_Proved_walk (a0 : Plan) (a1 : Frame) (a2 : Int) (res : Bool) (h : spec_Proved_C a0 a1 a2 res) : FnV Try.prog 44 [.agg (ePlan false a0), .agg (eFrame false a1), ai a2] (ab res) := by
 unfold spec_Proved_C at h
 refine FnS.go (fn := Try.f44) [(0, .agg (ePlan false a0)), (1, .agg (eFrame false a1)), (2, ai a2)] Try.func44 ?_
 show WpS _ (nv spec_Proved_b 1) _ ⟨mkS 24 [(0, .agg (ePlan false a0)), (1, .agg (eFrame false a1)), (2, ai a2)], [], []⟩
 refine cRN [] 0 [(6, ab false), (4, ap 4 0), (3, ap 3 0)] [0, 1, 2] [0, 2, 1] [(4, (eFrame false a1)), (3, (ePlan false a0))] [] ?_
 obtain ⟨q8, h⟩ := h
 refine cSeqM [(6, ab ((frameOk a0 a1) && ((inR a2 0 (IntKind.i64.wrap ((a0.ways.length : Int) - 1))) && (provedF a0 a1 a2))))] [] (True) ?_ (fun q2 => ?_)
 ·
  replace h := q8
  refine rgS [] 1 ?_
  obtain ⟨q3, h⟩ := h
  refine sCallV 3 (some 9) [(8, .agg (eFrame false a1)), (7, .agg (ePlan false a0))] [.agg (ePlan false a0), .agg (eFrame false a1)] (spec_FrameOk_V a0 a1 q3) (PW.cons (Snap2.agg (PW.cons (.int _ _) (PW.cons sa_lst (PW.cons sa_lst (PW.cons sa_lst (PW.cons (.int _ _) PW.nil)))))) (PW.cons (Snap2.agg (PW.cons (.bool _) (PW.cons sa_lst (PW.cons sa_lst (PW.cons sa_lst PW.nil))))) PW.nil)) ?_
  refine sCase1 1 10 (frameOk a0 a1) [] (fun q4 => ?_) (fun q4 => ?_)
  ·
   replace h := h q4
   refine sLen 4 (some 14) [(13, al (eWay false) a0.ways), (12, ap 3 2), (11, ai a2)] (eWay false) a0.ways (fun q5 => ?_)
   replace h := h q5
   refine sCallV 2 (some 16) [(15, ai (IntKind.i64.wrap ((a0.ways.length : Int) - 1)))] [ai a2, ai 0, ai (IntKind.i64.wrap ((a0.ways.length : Int) - 1))] (spec_l1in_V a2 0 (IntKind.i64.wrap ((a0.ways.length : Int) - 1))) (PW.cons (Snap2.of1 (.int _ _)) (PW.cons (Snap2.of1 (.int _ _)) (PW.cons (Snap2.of1 (.int _ _)) PW.nil))) ?_
   refine sCase1 2 18 (inR a2 0 (IntKind.i64.wrap ((a0.ways.length : Int) - 1))) [(17, ab (inR a2 0 (IntKind.i64.wrap ((a0.ways.length : Int) - 1))))] (fun q6 => ?_) (fun q6 => ?_)
   ·
    replace h := h q6
    have q7 := h
    refine sCallV 4 (some 22) [(21, ai a2), (20, .agg (eFrame false a1)), (19, .agg (ePlan false a0))] [.agg (ePlan false a0), .agg (eFrame false a1), ai a2] (spec_l2proved_V a0 a1 a2 q7) (PW.cons (Snap2.agg (PW.cons (.int _ _) (PW.cons sa_lst (PW.cons sa_lst (PW.cons sa_lst (PW.cons (.int _ _) PW.nil)))))) (PW.cons (Snap2.agg (PW.cons (.bool _) (PW.cons sa_lst (PW.cons sa_lst (PW.cons sa_lst PW.nil))))) (PW.cons (Snap2.of1 (.int _ _)) PW.nil))) ?_
    exact sEJ [(6, ab (provedF a0 a1 a2)), (23, ab (provedF a0 a1 a2))] trivial (by simp only [q4, q6] <;> kernel_rfl)
   ·
    exact sEJ ([(6, ab false), (23, ab false)] ++ tz [22, 21, 20, 19]) trivial (by simp only [q4, q6] <;> kernel_rfl)
  ·
   exact sEJ ([(6, ab false), (23, ab false)] ++ tz [22, 21, 20, 19] ++ [(18, ab false), (17, ab false)] ++ tz [16, 15, 14, 13, 12, 11]) trivial (by simp only [q4] <;> kernel_rfl)
 exact cRet (rt1 (ab ((frameOk a0 a1) && ((inR a2 0 (IntKind.i64.wrap ((a0.ways.length : Int) - 1))) && (provedF a0 a1 a2)))) (SnapR3.of1 (sr_bool h)))

theorem spec_Proved_V (a0 : Plan) (a1 : Frame) (a2 : Int) (hp : frameSm3 a0 a1 a2) : FnV Try.prog 44 [.agg (ePlan false a0), .agg (eFrame false a1), ai a2] (ab (ProvedF a0 a1 a2)) := spec_Proved_walk a0 a1 a2 (ProvedF a0 a1 a2) (by
  unfold spec_Proved_C
  have key : frameOk a0 a1 = true → IntKind.i64.wrap ((a0.ways.length : Int) - 1) = (a0.ways.length : Int) - 1 := fun h => by
    have := (frameOk_fit h).in.ways
    exact w64 (by omega) (by omega)
  refine ⟨⟨hp, fun h _ hi => ?_⟩, ?_⟩
  · rw [key h, isIn_R] at hi
    have hi := isIn_iff.1 hi
    exact ⟨(frameOk_fit h).in, (frameOk_fit h).fr, hi.1, hi.2⟩
  · unfold ProvedF
    cases h : frameOk a0 a1 with
    | false => rfl
    | true => rw [key h, isIn_R])

noncomputable def impl_Proved_b : Code := bodyC Try.f45
def impl_Proved_C (a0 : Plan) (a1 : Frame) (a2 : Int) (res : Bool) : Prop :=
 ((frameSm a0 a1) ∧ ((frameOk a0 a1) = true → a0.ways.length ≤ 4611686018427387904 → (isIn a2 (a0.ways.length : Int)) = true → provedPre a0 a1 a2)) ∧ (((frameOk a0 a1) && ((isIn a2 (a0.ways.length : Int)) && (provedF a0 a1 a2))) = res)
theorem impl_Proved_walk (a0 : Plan) (a1 : Frame) (a2 : Int) (res : Bool) (h : impl_Proved_C a0 a1 a2 res) : FnV Try.prog 45 [.agg (ePlan false a0), .agg (eFrame false a1), ai a2] (ab res) := by
 unfold impl_Proved_C at h
 refine FnS.go (fn := Try.f45) [(0, .agg (ePlan false a0)), (1, .agg (eFrame false a1)), (2, ai a2)] Try.func45 ?_
 show WpS _ (nv impl_Proved_b 1) _ ⟨mkS 23 [(0, .agg (ePlan false a0)), (1, .agg (eFrame false a1)), (2, ai a2)], [], []⟩
 refine cRN [] 0 [(6, ab false), (4, ap 4 0), (3, ap 3 0)] [0, 1, 2] [0, 2, 1] [(4, (eFrame false a1)), (3, (ePlan false a0))] [] ?_
 obtain ⟨q8, h⟩ := h
 refine cSeqM [(6, ab ((frameOk a0 a1) && ((isIn a2 (a0.ways.length : Int)) && (provedF a0 a1 a2))))] [] (True) ?_ (fun q2 => ?_)
 ·
  replace h := q8
  refine rgS [] 1 ?_
  obtain ⟨q3, h⟩ := h
  refine sCallV 3 (some 9) [(8, .agg (eFrame false a1)), (7, .agg (ePlan false a0))] [.agg (ePlan false a0), .agg (eFrame false a1)] (impl_FrameOk_V a0 a1 q3) (PW.cons (Snap2.agg (PW.cons (.int _ _) (PW.cons sa_lst (PW.cons sa_lst (PW.cons sa_lst (PW.cons (.int _ _) PW.nil)))))) (PW.cons (Snap2.agg (PW.cons (.bool _) (PW.cons sa_lst (PW.cons sa_lst (PW.cons sa_lst PW.nil))))) PW.nil)) ?_
  refine sCase1 1 10 (frameOk a0 a1) [] (fun q4 => ?_) (fun q4 => ?_)
  ·
   replace h := h q4
   refine sLen 4 (some 14) [(13, al (eWay false) a0.ways), (12, ap 3 2), (11, ai a2)] (eWay false) a0.ways (fun q5 => ?_)
   replace h := h q5
   refine sCallV 1 (some 15) [] [ai a2, ai (a0.ways.length : Int)] (impl_is_V a2 (a0.ways.length : Int)) (PW.cons (Snap2.of1 (.int _ _)) (PW.cons (Snap2.of1 (.int _ _)) PW.nil)) ?_
   refine sCase1 2 17 (isIn a2 (a0.ways.length : Int)) [(16, ab (isIn a2 (a0.ways.length : Int)))] (fun q6 => ?_) (fun q6 => ?_)
   ·
    replace h := h q6
    have q7 := h
    refine sCallV 4 (some 21) [(20, ai a2), (19, .agg (eFrame false a1)), (18, .agg (ePlan false a0))] [.agg (ePlan false a0), .agg (eFrame false a1), ai a2] (impl_proved_V a0 a1 a2 q7) (PW.cons (Snap2.agg (PW.cons (.int _ _) (PW.cons sa_lst (PW.cons sa_lst (PW.cons sa_lst (PW.cons (.int _ _) PW.nil)))))) (PW.cons (Snap2.agg (PW.cons (.bool _) (PW.cons sa_lst (PW.cons sa_lst (PW.cons sa_lst PW.nil))))) (PW.cons (Snap2.of1 (.int _ _)) PW.nil))) ?_
    exact sEJ [(6, ab (provedF a0 a1 a2)), (22, ab (provedF a0 a1 a2))] trivial (by simp only [q4, q6] <;> kernel_rfl)
   ·
    exact sEJ ([(6, ab false), (22, ab false)] ++ tz [21, 20, 19, 18]) trivial (by simp only [q4, q6] <;> kernel_rfl)
  ·
   exact sEJ ([(6, ab false), (22, ab false)] ++ tz [21, 20, 19, 18] ++ [(17, ab false), (16, ab false)] ++ tz [15, 14, 13, 12, 11]) trivial (by simp only [q4] <;> kernel_rfl)
 exact cRet (rt1 (ab ((frameOk a0 a1) && ((isIn a2 (a0.ways.length : Int)) && (provedF a0 a1 a2)))) (SnapR3.of1 (sr_bool h)))

theorem impl_Proved_V (a0 : Plan) (a1 : Frame) (a2 : Int) (hp : frameSm3 a0 a1 a2) : FnV Try.prog 45 [.agg (ePlan false a0), .agg (eFrame false a1), ai a2] (ab (ProvedF a0 a1 a2)) := impl_Proved_walk a0 a1 a2 (ProvedF a0 a1 a2) (by
 unfold impl_Proved_C
 refine ⟨⟨hp, fun h _ hi => ?_⟩, rfl⟩
 have hi := isIn_iff.1 hi
 exact ⟨(frameOk_fit h).in, (frameOk_fit h).fr, hi.1, hi.2⟩)

end Go.Proofs.Ytglpfccgmfhkdaa.Fw
