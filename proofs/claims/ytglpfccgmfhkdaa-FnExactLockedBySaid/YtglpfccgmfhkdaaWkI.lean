/- Walks and summaries of functions, printed by a program of mine (tools/mk.py), with the proofs of what they owe. -/
import Derived.Test.YtglpfccgmfhkdaaProg
import Derived.Test.YtglpfccgmfhkdaaSpH
import Derived.Test.YtglpfccgmfhkdaaWkA
import Derived.Test.YtglpfccgmfhkdaaWkB
import Derived.Test.YtglpfccgmfhkdaaWkC
import Derived.Test.YtglpfccgmfhkdaaWkD
import Derived.Test.YtglpfccgmfhkdaaWkE
import Derived.Test.YtglpfccgmfhkdaaWkF
import Derived.Test.YtglpfccgmfhkdaaWkG
import Derived.Test.YtglpfccgmfhkdaaWkH
set_option linter.unusedVariables false
set_option maxRecDepth 100000
set_option maxHeartbeats 4000000
set_option linter.unusedSimpArgs false
namespace Go.Proofs.Ytglpfccgmfhkdaa.Fw
open Go
attribute [local irreducible] evS evSD WpS Weak Oper.looksAt
noncomputable def spec_FrameOk_b : Code := bodyC Try.f41
def spec_FrameOk_C1 (a0 : Plan) (a1 : Frame) (res : Bool) : Prop :=
  (setPreM a0 ((idt a1).ok) ((idt a1).occ) ((idt a1).points) ((idt a1).ways) (List.range ((idt a1).ways).length) (List.map Held.been ((idt a1).ways))) ∧ (∀ (w27 : List Held) (i28 : List Nat) (b29 : List (List Bool)), setPostM a0 ((idt a1).ok) ((idt a1).occ) ((idt a1).points) ((idt a1).ways) (List.range ((idt a1).ways).length) (List.map Held.been ((idt a1).ways)) ((idt a1).occ) ((idt a1).points) w27 i28 b29 → ((((idt a1).occ).length ≤ 4611686018427387904 ∧ ((idt a1).points).length ≤ 4611686018427387904 ∧ (FamOk w27 i28 b29 ∧ w27.length ≤ 4611686018427387904 ∧ (∀ x ∈ b29, List.length x ≤ 4611686018427387904)) ∧ samePre a1 (Frame.mk ((idt a1).ok) ((idt a1).occ) ((idt a1).points) (view w27 i28 b29))) ∧ ((sameW a1 (Frame.mk ((idt a1).ok) ((idt a1).occ) ((idt a1).points) (view w27 i28 b29))) = res)))
def spec_FrameOk_C2 (a0 : Plan) (a1 : Frame) (res : Bool) (v76 : Int) (v65 : Int) : Prop :=
  ((v65 != v76) = true → (0 ≤ v65 ∧ v65.toNat < a0.bars.length) ∧ ((0 ≤ v76 ∧ v76.toNat < (nth a0.bars v65).length) ∧ ((nth (nth a0.bars v65) v76) = true → (0 ≤ v65 ∧ v65.toNat < a1.ways.length) ∧ ((((nth a1.ways v65).state) != 0) = true → 0 ≤ v76 ∧ v76.toNat < a1.ways.length)))) ∧ (((v65 != v76) && ((nth (nth a0.bars v65) v76) && ((((nth a1.ways v65).state) != 0) && (((nth a1.ways v76).state) != 0)))) = true → false = res)
def spec_FrameOk_C3 (I1 : Int → Int → Prop) (m1 : Int → Int → Nat) (I2 : Int → Int → Int → Prop) (m2 : Int → Int → Int → Nat) (a0 : Plan) (a1 : Frame) (res : Bool) (v47 : Int) (v76 : Int) (v65 : Int) : Prop :=
  ((decide (v76 < (a1.ways.length : Int))) = false → I1 v47 (IntKind.i64.wrap (v65 + 1)) ∧ m1 v47 (IntKind.i64.wrap (v65 + 1)) < m1 v47 v65) ∧ ((decide (v76 < (a1.ways.length : Int))) = true → (spec_FrameOk_C2 a0 a1 res v76 v65) ∧ ((!((v65 != v76) && ((nth (nth a0.bars v65) v76) && ((((nth a1.ways v65).state) != 0) && (((nth a1.ways v76).state) != 0))))) = true → I2 v47 v65 (IntKind.i64.wrap (v76 + 1)) ∧ m2 v47 v65 (IntKind.i64.wrap (v76 + 1)) < m2 v47 v65 v76))
def spec_FrameOk_C4 (I0 : Int → Prop) (m0 : Int → Nat) (I1 : Int → Int → Prop) (m1 : Int → Int → Nat) (I2 : Int → Int → Int → Prop) (m2 : Int → Int → Int → Nat) (a0 : Plan) (a1 : Frame) (res : Bool) (v47 : Int) : Prop :=
  ((decide (v47 < (a1.points.length : Int))) = false → a1.ways.length ≤ 4611686018427387904 → I1 v47 0 ∧ ∀ (v65 : Int), I1 v47 v65 → (((decide (v65 < (a1.ways.length : Int))) = false → (smallF a1) ∧ (spec_FrameOk_C1 a0 a1 res)) ∧ ((decide (v65 < (a1.ways.length : Int))) = true → ((heldPre a0 a1 v65) ∧ ((!(heldOk a0 a1 v65)) = true → false = res)) ∧ ((!(!(heldOk a0 a1 v65))) = true → I2 v47 v65 0 ∧ ∀ (v76 : Int), I2 v47 v65 v76 → (spec_FrameOk_C3 I1 m1 I2 m2 a0 a1 res v47 v76 v65))))) ∧ ((decide (v47 < (a1.points.length : Int))) = true → ((0 ≤ v47 ∧ v47.toNat < a1.points.length) ∧ (((!(inR ((nth a1.points v47).want) 1 2)) || (!(inR ((nth a1.points v47).lies) 0 2))) = true → false = res)) ∧ ((!((!(inR ((nth a1.points v47).want) 1 2)) || (!(inR ((nth a1.points v47).lies) 0 2)))) = true → I0 (IntKind.i64.wrap (v47 + 1)) ∧ m0 (IntKind.i64.wrap (v47 + 1)) < m0 v47))
def spec_FrameOk_C5 (I0 : Int → Prop) (m0 : Int → Nat) (I1 : Int → Int → Prop) (m1 : Int → Int → Nat) (I2 : Int → Int → Int → Prop) (m2 : Int → Int → Int → Nat) (a0 : Plan) (a1 : Frame) (res : Bool) : Prop :=
  (((!(planGood a0)) || ((!a1.ok) || (((a1.occ.length : Int) != a0.sections) || (((a1.points.length : Int) != (a0.switches.length : Int)) || ((a1.ways.length : Int) != (a0.ways.length : Int)))))) = true → false = res) ∧ ((!((!(planGood a0)) || ((!a1.ok) || (((a1.occ.length : Int) != a0.sections) || (((a1.points.length : Int) != (a0.switches.length : Int)) || ((a1.ways.length : Int) != (a0.ways.length : Int))))))) = true → a1.points.length ≤ 4611686018427387904 → I0 0 ∧ ∀ (v47 : Int), I0 v47 → (spec_FrameOk_C4 I0 m0 I1 m1 I2 m2 a0 a1 res v47))
def spec_FrameOk_C (a0 : Plan) (a1 : Frame) (res : Bool) (I0 : Int → Prop) (m0 : Int → Nat) (I1 : Int → Int → Prop) (m1 : Int → Int → Nat) (I2 : Int → Int → Int → Prop) (m2 : Int → Int → Int → Nat) : Prop :=
 spec_FrameOk_C5 I0 m0 I1 m1 I2 m2 a0 a1 res
theorem spec_FrameOk_walk (a0 : Plan) (a1 : Frame) (res : Bool) (I0 : Int → Prop) (m0 : Int → Nat) (I1 : Int → Int → Prop) (m1 : Int → Int → Nat) (I2 : Int → Int → Int → Prop) (m2 : Int → Int → Int → Nat) (h : spec_FrameOk_C a0 a1 res I0 m0 I1 m1 I2 m2) : FnV Try.prog 41 [.agg (ePlan false a0), .agg (eFrame false a1)] (ab res) := by
 unfold spec_FrameOk_C at h
 refine FnS.go (fn := Try.f41) [(0, .agg (ePlan false a0)), (1, .agg (eFrame false a1))] Try.func41 ?_
 show WpS _ (nv spec_FrameOk_b 1) _ ⟨mkS 119 [(0, .agg (ePlan false a0)), (1, .agg (eFrame false a1))], [], []⟩
 refine WpS.weak ?_ (weak_eq (s'' := ⟨(mkS 119 [(0, .agg (ePlan false a0)), (1, .agg (eFrame false a1))]), [], [⟨0, 4, []⟩]⟩) (Weak.newB (T := (mkS 119 [(0, .agg (ePlan false a0)), (1, .agg (eFrame false a1))])) (L := []) (H := []) 4) (by kernel_rfl))
 refine cRN [2000009] 0 [(4, ab false), (3, ap 3 0), (2, ap 2 0)] [0, 1, 2] [] [(3, (eFrame false a1)), (2, (ePlan false a0))] [⟨0, 4, []⟩] ?_
 unfold spec_FrameOk_C5 at h
 obtain ⟨q81, h⟩ := h
 refine cSeqM [] [2] ((!((!(planGood a0)) || ((!a1.ok) || (((a1.occ.length : Int) != a0.sections) || (((a1.points.length : Int) != (a0.switches.length : Int)) || ((a1.ways.length : Int) != (a0.ways.length : Int))))))) = true) ?_ (fun q2 => ?_)
 ·
  replace h := q81
  refine cSeqM [(43, ab ((!(planGood a0)) || ((!a1.ok) || (((a1.occ.length : Int) != a0.sections) || (((a1.points.length : Int) != (a0.switches.length : Int)) || ((a1.ways.length : Int) != (a0.ways.length : Int)))))))] [2] (True) ?_ (fun q3 => ?_)
  ·
   refine rgS [2000009] 1 ?_
   refine sCallV 2 (some 11) [(10, .agg (ePlan false a0))] [.agg (ePlan false a0)] (spec_l1ok_V a0) (PW.cons (Snap2.agg (PW.cons (.int _ _) (PW.cons sa_lst (PW.cons sa_lst (PW.cons sa_lst (PW.cons (.int _ _) PW.nil)))))) PW.nil) ?_
   refine sCase1 2 13 (!(planGood a0)) [(12, ab (!(planGood a0)))] (fun q4 => ?_) (fun q4 => ?_)
   ·
    exact sEJ ([(43, ab true)] ++ tz [42, 41, 40, 39, 38, 37, 36] ++ [(35, ab true), (34, ab true)] ++ tz [33, 32, 31, 30, 29, 28, 27] ++ [(26, ab true), (25, ab true)] ++ tz [24, 23, 22, 21, 20, 19] ++ [(18, ab true), (17, ab true)] ++ tz [16, 15, 14]) trivial (by simp only [q4] <;> kernel_rfl)
   ·
    refine sCase1 5 18 (!a1.ok) [(17, ab (!a1.ok)), (16, ab (!a1.ok)), (15, ab a1.ok), (14, ap 3 0)] (fun q5 => ?_) (fun q5 => ?_)
    ·
     exact sEJ ([(43, ab true)] ++ tz [42, 41, 40, 39, 38, 37, 36] ++ [(35, ab true), (34, ab true)] ++ tz [33, 32, 31, 30, 29, 28, 27] ++ [(26, ab true), (25, ab true)] ++ tz [24, 23, 22, 21, 20, 19]) trivial (by simp only [q4, q5] <;> kernel_rfl)
    ·
     refine sLen 3 (some 21) [(20, al eBool a1.occ), (19, ap 3 1)] eBool a1.occ (fun q6 => ?_)
     refine sCase1 5 26 ((a1.occ.length : Int) != a0.sections) [(25, ab ((a1.occ.length : Int) != a0.sections)), (24, ab ((a1.occ.length : Int) != a0.sections)), (23, ai a0.sections), (22, ap 2 0)] (fun q7 => ?_) (fun q7 => ?_)
     ·
      exact sEJ ([(43, ab true)] ++ tz [42, 41, 40, 39, 38, 37, 36] ++ [(35, ab true), (34, ab true)] ++ tz [33, 32, 31, 30, 29, 28, 27]) trivial (by simp only [q4, q5, q7] <;> kernel_rfl)
     ·
      refine sLen 3 (some 29) [(28, al ePoint a1.points), (27, ap 3 2)] ePoint a1.points (fun q8 => ?_)
      refine sLen 3 (some 32) [(31, al eInt a0.switches), (30, ap 2 1)] eInt a0.switches (fun q9 => ?_)
      refine sCase1 3 35 ((a1.points.length : Int) != (a0.switches.length : Int)) [(34, ab ((a1.points.length : Int) != (a0.switches.length : Int))), (33, ab ((a1.points.length : Int) != (a0.switches.length : Int)))] (fun q10 => ?_) (fun q10 => ?_)
      ·
       exact sEJ ([(43, ab true)] ++ tz [42, 41, 40, 39, 38, 37, 36]) trivial (by simp only [q4, q5, q7, q10] <;> kernel_rfl)
      ·
       refine sLen 3 (some 38) [(37, al (eHeld false) a1.ways), (36, ap 3 3)] (eHeld false) a1.ways (fun q11 => ?_)
       refine sLen 3 (some 41) [(40, al (eWay false) a0.ways), (39, ap 2 2)] (eWay false) a0.ways (fun q12 => ?_)
       exact sEJ [(43, ab ((a1.ways.length : Int) != (a0.ways.length : Int))), (42, ab ((a1.ways.length : Int) != (a0.ways.length : Int)))] trivial (by simp only [q4, q5, q7, q10] <;> kernel_rfl)
  refine cCond1 (fun q13 => ?_) (fun q13 => ?_)
  ·
   replace h := h q13
   refine cRM [2000009] 2 [(4, ab false)] [1] [] ?_
   exact cRet (QJoin.ret (rt1 (ab false) (SnapR3.of1 (sr_bool h))))
  ·
   refine cSkip ?_
   exact QJoin.normal (by simp only [q13] <;> rfl) wkJ
 replace h := h q2
 refine cSeq ?_
 refine cSeqM [(45, al ePoint a1.points), (46, ai (a1.points.length : Int)), (47, ai 0)] [2] (a1.points.length ≤ 4611686018427387904) ?_ (fun q15 => ?_)
 ·
  refine rgS [2000009] 3 ?_
  refine sLen 3 (some 46) [(45, al ePoint a1.points), (44, ap 3 2)] ePoint a1.points (fun q16 => ?_)
  exact sEJ [(47, ai 0)] q16
 replace h := h q15
 refine cBlock 0 ?_
 obtain ⟨q80, h⟩ := h
 refine cLoop (fun (v : Int) => (⟨(mkS 119 [(2, ap 2 0), (3, ap 3 0), (45, al ePoint a1.points), (46, ai (a1.points.length : Int)), (47, ai v)]), [(3, (eFrame false a1)), (2, (ePlan false a0))], [⟨0, 4, []⟩]⟩ : St)) (fun (v : Int) => I0 v) (fun (v : Int) => m0 v) 0 (wkL []) q80 (fun v47 hI => ?_)
 replace h := h v47 hI
 refine cRM [2000009] 4 [(48, ab (decide (v47 < (a1.points.length : Int))))] [1] [5] ?_
 unfold spec_FrameOk_C4 at h
 obtain ⟨q79, h⟩ := h
 refine cSeqM [] [0, 1, 5] ((decide (v47 < (a1.points.length : Int))) = true) ?_ (fun q18 => ?_)
 ·
  replace h := q79
  refine cCond1 (fun q19 => ?_) (fun q19 => ?_)
  ·
   refine cSkip ?_
   exact QJoin.normal (by simp only [q2, q19] <;> rfl) wkJ
  ·
   replace h := h q19
   refine cExit 0 ?_
   refine QJoin.exit ?_
   refine QRound.exit ?_
   refine QBlock.here ?_
   refine QSeq.normal ?_
   refine cSeq ?_
   refine cSeqG ⟨(mkS 119 [(2, ap 2 0), (3, ap 3 0), (64, ai (a1.ways.length : Int)), (65, ai 0)]), [(3, (eFrame false a1)), (2, (ePlan false a0))], [⟨0, 4, []⟩]⟩ (a1.ways.length ≤ 4611686018427387904) ?_ (fun q20 => ?_)
   ·
    refine rgS [2000009] 9 ?_
    refine sLen 3 (some 64) [(63, al (eHeld false) a1.ways), (62, ap 3 3)] (eHeld false) a1.ways (fun q21 => ?_)
    exact sEJ [(65, ai 0)] q21
   replace h := h q20
   refine cBlock 2 ?_
   obtain ⟨q69, h⟩ := h
   refine cLoop (fun (v : Int) => (⟨(mkS 119 [(2, ap 2 0), (3, ap 3 0), (64, ai (a1.ways.length : Int)), (65, ai v)]), [(3, (eFrame false a1)), (2, (ePlan false a0))], [⟨0, 4, []⟩]⟩ : St)) (fun (v : Int) => I1 v47 v) (fun (v : Int) => m1 v47 v) 0 (wkL []) q69 (fun v65 hI => ?_)
   replace h := h v65 hI
   refine cRM [2000009] 10 [(66, ab (decide (v65 < (a1.ways.length : Int))))] [1] [4] ?_
   obtain ⟨q68, h⟩ := h
   refine cSeqM [] [0, 1, 4] ((decide (v65 < (a1.ways.length : Int))) = true) ?_ (fun q23 => ?_)
   ·
    replace h := q68
    refine cCond1 (fun q24 => ?_) (fun q24 => ?_)
    ·
     refine cSkip ?_
     exact QJoin.normal (by simp only [q2, q19, q24] <;> rfl) wkJ
    ·
     replace h := h q24
     refine cExit 2 ?_
     refine QJoin.exit ?_
     refine QRound.exit ?_
     refine QBlock.here ?_
     refine QSeq.normal ?_
     obtain ⟨q38, h⟩ := h
     refine cSeqG ⟨(mkS 119 [(2, ap 2 0), (3, ap 3 0), (9, .ptr 0 1 0 0)]), [(3, (eFrame false a1)), (2, (ePlan false a0))], (⟨1, 4, [[ab ((idt a1).ok), rf 1 0 (((idt a1).occ).length), rf 2 0 (((idt a1).points).length), rf 3 0 (((idt a1).ways).length)]]⟩ :: ⟨0, 1, List.map eBool ((idt a1).occ)⟩ :: ⟨0, 2, List.map ePoint ((idt a1).points)⟩ :: ⟨0, 5, hRows 4 ((idt a1).ways) (List.range ((idt a1).ways).length)⟩ :: List.map fbk (List.map Held.been ((idt a1).ways)))⟩ (True) ?_ (fun q25 => ?_)
     ·
      replace h := q38
      refine rgS [2000009] 21 ?_
      have q26 := h
      refine sCallO 2 (some 113) [(112, .agg (eFrame false a1))] [.agg (eFrame false a1)] (.agg [ab ((idt a1).ok), rf 1 0 (((idt a1).occ).length), rf 2 0 (((idt a1).points).length), rf 3 0 (((idt a1).ways).length)]) (⟨0, 4, []⟩ :: ⟨0, 1, List.map eBool ((idt a1).occ)⟩ :: ⟨0, 2, List.map ePoint ((idt a1).points)⟩ :: ⟨0, 5, hRows 4 ((idt a1).ways) (List.range ((idt a1).ways).length)⟩ :: List.map fbk (List.map Held.been ((idt a1).ways))) (spec_l2copy_O a1 q26) (PW.cons (Snap2.agg (PW.cons (.bool _) (PW.cons sa_lst (PW.cons sa_lst (PW.cons sa_lst PW.nil))))) PW.nil) ownH_frame (shift_eq shift_frame (by kernel_rfl)) ?_ (er := by simp [shift3, shift2, shift0])
      refine sEq 1 [(9, .ptr 0 1 0 0)] [(3, (eFrame false a1)), (2, (ePlan false a0))] (⟨1, 4, [[ab false, an, an, an]]⟩ :: ⟨0, 1, List.map eBool ((idt a1).occ)⟩ :: ⟨0, 2, List.map ePoint ((idt a1).points)⟩ :: ⟨0, 5, hRows 4 ((idt a1).ways) (List.range ((idt a1).ways).length)⟩ :: List.map fbk (List.map Held.been ((idt a1).ways))) ?_
      refine sStV 1 [] (⟨1, 4, [[ab ((idt a1).ok), rf 1 0 (((idt a1).occ).length), rf 2 0 (((idt a1).points).length), rf 3 0 (((idt a1).ways).length)]]⟩ :: ⟨0, 1, List.map eBool ((idt a1).occ)⟩ :: ⟨0, 2, List.map ePoint ((idt a1).points)⟩ :: ⟨0, 5, hRows 4 ((idt a1).ways) (List.range ((idt a1).ways).length)⟩ :: List.map fbk (List.map Held.been ((idt a1).ways))) (φ := 1 = 1) (ψ := 4 ≤ 4) rfl (by decide) ?_
      exact sEJ [] trivial
     unfold spec_FrameOk_C1 at h
     refine cSeq ?_
     refine rgS [2000009] 22 ?_
     obtain ⟨q36, h⟩ := h
     refine sCallM 2 (some 115) [(114, .agg (ePlan false a0))] [.agg (ePlan false a0), .ptr 0 1 0 0] _ (spec_l2settle_M a0 1 ((idt a1).ok) ((idt a1).occ) ((idt a1).points) ((idt a1).ways) (List.range ((idt a1).ways).length) (List.map Held.been ((idt a1).ways)) q36) (fun r H' hq => by obtain ⟨_, _, _, rfl, _⟩ := hq; rfl) ?_
     rintro r H' ⟨w27, i28, b29, rfl, rfl, q37⟩
     replace h := h w27 i28 b29 q37
     refine sEnd [] ?_
     refine QSeq.normal ?_
     obtain ⟨q35, h⟩ := h
     refine cSeqG ⟨(mkS 119 [(4, ab (sameW a1 (Frame.mk ((idt a1).ok) ((idt a1).occ) ((idt a1).points) (view w27 i28 b29))))]), [(3, (eFrame false a1)), (2, (ePlan false a0))], (⟨1, 4, [[ab ((idt a1).ok), rf 1 0 (((idt a1).occ).length), rf 2 0 (((idt a1).points).length), rf 3 0 w27.length]]⟩ :: ⟨0, 1, List.map eBool ((idt a1).occ)⟩ :: ⟨0, 2, List.map ePoint ((idt a1).points)⟩ :: ⟨0, 5, hRows 4 w27 i28⟩ :: List.map fbk b29)⟩ (True) ?_ (fun q30 => ?_)
     ·
      replace h := q35
      refine rgS [2000009] 23 ?_
      refine sAnd 2 (some 117) (.agg [ab ((idt a1).ok), rf 1 0 (((idt a1).occ).length), rf 2 0 (((idt a1).points).length), rf 3 0 w27.length]) [(116, .agg (eFrame false a1))] (φ := 1 = 1) rfl ?_
      obtain ⟨q31, q32, q33, q34⟩ := h
      refine sCallV 1 (some 118) [] [.agg (eFrame false a1), .agg [ab ((idt a1).ok), rf 1 0 (((idt a1).occ).length), rf 2 0 (((idt a1).points).length), rf 3 0 w27.length]] (spec_l2same_V a1 (Frame.mk ((idt a1).ok) ((idt a1).occ) ((idt a1).points) (view w27 i28 b29)) q34) (PW.cons (Snap2.agg (PW.cons (.bool _) (PW.cons sa_lst (PW.cons sa_lst (PW.cons sa_lst PW.nil))))) (PW.cons (Snap2.agg (PW.cons (.bool _) (PW.cons (sa_blk' (sz := 1) (by simp) rfl (iBool) q31) (PW.cons (sa_blk' (sz := 2) (by simp) rfl (iPoint) q32) (PW.cons (sa_fam (s := 4) (ws := w27) (ids := i28) (bs := b29) (by simp) rfl (fun id k h => by simpa using h) q33.1 q33.2.1 q33.2.2) PW.nil))))) PW.nil)) ?_
      exact sEJ [(4, ab (sameW a1 (Frame.mk ((idt a1).ok) ((idt a1).occ) ((idt a1).points) (view w27 i28 b29))))] trivial
     exact cRet (rt1 (ab (sameW a1 (Frame.mk ((idt a1).ok) ((idt a1).occ) ((idt a1).points) (view w27 i28 b29)))) (SnapR3.of1 (sr_bool h)))
   replace h := h q23
   refine cSeq ?_
   refine cBlock 3 ?_
   refine cRM [2000009] 11 [(7, ai v65), (67, ai v65)] [1] [4] ?_
   obtain ⟨q67, h⟩ := h
   refine cSeqM [] [5] ((!(!(heldOk a0 a1 v65))) = true) ?_ (fun q40 => ?_)
   ·
    replace h := q67
    obtain ⟨q45, h⟩ := h
    refine cSeqM [(72, ab (!(heldOk a0 a1 v65)))] [5] (True) ?_ (fun q41 => ?_)
    ·
     replace h := q45
     refine rgS [2000009] 12 ?_
     have q42 := h
     refine sCallV 4 (some 71) [(70, ai v65), (69, .agg (eFrame false a1)), (68, .agg (ePlan false a0))] [.agg (ePlan false a0), .agg (eFrame false a1), ai v65] (spec_l2held_V a0 a1 v65 q42) (PW.cons (Snap2.agg (PW.cons (.int _ _) (PW.cons sa_lst (PW.cons sa_lst (PW.cons sa_lst (PW.cons (.int _ _) PW.nil)))))) (PW.cons (Snap2.agg (PW.cons (.bool _) (PW.cons sa_lst (PW.cons sa_lst (PW.cons sa_lst PW.nil))))) (PW.cons (Snap2.of1 (.int _ _)) PW.nil))) ?_
     exact sEJ [(72, ab (!(heldOk a0 a1 v65)))] trivial
    refine cCond1 (fun q43 => ?_) (fun q43 => ?_)
    ·
     replace h := h q43
     refine cRM [2000009] 13 [(4, ab false)] [1] [] ?_
     exact cRet (QJoin.ret (QBlock.ret (QSeq.ret (QRound.ret (QBlock.ret (QSeq.ret (rt1 (ab false) (SnapR3.of1 (sr_bool h)))))))))
    ·
     refine cSkip ?_
     exact QJoin.normal (by simp only [q2, q19, q23, q43] <;> rfl) wkJ
   replace h := h q40
   refine cSeqM [(75, ai (a1.ways.length : Int)), (76, ai 0)] [5] (True) ?_ (fun q46 => ?_)
   ·
    refine rgS [2000009] 14 ?_
    refine sLen 3 (some 75) [(74, al (eHeld false) a1.ways), (73, ap 3 3)] (eHeld false) a1.ways (fun q47 => ?_)
    exact sEJ [(76, ai 0)] trivial
   refine cBlock 4 ?_
   obtain ⟨q66, h⟩ := h
   refine cLoop (fun (v : Int) => (⟨(mkS 119 [(2, ap 2 0), (3, ap 3 0), (7, ai v65), (64, ai (a1.ways.length : Int)), (65, ai v65), (75, ai (a1.ways.length : Int)), (76, ai v)]), [(3, (eFrame false a1)), (2, (ePlan false a0))], [⟨0, 4, []⟩]⟩ : St)) (fun (v : Int) => I2 v47 v65 v) (fun (v : Int) => m2 v47 v65 v) 0 (wkL []) q66 (fun v76 hI => ?_)
   replace h := h v76 hI
   refine cRM [2000009] 15 [(77, ab (decide (v76 < (a1.ways.length : Int))))] [1] [7] ?_
   unfold spec_FrameOk_C3 at h
   obtain ⟨q65, h⟩ := h
   refine cSeqM [] [0, 1, 7] ((decide (v76 < (a1.ways.length : Int))) = true) ?_ (fun q49 => ?_)
   ·
    replace h := q65
    refine cCond1 (fun q50 => ?_) (fun q50 => ?_)
    ·
     refine cSkip ?_
     exact QJoin.normal (by simp only [q2, q19, q23, q40, q50] <;> rfl) wkJ
    ·
     replace h := h q50
     refine cExit 4 ?_
     refine QJoin.exit ?_
     refine QRound.exit ?_
     refine QBlock.here ?_
     refine QBlock.normal ?_
     refine QSeq.normal ?_
     refine rgS [2000009] 20 ?_
     refine sEnd [(65, ai (IntKind.i64.wrap (v65 + 1))), (111, ai (IntKind.i64.wrap (v65 + 1)))] ?_
     exact QRound.again (IntKind.i64.wrap (v65 + 1)) h (wkL [])
   replace h := h q49
   obtain ⟨q64, h⟩ := h
   refine cSeqM [] [7] ((!((v65 != v76) && ((nth (nth a0.bars v65) v76) && ((((nth a1.ways v65).state) != 0) && (((nth a1.ways v76).state) != 0))))) = true) ?_ (fun q51 => ?_)
   ·
    replace h := q64
    refine cBlock 5 ?_
    refine cRM [2000009] 16 [(8, ai v76), (78, ai v76)] [1] [7] ?_
    unfold spec_FrameOk_C2 at h
    obtain ⟨q63, h⟩ := h
    refine cSeqM [(109, ab ((v65 != v76) && ((nth (nth a0.bars v65) v76) && ((((nth a1.ways v65).state) != 0) && (((nth a1.ways v76).state) != 0)))))] [0, 1, 7] (True) ?_ (fun q53 => ?_)
    ·
     replace h := q63
     refine rgS [2000009] 17 ?_
     refine sCase1 4 82 (v65 != v76) [(81, ab (v65 != v76)), (80, ai v76), (79, ai v65)] (fun q54 => ?_) (fun q54 => ?_)
     ·
      replace h := h q54
      obtain ⟨q60, h⟩ := h
      refine sIdx 4 (some 86) [(85, ai v65), (84, al (eL eBool false) a0.bars), (83, ap 2 3)] (eL eBool false) a0.bars 1 q60 ?_
      obtain ⟨q59, h⟩ := h
      refine sIdx 3 (some 89) [(88, ai v76), (87, al eBool (nth a0.bars v65))] eBool (nth a0.bars v65) 1 q59 ?_
      refine sCase1 3 92 (nth (nth a0.bars v65) v76) [(91, ab (nth (nth a0.bars v65) v76)), (90, ab (nth (nth a0.bars v65) v76))] (fun q55 => ?_) (fun q55 => ?_)
      ·
       replace h := h q55
       obtain ⟨q58, h⟩ := h
       refine sIdx 4 (some 96) [(95, ai v65), (94, al (eHeld false) a1.ways), (93, ap 3 3)] (eHeld false) a1.ways 5 q58 ?_
       refine sCase1 5 101 (((nth a1.ways v65).state) != 0) [(100, ab (((nth a1.ways v65).state) != 0)), (99, ab (((nth a1.ways v65).state) != 0)), (98, ai ((nth a1.ways v65).state)), (97, .rp (eHeld false (nth a1.ways v65)) 0)] (fun q56 => ?_) (fun q56 => ?_)
       ·
        replace h := h q56
        have q57 := h
        refine sIdx 4 (some 105) [(104, ai v76), (103, al (eHeld false) a1.ways), (102, ap 3 3)] (eHeld false) a1.ways 5 q57 ?_
        exact sEJ [(109, ab (((nth a1.ways v76).state) != 0)), (108, ab (((nth a1.ways v76).state) != 0)), (107, ai ((nth a1.ways v76).state)), (106, .rp (eHeld false (nth a1.ways v76)) 0)] trivial (by simp only [q2, q19, q23, q40, q49, q54, q55, q56] <;> kernel_rfl)
       ·
        exact sEJ ([(109, ab false)] ++ tz [108, 107, 106, 105, 104, 103, 102]) trivial (by simp only [q2, q19, q23, q40, q49, q54, q55, q56] <;> kernel_rfl)
      ·
       exact sEJ ([(109, ab false)] ++ tz [108, 107, 106, 105, 104, 103, 102] ++ [(101, ab false), (100, ab false)] ++ tz [99, 98, 97, 96, 95, 94, 93]) trivial (by simp only [q2, q19, q23, q40, q49, q54, q55] <;> kernel_rfl)
     ·
      exact sEJ ([(109, ab false)] ++ tz [108, 107, 106, 105, 104, 103, 102] ++ [(101, ab false), (100, ab false)] ++ tz [99, 98, 97, 96, 95, 94, 93] ++ [(92, ab false), (91, ab false)] ++ tz [90, 89, 88, 87, 86, 85, 84, 83]) trivial (by simp only [q2, q19, q23, q40, q49, q54] <;> kernel_rfl)
    refine cCond1 (fun q61 => ?_) (fun q61 => ?_)
    ·
     replace h := h q61
     refine cRM [2000009] 18 [(4, ab false)] [1] [] ?_
     exact cRet (QBlock.ret (QJoin.ret (QRound.ret (QBlock.ret (QBlock.ret (QSeq.ret (QRound.ret (QBlock.ret (QSeq.ret (rt1 (ab false) (SnapR3.of1 (sr_bool h))))))))))))
    ·
     refine cSkip ?_
     refine QBlock.normal ?_
     exact QJoin.normal (by simp only [q2, q19, q23, q40, q49, q61] <;> rfl) wkJ
   replace h := h q51
   refine rgS [2000009] 19 ?_
   refine sEnd [(76, ai (IntKind.i64.wrap (v76 + 1))), (110, ai (IntKind.i64.wrap (v76 + 1)))] ?_
   exact QRound.again (IntKind.i64.wrap (v76 + 1)) h (wkL [])
 replace h := h q18
 obtain ⟨q78, h⟩ := h
 refine cSeqE [] [5] (fun L => (6, (ePoint (nth a1.points v47))) :: L) id ((!((!(inR ((nth a1.points v47).want) 1 2)) || (!(inR ((nth a1.points v47).lies) 0 2)))) = true) ?_ (fun q70 => ?_)
 ·
  replace h := q78
  refine cBlock 1 ?_
  obtain ⟨q77, h⟩ := h
  refine cSeqE [(6, ap 6 0)] [5] (fun L => (6, (ePoint (nth a1.points v47))) :: L) id (True) ?_ (fun q71 => ?_)
  ·
   replace h := q77
   refine rgS [2000009] 5 ?_
   have q72 := h
   refine sIdx 1 (some 49) [] ePoint a1.points 2 q72 ?_
   exact sEJ [(6, ap 6 0), (50, .agg (ePoint (nth a1.points v47)))] trivial
  refine cSeqM [(60, ab ((!(inR ((nth a1.points v47).want) 1 2)) || (!(inR ((nth a1.points v47).lies) 0 2))))] [0, 1, 5] (True) ?_ (fun q73 => ?_)
  ·
   refine rgS [2000009] 6 ?_
   refine sCallV 3 (some 53) [(52, ai ((nth a1.points v47).want)), (51, ap 6 0)] [ai ((nth a1.points v47).want), ai 1, ai 2] (spec_l1in_V ((nth a1.points v47).want) 1 2) (PW.cons (Snap2.of1 (.int _ _)) (PW.cons (Snap2.of1 (.int _ _)) (PW.cons (Snap2.of1 (.int _ _)) PW.nil))) ?_
   refine sCase1 2 55 (!(inR ((nth a1.points v47).want) 1 2)) [(54, ab (!(inR ((nth a1.points v47).want) 1 2)))] (fun q74 => ?_) (fun q74 => ?_)
   ·
    exact sEJ ([(60, ab true)] ++ tz [59, 58, 57, 56]) trivial (by simp only [q2, q18, q74] <;> kernel_rfl)
   ·
    refine sCallV 3 (some 58) [(57, ai ((nth a1.points v47).lies)), (56, ap 6 1)] [ai ((nth a1.points v47).lies), ai 0, ai 2] (spec_l1in_V ((nth a1.points v47).lies) 0 2) (PW.cons (Snap2.of1 (.int _ _)) (PW.cons (Snap2.of1 (.int _ _)) (PW.cons (Snap2.of1 (.int _ _)) PW.nil))) ?_
    exact sEJ [(60, ab (!(inR ((nth a1.points v47).lies) 0 2))), (59, ab (!(inR ((nth a1.points v47).lies) 0 2)))] trivial (by simp only [q2, q18, q74] <;> kernel_rfl)
  refine cCond1 (fun q75 => ?_) (fun q75 => ?_)
  ·
   replace h := h q75
   refine cRM [2000009] 7 [(4, ab false)] [1] [] ?_
   exact cRet (QBlock.ret (QJoin.ret (QRound.ret (QBlock.ret (QSeq.ret (rt1 (ab false) (SnapR3.of1 (sr_bool h))))))))
  ·
   refine cSkip ?_
   refine QBlock.normal ?_
   exact QJoin.normal (by simp only [q2, q18, q75] <;> rfl) wkJ
 replace h := h q70
 refine rgS [2000009] 8 ?_
 refine sEnd [(47, ai (IntKind.i64.wrap (v47 + 1))), (61, ai (IntKind.i64.wrap (v47 + 1)))] ?_
 exact QRound.again (IntKind.i64.wrap (v47 + 1)) h (wkL [6])

theorem spec_FrameOk_V (a0 : Plan) (a1 : Frame) (hp : frameSm a0 a1) : FnV Try.prog 41 [.agg (ePlan false a0), .agg (eFrame false a1)] (ab (frameOk a0 a1)) := spec_FrameOk_walk a0 a1 (frameOk a0 a1) (upI a1.points.length (fun j => (!(inR (nth a1.points j).want 1 2)) || (!(inR (nth a1.points j).lies 0 2)))) (upM a1.points.length) (fun _ i => (∀ x ∈ a1.points, ptOk x = true) ∧ upI a1.ways.length (fun i => !(heldOk a0 a1 i) || rowHit a0 a1 a1.ways.length i) i) (fun _ => upM a1.ways.length) (fun _ i => upI a1.ways.length (fun k => barHit a0 a1 i k)) (fun _ _ => upM a1.ways.length) (by
  unfold spec_FrameOk_C spec_FrameOk_C5
  have hs : smallF a1 := hp
  have no : ∀ φ : Prop, (frameOk a0 a1 = true → φ) → ¬ φ → false = frameOk a0 a1 := fun φ h1 h2 => by
    cases h : frameOk a0 a1 with
    | false => rfl
    | true => exact absurd (h1 h) h2
  have D := fun h => (frameOk_iff (p := a0) (f := a1)).1 h
  refine ⟨fun hq => no _ D (fun hd => by have := hd.1; unfold frBase at this; rw [hq] at this; cases this), fun hq hn => ⟨up_start (len0 _), fun v hI => ?_⟩⟩
  have hbase : frBase a0 a1 = true := hq
  obtain ⟨b1, b2, b3, b4, b5⟩ := frBase_iff.1 hbase
  have hP := planGood_in b1
  have hB := planGood_bars b1
  unfold spec_FrameOk_C4
  refine ⟨fun hv hm => ?_, fun hv => ⟨⟨up_in hI hv, fun hb => no _ D fun hd => ?_⟩, fun hb => up_step (lenI hn) hI hv (not_eq hb)⟩⟩
  · have hpt : ∀ x ∈ a1.points, ptOk x = true := fun x hx => by
      have := up_all (q := fun x : Point => (!(inR x.want 1 2)) || (!(inR x.lies 0 2))) (up_end hI hv) x hx
      unfold ptOk
      simpa [Bool.and_eq_true] using this
    refine ⟨⟨hpt, up_start (len0 _)⟩, fun i hJ => ⟨fun hi => ?_, fun hi => ?_⟩⟩
    · have hall := up_end hJ.2 hi
      have hheld : ∀ i : Int, 0 ≤ i → i < a1.ways.length → heldOk a0 a1 i = true := fun i i0 i1 => by
        have := hall i i0 i1
        rw [Bool.or_eq_false_iff] at this
        simpa using this.1
      have hbars : ∀ i k : Int, 0 ≤ i → i < a1.ways.length → 0 ≤ k → k < a1.ways.length → barHit a0 a1 i k = false := fun i k i0 i1 k0 k1 => by
        have := hall i i0 i1
        rw [Bool.or_eq_false_iff] at this
        have h2 := this.2
        unfold rowHit at h2
        rw [List.any_eq_false] at h2
        have := h2 k.toNat (List.mem_range.2 (by omega))
        rw [Int.toNat_of_nonneg k0] at this
        simpa using this
      have hF : FrameIn a0 a1 := frame_in hbase fun i i0 i1 => by
        have := hheld i i0 i1
        rw [heldOk_parts, Bool.and_eq_true] at this; exact this.1
      obtain ⟨r1, r2, r3⟩ := fam_range a1.ways
      have hG : FamG a1.ways (List.range a1.ways.length) (a1.ways.map Held.been) := ⟨r1, r2, fun b hb => by
        obtain ⟨h, hh, rfl⟩ := List.mem_map.1 hb; exact hs.2.2.2 h hh⟩
      have hth : theF a1.ok a1.occ a1.points a1.ways (List.range a1.ways.length) (a1.ways.map Held.been) = a1 := by unfold theF; rw [r3]
      refine ⟨hs, ⟨hG, ?_⟩, fun w i b hpost => ?_⟩
      · show settlePre a0 (theF a1.ok a1.occ a1.points a1.ways (List.range a1.ways.length) (a1.ways.map Held.been))
        rw [hth]; exact ⟨hP, hF⟩
      · obtain ⟨G, hv⟩ := hpost
        replace hv : view w i b = (settleF a0 (theF a1.ok a1.occ a1.points a1.ways (List.range a1.ways.length) (a1.ways.map Held.been))).ways := hv
        rw [hth] at hv
        have hl : w.length = a1.ways.length := by rw [← view_len G.ok, hv]; exact settleN_len _ _ _
        have hF2 := settleN_in hF a1.ways.length
        obtain ⟨s1, s2, s3, s4⟩ := hs
        have hvl : (settleF a0 a1).ways.length = a1.ways.length := settleN_len _ _ _
        have hbn : ∀ h ∈ (settleF a0 a1).ways, h.been.length ≤ 1048576 := fun h hh => by
          obtain ⟨j, hj, rfl⟩ := List.mem_iff_getElem.1 hh
          have := hF2.been j _ _ (List.getElem?_eq_getElem hj) (List.getElem?_eq_getElem (by omega))
          rw [this]
          have := (hP.sections _ (List.getElem_mem (show j < a0.ways.length by omega))).2.1
          omega
        refine ⟨⟨by show a1.occ.length ≤ _; omega, by show a1.points.length ≤ _; omega, ⟨G.ok, by omega, fun x hx => by have := G.len x hx; omega⟩, ?_, ⟨s1, s2, s3, s4⟩, ⟨s1, s2, ?_, ?_⟩, fun j x y e1 e2 => ?_⟩, ?_⟩
        · show a1.ways.length = (view w i b).length; rw [view_len G.ok, hl]
        · show (view w i b).length ≤ _; rw [view_len G.ok]; omega
        · show ∀ h ∈ view w i b, _
          rw [hv]; exact hbn
        · replace e2 : (view w i b)[j]? = some y := e2
          rw [hv] at e2
          have hj := (List.getElem?_eq_some_iff.1 e1).1
          have hw := List.getElem?_eq_getElem (show j < a0.ways.length by omega)
          rw [hF.been j _ _ e1 hw, hF2.been j _ _ e2 hw]
        · unfold sameW
          show decide (a1.ways = view w i b) = _
          rw [hv]
          by_cases h : a1.ways = (settleF a0 a1).ways
          · rw [decide_eq_true h, frameOk_iff.2 ⟨hbase, hpt, hheld, hbars, h⟩]
          · rw [decide_eq_false h]
            exact no _ D fun hd => h hd.2.2.2.2
    · have hin := up_in hJ.2 hi
      refine ⟨⟨⟨hP, hs, b5, hin.1, by omega⟩, fun hb => no _ D fun hd => ?_⟩, fun hb => ⟨up_start (len0 _), fun k hK => ?_⟩⟩
      · rw [hd.2.2.1 i hin.1 (by omega)] at hb; cases hb
      · have hb : heldOk a0 a1 i = true := by simpa using hb
        unfold spec_FrameOk_C3
        refine ⟨fun hk => ?_, fun hk => ⟨?_, fun hq => up_step (lenI hm) hK hk (not_eq hq)⟩⟩
        · have := up_step (lenI hm) hJ.2 hi (show (!(heldOk a0 a1 i) || rowHit a0 a1 a1.ways.length i) = false by
            rw [hb]
            exact List.any_eq_false.2 fun k hk' => by rw [up_end hK hk k (by omega) (by have := List.mem_range.1 hk'; omega)]; simp)
          exact ⟨⟨hpt, this.1⟩, this.2⟩
        · have hkn := up_in hK hk
          have hbl := hB.len
          have hrow := hB.row i hin.1 (by omega)
          unfold spec_FrameOk_C2
          refine ⟨fun _ => ⟨⟨hin.1, by omega⟩, ⟨hkn.1, by omega⟩, fun _ => ⟨hin, fun _ => hkn⟩⟩, fun hq => no _ D fun hd => ?_⟩
          have := hd.2.2.2.1 i k hin.1 (by omega) hkn.1 (by omega)
          have hq : barHit a0 a1 i k = true := hq
          rw [this] at hq; cases hq
  · have := hd.2.1 _ (nth_mem (up_in hI hv).2)
    unfold ptOk at this
    rw [Bool.and_eq_true] at this
    rw [this.1, this.2] at hb; cases hb)

noncomputable def impl_FrameOk_b : Code := bodyC Try.f43
def impl_FrameOk_o40 : List Item := [iq 0, iq 1, iq 2, iq 3, iq 4, iq 5]
def impl_FrameOk_o40a : List (List Nat) := [[], [], [], [1, 2], rg 0 4, rg 0 5]
def impl_FrameOk_C1 (I2 : Int → Int → Int → Prop) (m2 : Int → Int → Int → Nat) (a0 : Plan) (a1 : Frame) (res : Bool) (v48 : Int) (v158 : Int) (v74 : Int) : Prop :=
  (((((nth a1.ways v74).state) != 0) = true → (0 ≤ v158 ∧ v158.toNat < a1.ways.length) ∧ ((((nth a1.ways v158).state) != 0) = true → (0 ≤ v74 ∧ v74.toNat < a0.bars.length) ∧ (0 ≤ v158 ∧ v158.toNat < (nth a0.bars v74).length))) ∧ (((((nth a1.ways v74).state) != 0) && ((((nth a1.ways v158).state) != 0) && (nth (nth a0.bars v74) v158))) = true → false = res)) ∧ ((!((((nth a1.ways v74).state) != 0) && ((((nth a1.ways v158).state) != 0) && (nth (nth a0.bars v74) v158)))) = true → I2 v48 v74 (IntKind.i64.wrap (v158 + 1)) ∧ m2 v48 v74 (IntKind.i64.wrap (v158 + 1)) < m2 v48 v74 v158)
def impl_FrameOk_C2 (I1 : Int → Int → Prop) (m1 : Int → Int → Nat) (I2 : Int → Int → Int → Prop) (m2 : Int → Int → Int → Nat) (a0 : Plan) (a1 : Frame) (res : Bool) (v48 : Int) (v74 : Int) : Prop :=
  (((((nth a1.ways v74).state) == 0) = true → (nth a1.ways v74).shown = true → false = res) ∧ ((((nth a1.ways v74).state) == 0) = false → (bif (((nth a1.ways v74).state) == 2) then (((nth a1.ways v74).state) == 2) else (((nth a1.ways v74).state) == 3)) = true → (!((nth a1.ways v74).shown)) = true → false = res)) ∧ ((bif (((nth a1.ways v74).state) == 0) then (!((nth a1.ways v74).shown)) else (!(bif (((nth a1.ways v74).state) == 2) then (((nth a1.ways v74).state) == 2) else (((nth a1.ways v74).state) == 3)) || (!(!((nth a1.ways v74).shown))))) = true → I2 v48 v74 0 ∧ ∀ (v158 : Int), I2 v48 v74 v158 → (((decide (v158 < v74)) = false → I1 v48 (IntKind.i64.wrap (v74 + 1)) ∧ m1 v48 (IntKind.i64.wrap (v74 + 1)) < m1 v48 v74) ∧ ((decide (v158 < v74)) = true → impl_FrameOk_C1 I2 m2 a0 a1 res v48 v158 v74)))
def impl_FrameOk_C3 (I1 : Int → Int → Prop) (m1 : Int → Int → Nat) (I2 : Int → Int → Int → Prop) (m2 : Int → Int → Int → Nat) (a0 : Plan) (a1 : Frame) (res : Bool) (v48 : Int) (v74 : Int) : Prop :=
  (((((nth a1.ways v74).state) == 3) = true → ((decide (((nth a1.ways v74).timer) < 1)) || (decide (((nth a1.ways v74).timer) > a0.hold))) = true → false = res) ∧ ((((nth a1.ways v74).state) == 3) = false → (((nth a1.ways v74).timer) != 0) = true → false = res)) ∧ ((bif (((nth a1.ways v74).state) == 3) then (!((decide (((nth a1.ways v74).timer) < 1)) || (decide (((nth a1.ways v74).timer) > a0.hold)))) else (!(((nth a1.ways v74).timer) != 0))) = true → impl_FrameOk_C2 I1 m1 I2 m2 a0 a1 res v48 v74)
def impl_FrameOk_C4 (I1 : Int → Int → Prop) (m1 : Int → Int → Nat) (I2 : Int → Int → Int → Prop) (m2 : Int → Int → Int → Nat) (a0 : Plan) (a1 : Frame) (res : Bool) (v48 : Int) (v74 : Int) : Prop :=
  (((((nth a1.ways v74).state) != 4) = true → ((((nth a1.ways v74).gone) != 0) || (hasBool ((nth a1.ways v74).been) true)) = true → false = res) ∧ ((((nth a1.ways v74).state) != 4) = false → (0 ≤ ((nth a1.ways v74).gone) ∧ ((nth a1.ways v74).gone) ≤ (((nth a1.ways v74).been).length : Int)) ∧ ((hasBool (((nth a1.ways v74).been).take ((nth a1.ways v74).gone).toNat) false) = true → false = res))) ∧ ((bif (((nth a1.ways v74).state) != 4) then (!((((nth a1.ways v74).gone) != 0) || (hasBool ((nth a1.ways v74).been) true))) else (!(hasBool (((nth a1.ways v74).been).take ((nth a1.ways v74).gone).toNat) false))) = true → impl_FrameOk_C3 I1 m1 I2 m2 a0 a1 res v48 v74)
def impl_FrameOk_C5 (I1 : Int → Int → Prop) (m1 : Int → Int → Nat) (I2 : Int → Int → Int → Prop) (m2 : Int → Int → Int → Nat) (a0 : Plan) (a1 : Frame) (res : Bool) (v48 : Int) (v74 : Int) : Prop :=
  (((decide (((nth a1.ways v74).state) < 0)) || ((decide (((nth a1.ways v74).state) > 4)) || (((((nth a1.ways v74).been).length : Int) != (((nth a0.ways v74).sections).length : Int)) || ((decide (((nth a1.ways v74).gone) < 0)) || (decide (((nth a1.ways v74).gone) ≥ (((nth a0.ways v74).sections).length : Int))))))) = true → false = res) ∧ ((!((decide (((nth a1.ways v74).state) < 0)) || ((decide (((nth a1.ways v74).state) > 4)) || (((((nth a1.ways v74).been).length : Int) != (((nth a0.ways v74).sections).length : Int)) || ((decide (((nth a1.ways v74).gone) < 0)) || (decide (((nth a1.ways v74).gone) ≥ (((nth a0.ways v74).sections).length : Int)))))))) = true → impl_FrameOk_C4 I1 m1 I2 m2 a0 a1 res v48 v74)
def impl_FrameOk_C6 (I0 : Int → Prop) (m0 : Int → Nat) (a1 : Frame) (res : Bool) (v48 : Int) : Prop :=
  ((0 ≤ v48 ∧ v48.toNat < a1.points.length) ∧ ((bif (((nth a1.points v48).want) != 1) then ((((nth a1.points v48).want) != 2) || ((decide (((nth a1.points v48).lies) < 0)) || (decide (((nth a1.points v48).lies) > 2)))) else ((decide (((nth a1.points v48).lies) < 0)) || (decide (((nth a1.points v48).lies) > 2)))) = true → false = res)) ∧ ((!(bif (((nth a1.points v48).want) != 1) then ((((nth a1.points v48).want) != 2) || ((decide (((nth a1.points v48).lies) < 0)) || (decide (((nth a1.points v48).lies) > 2)))) else ((decide (((nth a1.points v48).lies) < 0)) || (decide (((nth a1.points v48).lies) > 2))))) = true → I0 (IntKind.i64.wrap (v48 + 1)) ∧ m0 (IntKind.i64.wrap (v48 + 1)) < m0 v48)
def impl_FrameOk_C7 (I0 : Int → Prop) (m0 : Int → Nat) (I1 : Int → Int → Prop) (m1 : Int → Int → Nat) (I2 : Int → Int → Int → Prop) (m2 : Int → Int → Int → Nat) (a0 : Plan) (a1 : Frame) (res : Bool) (v48 : Int) : Prop :=
  ((decide (v48 < (a1.points.length : Int))) = false → a1.ways.length ≤ 4611686018427387904 → I1 v48 0 ∧ ∀ (v74 : Int), I1 v48 v74 → (((decide (v74 < (a1.ways.length : Int))) = false → (settlePre a0 a1) ∧ ((sameF a1 (settleF a0 a1)) = res)) ∧ ((decide (v74 < (a1.ways.length : Int))) = true → (0 ≤ v74 ∧ v74.toNat < a1.ways.length) ∧ ((0 ≤ v74 ∧ v74.toNat < a0.ways.length) ∧ (((nth a0.ways v74).sections).length ≤ 4611686018427387904 → impl_FrameOk_C5 I1 m1 I2 m2 a0 a1 res v48 v74))))) ∧ ((decide (v48 < (a1.points.length : Int))) = true → impl_FrameOk_C6 I0 m0 a1 res v48)
def impl_FrameOk_C8 (I0 : Int → Prop) (m0 : Int → Nat) (I1 : Int → Int → Prop) (m1 : Int → Int → Nat) (I2 : Int → Int → Int → Prop) (m2 : Int → Int → Int → Nat) (a0 : Plan) (a1 : Frame) (res : Bool) : Prop :=
  (((!(planGood a0)) || ((!a1.ok) || (((a1.occ.length : Int) != a0.sections) || (((a1.points.length : Int) != (a0.switches.length : Int)) || ((a1.ways.length : Int) != (a0.ways.length : Int)))))) = true → false = res) ∧ ((!((!(planGood a0)) || ((!a1.ok) || (((a1.occ.length : Int) != a0.sections) || (((a1.points.length : Int) != (a0.switches.length : Int)) || ((a1.ways.length : Int) != (a0.ways.length : Int))))))) = true → a1.points.length ≤ 4611686018427387904 → I0 0 ∧ ∀ (v48 : Int), I0 v48 → (impl_FrameOk_C7 I0 m0 I1 m1 I2 m2 a0 a1 res v48))
def impl_FrameOk_C (a0 : Plan) (a1 : Frame) (res : Bool) (I0 : Int → Prop) (m0 : Int → Nat) (I1 : Int → Int → Prop) (m1 : Int → Int → Nat) (I2 : Int → Int → Int → Prop) (m2 : Int → Int → Int → Nat) : Prop :=
 impl_FrameOk_C8 I0 m0 I1 m1 I2 m2 a0 a1 res
theorem impl_FrameOk_walk (a0 : Plan) (a1 : Frame) (res : Bool) (I0 : Int → Prop) (m0 : Int → Nat) (I1 : Int → Int → Prop) (m1 : Int → Int → Nat) (I2 : Int → Int → Int → Prop) (m2 : Int → Int → Int → Nat) (h : impl_FrameOk_C a0 a1 res I0 m0 I1 m1 I2 m2) : FnV Try.prog 43 [.agg (ePlan false a0), .agg (eFrame false a1)] (ab res) := by
 unfold impl_FrameOk_C at h
 refine FnS.go (fn := Try.f43) [(0, .agg (ePlan false a0)), (1, .agg (eFrame false a1))] Try.func43 ?_
 show WpS _ (nv impl_FrameOk_b 1) _ ⟨mkS 190 [(0, .agg (ePlan false a0)), (1, .agg (eFrame false a1))], [], []⟩
 refine cRN [] 0 [(4, ab false), (3, ap 3 0), (2, ap 2 0)] [0, 1, 2] [] [(3, (eFrame false a1)), (2, (ePlan false a0))] [] ?_
 unfold impl_FrameOk_C8 at h
 obtain ⟨q118, h⟩ := h
 refine cSeqM [] [2] ((!((!(planGood a0)) || ((!a1.ok) || (((a1.occ.length : Int) != a0.sections) || (((a1.points.length : Int) != (a0.switches.length : Int)) || ((a1.ways.length : Int) != (a0.ways.length : Int))))))) = true) ?_ (fun q2 => ?_)
 ·
  replace h := q118
  refine cSeqM [(44, ab ((!(planGood a0)) || ((!a1.ok) || (((a1.occ.length : Int) != a0.sections) || (((a1.points.length : Int) != (a0.switches.length : Int)) || ((a1.ways.length : Int) != (a0.ways.length : Int)))))))] [2] (True) ?_ (fun q3 => ?_)
  ·
   refine rgS [] 1 ?_
   refine sCallV 2 (some 12) [(11, .agg (ePlan false a0))] [.agg (ePlan false a0)] (impl_right_V a0) (PW.cons (Snap2.agg (PW.cons (.int _ _) (PW.cons sa_lst (PW.cons sa_lst (PW.cons sa_lst (PW.cons (.int _ _) PW.nil)))))) PW.nil) ?_
   refine sCase1 2 14 (!(planGood a0)) [(13, ab (!(planGood a0)))] (fun q4 => ?_) (fun q4 => ?_)
   ·
    exact sEJ ([(44, ab true)] ++ tz [43, 42, 41, 40, 39, 38, 37] ++ [(36, ab true), (35, ab true)] ++ tz [34, 33, 32, 31, 30, 29, 28] ++ [(27, ab true), (26, ab true)] ++ tz [25, 24, 23, 22, 21, 20] ++ [(19, ab true), (18, ab true)] ++ tz [17, 16, 15]) trivial (by simp only [q4] <;> kernel_rfl)
   ·
    refine sCase1 5 19 (!a1.ok) [(18, ab (!a1.ok)), (17, ab (!a1.ok)), (16, ab a1.ok), (15, ap 3 0)] (fun q5 => ?_) (fun q5 => ?_)
    ·
     exact sEJ ([(44, ab true)] ++ tz [43, 42, 41, 40, 39, 38, 37] ++ [(36, ab true), (35, ab true)] ++ tz [34, 33, 32, 31, 30, 29, 28] ++ [(27, ab true), (26, ab true)] ++ tz [25, 24, 23, 22, 21, 20]) trivial (by simp only [q4, q5] <;> kernel_rfl)
    ·
     refine sLen 3 (some 22) [(21, al eBool a1.occ), (20, ap 3 1)] eBool a1.occ (fun q6 => ?_)
     refine sCase1 5 27 ((a1.occ.length : Int) != a0.sections) [(26, ab ((a1.occ.length : Int) != a0.sections)), (25, ab ((a1.occ.length : Int) != a0.sections)), (24, ai a0.sections), (23, ap 2 0)] (fun q7 => ?_) (fun q7 => ?_)
     ·
      exact sEJ ([(44, ab true)] ++ tz [43, 42, 41, 40, 39, 38, 37] ++ [(36, ab true), (35, ab true)] ++ tz [34, 33, 32, 31, 30, 29, 28]) trivial (by simp only [q4, q5, q7] <;> kernel_rfl)
     ·
      refine sLen 3 (some 30) [(29, al ePoint a1.points), (28, ap 3 2)] ePoint a1.points (fun q8 => ?_)
      refine sLen 3 (some 33) [(32, al eInt a0.switches), (31, ap 2 1)] eInt a0.switches (fun q9 => ?_)
      refine sCase1 3 36 ((a1.points.length : Int) != (a0.switches.length : Int)) [(35, ab ((a1.points.length : Int) != (a0.switches.length : Int))), (34, ab ((a1.points.length : Int) != (a0.switches.length : Int)))] (fun q10 => ?_) (fun q10 => ?_)
      ·
       exact sEJ ([(44, ab true)] ++ tz [43, 42, 41, 40, 39, 38, 37]) trivial (by simp only [q4, q5, q7, q10] <;> kernel_rfl)
      ·
       refine sLen 3 (some 39) [(38, al (eHeld false) a1.ways), (37, ap 3 3)] (eHeld false) a1.ways (fun q11 => ?_)
       refine sLen 3 (some 42) [(41, al (eWay false) a0.ways), (40, ap 2 2)] (eWay false) a0.ways (fun q12 => ?_)
       exact sEJ [(44, ab ((a1.ways.length : Int) != (a0.ways.length : Int))), (43, ab ((a1.ways.length : Int) != (a0.ways.length : Int)))] trivial (by simp only [q4, q5, q7, q10] <;> kernel_rfl)
  refine cCond1 (fun q13 => ?_) (fun q13 => ?_)
  ·
   replace h := h q13
   refine cRM [] 2 [(4, ab false)] [1] [] ?_
   exact cRet (QJoin.ret (rt1 (ab false) (SnapR3.of1 (sr_bool h))))
  ·
   refine cSkip ?_
   exact QJoin.normal (by simp only [q13] <;> rfl) wkJ
 replace h := h q2
 refine cSeq ?_
 refine cSeqM [(46, al ePoint a1.points), (47, ai (a1.points.length : Int)), (48, ai 0)] [2] (a1.points.length ≤ 4611686018427387904) ?_ (fun q15 => ?_)
 ·
  refine rgS [] 3 ?_
  refine sLen 3 (some 47) [(46, al ePoint a1.points), (45, ap 3 2)] ePoint a1.points (fun q16 => ?_)
  exact sEJ [(48, ai 0)] q16
 replace h := h q15
 refine cBlock 0 ?_
 obtain ⟨q117, h⟩ := h
 refine cLoop (fun (v : Int) => (⟨(mkS 190 [(2, ap 2 0), (3, ap 3 0), (46, al ePoint a1.points), (47, ai (a1.points.length : Int)), (48, ai v)]), [(3, (eFrame false a1)), (2, (ePlan false a0))], []⟩ : St)) (fun (v : Int) => I0 v) (fun (v : Int) => m0 v) 0 (wkL []) q117 (fun v48 hI => ?_)
 replace h := h v48 hI
 refine cRM [] 4 [(49, ab (decide (v48 < (a1.points.length : Int))))] [1] [5] ?_
 unfold impl_FrameOk_C7 at h
 obtain ⟨q116, h⟩ := h
 refine cSeqM [] [0, 1, 5] ((decide (v48 < (a1.points.length : Int))) = true) ?_ (fun q18 => ?_)
 ·
  replace h := q116
  refine cCond1 (fun q19 => ?_) (fun q19 => ?_)
  ·
   refine cSkip ?_
   exact QJoin.normal (by simp only [q2, q19] <;> rfl) wkJ
  ·
   replace h := h q19
   refine cExit 0 ?_
   refine QJoin.exit ?_
   refine QRound.exit ?_
   refine QBlock.here ?_
   refine QSeq.normal ?_
   refine cSeq ?_
   refine cSeqG ⟨(mkS 190 [(2, ap 2 0), (3, ap 3 0), (72, al (eHeld false) a1.ways), (73, ai (a1.ways.length : Int)), (74, ai 0)]), [(3, (eFrame false a1)), (2, (ePlan false a0))], []⟩ (a1.ways.length ≤ 4611686018427387904) ?_ (fun q20 => ?_)
   ·
    refine rgS [] 9 ?_
    refine sLen 3 (some 73) [(72, al (eHeld false) a1.ways), (71, ap 3 3)] (eHeld false) a1.ways (fun q21 => ?_)
    exact sEJ [(74, ai 0)] q21
   replace h := h q20
   refine cBlock 2 ?_
   obtain ⟨q103, h⟩ := h
   refine cLoop (fun (v : Int) => (⟨(mkS 190 [(2, ap 2 0), (3, ap 3 0), (72, al (eHeld false) a1.ways), (73, ai (a1.ways.length : Int)), (74, ai v)]), [(3, (eFrame false a1)), (2, (ePlan false a0))], []⟩ : St)) (fun (v : Int) => I1 v48 v) (fun (v : Int) => m1 v48 v) 0 (wkL []) q103 (fun v74 hI => ?_)
   replace h := h v74 hI
   refine cRM [] 10 [(75, ab (decide (v74 < (a1.ways.length : Int))))] [1] [5] ?_
   obtain ⟨q102, h⟩ := h
   refine cSeqM [] [0, 1, 5] ((decide (v74 < (a1.ways.length : Int))) = true) ?_ (fun q23 => ?_)
   ·
    replace h := q102
    refine cCond1 (fun q24 => ?_) (fun q24 => ?_)
    ·
     refine cSkip ?_
     exact QJoin.normal (by simp only [q2, q19, q24] <;> rfl) wkJ
    ·
     replace h := h q24
     refine cExit 2 ?_
     refine QJoin.exit ?_
     refine QRound.exit ?_
     refine QBlock.here ?_
     refine QSeq.normal ?_
     obtain ⟨q27, h⟩ := h
     refine cSeqG ⟨(mkS 190 [(4, ab (sameF a1 (settleF a0 a1)))]), [(3, (eFrame false a1)), (2, (ePlan false a0))], []⟩ (True) ?_ (fun q25 => ?_)
     ·
      replace h := q27
      refine rgD [] 40 impl_FrameOk_o40 impl_FrameOk_o40a [] ?_
      have q26 := h
      refine tCallV 4 (some 188) [(187, .agg (eFrame false a1)), (186, .agg (ePlan false a0)), (185, .agg (eFrame false a1))] [.agg (ePlan false a0), .agg (eFrame false a1)] (impl_settle_V a0 a1 q26) (PW.cons (Snap2.agg (PW.cons (.int _ _) (PW.cons sa_lst (PW.cons sa_lst (PW.cons sa_lst (PW.cons (.int _ _) PW.nil)))))) (PW.cons (Snap2.agg (PW.cons (.bool _) (PW.cons sa_lst (PW.cons sa_lst (PW.cons sa_lst PW.nil))))) PW.nil)) ?_
      refine tCallV 1 (some 189) [] [.agg (eFrame false a1), .agg (eFrame true (settleF a0 a1))] (impl_same_V a1 (settleF a0 a1)) (PW.cons (Snap2.agg (PW.cons (.bool _) (PW.cons sa_lst (PW.cons sa_lst (PW.cons sa_lst PW.nil))))) (PW.cons (Snap2.agg (PW.cons (.bool _) (PW.cons sa_lst (PW.cons sa_lst (PW.cons sa_lst PW.nil))))) PW.nil)) ?_
      exact tEJ [(4, ab (sameF a1 (settleF a0 a1)))] trivial
     exact cRet (rt1 (ab (sameF a1 (settleF a0 a1))) (SnapR3.of1 (sr_bool h)))
   replace h := h q23
   refine cSeq ?_
   refine cBlock 3 ?_
   obtain ⟨q101, h⟩ := h
   refine cSeqE [(7, ai v74), (8, ap 8 0)] [5] (fun L => (8, (eHeld false (nth a1.ways v74))) :: L) id (True) ?_ (fun q28 => ?_)
   ·
    replace h := q101
    refine rgS [] 11 ?_
    have q29 := h
    refine sIdx 2 (some 77) [(76, ai v74)] (eHeld false) a1.ways 5 q29 ?_
    exact sEJ [(7, ai v74), (8, ap 8 0), (78, .agg (eHeld false (nth a1.ways v74)))] trivial
   obtain ⟨q100, h⟩ := h
   refine cSeqM [(9, ai (((nth a0.ways v74).sections).length : Int))] [7] (((nth a0.ways v74).sections).length ≤ 4611686018427387904) ?_ (fun q30 => ?_)
   ·
    replace h := q100
    refine rgS [] 12 ?_
    have q32 := h
    refine sIdx 4 (some 82) [(81, ai v74), (80, al (eWay false) a0.ways), (79, ap 2 2)] (eWay false) a0.ways 5 q32 ?_
    refine sLen 3 (some 85) [(84, al eInt ((nth a0.ways v74).sections)), (83, .rp (eWay false (nth a0.ways v74)) 0)] eInt ((nth a0.ways v74).sections) (fun q31 => ?_)
    exact sEJ [(9, ai (((nth a0.ways v74).sections).length : Int))] q31
   replace h := h q30
   unfold impl_FrameOk_C5 at h
   obtain ⟨q99, h⟩ := h
   refine cSeqM [] [0, 1, 7] ((!((decide (((nth a1.ways v74).state) < 0)) || ((decide (((nth a1.ways v74).state) > 4)) || (((((nth a1.ways v74).been).length : Int) != (((nth a0.ways v74).sections).length : Int)) || ((decide (((nth a1.ways v74).gone) < 0)) || (decide (((nth a1.ways v74).gone) ≥ (((nth a0.ways v74).sections).length : Int)))))))) = true) ?_ (fun q33 => ?_)
   ·
    replace h := q99
    refine cSeqM [(111, ab ((decide (((nth a1.ways v74).state) < 0)) || ((decide (((nth a1.ways v74).state) > 4)) || (((((nth a1.ways v74).been).length : Int) != (((nth a0.ways v74).sections).length : Int)) || ((decide (((nth a1.ways v74).gone) < 0)) || (decide (((nth a1.ways v74).gone) ≥ (((nth a0.ways v74).sections).length : Int))))))))] [0, 1, 7] (True) ?_ (fun q34 => ?_)
    ·
     refine rgS [] 13 ?_
     refine sCase1 4 89 (decide (((nth a1.ways v74).state) < 0)) [(88, ab (decide (((nth a1.ways v74).state) < 0))), (87, ai ((nth a1.ways v74).state)), (86, ap 8 0)] (fun q35 => ?_) (fun q35 => ?_)
     ·
      exact sEJ ([(111, ab true)] ++ tz [110, 109, 108, 107] ++ [(106, ab true), (105, ab true)] ++ tz [104, 103, 102] ++ [(101, ab true), (100, ab true)] ++ tz [99, 98, 97, 96, 95] ++ [(94, ab true), (93, ab true)] ++ tz [92, 91, 90]) trivial (by simp only [q2, q19, q23, q35] <;> kernel_rfl)
     ·
      refine sCase1 5 94 (decide (((nth a1.ways v74).state) > 4)) [(93, ab (decide (((nth a1.ways v74).state) > 4))), (92, ab (decide (((nth a1.ways v74).state) > 4))), (91, ai ((nth a1.ways v74).state)), (90, ap 8 0)] (fun q36 => ?_) (fun q36 => ?_)
      ·
       exact sEJ ([(111, ab true)] ++ tz [110, 109, 108, 107] ++ [(106, ab true), (105, ab true)] ++ tz [104, 103, 102] ++ [(101, ab true), (100, ab true)] ++ tz [99, 98, 97, 96, 95]) trivial (by simp only [q2, q19, q23, q35, q36] <;> kernel_rfl)
      ·
       refine sLen 3 (some 97) [(96, al eBool ((nth a1.ways v74).been)), (95, ap 8 2)] eBool ((nth a1.ways v74).been) (fun q37 => ?_)
       refine sCase1 4 101 ((((nth a1.ways v74).been).length : Int) != (((nth a0.ways v74).sections).length : Int)) [(100, ab ((((nth a1.ways v74).been).length : Int) != (((nth a0.ways v74).sections).length : Int))), (99, ab ((((nth a1.ways v74).been).length : Int) != (((nth a0.ways v74).sections).length : Int))), (98, ai (((nth a0.ways v74).sections).length : Int))] (fun q38 => ?_) (fun q38 => ?_)
       ·
        exact sEJ ([(111, ab true)] ++ tz [110, 109, 108, 107] ++ [(106, ab true), (105, ab true)] ++ tz [104, 103, 102]) trivial (by simp only [q2, q19, q23, q35, q36, q38] <;> kernel_rfl)
       ·
        refine sCase1 5 106 (decide (((nth a1.ways v74).gone) < 0)) [(105, ab (decide (((nth a1.ways v74).gone) < 0))), (104, ab (decide (((nth a1.ways v74).gone) < 0))), (103, ai ((nth a1.ways v74).gone)), (102, ap 8 1)] (fun q39 => ?_) (fun q39 => ?_)
        ·
         exact sEJ ([(111, ab true)] ++ tz [110, 109, 108, 107]) trivial (by simp only [q2, q19, q23, q35, q36, q38, q39] <;> kernel_rfl)
        ·
         exact sEJ [(111, ab (decide (((nth a1.ways v74).gone) ≥ (((nth a0.ways v74).sections).length : Int)))), (110, ab (decide (((nth a1.ways v74).gone) ≥ (((nth a0.ways v74).sections).length : Int)))), (109, ai (((nth a0.ways v74).sections).length : Int)), (108, ai ((nth a1.ways v74).gone)), (107, ap 8 1)] trivial (by simp only [q2, q19, q23, q35, q36, q38, q39] <;> kernel_rfl)
    refine cCond1 (fun q40 => ?_) (fun q40 => ?_)
    ·
     replace h := h q40
     refine cRM [] 14 [(4, ab false)] [1] [] ?_
     exact cRet (QJoin.ret (QBlock.ret (QSeq.ret (QRound.ret (QBlock.ret (QSeq.ret (rt1 (ab false) (SnapR3.of1 (sr_bool h)))))))))
    ·
     refine cSkip ?_
     exact QJoin.normal (by simp only [q2, q19, q23, q40] <;> rfl) wkJ
   replace h := h q33
   unfold impl_FrameOk_C4 at h
   obtain ⟨q98, h⟩ := h
   refine cSeqM [] [7] ((bif (((nth a1.ways v74).state) != 4) then (!((((nth a1.ways v74).gone) != 0) || (hasBool ((nth a1.ways v74).been) true))) else (!(hasBool (((nth a1.ways v74).been).take ((nth a1.ways v74).gone).toNat) false))) = true) ?_ (fun q42 => ?_)
   ·
    replace h := q98
    refine cRM [] 15 [(114, ab (((nth a1.ways v74).state) != 4)), (113, ai ((nth a1.ways v74).state)), (112, ap 8 0)] [1] [7] ?_
    refine cCond1 (fun q44 => ?_) (fun q44 => ?_)
    ·
     replace h := h.1 q44
     refine cSeqM [(122, ab ((((nth a1.ways v74).gone) != 0) || (hasBool ((nth a1.ways v74).been) true)))] [0, 1, 7] (True) ?_ (fun q45 => ?_)
     ·
      refine rgS [] 16 ?_
      refine sCase1 4 118 (((nth a1.ways v74).gone) != 0) [(117, ab (((nth a1.ways v74).gone) != 0)), (116, ai ((nth a1.ways v74).gone)), (115, ap 8 1)] (fun q46 => ?_) (fun q46 => ?_)
      ·
       exact sEJ ([(122, ab true)] ++ tz [121, 120, 119]) trivial (by simp only [q2, q19, q23, q33, q44, q46] <;> kernel_rfl)
      ·
       refine sCallV 3 (some 121) [(120, al eBool ((nth a1.ways v74).been)), (119, ap 8 2)] [al eBool ((nth a1.ways v74).been), ab true] (slices_Contains_bool_V ((nth a1.ways v74).been) true) (PW.cons (Snap2.of1 sa_lst) (PW.cons (Snap2.of1 (.bool _)) PW.nil)) ?_
       exact sEJ [(122, ab (hasBool ((nth a1.ways v74).been) true))] trivial (by simp only [q2, q19, q23, q33, q44, q46] <;> kernel_rfl)
     refine cCond1 (fun q47 => ?_) (fun q47 => ?_)
     ·
      replace h := h q47
      refine cRM [] 17 [(4, ab false)] [1] [] ?_
      exact cRet (QJoin.ret (QBlock.ret (QSeq.ret (QRound.ret (QBlock.ret (QSeq.ret (rt1 (ab false) (SnapR3.of1 (sr_bool h)))))))))
     ·
      refine cSkip ?_
      exact QJoin.normal (by simp only [q2, q19, q23, q33, q44, q47] <;> rfl) wkJ
    ·
     replace h := h.2 q44
     obtain ⟨q53, h⟩ := h
     refine cSeqM [(128, ab (hasBool (((nth a1.ways v74).been).take ((nth a1.ways v74).gone).toNat) false))] [0, 1, 7] (True) ?_ (fun q49 => ?_)
     ·
      replace h := q53
      refine rgS [] 18 ?_
      have q50 := h
      refine sSlcTo 5 (some 127) [(126, ai ((nth a1.ways v74).gone)), (125, ap 8 1), (124, al eBool ((nth a1.ways v74).been)), (123, ap 8 2)] eBool ((nth a1.ways v74).been) 1 false q50 ?_
      refine sCallV 1 (some 128) [] [al eBool (((nth a1.ways v74).been).take ((nth a1.ways v74).gone).toNat), ab false] (slices_Contains_bool_V (((nth a1.ways v74).been).take ((nth a1.ways v74).gone).toNat) false) (PW.cons (Snap2.of1 sa_lst) (PW.cons (Snap2.of1 (.bool _)) PW.nil)) ?_
      exact sEJ [] trivial
     refine cCond1 (fun q51 => ?_) (fun q51 => ?_)
     ·
      replace h := h q51
      refine cRM [] 19 [(4, ab false)] [1] [] ?_
      exact cRet (QJoin.ret (QBlock.ret (QSeq.ret (QRound.ret (QBlock.ret (QSeq.ret (rt1 (ab false) (SnapR3.of1 (sr_bool h)))))))))
     ·
      refine cSkip ?_
      exact QJoin.normal (by simp only [q2, q19, q23, q33, q44, q51] <;> rfl) wkJ
   replace h := h q42
   unfold impl_FrameOk_C3 at h
   obtain ⟨q97, h⟩ := h
   refine cSeqM [] [7] ((bif (((nth a1.ways v74).state) == 3) then (!((decide (((nth a1.ways v74).timer) < 1)) || (decide (((nth a1.ways v74).timer) > a0.hold)))) else (!(((nth a1.ways v74).timer) != 0))) = true) ?_ (fun q54 => ?_)
   ·
    replace h := q97
    refine cRM [] 20 [(131, ab (((nth a1.ways v74).state) == 3)), (130, ai ((nth a1.ways v74).state)), (129, ap 8 0)] [1] [7] ?_
    refine cCond1 (fun q56 => ?_) (fun q56 => ?_)
    ·
     replace h := h.1 q56
     refine cSeqM [(141, ab ((decide (((nth a1.ways v74).timer) < 1)) || (decide (((nth a1.ways v74).timer) > a0.hold))))] [0, 1, 7] (True) ?_ (fun q57 => ?_)
     ·
      refine rgS [] 21 ?_
      refine sCase1 4 135 (decide (((nth a1.ways v74).timer) < 1)) [(134, ab (decide (((nth a1.ways v74).timer) < 1))), (133, ai ((nth a1.ways v74).timer)), (132, ap 8 4)] (fun q58 => ?_) (fun q58 => ?_)
      ·
       exact sEJ ([(141, ab true)] ++ tz [140, 139, 138, 137, 136]) trivial (by simp only [q2, q19, q23, q33, q42, q56, q58] <;> kernel_rfl)
      ·
       exact sEJ [(141, ab (decide (((nth a1.ways v74).timer) > a0.hold))), (140, ab (decide (((nth a1.ways v74).timer) > a0.hold))), (139, ai a0.hold), (138, ap 2 4), (137, ai ((nth a1.ways v74).timer)), (136, ap 8 4)] trivial (by simp only [q2, q19, q23, q33, q42, q56, q58] <;> kernel_rfl)
     refine cCond1 (fun q59 => ?_) (fun q59 => ?_)
     ·
      replace h := h q59
      refine cRM [] 22 [(4, ab false)] [1] [] ?_
      exact cRet (QJoin.ret (QBlock.ret (QSeq.ret (QRound.ret (QBlock.ret (QSeq.ret (rt1 (ab false) (SnapR3.of1 (sr_bool h)))))))))
     ·
      refine cSkip ?_
      exact QJoin.normal (by simp only [q2, q19, q23, q33, q42, q56, q59] <;> rfl) wkJ
    ·
     replace h := h.2 q56
     refine cRM [] 23 [(144, ab (((nth a1.ways v74).timer) != 0)), (143, ai ((nth a1.ways v74).timer)), (142, ap 8 4)] [1] [0, 1, 7] ?_
     refine cCond1 (fun q62 => ?_) (fun q62 => ?_)
     ·
      replace h := h q62
      refine cRM [] 24 [(4, ab false)] [1] [] ?_
      exact cRet (QJoin.ret (QBlock.ret (QSeq.ret (QRound.ret (QBlock.ret (QSeq.ret (rt1 (ab false) (SnapR3.of1 (sr_bool h)))))))))
     ·
      refine cSkip ?_
      exact QJoin.normal (by simp only [q2, q19, q23, q33, q42, q56, q62] <;> rfl) wkJ
   replace h := h q54
   unfold impl_FrameOk_C2 at h
   obtain ⟨q96, h⟩ := h
   refine cSeqM [] [7] ((bif (((nth a1.ways v74).state) == 0) then (!((nth a1.ways v74).shown)) else (!(bif (((nth a1.ways v74).state) == 2) then (((nth a1.ways v74).state) == 2) else (((nth a1.ways v74).state) == 3)) || (!(!((nth a1.ways v74).shown))))) = true) ?_ (fun q64 => ?_)
   ·
    replace h := q96
    refine cRM [] 25 [(146, ai ((nth a1.ways v74).state)), (145, ap 8 0)] [1] [7] ?_
    refine cBlock 4 ?_
    refine cRM [] 26 [(147, ab (((nth a1.ways v74).state) == 0)), (148, ab (((nth a1.ways v74).state) == 0))] [1] [8] ?_
    refine cCond1 (fun q67 => ?_) (fun q67 => ?_)
    ·
     replace h := h.1 q67
     refine cRM [] 27 [(150, ab ((nth a1.ways v74).shown)), (149, ap 8 3)] [1] [0, 2, 7] ?_
     refine cCond1 (fun q69 => ?_) (fun q69 => ?_)
     ·
      replace h := h q69
      refine cRM [] 28 [(4, ab false)] [1] [] ?_
      exact cRet (QBlock.ret (QJoin.ret (QBlock.ret (QSeq.ret (QRound.ret (QBlock.ret (QSeq.ret (rt1 (ab false) (SnapR3.of1 (sr_bool h))))))))))
     ·
      refine cSkip ?_
      refine QBlock.normal ?_
      exact QJoin.normal (by simp only [q2, q19, q23, q33, q42, q54, q67, q69] <;> rfl) wkJ
    ·
     replace h := h.2 q67
     refine cSeqM [(151, ab (bif (((nth a1.ways v74).state) == 2) then (((nth a1.ways v74).state) == 2) else (((nth a1.ways v74).state) == 3)))] [0, 2, 7] (True) ?_ (fun q71 => ?_)
     ·
      refine cRM [] 29 [(151, ab (((nth a1.ways v74).state) == 2)), (152, ab (((nth a1.ways v74).state) == 2))] [1] [0, 1, 8] ?_
      refine cCond1 (fun q73 => ?_) (fun q73 => ?_)
      ·
       refine cSkip ?_
       exact QJoin.normal trivial (wkJ (by simp only [q2, q19, q23, q33, q42, q54, q67, q73] <;> kernel_rfl))
      ·
       refine rgS [] 30 ?_
       exact sEJ [(151, ab (((nth a1.ways v74).state) == 3)), (153, ab (((nth a1.ways v74).state) == 3))] trivial (by simp only [q2, q19, q23, q33, q42, q54, q67, q73] <;> kernel_rfl)
     refine cCond1 (fun q74 => ?_) (fun q74 => ?_)
     ·
      replace h := h q74
      refine cRM [] 31 [(156, ab (!((nth a1.ways v74).shown))), (155, ab ((nth a1.ways v74).shown)), (154, ap 8 3)] [1] [0, 1, 7] ?_
      refine cCond1 (fun q76 => ?_) (fun q76 => ?_)
      ·
       replace h := h q76
       refine cRM [] 32 [(4, ab false)] [1] [] ?_
       exact cRet (QBlock.ret (QJoin.ret (QBlock.ret (QSeq.ret (QRound.ret (QBlock.ret (QSeq.ret (rt1 (ab false) (SnapR3.of1 (sr_bool h))))))))))
      ·
       refine cSkip ?_
       refine QBlock.normal ?_
       exact QJoin.normal (by simp only [q2, q19, q23, q33, q42, q54, q67, q74, q76] <;> rfl) wkJ
     ·
      refine cSkip ?_
      refine QBlock.normal ?_
      exact QJoin.normal (by simp only [q2, q19, q23, q33, q42, q54, q67, q74] <;> rfl) wkJ
   replace h := h q64
   refine cRM [] 33 [(158, ai 0), (157, ai v74)] [2] [7] ?_
   refine cBlock 5 ?_
   obtain ⟨q95, h⟩ := h
   refine cLoop (fun (v : Int) => (⟨(mkS 190 [(2, ap 2 0), (3, ap 3 0), (7, ai v74), (8, ap 8 0), (72, al (eHeld false) a1.ways), (73, ai (a1.ways.length : Int)), (74, ai v74), (157, ai v74), (158, ai v)]), [(8, (eHeld false (nth a1.ways v74))), (3, (eFrame false a1)), (2, (ePlan false a0))], []⟩ : St)) (fun (v : Int) => I2 v48 v74 v) (fun (v : Int) => m2 v48 v74 v) 0 (wkL []) q95 (fun v158 hI => ?_)
   replace h := h v158 hI
   refine cRM [] 34 [(159, ab (decide (v158 < v74)))] [1] [9] ?_
   obtain ⟨q94, h⟩ := h
   refine cSeqM [] [0, 1, 9] ((decide (v158 < v74)) = true) ?_ (fun q80 => ?_)
   ·
    replace h := q94
    refine cCond1 (fun q81 => ?_) (fun q81 => ?_)
    ·
     refine cSkip ?_
     exact QJoin.normal (by simp only [q2, q19, q23, q33, q42, q54, q64, q81] <;> rfl) wkJ
    ·
     replace h := h q81
     refine cExit 5 ?_
     refine QJoin.exit ?_
     refine QRound.exit ?_
     refine QBlock.here ?_
     refine QBlock.normal ?_
     refine QSeq.normal ?_
     refine rgS [] 39 ?_
     refine sEnd [(74, ai (IntKind.i64.wrap (v74 + 1))), (184, ai (IntKind.i64.wrap (v74 + 1)))] ?_
     exact QRound.again (IntKind.i64.wrap (v74 + 1)) h (wkL [8])
   replace h := h q80
   unfold impl_FrameOk_C1 at h
   obtain ⟨q93, h⟩ := h
   refine cSeqM [] [9] ((!((((nth a1.ways v74).state) != 0) && ((((nth a1.ways v158).state) != 0) && (nth (nth a0.bars v74) v158)))) = true) ?_ (fun q82 => ?_)
   ·
    replace h := q93
    refine cBlock 6 ?_
    refine cRM [] 35 [(10, ai v158), (160, ai v158)] [1] [9] ?_
    obtain ⟨q92, h⟩ := h
    refine cSeqM [(182, ab ((((nth a1.ways v74).state) != 0) && ((((nth a1.ways v158).state) != 0) && (nth (nth a0.bars v74) v158))))] [0, 1, 9] (True) ?_ (fun q84 => ?_)
    ·
     replace h := q92
     refine rgS [] 36 ?_
     refine sCase1 4 164 (((nth a1.ways v74).state) != 0) [(163, ab (((nth a1.ways v74).state) != 0)), (162, ai ((nth a1.ways v74).state)), (161, ap 8 0)] (fun q85 => ?_) (fun q85 => ?_)
     ·
      replace h := h q85
      obtain ⟨q89, h⟩ := h
      refine sIdx 4 (some 168) [(167, ai v158), (166, al (eHeld false) a1.ways), (165, ap 3 3)] (eHeld false) a1.ways 5 q89 ?_
      refine sCase1 5 173 (((nth a1.ways v158).state) != 0) [(172, ab (((nth a1.ways v158).state) != 0)), (171, ab (((nth a1.ways v158).state) != 0)), (170, ai ((nth a1.ways v158).state)), (169, .rp (eHeld false (nth a1.ways v158)) 0)] (fun q86 => ?_) (fun q86 => ?_)
      ·
       replace h := h q86
       obtain ⟨q88, h⟩ := h
       refine sIdx 4 (some 177) [(176, ai v74), (175, al (eL eBool false) a0.bars), (174, ap 2 3)] (eL eBool false) a0.bars 1 q88 ?_
       have q87 := h
       refine sIdx 3 (some 180) [(179, ai v158), (178, al eBool (nth a0.bars v74))] eBool (nth a0.bars v74) 1 q87 ?_
       exact sEJ [(182, ab (nth (nth a0.bars v74) v158)), (181, ab (nth (nth a0.bars v74) v158))] trivial (by simp only [q2, q19, q23, q33, q42, q54, q64, q80, q85, q86] <;> kernel_rfl)
      ·
       exact sEJ ([(182, ab false)] ++ tz [181, 180, 179, 178, 177, 176, 175, 174]) trivial (by simp only [q2, q19, q23, q33, q42, q54, q64, q80, q85, q86] <;> kernel_rfl)
     ·
      exact sEJ ([(182, ab false)] ++ tz [181, 180, 179, 178, 177, 176, 175, 174] ++ [(173, ab false), (172, ab false)] ++ tz [171, 170, 169, 168, 167, 166, 165]) trivial (by simp only [q2, q19, q23, q33, q42, q54, q64, q80, q85] <;> kernel_rfl)
    refine cCond1 (fun q90 => ?_) (fun q90 => ?_)
    ·
     replace h := h q90
     refine cRM [] 37 [(4, ab false)] [1] [] ?_
     exact cRet (QBlock.ret (QJoin.ret (QRound.ret (QBlock.ret (QBlock.ret (QSeq.ret (QRound.ret (QBlock.ret (QSeq.ret (rt1 (ab false) (SnapR3.of1 (sr_bool h))))))))))))
    ·
     refine cSkip ?_
     refine QBlock.normal ?_
     exact QJoin.normal (by simp only [q2, q19, q23, q33, q42, q54, q64, q80, q90] <;> rfl) wkJ
   replace h := h q82
   refine rgS [] 38 ?_
   refine sEnd [(158, ai (IntKind.i64.wrap (v158 + 1))), (183, ai (IntKind.i64.wrap (v158 + 1)))] ?_
   exact QRound.again (IntKind.i64.wrap (v158 + 1)) h (wkL [])
 replace h := h q18
 unfold impl_FrameOk_C6 at h
 obtain ⟨q115, h⟩ := h
 refine cSeqE [] [5] (fun L => (6, (ePoint (nth a1.points v48))) :: L) id ((!(bif (((nth a1.points v48).want) != 1) then ((((nth a1.points v48).want) != 2) || ((decide (((nth a1.points v48).lies) < 0)) || (decide (((nth a1.points v48).lies) > 2)))) else ((decide (((nth a1.points v48).lies) < 0)) || (decide (((nth a1.points v48).lies) > 2))))) = true) ?_ (fun q104 => ?_)
 ·
  replace h := q115
  refine cBlock 1 ?_
  obtain ⟨q114, h⟩ := h
  refine cSeqE [(6, ap 6 0)] [5] (fun L => (6, (ePoint (nth a1.points v48))) :: L) id (True) ?_ (fun q105 => ?_)
  ·
   replace h := q114
   refine rgS [] 5 ?_
   have q106 := h
   refine sIdx 1 (some 50) [] ePoint a1.points 2 q106 ?_
   exact sEJ [(6, ap 6 0), (51, .agg (ePoint (nth a1.points v48)))] trivial
  refine cSeqM [(69, ab (bif (((nth a1.points v48).want) != 1) then ((((nth a1.points v48).want) != 2) || ((decide (((nth a1.points v48).lies) < 0)) || (decide (((nth a1.points v48).lies) > 2)))) else ((decide (((nth a1.points v48).lies) < 0)) || (decide (((nth a1.points v48).lies) > 2)))))] [0, 1, 5] (True) ?_ (fun q107 => ?_)
  ·
   refine rgS [] 6 ?_
   refine sCase1 4 55 (((nth a1.points v48).want) != 1) [(54, ab (((nth a1.points v48).want) != 1)), (53, ai ((nth a1.points v48).want)), (52, ap 6 0)] (fun q108 => ?_) (fun q108 => ?_)
   ·
    refine sCase1 5 60 (((nth a1.points v48).want) != 2) [(59, ab (((nth a1.points v48).want) != 2)), (58, ab (((nth a1.points v48).want) != 2)), (57, ai ((nth a1.points v48).want)), (56, ap 6 0)] (fun q109 => ?_) (fun q109 => ?_)
    ·
     exact sEJ ([(69, ab true)] ++ tz [68, 67, 66] ++ [(65, ab true), (64, ab true)] ++ tz [63, 62, 61]) trivial (by simp only [q2, q18, q108, q109] <;> kernel_rfl)
    ·
     refine sCase1 5 65 (decide (((nth a1.points v48).lies) < 0)) [(64, ab (decide (((nth a1.points v48).lies) < 0))), (63, ab (decide (((nth a1.points v48).lies) < 0))), (62, ai ((nth a1.points v48).lies)), (61, ap 6 1)] (fun q110 => ?_) (fun q110 => ?_)
     ·
      exact sEJ ([(69, ab true)] ++ tz [68, 67, 66]) trivial (by simp only [q2, q18, q108, q109, q110] <;> kernel_rfl)
     ·
      exact sEJ [(69, ab (decide (((nth a1.points v48).lies) > 2))), (68, ab (decide (((nth a1.points v48).lies) > 2))), (67, ai ((nth a1.points v48).lies)), (66, ap 6 1)] trivial (by simp only [q2, q18, q108, q109, q110] <;> kernel_rfl)
   ·
    refine sCase1 10 65 (decide (((nth a1.points v48).lies) < 0)) [(64, ab (decide (((nth a1.points v48).lies) < 0))), (63, ab (decide (((nth a1.points v48).lies) < 0))), (62, ai ((nth a1.points v48).lies)), (61, ap 6 1), (60, ab false), (59, ab false), (58, t0), (57, t0), (56, t0)] (fun q111 => ?_) (fun q111 => ?_)
    ·
     exact sEJ ([(69, ab true)] ++ tz [68, 67, 66]) trivial (by simp only [q2, q18, q108, q111] <;> kernel_rfl)
    ·
     exact sEJ [(69, ab (decide (((nth a1.points v48).lies) > 2))), (68, ab (decide (((nth a1.points v48).lies) > 2))), (67, ai ((nth a1.points v48).lies)), (66, ap 6 1)] trivial (by simp only [q2, q18, q108, q111] <;> kernel_rfl)
  refine cCond1 (fun q112 => ?_) (fun q112 => ?_)
  ·
   replace h := h q112
   refine cRM [] 7 [(4, ab false)] [1] [] ?_
   exact cRet (QBlock.ret (QJoin.ret (QRound.ret (QBlock.ret (QSeq.ret (rt1 (ab false) (SnapR3.of1 (sr_bool h))))))))
  ·
   refine cSkip ?_
   refine QBlock.normal ?_
   exact QJoin.normal (by simp only [q2, q18, q112] <;> rfl) wkJ
 replace h := h q104
 refine rgS [] 8 ?_
 refine sEnd [(48, ai (IntKind.i64.wrap (v48 + 1))), (70, ai (IntKind.i64.wrap (v48 + 1)))] ?_
 exact QRound.again (IntKind.i64.wrap (v48 + 1)) h (wkL [6])

theorem impl_FrameOk_V (a0 : Plan) (a1 : Frame) (hp : frameSm a0 a1) : FnV Try.prog 43 [.agg (ePlan false a0), .agg (eFrame false a1)] (ab (frameOk a0 a1)) := impl_FrameOk_walk a0 a1 (frameOk a0 a1) (upI a1.points.length (fun j => !ptOk (nth a1.points j))) (upM a1.points.length) (fun _ i => (∀ x ∈ a1.points, ptOk x = true) ∧ upI a1.ways.length (fun i => !(heldOk a0 a1 i) || rowHit a0 a1 i.toNat i) i) (fun _ => upM a1.ways.length) (fun _ i => upI i (fun k => barHit a0 a1 i k)) (fun _ i => upM i) (by
  unfold impl_FrameOk_C impl_FrameOk_C8
  have hs : smallF a1 := hp
  have no : ∀ φ : Prop, (frameOk a0 a1 = true → φ) → ¬ φ → false = frameOk a0 a1 := fun φ h1 h2 => by
    cases h : frameOk a0 a1 with
    | false => rfl
    | true => exact absurd (h1 h) h2
  have D := fun h => (frameOk_iff (p := a0) (f := a1)).1 h
  refine ⟨fun hq => no _ D (fun hd => by have := hd.1; unfold frBase at this; rw [hq] at this; cases this), fun hq hn => ⟨up_start (len0 _), fun v hI => ?_⟩⟩
  have hbase : frBase a0 a1 = true := hq
  obtain ⟨b1, b2, b3, b4, b5⟩ := frBase_iff.1 hbase
  have hP := planGood_in b1
  have hB := planGood_bars b1
  unfold impl_FrameOk_C7
  refine ⟨fun hv hm => ?_, fun hv => ?_⟩
  · have hpt : ∀ x ∈ a1.points, ptOk x = true := fun x hx => by
      simpa using up_all (q := fun x : Point => !ptOk x) (up_end hI hv) x hx
    refine ⟨⟨hpt, up_start (len0 _)⟩, fun i hJ => ⟨fun hi => ?_, fun hi => ?_⟩⟩
    · have hall := up_end hJ.2 hi
      have hheld : ∀ i : Int, 0 ≤ i → i < a1.ways.length → heldOk a0 a1 i = true := fun i i0 i1 => by
        have := hall i i0 i1
        rw [Bool.or_eq_false_iff] at this
        simpa using this.1
      have hlow : ∀ i k : Int, 0 ≤ i → i < a1.ways.length → 0 ≤ k → k < i → barHit a0 a1 i k = false := fun i k i0 i1 k0 k1 => by
        have := hall i i0 i1
        rw [Bool.or_eq_false_iff] at this
        have h2 := this.2
        unfold rowHit at h2
        rw [List.any_eq_false] at h2
        have := h2 k.toNat (List.mem_range.2 (by omega))
        rw [Int.toNat_of_nonneg k0] at this
        simpa using this
      have hbars : ∀ i k : Int, 0 ≤ i → i < a1.ways.length → 0 ≤ k → k < a1.ways.length → barHit a0 a1 i k = false := fun i k i0 i1 k0 k1 => by
        rcases Int.lt_trichotomy k i with h | h | h
        · exact hlow i k i0 i1 k0 h
        · unfold barHit; rw [h]; simp
        · rw [barHit_sym hB b5 i0 i1 k0 k1]; exact hlow k i k0 k1 i0 h
      have hF : FrameIn a0 a1 := frame_in hbase fun i i0 i1 => by
        have := hheld i i0 i1
        rw [heldOk_parts, Bool.and_eq_true] at this; exact this.1
      refine ⟨⟨hP, hF⟩, ?_⟩
      obtain ⟨s1, s2, s3⟩ := settleN_same a0 a1 a1.ways.length
      unfold sameF
      rw [show (settleF a0 a1).occ = a1.occ from s2, show (settleF a0 a1).points = a1.points from s3]
      unfold eqv
      by_cases h : a1.ways = (settleF a0 a1).ways
      · rw [decide_eq_true h, frameOk_iff.2 ⟨hbase, hpt, hheld, hbars, h⟩]; simp
      · rw [decide_eq_false h, Bool.and_false]
        exact no _ D fun hd => h hd.2.2.2.2
    · have hin := up_in hJ.2 hi
      have hi' : i < (a1.ways.length : Int) := by simpa using hi
      have noH : ∀ c : Bool, c = false → (heldOk a0 a1 i = true → c = true) → false = frameOk a0 a1 := fun c hc h => no _ D fun hd => by
        have := h (hd.2.2.1 i hin.1 (by omega)); rw [hc] at this; cases this
      have P := heldOk_parts a0 a1 i
      refine ⟨hin, ⟨hin.1, by omega⟩, fun hsl => ?_⟩
      unfold impl_FrameOk_C5
      refine ⟨fun hq => noH (heldB1 a0 a1 i) (by unfold heldB1; rw [hq]; rfl) fun h => by rw [P, Bool.and_eq_true] at h; exact h.1, fun hq1 => ?_⟩
      have h1 : heldB1 a0 a1 i = true := hq1
      rw [h1, Bool.true_and] at P
      have hgone : 0 ≤ (nth a1.ways i).gone ∧ (nth a1.ways i).gone ≤ ((nth a1.ways i).been.length : Int) := by
        unfold heldB1 at h1
        simp only [Bool.not_eq_true', Bool.or_eq_false_iff, bne_eq_false_iff_eq, decide_eq_false_iff_not] at h1
        omega
      unfold impl_FrameOk_C4
      refine ⟨⟨fun h4 hq => noH (heldB2 a1 i) (by unfold heldB2; rw [h4, hq]; rfl) fun h => by rw [P, Bool.and_eq_true] at h; exact h.1,
        fun h4 => ⟨hgone, fun hq => noH (heldB2 a1 i) (by unfold heldB2; rw [h4, hq]; rfl) fun h => by rw [P, Bool.and_eq_true] at h; exact h.1⟩⟩, fun hq2 => ?_⟩
      have h2 : heldB2 a1 i = true := hq2
      rw [h2, Bool.true_and] at P
      unfold impl_FrameOk_C3
      refine ⟨⟨fun h4 hq => noH (heldB3 a0 a1 i) (by unfold heldB3; rw [h4, hq]; rfl) fun h => by rw [P, Bool.and_eq_true] at h; exact h.1,
        fun h4 hq => noH (heldB3 a0 a1 i) (by unfold heldB3; rw [h4, hq]; rfl) fun h => by rw [P, Bool.and_eq_true] at h; exact h.1⟩, fun hq3 => ?_⟩
      have h3 : heldB3 a0 a1 i = true := hq3
      rw [h3, Bool.true_and] at P
      unfold impl_FrameOk_C2
      refine ⟨⟨fun h4 hq => noH (heldB4 a1 i) (by unfold heldB4; rw [h4, hq]; rfl) fun h => by rw [P] at h; exact h,
        fun h4 hc hq => noH (heldB4 a1 i) (by unfold heldB4; rw [h4, hc, hq]; rfl) fun h => by rw [P] at h; exact h⟩, fun hq4 => ?_⟩
      have h4 : heldB4 a1 i = true := hq4
      rw [h4] at P
      refine ⟨up_start hin.1, fun k hK => ⟨fun hk => ?_, fun hk => ?_⟩⟩
      · have := up_step (lenI hm) hJ.2 hi (show (!(heldOk a0 a1 i) || rowHit a0 a1 i.toNat i) = false by
          rw [P]
          exact List.any_eq_false.2 fun k hk' => by rw [up_end hK hk k (by omega) (by have := List.mem_range.1 hk'; omega)]; simp)
        exact ⟨⟨hpt, this.1⟩, this.2⟩
      · have hki : k < i := by simpa using hk
        have hk0 := hK.1
        have hbl := hB.len
        have hrow := hB.row i hin.1 (by omega)
        have hc : ((((nth a1.ways i).state) != 0) && ((((nth a1.ways k).state) != 0) && (nth (nth a0.bars i) k))) = barHit a0 a1 i k := by
          unfold barHit bar
          rw [show (i != k) = true by simpa using (show i ≠ k by omega)]
          cases ((nth a1.ways i).state != 0) <;> cases ((nth a1.ways k).state != 0) <;> cases (nth (nth a0.bars i) k) <;> rfl
        unfold impl_FrameOk_C1
        rw [hc]
        refine ⟨⟨fun _ => ⟨⟨hk0, by omega⟩, fun _ => ⟨⟨hin.1, by omega⟩, hk0, by omega⟩⟩, fun hq => no _ D fun hd => ?_⟩, fun hq => up_step (by omega) hK hk (not_eq hq)⟩
        have := hd.2.2.2.1 i k hin.1 (by omega) hk0 (by omega)
        rw [this] at hq; cases hq
  · unfold impl_FrameOk_C6
    rw [ptBad]
    refine ⟨⟨up_in hI hv, fun hb => no _ D fun hd => ?_⟩, fun hb => up_step (lenI hn) hI hv (not_eq hb)⟩
    have := hd.2.1 _ (nth_mem (up_in hI hv).2)
    rw [this] at hb; cases hb)

end Go.Proofs.Ytglpfccgmfhkdaa.Fw
