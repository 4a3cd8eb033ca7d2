/- Walks and summaries of functions, printed by a program of mine (tools/mk.py), with the proofs of what they owe. -/
import Derived.Test.YtglpfccgmfhkdaaProg
import Derived.Test.YtglpfccgmfhkdaaSpC
import Derived.Test.YtglpfccgmfhkdaaWkA
import Derived.Test.YtglpfccgmfhkdaaWkB
set_option linter.unusedVariables false
set_option maxRecDepth 100000
set_option maxHeartbeats 4000000
set_option linter.unusedSimpArgs false
namespace Go.Proofs.Ytglpfccgmfhkdaa.Fw
open Go
attribute [local irreducible] evS evSD WpS Weak Oper.looksAt
noncomputable def spec_PlanOk_b : Code := bodyC Try.f24
def spec_PlanOk_o29 : List Item := [iq 0, iq 1, iq 2, iq 3, iq 4, iq 5, iq 6, iq 7, iq 8, iq 9, iq 10, iq 11, iq 12, iq 13, iq 14, iq 15, iq 16, iq 17, iq 18, iq 19, iq 20, iq 21, iq 22, iq 23, iq 24, iq 25, iq 26, iq 27, iq 28, iq 29, iq 30, iq 31, iq 32, iq 33]
def spec_PlanOk_o29a : List (List Nat) := [[], [], [1], [], [1, 2, 3], rg 1 5, [], rg 1 7, rg 1 8, rg 0 9, rg 0 10, rg 0 11, rg 0 11, rg 0 13, rg 0 14, rg 0 15, rg 0 16, rg 0 17, rg 0 18, rg 0 19, rg 0 20, rg 0 19, rg 0 22, rg 0 23, rg 0 24, rg 0 19, rg 0 19 ++ [25], rg 0 19, rg 0 19 ++ [25, 26, 27], rg 0 19 ++ rg 25 29, rg 0 19 ++ rg 25 30, rg 0 31, rg 0 32, rg 0 33]
def spec_PlanOk_C1 (a0 : Plan) (res : Fault) (v103 : Int) (v96 : Int) : Prop :=
  ((0 ≤ v103 ∧ v103.toNat < a0.bars.length) ∧ ((0 ≤ v96 ∧ v96.toNat < (nth a0.bars v103).length) ∧ (((nth (nth a0.bars v96) v103) != (nth (nth a0.bars v103) v96)) = false → (v96 != v103) = true → (!(nth (nth a0.bars v96) v103)) = true → (0 ≤ v96 ∧ v96.toNat < a0.ways.length) ∧ (0 ≤ v103 ∧ v103.toNat < a0.ways.length)))) ∧ ((((nth (nth a0.bars v96) v103) != (nth (nth a0.bars v103) v96)) || ((v96 != v103) && ((!(nth (nth a0.bars v96) v103)) && (meets ((nth a0.ways v96).sections) ((nth a0.ways v103).sections))))) = true → (5 = res.code) ∧ (v96 = res.pos))
def spec_PlanOk_C2 (I4 : Int → Int → Int → Int → Int → Prop) (m4 : Int → Int → Int → Int → Int → Nat) (a0 : Plan) (res : Fault) (v39 : Int) (v56 : Int) (v79 : Int) (v103 : Int) (v96 : Int) : Prop :=
  ((0 ≤ v103 ∧ v103.toNat < (nth a0.bars v96).length) ∧ (spec_PlanOk_C1 a0 res v103 v96)) ∧ ((!(((nth (nth a0.bars v96) v103) != (nth (nth a0.bars v103) v96)) || ((v96 != v103) && ((!(nth (nth a0.bars v96) v103)) && (meets ((nth a0.ways v96).sections) ((nth a0.ways v103).sections)))))) = true → I4 v39 v56 v79 v96 (IntKind.i64.wrap (v103 + 1)) ∧ m4 v39 v56 v79 v96 (IntKind.i64.wrap (v103 + 1)) < m4 v39 v56 v79 v96 v103)
def spec_PlanOk_C3 (I3 : Int → Int → Int → Int → Prop) (m3 : Int → Int → Int → Int → Nat) (I4 : Int → Int → Int → Int → Int → Prop) (m4 : Int → Int → Int → Int → Int → Nat) (a0 : Plan) (res : Fault) (v39 : Int) (v56 : Int) (v79 : Int) (v96 : Int) : Prop :=
  (nth a0.bars v96).length ≤ 4611686018427387904 → I4 v39 v56 v79 v96 0 ∧ ∀ (v103 : Int), I4 v39 v56 v79 v96 v103 → (((decide (v103 < ((nth a0.bars v96).length : Int))) = false → I3 v39 v56 v79 (IntKind.i64.wrap (v96 + 1)) ∧ m3 v39 v56 v79 (IntKind.i64.wrap (v96 + 1)) < m3 v39 v56 v79 v96) ∧ ((decide (v103 < ((nth a0.bars v96).length : Int))) = true → spec_PlanOk_C2 I4 m4 a0 res v39 v56 v79 v103 v96))
def spec_PlanOk_C4 (I2 : Int → Int → Int → Prop) (m2 : Int → Int → Int → Nat) (a0 : Plan) (res : Fault) (v39 : Int) (v56 : Int) (v79 : Int) : Prop :=
  ((0 ≤ v79 ∧ v79.toNat < a0.bars.length) ∧ ((nth a0.bars v79).length ≤ 4611686018427387904 → (((nth a0.bars v79).length : Int) != (a0.ways.length : Int)) = true → (4 = res.code) ∧ (v79 = res.pos))) ∧ (((nth a0.bars v79).length ≤ 4611686018427387904) ∧ ((!(((nth a0.bars v79).length : Int) != (a0.ways.length : Int))) = true) → I2 v39 v56 (IntKind.i64.wrap (v79 + 1)) ∧ m2 v39 v56 (IntKind.i64.wrap (v79 + 1)) < m2 v39 v56 v79)
def spec_PlanOk_C5 (I2 : Int → Int → Int → Prop) (m2 : Int → Int → Int → Nat) (I3 : Int → Int → Int → Int → Prop) (m3 : Int → Int → Int → Int → Nat) (I4 : Int → Int → Int → Int → Int → Prop) (m4 : Int → Int → Int → Int → Int → Nat) (a0 : Plan) (res : Fault) (v39 : Int) (v56 : Int) (v79 : Int) : Prop :=
  ((decide (v79 < (a0.bars.length : Int))) = false → I3 v39 v56 v79 0 ∧ ∀ (v96 : Int), I3 v39 v56 v79 v96 → (((decide (v96 < (a0.bars.length : Int))) = false → (0 = res.code) ∧ (0 = res.pos)) ∧ ((decide (v96 < (a0.bars.length : Int))) = true → (0 ≤ v96 ∧ v96.toNat < a0.bars.length) ∧ (spec_PlanOk_C3 I3 m3 I4 m4 a0 res v39 v56 v79 v96)))) ∧ ((decide (v79 < (a0.bars.length : Int))) = true → spec_PlanOk_C4 I2 m2 a0 res v39 v56 v79)
def spec_PlanOk_C6 (I1 : Int → Int → Prop) (m1 : Int → Int → Nat) (I2 : Int → Int → Int → Prop) (m2 : Int → Int → Int → Nat) (I3 : Int → Int → Int → Int → Prop) (m3 : Int → Int → Int → Int → Nat) (I4 : Int → Int → Int → Int → Int → Prop) (m4 : Int → Int → Int → Int → Int → Nat) (a0 : Plan) (res : Fault) (v39 : Int) (v56 : Int) : Prop :=
  ((decide (v56 < (a0.ways.length : Int))) = false → (a0.bars.length ≤ 4611686018427387904 → ((a0.bars.length : Int) != (a0.ways.length : Int)) = true → (4 = res.code) ∧ (0 = res.pos)) ∧ ((a0.bars.length ≤ 4611686018427387904) ∧ ((!((a0.bars.length : Int) != (a0.ways.length : Int))) = true) → I2 v39 v56 0 ∧ ∀ (v79 : Int), I2 v39 v56 v79 → (spec_PlanOk_C5 I2 m2 I3 m3 I4 m4 a0 res v39 v56 v79))) ∧ ((decide (v56 < (a0.ways.length : Int))) = true → ((0 ≤ v56 ∧ v56.toNat < a0.ways.length) ∧ ((preW a0 (nth a0.ways v56)) ∧ ((!(wayGood a0 (nth a0.ways v56))) = true → (3 = res.code) ∧ (v56 = res.pos)))) ∧ ((!(!(wayGood a0 (nth a0.ways v56)))) = true → I1 v39 (IntKind.i64.wrap (v56 + 1)) ∧ m1 v39 (IntKind.i64.wrap (v56 + 1)) < m1 v39 v56))
def spec_PlanOk_C7 (I0 : Int → Prop) (m0 : Int → Nat) (I1 : Int → Int → Prop) (m1 : Int → Int → Nat) (I2 : Int → Int → Int → Prop) (m2 : Int → Int → Int → Nat) (I3 : Int → Int → Int → Int → Prop) (m3 : Int → Int → Int → Int → Nat) (I4 : Int → Int → Int → Int → Int → Prop) (m4 : Int → Int → Int → Int → Int → Nat) (a0 : Plan) (res : Fault) (v39 : Int) : Prop :=
  ((decide (v39 < (a0.switches.length : Int))) = false → a0.ways.length ≤ 4611686018427387904 → I1 v39 0 ∧ ∀ (v56 : Int), I1 v39 v56 → (spec_PlanOk_C6 I1 m1 I2 m2 I3 m3 I4 m4 a0 res v39 v56)) ∧ ((decide (v39 < (a0.switches.length : Int))) = true → ((0 ≤ v39 ∧ v39.toNat < a0.switches.length) ∧ ((!(inR (nth a0.switches v39) 0 (IntKind.i64.wrap (a0.sections - 1)))) = true → (2 = res.code) ∧ (v39 = res.pos))) ∧ ((!(!(inR (nth a0.switches v39) 0 (IntKind.i64.wrap (a0.sections - 1))))) = true → I0 (IntKind.i64.wrap (v39 + 1)) ∧ m0 (IntKind.i64.wrap (v39 + 1)) < m0 v39))
def spec_PlanOk_C8 (I0 : Int → Prop) (m0 : Int → Nat) (I1 : Int → Int → Prop) (m1 : Int → Int → Nat) (I2 : Int → Int → Int → Prop) (m2 : Int → Int → Int → Nat) (I3 : Int → Int → Int → Int → Prop) (m3 : Int → Int → Int → Int → Nat) (I4 : Int → Int → Int → Int → Int → Prop) (m4 : Int → Int → Int → Int → Int → Nat) (a0 : Plan) (res : Fault) : Prop :=
  (((!(inR a0.sections 1 60)) || ((decide ((a0.switches.length : Int) > 40)) || ((decide ((a0.ways.length : Int) > 100)) || (!(inR a0.hold 1 300))))) = true → (1 = res.code) ∧ (0 = res.pos)) ∧ ((!((!(inR a0.sections 1 60)) || ((decide ((a0.switches.length : Int) > 40)) || ((decide ((a0.ways.length : Int) > 100)) || (!(inR a0.hold 1 300)))))) = true → a0.switches.length ≤ 4611686018427387904 → I0 0 ∧ ∀ (v39 : Int), I0 v39 → (spec_PlanOk_C7 I0 m0 I1 m1 I2 m2 I3 m3 I4 m4 a0 res v39))
def spec_PlanOk_C (a0 : Plan) (res : Fault) (I0 : Int → Prop) (m0 : Int → Nat) (I1 : Int → Int → Prop) (m1 : Int → Int → Nat) (I2 : Int → Int → Int → Prop) (m2 : Int → Int → Int → Nat) (I3 : Int → Int → Int → Int → Prop) (m3 : Int → Int → Int → Int → Nat) (I4 : Int → Int → Int → Int → Int → Prop) (m4 : Int → Int → Int → Int → Int → Nat) : Prop :=
 spec_PlanOk_C8 I0 m0 I1 m1 I2 m2 I3 m3 I4 m4 a0 res
theorem spec_PlanOk_walk (a0 : Plan) (res : Fault) (I0 : Int → Prop) (m0 : Int → Nat) (I1 : Int → Int → Prop) (m1 : Int → Int → Nat) (I2 : Int → Int → Int → Prop) (m2 : Int → Int → Int → Nat) (I3 : Int → Int → Int → Int → Prop) (m3 : Int → Int → Int → Int → Nat) (I4 : Int → Int → Int → Int → Int → Prop) (m4 : Int → Int → Int → Int → Int → Nat) (h : spec_PlanOk_C a0 res I0 m0 I1 m1 I2 m2 I3 m3 I4 m4) : FnV Try.prog 24 [.agg (ePlan false a0)] (.agg (eFault res)) := by
 unfold spec_PlanOk_C at h
 refine FnS.go (fn := Try.f24) [(0, .agg (ePlan false a0))] Try.func24 ?_
 show WpS _ (nv spec_PlanOk_b 1) _ ⟨mkS 147 [(0, .agg (ePlan false a0))], [], []⟩
 refine cRN [] 0 [(2, ap 2 0), (1, ap 1 0)] [2] [] [(2, [ai 0, ai 0]), (1, (ePlan false a0))] [] ?_
 unfold spec_PlanOk_C8 at h
 obtain ⟨q101, h⟩ := h
 refine cSeqM [] [2] ((!((!(inR a0.sections 1 60)) || ((decide ((a0.switches.length : Int) > 40)) || ((decide ((a0.ways.length : Int) > 100)) || (!(inR a0.hold 1 300)))))) = true) ?_ (fun q2 => ?_)
 ·
  replace h := q101
  refine cSeqM [(34, ab ((!(inR a0.sections 1 60)) || ((decide ((a0.switches.length : Int) > 40)) || ((decide ((a0.ways.length : Int) > 100)) || (!(inR a0.hold 1 300))))))] [2] (True) ?_ (fun q3 => ?_)
  ·
   refine rgS [] 1 ?_
   refine sCallV 3 (some 15) [(14, ai a0.sections), (13, ap 1 0)] [ai a0.sections, ai 1, ai 60] (spec_l1in_V a0.sections 1 60) (PW.cons (Snap2.of1 (.int _ _)) (PW.cons (Snap2.of1 (.int _ _)) (PW.cons (Snap2.of1 (.int _ _)) PW.nil))) ?_
   refine sCase1 2 17 (!(inR a0.sections 1 60)) [(16, ab (!(inR a0.sections 1 60)))] (fun q4 => ?_) (fun q4 => ?_)
   ·
    exact sEJ ([(34, ab true)] ++ tz [33, 32, 31, 30] ++ [(29, ab true), (28, ab true)] ++ tz [27, 26, 25, 24] ++ [(23, ab true), (22, ab true)] ++ tz [21, 20, 19, 18]) trivial (by simp only [q4] <;> kernel_rfl)
   ·
    refine sLen 3 (some 20) [(19, al eInt a0.switches), (18, ap 1 1)] eInt a0.switches (fun q5 => ?_)
    refine sCase1 3 23 (decide ((a0.switches.length : Int) > 40)) [(22, ab (decide ((a0.switches.length : Int) > 40))), (21, ab (decide ((a0.switches.length : Int) > 40)))] (fun q6 => ?_) (fun q6 => ?_)
    ·
     exact sEJ ([(34, ab true)] ++ tz [33, 32, 31, 30] ++ [(29, ab true), (28, ab true)] ++ tz [27, 26, 25, 24]) trivial (by simp only [q4, q6] <;> kernel_rfl)
    ·
     refine sLen 3 (some 26) [(25, al (eWay false) a0.ways), (24, ap 1 2)] (eWay false) a0.ways (fun q7 => ?_)
     refine sCase1 3 29 (decide ((a0.ways.length : Int) > 100)) [(28, ab (decide ((a0.ways.length : Int) > 100))), (27, ab (decide ((a0.ways.length : Int) > 100)))] (fun q8 => ?_) (fun q8 => ?_)
     ·
      exact sEJ ([(34, ab true)] ++ tz [33, 32, 31, 30]) trivial (by simp only [q4, q6, q8] <;> kernel_rfl)
     ·
      refine sCallV 3 (some 32) [(31, ai a0.hold), (30, ap 1 4)] [ai a0.hold, ai 1, ai 300] (spec_l1in_V a0.hold 1 300) (PW.cons (Snap2.of1 (.int _ _)) (PW.cons (Snap2.of1 (.int _ _)) (PW.cons (Snap2.of1 (.int _ _)) PW.nil))) ?_
      exact sEJ [(34, ab (!(inR a0.hold 1 300))), (33, ab (!(inR a0.hold 1 300)))] trivial (by simp only [q4, q6, q8] <;> kernel_rfl)
  refine cCond1 (fun q9 => ?_) (fun q9 => ?_)
  ·
   replace h := h q9
   refine cRE [] 2 [(35, .agg [ai 1, ai 0])] [] [0, 1, 1] (fun L => ed 0 0 (ai 1) L) id ?_
   exact cRet (QJoin.ret (rt1 (.agg [ai 1, ai 0]) (SnapR3.agg (PW.cons (sr_int h.1) (PW.cons (sr_int h.2) PW.nil)))))
  ·
   refine cSkip ?_
   exact QJoin.normal (by simp only [q9] <;> rfl) wkJ
 replace h := h q2
 refine cSeq ?_
 refine cSeqM [(37, al eInt a0.switches), (38, ai (a0.switches.length : Int)), (39, ai 0)] [2] (a0.switches.length ≤ 4611686018427387904) ?_ (fun q11 => ?_)
 ·
  refine rgS [] 3 ?_
  refine sLen 3 (some 38) [(37, al eInt a0.switches), (36, ap 1 1)] eInt a0.switches (fun q12 => ?_)
  exact sEJ [(39, ai 0)] q12
 replace h := h q11
 refine cBlock 0 ?_
 obtain ⟨q100, h⟩ := h
 refine cLoop (fun (v : Int) => (⟨(mkS 147 [(1, ap 1 0), (2, ap 2 0), (37, al eInt a0.switches), (38, ai (a0.switches.length : Int)), (39, ai v)]), [(2, [ai 0, ai 0]), (1, (ePlan false a0))], []⟩ : St)) (fun (v : Int) => I0 v) (fun (v : Int) => m0 v) 0 (wkL []) q100 (fun v39 hI => ?_)
 replace h := h v39 hI
 refine cRM [] 4 [(40, ab (decide (v39 < (a0.switches.length : Int))))] [1] [5] ?_
 unfold spec_PlanOk_C7 at h
 obtain ⟨q99, h⟩ := h
 refine cSeqM [] [0, 1, 5] ((decide (v39 < (a0.switches.length : Int))) = true) ?_ (fun q14 => ?_)
 ·
  replace h := q99
  refine cCond1 (fun q15 => ?_) (fun q15 => ?_)
  ·
   refine cSkip ?_
   exact QJoin.normal (by simp only [q2, q15] <;> rfl) wkJ
  ·
   replace h := h q15
   refine cExit 0 ?_
   refine QJoin.exit ?_
   refine QRound.exit ?_
   refine QBlock.here ?_
   refine QSeq.normal ?_
   refine cSeq ?_
   refine cSeqG ⟨(mkS 147 [(1, ap 1 0), (2, ap 2 0), (54, al (eWay false) a0.ways), (55, ai (a0.ways.length : Int)), (56, ai 0)]), [(2, [ai 0, ai 0]), (1, (ePlan false a0))], []⟩ (a0.ways.length ≤ 4611686018427387904) ?_ (fun q16 => ?_)
   ·
    refine rgS [] 9 ?_
    refine sLen 3 (some 55) [(54, al (eWay false) a0.ways), (53, ap 1 2)] (eWay false) a0.ways (fun q17 => ?_)
    exact sEJ [(56, ai 0)] q17
   replace h := h q16
   refine cBlock 2 ?_
   obtain ⟨q90, h⟩ := h
   refine cLoop (fun (v : Int) => (⟨(mkS 147 [(1, ap 1 0), (2, ap 2 0), (54, al (eWay false) a0.ways), (55, ai (a0.ways.length : Int)), (56, ai v)]), [(2, [ai 0, ai 0]), (1, (ePlan false a0))], []⟩ : St)) (fun (v : Int) => I1 v39 v) (fun (v : Int) => m1 v39 v) 0 (wkL []) q90 (fun v56 hI => ?_)
   replace h := h v56 hI
   refine cRM [] 10 [(57, ab (decide (v56 < (a0.ways.length : Int))))] [1] [5] ?_
   unfold spec_PlanOk_C6 at h
   obtain ⟨q89, h⟩ := h
   refine cSeqM [] [0, 1, 5] ((decide (v56 < (a0.ways.length : Int))) = true) ?_ (fun q19 => ?_)
   ·
    replace h := q89
    refine cCond1 (fun q20 => ?_) (fun q20 => ?_)
    ·
     refine cSkip ?_
     exact QJoin.normal (by simp only [q2, q15, q20] <;> rfl) wkJ
    ·
     replace h := h q20
     refine cExit 2 ?_
     refine QJoin.exit ?_
     refine QRound.exit ?_
     refine QBlock.here ?_
     refine QSeq.normal ?_
     obtain ⟨q78, h⟩ := h
     refine cSeqG ⟨(mkS 147 [(1, ap 1 0), (2, ap 2 0)]), [(2, [ai 0, ai 0]), (1, (ePlan false a0))], []⟩ ((a0.bars.length ≤ 4611686018427387904) ∧ ((!((a0.bars.length : Int) != (a0.ways.length : Int))) = true)) ?_ (fun q21 => ?_)
     ·
      replace h := q78
      refine cSeqG ⟨(mkS 147 [(1, ap 1 0), (2, ap 2 0), (74, ab ((a0.bars.length : Int) != (a0.ways.length : Int)))]), [(2, [ai 0, ai 0]), (1, (ePlan false a0))], []⟩ (a0.bars.length ≤ 4611686018427387904) ?_ (fun q22 => ?_)
      ·
       refine rgS [] 15 ?_
       refine sLen 3 (some 70) [(69, al (eL eBool false) a0.bars), (68, ap 1 3)] (eL eBool false) a0.bars (fun q23 => ?_)
       refine sLen 3 (some 73) [(72, al (eWay false) a0.ways), (71, ap 1 2)] (eWay false) a0.ways (fun q24 => ?_)
       exact sEJ [(74, ab ((a0.bars.length : Int) != (a0.ways.length : Int)))] q23
      replace h := h q22
      refine cCond (.tmp 74) ((a0.bars.length : Int) != (a0.ways.length : Int)) (fun q25 => ?_) (fun q25 => ?_)
      ·
       replace h := h q25
       refine cRE [] 16 [(75, .agg [ai 4, ai 0])] [] [0, 1, 1] (fun L => ed 0 0 (ai 4) L) id ?_
       exact cRet (QJoin.ret (rt1 (.agg [ai 4, ai 0]) (SnapR3.agg (PW.cons (sr_int h.1) (PW.cons (sr_int h.2) PW.nil)))))
      ·
       refine cSkip ?_
       exact QJoin.normal ⟨q22, (by simp only [q2, q15, q20, q25] <;> rfl)⟩ wkJ
     replace h := h q21
     refine cSeq ?_
     refine cSeqM [(77, al (eL eBool false) a0.bars), (78, ai (a0.bars.length : Int)), (79, ai 0)] [2] (True) ?_ (fun q27 => ?_)
     ·
      refine rgS [] 17 ?_
      refine sLen 3 (some 78) [(77, al (eL eBool false) a0.bars), (76, ap 1 3)] (eL eBool false) a0.bars (fun q28 => ?_)
      exact sEJ [(79, ai 0)] trivial
     refine cBlock 4 ?_
     obtain ⟨q77, h⟩ := h
     refine cLoop (fun (v : Int) => (⟨(mkS 147 [(1, ap 1 0), (2, ap 2 0), (77, al (eL eBool false) a0.bars), (78, ai (a0.bars.length : Int)), (79, ai v)]), [(2, [ai 0, ai 0]), (1, (ePlan false a0))], []⟩ : St)) (fun (v : Int) => I2 v39 v56 v) (fun (v : Int) => m2 v39 v56 v) 0 (wkL []) q77 (fun v79 hI => ?_)
     replace h := h v79 hI
     refine cRM [] 18 [(80, ab (decide (v79 < (a0.bars.length : Int))))] [1] [5] ?_
     unfold spec_PlanOk_C5 at h
     obtain ⟨q76, h⟩ := h
     refine cSeqM [] [0, 1, 5] ((decide (v79 < (a0.bars.length : Int))) = true) ?_ (fun q30 => ?_)
     ·
      replace h := q76
      refine cCond1 (fun q31 => ?_) (fun q31 => ?_)
      ·
       refine cSkip ?_
       exact QJoin.normal (by simp only [q2, q15, q20, q21.2, q31] <;> rfl) wkJ
      ·
       replace h := h q31
       refine cExit 4 ?_
       refine QJoin.exit ?_
       refine QRound.exit ?_
       refine QBlock.here ?_
       refine QSeq.normal ?_
       refine cSeq ?_
       refine cSeqG ⟨(mkS 147 [(1, ap 1 0), (2, ap 2 0), (94, al (eL eBool false) a0.bars), (95, ai (a0.bars.length : Int)), (96, ai 0)]), [(2, [ai 0, ai 0]), (1, (ePlan false a0))], []⟩ (True) ?_ (fun q32 => ?_)
       ·
        refine rgS [] 23 ?_
        refine sLen 3 (some 95) [(94, al (eL eBool false) a0.bars), (93, ap 1 3)] (eL eBool false) a0.bars (fun q33 => ?_)
        exact sEJ [(96, ai 0)] trivial
       refine cBlock 6 ?_
       obtain ⟨q65, h⟩ := h
       refine cLoop (fun (v : Int) => (⟨(mkS 147 [(1, ap 1 0), (2, ap 2 0), (94, al (eL eBool false) a0.bars), (95, ai (a0.bars.length : Int)), (96, ai v)]), [(2, [ai 0, ai 0]), (1, (ePlan false a0))], []⟩ : St)) (fun (v : Int) => I3 v39 v56 v79 v) (fun (v : Int) => m3 v39 v56 v79 v) 0 (wkL []) q65 (fun v96 hI => ?_)
       replace h := h v96 hI
       refine cRM [] 24 [(97, ab (decide (v96 < (a0.bars.length : Int))))] [1] [5] ?_
       obtain ⟨q64, h⟩ := h
       refine cSeqM [] [0, 1, 5] ((decide (v96 < (a0.bars.length : Int))) = true) ?_ (fun q35 => ?_)
       ·
        replace h := q64
        refine cCond1 (fun q36 => ?_) (fun q36 => ?_)
        ·
         refine cSkip ?_
         exact QJoin.normal (by simp only [q2, q15, q20, q21.2, q31, q36] <;> rfl) wkJ
        ·
         replace h := h q36
         refine cExit 6 ?_
         refine QJoin.exit ?_
         refine QRound.exit ?_
         refine QBlock.here ?_
         refine QSeq.normal ?_
         refine cSeqG ⟨(mkS 147 [(2, ap 2 0)]), [(2, [ai 0, ai 0]), (1, (ePlan false a0))], []⟩ (True) ?_ (fun q37 => ?_)
         ·
          refine rgS [] 33 ?_
          exact sEJ [(146, .agg [ai 0, ai 0])] trivial
         exact cRet (rt1 (.agg [ai 0, ai 0]) (SnapR3.agg (PW.cons (sr_int h.1) (PW.cons (sr_int h.2) PW.nil))))
       replace h := h q35
       refine cSeq ?_
       refine cBlock 7 ?_
       obtain ⟨q63, h⟩ := h
       refine cSeqM [(9, ai v96), (10, al eBool (nth a0.bars v96))] [5] (True) ?_ (fun q38 => ?_)
       ·
        replace h := q63
        refine rgS [] 25 ?_
        have q39 := h
        refine sIdx 2 (some 99) [(98, ai v96)] (eL eBool false) a0.bars 1 q39 ?_
        exact sEJ [(10, al eBool (nth a0.bars v96)), (9, ai v96), (100, al eBool (nth a0.bars v96))] trivial
       unfold spec_PlanOk_C3 at h
       refine cSeqM [(101, al eBool (nth a0.bars v96)), (102, ai ((nth a0.bars v96).length : Int)), (103, ai 0)] [1, 1, 5] ((nth a0.bars v96).length ≤ 4611686018427387904) ?_ (fun q40 => ?_)
       ·
        refine rgS [] 26 ?_
        refine sLen 2 (some 102) [(101, al eBool (nth a0.bars v96))] eBool (nth a0.bars v96) (fun q41 => ?_)
        exact sEJ [(103, ai 0)] q41
       replace h := h q40
       refine cBlock 8 ?_
       obtain ⟨q62, h⟩ := h
       refine cLoop (fun (v : Int) => (⟨(mkS 147 [(1, ap 1 0), (2, ap 2 0), (9, ai v96), (94, al (eL eBool false) a0.bars), (95, ai (a0.bars.length : Int)), (96, ai v96), (101, al eBool (nth a0.bars v96)), (102, ai ((nth a0.bars v96).length : Int)), (103, ai v)]), [(2, [ai 0, ai 0]), (1, (ePlan false a0))], []⟩ : St)) (fun (v : Int) => I4 v39 v56 v79 v96 v) (fun (v : Int) => m4 v39 v56 v79 v96 v) 0 (wkL []) q62 (fun v103 hI => ?_)
       replace h := h v103 hI
       refine cRM [] 27 [(104, ab (decide (v103 < ((nth a0.bars v96).length : Int))))] [1] [9] ?_
       obtain ⟨q61, h⟩ := h
       refine cSeqM [] [0, 1, 9] ((decide (v103 < ((nth a0.bars v96).length : Int))) = true) ?_ (fun q43 => ?_)
       ·
        replace h := q61
        refine cCond1 (fun q44 => ?_) (fun q44 => ?_)
        ·
         refine cSkip ?_
         exact QJoin.normal (by simp only [q2, q15, q20, q21.2, q31, q35, q44] <;> rfl) wkJ
        ·
         replace h := h q44
         refine cExit 8 ?_
         refine QJoin.exit ?_
         refine QRound.exit ?_
         refine QBlock.here ?_
         refine QBlock.normal ?_
         refine QSeq.normal ?_
         refine rgS [] 32 ?_
         refine sEnd [(96, ai (IntKind.i64.wrap (v96 + 1))), (145, ai (IntKind.i64.wrap (v96 + 1)))] ?_
         exact QRound.again (IntKind.i64.wrap (v96 + 1)) h (wkL [])
       replace h := h q43
       unfold spec_PlanOk_C2 at h
       obtain ⟨q60, h⟩ := h
       refine cSeqM [] [9] ((!(((nth (nth a0.bars v96) v103) != (nth (nth a0.bars v103) v96)) || ((v96 != v103) && ((!(nth (nth a0.bars v96) v103)) && (meets ((nth a0.ways v96).sections) ((nth a0.ways v103).sections)))))) = true) ?_ (fun q45 => ?_)
       ·
        replace h := q60
        refine cBlock 9 ?_
        obtain ⟨q59, h⟩ := h
        refine cSeqM [(11, ai v103), (12, ab (nth (nth a0.bars v96) v103))] [9] (True) ?_ (fun q46 => ?_)
        ·
         replace h := q59
         refine rgS [] 28 ?_
         have q47 := h
         refine sIdx 2 (some 106) [(105, ai v103)] eBool (nth a0.bars v96) 1 q47 ?_
         exact sEJ [(12, ab (nth (nth a0.bars v96) v103)), (11, ai v103), (107, ab (nth (nth a0.bars v96) v103))] trivial
        unfold spec_PlanOk_C1 at h
        obtain ⟨q58, h⟩ := h
        refine cSeqM [(141, ab (((nth (nth a0.bars v96) v103) != (nth (nth a0.bars v103) v96)) || ((v96 != v103) && ((!(nth (nth a0.bars v96) v103)) && (meets ((nth a0.ways v96).sections) ((nth a0.ways v103).sections))))))] [0, 2, 9] (True) ?_ (fun q48 => ?_)
        ·
         replace h := q58
         refine rgD [] 29 spec_PlanOk_o29 spec_PlanOk_o29a [] ?_
         obtain ⟨q55, h⟩ := h
         refine tIdx 5 (some 112) [(111, ai v103), (110, al (eL eBool false) a0.bars), (109, ap 1 3), (108, ab (nth (nth a0.bars v96) v103))] (eL eBool false) a0.bars 1 q55 ?_
         obtain ⟨q54, h⟩ := h
         refine tIdx 3 (some 115) [(114, ai v96), (113, al eBool (nth a0.bars v103))] eBool (nth a0.bars v103) 1 q54 ?_
         refine tCase1 3 118 ((nth (nth a0.bars v96) v103) != (nth (nth a0.bars v103) v96)) [(117, ab ((nth (nth a0.bars v96) v103) != (nth (nth a0.bars v103) v96))), (116, ab (nth (nth a0.bars v103) v96))] (fun q49 => ?_) (fun q49 => ?_)
         ·
          exact tEJ ([(141, ab true)] ++ tz [140, 139, 138, 137, 136, 135, 134, 133, 132, 131, 130, 129, 128, 127, 126, 125, 124, 123, 122, 121, 120, 119]) trivial (by simp only [q2, q15, q20, q21.2, q31, q35, q43, q49] <;> kernel_rfl)
         ·
          replace h := h q49
          refine tCase1 4 122 (v96 != v103) [(121, ab (v96 != v103)), (120, ai v103), (119, ai v96)] (fun q50 => ?_) (fun q50 => ?_)
          ·
           replace h := h q50
           refine tCase1 4 126 (!(nth (nth a0.bars v96) v103)) [(125, ab (!(nth (nth a0.bars v96) v103))), (124, ab (!(nth (nth a0.bars v96) v103))), (123, ab (nth (nth a0.bars v96) v103))] (fun q51 => ?_) (fun q51 => ?_)
           ·
            replace h := h q51
            obtain ⟨q53, h⟩ := h
            refine tIdx 4 (some 130) [(129, ai v96), (128, al (eWay false) a0.ways), (127, ap 1 2)] (eWay false) a0.ways 5 q53 ?_
            have q52 := h
            refine tIdx 6 (some 136) [(135, ai v103), (134, al (eWay false) a0.ways), (133, ap 1 2), (132, al eInt ((nth a0.ways v96).sections)), (131, .rp (eWay false (nth a0.ways v96)) 0)] (eWay false) a0.ways 5 q52 ?_
            refine tCallV 3 (some 139) [(138, al eInt ((nth a0.ways v103).sections)), (137, .rp (eWay false (nth a0.ways v103)) 0)] [al eInt ((nth a0.ways v96).sections), al eInt ((nth a0.ways v103).sections)] (spec_l1meet_V ((nth a0.ways v96).sections) ((nth a0.ways v103).sections)) (PW.cons (Snap2.of1 sa_lst) (PW.cons (Snap2.of1 sa_lst) PW.nil)) ?_
            exact tEJ [(141, ab (meets ((nth a0.ways v96).sections) ((nth a0.ways v103).sections))), (140, ab (meets ((nth a0.ways v96).sections) ((nth a0.ways v103).sections)))] trivial (by simp only [q2, q15, q20, q21.2, q31, q35, q43, q49, q50, q51] <;> kernel_rfl)
           ·
            exact tEJ ([(141, ab false), (140, ab false)] ++ tz [139, 138, 137, 136, 135, 134, 133, 132, 131, 130, 129, 128, 127]) trivial (by simp only [q2, q15, q20, q21.2, q31, q35, q43, q49, q50, q51] <;> kernel_rfl)
          ·
           exact tEJ ([(141, ab false), (140, ab false)] ++ tz [139, 138, 137, 136, 135, 134, 133, 132, 131, 130, 129, 128, 127] ++ [(126, ab false), (125, ab false)] ++ tz [124, 123]) trivial (by simp only [q2, q15, q20, q21.2, q31, q35, q43, q49, q50] <;> kernel_rfl)
        refine cCond1 (fun q56 => ?_) (fun q56 => ?_)
        ·
         replace h := h q56
         refine cRN [] 30 [(143, .agg [ai 5, ai v96]), (142, ai v96)] [] [0, 2, 1] [(2, [ai 5, ai v96]), (1, (ePlan false a0))] [] ?_
         exact cRet (QBlock.ret (QJoin.ret (QRound.ret (QBlock.ret (QBlock.ret (QSeq.ret (QRound.ret (QBlock.ret (QSeq.ret (rt1 (.agg [ai 5, ai v96]) (SnapR3.agg (PW.cons (sr_int h.1) (PW.cons (sr_int h.2) PW.nil)))))))))))))
        ·
         refine cSkip ?_
         refine QBlock.normal ?_
         exact QJoin.normal (by simp only [q2, q15, q20, q21.2, q31, q35, q43, q56] <;> rfl) wkJ
       replace h := h q45
       refine rgS [] 31 ?_
       refine sEnd [(103, ai (IntKind.i64.wrap (v103 + 1))), (144, ai (IntKind.i64.wrap (v103 + 1)))] ?_
       exact QRound.again (IntKind.i64.wrap (v103 + 1)) h (wkL [])
     replace h := h q30
     unfold spec_PlanOk_C4 at h
     obtain ⟨q75, h⟩ := h
     refine cSeqM [] [5] (((nth a0.bars v79).length ≤ 4611686018427387904) ∧ ((!(((nth a0.bars v79).length : Int) != (a0.ways.length : Int))) = true)) ?_ (fun q66 => ?_)
     ·
      replace h := q75
      refine cBlock 5 ?_
      obtain ⟨q74, h⟩ := h
      refine cSeqM [(7, ai v79), (8, al eBool (nth a0.bars v79))] [5] (True) ?_ (fun q67 => ?_)
      ·
       replace h := q74
       refine rgS [] 19 ?_
       have q68 := h
       refine sIdx 2 (some 82) [(81, ai v79)] (eL eBool false) a0.bars 1 q68 ?_
       exact sEJ [(8, al eBool (nth a0.bars v79)), (7, ai v79), (83, al eBool (nth a0.bars v79))] trivial
      refine cSeqM [(89, ab (((nth a0.bars v79).length : Int) != (a0.ways.length : Int)))] [1, 1, 5] ((nth a0.bars v79).length ≤ 4611686018427387904) ?_ (fun q69 => ?_)
      ·
       refine rgS [] 20 ?_
       refine sLen 2 (some 85) [(84, al eBool (nth a0.bars v79))] eBool (nth a0.bars v79) (fun q70 => ?_)
       refine sLen 3 (some 88) [(87, al (eWay false) a0.ways), (86, ap 1 2)] (eWay false) a0.ways (fun q71 => ?_)
       exact sEJ [(89, ab (((nth a0.bars v79).length : Int) != (a0.ways.length : Int)))] q70
      replace h := h q69
      refine cCond1 (fun q72 => ?_) (fun q72 => ?_)
      ·
       replace h := h q72
       refine cRN [] 21 [(91, .agg [ai 4, ai v79]), (90, ai v79)] [] [0, 3, 1] [(2, [ai 4, ai v79]), (1, (ePlan false a0))] [] ?_
       exact cRet (QBlock.ret (QJoin.ret (QRound.ret (QBlock.ret (QSeq.ret (rt1 (.agg [ai 4, ai v79]) (SnapR3.agg (PW.cons (sr_int h.1) (PW.cons (sr_int h.2) PW.nil)))))))))
      ·
       refine cSkip ?_
       refine QBlock.normal ?_
       exact QJoin.normal ⟨q69, (by simp only [q2, q15, q20, q21.2, q30, q72] <;> rfl)⟩ wkJ
     replace h := h q66
     refine rgS [] 22 ?_
     refine sEnd [(79, ai (IntKind.i64.wrap (v79 + 1))), (92, ai (IntKind.i64.wrap (v79 + 1)))] ?_
     exact QRound.again (IntKind.i64.wrap (v79 + 1)) h (wkL [])
   replace h := h q19
   obtain ⟨q88, h⟩ := h
   refine cSeqE [] [5] (fun L => (6, (eWay false (nth a0.ways v56))) :: L) id ((!(!(wayGood a0 (nth a0.ways v56)))) = true) ?_ (fun q79 => ?_)
   ·
    replace h := q88
    refine cBlock 3 ?_
    obtain ⟨q87, h⟩ := h
    refine cSeqE [(5, ai v56), (6, ap 6 0)] [5] (fun L => (6, (eWay false (nth a0.ways v56))) :: L) id (True) ?_ (fun q80 => ?_)
    ·
     replace h := q87
     refine rgS [] 11 ?_
     have q81 := h
     refine sIdx 2 (some 59) [(58, ai v56)] (eWay false) a0.ways 5 q81 ?_
     exact sEJ [(5, ai v56), (6, ap 6 0), (60, .agg (eWay false (nth a0.ways v56)))] trivial
    obtain ⟨q86, h⟩ := h
    refine cSeqM [(64, ab (!(wayGood a0 (nth a0.ways v56))))] [1, 1, 5] (True) ?_ (fun q82 => ?_)
    ·
     replace h := q86
     refine rgS [] 12 ?_
     have q83 := h
     refine sCallV 3 (some 63) [(62, .agg (eWay false (nth a0.ways v56))), (61, .agg (ePlan false a0))] [.agg (ePlan false a0), .agg (eWay false (nth a0.ways v56))] (spec_l1way_V a0 (nth a0.ways v56) q83) (PW.cons (Snap2.agg (PW.cons (.int _ _) (PW.cons sa_lst (PW.cons sa_lst (PW.cons sa_lst (PW.cons (.int _ _) PW.nil)))))) (PW.cons (Snap2.agg (PW.cons sa_lst (PW.cons sa_lst (PW.cons sa_lst (PW.cons sa_lst (PW.cons sa_lst PW.nil)))))) PW.nil)) ?_
     exact sEJ [(64, ab (!(wayGood a0 (nth a0.ways v56))))] trivial
    refine cCond1 (fun q84 => ?_) (fun q84 => ?_)
    ·
     replace h := h q84
     refine cRE [] 13 [(66, .agg [ai 3, ai v56]), (65, ai v56)] [] [0, 3, 1] (fun L => ed 1 1 (ai v56) (ed 1 0 (ai 3) L)) id ?_
     exact cRet (QBlock.ret (QJoin.ret (QRound.ret (QBlock.ret (QSeq.ret (rt1 (.agg [ai 3, ai v56]) (SnapR3.agg (PW.cons (sr_int h.1) (PW.cons (sr_int h.2) PW.nil)))))))))
    ·
     refine cSkip ?_
     refine QBlock.normal ?_
     exact QJoin.normal (by simp only [q2, q15, q19, q84] <;> rfl) wkJ
   replace h := h q79
   refine rgS [] 14 ?_
   refine sEnd [(56, ai (IntKind.i64.wrap (v56 + 1))), (67, ai (IntKind.i64.wrap (v56 + 1)))] ?_
   exact QRound.again (IntKind.i64.wrap (v56 + 1)) h (wkL [6])
 replace h := h q14
 obtain ⟨q98, h⟩ := h
 refine cSeqM [] [5] ((!(!(inR (nth a0.switches v39) 0 (IntKind.i64.wrap (a0.sections - 1))))) = true) ?_ (fun q91 => ?_)
 ·
  replace h := q98
  refine cBlock 1 ?_
  obtain ⟨q97, h⟩ := h
  refine cSeqM [(3, ai v39), (4, ai (nth a0.switches v39))] [5] (True) ?_ (fun q92 => ?_)
  ·
   replace h := q97
   refine rgS [] 5 ?_
   have q93 := h
   refine sIdx 2 (some 42) [(41, ai v39)] eInt a0.switches 1 q93 ?_
   exact sEJ [(4, ai (nth a0.switches v39)), (3, ai v39), (43, ai (nth a0.switches v39))] trivial
  refine cSeqM [(49, ab (!(inR (nth a0.switches v39) 0 (IntKind.i64.wrap (a0.sections - 1)))))] [1, 1, 5] (True) ?_ (fun q94 => ?_)
  ·
   refine rgS [] 6 ?_
   refine sCallV 5 (some 48) [(47, ai (IntKind.i64.wrap (a0.sections - 1))), (46, ai a0.sections), (45, ap 1 0), (44, ai (nth a0.switches v39))] [ai (nth a0.switches v39), ai 0, ai (IntKind.i64.wrap (a0.sections - 1))] (spec_l1in_V (nth a0.switches v39) 0 (IntKind.i64.wrap (a0.sections - 1))) (PW.cons (Snap2.of1 (.int _ _)) (PW.cons (Snap2.of1 (.int _ _)) (PW.cons (Snap2.of1 (.int _ _)) PW.nil))) ?_
   exact sEJ [(49, ab (!(inR (nth a0.switches v39) 0 (IntKind.i64.wrap (a0.sections - 1)))))] trivial
  refine cCond1 (fun q95 => ?_) (fun q95 => ?_)
  ·
   replace h := h q95
   refine cRN [] 7 [(51, .agg [ai 2, ai v39]), (50, ai v39)] [] [0, 3, 1] [(2, [ai 2, ai v39]), (1, (ePlan false a0))] [] ?_
   exact cRet (QBlock.ret (QJoin.ret (QRound.ret (QBlock.ret (QSeq.ret (rt1 (.agg [ai 2, ai v39]) (SnapR3.agg (PW.cons (sr_int h.1) (PW.cons (sr_int h.2) PW.nil)))))))))
  ·
   refine cSkip ?_
   refine QBlock.normal ?_
   exact QJoin.normal (by simp only [q2, q14, q95] <;> rfl) wkJ
 replace h := h q91
 refine rgS [] 8 ?_
 refine sEnd [(39, ai (IntKind.i64.wrap (v39 + 1))), (52, ai (IntKind.i64.wrap (v39 + 1)))] ?_
 exact QRound.again (IntKind.i64.wrap (v39 + 1)) h (wkL [])

theorem spec_PlanOk_V (a0 : Plan) : FnV Try.prog 24 [.agg (ePlan false a0)] (.agg (eFault (planOk a0))) := spec_PlanOk_walk a0 (planOk a0) (upI a0.switches.length (fun j => !inR (nth a0.switches j) 0 (a0.sections - 1))) (upM a0.switches.length) (fun _ => upI a0.ways.length (fun j => !wayGood a0 (nth a0.ways j))) (fun _ => upM a0.ways.length) (fun _ _ => upI a0.bars.length (fun j => decide ((nth a0.bars j).length ≠ a0.ways.length))) (fun _ _ => upM a0.bars.length) (fun _ _ _ => upI a0.ways.length (fun i => (List.range a0.ways.length).any fun k => barBad a0 i.toNat k)) (fun _ _ _ => upM a0.ways.length) (fun _ _ _ i => upI a0.ways.length (fun k => barBad a0 i.toNat k.toNat)) (fun _ _ _ _ => upM a0.ways.length) (by
  unfold spec_PlanOk_C spec_PlanOk_C8
  refine ⟨fun h => ?_, fun h hn0 => ?_⟩
  · have hb : planBase a0 = false := by
      rw [← Bool.not_eq_true, planBase_iff]
      intro hb
      simp [inR] at h
      omega
    rw [planOk_1 hb]; exact ⟨rfl, rfl⟩
  · have hb : planBase a0 = true := by
      rw [planBase_iff]
      simp [inR] at h
      omega
    have hB := planBase_iff.1 hb
    refine ⟨up_start (len0 _), fun v0 hI0 => ?_⟩
    unfold spec_PlanOk_C7
    refine ⟨fun e0 hn1 => ?_, fun hv0 => ?_⟩
    case refine_2 =>
      rw [w64 (n := a0.sections - 1) (by omega) (by omega)]
      refine ⟨⟨up_in hI0 hv0, fun hbad => ?_⟩, fun hok => up_step (lenI hn0) hI0 hv0 (not_eq hok)⟩
      rw [planOk_2 hb (up_first (q := fun s => !inR s 0 (a0.sections - 1)) hI0 hv0 hbad)]
      have := hI0.1
      exact ⟨rfl, by show v0 = (v0.toNat : Int); omega⟩
    have f0 := up_none (q := fun s => !inR s 0 (a0.sections - 1)) hI0 e0
    refine ⟨up_start (len0 _), fun v1 hI1 => ?_⟩
    unfold spec_PlanOk_C6
    refine ⟨fun e1 => ?_, fun hv1 => ?_⟩
    case refine_2 =>
      refine ⟨⟨up_in hI1 hv1, ⟨by omega, by omega⟩, fun hbad => ?_⟩, fun hok => up_step (lenI hn1) hI1 hv1 (not_eq hok)⟩
      rw [planOk_3 hb f0 (up_first (q := fun w => !wayGood a0 w) hI1 hv1 hbad)]
      have := hI1.1
      exact ⟨rfl, by show v1 = (v1.toNat : Int); omega⟩
    have f1 := up_none (q := fun w => !wayGood a0 w) hI1 e1
    rw [planOk_b hb f0 f1]
    refine ⟨fun hm hne => ?_, fun ⟨hm, hne⟩ => ?_⟩
    · have hne : a0.bars.length ≠ a0.ways.length := by
        intro e; rw [e] at hne; simp at hne
      rw [planBars_l hne]; exact ⟨rfl, rfl⟩
    have hl : a0.bars.length = a0.ways.length := by
      have : (a0.bars.length : Int) = a0.ways.length := by simpa using hne
      omega
    refine ⟨up_start (len0 _), fun v2 hI2 => ?_⟩
    unfold spec_PlanOk_C5
    refine ⟨fun e2 => ?_, fun hv2 => ?_⟩
    case refine_2 =>
      have hcond : (((nth a0.bars v2).length : Int) != (a0.ways.length : Int)) = decide ((nth a0.bars v2).length ≠ a0.ways.length) := by
        rw [Bool.eq_iff_iff]; simp; omega
      unfold spec_PlanOk_C4
      rw [hcond]
      refine ⟨⟨up_in hI2 hv2, fun hr hbad => ?_⟩, fun ⟨hr, hok⟩ => up_step (lenI hm) hI2 hv2 (not_eq hok)⟩
      rw [planBars_4 hl (up_first (q := fun b => decide (b.length ≠ a0.ways.length)) hI2 hv2 hbad)]
      have := hI2.1
      exact ⟨rfl, by show v2 = (v2.toNat : Int); omega⟩
    have f2 := up_none (q := fun b : List Bool => decide (b.length ≠ a0.ways.length)) hI2 e2
    have rl : ∀ i : Int, 0 ≤ i → i < a0.ways.length → (nth a0.bars i).length = a0.ways.length := fun i i0 i1 => by
      have := up_end hI2 e2 i i0 (by omega)
      simpa using this
    refine ⟨up_start (len0 _), fun v3 hI3 => ⟨fun e3 => ?_, fun hv3 => ?_⟩⟩
    · have e3 : decide (v3 < (a0.ways.length : Int)) = false := by rw [← hl]; exact e3
      rw [planBars_0 hl f2 (first_range_none fun j j0 j1 => up_end hI3 e3 j j0 j1)]
      exact ⟨rfl, rfl⟩
    · have hv3' : v3 < (a0.ways.length : Int) := by rw [← hl]; simpa using hv3
      have h30 := hI3.1
      have r3 := rl v3 hI3.1 hv3'
      refine ⟨⟨h30, by omega⟩, ?_⟩
      unfold spec_PlanOk_C3
      rw [r3]
      intro _
      refine ⟨up_start (len0 _), fun v4 hI4 => ?_⟩
      unfold spec_PlanOk_C2 spec_PlanOk_C1
      rw [bars_bad hI3.1 hI4.1, r3]
      have h40 := hI4.1
      refine ⟨fun e4 => up_step (by omega) hI3 (by simpa using hv3') (nany_range fun j j0 j1 => up_end hI4 e4 j j0 j1), fun hv4 => ?_⟩
      have hv4' : v4 < (a0.ways.length : Int) := by simpa using hv4
      have r4 := rl v4 hI4.1 hv4'
      refine ⟨⟨⟨h40, by omega⟩, ⟨⟨h40, by omega⟩, ⟨h30, by omega⟩, fun _ _ _ => ⟨⟨h30, by omega⟩, ⟨h40, by omega⟩⟩⟩, fun hbad => ?_⟩, fun hok => up_step (by omega) hI4 hv4 (not_eq hok)⟩
      rw [planBars_5 hl f2 (first_range_some h30 hv3' (fun j j0 j1 => hI3.2.2 j j0 j1) (any_range h40 hv4' hbad))]
      exact ⟨rfl, by show v3 = (v3.toNat : Int); omega⟩)

end Go.Proofs.Ytglpfccgmfhkdaa.Fw
