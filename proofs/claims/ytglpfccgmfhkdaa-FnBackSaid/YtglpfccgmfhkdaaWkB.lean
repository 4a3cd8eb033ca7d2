/- Walks and summaries of functions, printed by a program of mine (tools/mk.py), with the proofs of what they owe. -/

import Derived.Test.YtglpfccgmfhkdaaProg
import Derived.Test.YtglpfccgmfhkdaaSpC
import Derived.Test.YtglpfccgmfhkdaaWkA
set_option linter.unusedVariables false
set_option maxRecDepth 100000
set_option maxHeartbeats 4000000
set_option linter.unusedSimpArgs false
namespace Go.Proofs.Ytglpfccgmfhkdaa.Fw
open Go
attribute [local irreducible] evS evSD WpS Weak Oper.looksAt
noncomputable def impl_wayOk_b : Code := bodyC Try.f73
def impl_wayOk_o21 : List Item := [iq 0, iq 1, iq 2, iq 3, iq 4, iq 5, iq 6, iq 7, iq 8, iq 9, iq 10, iq 11, iq 12, iq 13, iq 14, iq 15, iq 16]
def impl_wayOk_o21a : List (List Nat) := [[], [], [1], [1, 2], rg 0 4, rg 0 5, rg 0 6, rg 0 7, rg 0 6, rg 0 6 ++ [8], rg 0 6, rg 0 6 ++ [10], rg 0 6 ++ rg 8 12, rg 0 6 ++ rg 8 13, rg 0 14, rg 0 15, rg 0 16]
def impl_wayOk_C1 (a0 : Plan) (a1 : Way) (res : Bool) (x0 : (List Int)) (v66 : Int) : Prop :=
  (((decide (v66 < (a1.lies.length : Int))) = true → 0 ≤ ((nth (needs a1) v66).sw) ∧ ((nth (needs a1) v66).sw).toNat < a0.switches.length) ∧ (((decide (v66 < (a1.lies.length : Int))) && (!(hasInt a1.sections (nth a0.switches ((nth (needs a1) v66).sw))))) = true → false = res)) ∧ ((!((decide (v66 < (a1.lies.length : Int))) && (!(hasInt a1.sections (nth a0.switches ((nth (needs a1) v66).sw)))))) = true → (x0.length + [(nth (needs a1) v66).sw].length) * 8 ≤ 140737488355328 ∧ x0.length + [(nth (needs a1) v66).sw].length ≤ 4611686018427387904)
def impl_wayOk_C2 (a0 : Plan) (a1 : Way) (res : Bool) (x0 : (List Int)) (v66 : Int) : Prop :=
  (((decide (((nth (needs a1) v66).sw) < 0)) || ((decide (((nth (needs a1) v66).sw) ≥ (a0.switches.length : Int))) || ((((nth (needs a1) v66).lie) != 1) && (((nth (needs a1) v66).lie) != 2)))) = true → false = res) ∧ ((!((decide (((nth (needs a1) v66).sw) < 0)) || ((decide (((nth (needs a1) v66).sw) ≥ (a0.switches.length : Int))) || ((((nth (needs a1) v66).lie) != 1) && (((nth (needs a1) v66).lie) != 2))))) = true → impl_wayOk_C1 a0 a1 res x0 v66)
def impl_wayOk_C3 (I1 : Int → Nat → (List Int) → Int → Prop) (m1 : Int → Nat → (List Int) → Int → Nat) (a0 : Plan) (a1 : Way) (res : Bool) (v36 : Int) (g0 : Nat) (x0 : (List Int)) (v66 : Int) : Prop :=
  ((0 ≤ v66 ∧ v66.toNat < (needs a1).length) ∧ (impl_wayOk_C2 a0 a1 res x0 v66)) ∧ (((!((decide (((nth (needs a1) v66).sw) < 0)) || ((decide (((nth (needs a1) v66).sw) ≥ (a0.switches.length : Int))) || ((((nth (needs a1) v66).lie) != 1) && (((nth (needs a1) v66).lie) != 2))))) && (!((decide (v66 < (a1.lies.length : Int))) && (!(hasInt a1.sections (nth a0.switches ((nth (needs a1) v66).sw))))))) = true → I1 v36 (g0 + 1) (x0 ++ [(nth (needs a1) v66).sw]) (IntKind.i64.wrap (v66 + 1)) ∧ m1 v36 (g0 + 1) (x0 ++ [(nth (needs a1) v66).sw]) (IntKind.i64.wrap (v66 + 1)) < m1 v36 g0 x0 v66)
def impl_wayOk_C4 (I1 : Int → Nat → (List Int) → Int → Prop) (m1 : Int → Nat → (List Int) → Int → Nat) (a0 : Plan) (a1 : Way) (res : Bool) (v36 : Int) : Prop :=
  (preNeeds a1) ∧ ((needs a1).length ≤ 4611686018427387904 → I1 v36 0 ([] : List Int) 0 ∧ ∀ (g0 : Nat) (x0 : (List Int)) (v66 : Int), I1 v36 g0 x0 v66 → (((decide (v66 < ((needs a1).length : Int))) = false → (x0.length ≤ 4611686018427387904) ∧ (((!(dup x0)) && (!(meets a1.sections a1.over))) = res)) ∧ ((decide (v66 < ((needs a1).length : Int))) = true → impl_wayOk_C3 I1 m1 a0 a1 res v36 g0 x0 v66)))
def impl_wayOk_C5 (I2 : Int → Int → Prop) (m2 : Int → Int → Nat) (a0 : Plan) (a1 : Way) (res : Bool) (v49 v36 : Int) : Prop :=
  ((0 ≤ v49 ∧ v49.toNat < (nth [a1.sections, a1.over, a1.near] v36).length) ∧ (((decide ((nth (nth [a1.sections, a1.over, a1.near] v36) v49) < 0)) || (decide ((nth (nth [a1.sections, a1.over, a1.near] v36) v49) ≥ a0.sections))) = true → false = res)) ∧ ((!((decide ((nth (nth [a1.sections, a1.over, a1.near] v36) v49) < 0)) || (decide ((nth (nth [a1.sections, a1.over, a1.near] v36) v49) ≥ a0.sections)))) = true → I2 v36 (IntKind.i64.wrap (v49 + 1)) ∧ m2 v36 (IntKind.i64.wrap (v49 + 1)) < m2 v36 v49)
def impl_wayOk_C6 (I0 : Int → Prop) (m0 : Int → Nat) (I2 : Int → Int → Prop) (m2 : Int → Int → Nat) (a0 : Plan) (a1 : Way) (res : Bool) (v36 : Int) : Prop :=
  ((nth [a1.sections, a1.over, a1.near] v36).length ≤ 4611686018427387904 → ((decide (((nth [a1.sections, a1.over, a1.near] v36).length : Int) > 30)) || (dup (nth [a1.sections, a1.over, a1.near] v36))) = true → false = res) ∧ (((nth [a1.sections, a1.over, a1.near] v36).length ≤ 4611686018427387904) ∧ ((!((decide (((nth [a1.sections, a1.over, a1.near] v36).length : Int) > 30)) || (dup (nth [a1.sections, a1.over, a1.near] v36)))) = true) → I2 v36 0 ∧ ∀ (v49 : Int), I2 v36 v49 → (((decide (v49 < ((nth [a1.sections, a1.over, a1.near] v36).length : Int))) = false → I0 (IntKind.i64.wrap (v36 + 1)) ∧ m0 (IntKind.i64.wrap (v36 + 1)) < m0 v36) ∧ ((decide (v49 < ((nth [a1.sections, a1.over, a1.near] v36).length : Int))) = true → impl_wayOk_C5 I2 m2 a0 a1 res v49 v36)))
def impl_wayOk_C7 (I0 : Int → Prop) (m0 : Int → Nat) (I1 : Int → Nat → (List Int) → Int → Prop) (m1 : Int → Nat → (List Int) → Int → Nat) (I2 : Int → Int → Prop) (m2 : Int → Int → Nat) (a0 : Plan) (a1 : Way) (res : Bool) : Prop :=
  (a1.sections.length ≤ 4611686018427387904 → (((a1.sections.length : Int) == 0) || ((decide ((a1.lies.length : Int) > 30)) || (decide ((a1.flanks.length : Int) > 30)))) = true → false = res) ∧ ((a1.sections.length ≤ 4611686018427387904) ∧ ((!(((a1.sections.length : Int) == 0) || ((decide ((a1.lies.length : Int) > 30)) || (decide ((a1.flanks.length : Int) > 30))))) = true) → [a1.sections, a1.over, a1.near].length ≤ 4611686018427387904 → I0 0 ∧ ∀ (v36 : Int), I0 v36 → (((decide (v36 < ([a1.sections, a1.over, a1.near].length : Int))) = false → impl_wayOk_C4 I1 m1 a0 a1 res v36) ∧ ((decide (v36 < ([a1.sections, a1.over, a1.near].length : Int))) = true → (0 ≤ v36 ∧ v36.toNat < [a1.sections, a1.over, a1.near].length) ∧ (impl_wayOk_C6 I0 m0 I2 m2 a0 a1 res v36))))
def impl_wayOk_C (a0 : Plan) (a1 : Way) (res : Bool) (I0 : Int → Prop) (m0 : Int → Nat) (I1 : Int → Nat → (List Int) → Int → Prop) (m1 : Int → Nat → (List Int) → Int → Nat) (I2 : Int → Int → Prop) (m2 : Int → Int → Nat) : Prop :=
 impl_wayOk_C7 I0 m0 I1 m1 I2 m2 a0 a1 res
theorem impl_wayOk_walk (a0 : Plan) (a1 : Way) (res : Bool) (I0 : Int → Prop) (m0 : Int → Nat) (I1 : Int → Nat → (List Int) → Int → Prop) (m1 : Int → Nat → (List Int) → Int → Nat) (I2 : Int → Int → Prop) (m2 : Int → Int → Nat) (h : impl_wayOk_C a0 a1 res I0 m0 I1 m1 I2 m2) : FnV Try.prog 73 [.agg (ePlan false a0), .agg (eWay false a1)] (ab res) := by
 unfold impl_wayOk_C at h
 refine FnS.go (fn := Try.f73) [(0, .agg (ePlan false a0)), (1, .agg (eWay false a1))] Try.func73 ?_
 show WpS _ (nv impl_wayOk_b 1) _ ⟨mkS 126 [(0, .agg (ePlan false a0)), (1, .agg (eWay false a1))], [], []⟩
 refine cRN [] 0 [(4, ab false), (3, ap 3 0), (2, ap 2 0)] [0, 1, 2] [] [(3, (eWay false a1)), (2, (ePlan false a0))] [] ?_
 unfold impl_wayOk_C7 at h
 obtain ⟨q82, h⟩ := h
 refine cSeqM [] [2] ((a1.sections.length ≤ 4611686018427387904) ∧ ((!(((a1.sections.length : Int) == 0) || ((decide ((a1.lies.length : Int) > 30)) || (decide ((a1.flanks.length : Int) > 30))))) = true)) ?_ (fun q2 => ?_)
 ·
  replace h := q82
  refine cSeqM [(27, ab (((a1.sections.length : Int) == 0) || ((decide ((a1.lies.length : Int) > 30)) || (decide ((a1.flanks.length : Int) > 30)))))] [2] (a1.sections.length ≤ 4611686018427387904) ?_ (fun q3 => ?_)
  ·
   refine rgS [] 1 ?_
   refine sLen 3 (some 14) [(13, al eInt a1.sections), (12, ap 3 0)] eInt a1.sections (fun q4 => ?_)
   refine sCase1 2 16 ((a1.sections.length : Int) == 0) [(15, ab ((a1.sections.length : Int) == 0))] (fun q5 => ?_) (fun q5 => ?_)
   ·
    exact sEJ ([(27, ab true)] ++ tz [26, 25, 24, 23] ++ [(22, ab true), (21, ab true)] ++ tz [20, 19, 18, 17]) q4 (by simp only [q5] <;> kernel_rfl)
   ·
    refine sLen 3 (some 19) [(18, al eLie a1.lies), (17, ap 3 1)] eLie a1.lies (fun q6 => ?_)
    refine sCase1 3 22 (decide ((a1.lies.length : Int) > 30)) [(21, ab (decide ((a1.lies.length : Int) > 30))), (20, ab (decide ((a1.lies.length : Int) > 30)))] (fun q7 => ?_) (fun q7 => ?_)
    ·
     exact sEJ ([(27, ab true)] ++ tz [26, 25, 24, 23]) q4 (by simp only [q5, q7] <;> kernel_rfl)
    ·
     refine sLen 3 (some 25) [(24, al eLie a1.flanks), (23, ap 3 2)] eLie a1.flanks (fun q8 => ?_)
     exact sEJ [(27, ab (decide ((a1.flanks.length : Int) > 30))), (26, ab (decide ((a1.flanks.length : Int) > 30)))] q4 (by simp only [q5, q7] <;> kernel_rfl)
  replace h := h q3
  refine cCond1 (fun q9 => ?_) (fun q9 => ?_)
  ·
   replace h := h q9
   refine cRM [] 2 [(4, ab false)] [1] [] ?_
   exact cRet (QJoin.ret (rt1 (ab false) (SnapR3.of1 (sr_bool h))))
  ·
   refine cSkip ?_
   exact QJoin.normal ⟨q3, (by simp only [q9] <;> rfl)⟩ wkJ
 replace h := h q2
 refine cSeq ?_
 refine cSeqM [(34, .lst (List.map (eL eInt false) [a1.sections, a1.over, a1.near]) true false), (35, ai ([a1.sections, a1.over, a1.near].length : Int)), (36, ai 0)] [2] ([a1.sections, a1.over, a1.near].length ≤ 4611686018427387904) ?_ (fun q11 => ?_)
 ·
  refine rgS [] 3 ?_
  refine sLen 8 (some 35) [(34, .lst (List.map (eL eInt false) [a1.sections, a1.over, a1.near]) true false), (33, al eInt a1.near), (32, ap 3 4), (31, al eInt a1.over), (30, ap 3 3), (29, al eInt a1.sections), (28, ap 3 0)] (eL eInt false) [a1.sections, a1.over, a1.near] (fun q12 => ?_)
  exact sEJ [(36, ai 0)] q12
 replace h := h q11
 refine cBlock 0 ?_
 obtain ⟨q81, h⟩ := h
 refine cLoop (fun (v : Int) => (⟨(mkS 126 [(2, ap 2 0), (3, ap 3 0), (34, .lst (List.map (eL eInt false) [a1.sections, a1.over, a1.near]) true false), (35, ai ([a1.sections, a1.over, a1.near].length : Int)), (36, ai v)]), [(3, (eWay false a1)), (2, (ePlan false a0))], []⟩ : St)) (fun (v : Int) => I0 v) (fun (v : Int) => m0 v) 0 (wkL []) q81 (fun v36 hI => ?_)
 replace h := h v36 hI
 refine cRM [] 4 [(37, ab (decide (v36 < ([a1.sections, a1.over, a1.near].length : Int))))] [1] [5] ?_
 obtain ⟨q80, h⟩ := h
 refine cSeqM [] [0, 1, 5] ((decide (v36 < ([a1.sections, a1.over, a1.near].length : Int))) = true) ?_ (fun q14 => ?_)
 ·
  replace h := q80
  refine cCond1 (fun q15 => ?_) (fun q15 => ?_)
  ·
   refine cSkip ?_
   exact QJoin.normal (by simp only [q2.2, q15] <;> rfl) wkJ
  ·
   replace h := h q15
   refine cExit 0 ?_
   refine QJoin.exit ?_
   refine QRound.exit ?_
   refine QBlock.here ?_
   refine QSeq.normal ?_
   refine cSeqG ⟨(mkS 126 [(2, ap 2 0), (3, ap 3 0), (9, an)]), [(3, (eWay false a1)), (2, (ePlan false a0))], []⟩ (True) ?_ (fun q16 => ?_)
   ·
    refine rgS [] 15 ?_
    exact sEJ [(9, an)] trivial
   unfold impl_wayOk_C4 at h
   refine cSeq ?_
   obtain ⟨q53, h⟩ := h
   refine cSeqM [(64, af eLie (needs a1)), (65, ai ((needs a1).length : Int)), (66, ai 0)] [3] ((needs a1).length ≤ 4611686018427387904) ?_ (fun q17 => ?_)
   ·
    replace h := q53
    refine rgS [] 16 ?_
    have q18 := h
    refine sCallV 2 (some 64) [(63, .agg (eWay false a1))] [.agg (eWay false a1)] (impl_needs_V a1 q18) (PW.cons (Snap2.agg (PW.cons sa_lst (PW.cons sa_lst (PW.cons sa_lst (PW.cons sa_lst (PW.cons sa_lst PW.nil)))))) PW.nil) ?_
    refine sLen 1 (some 65) [] eLie (needs a1) (fun q19 => ?_)
    exact sEJ [(66, ai 0)] q19
   replace h := h q17
   refine cBlock 4 ?_
   refine WpS.weak ?_ (weak_adoptS (n := 126) (A' := [(9, rf 0 0 (([] : List Int).length)), (64, af eLie (needs a1)), (65, ai ((needs a1).length : Int)), (66, ai 0), (2, ap 2 0), (3, ap 3 0)]) 9 1 (by kernel_rfl) (by kernel_rfl) (by kernel_rfl) : Weak _ ⟨(mkS 126 [(9, rf 0 0 (([] : List Int).length)), (64, af eLie (needs a1)), (65, ai ((needs a1).length : Int)), (66, ai 0), (2, ap 2 0), (3, ap 3 0)]), [(3, (eWay false a1)), (2, (ePlan false a0))], [⟨0, 1, List.map eInt ([] : List Int)⟩]⟩)
   obtain ⟨q52, h⟩ := h
   refine cLoop (fun (v : Nat × (List Int) × Int) => (⟨(mkS 126 [(2, ap 2 0), (3, ap 3 0), (9, rf 0 (v.1) ((v.2.1).length)), (64, af eLie (needs a1)), (65, ai ((needs a1).length : Int)), (66, ai (v.2.2))]), [(3, (eWay false a1)), (2, (ePlan false a0))], [⟨(v.1), 1, List.map eInt (v.2.1)⟩]⟩ : St)) (fun (v : Nat × (List Int) × Int) => I1 v36 (v.1) (v.2.1) (v.2.2)) (fun (v : Nat × (List Int) × Int) => m1 v36 (v.1) (v.2.1) (v.2.2)) (0, ([] : List Int), 0) (wkL []) q52 (fun v hI => ?_)
   obtain ⟨g0, x0, v66⟩ := v
   replace h := h g0 x0 v66 hI
   dsimp only
   refine cRM [] 17 [(67, ab (decide (v66 < ((needs a1).length : Int))))] [1] [6] ?_
   obtain ⟨q51, h⟩ := h
   refine cSeqM [] [0, 1, 6] ((decide (v66 < ((needs a1).length : Int))) = true) ?_ (fun q21 => ?_)
   ·
    replace h := q51
    refine cCond1 (fun q22 => ?_) (fun q22 => ?_)
    ·
     refine cSkip ?_
     exact QJoin.normal (by simp only [q2.2, q15, q22] <;> rfl) wkJ
    ·
     replace h := h q22
     refine cExit 4 ?_
     refine QJoin.exit ?_
     refine QRound.exit ?_
     refine QBlock.here ?_
     refine QSeq.normal ?_
     obtain ⟨q26, h⟩ := h
     refine cSeqG ⟨(mkS 126 [(4, ab ((!(dup x0)) && (!(meets a1.sections a1.over))))]), [(3, (eWay false a1)), (2, (ePlan false a0))], [⟨g0, 1, List.map eInt x0⟩]⟩ (True) ?_ (fun q23 => ?_)
     ·
      replace h := q26
      refine rgS [] 25 ?_
      have q24 := h
      refine sCallV 2 (some 116) [(115, rf 0 g0 x0.length)] [rf 0 g0 x0.length] (impl_twice_int_V x0) (PW.cons (Snap2.of1 (sa_blk' (sz := 1) (by simp) rfl (iInt) q24)) PW.nil) ?_
      refine sCase1 2 118 (!(dup x0)) [(117, ab (!(dup x0)))] (fun q25 => ?_) (fun q25 => ?_)
      ·
       refine sCallV 5 (some 123) [(122, al eInt a1.over), (121, ap 3 3), (120, al eInt a1.sections), (119, ap 3 0)] [al eInt a1.sections, al eInt a1.over] (impl_meet_V a1.sections a1.over) (PW.cons (Snap2.of1 sa_lst) (PW.cons (Snap2.of1 sa_lst) PW.nil)) ?_
       exact sEJ [(4, ab (!(meets a1.sections a1.over))), (125, ab (!(meets a1.sections a1.over))), (124, ab (!(meets a1.sections a1.over)))] trivial (by simp only [q2.2, q15, q22, q25] <;> kernel_rfl)
      ·
       exact sEJ ([(4, ab false), (125, ab false)] ++ tz [124, 123, 122, 121, 120, 119]) trivial (by simp only [q2.2, q15, q22, q25] <;> kernel_rfl)
     exact cRet (rt1 (ab ((!(dup x0)) && (!(meets a1.sections a1.over)))) (SnapR3.of1 (sr_bool h)))
   replace h := h q21
   unfold impl_wayOk_C3 at h
   obtain ⟨q50, h⟩ := h
   refine cSeqE [(9, rf 0 (g0 + 1) ((x0 ++ [(nth (needs a1) v66).sw]).length))] [2, 1, 3] (fun L => (11, (eLie (nth (needs a1) v66))) :: L) (fun H => bk 0 ⟨(g0 + 1), 1, List.map eInt (x0 ++ [(nth (needs a1) v66).sw])⟩ H) (((!((decide (((nth (needs a1) v66).sw) < 0)) || ((decide (((nth (needs a1) v66).sw) ≥ (a0.switches.length : Int))) || ((((nth (needs a1) v66).lie) != 1) && (((nth (needs a1) v66).lie) != 2))))) && (!((decide (v66 < (a1.lies.length : Int))) && (!(hasInt a1.sections (nth a0.switches ((nth (needs a1) v66).sw))))))) = true) ?_ (fun q27 => ?_)
   ·
    replace h := q50
    refine cBlock 5 ?_
    obtain ⟨q49, h⟩ := h
    refine cSeqE [(10, ai v66), (11, ap 11 0)] [6] (fun L => (11, (eLie (nth (needs a1) v66))) :: L) id (True) ?_ (fun q28 => ?_)
    ·
     replace h := q49
     refine rgS [] 18 ?_
     have q29 := h
     refine sIdx 2 (some 69) [(68, ai v66)] eLie (needs a1) 2 q29 ?_
     exact sEJ [(10, ai v66), (11, ap 11 0), (70, .agg (eLie (nth (needs a1) v66)))] trivial
    unfold impl_wayOk_C2 at h
    obtain ⟨q48, h⟩ := h
    refine cSeqM [] [8] ((!((decide (((nth (needs a1) v66).sw) < 0)) || ((decide (((nth (needs a1) v66).sw) ≥ (a0.switches.length : Int))) || ((((nth (needs a1) v66).lie) != 1) && (((nth (needs a1) v66).lie) != 2))))) = true) ?_ (fun q30 => ?_)
    ·
     replace h := q48
     refine cSeqM [(91, ab ((decide (((nth (needs a1) v66).sw) < 0)) || ((decide (((nth (needs a1) v66).sw) ≥ (a0.switches.length : Int))) || ((((nth (needs a1) v66).lie) != 1) && (((nth (needs a1) v66).lie) != 2)))))] [8] (True) ?_ (fun q31 => ?_)
     ·
      refine rgS [] 19 ?_
      refine sCase1 4 74 (decide (((nth (needs a1) v66).sw) < 0)) [(73, ab (decide (((nth (needs a1) v66).sw) < 0))), (72, ai ((nth (needs a1) v66).sw)), (71, ap 11 0)] (fun q32 => ?_) (fun q32 => ?_)
      ·
       exact sEJ ([(91, ab true)] ++ tz [90, 89, 88, 87, 86, 85, 84, 83] ++ [(82, ab true), (81, ab true)] ++ tz [80, 79, 78, 77, 76, 75]) trivial (by simp only [q2.2, q15, q21, q32] <;> kernel_rfl)
      ·
       refine sLen 5 (some 79) [(78, al eInt a0.switches), (77, ap 2 1), (76, ai ((nth (needs a1) v66).sw)), (75, ap 11 0)] eInt a0.switches (fun q33 => ?_)
       refine sCase1 3 82 (decide (((nth (needs a1) v66).sw) ≥ (a0.switches.length : Int))) [(81, ab (decide (((nth (needs a1) v66).sw) ≥ (a0.switches.length : Int)))), (80, ab (decide (((nth (needs a1) v66).sw) ≥ (a0.switches.length : Int))))] (fun q34 => ?_) (fun q34 => ?_)
       ·
        exact sEJ ([(91, ab true)] ++ tz [90, 89, 88, 87, 86, 85, 84, 83]) trivial (by simp only [q2.2, q15, q21, q32, q34] <;> kernel_rfl)
       ·
        refine sCase1 4 86 (((nth (needs a1) v66).lie) != 1) [(85, ab (((nth (needs a1) v66).lie) != 1)), (84, ai ((nth (needs a1) v66).lie)), (83, ap 11 1)] (fun q35 => ?_) (fun q35 => ?_)
        ·
         exact sEJ [(91, ab (((nth (needs a1) v66).lie) != 2)), (90, ab (((nth (needs a1) v66).lie) != 2)), (89, ab (((nth (needs a1) v66).lie) != 2)), (88, ai ((nth (needs a1) v66).lie)), (87, ap 11 1)] trivial (by simp only [q2.2, q15, q21, q32, q34, q35] <;> kernel_rfl)
        ·
         exact sEJ ([(91, ab false), (90, ab false)] ++ tz [89, 88, 87]) trivial (by simp only [q2.2, q15, q21, q32, q34, q35] <;> kernel_rfl)
     refine cCond1 (fun q36 => ?_) (fun q36 => ?_)
     ·
      replace h := h q36
      refine cRM [] 20 [(4, ab false)] [1] [] ?_
      exact cRet (QJoin.ret (QBlock.ret (QJoin.ret (QRound.ret (QBlock.ret (QSeq.ret (rt1 (ab false) (SnapR3.of1 (sr_bool h)))))))))
     ·
      refine cSkip ?_
      exact QJoin.normal (by simp only [q2.2, q15, q21, q36] <;> rfl) wkJ
    replace h := h q30
    unfold impl_wayOk_C1 at h
    obtain ⟨q47, h⟩ := h
    refine cSeqM [] [0, 1, 7] ((!((decide (v66 < (a1.lies.length : Int))) && (!(hasInt a1.sections (nth a0.switches ((nth (needs a1) v66).sw)))))) = true) ?_ (fun q38 => ?_)
    ·
     replace h := q47
     obtain ⟨q45, h⟩ := h
     refine cSeqM [(108, ab ((decide (v66 < (a1.lies.length : Int))) && (!(hasInt a1.sections (nth a0.switches ((nth (needs a1) v66).sw))))))] [0, 1, 7] (True) ?_ (fun q39 => ?_)
     ·
      replace h := q45
      refine rgD [] 21 impl_wayOk_o21 impl_wayOk_o21a [] ?_
      refine tLen 4 (some 95) [(94, al eLie a1.lies), (93, ap 3 1), (92, ai v66)] eLie a1.lies ?_
      refine tCase1 2 97 (decide (v66 < (a1.lies.length : Int))) [(96, ab (decide (v66 < (a1.lies.length : Int))))] (fun q41 => ?_) (fun q41 => ?_)
      ·
       replace h := h q41
       have q42 := h
       refine tIdx 7 (some 104) [(103, ai ((nth (needs a1) v66).sw)), (102, ap 11 0), (101, al eInt a0.switches), (100, ap 2 1), (99, al eInt a1.sections), (98, ap 3 0)] eInt a0.switches 1 q42 ?_
       refine tCallV 2 (some 106) [(105, ai (nth a0.switches ((nth (needs a1) v66).sw)))] [al eInt a1.sections, ai (nth a0.switches ((nth (needs a1) v66).sw))] (slices_Contains_int_V a1.sections (nth a0.switches ((nth (needs a1) v66).sw))) (PW.cons (Snap2.of1 sa_lst) (PW.cons (Snap2.of1 (.int _ _)) PW.nil)) ?_
       exact tEJ [(108, ab (!(hasInt a1.sections (nth a0.switches ((nth (needs a1) v66).sw))))), (107, ab (!(hasInt a1.sections (nth a0.switches ((nth (needs a1) v66).sw)))))] trivial (by simp only [q2.2, q15, q21, q30, q41] <;> kernel_rfl)
      ·
       exact tEJ ([(108, ab false)] ++ tz [107, 106, 105, 104, 103, 102, 101, 100, 99, 98]) trivial (by simp only [q2.2, q15, q21, q30, q41] <;> kernel_rfl)
     refine cCond1 (fun q43 => ?_) (fun q43 => ?_)
     ·
      replace h := h q43
      refine cRM [] 22 [(4, ab false)] [1] [] ?_
      exact cRet (QJoin.ret (QBlock.ret (QJoin.ret (QRound.ret (QBlock.ret (QSeq.ret (rt1 (ab false) (SnapR3.of1 (sr_bool h)))))))))
     ·
      refine cSkip ?_
      exact QJoin.normal (by simp only [q2.2, q15, q21, q30, q43] <;> rfl) wkJ
    replace h := h q38
    refine rgS [] 23 ?_
    have q46 := h
    refine sApp 5 (some 113) [(112, .lst (List.map eInt [(nth (needs a1) v66).sw]) true true), (111, ai ((nth (needs a1) v66).sw)), (110, ap 11 0), (109, rf 0 g0 x0.length)] eInt x0 [(nth (needs a1) v66).sw] (refrs true (List.map eInt [(nth (needs a1) v66).sw])) 0 g0 1 8 (fun r => [⟨(g0 + 1), 1, r⟩]) rfl q46 ?_
    refine sEnd [(9, rf 0 (g0 + 1) ((x0 ++ [(nth (needs a1) v66).sw]).length))] ?_
    refine QBlock.normal ?_
    exact QJoin.normal (by simp only [q2.2, q15, q21, q30, q38] <;> rfl) wkJ
   replace h := h q27
   refine rgS [] 24 ?_
   refine sEnd [(66, ai (IntKind.i64.wrap (v66 + 1))), (114, ai (IntKind.i64.wrap (v66 + 1)))] ?_
   exact QRound.again ((g0 + 1), (x0 ++ [(nth (needs a1) v66).sw]), (IntKind.i64.wrap (v66 + 1))) h (wkL [11])
 replace h := h q14
 refine cSeq ?_
 refine cBlock 1 ?_
 obtain ⟨q79, h⟩ := h
 refine cSeqM [(6, al eInt (nth [a1.sections, a1.over, a1.near] v36))] [5] (True) ?_ (fun q54 => ?_)
 ·
  replace h := q79
  refine rgS [] 5 ?_
  have q55 := h
  refine sIdx 1 (some 38) [] (eL eInt false) [a1.sections, a1.over, a1.near] 1 q55 ?_
  exact sEJ [(6, al eInt (nth [a1.sections, a1.over, a1.near] v36)), (39, al eInt (nth [a1.sections, a1.over, a1.near] v36))] trivial
 unfold impl_wayOk_C6 at h
 obtain ⟨q78, h⟩ := h
 refine cSeqM [] [6] (((nth [a1.sections, a1.over, a1.near] v36).length ≤ 4611686018427387904) ∧ ((!((decide (((nth [a1.sections, a1.over, a1.near] v36).length : Int) > 30)) || (dup (nth [a1.sections, a1.over, a1.near] v36)))) = true)) ?_ (fun q56 => ?_)
 ·
  replace h := q78
  refine cSeqM [(46, ab ((decide (((nth [a1.sections, a1.over, a1.near] v36).length : Int) > 30)) || (dup (nth [a1.sections, a1.over, a1.near] v36))))] [6] ((nth [a1.sections, a1.over, a1.near] v36).length ≤ 4611686018427387904) ?_ (fun q57 => ?_)
  ·
   refine rgS [] 6 ?_
   refine sLen 2 (some 41) [(40, al eInt (nth [a1.sections, a1.over, a1.near] v36))] eInt (nth [a1.sections, a1.over, a1.near] v36) (fun q58 => ?_)
   refine sCase1 2 43 (decide (((nth [a1.sections, a1.over, a1.near] v36).length : Int) > 30)) [(42, ab (decide (((nth [a1.sections, a1.over, a1.near] v36).length : Int) > 30)))] (fun q59 => ?_) (fun q59 => ?_)
   ·
    exact sEJ ([(46, ab true)] ++ tz [45, 44]) q58 (by simp only [q2.2, q14, q59] <;> kernel_rfl)
   ·
    refine sCallV 2 (some 45) [(44, al eInt (nth [a1.sections, a1.over, a1.near] v36))] [al eInt (nth [a1.sections, a1.over, a1.near] v36)] (impl_twice_int_V (nth [a1.sections, a1.over, a1.near] v36)) (PW.cons (Snap2.of1 sa_lst) PW.nil) ?_
    exact sEJ [(46, ab (dup (nth [a1.sections, a1.over, a1.near] v36)))] q58 (by simp only [q2.2, q14, q59] <;> kernel_rfl)
  replace h := h q57
  refine cCond1 (fun q60 => ?_) (fun q60 => ?_)
  ·
   replace h := h q60
   refine cRM [] 7 [(4, ab false)] [1] [] ?_
   exact cRet (QJoin.ret (QBlock.ret (QSeq.ret (QRound.ret (QBlock.ret (QSeq.ret (rt1 (ab false) (SnapR3.of1 (sr_bool h)))))))))
  ·
   refine cSkip ?_
   exact QJoin.normal ⟨q57, (by simp only [q2.2, q14, q60] <;> rfl)⟩ wkJ
 replace h := h q56
 refine cSeqM [(47, al eInt (nth [a1.sections, a1.over, a1.near] v36)), (48, ai ((nth [a1.sections, a1.over, a1.near] v36).length : Int)), (49, ai 0)] [0, 1, 5] (True) ?_ (fun q62 => ?_)
 ·
  refine rgS [] 8 ?_
  refine sLen 2 (some 48) [(47, al eInt (nth [a1.sections, a1.over, a1.near] v36))] eInt (nth [a1.sections, a1.over, a1.near] v36) (fun q63 => ?_)
  exact sEJ [(49, ai 0)] trivial
 refine cBlock 2 ?_
 obtain ⟨q77, h⟩ := h
 refine cLoop (fun (v : Int) => (⟨(mkS 126 [(2, ap 2 0), (3, ap 3 0), (34, .lst (List.map (eL eInt false) [a1.sections, a1.over, a1.near]) true false), (35, ai ([a1.sections, a1.over, a1.near].length : Int)), (36, ai v36), (47, al eInt (nth [a1.sections, a1.over, a1.near] v36)), (48, ai ((nth [a1.sections, a1.over, a1.near] v36).length : Int)), (49, ai v)]), [(3, (eWay false a1)), (2, (ePlan false a0))], []⟩ : St)) (fun (v : Int) => I2 v36 v) (fun (v : Int) => m2 v36 v) 0 (wkL []) q77 (fun v49 hI => ?_)
 replace h := h v49 hI
 refine cRM [] 9 [(50, ab (decide (v49 < ((nth [a1.sections, a1.over, a1.near] v36).length : Int))))] [1] [8] ?_
 obtain ⟨q76, h⟩ := h
 refine cSeqM [] [0, 1, 8] ((decide (v49 < ((nth [a1.sections, a1.over, a1.near] v36).length : Int))) = true) ?_ (fun q65 => ?_)
 ·
  replace h := q76
  refine cCond1 (fun q66 => ?_) (fun q66 => ?_)
  ·
   refine cSkip ?_
   exact QJoin.normal (by simp only [q2.2, q14, q56.2, q66] <;> rfl) wkJ
  ·
   replace h := h q66
   refine cExit 2 ?_
   refine QJoin.exit ?_
   refine QRound.exit ?_
   refine QBlock.here ?_
   refine QBlock.normal ?_
   refine QSeq.normal ?_
   refine rgS [] 14 ?_
   refine sEnd [(36, ai (IntKind.i64.wrap (v36 + 1))), (62, ai (IntKind.i64.wrap (v36 + 1)))] ?_
   exact QRound.again (IntKind.i64.wrap (v36 + 1)) h (wkL [])
 replace h := h q65
 unfold impl_wayOk_C5 at h
 obtain ⟨q75, h⟩ := h
 refine cSeqM [] [8] ((!((decide ((nth (nth [a1.sections, a1.over, a1.near] v36) v49) < 0)) || (decide ((nth (nth [a1.sections, a1.over, a1.near] v36) v49) ≥ a0.sections)))) = true) ?_ (fun q67 => ?_)
 ·
  replace h := q75
  refine cBlock 3 ?_
  obtain ⟨q74, h⟩ := h
  refine cSeqM [(8, ai (nth (nth [a1.sections, a1.over, a1.near] v36) v49))] [8] (True) ?_ (fun q68 => ?_)
  ·
   replace h := q74
   refine rgS [] 10 ?_
   have q69 := h
   refine sIdx 1 (some 51) [] eInt (nth [a1.sections, a1.over, a1.near] v36) 1 q69 ?_
   exact sEJ [(8, ai (nth (nth [a1.sections, a1.over, a1.near] v36) v49)), (52, ai (nth (nth [a1.sections, a1.over, a1.near] v36) v49))] trivial
  refine cSeqM [(60, ab ((decide ((nth (nth [a1.sections, a1.over, a1.near] v36) v49) < 0)) || (decide ((nth (nth [a1.sections, a1.over, a1.near] v36) v49) ≥ a0.sections))))] [0, 1, 8] (True) ?_ (fun q70 => ?_)
  ·
   refine rgS [] 11 ?_
   refine sCase1 3 55 (decide ((nth (nth [a1.sections, a1.over, a1.near] v36) v49) < 0)) [(54, ab (decide ((nth (nth [a1.sections, a1.over, a1.near] v36) v49) < 0))), (53, ai (nth (nth [a1.sections, a1.over, a1.near] v36) v49))] (fun q71 => ?_) (fun q71 => ?_)
   ·
    exact sEJ ([(60, ab true)] ++ tz [59, 58, 57, 56]) trivial (by simp only [q2.2, q14, q56.2, q65, q71] <;> kernel_rfl)
   ·
    exact sEJ [(60, ab (decide ((nth (nth [a1.sections, a1.over, a1.near] v36) v49) ≥ a0.sections))), (59, ab (decide ((nth (nth [a1.sections, a1.over, a1.near] v36) v49) ≥ a0.sections))), (58, ai a0.sections), (57, ap 2 0), (56, ai (nth (nth [a1.sections, a1.over, a1.near] v36) v49))] trivial (by simp only [q2.2, q14, q56.2, q65, q71] <;> kernel_rfl)
  refine cCond1 (fun q72 => ?_) (fun q72 => ?_)
  ·
   replace h := h q72
   refine cRM [] 12 [(4, ab false)] [1] [] ?_
   exact cRet (QBlock.ret (QJoin.ret (QRound.ret (QBlock.ret (QBlock.ret (QSeq.ret (QRound.ret (QBlock.ret (QSeq.ret (rt1 (ab false) (SnapR3.of1 (sr_bool h))))))))))))
  ·
   refine cSkip ?_
   refine QBlock.normal ?_
   exact QJoin.normal (by simp only [q2.2, q14, q56.2, q65, q72] <;> rfl) wkJ
 replace h := h q67
 refine rgS [] 13 ?_
 refine sEnd [(49, ai (IntKind.i64.wrap (v49 + 1))), (61, ai (IntKind.i64.wrap (v49 + 1)))] ?_
 exact QRound.again (IntKind.i64.wrap (v49 + 1)) h (wkL [])
theorem impl_wayOk_V (a0 : Plan) (a1 : Way) : FnV Try.prog 73 [.agg (ePlan false a0), .agg (eWay false a1)] (ab (wayGood a0 a1)) := impl_wayOk_walk a0 a1 (wayGood a0 a1) (upI ([a1.sections, a1.over, a1.near].length : Int) (fun k => !listOk (nth [a1.sections, a1.over, a1.near] k) a0.sections)) (upM ([a1.sections, a1.over, a1.near].length : Int)) (fun _ _ x v => upI (needs a1).length (needBad a0 a1) v ∧ x = ((needs a1).take v.toNat).map (·.sw)) (fun _ _ _ v => upM (needs a1).length v) (fun i => upI (nth [a1.sections, a1.over, a1.near] i).length (fun j => !inR (nth (nth [a1.sections, a1.over, a1.near] i) j) 0 (a0.sections - 1))) (fun i => upM (nth [a1.sections, a1.over, a1.near] i).length) (by
 unfold impl_wayOk_C impl_wayOk_C7
 have hlen : a1.lies.length ≤ 30 → a1.flanks.length ≤ 30 → (needs a1).length ≤ 60 := by unfold needs; rw [List.length_append]; omega
 refine ⟨fun hn h => ?_, fun ⟨hn, h⟩ hL => ?_⟩
 ·symm
  rw [← Bool.not_eq_true, wayGood_iff]
  rintro ⟨h1, -, -, -, h5, h6, -⟩
  have := (liesIn_iff.1 h5).1
  have := (liesIn_iff.1 h6).1
  simp at h
  rcases h with h | h | h
  ·exact h1 h
  ·omega
  ·omega
 ·simp at h
  obtain ⟨h1, h2, h3⟩ := h
  have h2 : a1.lies.length ≤ 30 := by omega
  have h3 : a1.flanks.length ≤ 30 := by omega
  have h60 := hlen h2 h3
  refine ⟨up_start (len0 _), fun i hI => ⟨fun hi => ?_, fun hi => ⟨up_in hI hi, ?_⟩⟩⟩
  ·have hall : ∀ l ∈ [a1.sections, a1.over, a1.near], listOk l a0.sections = true := fun l hl => by
    have := up_all (q := fun l => !listOk l a0.sections) (up_end hI hi) l hl
    simpa using this
   unfold impl_wayOk_C4
   refine ⟨⟨by omega, by omega⟩, fun hN => ⟨⟨up_start (len0 _), rfl⟩, fun g x v ⟨hJ, hx⟩ => ⟨fun hv => ?_, fun hv => ?_⟩⟩⟩
   ·have hv' : ¬ v < ((needs a1).length : Int) := by simpa using hv
    rw [List.take_of_length_le (by have := hJ.1; omega)] at hx
    subst hx
    exact ⟨by rw [List.length_map]; omega, good_all h1 hall h2 h3 (up_end hJ hv)⟩
   ·have hin := up_in hJ hv
    have hxl : x.length ≤ 60 := by rw [hx, List.length_map, List.length_take]; omega
    have bad : needBad a0 a1 v = true → false = wayGood a0 a1 := fun hb => by
     symm
     rw [← Bool.not_eq_true]
     intro hg
     rw [good_needs hg hin.1 hin.2] at hb
     cases hb
    unfold impl_wayOk_C3 impl_wayOk_C2 impl_wayOk_C1
    rw [lieBad_cond]
    refine ⟨⟨hin, fun hb => bad (by unfold needBad; rw [hb]; rfl), fun hb => ⟨⟨fun hl => ?_, fun hc => bad (by unfold needBad; rw [hc, Bool.or_true])⟩, fun _ => ?_⟩⟩, fun hb => ?_⟩
    ·have hb : lieBad a0 (nth (needs a1) v) = false := not_eq hb
     rw [lieBad_eq] at hb
     simp only [Bool.not_eq_false', Bool.and_eq_true, inR_true] at hb
     exact ⟨hb.1.1, by omega⟩
    ·simp only [List.length_cons, List.length_nil]; omega
    ·have hb : needBad a0 a1 v = false := by
      unfold needBad
      rw [Bool.and_eq_true] at hb
      rw [not_eq hb.1, not_eq hb.2]; rfl
     have hst := up_step (lenI hN) hJ hv hb
     have hw : IntKind.i64.wrap (v + 1) = v + 1 := w64 (by omega) (by omega)
     refine ⟨⟨hst.1, ?_⟩, hst.2⟩
     rw [hw, hx, show (v + 1).toNat = v.toNat + 1 by omega, List.take_succ_eq_append_getElem hin.2, List.map_append, ← nth_eq hin.2]
     rfl
  ·have hii := up_in hI hi
   have badl : listOk (nth [a1.sections, a1.over, a1.near] i) a0.sections = false → false = wayGood a0 a1 := fun hb => by
    symm
    rw [← Bool.not_eq_true]
    intro hg
    rw [good_lists hg _ (nth_mem hii.2)] at hb
    cases hb
   unfold impl_wayOk_C6 impl_wayOk_C5
   refine ⟨fun hn h => badl ?_, fun ⟨hn, h⟩ => ⟨up_start (len0 _), fun v hV => ⟨fun hv => ?_, fun hv => ?_⟩⟩⟩
   ·rw [← Bool.not_eq_true, listOk_iff]
    rintro ⟨q1, -, q3⟩
    simp only [Bool.or_eq_true, decide_eq_true_eq] at h
    rcases h with h | h
    ·omega
    ·unfold dup at h; simp [q3] at h
   ·refine up_step (by simp) hI hi ?_
    simp only [Bool.not_eq_true', Bool.or_eq_false_iff, decide_eq_false_iff_not] at h
    have hd : (nth [a1.sections, a1.over, a1.near] i).Nodup := by have := h.2; unfold dup at this; simpa using this
    have : listOk (nth [a1.sections, a1.over, a1.near] i) a0.sections = true := by
     rw [listOk_iff]
     refine ⟨by omega, fun x hx => ?_, hd⟩
     have := up_all (q := fun x => !inR x 0 (a0.sections - 1)) (up_end hV hv) x hx
     simpa using this
    rw [this]; rfl
   ·rw [rng_eq]
    exact ⟨⟨up_in hV hv, fun h => badl (listOk_r (up_in hV hv).2 h)⟩, fun h => up_step (lenI hn) hV hv (not_eq h)⟩)
noncomputable def impl_PlanOk_b : Code := bodyC Try.f26
def impl_PlanOk_o29 : List Item := [iq 0, iq 1, iq 2, iq 3, iq 4, iq 5, iq 6, iq 7, iq 8, iq 9, iq 10, iq 11, iq 12, iq 13, iq 14, iq 15, iq 16, iq 17, iq 18, iq 19, iq 20, iq 21, iq 22, iq 23, iq 24, iq 25, iq 26, iq 27, iq 28, iq 29, iq 30, iq 31, iq 32, iq 33, iq 34, iq 35, iq 36, iq 37, iq 38, iq 39, iq 40, iq 41, iq 42, iq 43, iq 44, iq 45, iq 46, iq 47]
def impl_PlanOk_o29a : List (List Nat) := [[], [0], [], [0, 1, 2], rg 0 4, [], rg 0 6, rg 0 7, [], [8], [], [8, 9, 10], rg 8 12, [], rg 8 14, rg 8 15, rg 0 16, rg 0 17, rg 0 18, rg 0 18, rg 0 20, rg 0 21, rg 0 22, rg 0 23, rg 0 22, rg 0 25, rg 0 26, rg 0 22, rg 0 28, rg 0 29, rg 0 30, rg 0 31, rg 0 32, rg 0 33, rg 0 34, rg 0 33, rg 0 36, rg 0 37, rg 0 38, rg 0 33, rg 0 33 ++ [39], rg 0 33, rg 0 33 ++ [39, 40, 41], rg 0 33 ++ rg 39 43, rg 0 33 ++ rg 39 44, rg 0 45, rg 0 46, rg 0 47]
def impl_PlanOk_C1 (a0 : Plan) (res : Fault) (v110 v104 : Int) : Prop :=
  ((0 ≤ v104 ∧ v104.toNat < a0.bars.length) ∧ ((0 ≤ v110 ∧ v110.toNat < (nth a0.bars v104).length) ∧ ((0 ≤ v110 ∧ v110.toNat < a0.bars.length) ∧ ((0 ≤ v104 ∧ v104.toNat < (nth a0.bars v110).length) ∧ (((nth (nth a0.bars v104) v110) != (nth (nth a0.bars v110) v104)) = false → (v104 != v110) = true → (0 ≤ v104 ∧ v104.toNat < a0.bars.length) ∧ ((0 ≤ v110 ∧ v110.toNat < (nth a0.bars v104).length) ∧ ((!(nth (nth a0.bars v104) v110)) = true → (0 ≤ v104 ∧ v104.toNat < a0.ways.length) ∧ (0 ≤ v110 ∧ v110.toNat < a0.ways.length)))))))) ∧ ((((nth (nth a0.bars v104) v110) != (nth (nth a0.bars v110) v104)) || ((v104 != v110) && ((!(nth (nth a0.bars v104) v110)) && (meets ((nth a0.ways v104).sections) ((nth a0.ways v110).sections))))) = true → (5 = res.code) ∧ (v104 = res.pos))
def impl_PlanOk_C2 (I3 : Int → Int → Int → Int → Prop) (m3 : Int → Int → Int → Int → Nat) (I4 : Int → Int → Int → Int → Int → Prop) (m4 : Int → Int → Int → Int → Int → Nat) (a0 : Plan) (res : Fault) (v45 v64 v87 v110 v104 : Int) : Prop :=
  ((decide (v110 < (a0.ways.length : Int))) = false → I3 v45 v64 v87 (IntKind.i64.wrap (v104 + 1)) ∧ m3 v45 v64 v87 (IntKind.i64.wrap (v104 + 1)) < m3 v45 v64 v87 v104) ∧ ((decide (v110 < (a0.ways.length : Int))) = true → (impl_PlanOk_C1 a0 res v110 v104) ∧ ((!(((nth (nth a0.bars v104) v110) != (nth (nth a0.bars v110) v104)) || ((v104 != v110) && ((!(nth (nth a0.bars v104) v110)) && (meets ((nth a0.ways v104).sections) ((nth a0.ways v110).sections)))))) = true → I4 v45 v64 v87 v104 (IntKind.i64.wrap (v110 + 1)) ∧ m4 v45 v64 v87 v104 (IntKind.i64.wrap (v110 + 1)) < m4 v45 v64 v87 v104 v110))
def impl_PlanOk_C3 (I2 : Int → Int → Int → Prop) (m2 : Int → Int → Int → Nat) (a0 : Plan) (res : Fault) (v45 v64 v87 : Int) : Prop :=
  ((0 ≤ v87 ∧ v87.toNat < a0.bars.length) ∧ ((nth a0.bars v87).length ≤ 4611686018427387904 → (((nth a0.bars v87).length : Int) != (a0.ways.length : Int)) = true → (4 = res.code) ∧ (v87 = res.pos))) ∧ (((nth a0.bars v87).length ≤ 4611686018427387904) ∧ ((!(((nth a0.bars v87).length : Int) != (a0.ways.length : Int))) = true) → I2 v45 v64 (IntKind.i64.wrap (v87 + 1)) ∧ m2 v45 v64 (IntKind.i64.wrap (v87 + 1)) < m2 v45 v64 v87)
def impl_PlanOk_C4 (I2 : Int → Int → Int → Prop) (m2 : Int → Int → Int → Nat) (I3 : Int → Int → Int → Int → Prop) (m3 : Int → Int → Int → Int → Nat) (I4 : Int → Int → Int → Int → Int → Prop) (m4 : Int → Int → Int → Int → Int → Nat) (a0 : Plan) (res : Fault) (v45 v64 v87 : Int) : Prop :=
  ((decide (v87 < (a0.bars.length : Int))) = false → I3 v45 v64 v87 0 ∧ ∀ (v104 : Int), I3 v45 v64 v87 v104 → (((decide (v104 < (a0.ways.length : Int))) = false → (0 = res.code) ∧ (0 = res.pos)) ∧ ((decide (v104 < (a0.ways.length : Int))) = true → I4 v45 v64 v87 v104 0 ∧ ∀ (v110 : Int), I4 v45 v64 v87 v104 v110 → (impl_PlanOk_C2 I3 m3 I4 m4 a0 res v45 v64 v87 v110 v104)))) ∧ ((decide (v87 < (a0.bars.length : Int))) = true → impl_PlanOk_C3 I2 m2 a0 res v45 v64 v87)
def impl_PlanOk_C5 (I1 : Int → Int → Prop) (m1 : Int → Int → Nat) (I2 : Int → Int → Int → Prop) (m2 : Int → Int → Int → Nat) (I3 : Int → Int → Int → Int → Prop) (m3 : Int → Int → Int → Int → Nat) (I4 : Int → Int → Int → Int → Int → Prop) (m4 : Int → Int → Int → Int → Int → Nat) (a0 : Plan) (res : Fault) (v45 v64 : Int) : Prop :=
  ((decide (v64 < (a0.ways.length : Int))) = false → (a0.bars.length ≤ 4611686018427387904 → ((a0.bars.length : Int) != (a0.ways.length : Int)) = true → (4 = res.code) ∧ (0 = res.pos)) ∧ ((a0.bars.length ≤ 4611686018427387904) ∧ ((!((a0.bars.length : Int) != (a0.ways.length : Int))) = true) → I2 v45 v64 0 ∧ ∀ (v87 : Int), I2 v45 v64 v87 → (impl_PlanOk_C4 I2 m2 I3 m3 I4 m4 a0 res v45 v64 v87))) ∧ ((decide (v64 < (a0.ways.length : Int))) = true → ((0 ≤ v64 ∧ v64.toNat < a0.ways.length) ∧ ((!(wayGood a0 (nth a0.ways v64))) = true → (3 = res.code) ∧ (v64 = res.pos))) ∧ ((!(!(wayGood a0 (nth a0.ways v64)))) = true → I1 v45 (IntKind.i64.wrap (v64 + 1)) ∧ m1 v45 (IntKind.i64.wrap (v64 + 1)) < m1 v45 v64))
def impl_PlanOk_C6 (I0 : Int → Prop) (m0 : Int → Nat) (I1 : Int → Int → Prop) (m1 : Int → Int → Nat) (I2 : Int → Int → Int → Prop) (m2 : Int → Int → Int → Nat) (I3 : Int → Int → Int → Int → Prop) (m3 : Int → Int → Int → Int → Nat) (I4 : Int → Int → Int → Int → Int → Prop) (m4 : Int → Int → Int → Int → Int → Nat) (a0 : Plan) (res : Fault) (v45 : Int) : Prop :=
  ((decide (v45 < (a0.switches.length : Int))) = false → a0.ways.length ≤ 4611686018427387904 → I1 v45 0 ∧ ∀ (v64 : Int), I1 v45 v64 → (impl_PlanOk_C5 I1 m1 I2 m2 I3 m3 I4 m4 a0 res v45 v64)) ∧ ((decide (v45 < (a0.switches.length : Int))) = true → ((0 ≤ v45 ∧ v45.toNat < a0.switches.length) ∧ (((decide ((nth a0.switches v45) < 0)) || (decide ((nth a0.switches v45) ≥ a0.sections))) = true → (2 = res.code) ∧ (v45 = res.pos))) ∧ ((!((decide ((nth a0.switches v45) < 0)) || (decide ((nth a0.switches v45) ≥ a0.sections)))) = true → I0 (IntKind.i64.wrap (v45 + 1)) ∧ m0 (IntKind.i64.wrap (v45 + 1)) < m0 v45))
def impl_PlanOk_C7 (I0 : Int → Prop) (m0 : Int → Nat) (I1 : Int → Int → Prop) (m1 : Int → Int → Nat) (I2 : Int → Int → Int → Prop) (m2 : Int → Int → Int → Nat) (I3 : Int → Int → Int → Int → Prop) (m3 : Int → Int → Int → Int → Nat) (I4 : Int → Int → Int → Int → Int → Prop) (m4 : Int → Int → Int → Int → Int → Nat) (a0 : Plan) (res : Fault) : Prop :=
  (((decide (a0.sections < 1)) || ((decide (a0.sections > 60)) || ((decide (a0.hold < 1)) || ((decide (a0.hold > 300)) || ((decide ((a0.switches.length : Int) > 40)) || (decide ((a0.ways.length : Int) > 100))))))) = true → (1 = res.code) ∧ (0 = res.pos)) ∧ ((!((decide (a0.sections < 1)) || ((decide (a0.sections > 60)) || ((decide (a0.hold < 1)) || ((decide (a0.hold > 300)) || ((decide ((a0.switches.length : Int) > 40)) || (decide ((a0.ways.length : Int) > 100)))))))) = true → a0.switches.length ≤ 4611686018427387904 → I0 0 ∧ ∀ (v45 : Int), I0 v45 → (impl_PlanOk_C6 I0 m0 I1 m1 I2 m2 I3 m3 I4 m4 a0 res v45))
def impl_PlanOk_C (a0 : Plan) (res : Fault) (I0 : Int → Prop) (m0 : Int → Nat) (I1 : Int → Int → Prop) (m1 : Int → Int → Nat) (I2 : Int → Int → Int → Prop) (m2 : Int → Int → Int → Nat) (I3 : Int → Int → Int → Int → Prop) (m3 : Int → Int → Int → Int → Nat) (I4 : Int → Int → Int → Int → Int → Prop) (m4 : Int → Int → Int → Int → Int → Nat) : Prop :=
 impl_PlanOk_C7 I0 m0 I1 m1 I2 m2 I3 m3 I4 m4 a0 res
theorem impl_PlanOk_walk (a0 : Plan) (res : Fault) (I0 : Int → Prop) (m0 : Int → Nat) (I1 : Int → Int → Prop) (m1 : Int → Int → Nat) (I2 : Int → Int → Int → Prop) (m2 : Int → Int → Int → Nat) (I3 : Int → Int → Int → Int → Prop) (m3 : Int → Int → Int → Int → Nat) (I4 : Int → Int → Int → Int → Int → Prop) (m4 : Int → Int → Int → Int → Int → Nat) (h : impl_PlanOk_C a0 res I0 m0 I1 m1 I2 m2 I3 m3 I4 m4) : FnV Try.prog 26 [.agg (ePlan false a0)] (.agg (eFault res)) := by
 unfold impl_PlanOk_C at h
 refine FnS.go (fn := Try.f26) [(0, .agg (ePlan false a0))] Try.func26 ?_
 show WpS _ (nv impl_PlanOk_b 1) _ ⟨mkS 166 [(0, .agg (ePlan false a0))], [], []⟩
 refine cRN [] 0 [(2, ap 2 0), (1, ap 1 0)] [2] [] [(2, [ai 0, ai 0]), (1, (ePlan false a0))] [] ?_
 unfold impl_PlanOk_C7 at h
 obtain ⟨q102, h⟩ := h
 refine cSeqM [] [2] ((!((decide (a0.sections < 1)) || ((decide (a0.sections > 60)) || ((decide (a0.hold < 1)) || ((decide (a0.hold > 300)) || ((decide ((a0.switches.length : Int) > 40)) || (decide ((a0.ways.length : Int) > 100)))))))) = true) ?_ (fun q2 => ?_)
 ·
  replace h := q102
  refine cSeqM [(40, ab ((decide (a0.sections < 1)) || ((decide (a0.sections > 60)) || ((decide (a0.hold < 1)) || ((decide (a0.hold > 300)) || ((decide ((a0.switches.length : Int) > 40)) || (decide ((a0.ways.length : Int) > 100))))))))] [2] (True) ?_ (fun q3 => ?_)
  ·
   refine rgS [] 1 ?_
   refine sCase1 4 14 (decide (a0.sections < 1)) [(13, ab (decide (a0.sections < 1))), (12, ai a0.sections), (11, ap 1 0)] (fun q4 => ?_) (fun q4 => ?_)
   ·
    exact sEJ ([(40, ab true)] ++ tz [39, 38, 37, 36] ++ [(35, ab true), (34, ab true)] ++ tz [33, 32, 31, 30] ++ [(29, ab true), (28, ab true)] ++ tz [27, 26, 25] ++ [(24, ab true), (23, ab true)] ++ tz [22, 21, 20] ++ [(19, ab true), (18, ab true)] ++ tz [17, 16, 15]) trivial (by simp only [q4] <;> kernel_rfl)
   ·
    refine sCase1 5 19 (decide (a0.sections > 60)) [(18, ab (decide (a0.sections > 60))), (17, ab (decide (a0.sections > 60))), (16, ai a0.sections), (15, ap 1 0)] (fun q5 => ?_) (fun q5 => ?_)
    ·
     exact sEJ ([(40, ab true)] ++ tz [39, 38, 37, 36] ++ [(35, ab true), (34, ab true)] ++ tz [33, 32, 31, 30] ++ [(29, ab true), (28, ab true)] ++ tz [27, 26, 25] ++ [(24, ab true), (23, ab true)] ++ tz [22, 21, 20]) trivial (by simp only [q4, q5] <;> kernel_rfl)
    ·
     refine sCase1 5 24 (decide (a0.hold < 1)) [(23, ab (decide (a0.hold < 1))), (22, ab (decide (a0.hold < 1))), (21, ai a0.hold), (20, ap 1 4)] (fun q6 => ?_) (fun q6 => ?_)
     ·
      exact sEJ ([(40, ab true)] ++ tz [39, 38, 37, 36] ++ [(35, ab true), (34, ab true)] ++ tz [33, 32, 31, 30] ++ [(29, ab true), (28, ab true)] ++ tz [27, 26, 25]) trivial (by simp only [q4, q5, q6] <;> kernel_rfl)
     ·
      refine sCase1 5 29 (decide (a0.hold > 300)) [(28, ab (decide (a0.hold > 300))), (27, ab (decide (a0.hold > 300))), (26, ai a0.hold), (25, ap 1 4)] (fun q7 => ?_) (fun q7 => ?_)
      ·
       exact sEJ ([(40, ab true)] ++ tz [39, 38, 37, 36] ++ [(35, ab true), (34, ab true)] ++ tz [33, 32, 31, 30]) trivial (by simp only [q4, q5, q6, q7] <;> kernel_rfl)
      ·
       refine sLen 3 (some 32) [(31, al eInt a0.switches), (30, ap 1 1)] eInt a0.switches (fun q8 => ?_)
       refine sCase1 3 35 (decide ((a0.switches.length : Int) > 40)) [(34, ab (decide ((a0.switches.length : Int) > 40))), (33, ab (decide ((a0.switches.length : Int) > 40)))] (fun q9 => ?_) (fun q9 => ?_)
       ·
        exact sEJ ([(40, ab true)] ++ tz [39, 38, 37, 36]) trivial (by simp only [q4, q5, q6, q7, q9] <;> kernel_rfl)
       ·
        refine sLen 3 (some 38) [(37, al (eWay false) a0.ways), (36, ap 1 2)] (eWay false) a0.ways (fun q10 => ?_)
        exact sEJ [(40, ab (decide ((a0.ways.length : Int) > 100))), (39, ab (decide ((a0.ways.length : Int) > 100)))] trivial (by simp only [q4, q5, q6, q7, q9] <;> kernel_rfl)
  refine cCond1 (fun q11 => ?_) (fun q11 => ?_)
  ·
   replace h := h q11
   refine cRE [] 2 [(41, .agg [ai 1, ai 0])] [] [0, 1, 1] (fun L => ed 0 0 (ai 1) L) id ?_
   exact cRet (QJoin.ret (rt1 (.agg [ai 1, ai 0]) (SnapR3.agg (PW.cons (sr_int h.1) (PW.cons (sr_int h.2) PW.nil)))))
  ·
   refine cSkip ?_
   exact QJoin.normal (by simp only [q11] <;> rfl) wkJ
 replace h := h q2
 refine cSeq ?_
 refine cSeqM [(43, al eInt a0.switches), (44, ai (a0.switches.length : Int)), (45, ai 0)] [2] (a0.switches.length ≤ 4611686018427387904) ?_ (fun q13 => ?_)
 ·
  refine rgS [] 3 ?_
  refine sLen 3 (some 44) [(43, al eInt a0.switches), (42, ap 1 1)] eInt a0.switches (fun q14 => ?_)
  exact sEJ [(45, ai 0)] q14
 replace h := h q13
 refine cBlock 0 ?_
 obtain ⟨q101, h⟩ := h
 refine cLoop (fun (v : Int) => (⟨(mkS 166 [(1, ap 1 0), (2, ap 2 0), (43, al eInt a0.switches), (44, ai (a0.switches.length : Int)), (45, ai v)]), [(2, [ai 0, ai 0]), (1, (ePlan false a0))], []⟩ : St)) (fun (v : Int) => I0 v) (fun (v : Int) => m0 v) 0 (wkL []) q101 (fun v45 hI => ?_)
 replace h := h v45 hI
 refine cRM [] 4 [(46, ab (decide (v45 < (a0.switches.length : Int))))] [1] [5] ?_
 unfold impl_PlanOk_C6 at h
 obtain ⟨q100, h⟩ := h
 refine cSeqM [] [0, 1, 5] ((decide (v45 < (a0.switches.length : Int))) = true) ?_ (fun q16 => ?_)
 ·
  replace h := q100
  refine cCond1 (fun q17 => ?_) (fun q17 => ?_)
  ·
   refine cSkip ?_
   exact QJoin.normal (by simp only [q2, q17] <;> rfl) wkJ
  ·
   replace h := h q17
   refine cExit 0 ?_
   refine QJoin.exit ?_
   refine QRound.exit ?_
   refine QBlock.here ?_
   refine QSeq.normal ?_
   refine cSeq ?_
   refine cSeqG ⟨(mkS 166 [(1, ap 1 0), (2, ap 2 0), (62, al (eWay false) a0.ways), (63, ai (a0.ways.length : Int)), (64, ai 0)]), [(2, [ai 0, ai 0]), (1, (ePlan false a0))], []⟩ (a0.ways.length ≤ 4611686018427387904) ?_ (fun q18 => ?_)
   ·
    refine rgS [] 9 ?_
    refine sLen 3 (some 63) [(62, al (eWay false) a0.ways), (61, ap 1 2)] (eWay false) a0.ways (fun q19 => ?_)
    exact sEJ [(64, ai 0)] q19
   replace h := h q18
   refine cBlock 2 ?_
   obtain ⟨q90, h⟩ := h
   refine cLoop (fun (v : Int) => (⟨(mkS 166 [(1, ap 1 0), (2, ap 2 0), (62, al (eWay false) a0.ways), (63, ai (a0.ways.length : Int)), (64, ai v)]), [(2, [ai 0, ai 0]), (1, (ePlan false a0))], []⟩ : St)) (fun (v : Int) => I1 v45 v) (fun (v : Int) => m1 v45 v) 0 (wkL []) q90 (fun v64 hI => ?_)
   replace h := h v64 hI
   refine cRM [] 10 [(65, ab (decide (v64 < (a0.ways.length : Int))))] [1] [5] ?_
   unfold impl_PlanOk_C5 at h
   obtain ⟨q89, h⟩ := h
   refine cSeqM [] [0, 1, 5] ((decide (v64 < (a0.ways.length : Int))) = true) ?_ (fun q21 => ?_)
   ·
    replace h := q89
    refine cCond1 (fun q22 => ?_) (fun q22 => ?_)
    ·
     refine cSkip ?_
     exact QJoin.normal (by simp only [q2, q17, q22] <;> rfl) wkJ
    ·
     replace h := h q22
     refine cExit 2 ?_
     refine QJoin.exit ?_
     refine QRound.exit ?_
     refine QBlock.here ?_
     refine QSeq.normal ?_
     obtain ⟨q80, h⟩ := h
     refine cSeqG ⟨(mkS 166 [(1, ap 1 0), (2, ap 2 0)]), [(2, [ai 0, ai 0]), (1, (ePlan false a0))], []⟩ ((a0.bars.length ≤ 4611686018427387904) ∧ ((!((a0.bars.length : Int) != (a0.ways.length : Int))) = true)) ?_ (fun q23 => ?_)
     ·
      replace h := q80
      refine cSeqG ⟨(mkS 166 [(1, ap 1 0), (2, ap 2 0), (82, ab ((a0.bars.length : Int) != (a0.ways.length : Int)))]), [(2, [ai 0, ai 0]), (1, (ePlan false a0))], []⟩ (a0.bars.length ≤ 4611686018427387904) ?_ (fun q24 => ?_)
      ·
       refine rgS [] 15 ?_
       refine sLen 3 (some 78) [(77, al (eL eBool false) a0.bars), (76, ap 1 3)] (eL eBool false) a0.bars (fun q25 => ?_)
       refine sLen 3 (some 81) [(80, al (eWay false) a0.ways), (79, ap 1 2)] (eWay false) a0.ways (fun q26 => ?_)
       exact sEJ [(82, ab ((a0.bars.length : Int) != (a0.ways.length : Int)))] q25
      replace h := h q24
      refine cCond (.tmp 82) ((a0.bars.length : Int) != (a0.ways.length : Int)) (fun q27 => ?_) (fun q27 => ?_)
      ·
       replace h := h q27
       refine cRE [] 16 [(83, .agg [ai 4, ai 0])] [] [0, 1, 1] (fun L => ed 0 0 (ai 4) L) id ?_
       exact cRet (QJoin.ret (rt1 (.agg [ai 4, ai 0]) (SnapR3.agg (PW.cons (sr_int h.1) (PW.cons (sr_int h.2) PW.nil)))))
      ·
       refine cSkip ?_
       exact QJoin.normal ⟨q24, (by simp only [q2, q17, q22, q27] <;> rfl)⟩ wkJ
     replace h := h q23
     refine cSeq ?_
     refine cSeqM [(85, al (eL eBool false) a0.bars), (86, ai (a0.bars.length : Int)), (87, ai 0)] [2] (True) ?_ (fun q29 => ?_)
     ·
      refine rgS [] 17 ?_
      refine sLen 3 (some 86) [(85, al (eL eBool false) a0.bars), (84, ap 1 3)] (eL eBool false) a0.bars (fun q30 => ?_)
      exact sEJ [(87, ai 0)] trivial
     refine cBlock 4 ?_
     obtain ⟨q79, h⟩ := h
     refine cLoop (fun (v : Int) => (⟨(mkS 166 [(1, ap 1 0), (2, ap 2 0), (85, al (eL eBool false) a0.bars), (86, ai (a0.bars.length : Int)), (87, ai v)]), [(2, [ai 0, ai 0]), (1, (ePlan false a0))], []⟩ : St)) (fun (v : Int) => I2 v45 v64 v) (fun (v : Int) => m2 v45 v64 v) 0 (wkL []) q79 (fun v87 hI => ?_)
     replace h := h v87 hI
     refine cRM [] 18 [(88, ab (decide (v87 < (a0.bars.length : Int))))] [1] [5] ?_
     unfold impl_PlanOk_C4 at h
     obtain ⟨q78, h⟩ := h
     refine cSeqM [] [0, 1, 5] ((decide (v87 < (a0.bars.length : Int))) = true) ?_ (fun q32 => ?_)
     ·
      replace h := q78
      refine cCond1 (fun q33 => ?_) (fun q33 => ?_)
      ·
       refine cSkip ?_
       exact QJoin.normal (by simp only [q2, q17, q22, q23.2, q33] <;> rfl) wkJ
      ·
       replace h := h q33
       refine cExit 4 ?_
       refine QJoin.exit ?_
       refine QRound.exit ?_
       refine QBlock.here ?_
       refine QSeq.normal ?_
       refine cSeq ?_
       refine cSeqG ⟨(mkS 166 [(1, ap 1 0), (2, ap 2 0), (103, ai (a0.ways.length : Int)), (104, ai 0)]), [(2, [ai 0, ai 0]), (1, (ePlan false a0))], []⟩ (True) ?_ (fun q34 => ?_)
       ·
        refine rgS [] 23 ?_
        refine sLen 3 (some 103) [(102, al (eWay false) a0.ways), (101, ap 1 2)] (eWay false) a0.ways (fun q35 => ?_)
        exact sEJ [(104, ai 0)] trivial
       refine cBlock 6 ?_
       obtain ⟨q67, h⟩ := h
       refine cLoop (fun (v : Int) => (⟨(mkS 166 [(1, ap 1 0), (2, ap 2 0), (103, ai (a0.ways.length : Int)), (104, ai v)]), [(2, [ai 0, ai 0]), (1, (ePlan false a0))], []⟩ : St)) (fun (v : Int) => I3 v45 v64 v87 v) (fun (v : Int) => m3 v45 v64 v87 v) 0 (wkL []) q67 (fun v104 hI => ?_)
       replace h := h v104 hI
       refine cRM [] 24 [(105, ab (decide (v104 < (a0.ways.length : Int))))] [1] [4] ?_
       obtain ⟨q66, h⟩ := h
       refine cSeqM [] [0, 1, 4] ((decide (v104 < (a0.ways.length : Int))) = true) ?_ (fun q37 => ?_)
       ·
        replace h := q66
        refine cCond1 (fun q38 => ?_) (fun q38 => ?_)
        ·
         refine cSkip ?_
         exact QJoin.normal (by simp only [q2, q17, q22, q23.2, q33, q38] <;> rfl) wkJ
        ·
         replace h := h q38
         refine cExit 6 ?_
         refine QJoin.exit ?_
         refine QRound.exit ?_
         refine QBlock.here ?_
         refine QSeq.normal ?_
         refine cSeqG ⟨(mkS 166 [(2, ap 2 0)]), [(2, [ai 0, ai 0]), (1, (ePlan false a0))], []⟩ (True) ?_ (fun q39 => ?_)
         ·
          refine rgS [] 33 ?_
          exact sEJ [(165, .agg [ai 0, ai 0])] trivial
         exact cRet (rt1 (.agg [ai 0, ai 0]) (SnapR3.agg (PW.cons (sr_int h.1) (PW.cons (sr_int h.2) PW.nil))))
       replace h := h q37
       refine cSeq ?_
       refine cBlock 7 ?_
       refine cRM [] 25 [(9, ai v104), (106, ai v104)] [1] [4] ?_
       refine cSeqM [(109, ai (a0.ways.length : Int)), (110, ai 0)] [5] (True) ?_ (fun q41 => ?_)
       ·
        refine rgS [] 26 ?_
        refine sLen 3 (some 109) [(108, al (eWay false) a0.ways), (107, ap 1 2)] (eWay false) a0.ways (fun q42 => ?_)
        exact sEJ [(110, ai 0)] trivial
       refine cBlock 8 ?_
       obtain ⟨q65, h⟩ := h
       refine cLoop (fun (v : Int) => (⟨(mkS 166 [(1, ap 1 0), (2, ap 2 0), (9, ai v104), (103, ai (a0.ways.length : Int)), (104, ai v104), (109, ai (a0.ways.length : Int)), (110, ai v)]), [(2, [ai 0, ai 0]), (1, (ePlan false a0))], []⟩ : St)) (fun (v : Int) => I4 v45 v64 v87 v104 v) (fun (v : Int) => m4 v45 v64 v87 v104 v) 0 (wkL []) q65 (fun v110 hI => ?_)
       replace h := h v110 hI
       refine cRM [] 27 [(111, ab (decide (v110 < (a0.ways.length : Int))))] [1] [7] ?_
       unfold impl_PlanOk_C2 at h
       obtain ⟨q64, h⟩ := h
       refine cSeqM [] [0, 1, 7] ((decide (v110 < (a0.ways.length : Int))) = true) ?_ (fun q44 => ?_)
       ·
        replace h := q64
        refine cCond1 (fun q45 => ?_) (fun q45 => ?_)
        ·
         refine cSkip ?_
         exact QJoin.normal (by simp only [q2, q17, q22, q23.2, q33, q37, q45] <;> rfl) wkJ
        ·
         replace h := h q45
         refine cExit 8 ?_
         refine QJoin.exit ?_
         refine QRound.exit ?_
         refine QBlock.here ?_
         refine QBlock.normal ?_
         refine QSeq.normal ?_
         refine rgS [] 32 ?_
         refine sEnd [(104, ai (IntKind.i64.wrap (v104 + 1))), (164, ai (IntKind.i64.wrap (v104 + 1)))] ?_
         exact QRound.again (IntKind.i64.wrap (v104 + 1)) h (wkL [])
       replace h := h q44
       obtain ⟨q63, h⟩ := h
       refine cSeqM [] [7] ((!(((nth (nth a0.bars v104) v110) != (nth (nth a0.bars v110) v104)) || ((v104 != v110) && ((!(nth (nth a0.bars v104) v110)) && (meets ((nth a0.ways v104).sections) ((nth a0.ways v110).sections)))))) = true) ?_ (fun q46 => ?_)
       ·
        replace h := q63
        refine cBlock 9 ?_
        refine cRM [] 28 [(10, ai v110), (112, ai v110)] [1] [7] ?_
        unfold impl_PlanOk_C1 at h
        obtain ⟨q62, h⟩ := h
        refine cSeqM [(160, ab (((nth (nth a0.bars v104) v110) != (nth (nth a0.bars v110) v104)) || ((v104 != v110) && ((!(nth (nth a0.bars v104) v110)) && (meets ((nth a0.ways v104).sections) ((nth a0.ways v110).sections))))))] [0, 1, 7] (True) ?_ (fun q48 => ?_)
        ·
         replace h := q62
         refine rgD [] 29 impl_PlanOk_o29 impl_PlanOk_o29a [] ?_
         obtain ⟨q59, h⟩ := h
         refine tIdx 4 (some 116) [(115, ai v104), (114, al (eL eBool false) a0.bars), (113, ap 1 3)] (eL eBool false) a0.bars 1 q59 ?_
         obtain ⟨q58, h⟩ := h
         refine tIdx 3 (some 119) [(118, ai v110), (117, al eBool (nth a0.bars v104))] eBool (nth a0.bars v104) 1 q58 ?_
         obtain ⟨q57, h⟩ := h
         refine tIdx 5 (some 124) [(123, ai v110), (122, al (eL eBool false) a0.bars), (121, ap 1 3), (120, ab (nth (nth a0.bars v104) v110))] (eL eBool false) a0.bars 1 q57 ?_
         obtain ⟨q56, h⟩ := h
         refine tIdx 3 (some 127) [(126, ai v104), (125, al eBool (nth a0.bars v110))] eBool (nth a0.bars v110) 1 q56 ?_
         refine tCase1 3 130 ((nth (nth a0.bars v104) v110) != (nth (nth a0.bars v110) v104)) [(129, ab ((nth (nth a0.bars v104) v110) != (nth (nth a0.bars v110) v104))), (128, ab (nth (nth a0.bars v110) v104))] (fun q49 => ?_) (fun q49 => ?_)
         ·
          exact tEJ ([(160, ab true)] ++ tz [159, 158, 157, 156, 155, 154, 153, 152, 151, 150, 149, 148, 147, 146, 145, 144, 143, 142, 141, 140, 139, 138, 137, 136, 135, 134, 133, 132, 131]) trivial (by simp only [q2, q17, q22, q23.2, q33, q37, q44, q49] <;> kernel_rfl)
         ·
          replace h := h q49
          refine tCase1 4 134 (v104 != v110) [(133, ab (v104 != v110)), (132, ai v110), (131, ai v104)] (fun q50 => ?_) (fun q50 => ?_)
          ·
           replace h := h q50
           obtain ⟨q55, h⟩ := h
           refine tIdx 4 (some 138) [(137, ai v104), (136, al (eL eBool false) a0.bars), (135, ap 1 3)] (eL eBool false) a0.bars 1 q55 ?_
           obtain ⟨q54, h⟩ := h
           refine tIdx 3 (some 141) [(140, ai v110), (139, al eBool (nth a0.bars v104))] eBool (nth a0.bars v104) 1 q54 ?_
           refine tCase1 4 145 (!(nth (nth a0.bars v104) v110)) [(144, ab (!(nth (nth a0.bars v104) v110))), (143, ab (!(nth (nth a0.bars v104) v110))), (142, ab (nth (nth a0.bars v104) v110))] (fun q51 => ?_) (fun q51 => ?_)
           ·
            replace h := h q51
            obtain ⟨q53, h⟩ := h
            refine tIdx 4 (some 149) [(148, ai v104), (147, al (eWay false) a0.ways), (146, ap 1 2)] (eWay false) a0.ways 5 q53 ?_
            have q52 := h
            refine tIdx 6 (some 155) [(154, ai v110), (153, al (eWay false) a0.ways), (152, ap 1 2), (151, al eInt ((nth a0.ways v104).sections)), (150, .rp (eWay false (nth a0.ways v104)) 0)] (eWay false) a0.ways 5 q52 ?_
            refine tCallV 3 (some 158) [(157, al eInt ((nth a0.ways v110).sections)), (156, .rp (eWay false (nth a0.ways v110)) 0)] [al eInt ((nth a0.ways v104).sections), al eInt ((nth a0.ways v110).sections)] (impl_meet_V ((nth a0.ways v104).sections) ((nth a0.ways v110).sections)) (PW.cons (Snap2.of1 sa_lst) (PW.cons (Snap2.of1 sa_lst) PW.nil)) ?_
            exact tEJ [(160, ab (meets ((nth a0.ways v104).sections) ((nth a0.ways v110).sections))), (159, ab (meets ((nth a0.ways v104).sections) ((nth a0.ways v110).sections)))] trivial (by simp only [q2, q17, q22, q23.2, q33, q37, q44, q49, q50, q51] <;> kernel_rfl)
           ·
            exact tEJ ([(160, ab false), (159, ab false)] ++ tz [158, 157, 156, 155, 154, 153, 152, 151, 150, 149, 148, 147, 146]) trivial (by simp only [q2, q17, q22, q23.2, q33, q37, q44, q49, q50, q51] <;> kernel_rfl)
          ·
           exact tEJ ([(160, ab false), (159, ab false)] ++ tz [158, 157, 156, 155, 154, 153, 152, 151, 150, 149, 148, 147, 146] ++ [(145, ab false), (144, ab false)] ++ tz [143, 142, 141, 140, 139, 138, 137, 136, 135]) trivial (by simp only [q2, q17, q22, q23.2, q33, q37, q44, q49, q50] <;> kernel_rfl)
        refine cCond1 (fun q60 => ?_) (fun q60 => ?_)
        ·
         replace h := h q60
         refine cRN [] 30 [(162, .agg [ai 5, ai v104]), (161, ai v104)] [] [0, 2, 1] [(2, [ai 5, ai v104]), (1, (ePlan false a0))] [] ?_
         exact cRet (QBlock.ret (QJoin.ret (QRound.ret (QBlock.ret (QBlock.ret (QSeq.ret (QRound.ret (QBlock.ret (QSeq.ret (rt1 (.agg [ai 5, ai v104]) (SnapR3.agg (PW.cons (sr_int h.1) (PW.cons (sr_int h.2) PW.nil)))))))))))))
        ·
         refine cSkip ?_
         refine QBlock.normal ?_
         exact QJoin.normal (by simp only [q2, q17, q22, q23.2, q33, q37, q44, q60] <;> rfl) wkJ
       replace h := h q46
       refine rgS [] 31 ?_
       refine sEnd [(110, ai (IntKind.i64.wrap (v110 + 1))), (163, ai (IntKind.i64.wrap (v110 + 1)))] ?_
       exact QRound.again (IntKind.i64.wrap (v110 + 1)) h (wkL [])
     replace h := h q32
     unfold impl_PlanOk_C3 at h
     obtain ⟨q77, h⟩ := h
     refine cSeqM [] [5] (((nth a0.bars v87).length ≤ 4611686018427387904) ∧ ((!(((nth a0.bars v87).length : Int) != (a0.ways.length : Int))) = true)) ?_ (fun q68 => ?_)
     ·
      replace h := q77
      refine cBlock 5 ?_
      obtain ⟨q76, h⟩ := h
      refine cSeqM [(7, ai v87), (8, al eBool (nth a0.bars v87))] [5] (True) ?_ (fun q69 => ?_)
      ·
       replace h := q76
       refine rgS [] 19 ?_
       have q70 := h
       refine sIdx 2 (some 90) [(89, ai v87)] (eL eBool false) a0.bars 1 q70 ?_
       exact sEJ [(8, al eBool (nth a0.bars v87)), (7, ai v87), (91, al eBool (nth a0.bars v87))] trivial
      refine cSeqM [(97, ab (((nth a0.bars v87).length : Int) != (a0.ways.length : Int)))] [1, 1, 5] ((nth a0.bars v87).length ≤ 4611686018427387904) ?_ (fun q71 => ?_)
      ·
       refine rgS [] 20 ?_
       refine sLen 2 (some 93) [(92, al eBool (nth a0.bars v87))] eBool (nth a0.bars v87) (fun q72 => ?_)
       refine sLen 3 (some 96) [(95, al (eWay false) a0.ways), (94, ap 1 2)] (eWay false) a0.ways (fun q73 => ?_)
       exact sEJ [(97, ab (((nth a0.bars v87).length : Int) != (a0.ways.length : Int)))] q72
      replace h := h q71
      refine cCond1 (fun q74 => ?_) (fun q74 => ?_)
      ·
       replace h := h q74
       refine cRN [] 21 [(99, .agg [ai 4, ai v87]), (98, ai v87)] [] [0, 3, 1] [(2, [ai 4, ai v87]), (1, (ePlan false a0))] [] ?_
       exact cRet (QBlock.ret (QJoin.ret (QRound.ret (QBlock.ret (QSeq.ret (rt1 (.agg [ai 4, ai v87]) (SnapR3.agg (PW.cons (sr_int h.1) (PW.cons (sr_int h.2) PW.nil)))))))))
      ·
       refine cSkip ?_
       refine QBlock.normal ?_
       exact QJoin.normal ⟨q71, (by simp only [q2, q17, q22, q23.2, q32, q74] <;> rfl)⟩ wkJ
     replace h := h q68
     refine rgS [] 22 ?_
     refine sEnd [(87, ai (IntKind.i64.wrap (v87 + 1))), (100, ai (IntKind.i64.wrap (v87 + 1)))] ?_
     exact QRound.again (IntKind.i64.wrap (v87 + 1)) h (wkL [])
   replace h := h q21
   obtain ⟨q88, h⟩ := h
   refine cSeqE [] [5] (fun L => (6, (eWay false (nth a0.ways v64))) :: L) id ((!(!(wayGood a0 (nth a0.ways v64)))) = true) ?_ (fun q81 => ?_)
   ·
    replace h := q88
    refine cBlock 3 ?_
    obtain ⟨q87, h⟩ := h
    refine cSeqE [(5, ai v64), (6, ap 6 0)] [5] (fun L => (6, (eWay false (nth a0.ways v64))) :: L) id (True) ?_ (fun q82 => ?_)
    ·
     replace h := q87
     refine rgS [] 11 ?_
     have q83 := h
     refine sIdx 2 (some 67) [(66, ai v64)] (eWay false) a0.ways 5 q83 ?_
     exact sEJ [(5, ai v64), (6, ap 6 0), (68, .agg (eWay false (nth a0.ways v64)))] trivial
    refine cSeqM [(72, ab (!(wayGood a0 (nth a0.ways v64))))] [1, 1, 5] (True) ?_ (fun q84 => ?_)
    ·
     refine rgS [] 12 ?_
     refine sCallV 3 (some 71) [(70, .agg (eWay false (nth a0.ways v64))), (69, .agg (ePlan false a0))] [.agg (ePlan false a0), .agg (eWay false (nth a0.ways v64))] (impl_wayOk_V a0 (nth a0.ways v64)) (PW.cons (Snap2.agg (PW.cons (.int _ _) (PW.cons sa_lst (PW.cons sa_lst (PW.cons sa_lst (PW.cons (.int _ _) PW.nil)))))) (PW.cons (Snap2.agg (PW.cons sa_lst (PW.cons sa_lst (PW.cons sa_lst (PW.cons sa_lst (PW.cons sa_lst PW.nil)))))) PW.nil)) ?_
     exact sEJ [(72, ab (!(wayGood a0 (nth a0.ways v64))))] trivial
    refine cCond1 (fun q85 => ?_) (fun q85 => ?_)
    ·
     replace h := h q85
     refine cRE [] 13 [(74, .agg [ai 3, ai v64]), (73, ai v64)] [] [0, 3, 1] (fun L => ed 1 1 (ai v64) (ed 1 0 (ai 3) L)) id ?_
     exact cRet (QBlock.ret (QJoin.ret (QRound.ret (QBlock.ret (QSeq.ret (rt1 (.agg [ai 3, ai v64]) (SnapR3.agg (PW.cons (sr_int h.1) (PW.cons (sr_int h.2) PW.nil)))))))))
    ·
     refine cSkip ?_
     refine QBlock.normal ?_
     exact QJoin.normal (by simp only [q2, q17, q21, q85] <;> rfl) wkJ
   replace h := h q81
   refine rgS [] 14 ?_
   refine sEnd [(64, ai (IntKind.i64.wrap (v64 + 1))), (75, ai (IntKind.i64.wrap (v64 + 1)))] ?_
   exact QRound.again (IntKind.i64.wrap (v64 + 1)) h (wkL [6])
 replace h := h q16
 obtain ⟨q99, h⟩ := h
 refine cSeqM [] [5] ((!((decide ((nth a0.switches v45) < 0)) || (decide ((nth a0.switches v45) ≥ a0.sections)))) = true) ?_ (fun q91 => ?_)
 ·
  replace h := q99
  refine cBlock 1 ?_
  obtain ⟨q98, h⟩ := h
  refine cSeqM [(3, ai v45), (4, ai (nth a0.switches v45))] [5] (True) ?_ (fun q92 => ?_)
  ·
   replace h := q98
   refine rgS [] 5 ?_
   have q93 := h
   refine sIdx 2 (some 48) [(47, ai v45)] eInt a0.switches 1 q93 ?_
   exact sEJ [(4, ai (nth a0.switches v45)), (3, ai v45), (49, ai (nth a0.switches v45))] trivial
  refine cSeqM [(57, ab ((decide ((nth a0.switches v45) < 0)) || (decide ((nth a0.switches v45) ≥ a0.sections))))] [1, 1, 5] (True) ?_ (fun q94 => ?_)
  ·
   refine rgS [] 6 ?_
   refine sCase1 3 52 (decide ((nth a0.switches v45) < 0)) [(51, ab (decide ((nth a0.switches v45) < 0))), (50, ai (nth a0.switches v45))] (fun q95 => ?_) (fun q95 => ?_)
   ·
    exact sEJ ([(57, ab true)] ++ tz [56, 55, 54, 53]) trivial (by simp only [q2, q16, q95] <;> kernel_rfl)
   ·
    exact sEJ [(57, ab (decide ((nth a0.switches v45) ≥ a0.sections))), (56, ab (decide ((nth a0.switches v45) ≥ a0.sections))), (55, ai a0.sections), (54, ap 1 0), (53, ai (nth a0.switches v45))] trivial (by simp only [q2, q16, q95] <;> kernel_rfl)
  refine cCond1 (fun q96 => ?_) (fun q96 => ?_)
  ·
   replace h := h q96
   refine cRN [] 7 [(59, .agg [ai 2, ai v45]), (58, ai v45)] [] [0, 3, 1] [(2, [ai 2, ai v45]), (1, (ePlan false a0))] [] ?_
   exact cRet (QBlock.ret (QJoin.ret (QRound.ret (QBlock.ret (QSeq.ret (rt1 (.agg [ai 2, ai v45]) (SnapR3.agg (PW.cons (sr_int h.1) (PW.cons (sr_int h.2) PW.nil)))))))))
  ·
   refine cSkip ?_
   refine QBlock.normal ?_
   exact QJoin.normal (by simp only [q2, q16, q96] <;> rfl) wkJ
 replace h := h q91
 refine rgS [] 8 ?_
 refine sEnd [(45, ai (IntKind.i64.wrap (v45 + 1))), (60, ai (IntKind.i64.wrap (v45 + 1)))] ?_
 exact QRound.again (IntKind.i64.wrap (v45 + 1)) h (wkL [])
theorem impl_PlanOk_V (a0 : Plan) : FnV Try.prog 26 [.agg (ePlan false a0)] (.agg (eFault (planOk a0))) := impl_PlanOk_walk a0 (planOk a0) (upI a0.switches.length (fun j => !inR (nth a0.switches j) 0 (a0.sections - 1))) (upM a0.switches.length) (fun _ => upI a0.ways.length (fun j => !wayGood a0 (nth a0.ways j))) (fun _ => upM a0.ways.length) (fun _ _ => upI a0.bars.length (fun j => decide ((nth a0.bars j).length ≠ a0.ways.length))) (fun _ _ => upM a0.bars.length) (fun _ _ _ => upI a0.ways.length (fun i => (List.range a0.ways.length).any fun k => barBad a0 i.toNat k)) (fun _ _ _ => upM a0.ways.length) (fun _ _ _ i => upI a0.ways.length (fun k => barBad a0 i.toNat k.toNat)) (fun _ _ _ _ => upM a0.ways.length) (by
 unfold impl_PlanOk_C impl_PlanOk_C7
 refine ⟨fun h => ?_, fun h hn0 => ?_⟩
 ·have hb : planBase a0 = false := by
   rw [← Bool.not_eq_true, planBase_iff]
   intro hb
   simp [planBase] at h
   omega
  rw [planOk_1 hb]; exact ⟨rfl, rfl⟩
 ·have hb : planBase a0 = true := by
   rw [planBase_iff]
   simp [planBase] at h
   omega
  have hB := planBase_iff.1 hb
  refine ⟨up_start (len0 _), fun v0 hI0 => ?_⟩
  unfold impl_PlanOk_C6
  refine ⟨fun e0 hn1 => ?_, fun hv0 => ?_⟩
  case refine_2 =>
   rw [rng_eq]
   refine ⟨⟨up_in hI0 hv0, fun hbad => ?_⟩, fun hok => up_step (lenI hn0) hI0 hv0 (not_eq hok)⟩
   rw [planOk_2 hb (up_first (q := fun s => !inR s 0 (a0.sections - 1)) hI0 hv0 hbad)]
   have := hI0.1
   exact ⟨rfl, by show v0 = (v0.toNat : Int); omega⟩
  have f0 := up_none (q := fun s => !inR s 0 (a0.sections - 1)) hI0 e0
  refine ⟨up_start (len0 _), fun v1 hI1 => ?_⟩
  unfold impl_PlanOk_C5
  refine ⟨fun e1 => ?_, fun hv1 => ?_⟩
  case refine_2 =>
   refine ⟨⟨up_in hI1 hv1,  fun hbad => ?_⟩, fun hok => up_step (lenI hn1) hI1 hv1 (not_eq hok)⟩
   rw [planOk_3 hb f0 (up_first (q := fun w => !wayGood a0 w) hI1 hv1 hbad)]
   have := hI1.1
   exact ⟨rfl, by show v1 = (v1.toNat : Int); omega⟩
  have f1 := up_none (q := fun w => !wayGood a0 w) hI1 e1
  rw [planOk_b hb f0 f1]
  refine ⟨fun hm hne => ?_, fun ⟨hm, hne⟩ => ?_⟩
  ·have hne : a0.bars.length ≠ a0.ways.length := by
    intro e; rw [e] at hne; simp at hne
   rw [planBars_l hne]; exact ⟨rfl, rfl⟩
  have hl : a0.bars.length = a0.ways.length := by
   have : (a0.bars.length : Int) = a0.ways.length := by simpa using hne
   omega
  refine ⟨up_start (len0 _), fun v2 hI2 => ?_⟩
  unfold impl_PlanOk_C4
  refine ⟨fun e2 => ?_, fun hv2 => ?_⟩
  case refine_2 =>
   have hcond : (((nth a0.bars v2).length : Int) != (a0.ways.length : Int)) = decide ((nth a0.bars v2).length ≠ a0.ways.length) := by
    rw [Bool.eq_iff_iff]; simp; omega
   unfold impl_PlanOk_C3
   rw [hcond]
   refine ⟨⟨up_in hI2 hv2, fun hr hbad => ?_⟩, fun ⟨hr, hok⟩ => up_step (lenI hm) hI2 hv2 (not_eq hok)⟩
   rw [planBars_4 hl (up_first (q := fun b => decide (b.length ≠ a0.ways.length)) hI2 hv2 hbad)]
   have := hI2.1
   exact ⟨rfl, by show v2 = (v2.toNat : Int); omega⟩
  have f2 := up_none (q := fun b : List Bool => decide (b.length ≠ a0.ways.length)) hI2 e2
  have rl : ∀ i : Int, 0 ≤ i → i < a0.ways.length → (nth a0.bars i).length = a0.ways.length := fun i i0 i1 => by
   have := up_end hI2 e2 i i0 (by omega)
   simpa using this
  refine ⟨up_start (len0 _), fun v3 hI3 => ⟨fun e3 => ?_, fun hv3 => ?_⟩⟩
  ·skip
   rw [planBars_0 hl f2 (first_range_none fun j j0 j1 => up_end hI3 e3 j j0 j1)]
   exact ⟨rfl, rfl⟩
  ·have hv3' : v3 < (a0.ways.length : Int) := by simpa using hv3
   have h30 := hI3.1
   refine ⟨up_start (len0 _), fun v4 hI4 => ?_⟩
   unfold impl_PlanOk_C2 impl_PlanOk_C1
   rw [bars_bad hI3.1 hI4.1]
   have h40 := hI4.1
   refine ⟨fun e4 => up_step (by omega) hI3 hv3 (nany_range fun j j0 j1 => up_end hI4 e4 j j0 j1), fun hv4 => ?_⟩
   have hv4' : v4 < (a0.ways.length : Int) := by simpa using hv4
   have r3 := rl v3 hI3.1 hv3'
   have r4 := rl v4 hI4.1 hv4'
   refine ⟨⟨⟨⟨h30, by omega⟩, ⟨h40, by omega⟩, ⟨h40, by omega⟩, ⟨h30, by omega⟩, fun _ _ => ⟨⟨h30, by omega⟩, ⟨h40, by omega⟩, fun _ => ⟨⟨h30, by omega⟩, ⟨h40, by omega⟩⟩⟩⟩, fun hbad => ?_⟩, fun hok => up_step (by omega) hI4 hv4 (not_eq hok)⟩
   rw [planBars_5 hl f2 (first_range_some h30 hv3' (fun j j0 j1 => hI3.2.2 j j0 j1) (any_range h40 hv4' hbad))]
   exact ⟨rfl, by show v3 = (v3.toNat : Int); omega⟩)
end Go.Proofs.Ytglpfccgmfhkdaa.Fw
