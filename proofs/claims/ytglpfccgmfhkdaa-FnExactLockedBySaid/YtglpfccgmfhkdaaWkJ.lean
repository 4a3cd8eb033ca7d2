/- Walks and summaries of functions, printed by a program of mine (tools/mk.py), with the proofs of what they owe. -/
import Derived.Test.YtglpfccgmfhkdaaProg
import Derived.Test.YtglpfccgmfhkdaaSpH
import Derived.Test.YtglpfccgmfhkdaaWkA
set_option linter.unusedVariables false
set_option maxRecDepth 100000
set_option maxHeartbeats 4000000
set_option linter.unusedSimpArgs false
namespace Go.Proofs.Ytglpfccgmfhkdaa.Fw
open Go
attribute [local irreducible] evS evSD WpS Weak Oper.looksAt
noncomputable def laws_eqPoint_b : Code := bodyC Try.f132
def laws_eqPoint_C (a0 : Point) (a1 : Point) (res : Bool) : Prop :=
 ((a0.want != a1.want) = true → false = res) ∧ ((!(a0.want != a1.want)) = true → ((a0.lies != a1.lies) = true → false = res) ∧ ((!(a0.lies != a1.lies)) = true → true = res))
theorem laws_eqPoint_walk (a0 : Point) (a1 : Point) (res : Bool) (h : laws_eqPoint_C a0 a1 res) : FnV Try.prog 132 [.agg (ePoint a0), .agg (ePoint a1)] (ab res) := by
 unfold laws_eqPoint_C at h
 refine FnS.go (fn := Try.f132) [(0, .agg (ePoint a0)), (1, .agg (ePoint a1))] Try.func132 ?_
 show WpS _ (nv laws_eqPoint_b 1) _ ⟨mkS 15 [(0, .agg (ePoint a0)), (1, .agg (ePoint a1))], [], []⟩
 refine cRN [] 0 [(4, ab false), (3, ap 3 0), (2, ap 2 0)] [0, 1, 2] [] [(3, (ePoint a1)), (2, (ePoint a0))] [] ?_
 obtain ⟨q12, h⟩ := h
 refine cSeqM [] [2] ((!(a0.want != a1.want)) = true) ?_ (fun q2 => ?_)
 ·
  replace h := q12
  refine cRM [] 1 [(9, ab (a0.want != a1.want)), (8, ai a1.want), (7, ap 3 0), (6, ai a0.want), (5, ap 2 0)] [1] [2] ?_
  refine cCond1 (fun q4 => ?_) (fun q4 => ?_)
  ·
   replace h := h q4
   refine cRM [] 2 [(4, ab false)] [1] [] ?_
   exact cRet (QJoin.ret (rt1 (ab false) (SnapR3.of1 (sr_bool h))))
  ·
   refine cSkip ?_
   exact QJoin.normal (by simp only [q4] <;> rfl) wkJ
 replace h := h q2
 obtain ⟨q11, h⟩ := h
 refine cSeqM [] [] ((!(a0.lies != a1.lies)) = true) ?_ (fun q6 => ?_)
 ·
  replace h := q11
  refine cRM [] 3 [(14, ab (a0.lies != a1.lies)), (13, ai a1.lies), (12, ap 3 1), (11, ai a0.lies), (10, ap 2 1)] [1] [] ?_
  refine cCond1 (fun q8 => ?_) (fun q8 => ?_)
  ·
   replace h := h q8
   refine cRM [] 4 [(4, ab false)] [1] [] ?_
   exact cRet (QJoin.ret (rt1 (ab false) (SnapR3.of1 (sr_bool h))))
  ·
   refine cSkip ?_
   exact QJoin.normal (by simp only [q2, q8] <;> rfl) wkJ
 replace h := h q6
 refine cRM [] 5 [(4, ab true)] [1] [] ?_
 exact cRet (rt1 (ab true) (SnapR3.of1 (sr_bool h)))

theorem laws_eqPoint_V (a0 : Point) (a1 : Point) : FnV Try.prog 132 [.agg (ePoint a0), .agg (ePoint a1)] (ab (eqv a0 a1)) := laws_eqPoint_walk a0 a1 (eqv a0 a1) (by
 unfold laws_eqPoint_C
 obtain ⟨c, p⟩ := a0
 obtain ⟨c', p'⟩ := a1
 simp [eqv]
 intros
 simp_all)

noncomputable def laws_eqPointS_b : Code := bodyC Try.f81
def laws_eqPointS_o6 : List Item := [iq 0, iq 1, iq 2, iq 3, iq 4, iq 5, iq 6, iq 7, iq 8, iq 9]
def laws_eqPointS_o6a : List (List Nat) := [[], [], [0, 1], [0, 1, 2], [], [], [4, 5], [4, 5, 6], rg 0 8, rg 0 9]
def laws_eqPointS_C1 (I0 : Int → Prop) (m0 : Int → Nat) (a0 a1 : (List Point)) (res : Bool) : Prop :=
  ((a0.length ≤ 4611686018427387904) ∧ (a1.length ≤ 4611686018427387904) → ((a0.length : Int) != (a1.length : Int)) = true → false = res) ∧ ((a0.length ≤ 4611686018427387904) ∧ (a1.length ≤ 4611686018427387904) ∧ ((!((a0.length : Int) != (a1.length : Int))) = true) → I0 0 ∧ ∀ (v5 : Int), I0 v5 → (((decide (v5 < (a0.length : Int))) = false → true = res) ∧ ((decide (v5 < (a0.length : Int))) = true → (((0 ≤ v5 ∧ v5.toNat < a0.length) ∧ (0 ≤ v5 ∧ v5.toNat < a1.length)) ∧ ((!(eqv (nth a0 v5) (nth a1 v5))) = true → false = res)) ∧ ((!(!(eqv (nth a0 v5) (nth a1 v5)))) = true → I0 (IntKind.i64.wrap (v5 + 1)) ∧ m0 (IntKind.i64.wrap (v5 + 1)) < m0 v5))))
def laws_eqPointS_C (a0 : (List Point)) (a1 : (List Point)) (res : Bool) (I0 : Int → Prop) (m0 : Int → Nat) : Prop :=
 laws_eqPointS_C1 I0 m0 a0 a1 res
theorem laws_eqPointS_walk (a0 : (List Point)) (a1 : (List Point)) (res : Bool) (I0 : Int → Prop) (m0 : Int → Nat) (h : laws_eqPointS_C a0 a1 res I0 m0) : FnV Try.prog 81 [al ePoint a0, al ePoint a1] (ab res) := by
 unfold laws_eqPointS_C at h
 refine FnS.go (fn := Try.f81) [(0, al ePoint a0), (1, al ePoint a1)] Try.func81 ?_
 show WpS _ (nv laws_eqPointS_b 1) _ ⟨mkS 27 [(0, al ePoint a0), (1, al ePoint a1)], [], []⟩
 refine cRM [] 0 [(4, ab false)] [] [2] ?_
 unfold laws_eqPointS_C1 at h
 obtain ⟨q24, h⟩ := h
 refine cSeqM [] [2] ((a0.length ≤ 4611686018427387904) ∧ (a1.length ≤ 4611686018427387904) ∧ ((!((a0.length : Int) != (a1.length : Int))) = true)) ?_ (fun q2 => ?_)
 ·
  replace h := q24
  refine cSeqM [(10, ab ((a0.length : Int) != (a1.length : Int)))] [2] ((a0.length ≤ 4611686018427387904) ∧ (a1.length ≤ 4611686018427387904)) ?_ (fun q3 => ?_)
  ·
   refine rgS [] 1 ?_
   refine sLen 2 (some 7) [(6, al ePoint a0)] ePoint a0 (fun q4 => ?_)
   refine sLen 2 (some 9) [(8, al ePoint a1)] ePoint a1 (fun q5 => ?_)
   exact sEJ [(10, ab ((a0.length : Int) != (a1.length : Int)))] ⟨q4, q5⟩
  replace h := h q3
  refine cCond1 (fun q6 => ?_) (fun q6 => ?_)
  ·
   replace h := h q6
   refine cRM [] 2 [(4, ab false)] [1] [] ?_
   exact cRet (QJoin.ret (rt1 (ab false) (SnapR3.of1 (sr_bool h))))
  ·
   refine cSkip ?_
   exact QJoin.normal ⟨q3.1, q3.2, (by simp only [q6] <;> rfl)⟩ wkJ
 replace h := h q2
 refine cSeq ?_
 refine cRM [] 3 [(5, ai 0)] [1] [2] ?_
 refine cBlock 0 ?_
 obtain ⟨q23, h⟩ := h
 refine cLoop (fun (v : Int) => (⟨(mkS 27 [(0, al ePoint a0), (1, al ePoint a1), (5, ai v)]), [], []⟩ : St)) (fun (v : Int) => I0 v) (fun (v : Int) => m0 v) 0 (wkL []) q23 (fun v5 hI => ?_)
 replace h := h v5 hI
 obtain ⟨q22, h⟩ := h
 refine cSeqM [] [3] ((decide (v5 < (a0.length : Int))) = true) ?_ (fun q9 => ?_)
 ·
  replace h := q22
  refine cSeqM [(14, ab (decide (v5 < (a0.length : Int))))] [3] (True) ?_ (fun q10 => ?_)
  ·
   refine rgS [] 4 ?_
   refine sLen 3 (some 13) [(12, al ePoint a0), (11, ai v5)] ePoint a0 (fun q11 => ?_)
   exact sEJ [(14, ab (decide (v5 < (a0.length : Int))))] trivial
  refine cCond1 (fun q12 => ?_) (fun q12 => ?_)
  ·
   refine cSkip ?_
   exact QJoin.normal (by simp only [q2.2.2, q12] <;> rfl) wkJ
  ·
   replace h := h q12
   refine cExit 0 ?_
   refine QJoin.exit ?_
   refine QRound.exit ?_
   refine QBlock.here ?_
   refine QSeq.normal ?_
   refine cSeqG ⟨(mkS 27 [(4, ab true)]), [], []⟩ (True) ?_ (fun q13 => ?_)
   ·
    refine rgS [] 8 ?_
    exact sEJ [(4, ab true)] trivial
   exact cRet (rt1 (ab true) (SnapR3.of1 (sr_bool h)))
 replace h := h q9
 obtain ⟨q21, h⟩ := h
 refine cSeqM [] [3] ((!(!(eqv (nth a0 v5) (nth a1 v5)))) = true) ?_ (fun q14 => ?_)
 ·
  replace h := q21
  refine cBlock 1 ?_
  obtain ⟨q20, h⟩ := h
  refine cSeqM [(26, ab (!(eqv (nth a0 v5) (nth a1 v5))))] [3] (True) ?_ (fun q15 => ?_)
  ·
   replace h := q20
   refine rgD [] 6 laws_eqPointS_o6 laws_eqPointS_o6a [] ?_
   obtain ⟨q17, h⟩ := h
   refine tIdx 3 (some 19) [(18, ai v5), (17, al ePoint a0)] ePoint a0 2 q17 ?_
   have q16 := h
   refine tIdx 4 (some 23) [(22, ai v5), (21, al ePoint a1), (20, .agg (ePoint (nth a0 v5)))] ePoint a1 2 q16 ?_
   refine tCallV 2 (some 25) [(24, .agg (ePoint (nth a1 v5)))] [.agg (ePoint (nth a0 v5)), .agg (ePoint (nth a1 v5))] (laws_eqPoint_V (nth a0 v5) (nth a1 v5)) (PW.cons (Snap2.agg (PW.cons (.int _ _) (PW.cons (.int _ _) PW.nil))) (PW.cons (Snap2.agg (PW.cons (.int _ _) (PW.cons (.int _ _) PW.nil))) PW.nil)) ?_
   exact tEJ [(26, ab (!(eqv (nth a0 v5) (nth a1 v5))))] trivial
  refine cCond1 (fun q18 => ?_) (fun q18 => ?_)
  ·
   replace h := h q18
   refine cRM [] 7 [(4, ab false)] [1] [] ?_
   exact cRet (QBlock.ret (QJoin.ret (QRound.ret (QBlock.ret (QSeq.ret (rt1 (ab false) (SnapR3.of1 (sr_bool h))))))))
  ·
   refine cSkip ?_
   refine QBlock.normal ?_
   exact QJoin.normal (by simp only [q2.2.2, q9, q18] <;> rfl) wkJ
 replace h := h q14
 refine rgS [] 5 ?_
 refine sEnd [(5, ai (IntKind.i64.wrap (v5 + 1))), (16, ai (IntKind.i64.wrap (v5 + 1))), (15, ai v5)] ?_
 exact QRound.again (IntKind.i64.wrap (v5 + 1)) h (wkL [])

theorem laws_eqPointS_V (a0 : (List Point)) (a1 : (List Point)) : FnV Try.prog 81 [al ePoint a0, al ePoint a1] (ab (eqv a0 a1)) := laws_eqPointS_walk a0 a1 (eqv a0 a1) (upI a0.length (fun v => !(eqv (nth a0 v) (nth a1 v)))) (upM a0.length) (by
 unfold laws_eqPointS_C laws_eqPointS_C1
 exact eq_loop (ne := fun v => !(eqv (nth a0 v) (nth a1 v))) (fun v => by simp [eqv]))

noncomputable def laws_eqHeld_b : Code := bodyC Try.f133
def laws_eqHeld_C1 (a0 a1 : Held) (res : Bool) : Prop :=
  ((a0.state != a1.state) = true → false = res) ∧ ((!(a0.state != a1.state)) = true → ((a0.gone != a1.gone) = true → false = res) ∧ ((!(a0.gone != a1.gone)) = true → ((!(eqv a0.been a1.been)) = true → false = res) ∧ ((!(!(eqv a0.been a1.been))) = true → ((a0.shown != a1.shown) = true → false = res) ∧ ((!(a0.shown != a1.shown)) = true → ((a0.timer != a1.timer) = true → false = res) ∧ ((!(a0.timer != a1.timer)) = true → true = res)))))
def laws_eqHeld_C (a0 : Held) (a1 : Held) (res : Bool) : Prop :=
 laws_eqHeld_C1 a0 a1 res
theorem laws_eqHeld_walk (a0 : Held) (a1 : Held) (res : Bool) (h : laws_eqHeld_C a0 a1 res) : FnV Try.prog 133 [.agg (eHeld false a0), .agg (eHeld false a1)] (ab res) := by
 unfold laws_eqHeld_C at h
 refine FnS.go (fn := Try.f133) [(0, .agg (eHeld false a0)), (1, .agg (eHeld false a1))] Try.func133 ?_
 show WpS _ (nv laws_eqHeld_b 1) _ ⟨mkS 31 [(0, .agg (eHeld false a0)), (1, .agg (eHeld false a1))], [], []⟩
 refine cRN [] 0 [(4, ab false), (3, ap 3 0), (2, ap 2 0)] [0, 1, 2] [] [(3, (eHeld false a1)), (2, (eHeld false a0))] [] ?_
 unfold laws_eqHeld_C1 at h
 obtain ⟨q27, h⟩ := h
 refine cSeqM [] [2] ((!(a0.state != a1.state)) = true) ?_ (fun q2 => ?_)
 ·
  replace h := q27
  refine cRM [] 1 [(9, ab (a0.state != a1.state)), (8, ai a1.state), (7, ap 3 0), (6, ai a0.state), (5, ap 2 0)] [1] [2] ?_
  refine cCond1 (fun q4 => ?_) (fun q4 => ?_)
  ·
   replace h := h q4
   refine cRM [] 2 [(4, ab false)] [1] [] ?_
   exact cRet (QJoin.ret (rt1 (ab false) (SnapR3.of1 (sr_bool h))))
  ·
   refine cSkip ?_
   exact QJoin.normal (by simp only [q4] <;> rfl) wkJ
 replace h := h q2
 obtain ⟨q26, h⟩ := h
 refine cSeqM [] [2] ((!(a0.gone != a1.gone)) = true) ?_ (fun q6 => ?_)
 ·
  replace h := q26
  refine cRM [] 3 [(14, ab (a0.gone != a1.gone)), (13, ai a1.gone), (12, ap 3 1), (11, ai a0.gone), (10, ap 2 1)] [1] [2] ?_
  refine cCond1 (fun q8 => ?_) (fun q8 => ?_)
  ·
   replace h := h q8
   refine cRM [] 4 [(4, ab false)] [1] [] ?_
   exact cRet (QJoin.ret (rt1 (ab false) (SnapR3.of1 (sr_bool h))))
  ·
   refine cSkip ?_
   exact QJoin.normal (by simp only [q2, q8] <;> rfl) wkJ
 replace h := h q6
 obtain ⟨q25, h⟩ := h
 refine cSeqM [] [2] ((!(!(eqv a0.been a1.been))) = true) ?_ (fun q10 => ?_)
 ·
  replace h := q25
  refine cSeqM [(20, ab (!(eqv a0.been a1.been)))] [2] (True) ?_ (fun q11 => ?_)
  ·
   refine rgS [] 5 ?_
   refine sCallV 5 (some 19) [(18, al eBool a1.been), (17, ap 3 2), (16, al eBool a0.been), (15, ap 2 2)] [al eBool a0.been, al eBool a1.been] (laws_eqBoolS_V a0.been a1.been) (PW.cons (Snap2.of1 sa_lst) (PW.cons (Snap2.of1 sa_lst) PW.nil)) ?_
   exact sEJ [(20, ab (!(eqv a0.been a1.been)))] trivial
  refine cCond1 (fun q12 => ?_) (fun q12 => ?_)
  ·
   replace h := h q12
   refine cRM [] 6 [(4, ab false)] [1] [] ?_
   exact cRet (QJoin.ret (rt1 (ab false) (SnapR3.of1 (sr_bool h))))
  ·
   refine cSkip ?_
   exact QJoin.normal (by simp only [q2, q6, q12] <;> rfl) wkJ
 replace h := h q10
 obtain ⟨q24, h⟩ := h
 refine cSeqM [] [2] ((!(a0.shown != a1.shown)) = true) ?_ (fun q14 => ?_)
 ·
  replace h := q24
  refine cRM [] 7 [(25, ab (a0.shown != a1.shown)), (24, ab a1.shown), (23, ap 3 3), (22, ab a0.shown), (21, ap 2 3)] [1] [2] ?_
  refine cCond1 (fun q16 => ?_) (fun q16 => ?_)
  ·
   replace h := h q16
   refine cRM [] 8 [(4, ab false)] [1] [] ?_
   exact cRet (QJoin.ret (rt1 (ab false) (SnapR3.of1 (sr_bool h))))
  ·
   refine cSkip ?_
   exact QJoin.normal (by simp only [q2, q6, q10, q16] <;> rfl) wkJ
 replace h := h q14
 obtain ⟨q23, h⟩ := h
 refine cSeqM [] [] ((!(a0.timer != a1.timer)) = true) ?_ (fun q18 => ?_)
 ·
  replace h := q23
  refine cRM [] 9 [(30, ab (a0.timer != a1.timer)), (29, ai a1.timer), (28, ap 3 4), (27, ai a0.timer), (26, ap 2 4)] [1] [] ?_
  refine cCond1 (fun q20 => ?_) (fun q20 => ?_)
  ·
   replace h := h q20
   refine cRM [] 10 [(4, ab false)] [1] [] ?_
   exact cRet (QJoin.ret (rt1 (ab false) (SnapR3.of1 (sr_bool h))))
  ·
   refine cSkip ?_
   exact QJoin.normal (by simp only [q2, q6, q10, q14, q20] <;> rfl) wkJ
 replace h := h q18
 refine cRM [] 11 [(4, ab true)] [1] [] ?_
 exact cRet (rt1 (ab true) (SnapR3.of1 (sr_bool h)))

theorem laws_eqHeld_V (a0 : Held) (a1 : Held) : FnV Try.prog 133 [.agg (eHeld false a0), .agg (eHeld false a1)] (ab (eqv a0 a1)) := laws_eqHeld_walk a0 a1 (eqv a0 a1) (by
 unfold laws_eqHeld_C laws_eqHeld_C1
 obtain ⟨a, b, c, d, e⟩ := a0
 obtain ⟨a', b', c', d', e'⟩ := a1
 simp [eqv]
 refine ⟨fun h h1 => absurd h1 h, fun h => ⟨fun k _ k1 => absurd k1 k, ?_⟩⟩
 intros
 simp_all)

noncomputable def laws_eqHeldS_b : Code := bodyC Try.f82
def laws_eqHeldS_o6 : List Item := [iq 0, iq 1, iq 2, iq 3, iq 4, iq 5, iq 6, iq 7, iq 8, iq 9]
def laws_eqHeldS_o6a : List (List Nat) := [[], [], [0, 1], [0, 1, 2], [], [], [4, 5], [4, 5, 6], rg 0 8, rg 0 9]
def laws_eqHeldS_C1 (I0 : Int → Prop) (m0 : Int → Nat) (a0 a1 : (List Held)) (res : Bool) : Prop :=
  ((a0.length ≤ 4611686018427387904) ∧ (a1.length ≤ 4611686018427387904) → ((a0.length : Int) != (a1.length : Int)) = true → false = res) ∧ ((a0.length ≤ 4611686018427387904) ∧ (a1.length ≤ 4611686018427387904) ∧ ((!((a0.length : Int) != (a1.length : Int))) = true) → I0 0 ∧ ∀ (v5 : Int), I0 v5 → (((decide (v5 < (a0.length : Int))) = false → true = res) ∧ ((decide (v5 < (a0.length : Int))) = true → (((0 ≤ v5 ∧ v5.toNat < a0.length) ∧ (0 ≤ v5 ∧ v5.toNat < a1.length)) ∧ ((!(eqv (nth a0 v5) (nth a1 v5))) = true → false = res)) ∧ ((!(!(eqv (nth a0 v5) (nth a1 v5)))) = true → I0 (IntKind.i64.wrap (v5 + 1)) ∧ m0 (IntKind.i64.wrap (v5 + 1)) < m0 v5))))
def laws_eqHeldS_C (a0 : (List Held)) (a1 : (List Held)) (res : Bool) (I0 : Int → Prop) (m0 : Int → Nat) : Prop :=
 laws_eqHeldS_C1 I0 m0 a0 a1 res
theorem laws_eqHeldS_walk (a0 : (List Held)) (a1 : (List Held)) (res : Bool) (I0 : Int → Prop) (m0 : Int → Nat) (h : laws_eqHeldS_C a0 a1 res I0 m0) : FnV Try.prog 82 [al (eHeld false) a0, al (eHeld false) a1] (ab res) := by
 unfold laws_eqHeldS_C at h
 refine FnS.go (fn := Try.f82) [(0, al (eHeld false) a0), (1, al (eHeld false) a1)] Try.func82 ?_
 show WpS _ (nv laws_eqHeldS_b 1) _ ⟨mkS 27 [(0, al (eHeld false) a0), (1, al (eHeld false) a1)], [], []⟩
 refine cRM [] 0 [(4, ab false)] [] [2] ?_
 unfold laws_eqHeldS_C1 at h
 obtain ⟨q24, h⟩ := h
 refine cSeqM [] [2] ((a0.length ≤ 4611686018427387904) ∧ (a1.length ≤ 4611686018427387904) ∧ ((!((a0.length : Int) != (a1.length : Int))) = true)) ?_ (fun q2 => ?_)
 ·
  replace h := q24
  refine cSeqM [(10, ab ((a0.length : Int) != (a1.length : Int)))] [2] ((a0.length ≤ 4611686018427387904) ∧ (a1.length ≤ 4611686018427387904)) ?_ (fun q3 => ?_)
  ·
   refine rgS [] 1 ?_
   refine sLen 2 (some 7) [(6, al (eHeld false) a0)] (eHeld false) a0 (fun q4 => ?_)
   refine sLen 2 (some 9) [(8, al (eHeld false) a1)] (eHeld false) a1 (fun q5 => ?_)
   exact sEJ [(10, ab ((a0.length : Int) != (a1.length : Int)))] ⟨q4, q5⟩
  replace h := h q3
  refine cCond1 (fun q6 => ?_) (fun q6 => ?_)
  ·
   replace h := h q6
   refine cRM [] 2 [(4, ab false)] [1] [] ?_
   exact cRet (QJoin.ret (rt1 (ab false) (SnapR3.of1 (sr_bool h))))
  ·
   refine cSkip ?_
   exact QJoin.normal ⟨q3.1, q3.2, (by simp only [q6] <;> rfl)⟩ wkJ
 replace h := h q2
 refine cSeq ?_
 refine cRM [] 3 [(5, ai 0)] [1] [2] ?_
 refine cBlock 0 ?_
 obtain ⟨q23, h⟩ := h
 refine cLoop (fun (v : Int) => (⟨(mkS 27 [(0, al (eHeld false) a0), (1, al (eHeld false) a1), (5, ai v)]), [], []⟩ : St)) (fun (v : Int) => I0 v) (fun (v : Int) => m0 v) 0 (wkL []) q23 (fun v5 hI => ?_)
 replace h := h v5 hI
 obtain ⟨q22, h⟩ := h
 refine cSeqM [] [3] ((decide (v5 < (a0.length : Int))) = true) ?_ (fun q9 => ?_)
 ·
  replace h := q22
  refine cSeqM [(14, ab (decide (v5 < (a0.length : Int))))] [3] (True) ?_ (fun q10 => ?_)
  ·
   refine rgS [] 4 ?_
   refine sLen 3 (some 13) [(12, al (eHeld false) a0), (11, ai v5)] (eHeld false) a0 (fun q11 => ?_)
   exact sEJ [(14, ab (decide (v5 < (a0.length : Int))))] trivial
  refine cCond1 (fun q12 => ?_) (fun q12 => ?_)
  ·
   refine cSkip ?_
   exact QJoin.normal (by simp only [q2.2.2, q12] <;> rfl) wkJ
  ·
   replace h := h q12
   refine cExit 0 ?_
   refine QJoin.exit ?_
   refine QRound.exit ?_
   refine QBlock.here ?_
   refine QSeq.normal ?_
   refine cSeqG ⟨(mkS 27 [(4, ab true)]), [], []⟩ (True) ?_ (fun q13 => ?_)
   ·
    refine rgS [] 8 ?_
    exact sEJ [(4, ab true)] trivial
   exact cRet (rt1 (ab true) (SnapR3.of1 (sr_bool h)))
 replace h := h q9
 obtain ⟨q21, h⟩ := h
 refine cSeqM [] [3] ((!(!(eqv (nth a0 v5) (nth a1 v5)))) = true) ?_ (fun q14 => ?_)
 ·
  replace h := q21
  refine cBlock 1 ?_
  obtain ⟨q20, h⟩ := h
  refine cSeqM [(26, ab (!(eqv (nth a0 v5) (nth a1 v5))))] [3] (True) ?_ (fun q15 => ?_)
  ·
   replace h := q20
   refine rgD [] 6 laws_eqHeldS_o6 laws_eqHeldS_o6a [] ?_
   obtain ⟨q17, h⟩ := h
   refine tIdx 3 (some 19) [(18, ai v5), (17, al (eHeld false) a0)] (eHeld false) a0 5 q17 ?_
   have q16 := h
   refine tIdx 4 (some 23) [(22, ai v5), (21, al (eHeld false) a1), (20, .agg (eHeld false (nth a0 v5)))] (eHeld false) a1 5 q16 ?_
   refine tCallV 2 (some 25) [(24, .agg (eHeld false (nth a1 v5)))] [.agg (eHeld false (nth a0 v5)), .agg (eHeld false (nth a1 v5))] (laws_eqHeld_V (nth a0 v5) (nth a1 v5)) (PW.cons (Snap2.agg (PW.cons (.int _ _) (PW.cons (.int _ _) (PW.cons sa_lst (PW.cons (.bool _) (PW.cons (.int _ _) PW.nil)))))) (PW.cons (Snap2.agg (PW.cons (.int _ _) (PW.cons (.int _ _) (PW.cons sa_lst (PW.cons (.bool _) (PW.cons (.int _ _) PW.nil)))))) PW.nil)) ?_
   exact tEJ [(26, ab (!(eqv (nth a0 v5) (nth a1 v5))))] trivial
  refine cCond1 (fun q18 => ?_) (fun q18 => ?_)
  ·
   replace h := h q18
   refine cRM [] 7 [(4, ab false)] [1] [] ?_
   exact cRet (QBlock.ret (QJoin.ret (QRound.ret (QBlock.ret (QSeq.ret (rt1 (ab false) (SnapR3.of1 (sr_bool h))))))))
  ·
   refine cSkip ?_
   refine QBlock.normal ?_
   exact QJoin.normal (by simp only [q2.2.2, q9, q18] <;> rfl) wkJ
 replace h := h q14
 refine rgS [] 5 ?_
 refine sEnd [(5, ai (IntKind.i64.wrap (v5 + 1))), (16, ai (IntKind.i64.wrap (v5 + 1))), (15, ai v5)] ?_
 exact QRound.again (IntKind.i64.wrap (v5 + 1)) h (wkL [])

theorem laws_eqHeldS_V (a0 : (List Held)) (a1 : (List Held)) : FnV Try.prog 82 [al (eHeld false) a0, al (eHeld false) a1] (ab (eqv a0 a1)) := laws_eqHeldS_walk a0 a1 (eqv a0 a1) (upI a0.length (fun v => !(eqv (nth a0 v) (nth a1 v)))) (upM a0.length) (by
 unfold laws_eqHeldS_C laws_eqHeldS_C1
 exact eq_loop (ne := fun v => !(eqv (nth a0 v) (nth a1 v))) (fun v => by simp [eqv]))

noncomputable def laws_eqFrame_b : Code := bodyC Try.f34
def laws_eqFrame_C (a0 : Frame) (a1 : Frame) (res : Bool) : Prop :=
 ((a0.ok != a1.ok) = true → false = res) ∧ ((!(a0.ok != a1.ok)) = true → ((!(eqv a0.occ a1.occ)) = true → false = res) ∧ ((!(!(eqv a0.occ a1.occ))) = true → ((!(eqv a0.points a1.points)) = true → false = res) ∧ ((!(!(eqv a0.points a1.points))) = true → ((!(eqv a0.ways a1.ways)) = true → false = res) ∧ ((!(!(eqv a0.ways a1.ways))) = true → true = res))))
theorem laws_eqFrame_walk (a0 : Frame) (a1 : Frame) (res : Bool) (h : laws_eqFrame_C a0 a1 res) : FnV Try.prog 34 [.agg (eFrame false a0), .agg (eFrame false a1)] (ab res) := by
 unfold laws_eqFrame_C at h
 refine FnS.go (fn := Try.f34) [(0, .agg (eFrame false a0)), (1, .agg (eFrame false a1))] Try.func34 ?_
 show WpS _ (nv laws_eqFrame_b 1) _ ⟨mkS 28 [(0, .agg (eFrame false a0)), (1, .agg (eFrame false a1))], [], []⟩
 refine cRN [] 0 [(4, ab false), (3, ap 3 0), (2, ap 2 0)] [0, 1, 2] [] [(3, (eFrame false a1)), (2, (eFrame false a0))] [] ?_
 obtain ⟨q22, h⟩ := h
 refine cSeqM [] [2] ((!(a0.ok != a1.ok)) = true) ?_ (fun q2 => ?_)
 ·
  replace h := q22
  refine cRM [] 1 [(9, ab (a0.ok != a1.ok)), (8, ab a1.ok), (7, ap 3 0), (6, ab a0.ok), (5, ap 2 0)] [1] [2] ?_
  refine cCond1 (fun q4 => ?_) (fun q4 => ?_)
  ·
   replace h := h q4
   refine cRM [] 2 [(4, ab false)] [1] [] ?_
   exact cRet (QJoin.ret (rt1 (ab false) (SnapR3.of1 (sr_bool h))))
  ·
   refine cSkip ?_
   exact QJoin.normal (by simp only [q4] <;> rfl) wkJ
 replace h := h q2
 obtain ⟨q21, h⟩ := h
 refine cSeqM [] [2] ((!(!(eqv a0.occ a1.occ))) = true) ?_ (fun q6 => ?_)
 ·
  replace h := q21
  refine cSeqM [(15, ab (!(eqv a0.occ a1.occ)))] [2] (True) ?_ (fun q7 => ?_)
  ·
   refine rgS [] 3 ?_
   refine sCallV 5 (some 14) [(13, al eBool a1.occ), (12, ap 3 1), (11, al eBool a0.occ), (10, ap 2 1)] [al eBool a0.occ, al eBool a1.occ] (laws_eqBoolS_V a0.occ a1.occ) (PW.cons (Snap2.of1 sa_lst) (PW.cons (Snap2.of1 sa_lst) PW.nil)) ?_
   exact sEJ [(15, ab (!(eqv a0.occ a1.occ)))] trivial
  refine cCond1 (fun q8 => ?_) (fun q8 => ?_)
  ·
   replace h := h q8
   refine cRM [] 4 [(4, ab false)] [1] [] ?_
   exact cRet (QJoin.ret (rt1 (ab false) (SnapR3.of1 (sr_bool h))))
  ·
   refine cSkip ?_
   exact QJoin.normal (by simp only [q2, q8] <;> rfl) wkJ
 replace h := h q6
 obtain ⟨q20, h⟩ := h
 refine cSeqM [] [2] ((!(!(eqv a0.points a1.points))) = true) ?_ (fun q10 => ?_)
 ·
  replace h := q20
  refine cSeqM [(21, ab (!(eqv a0.points a1.points)))] [2] (True) ?_ (fun q11 => ?_)
  ·
   refine rgS [] 5 ?_
   refine sCallV 5 (some 20) [(19, al ePoint a1.points), (18, ap 3 2), (17, al ePoint a0.points), (16, ap 2 2)] [al ePoint a0.points, al ePoint a1.points] (laws_eqPointS_V a0.points a1.points) (PW.cons (Snap2.of1 sa_lst) (PW.cons (Snap2.of1 sa_lst) PW.nil)) ?_
   exact sEJ [(21, ab (!(eqv a0.points a1.points)))] trivial
  refine cCond1 (fun q12 => ?_) (fun q12 => ?_)
  ·
   replace h := h q12
   refine cRM [] 6 [(4, ab false)] [1] [] ?_
   exact cRet (QJoin.ret (rt1 (ab false) (SnapR3.of1 (sr_bool h))))
  ·
   refine cSkip ?_
   exact QJoin.normal (by simp only [q2, q6, q12] <;> rfl) wkJ
 replace h := h q10
 obtain ⟨q19, h⟩ := h
 refine cSeqM [] [] ((!(!(eqv a0.ways a1.ways))) = true) ?_ (fun q14 => ?_)
 ·
  replace h := q19
  refine cSeqM [(27, ab (!(eqv a0.ways a1.ways)))] [] (True) ?_ (fun q15 => ?_)
  ·
   refine rgS [] 7 ?_
   refine sCallV 5 (some 26) [(25, al (eHeld false) a1.ways), (24, ap 3 3), (23, al (eHeld false) a0.ways), (22, ap 2 3)] [al (eHeld false) a0.ways, al (eHeld false) a1.ways] (laws_eqHeldS_V a0.ways a1.ways) (PW.cons (Snap2.of1 sa_lst) (PW.cons (Snap2.of1 sa_lst) PW.nil)) ?_
   exact sEJ [(27, ab (!(eqv a0.ways a1.ways)))] trivial
  refine cCond1 (fun q16 => ?_) (fun q16 => ?_)
  ·
   replace h := h q16
   refine cRM [] 8 [(4, ab false)] [1] [] ?_
   exact cRet (QJoin.ret (rt1 (ab false) (SnapR3.of1 (sr_bool h))))
  ·
   refine cSkip ?_
   exact QJoin.normal (by simp only [q2, q6, q10, q16] <;> rfl) wkJ
 replace h := h q14
 refine cRM [] 9 [(4, ab true)] [1] [] ?_
 exact cRet (rt1 (ab true) (SnapR3.of1 (sr_bool h)))

theorem laws_eqFrame_V (a0 : Frame) (a1 : Frame) : FnV Try.prog 34 [.agg (eFrame false a0), .agg (eFrame false a1)] (ab (eqv a0 a1)) := laws_eqFrame_walk a0 a1 (eqv a0 a1) (by
 unfold laws_eqFrame_C
 obtain ⟨a, b, c, d⟩ := a0
 obtain ⟨a', b', c', d'⟩ := a1
 simp [eqv]
 refine ⟨fun h h1 => absurd h1 h, fun h => ⟨fun k _ k1 => absurd k1 k, ?_⟩⟩
 intros
 simp_all)

noncomputable def laws_szPointS_b : Code := bodyC Try.f95
def laws_szPointS_C (a0 : (List Point)) (a1 : Int) (res : Int) : Prop :=
 a0.length ≤ 4611686018427387904 → ((decide ((IntKind.i64.wrap (a1 - (a0.length : Int))) < 0)) = true → (-1) = res) ∧ ((!(decide ((IntKind.i64.wrap (a1 - (a0.length : Int))) < 0))) = true → (IntKind.i64.wrap (a1 - (a0.length : Int))) = res)
theorem laws_szPointS_walk (a0 : (List Point)) (a1 : Int) (res : Int) (h : laws_szPointS_C a0 a1 res) : FnV Try.prog 95 [al ePoint a0, ai a1] (ai res) := by
 unfold laws_szPointS_C at h
 refine FnS.go (fn := Try.f95) [(0, al ePoint a0), (1, ai a1)] Try.func95 ?_
 show WpS _ (nv laws_szPointS_b 1) _ ⟨mkS 12 [(0, al ePoint a0), (1, ai a1)], [], []⟩
 refine cRM [] 0 [(4, ai 0)] [] [2] ?_
 refine cSeqM [(1, ai (IntKind.i64.wrap (a1 - (a0.length : Int))))] [] (a0.length ≤ 4611686018427387904) ?_ (fun q2 => ?_)
 ·
  refine rgS [] 1 ?_
  refine sLen 3 (some 7) [(6, al ePoint a0), (5, ai a1)] ePoint a0 (fun q3 => ?_)
  exact sEJ [(1, ai (IntKind.i64.wrap (a1 - (a0.length : Int)))), (8, ai (IntKind.i64.wrap (a1 - (a0.length : Int))))] q3
 replace h := h q2
 obtain ⟨q9, h⟩ := h
 refine cSeqM [] [1] ((!(decide ((IntKind.i64.wrap (a1 - (a0.length : Int))) < 0))) = true) ?_ (fun q4 => ?_)
 ·
  replace h := q9
  refine cRM [] 2 [(10, ab (decide ((IntKind.i64.wrap (a1 - (a0.length : Int))) < 0))), (9, ai (IntKind.i64.wrap (a1 - (a0.length : Int))))] [1] [1] ?_
  refine cCond1 (fun q6 => ?_) (fun q6 => ?_)
  ·
   replace h := h q6
   refine cRM [] 3 [(4, ai (-1))] [1] [] ?_
   exact cRet (QJoin.ret (rt1 (ai (-1)) (SnapR3.of1 (sr_int h))))
  ·
   refine cSkip ?_
   exact QJoin.normal (by simp only [q6] <;> rfl) wkJ
 replace h := h q4
 refine cRM [] 4 [(4, ai (IntKind.i64.wrap (a1 - (a0.length : Int)))), (11, ai (IntKind.i64.wrap (a1 - (a0.length : Int))))] [1] [] ?_
 exact cRet (rt1 (ai (IntKind.i64.wrap (a1 - (a0.length : Int)))) (SnapR3.of1 (sr_int h)))

theorem laws_szPointS_V (a0 : (List Point)) (a1 : Int) (hp : okL a0 a1) : FnV Try.prog 95 [al ePoint a0, ai a1] (ai (szL a0 a1)) := laws_szPointS_walk a0 a1 (szL a0 a1) (by
 unfold laws_szPointS_C
 exact fun hn => sz_len hp hn)

noncomputable def laws_szHeld_b : Code := bodyC Try.f139
def laws_szHeld_C (a0 : Held) (a1 : Int) (res : Int) : Prop :=
 (okL a0.been a1) ∧ (((decide ((szL a0.been a1) < 0)) = true → (-1) = res) ∧ ((!(decide ((szL a0.been a1) < 0))) = true → (szL a0.been a1) = res))
theorem laws_szHeld_walk (a0 : Held) (a1 : Int) (res : Int) (h : laws_szHeld_C a0 a1 res) : FnV Try.prog 139 [.agg (eHeld false a0), ai a1] (ai res) := by
 unfold laws_szHeld_C at h
 refine FnS.go (fn := Try.f139) [(0, .agg (eHeld false a0)), (1, ai a1)] Try.func139 ?_
 show WpS _ (nv laws_szHeld_b 1) _ ⟨mkS 12 [(0, .agg (eHeld false a0)), (1, ai a1)], [], []⟩
 refine cRN [] 0 [(4, ai 0), (2, ap 2 0)] [0, 1, 1] [0, 1, 1] [(2, (eHeld false a0))] [] ?_
 obtain ⟨q10, h⟩ := h
 refine cSeqM [(1, ai (szL a0.been a1))] [] (True) ?_ (fun q2 => ?_)
 ·
  replace h := q10
  refine rgS [] 1 ?_
  have q3 := h
  refine sCallV 4 (some 8) [(7, ai a1), (6, al eBool a0.been), (5, ap 2 2)] [al eBool a0.been, ai a1] (laws_szBoolS_V a0.been a1 q3) (PW.cons (Snap2.of1 sa_lst) (PW.cons (Snap2.of1 (.int _ _)) PW.nil)) ?_
  exact sEJ [(1, ai (szL a0.been a1))] trivial
 obtain ⟨q9, h⟩ := h
 refine cSeqM [] [1] ((!(decide ((szL a0.been a1) < 0))) = true) ?_ (fun q4 => ?_)
 ·
  replace h := q9
  refine cRM [] 2 [(10, ab (decide ((szL a0.been a1) < 0))), (9, ai (szL a0.been a1))] [1] [1] ?_
  refine cCond1 (fun q6 => ?_) (fun q6 => ?_)
  ·
   replace h := h q6
   refine cRM [] 3 [(4, ai (-1))] [1] [] ?_
   exact cRet (QJoin.ret (rt1 (ai (-1)) (SnapR3.of1 (sr_int h))))
  ·
   refine cSkip ?_
   exact QJoin.normal (by simp only [q6] <;> rfl) wkJ
 replace h := h q4
 refine cRM [] 4 [(4, ai (szL a0.been a1)), (11, ai (szL a0.been a1))] [1] [] ?_
 exact cRet (rt1 (ai (szL a0.been a1)) (SnapR3.of1 (sr_int h)))

theorem laws_szHeld_V (a0 : Held) (a1 : Int) (hp : okL a0 a1) : FnV Try.prog 139 [.agg (eHeld false a0), ai a1] (ai (szHeld a0 a1)) := laws_szHeld_walk a0 a1 (szHeld a0 a1) (by
 unfold laws_szHeld_C szHeld szL
 have hp : 0 ≤ a1 ∧ a1 ≤ 1048576 := hp
 exact ⟨hp, sz_step (m := 0) hp (by omega) fun c k => rfl⟩)

noncomputable def laws_szHeldS_b : Code := bodyC Try.f96
def laws_szHeldS_C1 (I0 : Int → Int → Prop) (m0 : Int → Int → Nat) (a0 : (List Held)) (res v1 v5 : Int) : Prop :=
  ((decide (v5 < (a0.length : Int))) = false → v1 = res) ∧ ((decide (v5 < (a0.length : Int))) = true → (((0 ≤ v5 ∧ v5.toNat < a0.length) ∧ (okL (nth a0 v5) v1)) ∧ ((decide ((szHeld (nth a0 v5) v1) < 0)) = true → (-1) = res)) ∧ ((!(decide ((szHeld (nth a0 v5) v1) < 0))) = true → I0 (szHeld (nth a0 v5) v1) (IntKind.i64.wrap (v5 + 1)) ∧ m0 (szHeld (nth a0 v5) v1) (IntKind.i64.wrap (v5 + 1)) < m0 v1 v5))
def laws_szHeldS_C (a0 : (List Held)) (a1 : Int) (res : Int) (I0 : Int → Int → Prop) (m0 : Int → Int → Nat) : Prop :=
 a0.length ≤ 4611686018427387904 → ((decide ((IntKind.i64.wrap (a1 - (a0.length : Int))) < 0)) = true → (-1) = res) ∧ ((!(decide ((IntKind.i64.wrap (a1 - (a0.length : Int))) < 0))) = true → I0 (IntKind.i64.wrap (a1 - (a0.length : Int))) 0 ∧ ∀ (v1 : Int) (v5 : Int), I0 v1 v5 → (laws_szHeldS_C1 I0 m0 a0 res v1 v5))
theorem laws_szHeldS_walk (a0 : (List Held)) (a1 : Int) (res : Int) (I0 : Int → Int → Prop) (m0 : Int → Int → Nat) (h : laws_szHeldS_C a0 a1 res I0 m0) : FnV Try.prog 96 [al (eHeld false) a0, ai a1] (ai res) := by
 unfold laws_szHeldS_C at h
 refine FnS.go (fn := Try.f96) [(0, al (eHeld false) a0), (1, ai a1)] Try.func96 ?_
 show WpS _ (nv laws_szHeldS_b 1) _ ⟨mkS 27 [(0, al (eHeld false) a0), (1, ai a1)], [], []⟩
 refine cRM [] 0 [(4, ai 0)] [] [2] ?_
 refine cSeqM [(1, ai (IntKind.i64.wrap (a1 - (a0.length : Int))))] [1] (a0.length ≤ 4611686018427387904) ?_ (fun q2 => ?_)
 ·
  refine rgS [] 1 ?_
  refine sLen 3 (some 8) [(7, al (eHeld false) a0), (6, ai a1)] (eHeld false) a0 (fun q3 => ?_)
  exact sEJ [(1, ai (IntKind.i64.wrap (a1 - (a0.length : Int)))), (9, ai (IntKind.i64.wrap (a1 - (a0.length : Int))))] q3
 replace h := h q2
 obtain ⟨q25, h⟩ := h
 refine cSeqM [] [2] ((!(decide ((IntKind.i64.wrap (a1 - (a0.length : Int))) < 0))) = true) ?_ (fun q4 => ?_)
 ·
  replace h := q25
  refine cRM [] 2 [(11, ab (decide ((IntKind.i64.wrap (a1 - (a0.length : Int))) < 0))), (10, ai (IntKind.i64.wrap (a1 - (a0.length : Int))))] [1] [2] ?_
  refine cCond1 (fun q6 => ?_) (fun q6 => ?_)
  ·
   replace h := h q6
   refine cRM [] 3 [(4, ai (-1))] [1] [] ?_
   exact cRet (QJoin.ret (rt1 (ai (-1)) (SnapR3.of1 (sr_int h))))
  ·
   refine cSkip ?_
   exact QJoin.normal (by simp only [q6] <;> rfl) wkJ
 replace h := h q4
 refine cSeq ?_
 refine cRM [] 4 [(5, ai 0)] [1] [2] ?_
 refine cBlock 0 ?_
 obtain ⟨q24, h⟩ := h
 refine cLoop (fun (v : Int × Int) => (⟨(mkS 27 [(0, al (eHeld false) a0), (1, ai (v.1)), (5, ai (v.2))]), [], []⟩ : St)) (fun (v : Int × Int) => I0 (v.1) (v.2)) (fun (v : Int × Int) => m0 (v.1) (v.2)) ((IntKind.i64.wrap (a1 - (a0.length : Int))), 0) (wkL []) q24 (fun v hI => ?_)
 obtain ⟨v1, v5⟩ := v
 replace h := h v1 v5 hI
 dsimp only
 unfold laws_szHeldS_C1 at h
 obtain ⟨q23, h⟩ := h
 refine cSeqM [] [3] ((decide (v5 < (a0.length : Int))) = true) ?_ (fun q9 => ?_)
 ·
  replace h := q23
  refine cSeqM [(15, ab (decide (v5 < (a0.length : Int))))] [3] (True) ?_ (fun q10 => ?_)
  ·
   refine rgS [] 5 ?_
   refine sLen 3 (some 14) [(13, al (eHeld false) a0), (12, ai v5)] (eHeld false) a0 (fun q11 => ?_)
   exact sEJ [(15, ab (decide (v5 < (a0.length : Int))))] trivial
  refine cCond1 (fun q12 => ?_) (fun q12 => ?_)
  ·
   refine cSkip ?_
   exact QJoin.normal (by simp only [q4, q12] <;> rfl) wkJ
  ·
   replace h := h q12
   refine cExit 0 ?_
   refine QJoin.exit ?_
   refine QRound.exit ?_
   refine QBlock.here ?_
   refine QSeq.normal ?_
   refine cSeqG ⟨(mkS 27 [(4, ai v1)]), [], []⟩ (True) ?_ (fun q13 => ?_)
   ·
    refine rgS [] 10 ?_
    exact sEJ [(4, ai v1), (26, ai v1)] trivial
   exact cRet (rt1 (ai v1) (SnapR3.of1 (sr_int h)))
 replace h := h q9
 obtain ⟨q22, h⟩ := h
 refine cSeqM [(1, ai (szHeld (nth a0 v5) v1))] [1, 1, 1] ((!(decide ((szHeld (nth a0 v5) v1) < 0))) = true) ?_ (fun q14 => ?_)
 ·
  replace h := q22
  refine cBlock 1 ?_
  obtain ⟨q21, h⟩ := h
  refine cSeqM [(1, ai (szHeld (nth a0 v5) v1))] [1, 1, 1] (True) ?_ (fun q15 => ?_)
  ·
   replace h := q21
   refine rgS [] 7 ?_
   obtain ⟨q17, h⟩ := h
   refine sIdx 3 (some 20) [(19, ai v5), (18, al (eHeld false) a0)] (eHeld false) a0 5 q17 ?_
   have q16 := h
   refine sCallV 3 (some 23) [(22, ai v1), (21, .agg (eHeld false (nth a0 v5)))] [.agg (eHeld false (nth a0 v5)), ai v1] (laws_szHeld_V (nth a0 v5) v1 q16) (PW.cons (Snap2.agg (PW.cons (.int _ _) (PW.cons (.int _ _) (PW.cons sa_lst (PW.cons (.bool _) (PW.cons (.int _ _) PW.nil)))))) (PW.cons (Snap2.of1 (.int _ _)) PW.nil)) ?_
   exact sEJ [(1, ai (szHeld (nth a0 v5) v1))] trivial
  refine cRM [] 8 [(25, ab (decide ((szHeld (nth a0 v5) v1) < 0))), (24, ai (szHeld (nth a0 v5) v1))] [1] [3] ?_
  refine cCond1 (fun q19 => ?_) (fun q19 => ?_)
  ·
   replace h := h q19
   refine cRM [] 9 [(4, ai (-1))] [1] [] ?_
   exact cRet (QBlock.ret (QJoin.ret (QRound.ret (QBlock.ret (QSeq.ret (rt1 (ai (-1)) (SnapR3.of1 (sr_int h))))))))
  ·
   refine cSkip ?_
   refine QBlock.normal ?_
   exact QJoin.normal (by simp only [q4, q9, q19] <;> rfl) wkJ
 replace h := h q14
 refine rgS [] 6 ?_
 refine sEnd [(5, ai (IntKind.i64.wrap (v5 + 1))), (17, ai (IntKind.i64.wrap (v5 + 1))), (16, ai v5)] ?_
 exact QRound.again ((szHeld (nth a0 v5) v1), (IntKind.i64.wrap (v5 + 1))) h (wkL [])

theorem laws_szHeldS_V (a0 : (List Held)) (a1 : Int) (hp : okL a0 a1) : FnV Try.prog 96 [al (eHeld false) a0, ai a1] (ai (szHelds a0 a1)) := laws_szHeldS_walk a0 a1 (szHelds a0 a1) (sumI a0 (fun h => h.been.length) a1) (sumM a0) (by
 unfold laws_szHeldS_C laws_szHeldS_C1
 exact fun hn => sum_loop (g := szHeld) (fun _ _ => rfl) hp hn)

noncomputable def laws_szFrame_b : Code := bodyC Try.f40
def laws_szFrame_C1 (a0 : Frame) (a1 res : Int) : Prop :=
  ((decide ((szL a0.points (szL a0.occ a1)) < 0)) = true → (-1) = res) ∧ ((!(decide ((szL a0.points (szL a0.occ a1)) < 0))) = true → (okL a0.ways (szL a0.points (szL a0.occ a1))) ∧ (((decide ((szHelds a0.ways (szL a0.points (szL a0.occ a1))) < 0)) = true → (-1) = res) ∧ ((!(decide ((szHelds a0.ways (szL a0.points (szL a0.occ a1))) < 0))) = true → (szHelds a0.ways (szL a0.points (szL a0.occ a1))) = res)))
def laws_szFrame_C (a0 : Frame) (a1 : Int) (res : Int) : Prop :=
 (okL a0.occ a1) ∧ (((decide ((szL a0.occ a1) < 0)) = true → (-1) = res) ∧ ((!(decide ((szL a0.occ a1) < 0))) = true → (okL a0.points (szL a0.occ a1)) ∧ (laws_szFrame_C1 a0 a1 res)))
theorem laws_szFrame_walk (a0 : Frame) (a1 : Int) (res : Int) (h : laws_szFrame_C a0 a1 res) : FnV Try.prog 40 [.agg (eFrame false a0), ai a1] (ai res) := by
 unfold laws_szFrame_C at h
 refine FnS.go (fn := Try.f40) [(0, .agg (eFrame false a0)), (1, ai a1)] Try.func40 ?_
 show WpS _ (nv laws_szFrame_b 1) _ ⟨mkS 24 [(0, .agg (eFrame false a0)), (1, ai a1)], [], []⟩
 refine cRN [] 0 [(4, ai 0), (2, ap 2 0)] [0, 1, 1] [0, 1, 1] [(2, (eFrame false a0))] [] ?_
 obtain ⟨q26, h⟩ := h
 refine cSeqM [(1, ai (szL a0.occ a1))] [1] (True) ?_ (fun q2 => ?_)
 ·
  replace h := q26
  refine rgS [] 1 ?_
  have q3 := h
  refine sCallV 4 (some 8) [(7, ai a1), (6, al eBool a0.occ), (5, ap 2 1)] [al eBool a0.occ, ai a1] (laws_szBoolS_V a0.occ a1 q3) (PW.cons (Snap2.of1 sa_lst) (PW.cons (Snap2.of1 (.int _ _)) PW.nil)) ?_
  exact sEJ [(1, ai (szL a0.occ a1))] trivial
 obtain ⟨q25, h⟩ := h
 refine cSeqM [] [2] ((!(decide ((szL a0.occ a1) < 0))) = true) ?_ (fun q4 => ?_)
 ·
  replace h := q25
  refine cRM [] 2 [(10, ab (decide ((szL a0.occ a1) < 0))), (9, ai (szL a0.occ a1))] [1] [2] ?_
  refine cCond1 (fun q6 => ?_) (fun q6 => ?_)
  ·
   replace h := h q6
   refine cRM [] 3 [(4, ai (-1))] [1] [] ?_
   exact cRet (QJoin.ret (rt1 (ai (-1)) (SnapR3.of1 (sr_int h))))
  ·
   refine cSkip ?_
   exact QJoin.normal (by simp only [q6] <;> rfl) wkJ
 replace h := h q4
 obtain ⟨q24, h⟩ := h
 refine cSeqM [(1, ai (szL a0.points (szL a0.occ a1)))] [0, 1, 1] (True) ?_ (fun q8 => ?_)
 ·
  replace h := q24
  refine rgS [] 4 ?_
  have q9 := h
  refine sCallV 4 (some 14) [(13, ai (szL a0.occ a1)), (12, al ePoint a0.points), (11, ap 2 2)] [al ePoint a0.points, ai (szL a0.occ a1)] (laws_szPointS_V a0.points (szL a0.occ a1) q9) (PW.cons (Snap2.of1 sa_lst) (PW.cons (Snap2.of1 (.int _ _)) PW.nil)) ?_
  exact sEJ [(1, ai (szL a0.points (szL a0.occ a1)))] trivial
 unfold laws_szFrame_C1 at h
 obtain ⟨q23, h⟩ := h
 refine cSeqM [] [2] ((!(decide ((szL a0.points (szL a0.occ a1)) < 0))) = true) ?_ (fun q10 => ?_)
 ·
  replace h := q23
  refine cRM [] 5 [(16, ab (decide ((szL a0.points (szL a0.occ a1)) < 0))), (15, ai (szL a0.points (szL a0.occ a1)))] [1] [2] ?_
  refine cCond1 (fun q12 => ?_) (fun q12 => ?_)
  ·
   replace h := h q12
   refine cRM [] 6 [(4, ai (-1))] [1] [] ?_
   exact cRet (QJoin.ret (rt1 (ai (-1)) (SnapR3.of1 (sr_int h))))
  ·
   refine cSkip ?_
   exact QJoin.normal (by simp only [q4, q12] <;> rfl) wkJ
 replace h := h q10
 obtain ⟨q22, h⟩ := h
 refine cSeqM [(1, ai (szHelds a0.ways (szL a0.points (szL a0.occ a1))))] [] (True) ?_ (fun q14 => ?_)
 ·
  replace h := q22
  refine rgS [] 7 ?_
  have q15 := h
  refine sCallV 4 (some 20) [(19, ai (szL a0.points (szL a0.occ a1))), (18, al (eHeld false) a0.ways), (17, ap 2 3)] [al (eHeld false) a0.ways, ai (szL a0.points (szL a0.occ a1))] (laws_szHeldS_V a0.ways (szL a0.points (szL a0.occ a1)) q15) (PW.cons (Snap2.of1 sa_lst) (PW.cons (Snap2.of1 (.int _ _)) PW.nil)) ?_
  exact sEJ [(1, ai (szHelds a0.ways (szL a0.points (szL a0.occ a1))))] trivial
 obtain ⟨q21, h⟩ := h
 refine cSeqM [] [1] ((!(decide ((szHelds a0.ways (szL a0.points (szL a0.occ a1))) < 0))) = true) ?_ (fun q16 => ?_)
 ·
  replace h := q21
  refine cRM [] 8 [(22, ab (decide ((szHelds a0.ways (szL a0.points (szL a0.occ a1))) < 0))), (21, ai (szHelds a0.ways (szL a0.points (szL a0.occ a1))))] [1] [1] ?_
  refine cCond1 (fun q18 => ?_) (fun q18 => ?_)
  ·
   replace h := h q18
   refine cRM [] 9 [(4, ai (-1))] [1] [] ?_
   exact cRet (QJoin.ret (rt1 (ai (-1)) (SnapR3.of1 (sr_int h))))
  ·
   refine cSkip ?_
   exact QJoin.normal (by simp only [q4, q10, q18] <;> rfl) wkJ
 replace h := h q16
 refine cRM [] 10 [(4, ai (szHelds a0.ways (szL a0.points (szL a0.occ a1)))), (23, ai (szHelds a0.ways (szL a0.points (szL a0.occ a1))))] [1] [] ?_
 exact cRet (rt1 (ai (szHelds a0.ways (szL a0.points (szL a0.occ a1)))) (SnapR3.of1 (sr_int h)))

theorem laws_szFrame_V (a0 : Frame) (a1 : Int) (hp : okL a0 a1) : FnV Try.prog 40 [.agg (eFrame false a0), ai a1] (ai (szFrame a0 a1)) := laws_szFrame_walk a0 a1 (szFrame a0 a1) (by
 unfold laws_szFrame_C laws_szFrame_C1 szFrame frameN szL szHelds
 have hp : 0 ≤ a1 ∧ a1 ≤ 1048576 := hp
 refine ⟨hp, sz_step (m := a0.points.length + heldsN a0.ways) hp (by omega) fun c k => ⟨k, ?_⟩⟩
 rw [lessN_plus hp.1 c]
 refine sz_step (m := heldsN a0.ways) hp (by omega) fun c k => ⟨k, ?_⟩
 rw [lessN_plus hp.1 c]
 exact sz_step (m := 0) hp (by omega) fun c k => rfl)

noncomputable def laws_toPoint_b : Code := bodyC Try.f141
def laws_toPoint_C (a0 : Point) (res : Point) : Prop :=
 (a0.want = res.want) ∧ (a0.lies = res.lies)
theorem laws_toPoint_walk (a0 : Point) (res : Point) (h : laws_toPoint_C a0 res) : FnV Try.prog 141 [.agg (ePoint a0)] (.agg (ePoint res)) := by
 unfold laws_toPoint_C at h
 refine FnS.go (fn := Try.f141) [(0, .agg (ePoint a0))] Try.func141 ?_
 show WpS _ (nv laws_toPoint_b 1) _ ⟨mkS 11 [(0, .agg (ePoint a0))], [], []⟩
 refine cRN [] 0 [(2, ap 2 0), (1, ap 1 0)] [2] [] [(2, [ai 0, ai 0]), (1, (ePoint a0))] [] ?_
 refine cRE [] 1 [(3, ap 3 0)] [1] [2] (fun L => (3, [ai 0, ai 0]) :: L) id ?_
 refine cRE [] 2 [(6, ap 3 0), (5, ai a0.want), (4, ap 1 0)] [] [3] (fun L => ed 0 0 (ai a0.want) L) id ?_
 refine cRE [] 3 [(9, ap 3 1), (8, ai a0.lies), (7, ap 1 1)] [] [2] (fun L => er 0 (ePoint a0) L) id ?_
 refine cRE [] 4 [(10, .agg (ePoint a0))] [] [0, 1, 1] (fun L => er 1 (ePoint a0) L) id ?_
 exact cRet (rt1 (.agg (ePoint a0)) (SnapR3.agg (PW.cons (sr_int h.1) (PW.cons (sr_int h.2) PW.nil))))

theorem laws_toPoint_V (a0 : Point) : FnV Try.prog 141 [.agg (ePoint a0)] (.agg (ePoint (idt a0))) := laws_toPoint_walk a0 (idt a0) (by
 exact ⟨rfl, rfl⟩)

noncomputable def laws_toPointS_b : Code := bodyC Try.f101
def laws_toPointS_C1 (I0 : (List Point) → Int → Prop) (m0 : (List Point) → Int → Nat) (a0 res : (List Point)) : Prop :=
  I0 (List.replicate (a0.length : Int).toNat ({ want := (0 : Int), lies := (0 : Int) } : Point)) 0 ∧ ∀ (x0 : (List Point)) (v4 : Int), I0 x0 v4 → (((decide (v4 < (a0.length : Int))) = false → x0.length ≤ 4611686018427387904 ∧ x0 = res) ∧ ((decide (v4 < (a0.length : Int))) = true → ((0 ≤ v4 ∧ v4.toNat < a0.length) ∧ (0 ≤ v4 ∧ v4.toNat < x0.length)) ∧ (I0 (x0.set v4.toNat (idt (nth a0 v4))) (IntKind.i64.wrap (v4 + 1)) ∧ m0 (x0.set v4.toNat (idt (nth a0 v4))) (IntKind.i64.wrap (v4 + 1)) < m0 x0 v4)))
def laws_toPointS_C (a0 : (List Point)) (res : (List Point)) (I0 : (List Point) → Int → Prop) (m0 : (List Point) → Int → Nat) : Prop :=
 (a0.length ≤ 4611686018427387904 → 0 ≤ (a0.length : Int) ∧ 16 * (a0.length : Int) ≤ 140737488355328 ∧ (a0.length : Int) ≤ 4611686018427387904) ∧ (a0.length ≤ 4611686018427387904 → laws_toPointS_C1 I0 m0 a0 res)
theorem laws_toPointS_walk (a0 : (List Point)) (res : (List Point)) (I0 : (List Point) → Int → Prop) (m0 : (List Point) → Int → Nat) (h : laws_toPointS_C a0 res I0 m0) : FnV Try.prog 101 [al ePoint a0] (af ePoint res) := by
 unfold laws_toPointS_C at h
 refine FnS.go (fn := Try.f101) [(0, al ePoint a0)] Try.func101 ?_
 show WpS _ (nv laws_toPointS_b 1) _ ⟨mkS 23 [(0, al ePoint a0)], [], []⟩
 refine cRM [] 0 [(2, an)] [] [1] ?_
 obtain ⟨q16, h⟩ := h
 refine cSeqN [(3, rf 0 0 ((List.replicate (a0.length : Int).toNat ({ want := (0 : Int), lies := (0 : Int) } : Point)).length))] [1] [] [⟨0, 2, List.map ePoint (List.replicate (a0.length : Int).toNat ({ want := (0 : Int), lies := (0 : Int) } : Point))⟩] (a0.length ≤ 4611686018427387904) ?_ (fun q2 => ?_)
 ·
  replace h := q16
  refine rgS [] 1 ?_
  refine sLen 2 (some 6) [(5, al ePoint a0)] ePoint a0 (fun q3 => ?_)
  replace h := h q3
  have q4 := h
  refine sMks 1 (some 7) [] ePoint 16 [ai 0, ai 0] 0 (fun r => [⟨0, 2, r⟩]) ({ want := (0 : Int), lies := (0 : Int) } : Point) q4 ?_
  exact sEJ [(3, rf 0 0 ((List.replicate (a0.length : Int).toNat ({ want := (0 : Int), lies := (0 : Int) } : Point)).length))] q3
 replace h := h q2
 refine cSeq ?_
 refine cRM [] 2 [(4, ai 0)] [1] [2] ?_
 unfold laws_toPointS_C1 at h
 refine cBlock 0 ?_
 obtain ⟨q15, h⟩ := h
 refine cLoop (fun (v : (List Point) × Int) => (⟨(mkS 23 [(0, al ePoint a0), (3, rf 0 0 ((v.1).length)), (4, ai (v.2))]), [], [⟨0, 2, List.map ePoint (v.1)⟩]⟩ : St)) (fun (v : (List Point) × Int) => I0 (v.1) (v.2)) (fun (v : (List Point) × Int) => m0 (v.1) (v.2)) ((List.replicate (a0.length : Int).toNat ({ want := (0 : Int), lies := (0 : Int) } : Point)), 0) (wkL []) q15 (fun v hI => ?_)
 obtain ⟨x0, v4⟩ := v
 replace h := h x0 v4 hI
 dsimp only
 obtain ⟨q14, h⟩ := h
 refine cSeqM [] [3] ((decide (v4 < (a0.length : Int))) = true) ?_ (fun q6 => ?_)
 ·
  replace h := q14
  refine cSeqM [(11, ab (decide (v4 < (a0.length : Int))))] [3] (True) ?_ (fun q7 => ?_)
  ·
   refine rgS [] 3 ?_
   refine sLen 3 (some 10) [(9, al ePoint a0), (8, ai v4)] ePoint a0 (fun q8 => ?_)
   exact sEJ [(11, ab (decide (v4 < (a0.length : Int))))] trivial
  refine cCond1 (fun q9 => ?_) (fun q9 => ?_)
  ·
   refine cSkip ?_
   exact QJoin.normal (by simp only [q9] <;> rfl) wkJ
  ·
   replace h := h q9
   refine cExit 0 ?_
   refine QJoin.exit ?_
   refine QRound.exit ?_
   refine QBlock.here ?_
   refine QSeq.normal ?_
   refine cSeqG ⟨(mkS 23 [(2, rf 0 0 x0.length)]), [], [⟨0, 2, List.map ePoint x0⟩]⟩ (True) ?_ (fun q10 => ?_)
   ·
    refine rgS [] 6 ?_
    exact sEJ [(2, rf 0 0 x0.length), (22, rf 0 0 x0.length)] trivial
   exact cRet (rt1 (rf 0 0 x0.length) (SnapR3.of1 (sr_blk' (sz := 2) (by simp) rfl (cPoint) h)))
 replace h := h q6
 obtain ⟨q13, h⟩ := h
 refine cSeqN [] [3] [] [⟨0, 2, List.map ePoint (x0.set v4.toNat (idt (nth a0 v4)))⟩] (True) ?_ (fun q11 => ?_)
 ·
  replace h := q13
  refine cBlock 1 ?_
  refine rgS [] 5 ?_
  obtain ⟨q12, h⟩ := h
  refine sIdx 5 (some 18) [(17, ai v4), (16, al ePoint a0), (15, ai v4), (14, rf 0 0 x0.length)] ePoint a0 2 q12 ?_
  refine sCallV 2 (some 20) [(19, .agg (ePoint (nth a0 v4)))] [.agg (ePoint (nth a0 v4))] (laws_toPoint_V (nth a0 v4)) (PW.cons (Snap2.agg (PW.cons (.int _ _) (PW.cons (.int _ _) PW.nil))) PW.nil) ?_
  have z21_932 := h
  refine sAdr 1 (some 21) [] 0 0 2 z21_932 ?_
  refine sStBj 1 none [] ePoint x0 v4 0 2 0 (ePoint (idt (nth a0 v4))) 0 (idt (nth a0 v4)) (by simpa using z21_932.2) ?_
  refine sEnd [] ?_
  refine QBlock.normal ?_
  exact QJoin.normal trivial wkJ
 refine rgS [] 4 ?_
 refine sEnd [(4, ai (IntKind.i64.wrap (v4 + 1))), (13, ai (IntKind.i64.wrap (v4 + 1))), (12, ai v4)] ?_
 exact QRound.again ((x0.set v4.toNat (idt (nth a0 v4))), (IntKind.i64.wrap (v4 + 1))) h (weak_eq (s' := ⟨(mkS 23 [(0, al ePoint a0), (3, rf 0 0 x0.length), (4, ai (IntKind.i64.wrap (v4 + 1)))]), [], [⟨0, 2, List.map ePoint (x0.set v4.toNat (idt (nth a0 v4)))⟩]⟩) (wkL (n := 23) (A' := [(0, al ePoint a0), (3, rf 0 0 x0.length), (4, ai (IntKind.i64.wrap (v4 + 1)))]) (L' := []) []) (congrArg (fun z => (⟨(mkS 23 [(0, al ePoint a0), (3, rf 0 0 z), (4, ai (IntKind.i64.wrap (v4 + 1)))]), [], [⟨0, 2, List.map ePoint (x0.set v4.toNat (idt (nth a0 v4)))⟩]⟩ : St)) (show x0.length = (x0.set v4.toNat (idt (nth a0 v4))).length by simp)))

theorem laws_toPointS_V (a0 : (List Point)) (hp : small a0) : FnV Try.prog 101 [al ePoint a0] (af ePoint (idt a0)) := laws_toPointS_walk a0 (idt a0) (fillI a0 idt ({ want := (0 : Int), lies := (0 : Int) } : Point)) (fillM a0) (by
 unfold laws_toPointS_C laws_toPointS_C1
 have hp : a0.length ≤ 1048576 := hp
 exact ⟨fun hn => ⟨len0 _, by omega, by omega⟩, fun hn => fill_loop0 (f := idt) hn (map_idt _)⟩)

noncomputable def laws_toHeld_b : Code := bodyC Try.f142
def laws_toHeld_C (a0 : Held) (res : Held) : Prop :=
 (small a0.been) ∧ ((a0.state = res.state) ∧ (a0.gone = res.gone) ∧ ((idt a0.been) = res.been) ∧ (a0.shown = res.shown) ∧ (a0.timer = res.timer))
theorem laws_toHeld_walk (a0 : Held) (res : Held) (h : laws_toHeld_C a0 res) : FnV Try.prog 142 [.agg (eHeld false a0)] (.agg (eHeld true res)) := by
 unfold laws_toHeld_C at h
 refine FnS.go (fn := Try.f142) [(0, .agg (eHeld false a0))] Try.func142 ?_
 show WpS _ (nv laws_toHeld_b 1) _ ⟨mkS 21 [(0, .agg (eHeld false a0))], [], []⟩
 refine cRN [] 0 [(2, ap 2 0), (1, ap 1 0)] [2] [] [(2, [ai 0, ai 0, an, ab false, ai 0]), (1, (eHeld false a0))] [] ?_
 refine cRE [] 1 [(3, ap 3 0)] [1] [2] (fun L => (3, [ai 0, ai 0, an, ab false, ai 0]) :: L) id ?_
 refine cRE [] 2 [(6, ap 3 0), (5, ai a0.state), (4, ap 1 0)] [] [3] (fun L => ed 0 0 (ai a0.state) L) id ?_
 refine cRE [] 3 [(9, ap 3 1), (8, ai a0.gone), (7, ap 1 1)] [] [3] (fun L => ed 0 1 (ai a0.gone) L) id ?_
 obtain ⟨q10, h⟩ := h
 refine cSeqE [] [3] (fun L => ed 0 2 (af eBool (idt a0.been)) L) id (True) ?_ (fun q5 => ?_)
 ·
  replace h := q10
  refine rgS [] 4 ?_
  have q6 := h
  refine sCallV 3 (some 12) [(11, al eBool a0.been), (10, ap 1 2)] [al eBool a0.been] (laws_toBoolS_V a0.been q6) (PW.cons (Snap2.of1 sa_lst) PW.nil) ?_
  exact sEJ [(13, ap 3 2)] trivial
 refine cRE [] 5 [(16, ap 3 3), (15, ab a0.shown), (14, ap 1 3)] [] [3] (fun L => ed 0 3 (ab a0.shown) L) id ?_
 refine cRE [] 6 [(19, ap 3 4), (18, ai a0.timer), (17, ap 1 4)] [] [2] (fun L => ed 0 4 (ai a0.timer) L) id ?_
 refine cRE [] 7 [(20, .agg [ai a0.state, ai a0.gone, af eBool (idt a0.been), ab a0.shown, ai a0.timer])] [] [0, 1, 1] (fun L => er 1 [ai a0.state, ai a0.gone, af eBool (idt a0.been), ab a0.shown, ai a0.timer] L) id ?_
 exact cRet (rt1 (.agg [ai a0.state, ai a0.gone, af eBool (idt a0.been), ab a0.shown, ai a0.timer]) (SnapR3.agg (PW.cons (sr_int h.1) (PW.cons (sr_int h.2.1) (PW.cons (sr_lst h.2.2.1) (PW.cons (sr_bool h.2.2.2.1) (PW.cons (sr_int h.2.2.2.2) PW.nil)))))))

theorem laws_toHeld_V (a0 : Held) (hp : smallH a0) : FnV Try.prog 142 [.agg (eHeld false a0)] (.agg (eHeld true (idt a0))) := laws_toHeld_walk a0 (idt a0) (by
 exact ⟨hp, rfl, rfl, rfl, rfl, rfl⟩)

noncomputable def laws_toHeldS_b : Code := bodyC Try.f102
def laws_toHeldS_C1 (I0 : (List Held) → Int → Prop) (m0 : (List Held) → Int → Nat) (a0 res : (List Held)) : Prop :=
  I0 (List.replicate (a0.length : Int).toNat ({ state := (0 : Int), gone := (0 : Int), been := ([] : (List Bool)), shown := false, timer := (0 : Int) } : Held)) 0 ∧ ∀ (x0 : (List Held)) (v4 : Int), I0 x0 v4 → (((decide (v4 < (a0.length : Int))) = false → x0.length ≤ 4611686018427387904 ∧ x0 = res) ∧ ((decide (v4 < (a0.length : Int))) = true → ((0 ≤ v4 ∧ v4.toNat < a0.length) ∧ ((smallH (nth a0 v4)) ∧ (0 ≤ v4 ∧ v4.toNat < x0.length))) ∧ (I0 (x0.set v4.toNat (idt (nth a0 v4))) (IntKind.i64.wrap (v4 + 1)) ∧ m0 (x0.set v4.toNat (idt (nth a0 v4))) (IntKind.i64.wrap (v4 + 1)) < m0 x0 v4)))
def laws_toHeldS_C (a0 : (List Held)) (res : (List Held)) (I0 : (List Held) → Int → Prop) (m0 : (List Held) → Int → Nat) : Prop :=
 (a0.length ≤ 4611686018427387904 → 0 ≤ (a0.length : Int) ∧ 56 * (a0.length : Int) ≤ 140737488355328 ∧ (a0.length : Int) ≤ 4611686018427387904) ∧ (a0.length ≤ 4611686018427387904 → laws_toHeldS_C1 I0 m0 a0 res)
theorem laws_toHeldS_walk (a0 : (List Held)) (res : (List Held)) (I0 : (List Held) → Int → Prop) (m0 : (List Held) → Int → Nat) (h : laws_toHeldS_C a0 res I0 m0) : FnV Try.prog 102 [al (eHeld false) a0] (af (eHeld false) res) := by
 unfold laws_toHeldS_C at h
 refine FnS.go (fn := Try.f102) [(0, al (eHeld false) a0)] Try.func102 ?_
 show WpS _ (nv laws_toHeldS_b 1) _ ⟨mkS 23 [(0, al (eHeld false) a0)], [], []⟩
 refine cRM [] 0 [(2, an)] [] [1] ?_
 obtain ⟨q17, h⟩ := h
 refine cSeqN [(3, rf 0 0 ((List.replicate (a0.length : Int).toNat ({ state := (0 : Int), gone := (0 : Int), been := ([] : (List Bool)), shown := false, timer := (0 : Int) } : Held)).length))] [1] [] [⟨0, 5, List.map (eHeld true) (List.replicate (a0.length : Int).toNat ({ state := (0 : Int), gone := (0 : Int), been := ([] : (List Bool)), shown := false, timer := (0 : Int) } : Held))⟩] (a0.length ≤ 4611686018427387904) ?_ (fun q2 => ?_)
 ·
  replace h := q17
  refine rgS [] 1 ?_
  refine sLen 2 (some 6) [(5, al (eHeld false) a0)] (eHeld false) a0 (fun q3 => ?_)
  replace h := h q3
  have q4 := h
  refine sMks 1 (some 7) [] (eHeld true) 56 [ai 0, ai 0, .lst [] false true, ab false, ai 0] 0 (fun r => [⟨0, 5, r⟩]) ({ state := (0 : Int), gone := (0 : Int), been := ([] : (List Bool)), shown := false, timer := (0 : Int) } : Held) q4 ?_
  exact sEJ [(3, rf 0 0 ((List.replicate (a0.length : Int).toNat ({ state := (0 : Int), gone := (0 : Int), been := ([] : (List Bool)), shown := false, timer := (0 : Int) } : Held)).length))] q3
 replace h := h q2
 refine cSeq ?_
 refine cRM [] 2 [(4, ai 0)] [1] [2] ?_
 unfold laws_toHeldS_C1 at h
 refine cBlock 0 ?_
 obtain ⟨q16, h⟩ := h
 refine cLoop (fun (v : (List Held) × Int) => (⟨(mkS 23 [(0, al (eHeld false) a0), (3, rf 0 0 ((v.1).length)), (4, ai (v.2))]), [], [⟨0, 5, List.map (eHeld true) (v.1)⟩]⟩ : St)) (fun (v : (List Held) × Int) => I0 (v.1) (v.2)) (fun (v : (List Held) × Int) => m0 (v.1) (v.2)) ((List.replicate (a0.length : Int).toNat ({ state := (0 : Int), gone := (0 : Int), been := ([] : (List Bool)), shown := false, timer := (0 : Int) } : Held)), 0) (wkL []) q16 (fun v hI => ?_)
 obtain ⟨x0, v4⟩ := v
 replace h := h x0 v4 hI
 dsimp only
 obtain ⟨q15, h⟩ := h
 refine cSeqM [] [3] ((decide (v4 < (a0.length : Int))) = true) ?_ (fun q6 => ?_)
 ·
  replace h := q15
  refine cSeqM [(11, ab (decide (v4 < (a0.length : Int))))] [3] (True) ?_ (fun q7 => ?_)
  ·
   refine rgS [] 3 ?_
   refine sLen 3 (some 10) [(9, al (eHeld false) a0), (8, ai v4)] (eHeld false) a0 (fun q8 => ?_)
   exact sEJ [(11, ab (decide (v4 < (a0.length : Int))))] trivial
  refine cCond1 (fun q9 => ?_) (fun q9 => ?_)
  ·
   refine cSkip ?_
   exact QJoin.normal (by simp only [q9] <;> rfl) wkJ
  ·
   replace h := h q9
   refine cExit 0 ?_
   refine QJoin.exit ?_
   refine QRound.exit ?_
   refine QBlock.here ?_
   refine QSeq.normal ?_
   refine cSeqG ⟨(mkS 23 [(2, rf 0 0 x0.length)]), [], [⟨0, 5, List.map (eHeld true) x0⟩]⟩ (True) ?_ (fun q10 => ?_)
   ·
    refine rgS [] 6 ?_
    exact sEJ [(2, rf 0 0 x0.length), (22, rf 0 0 x0.length)] trivial
   exact cRet (rt1 (rf 0 0 x0.length) (SnapR3.of1 (sr_blk' (sz := 5) (by simp) rfl (cHeld) h)))
 replace h := h q6
 obtain ⟨q14, h⟩ := h
 refine cSeqN [] [3] [] [⟨0, 5, List.map (eHeld true) (x0.set v4.toNat (idt (nth a0 v4)))⟩] (True) ?_ (fun q11 => ?_)
 ·
  replace h := q14
  refine cBlock 1 ?_
  refine rgS [] 5 ?_
  obtain ⟨q13, h⟩ := h
  refine sIdx 5 (some 18) [(17, ai v4), (16, al (eHeld false) a0), (15, ai v4), (14, rf 0 0 x0.length)] (eHeld false) a0 5 q13 ?_
  obtain ⟨q12, h⟩ := h
  refine sCallV 2 (some 20) [(19, .agg (eHeld false (nth a0 v4)))] [.agg (eHeld false (nth a0 v4))] (laws_toHeld_V (nth a0 v4) q12) (PW.cons (Snap2.agg (PW.cons (.int _ _) (PW.cons (.int _ _) (PW.cons sa_lst (PW.cons (.bool _) (PW.cons (.int _ _) PW.nil)))))) PW.nil) ?_
  have z21_932 := h
  refine sAdr 1 (some 21) [] 0 0 5 z21_932 ?_
  refine sStBj 1 none [] (eHeld true) x0 v4 0 5 0 (eHeld true (idt (nth a0 v4))) 0 (idt (nth a0 v4)) (by simpa using z21_932.2) ?_
  refine sEnd [] ?_
  refine QBlock.normal ?_
  exact QJoin.normal trivial wkJ
 refine rgS [] 4 ?_
 refine sEnd [(4, ai (IntKind.i64.wrap (v4 + 1))), (13, ai (IntKind.i64.wrap (v4 + 1))), (12, ai v4)] ?_
 exact QRound.again ((x0.set v4.toNat (idt (nth a0 v4))), (IntKind.i64.wrap (v4 + 1))) h (weak_eq (s' := ⟨(mkS 23 [(0, al (eHeld false) a0), (3, rf 0 0 x0.length), (4, ai (IntKind.i64.wrap (v4 + 1)))]), [], [⟨0, 5, List.map (eHeld true) (x0.set v4.toNat (idt (nth a0 v4)))⟩]⟩) (wkL (n := 23) (A' := [(0, al (eHeld false) a0), (3, rf 0 0 x0.length), (4, ai (IntKind.i64.wrap (v4 + 1)))]) (L' := []) []) (congrArg (fun z => (⟨(mkS 23 [(0, al (eHeld false) a0), (3, rf 0 0 z), (4, ai (IntKind.i64.wrap (v4 + 1)))]), [], [⟨0, 5, List.map (eHeld true) (x0.set v4.toNat (idt (nth a0 v4)))⟩]⟩ : St)) (show x0.length = (x0.set v4.toNat (idt (nth a0 v4))).length by simp)))

theorem laws_toHeldS_V (a0 : (List Held)) (hp : smallHs a0) : FnV Try.prog 102 [al (eHeld false) a0] (af (eHeld false) (idt a0)) := laws_toHeldS_walk a0 (idt a0) (fillI a0 idt ({ state := (0 : Int), gone := (0 : Int), been := ([] : (List Bool)), shown := false, timer := (0 : Int) } : Held)) (fillM a0) (by
 unfold laws_toHeldS_C laws_toHeldS_C1
 have hp : a0.length + (a0.map fun h => h.been.length).sum ≤ 1048576 := hp
 refine ⟨fun hn => ⟨len0 _, by omega, by omega⟩, fun hn => fill_loop (f := idt) (φ := fun v => smallH (nth a0 v)) hn (map_idt _) fun v _ hv => ?_⟩
 have := mem_sum (fun h : Held => h.been.length) (nth_mem hv)
 unfold smallH; omega)

noncomputable def laws_toFrame_b : Code := bodyC Try.f42
def laws_toFrame_C (a0 : Frame) (res : Frame) : Prop :=
 (small a0.occ) ∧ ((small a0.points) ∧ ((smallHs a0.ways) ∧ ((a0.ok = res.ok) ∧ ((idt a0.occ) = res.occ) ∧ ((idt a0.points) = res.points) ∧ ((idt a0.ways) = res.ways))))
theorem laws_toFrame_walk (a0 : Frame) (res : Frame) (h : laws_toFrame_C a0 res) : FnV Try.prog 42 [.agg (eFrame false a0)] (.agg (eFrame true res)) := by
 unfold laws_toFrame_C at h
 refine FnS.go (fn := Try.f42) [(0, .agg (eFrame false a0))] Try.func42 ?_
 show WpS _ (nv laws_toFrame_b 1) _ ⟨mkS 20 [(0, .agg (eFrame false a0))], [], []⟩
 refine cRN [] 0 [(2, ap 2 0), (1, ap 1 0)] [2] [] [(2, [ab false, an, an, an]), (1, (eFrame false a0))] [] ?_
 refine cRE [] 1 [(3, ap 3 0)] [1] [2] (fun L => (3, [ab false, an, an, an]) :: L) id ?_
 refine cRE [] 2 [(6, ap 3 0), (5, ab a0.ok), (4, ap 1 0)] [] [3] (fun L => ed 0 0 (ab a0.ok) L) id ?_
 obtain ⟨q13, h⟩ := h
 refine cSeqE [] [3] (fun L => ed 0 1 (af eBool (idt a0.occ)) L) id (True) ?_ (fun q4 => ?_)
 ·
  replace h := q13
  refine rgS [] 3 ?_
  have q5 := h
  refine sCallV 3 (some 9) [(8, al eBool a0.occ), (7, ap 1 1)] [al eBool a0.occ] (laws_toBoolS_V a0.occ q5) (PW.cons (Snap2.of1 sa_lst) PW.nil) ?_
  exact sEJ [(10, ap 3 1)] trivial
 obtain ⟨q12, h⟩ := h
 refine cSeqE [] [3] (fun L => ed 0 2 (af ePoint (idt a0.points)) L) id (True) ?_ (fun q6 => ?_)
 ·
  replace h := q12
  refine rgS [] 4 ?_
  have q7 := h
  refine sCallV 3 (some 13) [(12, al ePoint a0.points), (11, ap 1 2)] [al ePoint a0.points] (laws_toPointS_V a0.points q7) (PW.cons (Snap2.of1 sa_lst) PW.nil) ?_
  exact sEJ [(14, ap 3 2)] trivial
 obtain ⟨q11, h⟩ := h
 refine cSeqE [] [2] (fun L => ed 0 3 (af (eHeld false) (idt a0.ways)) L) id (True) ?_ (fun q8 => ?_)
 ·
  replace h := q11
  refine rgS [] 5 ?_
  have q9 := h
  refine sCallV 3 (some 17) [(16, al (eHeld false) a0.ways), (15, ap 1 3)] [al (eHeld false) a0.ways] (laws_toHeldS_V a0.ways q9) (PW.cons (Snap2.of1 sa_lst) PW.nil) ?_
  exact sEJ [(18, ap 3 3)] trivial
 refine cRE [] 6 [(19, .agg [ab a0.ok, af eBool (idt a0.occ), af ePoint (idt a0.points), af (eHeld false) (idt a0.ways)])] [] [0, 1, 1] (fun L => er 1 [ab a0.ok, af eBool (idt a0.occ), af ePoint (idt a0.points), af (eHeld false) (idt a0.ways)] L) id ?_
 exact cRet (rt1 (.agg [ab a0.ok, af eBool (idt a0.occ), af ePoint (idt a0.points), af (eHeld false) (idt a0.ways)]) (SnapR3.agg (PW.cons (sr_bool h.1) (PW.cons (sr_lst h.2.1) (PW.cons (sr_lst h.2.2.1) (PW.cons (sr_lst h.2.2.2) PW.nil))))))

theorem laws_toFrame_V (a0 : Frame) (hp : smallFr a0) : FnV Try.prog 42 [.agg (eFrame false a0)] (.agg (eFrame true (idt a0))) := laws_toFrame_walk a0 (idt a0) (by
 have hp : a0.occ.length + a0.points.length + heldsN a0.ways ≤ 1048576 := hp
 unfold laws_toFrame_C small smallHs
 exact ⟨by omega, by omega, by omega, rfl, rfl, rfl, rfl⟩)

end Go.Proofs.Ytglpfccgmfhkdaa.Fw
