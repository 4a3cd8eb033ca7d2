/- Walks and summaries of functions, printed by a program of mine (tools/mk.py), with the proofs of what they owe. -/
import Derived.Test.YtglpfccgmfhkdaaProg
import Derived.Test.YtglpfccgmfhkdaaSpI
import Derived.Test.YtglpfccgmfhkdaaWkA
import Derived.Test.YtglpfccgmfhkdaaWkI
set_option linter.unusedVariables false
set_option maxRecDepth 100000
set_option maxHeartbeats 4000000
set_option linter.unusedSimpArgs false
namespace Go.Proofs.Ytglpfccgmfhkdaa.Fw
open Go
attribute [local irreducible] evS evSD WpS Weak Oper.looksAt
noncomputable def impl_is_b : Code := bodyC Try.f107
def impl_is_C (a0 : Int) (a1 : Int) (res : Bool) : Prop :=
 ((decide (a0 ≥ 0)) && (decide (a0 < a1))) = res
theorem impl_is_walk (a0 : Int) (a1 : Int) (res : Bool) (h : impl_is_C a0 a1 res) : FnV Try.prog 107 [ai a0, ai a1] (ab res) := by
 unfold impl_is_C at h
 refine FnS.go (fn := Try.f107) [(0, ai a0), (1, ai a1)] Try.func107 ?_
 show WpS _ (nv impl_is_b 1) _ ⟨mkS 12 [(0, ai a0), (1, ai a1)], [], []⟩
 refine cRM [] 0 [(4, ab false)] [] [2] ?_
 refine cSeqM [(4, ab ((decide (a0 ≥ 0)) && (decide (a0 < a1))))] [] (True) ?_ (fun q2 => ?_)
 ·
  refine rgS [] 1 ?_
  refine sCase1 3 7 (decide (a0 ≥ 0)) [(6, ab (decide (a0 ≥ 0))), (5, ai a0)] (fun q3 => ?_) (fun q3 => ?_)
  ·
   exact sEJ [(4, ab (decide (a0 < a1))), (11, ab (decide (a0 < a1))), (10, ab (decide (a0 < a1))), (9, ai a1), (8, ai a0)] trivial (by simp only [q3] <;> kernel_rfl)
  ·
   exact sEJ ([(4, ab false), (11, ab false)] ++ tz [10, 9, 8]) trivial (by simp only [q3] <;> kernel_rfl)
 exact cRet (rt1 (ab ((decide (a0 ≥ 0)) && (decide (a0 < a1)))) (SnapR3.of1 (sr_bool h)))

theorem impl_is_V (a0 : Int) (a1 : Int) : FnV Try.prog 107 [ai a0, ai a1] (ab (isIn a0 a1)) := impl_is_walk a0 a1 (isIn a0 a1) (by
 unfold impl_is_C isIn
 rfl)

noncomputable def spec_l3holds_b : Code := bodyC Try.f111
def spec_l3holds_C1 (I0 : Int → Prop) (m0 : Int → Nat) (a0 : Plan) (a1 : Frame) (a2 a3 : Int) (res : Bool) (v25 : Int) : Prop :=
  ((0 ≤ v25 ∧ v25.toNat < ((nth a0.ways a2).sections).length) ∧ ((((nth ((nth a0.ways a2).sections) v25) == a3) = true → 0 ≤ a2 ∧ a2.toNat < a1.ways.length) ∧ ((((nth ((nth a0.ways a2).sections) v25) == a3) && (decide (v25 ≥ ((nth a1.ways a2).gone)))) = true → true = res))) ∧ ((!(((nth ((nth a0.ways a2).sections) v25) == a3) && (decide (v25 ≥ ((nth a1.ways a2).gone))))) = true → I0 (IntKind.i64.wrap (v25 + 1)) ∧ m0 (IntKind.i64.wrap (v25 + 1)) < m0 v25)
def spec_l3holds_C2 (I0 : Int → Prop) (m0 : Int → Nat) (a0 : Plan) (a1 : Frame) (a2 a3 : Int) (res : Bool) : Prop :=
  ((0 ≤ a2 ∧ a2.toNat < a1.ways.length) ∧ ((((nth a1.ways a2).state) == 0) = true → false = res)) ∧ ((!(((nth a1.ways a2).state) == 0)) = true → (0 ≤ a2 ∧ a2.toNat < a0.ways.length) ∧ (((nth a0.ways a2).sections).length ≤ 4611686018427387904 → I0 0 ∧ ∀ (v25 : Int), I0 v25 → (((decide (v25 < (((nth a0.ways a2).sections).length : Int))) = false → false = res) ∧ ((decide (v25 < (((nth a0.ways a2).sections).length : Int))) = true → spec_l3holds_C1 I0 m0 a0 a1 a2 a3 res v25))))
def spec_l3holds_C (a0 : Plan) (a1 : Frame) (a2 : Int) (a3 : Int) (res : Bool) (I0 : Int → Prop) (m0 : Int → Nat) : Prop :=
 spec_l3holds_C2 I0 m0 a0 a1 a2 a3 res
theorem spec_l3holds_walk (a0 : Plan) (a1 : Frame) (a2 : Int) (a3 : Int) (res : Bool) (I0 : Int → Prop) (m0 : Int → Nat) (h : spec_l3holds_C a0 a1 a2 a3 res I0 m0) : FnV Try.prog 111 [.agg (ePlan false a0), .agg (eFrame false a1), ai a2, ai a3] (ab res) := by
 unfold spec_l3holds_C at h
 refine FnS.go (fn := Try.f111) [(0, .agg (ePlan false a0)), (1, .agg (eFrame false a1)), (2, ai a2), (3, ai a3)] Try.func111 ?_
 show WpS _ (nv spec_l3holds_b 1) _ ⟨mkS 44 [(0, .agg (ePlan false a0)), (1, .agg (eFrame false a1)), (2, ai a2), (3, ai a3)], [], []⟩
 refine cRN [] 0 [(8, ab false), (5, ap 5 0), (4, ap 4 0)] [0, 1, 2] [0, 2, 2] [(5, (eFrame false a1)), (4, (ePlan false a0))] [] ?_
 unfold spec_l3holds_C2 at h
 obtain ⟨q29, h⟩ := h
 refine cSeqM [] [4] ((!(((nth a1.ways a2).state) == 0)) = true) ?_ (fun q2 => ?_)
 ·
  replace h := q29
  obtain ⟨q7, h⟩ := h
  refine cSeqM [(17, ab (((nth a1.ways a2).state) == 0))] [4] (True) ?_ (fun q3 => ?_)
  ·
   replace h := q7
   refine rgS [] 1 ?_
   have q4 := h
   refine sIdx 4 (some 14) [(13, ai a2), (12, al (eHeld false) a1.ways), (11, ap 5 3)] (eHeld false) a1.ways 5 q4 ?_
   exact sEJ [(17, ab (((nth a1.ways a2).state) == 0)), (16, ai ((nth a1.ways a2).state)), (15, .rp (eHeld false (nth a1.ways a2)) 0)] trivial
  refine cCond1 (fun q5 => ?_) (fun q5 => ?_)
  ·
   replace h := h q5
   refine cRM [] 2 [(8, ab false)] [1] [] ?_
   exact cRet (QJoin.ret (rt1 (ab false) (SnapR3.of1 (sr_bool h))))
  ·
   refine cSkip ?_
   exact QJoin.normal (by simp only [q5] <;> rfl) wkJ
 replace h := h q2
 refine cSeq ?_
 obtain ⟨q28, h⟩ := h
 refine cSeqM [(23, al eInt ((nth a0.ways a2).sections)), (24, ai (((nth a0.ways a2).sections).length : Int)), (25, ai 0)] [1, 1, 2] (((nth a0.ways a2).sections).length ≤ 4611686018427387904) ?_ (fun q8 => ?_)
 ·
  replace h := q28
  refine rgS [] 3 ?_
  have q10 := h
  refine sIdx 4 (some 21) [(20, ai a2), (19, al (eWay false) a0.ways), (18, ap 4 2)] (eWay false) a0.ways 5 q10 ?_
  refine sLen 3 (some 24) [(23, al eInt ((nth a0.ways a2).sections)), (22, .rp (eWay false (nth a0.ways a2)) 0)] eInt ((nth a0.ways a2).sections) (fun q9 => ?_)
  exact sEJ [(25, ai 0)] q9
 replace h := h q8
 refine cBlock 0 ?_
 obtain ⟨q27, h⟩ := h
 refine cLoop (fun (v : Int) => (⟨(mkS 44 [(2, ai a2), (3, ai a3), (5, ap 5 0), (23, al eInt ((nth a0.ways a2).sections)), (24, ai (((nth a0.ways a2).sections).length : Int)), (25, ai v)]), [(5, (eFrame false a1))], []⟩ : St)) (fun (v : Int) => I0 v) (fun (v : Int) => m0 v) 0 (wkL [4]) q27 (fun v25 hI => ?_)
 replace h := h v25 hI
 refine cRM [] 4 [(26, ab (decide (v25 < (((nth a0.ways a2).sections).length : Int))))] [1] [6] ?_
 obtain ⟨q26, h⟩ := h
 refine cSeqM [] [0, 1, 6] ((decide (v25 < (((nth a0.ways a2).sections).length : Int))) = true) ?_ (fun q12 => ?_)
 ·
  replace h := q26
  refine cCond1 (fun q13 => ?_) (fun q13 => ?_)
  ·
   refine cSkip ?_
   exact QJoin.normal (by simp only [q2, q13] <;> rfl) wkJ
  ·
   replace h := h q13
   refine cExit 0 ?_
   refine QJoin.exit ?_
   refine QRound.exit ?_
   refine QBlock.here ?_
   refine QSeq.normal ?_
   refine cSeqG ⟨(mkS 44 [(8, ab false)]), [(5, (eFrame false a1))], []⟩ (True) ?_ (fun q14 => ?_)
   ·
    refine rgS [] 9 ?_
    exact sEJ [(8, ab false)] trivial
   exact cRet (rt1 (ab false) (SnapR3.of1 (sr_bool h)))
 replace h := h q12
 unfold spec_l3holds_C1 at h
 obtain ⟨q25, h⟩ := h
 refine cSeqM [] [6] ((!(((nth ((nth a0.ways a2).sections) v25) == a3) && (decide (v25 ≥ ((nth a1.ways a2).gone))))) = true) ?_ (fun q15 => ?_)
 ·
  replace h := q25
  refine cBlock 1 ?_
  obtain ⟨q24, h⟩ := h
  refine cSeqM [(9, ai v25), (10, ai (nth ((nth a0.ways a2).sections) v25))] [6] (True) ?_ (fun q16 => ?_)
  ·
   replace h := q24
   refine rgS [] 5 ?_
   have q17 := h
   refine sIdx 2 (some 28) [(27, ai v25)] eInt ((nth a0.ways a2).sections) 1 q17 ?_
   exact sEJ [(10, ai (nth ((nth a0.ways a2).sections) v25)), (9, ai v25), (29, ai (nth ((nth a0.ways a2).sections) v25))] trivial
  obtain ⟨q23, h⟩ := h
  refine cSeqM [(42, ab (((nth ((nth a0.ways a2).sections) v25) == a3) && (decide (v25 ≥ ((nth a1.ways a2).gone)))))] [0, 2, 6] (True) ?_ (fun q18 => ?_)
  ·
   replace h := q23
   refine rgS [] 6 ?_
   refine sCase1 4 33 ((nth ((nth a0.ways a2).sections) v25) == a3) [(32, ab ((nth ((nth a0.ways a2).sections) v25) == a3)), (31, ai a3), (30, ai (nth ((nth a0.ways a2).sections) v25))] (fun q19 => ?_) (fun q19 => ?_)
   ·
    replace h := h q19
    have q20 := h
    refine sIdx 5 (some 38) [(37, ai a2), (36, al (eHeld false) a1.ways), (35, ap 5 3), (34, ai v25)] (eHeld false) a1.ways 5 q20 ?_
    exact sEJ [(42, ab (decide (v25 ≥ ((nth a1.ways a2).gone)))), (41, ab (decide (v25 ≥ ((nth a1.ways a2).gone)))), (40, ai ((nth a1.ways a2).gone)), (39, .rp (eHeld false (nth a1.ways a2)) 1)] trivial (by simp only [q2, q12, q19] <;> kernel_rfl)
   ·
    exact sEJ ([(42, ab false)] ++ tz [41, 40, 39, 38, 37, 36, 35, 34]) trivial (by simp only [q2, q12, q19] <;> kernel_rfl)
  refine cCond1 (fun q21 => ?_) (fun q21 => ?_)
  ·
   replace h := h q21
   refine cRM [] 7 [(8, ab true)] [1] [] ?_
   exact cRet (QBlock.ret (QJoin.ret (QRound.ret (QBlock.ret (QSeq.ret (rt1 (ab true) (SnapR3.of1 (sr_bool h))))))))
  ·
   refine cSkip ?_
   refine QBlock.normal ?_
   exact QJoin.normal (by simp only [q2, q12, q21] <;> rfl) wkJ
 replace h := h q15
 refine rgS [] 8 ?_
 refine sEnd [(25, ai (IntKind.i64.wrap (v25 + 1))), (43, ai (IntKind.i64.wrap (v25 + 1)))] ?_
 exact QRound.again (IntKind.i64.wrap (v25 + 1)) h (wkL [])

theorem spec_l3holds_V (a0 : Plan) (a1 : Frame) (a2 : Int) (a3 : Int) (hp : holdsPre a0 a1 a2 a3) : FnV Try.prog 111 [.agg (ePlan false a0), .agg (eFrame false a1), ai a2, ai a3] (ab (holdsF a0 a1 a2 a3)) := spec_l3holds_walk a0 a1 a2 a3 (holdsF a0 a1 a2 a3) (upI (nth a0.ways a2).sections.length (fun k => ((nth (nth a0.ways a2).sections k) == a3) && (decide (k ≥ (nth a1.ways a2).gone)))) (upM (nth a0.ways a2).sections.length) (by
 unfold spec_l3holds_C spec_l3holds_C2
 obtain ⟨hf, h0, h1⟩ := hp
 have hw := hf.fr.ways
 have hlt : a2.toNat < a0.ways.length := by omega
 have hlt1 : a2.toNat < a1.ways.length := by omega
 have hg := hf.fr.gone _ (nth_mem hlt1)
 refine ⟨⟨⟨h0, hlt1⟩, fun h => ?_⟩, fun h => ⟨⟨h0, hlt⟩, fun hn => ⟨up_start (len0 _), fun v hI => ⟨fun hv => ?_, fun hv => ?_⟩⟩⟩⟩
 ·unfold holdsF
  rw [show ((nth a1.ways a2).state != 0) = false by simpa using h]; rfl
 ·have hs : ((nth a1.ways a2).state != 0) = true := by simpa using h
  unfold holdsF
  rw [hs, Bool.true_and, eq_comm, ← Bool.not_eq_true, drop_has]
  rintro ⟨k, hk, hl, he⟩
  have := up_end hI hv k (by omega) (by omega)
  rw [nth_nat hl, he] at this
  simp at this
  omega
 ·have hs : ((nth a1.ways a2).state != 0) = true := by simpa using h
  have hin := up_in hI hv
  unfold spec_l3holds_C1
  refine ⟨⟨hin, fun _ => ⟨h0, hlt1⟩, fun hb => ?_⟩, fun hb => up_step (lenI hn) hI hv (not_eq hb)⟩
  unfold holdsF
  rw [hs, Bool.true_and, eq_comm, drop_has]
  simp only [Bool.and_eq_true, beq_iff_eq, decide_eq_true_eq] at hb
  exact ⟨v.toNat, by omega, hin.2, by rw [← nth_eq hin.2]; exact hb.1⟩)

noncomputable def impl_has_b : Code := bodyC Try.f152
def impl_has_C (a0 : Plan) (a1 : Frame) (a2 : Int) (a3 : Int) (res : Bool) : Prop :=
 (0 ≤ a2 ∧ a2.toNat < a0.ways.length) ∧ (((0 ≤ a2 ∧ a2.toNat < a1.ways.length) ∧ ((((nth a1.ways a2).state) != 0) = true → 0 ≤ a2 ∧ a2.toNat < a1.ways.length)) ∧ (((((nth a1.ways a2).state) != 0) && ((decide ((idxInt ((nth a0.ways a2).sections) a3) ≥ ((nth a1.ways a2).gone))) && (decide ((idxInt ((nth a0.ways a2).sections) a3) ≥ 0)))) = res))
theorem impl_has_walk (a0 : Plan) (a1 : Frame) (a2 : Int) (a3 : Int) (res : Bool) (h : impl_has_C a0 a1 a2 a3 res) : FnV Try.prog 152 [.agg (ePlan false a0), .agg (eFrame false a1), ai a2, ai a3] (ab res) := by
 unfold impl_has_C at h
 refine FnS.go (fn := Try.f152) [(0, .agg (ePlan false a0)), (1, .agg (eFrame false a1)), (2, ai a2), (3, ai a3)] Try.func152 ?_
 show WpS _ (nv impl_has_b 1) _ ⟨mkS 39 [(0, .agg (ePlan false a0)), (1, .agg (eFrame false a1)), (2, ai a2), (3, ai a3)], [], []⟩
 refine cRN [] 0 [(8, ab false), (5, ap 5 0), (4, ap 4 0)] [0, 1, 2] [0, 2, 2] [(5, (eFrame false a1)), (4, (ePlan false a0))] [] ?_
 obtain ⟨q10, h⟩ := h
 refine cSeqM [(9, ai (idxInt ((nth a0.ways a2).sections) a3))] [1, 1, 1] (True) ?_ (fun q2 => ?_)
 ·
  replace h := q10
  refine rgS [] 1 ?_
  have q3 := h
  refine sIdx 4 (some 13) [(12, ai a2), (11, al (eWay false) a0.ways), (10, ap 4 2)] (eWay false) a0.ways 5 q3 ?_
  refine sCallV 4 (some 17) [(16, ai a3), (15, al eInt ((nth a0.ways a2).sections)), (14, .rp (eWay false (nth a0.ways a2)) 0)] [al eInt ((nth a0.ways a2).sections), ai a3] (slices_Index_int_V ((nth a0.ways a2).sections) a3) (PW.cons (Snap2.of1 sa_lst) (PW.cons (Snap2.of1 (.int _ _)) PW.nil)) ?_
  exact sEJ [(9, ai (idxInt ((nth a0.ways a2).sections) a3))] trivial
 obtain ⟨q9, h⟩ := h
 refine cSeqM [(8, ab ((((nth a1.ways a2).state) != 0) && ((decide ((idxInt ((nth a0.ways a2).sections) a3) ≥ ((nth a1.ways a2).gone))) && (decide ((idxInt ((nth a0.ways a2).sections) a3) ≥ 0)))))] [] (True) ?_ (fun q4 => ?_)
 ·
  replace h := q9
  refine rgS [] 2 ?_
  obtain ⟨q8, h⟩ := h
  refine sIdx 4 (some 21) [(20, ai a2), (19, al (eHeld false) a1.ways), (18, ap 5 3)] (eHeld false) a1.ways 5 q8 ?_
  refine sCase1 4 25 (((nth a1.ways a2).state) != 0) [(24, ab (((nth a1.ways a2).state) != 0)), (23, ai ((nth a1.ways a2).state)), (22, .rp (eHeld false (nth a1.ways a2)) 0)] (fun q5 => ?_) (fun q5 => ?_)
  ·
   replace h := h q5
   have q7 := h
   refine sIdx 5 (some 30) [(29, ai a2), (28, al (eHeld false) a1.ways), (27, ap 5 3), (26, ai (idxInt ((nth a0.ways a2).sections) a3))] (eHeld false) a1.ways 5 q7 ?_
   refine sCase1 5 35 (decide ((idxInt ((nth a0.ways a2).sections) a3) ≥ ((nth a1.ways a2).gone))) [(34, ab (decide ((idxInt ((nth a0.ways a2).sections) a3) ≥ ((nth a1.ways a2).gone)))), (33, ab (decide ((idxInt ((nth a0.ways a2).sections) a3) ≥ ((nth a1.ways a2).gone)))), (32, ai ((nth a1.ways a2).gone)), (31, .rp (eHeld false (nth a1.ways a2)) 1)] (fun q6 => ?_) (fun q6 => ?_)
   ·
    exact sEJ [(8, ab (decide ((idxInt ((nth a0.ways a2).sections) a3) ≥ 0))), (38, ab (decide ((idxInt ((nth a0.ways a2).sections) a3) ≥ 0))), (37, ab (decide ((idxInt ((nth a0.ways a2).sections) a3) ≥ 0))), (36, ai (idxInt ((nth a0.ways a2).sections) a3))] trivial (by simp only [q5, q6] <;> kernel_rfl)
   ·
    exact sEJ ([(8, ab false), (38, ab false)] ++ tz [37, 36]) trivial (by simp only [q5, q6] <;> kernel_rfl)
  ·
   exact sEJ ([(8, ab false), (38, ab false)] ++ tz [37, 36] ++ [(35, ab false), (34, ab false)] ++ tz [33, 32, 31, 30, 29, 28, 27, 26]) trivial (by simp only [q5] <;> kernel_rfl)
 exact cRet (rt1 (ab ((((nth a1.ways a2).state) != 0) && ((decide ((idxInt ((nth a0.ways a2).sections) a3) ≥ ((nth a1.ways a2).gone))) && (decide ((idxInt ((nth a0.ways a2).sections) a3) ≥ 0))))) (SnapR3.of1 (sr_bool h)))

theorem impl_has_V (a0 : Plan) (a1 : Frame) (a2 : Int) (a3 : Int) (hp : holdsPre a0 a1 a2 a3) : FnV Try.prog 152 [.agg (ePlan false a0), .agg (eFrame false a1), ai a2, ai a3] (ab (holdsF a0 a1 a2 a3)) := impl_has_walk a0 a1 a2 a3 (holdsF a0 a1 a2 a3) (by
 unfold impl_has_C
 obtain ⟨hf, h0, h1⟩ := hp
 have hw := hf.fr.ways
 have hlt : a2.toNat < a0.ways.length := by omega
 have hlt1 : a2.toNat < a1.ways.length := by omega
 have hg := hf.fr.gone _ (nth_mem hlt1)
 refine ⟨⟨h0, hlt⟩, ⟨⟨h0, hlt1⟩, fun _ => ⟨h0, hlt1⟩⟩, ?_⟩
 unfold holdsF
 rw [has_eq (secs_nodup hf.good (nth_mem hlt)) hg.1])

noncomputable def impl_lockedBy_b : Code := bodyC Try.f112
def impl_lockedBy_C (a0 : Plan) (a1 : Frame) (a2 : Int) (res : Int) (I0 : Int → Prop) (m0 : Int → Nat) : Prop :=
 a0.ways.length ≤ 4611686018427387904 → I0 0 ∧ ∀ (v11 : Int), I0 v11 → (((decide (v11 < (a0.ways.length : Int))) = false → (-1) = res) ∧ ((decide (v11 < (a0.ways.length : Int))) = true → ((holdsPre a0 a1 v11 a2) ∧ ((holdsF a0 a1 v11 a2) = true → v11 = res)) ∧ ((!(holdsF a0 a1 v11 a2)) = true → I0 (IntKind.i64.wrap (v11 + 1)) ∧ m0 (IntKind.i64.wrap (v11 + 1)) < m0 v11)))
theorem impl_lockedBy_walk (a0 : Plan) (a1 : Frame) (a2 : Int) (res : Int) (I0 : Int → Prop) (m0 : Int → Nat) (h : impl_lockedBy_C a0 a1 a2 res I0 m0) : FnV Try.prog 112 [.agg (ePlan false a0), .agg (eFrame false a1), ai a2] (ai res) := by
 unfold impl_lockedBy_C at h
 refine FnS.go (fn := Try.f112) [(0, .agg (ePlan false a0)), (1, .agg (eFrame false a1)), (2, ai a2)] Try.func112 ?_
 show WpS _ (nv impl_lockedBy_b 1) _ ⟨mkS 21 [(0, .agg (ePlan false a0)), (1, .agg (eFrame false a1)), (2, ai a2)], [], []⟩
 refine cRN [] 0 [(6, ai 0), (4, ap 4 0), (3, ap 3 0)] [0, 1, 2] [0, 2, 1] [(4, (eFrame false a1)), (3, (ePlan false a0))] [] ?_
 refine cSeq ?_
 refine cSeqM [(10, ai (a0.ways.length : Int)), (11, ai 0)] [3] (a0.ways.length ≤ 4611686018427387904) ?_ (fun q2 => ?_)
 ·
  refine rgS [] 1 ?_
  refine sLen 3 (some 10) [(9, al (eWay false) a0.ways), (8, ap 3 2)] (eWay false) a0.ways (fun q3 => ?_)
  exact sEJ [(11, ai 0)] q3
 replace h := h q2
 refine cBlock 0 ?_
 obtain ⟨q17, h⟩ := h
 refine cLoop (fun (v : Int) => (⟨(mkS 21 [(2, ai a2), (3, ap 3 0), (4, ap 4 0), (10, ai (a0.ways.length : Int)), (11, ai v)]), [(4, (eFrame false a1)), (3, (ePlan false a0))], []⟩ : St)) (fun (v : Int) => I0 v) (fun (v : Int) => m0 v) 0 (wkL []) q17 (fun v11 hI => ?_)
 replace h := h v11 hI
 refine cRM [] 2 [(12, ab (decide (v11 < (a0.ways.length : Int))))] [1] [5] ?_
 obtain ⟨q16, h⟩ := h
 refine cSeqM [] [0, 1, 5] ((decide (v11 < (a0.ways.length : Int))) = true) ?_ (fun q5 => ?_)
 ·
  replace h := q16
  refine cCond1 (fun q6 => ?_) (fun q6 => ?_)
  ·
   refine cSkip ?_
   exact QJoin.normal (by simp only [q6] <;> rfl) wkJ
  ·
   replace h := h q6
   refine cExit 0 ?_
   refine QJoin.exit ?_
   refine QRound.exit ?_
   refine QBlock.here ?_
   refine QSeq.normal ?_
   refine cSeqG ⟨(mkS 21 [(6, ai (-1))]), [(4, (eFrame false a1)), (3, (ePlan false a0))], []⟩ (True) ?_ (fun q7 => ?_)
   ·
    refine rgS [] 7 ?_
    exact sEJ [(6, ai (-1))] trivial
   exact cRet (rt1 (ai (-1)) (SnapR3.of1 (sr_int h)))
 replace h := h q5
 obtain ⟨q15, h⟩ := h
 refine cSeqM [] [5] ((!(holdsF a0 a1 v11 a2)) = true) ?_ (fun q8 => ?_)
 ·
  replace h := q15
  refine cBlock 1 ?_
  refine cRM [] 3 [(7, ai v11), (13, ai v11)] [1] [5] ?_
  obtain ⟨q14, h⟩ := h
  refine cSeqM [(18, ab (holdsF a0 a1 v11 a2))] [6] (True) ?_ (fun q10 => ?_)
  ·
   replace h := q14
   refine rgS [] 4 ?_
   have q11 := h
   refine sCallV 5 (some 18) [(17, ai a2), (16, ai v11), (15, .agg (eFrame false a1)), (14, .agg (ePlan false a0))] [.agg (ePlan false a0), .agg (eFrame false a1), ai v11, ai a2] (impl_has_V a0 a1 v11 a2 q11) (PW.cons (Snap2.agg (PW.cons (.int _ _) (PW.cons sa_lst (PW.cons sa_lst (PW.cons sa_lst (PW.cons (.int _ _) PW.nil)))))) (PW.cons (Snap2.agg (PW.cons (.bool _) (PW.cons sa_lst (PW.cons sa_lst (PW.cons sa_lst PW.nil))))) (PW.cons (Snap2.of1 (.int _ _)) (PW.cons (Snap2.of1 (.int _ _)) PW.nil)))) ?_
   exact sEJ [] trivial
  refine cCond1 (fun q12 => ?_) (fun q12 => ?_)
  ·
   replace h := h q12
   refine cRM [] 5 [(6, ai v11), (19, ai v11)] [1] [] ?_
   exact cRet (QBlock.ret (QJoin.ret (QRound.ret (QBlock.ret (QSeq.ret (rt1 (ai v11) (SnapR3.of1 (sr_int h))))))))
  ·
   refine cSkip ?_
   refine QBlock.normal ?_
   exact QJoin.normal (by simp only [q5, q12] <;> rfl) wkJ
 replace h := h q8
 refine rgS [] 6 ?_
 refine sEnd [(11, ai (IntKind.i64.wrap (v11 + 1))), (20, ai (IntKind.i64.wrap (v11 + 1)))] ?_
 exact QRound.again (IntKind.i64.wrap (v11 + 1)) h (wkL [])

theorem impl_lockedBy_V (a0 : Plan) (a1 : Frame) (a2 : Int) (hp : lockPre a0 a1 a2) : FnV Try.prog 112 [.agg (ePlan false a0), .agg (eFrame false a1), ai a2] (ai (lockedByF a0 a1 a2)) := impl_lockedBy_walk a0 a1 a2 (lockedByF a0 a1 a2) (upI a0.ways.length (fun i => holdsF a0 a1 i a2)) (upM a0.ways.length) (by
 unfold impl_lockedBy_C
 have hf : Fit a0 a1 := hp
 intro hn
 refine ⟨up_start (len0 _), fun v hI => ⟨fun hv => ?_, fun hv => ⟨⟨⟨hf, (up_in hI hv).1, by simpa using hv⟩, fun hb => ?_⟩, fun hb => up_step (lenI hn) hI hv (not_eq hb)⟩⟩⟩
 ·unfold lockedByF; rw [range_none hI hv]; rfl
 ·unfold lockedByF; rw [range_some hI hv hb]
  have := hI.1
  show v = (v.toNat : Int); omega)

noncomputable def spec_LockedBy_b : Code := bodyC Try.f47
def spec_LockedBy_C1 (I0 : Int → Prop) (m0 : Int → Nat) (a0 : Plan) (a1 : Frame) (a2 res : Int) : Prop :=
  ((frameSm a0 a1) ∧ (((!(frameOk a0 a1)) || (!(inR a2 0 (IntKind.i64.wrap (a0.sections - 1))))) = true → (-1) = res)) ∧ ((!((!(frameOk a0 a1)) || (!(inR a2 0 (IntKind.i64.wrap (a0.sections - 1)))))) = true → a0.ways.length ≤ 4611686018427387904 → I0 0 ∧ ∀ (v23 : Int), I0 v23 → (((decide (v23 < (a0.ways.length : Int))) = false → (-1) = res) ∧ ((decide (v23 < (a0.ways.length : Int))) = true → ((holdsPre a0 a1 v23 a2) ∧ ((holdsF a0 a1 v23 a2) = true → v23 = res)) ∧ ((!(holdsF a0 a1 v23 a2)) = true → I0 (IntKind.i64.wrap (v23 + 1)) ∧ m0 (IntKind.i64.wrap (v23 + 1)) < m0 v23))))
def spec_LockedBy_C (a0 : Plan) (a1 : Frame) (a2 : Int) (res : Int) (I0 : Int → Prop) (m0 : Int → Nat) : Prop :=
 spec_LockedBy_C1 I0 m0 a0 a1 a2 res
theorem spec_LockedBy_walk (a0 : Plan) (a1 : Frame) (a2 : Int) (res : Int) (I0 : Int → Prop) (m0 : Int → Nat) (h : spec_LockedBy_C a0 a1 a2 res I0 m0) : FnV Try.prog 47 [.agg (ePlan false a0), .agg (eFrame false a1), ai a2] (ai res) := by
 unfold spec_LockedBy_C at h
 refine FnS.go (fn := Try.f47) [(0, .agg (ePlan false a0)), (1, .agg (eFrame false a1)), (2, ai a2)] Try.func47 ?_
 show WpS _ (nv spec_LockedBy_b 1) _ ⟨mkS 33 [(0, .agg (ePlan false a0)), (1, .agg (eFrame false a1)), (2, ai a2)], [], []⟩
 refine cRN [] 0 [(6, ai 0), (4, ap 4 0), (3, ap 3 0)] [0, 1, 2] [0, 2, 1] [(4, (eFrame false a1)), (3, (ePlan false a0))] [] ?_
 unfold spec_LockedBy_C1 at h
 obtain ⟨q25, h⟩ := h
 refine cSeqM [] [3] ((!((!(frameOk a0 a1)) || (!(inR a2 0 (IntKind.i64.wrap (a0.sections - 1)))))) = true) ?_ (fun q2 => ?_)
 ·
  replace h := q25
  obtain ⟨q8, h⟩ := h
  refine cSeqM [(19, ab ((!(frameOk a0 a1)) || (!(inR a2 0 (IntKind.i64.wrap (a0.sections - 1))))))] [3] (True) ?_ (fun q3 => ?_)
  ·
   replace h := q8
   refine rgS [] 1 ?_
   have q4 := h
   refine sCallV 3 (some 10) [(9, .agg (eFrame false a1)), (8, .agg (ePlan false a0))] [.agg (ePlan false a0), .agg (eFrame false a1)] (spec_FrameOk_V a0 a1 q4) (PW.cons (Snap2.agg (PW.cons (.int _ _) (PW.cons sa_lst (PW.cons sa_lst (PW.cons sa_lst (PW.cons (.int _ _) PW.nil)))))) (PW.cons (Snap2.agg (PW.cons (.bool _) (PW.cons sa_lst (PW.cons sa_lst (PW.cons sa_lst PW.nil))))) PW.nil)) ?_
   refine sCase1 2 12 (!(frameOk a0 a1)) [(11, ab (!(frameOk a0 a1)))] (fun q5 => ?_) (fun q5 => ?_)
   ·
    exact sEJ ([(19, ab true)] ++ tz [18, 17, 16, 15, 14, 13]) trivial (by simp only [q5] <;> kernel_rfl)
   ·
    refine sCallV 5 (some 17) [(16, ai (IntKind.i64.wrap (a0.sections - 1))), (15, ai a0.sections), (14, ap 3 0), (13, ai a2)] [ai a2, ai 0, ai (IntKind.i64.wrap (a0.sections - 1))] (spec_l1in_V a2 0 (IntKind.i64.wrap (a0.sections - 1))) (PW.cons (Snap2.of1 (.int _ _)) (PW.cons (Snap2.of1 (.int _ _)) (PW.cons (Snap2.of1 (.int _ _)) PW.nil))) ?_
    exact sEJ [(19, ab (!(inR a2 0 (IntKind.i64.wrap (a0.sections - 1))))), (18, ab (!(inR a2 0 (IntKind.i64.wrap (a0.sections - 1)))))] trivial (by simp only [q5] <;> kernel_rfl)
  refine cCond1 (fun q6 => ?_) (fun q6 => ?_)
  ·
   replace h := h q6
   refine cRM [] 2 [(6, ai (-1))] [1] [] ?_
   exact cRet (QJoin.ret (rt1 (ai (-1)) (SnapR3.of1 (sr_int h))))
  ·
   refine cSkip ?_
   exact QJoin.normal (by simp only [q6] <;> rfl) wkJ
 replace h := h q2
 refine cSeq ?_
 refine cSeqM [(22, ai (a0.ways.length : Int)), (23, ai 0)] [3] (a0.ways.length ≤ 4611686018427387904) ?_ (fun q9 => ?_)
 ·
  refine rgS [] 3 ?_
  refine sLen 3 (some 22) [(21, al (eWay false) a0.ways), (20, ap 3 2)] (eWay false) a0.ways (fun q10 => ?_)
  exact sEJ [(23, ai 0)] q10
 replace h := h q9
 refine cBlock 0 ?_
 obtain ⟨q24, h⟩ := h
 refine cLoop (fun (v : Int) => (⟨(mkS 33 [(2, ai a2), (3, ap 3 0), (4, ap 4 0), (22, ai (a0.ways.length : Int)), (23, ai v)]), [(4, (eFrame false a1)), (3, (ePlan false a0))], []⟩ : St)) (fun (v : Int) => I0 v) (fun (v : Int) => m0 v) 0 (wkL []) q24 (fun v23 hI => ?_)
 replace h := h v23 hI
 refine cRM [] 4 [(24, ab (decide (v23 < (a0.ways.length : Int))))] [1] [5] ?_
 obtain ⟨q23, h⟩ := h
 refine cSeqM [] [0, 1, 5] ((decide (v23 < (a0.ways.length : Int))) = true) ?_ (fun q12 => ?_)
 ·
  replace h := q23
  refine cCond1 (fun q13 => ?_) (fun q13 => ?_)
  ·
   refine cSkip ?_
   exact QJoin.normal (by simp only [q2, q13] <;> rfl) wkJ
  ·
   replace h := h q13
   refine cExit 0 ?_
   refine QJoin.exit ?_
   refine QRound.exit ?_
   refine QBlock.here ?_
   refine QSeq.normal ?_
   refine cSeqG ⟨(mkS 33 [(6, ai (-1))]), [(4, (eFrame false a1)), (3, (ePlan false a0))], []⟩ (True) ?_ (fun q14 => ?_)
   ·
    refine rgS [] 9 ?_
    exact sEJ [(6, ai (-1))] trivial
   exact cRet (rt1 (ai (-1)) (SnapR3.of1 (sr_int h)))
 replace h := h q12
 obtain ⟨q22, h⟩ := h
 refine cSeqM [] [5] ((!(holdsF a0 a1 v23 a2)) = true) ?_ (fun q15 => ?_)
 ·
  replace h := q22
  refine cBlock 1 ?_
  refine cRM [] 5 [(7, ai v23), (25, ai v23)] [1] [5] ?_
  obtain ⟨q21, h⟩ := h
  refine cSeqM [(30, ab (holdsF a0 a1 v23 a2))] [6] (True) ?_ (fun q17 => ?_)
  ·
   replace h := q21
   refine rgS [] 6 ?_
   have q18 := h
   refine sCallV 5 (some 30) [(29, ai a2), (28, ai v23), (27, .agg (eFrame false a1)), (26, .agg (ePlan false a0))] [.agg (ePlan false a0), .agg (eFrame false a1), ai v23, ai a2] (spec_l3holds_V a0 a1 v23 a2 q18) (PW.cons (Snap2.agg (PW.cons (.int _ _) (PW.cons sa_lst (PW.cons sa_lst (PW.cons sa_lst (PW.cons (.int _ _) PW.nil)))))) (PW.cons (Snap2.agg (PW.cons (.bool _) (PW.cons sa_lst (PW.cons sa_lst (PW.cons sa_lst PW.nil))))) (PW.cons (Snap2.of1 (.int _ _)) (PW.cons (Snap2.of1 (.int _ _)) PW.nil)))) ?_
   exact sEJ [] trivial
  refine cCond1 (fun q19 => ?_) (fun q19 => ?_)
  ·
   replace h := h q19
   refine cRM [] 7 [(6, ai v23), (31, ai v23)] [1] [] ?_
   exact cRet (QBlock.ret (QJoin.ret (QRound.ret (QBlock.ret (QSeq.ret (rt1 (ai v23) (SnapR3.of1 (sr_int h))))))))
  ·
   refine cSkip ?_
   refine QBlock.normal ?_
   exact QJoin.normal (by simp only [q2, q12, q19] <;> rfl) wkJ
 replace h := h q15
 refine rgS [] 8 ?_
 refine sEnd [(23, ai (IntKind.i64.wrap (v23 + 1))), (32, ai (IntKind.i64.wrap (v23 + 1)))] ?_
 exact QRound.again (IntKind.i64.wrap (v23 + 1)) h (wkL [])

theorem spec_LockedBy_V (a0 : Plan) (a1 : Frame) (a2 : Int) (hp : frameSm3 a0 a1 a2) : FnV Try.prog 47 [.agg (ePlan false a0), .agg (eFrame false a1), ai a2] (ai (LockedByF a0 a1 a2)) := spec_LockedBy_walk a0 a1 a2 (LockedByF a0 a1 a2) (upI a0.ways.length (fun i => holdsF a0 a1 i a2)) (upM a0.ways.length) (by
 unfold spec_LockedBy_C spec_LockedBy_C1
 have key : frameOk a0 a1 = true → inR a2 0 (IntKind.i64.wrap (a0.sections - 1)) = isIn a2 a0.sections := fun h => by
  have := (frameOk_fit h).in.secs
  rw [w64 (by omega) (by omega), isIn_R]
 refine ⟨⟨hp, fun h => ?_⟩, fun h hn => ?_⟩
 ·unfold LockedByF
  cases hq : frameOk a0 a1 with
  | false => rfl
  | true =>
   rw [hq, key hq] at h
   have : isIn a2 a0.sections = false := by simpa using h
   rw [this]; rfl
 ·have h : frameOk a0 a1 = true ∧ inR a2 0 (IntKind.i64.wrap (a0.sections - 1)) = true := by simpa using h
  have hf := frameOk_fit h.1
  have e : LockedByF a0 a1 a2 = lockedByF a0 a1 a2 := by
   unfold LockedByF; rw [h.1, ← key h.1, h.2]; rfl
  rw [e]
  refine ⟨up_start (len0 _), fun v hI => ⟨fun hv => ?_, fun hv => ⟨⟨⟨hf, (up_in hI hv).1, by simpa using hv⟩, fun hb => ?_⟩, fun hb => up_step (lenI hn) hI hv (not_eq hb)⟩⟩⟩
  ·unfold lockedByF; rw [range_none hI hv]; rfl
  ·unfold lockedByF; rw [range_some hI hv hb]
   have := hI.1
   show v = (v.toNat : Int); omega)

noncomputable def impl_LockedBy_b : Code := bodyC Try.f48
def impl_LockedBy_C (a0 : Plan) (a1 : Frame) (a2 : Int) (res : Int) : Prop :=
 ((frameSm a0 a1) ∧ (((!(frameOk a0 a1)) || (!(isIn a2 a0.sections))) = true → (-1) = res)) ∧ ((!((!(frameOk a0 a1)) || (!(isIn a2 a0.sections)))) = true → (lockPre a0 a1 a2) ∧ ((lockedByF a0 a1 a2) = res))
theorem impl_LockedBy_walk (a0 : Plan) (a1 : Frame) (a2 : Int) (res : Int) (h : impl_LockedBy_C a0 a1 a2 res) : FnV Try.prog 48 [.agg (ePlan false a0), .agg (eFrame false a1), ai a2] (ai res) := by
 unfold impl_LockedBy_C at h
 refine FnS.go (fn := Try.f48) [(0, .agg (ePlan false a0)), (1, .agg (eFrame false a1)), (2, ai a2)] Try.func48 ?_
 show WpS _ (nv impl_LockedBy_b 1) _ ⟨mkS 22 [(0, .agg (ePlan false a0)), (1, .agg (eFrame false a1)), (2, ai a2)], [], []⟩
 refine cRN [] 0 [(6, ai 0), (4, ap 4 0), (3, ap 3 0)] [0, 1, 2] [0, 2, 1] [(4, (eFrame false a1)), (3, (ePlan false a0))] [] ?_
 obtain ⟨q12, h⟩ := h
 refine cSeqM [] [3] ((!((!(frameOk a0 a1)) || (!(isIn a2 a0.sections)))) = true) ?_ (fun q2 => ?_)
 ·
  replace h := q12
  obtain ⟨q8, h⟩ := h
  refine cSeqM [(17, ab ((!(frameOk a0 a1)) || (!(isIn a2 a0.sections))))] [3] (True) ?_ (fun q3 => ?_)
  ·
   replace h := q8
   refine rgS [] 1 ?_
   have q4 := h
   refine sCallV 3 (some 9) [(8, .agg (eFrame false a1)), (7, .agg (ePlan false a0))] [.agg (ePlan false a0), .agg (eFrame false a1)] (impl_FrameOk_V a0 a1 q4) (PW.cons (Snap2.agg (PW.cons (.int _ _) (PW.cons sa_lst (PW.cons sa_lst (PW.cons sa_lst (PW.cons (.int _ _) PW.nil)))))) (PW.cons (Snap2.agg (PW.cons (.bool _) (PW.cons sa_lst (PW.cons sa_lst (PW.cons sa_lst PW.nil))))) PW.nil)) ?_
   refine sCase1 2 11 (!(frameOk a0 a1)) [(10, ab (!(frameOk a0 a1)))] (fun q5 => ?_) (fun q5 => ?_)
   ·
    exact sEJ ([(17, ab true)] ++ tz [16, 15, 14, 13, 12]) trivial (by simp only [q5] <;> kernel_rfl)
   ·
    refine sCallV 4 (some 15) [(14, ai a0.sections), (13, ap 3 0), (12, ai a2)] [ai a2, ai a0.sections] (impl_is_V a2 a0.sections) (PW.cons (Snap2.of1 (.int _ _)) (PW.cons (Snap2.of1 (.int _ _)) PW.nil)) ?_
    exact sEJ [(17, ab (!(isIn a2 a0.sections))), (16, ab (!(isIn a2 a0.sections)))] trivial (by simp only [q5] <;> kernel_rfl)
  refine cCond1 (fun q6 => ?_) (fun q6 => ?_)
  ·
   replace h := h q6
   refine cRM [] 2 [(6, ai (-1))] [1] [] ?_
   exact cRet (QJoin.ret (rt1 (ai (-1)) (SnapR3.of1 (sr_int h))))
  ·
   refine cSkip ?_
   exact QJoin.normal (by simp only [q6] <;> rfl) wkJ
 replace h := h q2
 obtain ⟨q11, h⟩ := h
 refine cSeqM [(6, ai (lockedByF a0 a1 a2))] [] (True) ?_ (fun q9 => ?_)
 ·
  replace h := q11
  refine rgS [] 3 ?_
  have q10 := h
  refine sCallV 4 (some 21) [(20, ai a2), (19, .agg (eFrame false a1)), (18, .agg (ePlan false a0))] [.agg (ePlan false a0), .agg (eFrame false a1), ai a2] (impl_lockedBy_V a0 a1 a2 q10) (PW.cons (Snap2.agg (PW.cons (.int _ _) (PW.cons sa_lst (PW.cons sa_lst (PW.cons sa_lst (PW.cons (.int _ _) PW.nil)))))) (PW.cons (Snap2.agg (PW.cons (.bool _) (PW.cons sa_lst (PW.cons sa_lst (PW.cons sa_lst PW.nil))))) (PW.cons (Snap2.of1 (.int _ _)) PW.nil))) ?_
  exact sEJ [(6, ai (lockedByF a0 a1 a2))] trivial
 exact cRet (rt1 (ai (lockedByF a0 a1 a2)) (SnapR3.of1 (sr_int h)))

theorem impl_LockedBy_V (a0 : Plan) (a1 : Frame) (a2 : Int) (hp : frameSm3 a0 a1 a2) : FnV Try.prog 48 [.agg (ePlan false a0), .agg (eFrame false a1), ai a2] (ai (LockedByF a0 a1 a2)) := impl_LockedBy_walk a0 a1 a2 (LockedByF a0 a1 a2) (by
 unfold impl_LockedBy_C
 refine ⟨⟨hp, fun h => ?_⟩, fun h => ?_⟩
 ·unfold LockedByF
  cases hq : frameOk a0 a1 with
  | false => rfl
  | true =>
   rw [hq] at h
   have : isIn a2 a0.sections = false := by simpa using h
   rw [this]; rfl
 ·have h : frameOk a0 a1 = true ∧ isIn a2 a0.sections = true := by simpa using h
  refine ⟨frameOk_fit h.1, ?_⟩
  unfold LockedByF; rw [h.1, h.2]; rfl)

end Go.Proofs.Ytglpfccgmfhkdaa.Fw
