/- Walks and summaries of functions, printed by a program of mine (tools/mk.py), with the proofs of what they owe. -/

import Derived.Test.YtglpfccgmfhkdaaProg
import Derived.Test.YtglpfccgmfhkdaaSpJ
import Derived.Test.YtglpfccgmfhkdaaWkA
import Derived.Test.YtglpfccgmfhkdaaWkB
import Derived.Test.YtglpfccgmfhkdaaWkD
import Derived.Test.YtglpfccgmfhkdaaWkM
set_option linter.unusedVariables false
set_option maxRecDepth 100000
set_option maxHeartbeats 4000000
set_option linter.unusedSimpArgs false
namespace Go.Proofs.Ytglpfccgmfhkdaa.Fw
open Go
attribute [local irreducible] evS evSD WpS Weak Oper.looksAt
noncomputable def impl_in_1_b : Code := bodyC Try.f166
def impl_in_1_C (a0 : Lie) (a1 : Int) (res : Bool) : Prop :=
 (a0.sw == a1) = res
theorem impl_in_1_walk (a0 : Lie) (a1 : Int) (res : Bool) (h : impl_in_1_C a0 a1 res) : FnV Try.prog 166 [.agg (eLie a0), .rp [ai a1] 0] (ab res) := by
 unfold impl_in_1_C at h
 refine FnS.go (fn := Try.f166) [(0, .agg (eLie a0)), (1, .rp [ai a1] 0)] Try.func166 ?_
 show WpS _ (nv impl_in_1_b 1) _ ⟨mkS 8 [(0, .agg (eLie a0)), (1, .rp [ai a1] 0)], [], []⟩
 refine cRN [] 0 [(3, ab false), (2, ap 2 0)] [0, 1, 1] [0, 1, 1] [(2, (eLie a0))] [] ?_
 refine cRM [] 1 [(3, ab (a0.sw == a1)), (7, ab (a0.sw == a1)), (6, ai a1), (5, ai a0.sw), (4, ap 2 0)] [1] [] ?_
 exact cRet (rt1 (ab (a0.sw == a1)) (SnapR3.of1 (sr_bool h)))
theorem impl_in_1_V (a0 : Lie) (a1 : Int) : FnV Try.prog 166 [.agg (eLie a0), .rp [ai a1] 0] (ab (lieEq a0 a1)) := impl_in_1_walk a0 a1 (lieEq a0 a1) (by
 exact rfl)
noncomputable def slices_IndexFunc_Lie_b : Code := bodyC Try.f170
def slices_IndexFunc_Lie_C (a0 : (List Lie)) (a1 : Int) (res : Int) (I0 : Int → Prop) (m0 : Int → Nat) : Prop :=
 a0.length ≤ 4611686018427387904 → I0 0 ∧ ∀ (v8 : Int), I0 v8 → (((decide (v8 < (a0.length : Int))) = false → (-1) = res) ∧ ((decide (v8 < (a0.length : Int))) = true → ((0 ≤ v8 ∧ v8.toNat < a0.length) ∧ ((lieEq (nth a0 v8) a1) = true → v8 = res)) ∧ ((!(lieEq (nth a0 v8) a1)) = true → I0 (IntKind.i64.wrap (v8 + 1)) ∧ m0 (IntKind.i64.wrap (v8 + 1)) < m0 v8)))
theorem slices_IndexFunc_Lie_walk (a0 : (List Lie)) (a1 : Int) (res : Int) (I0 : Int → Prop) (m0 : Int → Nat) (h : slices_IndexFunc_Lie_C a0 a1 res I0 m0) : FnV Try.prog 170 [al eLie a0, .fn 166 [.rp [ai a1] 0]] (ai res) := by
 unfold slices_IndexFunc_Lie_C at h
 refine FnS.go (fn := Try.f170) [(0, al eLie a0), (1, .fn 166 [.rp [ai a1] 0])] Try.func170 ?_
 show WpS _ (nv slices_IndexFunc_Lie_b 1) _ ⟨mkS 19 [(0, al eLie a0), (1, .fn 166 [.rp [ai a1] 0])], [], []⟩
 refine cRM [] 0 [(4, ai 0)] [] [2] ?_
 refine cSeq ?_
 refine cSeqM [(7, ai (a0.length : Int)), (8, ai 0)] [2] (a0.length ≤ 4611686018427387904) ?_ (fun q2 => ?_)
 ·
  refine rgS [] 1 ?_
  refine sLen 2 (some 7) [(6, al eLie a0)] eLie a0 (fun q3 => ?_)
  exact sEJ [(8, ai 0)] q3
 replace h := h q2
 refine cBlock 0 ?_
 obtain ⟨q17, h⟩ := h
 refine cLoop (fun (v : Int) => (⟨(mkS 19 [(0, al eLie a0), (1, .fn 166 [.rp [ai a1] 0]), (7, ai (a0.length : Int)), (8, ai v)]), [], []⟩ : St)) (fun (v : Int) => I0 v) (fun (v : Int) => m0 v) 0 (wkL []) q17 (fun v8 hI => ?_)
 replace h := h v8 hI
 refine cRM [] 2 [(9, ab (decide (v8 < (a0.length : Int))))] [1] [4] ?_
 obtain ⟨q16, h⟩ := h
 refine cSeqM [] [0, 1, 4] ((decide (v8 < (a0.length : Int))) = true) ?_ (fun q5 => ?_)
 ·
  replace h := q16
  refine cCond1 (fun q6 => ?_) (fun q6 => ?_)
  ·
   refine cSkip ?_
   exact QJoin.normal (by simp only [q6] <;> rfl) wkJ
  ·
   replace h := h q6
   refine cExit 0 ?_
   refine QJoin.exit ?_
   refine QRound.exit ?_
   refine QBlock.here ?_
   refine QSeq.normal ?_
   refine cSeqG ⟨(mkS 19 [(4, ai (-1))]), [], []⟩ (True) ?_ (fun q7 => ?_)
   ·
    refine rgS [] 7 ?_
    exact sEJ [(4, ai (-1))] trivial
   exact cRet (rt1 (ai (-1)) (SnapR3.of1 (sr_int h)))
 replace h := h q5
 obtain ⟨q15, h⟩ := h
 refine cSeqM [] [4] ((!(lieEq (nth a0 v8) a1)) = true) ?_ (fun q8 => ?_)
 ·
  replace h := q15
  refine cBlock 1 ?_
  refine cRM [] 3 [(5, ai v8), (10, ai v8)] [1] [4] ?_
  obtain ⟨q14, h⟩ := h
  refine cSeqM [(16, ab (lieEq (nth a0 v8) a1))] [5] (True) ?_ (fun q10 => ?_)
  ·
   replace h := q14
   refine rgS [] 4 ?_
   have q11 := h
   refine sIdx 4 (some 14) [(13, ai v8), (12, al eLie a0), (11, .fn 166 [.rp [ai a1] 0])] eLie a0 2 q11 ?_
   refine sCallV 2 (some 16) [(15, .agg (eLie (nth a0 v8)))] [.agg (eLie (nth a0 v8)), .rp [ai a1] 0] (impl_in_1_V (nth a0 v8) a1) (PW.cons (Snap2.agg (PW.cons (.int _ _) (PW.cons (.int _ _) PW.nil))) (PW.cons (Snap2.of1 (.rp _ _)) PW.nil)) ?_
   exact sEJ [] trivial
  refine cCond1 (fun q12 => ?_) (fun q12 => ?_)
  ·
   replace h := h q12
   refine cRM [] 5 [(4, ai v8), (17, ai v8)] [1] [] ?_
   exact cRet (QBlock.ret (QJoin.ret (QRound.ret (QBlock.ret (QSeq.ret (rt1 (ai v8) (SnapR3.of1 (sr_int h))))))))
  ·
   refine cSkip ?_
   refine QBlock.normal ?_
   exact QJoin.normal (by simp only [q5, q12] <;> rfl) wkJ
 replace h := h q8
 refine rgS [] 6 ?_
 refine sEnd [(8, ai (IntKind.i64.wrap (v8 + 1))), (18, ai (IntKind.i64.wrap (v8 + 1)))] ?_
 exact QRound.again (IntKind.i64.wrap (v8 + 1)) h (wkL [])
theorem slices_IndexFunc_Lie_V (a0 : (List Lie)) (a1 : Int) : FnV Try.prog 170 [al eLie a0, .fn 166 [.rp [ai a1] 0]] (ai (idxLie a0 a1)) := slices_IndexFunc_Lie_walk a0 a1 (idxLie a0 a1) (upI a0.length (fun j => lieEq (nth a0 j) a1)) (upM a0.length) (by
 unfold slices_IndexFunc_Lie_C
 intro hn
 refine ⟨up_start (len0 _), fun v hI => ⟨fun hv => ?_, fun hv => ⟨⟨up_in hI hv, fun hp => ?_⟩, fun hp => up_step (lenI hn) hI hv (not_eq hp)⟩⟩⟩
 ·unfold idxLie; rw [up_none (q := fun x : Lie => x.sw == a1) hI hv]; rfl
 ·unfold idxLie; rw [up_first (q := fun x : Lie => x.sw == a1) hI hv hp]
  have := hI.1
  show v = (v.toNat : Int)
  omega)
noncomputable def slices_ContainsFunc_Lie_b : Code := bodyC Try.f165
def slices_ContainsFunc_Lie_C (a0 : (List Lie)) (a1 : Int) (res : Bool) : Prop :=
 (decide ((idxLie a0 a1) ≥ 0)) = res
theorem slices_ContainsFunc_Lie_walk (a0 : (List Lie)) (a1 : Int) (res : Bool) (h : slices_ContainsFunc_Lie_C a0 a1 res) : FnV Try.prog 165 [al eLie a0, .fn 166 [.rp [ai a1] 0]] (ab res) := by
 unfold slices_ContainsFunc_Lie_C at h
 refine FnS.go (fn := Try.f165) [(0, al eLie a0), (1, .fn 166 [.rp [ai a1] 0])] Try.func165 ?_
 show WpS _ (nv slices_ContainsFunc_Lie_b 1) _ ⟨mkS 9 [(0, al eLie a0), (1, .fn 166 [.rp [ai a1] 0])], [], []⟩
 refine cRM [] 0 [(4, ab false)] [] [2] ?_
 refine cSeqM [(4, ab (decide ((idxLie a0 a1) ≥ 0)))] [] (True) ?_ (fun q2 => ?_)
 ·
  refine rgS [] 1 ?_
  refine sCallV 3 (some 7) [(6, .fn 166 [.rp [ai a1] 0]), (5, al eLie a0)] [al eLie a0, .fn 166 [.rp [ai a1] 0]] (slices_IndexFunc_Lie_V a0 a1) (PW.cons (Snap2.of1 sa_lst) (PW.cons (Snap2.of1 (sa_fn (CellsIn.cons (.rp _ _) CellsIn.nil))) PW.nil)) ?_
  exact sEJ [(4, ab (decide ((idxLie a0 a1) ≥ 0))), (8, ab (decide ((idxLie a0 a1) ≥ 0)))] trivial
 exact cRet (rt1 (ab (decide ((idxLie a0 a1) ≥ 0))) (SnapR3.of1 (sr_bool h)))
theorem slices_ContainsFunc_Lie_V (a0 : (List Lie)) (a1 : Int) : FnV Try.prog 165 [al eLie a0, .fn 166 [.rp [ai a1] 0]] (ab (lieIn a0 a1)) := slices_ContainsFunc_Lie_walk a0 a1 (lieIn a0 a1) (by
 exact idxLie_in a0 a1)
noncomputable def impl_in_b : Code := bodyC Try.f153
def impl_in_C (a0 : (List Lie)) (a1 : Int) (res : Bool) : Prop :=
 (lieIn a0 a1) = res
theorem impl_in_walk (a0 : (List Lie)) (a1 : Int) (res : Bool) (h : impl_in_C a0 a1 res) : FnV Try.prog 153 [al eLie a0, ai a1] (ab res) := by
 unfold impl_in_C at h
 refine FnS.go (fn := Try.f153) [(0, al eLie a0), (1, ai a1)] Try.func153 ?_
 show WpS _ (nv impl_in_b 1) _ ⟨mkS 8 [(0, al eLie a0), (1, ai a1)], [], []⟩
 refine cRN [] 0 [(4, ab false), (3, ap 3 0)] [0, 1, 1] [1] [(3, [ai a1])] [] ?_
 refine cSeqM [(4, ab (lieIn a0 a1))] [] (True) ?_ (fun q2 => ?_)
 ·
  refine rgS [] 1 ?_
  refine sCallV 3 (some 7) [(6, .fn 166 [ap 3 0]), (5, al eLie a0)] [al eLie a0, .fn 166 [ap 3 0]] (slices_ContainsFunc_Lie_V a0 a1) (PW.cons (Snap2.of1 sa_lst) (PW.cons (Snap2.of1 (sa_fn (CellsIn.cons (sa_lptr (by kernel_rfl) (CellsIn.cons (.int _ _) CellsIn.nil)) CellsIn.nil))) PW.nil)) ?_
  exact sEJ [(4, ab (lieIn a0 a1))] trivial
 exact cRet (rt1 (ab (lieIn a0 a1)) (SnapR3.of1 (sr_bool h)))
theorem impl_in_V (a0 : (List Lie)) (a1 : Int) : FnV Try.prog 153 [al eLie a0, ai a1] (ab (lieIn a0 a1)) := impl_in_walk a0 a1 (lieIn a0 a1) (by
 exact rfl)
noncomputable def impl_pointLock_b : Code := bodyC Try.f113
def impl_pointLock_o6 : List Item := [iq 0, iq 1, iq 2, iq 3, iq 4, iq 5, iq 6, iq 7, iq 8, iq 9, iq 10, iq 11, iq 12, iq 13, iq 14, iq 15, iq 16, iq 17, iq 18, iq 19, iq 20]
def impl_pointLock_o6a : List (List Nat) := [[], [0], [], [0, 1, 2], rg 0 4, rg 0 5, rg 0 6, rg 0 5, rg 0 8, rg 0 9, rg 0 10, rg 0 10, rg 0 10, rg 0 10, rg 0 10 ++ [13], rg 0 10, rg 0 10 ++ [13, 14, 15], rg 0 10 ++ rg 13 17, rg 0 18, rg 0 19, rg 0 20]
def impl_pointLock_C1 (I0 : Nat → (List Int) → Int → Prop) (m0 : Nat → (List Int) → Int → Nat) (a0 : Plan) (a1 : Frame) (a2 : Int) (g0 : Nat) (x0 : (List Int)) (v13 : Int) : Prop :=
  (((lieIn ((nth a0.ways v13).flanks) a2) || ((lieIn ((nth a0.ways v13).lies) a2) && (holdsF a0 a1 v13 (nth a0.switches a2)))) = true → ((x0.length + [v13].length) * 8 ≤ 140737488355328 ∧ x0.length + [v13].length ≤ 4611686018427387904) ∧ (I0 (g0 + 1) (x0 ++ [v13]) (IntKind.i64.wrap (v13 + 1)) ∧ m0 (g0 + 1) (x0 ++ [v13]) (IntKind.i64.wrap (v13 + 1)) < m0 g0 x0 v13)) ∧ (((lieIn ((nth a0.ways v13).flanks) a2) || ((lieIn ((nth a0.ways v13).lies) a2) && (holdsF a0 a1 v13 (nth a0.switches a2)))) = false → I0 g0 x0 (IntKind.i64.wrap (v13 + 1)) ∧ m0 g0 x0 (IntKind.i64.wrap (v13 + 1)) < m0 g0 x0 v13)
def impl_pointLock_C2 (I0 : Nat → (List Int) → Int → Prop) (m0 : Nat → (List Int) → Int → Nat) (a0 : Plan) (a1 : Frame) (a2 : Int) (g0 : Nat) (x0 : (List Int)) (v13 : Int) : Prop :=
  ((0 ≤ v13 ∧ v13.toNat < a1.ways.length) ∧ ((((nth a1.ways v13).state) == 0) = true → I0 g0 x0 (IntKind.i64.wrap (v13 + 1)) ∧ m0 g0 x0 (IntKind.i64.wrap (v13 + 1)) < m0 g0 x0 v13)) ∧ ((!(((nth a1.ways v13).state) == 0)) = true → ((lieIn ((nth a0.ways v13).flanks) a2) = false → (lieIn ((nth a0.ways v13).lies) a2) = true → (0 ≤ a2 ∧ a2.toNat < a0.switches.length) ∧ (holdsPre a0 a1 v13 (nth a0.switches a2))) ∧ (impl_pointLock_C1 I0 m0 a0 a1 a2 g0 x0 v13))
def impl_pointLock_C (a0 : Plan) (a1 : Frame) (a2 : Int) (res : (List Int)) (I0 : Nat → (List Int) → Int → Prop) (m0 : Nat → (List Int) → Int → Nat) : Prop :=
 a0.ways.length ≤ 4611686018427387904 → I0 0 ([] : List Int) 0 ∧ ∀ (g0 : Nat) (x0 : (List Int)) (v13 : Int), I0 g0 x0 v13 → (((decide (v13 < (a0.ways.length : Int))) = false → x0.length ≤ 4611686018427387904 ∧ x0 = res) ∧ ((decide (v13 < (a0.ways.length : Int))) = true → (0 ≤ v13 ∧ v13.toNat < a0.ways.length) ∧ (impl_pointLock_C2 I0 m0 a0 a1 a2 g0 x0 v13)))
theorem impl_pointLock_walk (a0 : Plan) (a1 : Frame) (a2 : Int) (res : (List Int)) (I0 : Nat → (List Int) → Int → Prop) (m0 : Nat → (List Int) → Int → Nat) (h : impl_pointLock_C a0 a1 a2 res I0 m0) : FnV Try.prog 113 [.agg (ePlan false a0), .agg (eFrame false a1), ai a2] (af eInt res) := by
 unfold impl_pointLock_C at h
 refine FnS.go (fn := Try.f113) [(0, .agg (ePlan false a0)), (1, .agg (eFrame false a1)), (2, ai a2)] Try.func113 ?_
 show WpS _ (nv impl_pointLock_b 1) _ ⟨mkS 52 [(0, .agg (ePlan false a0)), (1, .agg (eFrame false a1)), (2, ai a2)], [], []⟩
 refine cRN [] 0 [(6, an), (4, ap 4 0), (3, ap 3 0)] [0, 1, 2] [0, 2, 1] [(4, (eFrame false a1)), (3, (ePlan false a0))] [] ?_
 refine cRM [] 1 [(7, an)] [1] [3] ?_
 refine cSeq ?_
 refine cSeqM [(11, al (eWay false) a0.ways), (12, ai (a0.ways.length : Int)), (13, ai 0)] [4] (a0.ways.length ≤ 4611686018427387904) ?_ (fun q3 => ?_)
 ·
  refine rgS [] 2 ?_
  refine sLen 3 (some 12) [(11, al (eWay false) a0.ways), (10, ap 3 2)] (eWay false) a0.ways (fun q4 => ?_)
  exact sEJ [(13, ai 0)] q4
 replace h := h q3
 refine cBlock 0 ?_
 refine WpS.weak ?_ (weak_adoptS (n := 52) (A' := [(7, rf 0 0 (([] : List Int).length)), (11, al (eWay false) a0.ways), (12, ai (a0.ways.length : Int)), (13, ai 0), (4, ap 4 0), (3, ap 3 0), (2, ai a2)]) 7 1 (by kernel_rfl) (by kernel_rfl) (by kernel_rfl) : Weak _ ⟨(mkS 52 [(7, rf 0 0 (([] : List Int).length)), (11, al (eWay false) a0.ways), (12, ai (a0.ways.length : Int)), (13, ai 0), (4, ap 4 0), (3, ap 3 0), (2, ai a2)]), [(4, (eFrame false a1)), (3, (ePlan false a0))], [⟨0, 1, List.map eInt ([] : List Int)⟩]⟩)
 obtain ⟨q27, h⟩ := h
 refine cLoop (fun (v : Nat × (List Int) × Int) => (⟨(mkS 52 [(2, ai a2), (3, ap 3 0), (4, ap 4 0), (7, rf 0 (v.1) ((v.2.1).length)), (11, al (eWay false) a0.ways), (12, ai (a0.ways.length : Int)), (13, ai (v.2.2))]), [(4, (eFrame false a1)), (3, (ePlan false a0))], [⟨(v.1), 1, List.map eInt (v.2.1)⟩]⟩ : St)) (fun (v : Nat × (List Int) × Int) => I0 (v.1) (v.2.1) (v.2.2)) (fun (v : Nat × (List Int) × Int) => m0 (v.1) (v.2.1) (v.2.2)) (0, ([] : List Int), 0) (wkL []) q27 (fun v hI => ?_)
 obtain ⟨g0, x0, v13⟩ := v
 replace h := h g0 x0 v13 hI
 dsimp only
 refine cRM [] 3 [(14, ab (decide (v13 < (a0.ways.length : Int))))] [1] [7] ?_
 obtain ⟨q26, h⟩ := h
 refine cSeqM [] [0, 1, 7] ((decide (v13 < (a0.ways.length : Int))) = true) ?_ (fun q6 => ?_)
 ·
  replace h := q26
  refine cCond1 (fun q7 => ?_) (fun q7 => ?_)
  ·
   refine cSkip ?_
   exact QJoin.normal (by simp only [q7] <;> rfl) wkJ
  ·
   replace h := h q7
   refine cExit 0 ?_
   refine QJoin.exit ?_
   refine QRound.exit ?_
   refine QBlock.here ?_
   refine QSeq.normal ?_
   refine cSeqG ⟨(mkS 52 [(6, rf 0 g0 x0.length)]), [(4, (eFrame false a1)), (3, (ePlan false a0))], [⟨g0, 1, List.map eInt x0⟩]⟩ (True) ?_ (fun q8 => ?_)
   ·
    refine rgS [] 9 ?_
    exact sEJ [(6, rf 0 g0 x0.length), (51, rf 0 g0 x0.length)] trivial
   exact cRet (rt1 (rf 0 g0 x0.length) (SnapR3.of1 (sr_blk' (sz := 1) (by simp) rfl (cInt) h)))
 replace h := h q6
 refine cSeq ?_
 refine cBlock 1 ?_
 obtain ⟨q25, h⟩ := h
 refine cSeqE [(8, ai v13), (9, ap 9 0)] [7] (fun L => (9, (eWay false (nth a0.ways v13))) :: L) id (True) ?_ (fun q9 => ?_)
 ·
  replace h := q25
  refine rgS [] 4 ?_
  have q10 := h
  refine sIdx 2 (some 16) [(15, ai v13)] (eWay false) a0.ways 5 q10 ?_
  exact sEJ [(8, ai v13), (9, ap 9 0), (17, .agg (eWay false (nth a0.ways v13)))] trivial
 unfold impl_pointLock_C2 at h
 obtain ⟨q24, h⟩ := h
 refine cSeqM [] [9] ((!(((nth a1.ways v13).state) == 0)) = true) ?_ (fun q11 => ?_)
 ·
  replace h := q24
  obtain ⟨q15, h⟩ := h
  refine cSeqM [(24, ab (((nth a1.ways v13).state) == 0))] [9] (True) ?_ (fun q12 => ?_)
  ·
   replace h := q15
   refine rgS [] 5 ?_
   have q13 := h
   refine sIdx 4 (some 21) [(20, ai v13), (19, al (eHeld false) a1.ways), (18, ap 4 3)] (eHeld false) a1.ways 5 q13 ?_
   exact sEJ [(24, ab (((nth a1.ways v13).state) == 0)), (23, ai ((nth a1.ways v13).state)), (22, .rp (eHeld false (nth a1.ways v13)) 0)] trivial
  refine cCond1 (fun q14 => ?_) (fun q14 => ?_)
  ·
   replace h := h q14
   refine cExit 1 ?_
   refine QJoin.exit ?_
   refine QBlock.here ?_
   refine QSeq.normal ?_
   refine rgS [] 8 ?_
   refine sEnd [(13, ai (IntKind.i64.wrap (v13 + 1))), (50, ai (IntKind.i64.wrap (v13 + 1)))] ?_
   exact QRound.again (g0, x0, (IntKind.i64.wrap (v13 + 1))) h (wkL [9])
  ·
   refine cSkip ?_
   exact QJoin.normal (by simp only [q6, q14] <;> rfl) wkJ
 replace h := h q11
 obtain ⟨q23, h⟩ := h
 refine cSeqM [(45, ab ((lieIn ((nth a0.ways v13).flanks) a2) || ((lieIn ((nth a0.ways v13).lies) a2) && (holdsF a0 a1 v13 (nth a0.switches a2)))))] [1, 1, 7] (True) ?_ (fun q16 => ?_)
 ·
  replace h := q23
  refine rgD [] 6 impl_pointLock_o6 impl_pointLock_o6a [] ?_
  refine tCallV 4 (some 28) [(27, ai a2), (26, al eLie ((nth a0.ways v13).flanks)), (25, ap 9 2)] [al eLie ((nth a0.ways v13).flanks), ai a2] (impl_in_V ((nth a0.ways v13).flanks) a2) (PW.cons (Snap2.of1 sa_lst) (PW.cons (Snap2.of1 (.int _ _)) PW.nil)) ?_
  refine tCase1 1 29 (lieIn ((nth a0.ways v13).flanks) a2) [] (fun q17 => ?_) (fun q17 => ?_)
  ·
   exact tEJ ([(45, ab true)] ++ tz [44, 43, 42, 41, 40, 39, 38, 37, 36, 35, 34, 33, 32, 31, 30]) trivial (by simp only [q6, q11, q17] <;> kernel_rfl)
  ·
   replace h := h q17
   refine tCallV 4 (some 33) [(32, ai a2), (31, al eLie ((nth a0.ways v13).lies)), (30, ap 9 1)] [al eLie ((nth a0.ways v13).lies), ai a2] (impl_in_V ((nth a0.ways v13).lies) a2) (PW.cons (Snap2.of1 sa_lst) (PW.cons (Snap2.of1 (.int _ _)) PW.nil)) ?_
   refine tCase1 1 34 (lieIn ((nth a0.ways v13).lies) a2) [] (fun q18 => ?_) (fun q18 => ?_)
   ·
    replace h := h q18
    obtain ⟨q20, h⟩ := h
    refine tIdx 7 (some 41) [(40, ai a2), (39, al eInt a0.switches), (38, ap 3 1), (37, ai v13), (36, .agg (eFrame false a1)), (35, .agg (ePlan false a0))] eInt a0.switches 1 q20 ?_
    have q19 := h
    refine tCallV 2 (some 43) [(42, ai (nth a0.switches a2))] [.agg (ePlan false a0), .agg (eFrame false a1), ai v13, ai (nth a0.switches a2)] (impl_has_V a0 a1 v13 (nth a0.switches a2) q19) (PW.cons (Snap2.agg (PW.cons (.int _ _) (PW.cons sa_lst (PW.cons sa_lst (PW.cons sa_lst (PW.cons (.int _ _) PW.nil)))))) (PW.cons (Snap2.agg (PW.cons (.bool _) (PW.cons sa_lst (PW.cons sa_lst (PW.cons sa_lst PW.nil))))) (PW.cons (Snap2.of1 (.int _ _)) (PW.cons (Snap2.of1 (.int _ _)) PW.nil)))) ?_
    exact tEJ [(45, ab (holdsF a0 a1 v13 (nth a0.switches a2))), (44, ab (holdsF a0 a1 v13 (nth a0.switches a2)))] trivial (by simp only [q6, q11, q17, q18] <;> kernel_rfl)
   ·
    exact tEJ ([(45, ab false), (44, ab false)] ++ tz [43, 42, 41, 40, 39, 38, 37, 36, 35]) trivial (by simp only [q6, q11, q17, q18] <;> kernel_rfl)
 unfold impl_pointLock_C1 at h
 refine cCond1 (fun q21 => ?_) (fun q21 => ?_)
 ·
  replace h := h.1 q21
  refine rgS [] 7 ?_
  obtain ⟨q22, h⟩ := h
  refine sApp 4 (some 49) [(48, .lst (List.map eInt [v13]) true true), (47, ai v13), (46, rf 0 g0 x0.length)] eInt x0 [v13] (refrs true (List.map eInt [v13])) 0 g0 1 8 (fun r => [⟨(g0 + 1), 1, r⟩]) rfl q22 ?_
  refine sEnd [(7, rf 0 (g0 + 1) ((x0 ++ [v13]).length))] ?_
  refine QBlock.normal ?_
  refine QSeq.normal ?_
  refine rgS [] 8 ?_
  refine sEnd [(13, ai (IntKind.i64.wrap (v13 + 1))), (50, ai (IntKind.i64.wrap (v13 + 1)))] ?_
  exact QRound.again ((g0 + 1), (x0 ++ [v13]), (IntKind.i64.wrap (v13 + 1))) h (wkL [9])
 ·
  replace h := h.2 q21
  refine cSkip ?_
  refine QBlock.normal ?_
  refine QSeq.normal ?_
  refine rgS [] 8 ?_
  refine sEnd [(13, ai (IntKind.i64.wrap (v13 + 1))), (50, ai (IntKind.i64.wrap (v13 + 1)))] ?_
  exact QRound.again (g0, x0, (IntKind.i64.wrap (v13 + 1))) h (wkL [9])
theorem impl_pointLock_V (a0 : Plan) (a1 : Frame) (a2 : Int) (hp : pointPre a0 a1 a2) : FnV Try.prog 113 [.agg (ePlan false a0), .agg (eFrame false a1), ai a2] (af eInt (pointF a0 a1 a2)) := impl_pointLock_walk a0 a1 a2 (pointF a0 a1 a2) (fun _ x v => upI a0.ways.length (fun _ => false) v ∧ x = filtI (fun i => wantsF a0 a1 i a2) v) (fun _ _ v => upM a0.ways.length v) (by
 unfold impl_pointLock_C
 obtain ⟨hf, h0, h1⟩ := hp
 have hw := hf.fr.ways
 have hn100 := hf.in.ways
 have hmem := hf.in.switches
 intro hn
 refine ⟨⟨up_start (len0 _), rfl⟩, fun g x v hI => ?_⟩
 obtain ⟨hI, rfl⟩ := hI
 have hv0 := hI.1
 have hlen := filt_len (fun i => wantsF a0 a1 i a2) v
 have hvn := hI.2.1
 refine ⟨fun hv => ⟨by omega, ?_⟩, fun hv => ⟨up_in hI hv, ?_⟩⟩
 ·have : ¬ v < (a0.ways.length : Int) := by simpa using hv
  rw [show v = (a0.ways.length : Int) by omega]; rfl
 have hin := up_in hI hv
 have hst := up_step (lenI hn) hI hv rfl
 have hw1 : IntKind.i64.wrap (v + 1) = v + 1 := wrap_up (lenI hn) hv0 (by simpa using hv)
 have yes : wantsF a0 a1 v a2 = true → (upI a0.ways.length (fun _ => false) (IntKind.i64.wrap (v + 1)) ∧ filtI (fun i => wantsF a0 a1 i a2) v ++ [v] = filtI (fun i => wantsF a0 a1 i a2) (IntKind.i64.wrap (v + 1))) := fun h => ⟨hst.1, by rw [hw1, filt_s hv0, if_pos h]⟩
 have no : wantsF a0 a1 v a2 = false → (upI a0.ways.length (fun _ => false) (IntKind.i64.wrap (v + 1)) ∧ filtI (fun i => wantsF a0 a1 i a2) v = filtI (fun i => wantsF a0 a1 i a2) (IntKind.i64.wrap (v + 1))) := fun h => ⟨hst.1, by rw [hw1, filt_s hv0, if_neg (by rw [h]; simp)]⟩
 unfold impl_pointLock_C2 impl_pointLock_C1
 refine ⟨⟨⟨hv0, by omega⟩, fun hz => ⟨no ?_, hst.2⟩⟩, fun hz => ⟨fun _ _ => ⟨⟨h0, by omega⟩, hf, hv0, by omega⟩, ⟨fun hq => ⟨⟨?_, ?_⟩, yes ?_, hst.2⟩, fun hq => ⟨no ?_, hst.2⟩⟩⟩⟩
 ·unfold wantsF
  rw [show ((nth a1.ways v).state != 0) = false by simpa using hz]; rfl
 ·simp only [List.length_singleton]; omega
 ·simp only [List.length_singleton]; omega
 ·unfold wantsF
  rw [show ((nth a1.ways v).state != 0) = true by simpa using hz]; exact hq
 ·unfold wantsF
  rw [show ((nth a1.ways v).state != 0) = true by simpa using hz]; exact hq)
noncomputable def impl_blocked_b : Code := bodyC Try.f115
def impl_blocked_o20 : List Item := [iq 0, iq 1, iq 2, iq 3, iq 4, iq 5, iq 6, iq 7, iq 8, iq 9, iq 10, iq 11, iq 12, iq 13, iq 14]
def impl_blocked_o20a : List (List Nat) := [[], [0], [], [0, 1, 2], rg 0 4, rg 0 5, rg 0 6, rg 0 5, rg 0 8, rg 0 9, rg 0 10, rg 0 5, rg 0 5 ++ [11], rg 0 13, rg 0 14]
def impl_blocked_o22 : List Item := [iq 0, iq 1, iq 2, iq 3, iq 4, iq 5, iq 6, iq 7, iq 8, iq 9]
def impl_blocked_o22a : List (List Nat) := [[], [0], [], [2], [], [2, 3, 4], rg 2 6, rg 0 7, rg 0 8, rg 0 9]
def impl_blocked_C1 (I3 : Nat → (List Int) → Int → Nat → (List Int) → Int → Nat → (List Int) → Int → Bool → Bool → Nat → (List Int) → Int → Bool → Bool → Prop) (m3 : Nat → (List Int) → Int → Nat → (List Int) → Int → Nat → (List Int) → Int → Bool → Bool → Nat → (List Int) → Int → Bool → Bool → Nat) (a0 : Plan) (a1 : Frame) (g0 : Nat) (x0 : (List Int)) (v26 : Int) (g1 : Nat) (x1 : (List Int)) (v76 : Int) (g2 : Nat) (x2 : (List Int)) (v112 : Int) (v7 v8 : Bool) (v106 : Int) (g2' : Nat) (x2' : (List Int)) (v7' v8' : Bool) : Prop :=
  (((decide (((pointF a0 a1 v106).length : Int) > 0)) || (nth a1.occ (nth a0.switches v106))) = true → ((x2'.length + [v106].length) * 8 ≤ 140737488355328 ∧ x2'.length + [v106].length ≤ 4611686018427387904) ∧ (I3 g0 x0 v26 g1 x1 v76 g2 x2 v106 v7 v8 (g2' + 1) (x2' ++ [v106]) (IntKind.i64.wrap (v112 + 1)) (v7' || (decide (((pointF a0 a1 v106).length : Int) > 0))) (v8' || (nth a1.occ (nth a0.switches v106))) ∧ m3 g0 x0 v26 g1 x1 v76 g2 x2 v106 v7 v8 (g2' + 1) (x2' ++ [v106]) (IntKind.i64.wrap (v112 + 1)) (v7' || (decide (((pointF a0 a1 v106).length : Int) > 0))) (v8' || (nth a1.occ (nth a0.switches v106))) < m3 g0 x0 v26 g1 x1 v76 g2 x2 v106 v7 v8 g2' x2' v112 v7' v8')) ∧ (((decide (((pointF a0 a1 v106).length : Int) > 0)) || (nth a1.occ (nth a0.switches v106))) = false → I3 g0 x0 v26 g1 x1 v76 g2 x2 v106 v7 v8 g2' x2' (IntKind.i64.wrap (v112 + 1)) (v7' || (decide (((pointF a0 a1 v106).length : Int) > 0))) (v8' || (nth a1.occ (nth a0.switches v106))) ∧ m3 g0 x0 v26 g1 x1 v76 g2 x2 v106 v7 v8 g2' x2' (IntKind.i64.wrap (v112 + 1)) (v7' || (decide (((pointF a0 a1 v106).length : Int) > 0))) (v8' || (nth a1.occ (nth a0.switches v106))) < m3 g0 x0 v26 g1 x1 v76 g2 x2 v106 v7 v8 g2' x2' v112 v7' v8')
def impl_blocked_C2 (I3 : Nat → (List Int) → Int → Nat → (List Int) → Int → Nat → (List Int) → Int → Bool → Bool → Nat → (List Int) → Int → Bool → Bool → Prop) (m3 : Nat → (List Int) → Int → Nat → (List Int) → Int → Nat → (List Int) → Int → Bool → Bool → Nat → (List Int) → Int → Bool → Bool → Nat) (a0 : Plan) (a1 : Frame) (a2 : Int) (g0 : Nat) (x0 : (List Int)) (v26 : Int) (g1 : Nat) (x1 : (List Int)) (v76 : Int) (g2 : Nat) (x2 : (List Int)) (v112 : Int) (v7 v8 : Bool) (v106 : Int) (g2' : Nat) (x2' : (List Int)) (v7' v8' : Bool) : Prop :=
  (((((nth (needs (nth a0.ways a2)) v112).sw) != v106) = false → 0 ≤ v106 ∧ v106.toNat < a1.points.length) ∧ (((((nth (needs (nth a0.ways a2)) v112).sw) != v106) || (((nth a1.points v106).want) == ((nth (needs (nth a0.ways a2)) v112).lie))) = true → I3 g0 x0 v26 g1 x1 v76 g2 x2 v106 v7 v8 g2' x2' (IntKind.i64.wrap (v112 + 1)) v7' v8' ∧ m3 g0 x0 v26 g1 x1 v76 g2 x2 v106 v7 v8 g2' x2' (IntKind.i64.wrap (v112 + 1)) v7' v8' < m3 g0 x0 v26 g1 x1 v76 g2 x2 v106 v7 v8 g2' x2' v112 v7' v8')) ∧ ((!((((nth (needs (nth a0.ways a2)) v112).sw) != v106) || (((nth a1.points v106).want) == ((nth (needs (nth a0.ways a2)) v112).lie)))) = true → (pointPre a0 a1 v106) ∧ ((pointF a0 a1 v106).length ≤ 4611686018427387904 → ((0 ≤ v106 ∧ v106.toNat < a0.switches.length) ∧ (0 ≤ (nth a0.switches v106) ∧ (nth a0.switches v106).toNat < a1.occ.length)) ∧ (impl_blocked_C1 I3 m3 a0 a1 g0 x0 v26 g1 x1 v76 g2 x2 v112 v7 v8 v106 g2' x2' v7' v8')))
def impl_blocked_C3 (I2 : Nat → (List Int) → Int → Nat → (List Int) → Int → Nat → (List Int) → Int → Bool → Bool → Prop) (m2 : Nat → (List Int) → Int → Nat → (List Int) → Int → Nat → (List Int) → Int → Bool → Bool → Nat) (I3 : Nat → (List Int) → Int → Nat → (List Int) → Int → Nat → (List Int) → Int → Bool → Bool → Nat → (List Int) → Int → Bool → Bool → Prop) (m3 : Nat → (List Int) → Int → Nat → (List Int) → Int → Nat → (List Int) → Int → Bool → Bool → Nat → (List Int) → Int → Bool → Bool → Nat) (a0 : Plan) (a1 : Frame) (a2 : Int) (g0 : Nat) (x0 : (List Int)) (v26 : Int) (g1 : Nat) (x1 : (List Int)) (v76 : Int) (g2 : Nat) (x2 : (List Int)) (v112 : Int) (v7 v8 : Bool) (v106 : Int) (g2' : Nat) (x2' : (List Int)) (v7' v8' : Bool) : Prop :=
  ((decide (v112 < ((needs (nth a0.ways a2)).length : Int))) = false → I2 g0 x0 v26 g1 x1 v76 g2' x2' (IntKind.i64.wrap (v106 + 1)) v7' v8' ∧ m2 g0 x0 v26 g1 x1 v76 g2' x2' (IntKind.i64.wrap (v106 + 1)) v7' v8' < m2 g0 x0 v26 g1 x1 v76 g2 x2 v106 v7 v8) ∧ ((decide (v112 < ((needs (nth a0.ways a2)).length : Int))) = true → (0 ≤ v112 ∧ v112.toNat < (needs (nth a0.ways a2)).length) ∧ (impl_blocked_C2 I3 m3 a0 a1 a2 g0 x0 v26 g1 x1 v76 g2 x2 v112 v7 v8 v106 g2' x2' v7' v8'))
def impl_blocked_C4 (I2 : Nat → (List Int) → Int → Nat → (List Int) → Int → Nat → (List Int) → Int → Bool → Bool → Prop) (m2 : Nat → (List Int) → Int → Nat → (List Int) → Int → Nat → (List Int) → Int → Bool → Bool → Nat) (I3 : Nat → (List Int) → Int → Nat → (List Int) → Int → Nat → (List Int) → Int → Bool → Bool → Nat → (List Int) → Int → Bool → Bool → Prop) (m3 : Nat → (List Int) → Int → Nat → (List Int) → Int → Nat → (List Int) → Int → Bool → Bool → Nat → (List Int) → Int → Bool → Bool → Nat) (a0 : Plan) (a1 : Frame) (a2 : Int) (res : Stays × Bool × Bool) (g0 : Nat) (x0 : (List Int)) (v26 : Int) (g1 : Nat) (x1 : (List Int)) (v76 : Int) (g2 : Nat) (x2 : (List Int)) (v7 v8 : Bool) (v106 : Int) : Prop :=
  ((decide (v106 < (a0.switches.length : Int))) = false → (x0.length ≤ 4611686018427387904 ∧ x0 = res.1.ways) ∧ (x1.length ≤ 4611686018427387904 ∧ x1 = res.1.sections) ∧ (x2.length ≤ 4611686018427387904 ∧ x2 = res.1.points) ∧ (v7 = res.2.1) ∧ (v8 = res.2.2)) ∧ ((decide (v106 < (a0.switches.length : Int))) = true → (preNeeds (nth a0.ways a2)) ∧ ((needs (nth a0.ways a2)).length ≤ 4611686018427387904 → I3 g0 x0 v26 g1 x1 v76 g2 x2 v106 v7 v8 g2 x2 0 v7 v8 ∧ ∀ (g2' : Nat) (x2' : (List Int)) (v112 : Int) (v7' : Bool) (v8' : Bool), I3 g0 x0 v26 g1 x1 v76 g2 x2 v106 v7 v8 g2' x2' v112 v7' v8' → (impl_blocked_C3 I2 m2 I3 m3 a0 a1 a2 g0 x0 v26 g1 x1 v76 g2 x2 v112 v7 v8 v106 g2' x2' v7' v8')))
def impl_blocked_C5 (I1 : Nat → (List Int) → Int → Nat → (List Int) → Int → Prop) (m1 : Nat → (List Int) → Int → Nat → (List Int) → Int → Nat) (a0 : Plan) (a1 : Frame) (a2 : Int) (g0 : Nat) (x0 : (List Int)) (v26 : Int) (g1 : Nat) (x1 : (List Int)) (v76 : Int) : Prop :=
  (((nth a1.occ v76) && ((hasInt ((nth a0.ways a2).sections) v76) || (hasInt ((nth a0.ways a2).over) v76))) = true → ((x1.length + [v76].length) * 8 ≤ 140737488355328 ∧ x1.length + [v76].length ≤ 4611686018427387904) ∧ (I1 g0 x0 v26 (g1 + 1) (x1 ++ [v76]) (IntKind.i64.wrap (v76 + 1)) ∧ m1 g0 x0 v26 (g1 + 1) (x1 ++ [v76]) (IntKind.i64.wrap (v76 + 1)) < m1 g0 x0 v26 g1 x1 v76)) ∧ (((nth a1.occ v76) && ((hasInt ((nth a0.ways a2).sections) v76) || (hasInt ((nth a0.ways a2).over) v76))) = false → I1 g0 x0 v26 g1 x1 (IntKind.i64.wrap (v76 + 1)) ∧ m1 g0 x0 v26 g1 x1 (IntKind.i64.wrap (v76 + 1)) < m1 g0 x0 v26 g1 x1 v76)
def impl_blocked_C6 (I1 : Nat → (List Int) → Int → Nat → (List Int) → Int → Prop) (m1 : Nat → (List Int) → Int → Nat → (List Int) → Int → Nat) (I2 : Nat → (List Int) → Int → Nat → (List Int) → Int → Nat → (List Int) → Int → Bool → Bool → Prop) (m2 : Nat → (List Int) → Int → Nat → (List Int) → Int → Nat → (List Int) → Int → Bool → Bool → Nat) (I3 : Nat → (List Int) → Int → Nat → (List Int) → Int → Nat → (List Int) → Int → Bool → Bool → Nat → (List Int) → Int → Bool → Bool → Prop) (m3 : Nat → (List Int) → Int → Nat → (List Int) → Int → Nat → (List Int) → Int → Bool → Bool → Nat → (List Int) → Int → Bool → Bool → Nat) (a0 : Plan) (a1 : Frame) (a2 : Int) (res : Stays × Bool × Bool) (g0 : Nat) (x0 : (List Int)) (v26 : Int) (g1 : Nat) (x1 : (List Int)) (v76 : Int) : Prop :=
  ((decide (v76 < a0.sections)) = false → a0.switches.length ≤ 4611686018427387904 → I2 g0 x0 v26 g1 x1 v76 0 ([] : List Int) 0 false false ∧ ∀ (g2 : Nat) (x2 : (List Int)) (v106 : Int) (v7 : Bool) (v8 : Bool), I2 g0 x0 v26 g1 x1 v76 g2 x2 v106 v7 v8 → (impl_blocked_C4 I2 m2 I3 m3 a0 a1 a2 res g0 x0 v26 g1 x1 v76 g2 x2 v7 v8 v106)) ∧ ((decide (v76 < a0.sections)) = true → (0 ≤ v76 ∧ v76.toNat < a1.occ.length) ∧ (impl_blocked_C5 I1 m1 a0 a1 a2 g0 x0 v26 g1 x1 v76))
def impl_blocked_C7 (I0 : Nat → (List Int) → Int → Prop) (m0 : Nat → (List Int) → Int → Nat) (a0 : Plan) (a1 : Frame) (a2 : Int) (g0 : Nat) (x0 : (List Int)) (v26 : Int) : Prop :=
  (((v26 != a2) && ((((nth a1.ways v26).state) != 0) && ((nth (nth a0.bars a2) v26) || ((meets ((nth a0.ways a2).sections) ((nth a0.ways v26).over)) || (meets ((nth a0.ways a2).over) ((nth a0.ways v26).sections)))))) = true → ((x0.length + [v26].length) * 8 ≤ 140737488355328 ∧ x0.length + [v26].length ≤ 4611686018427387904) ∧ (I0 (g0 + 1) (x0 ++ [v26]) (IntKind.i64.wrap (v26 + 1)) ∧ m0 (g0 + 1) (x0 ++ [v26]) (IntKind.i64.wrap (v26 + 1)) < m0 g0 x0 v26)) ∧ (((v26 != a2) && ((((nth a1.ways v26).state) != 0) && ((nth (nth a0.bars a2) v26) || ((meets ((nth a0.ways a2).sections) ((nth a0.ways v26).over)) || (meets ((nth a0.ways a2).over) ((nth a0.ways v26).sections)))))) = false → I0 g0 x0 (IntKind.i64.wrap (v26 + 1)) ∧ m0 g0 x0 (IntKind.i64.wrap (v26 + 1)) < m0 g0 x0 v26)
def impl_blocked_C8 (I0 : Nat → (List Int) → Int → Prop) (m0 : Nat → (List Int) → Int → Nat) (I1 : Nat → (List Int) → Int → Nat → (List Int) → Int → Prop) (m1 : Nat → (List Int) → Int → Nat → (List Int) → Int → Nat) (I2 : Nat → (List Int) → Int → Nat → (List Int) → Int → Nat → (List Int) → Int → Bool → Bool → Prop) (m2 : Nat → (List Int) → Int → Nat → (List Int) → Int → Nat → (List Int) → Int → Bool → Bool → Nat) (I3 : Nat → (List Int) → Int → Nat → (List Int) → Int → Nat → (List Int) → Int → Bool → Bool → Nat → (List Int) → Int → Bool → Bool → Prop) (m3 : Nat → (List Int) → Int → Nat → (List Int) → Int → Nat → (List Int) → Int → Bool → Bool → Nat → (List Int) → Int → Bool → Bool → Nat) (a0 : Plan) (a1 : Frame) (a2 : Int) (res : Stays × Bool × Bool) (g0 : Nat) (x0 : (List Int)) (v26 : Int) : Prop :=
  ((decide (v26 < (a0.ways.length : Int))) = false → I1 g0 x0 v26 0 ([] : List Int) 0 ∧ ∀ (g1 : Nat) (x1 : (List Int)) (v76 : Int), I1 g0 x0 v26 g1 x1 v76 → (impl_blocked_C6 I1 m1 I2 m2 I3 m3 a0 a1 a2 res g0 x0 v26 g1 x1 v76)) ∧ ((decide (v26 < (a0.ways.length : Int))) = true → (0 ≤ v26 ∧ v26.toNat < a0.ways.length) ∧ (((v26 != a2) = true → (0 ≤ v26 ∧ v26.toNat < a1.ways.length) ∧ ((((nth a1.ways v26).state) != 0) = true → (0 ≤ a2 ∧ a2.toNat < a0.bars.length) ∧ (0 ≤ v26 ∧ v26.toNat < (nth a0.bars a2).length))) ∧ (impl_blocked_C7 I0 m0 a0 a1 a2 g0 x0 v26)))
def impl_blocked_C (a0 : Plan) (a1 : Frame) (a2 : Int) (res : Stays × Bool × Bool) (I0 : Nat → (List Int) → Int → Prop) (m0 : Nat → (List Int) → Int → Nat) (I1 : Nat → (List Int) → Int → Nat → (List Int) → Int → Prop) (m1 : Nat → (List Int) → Int → Nat → (List Int) → Int → Nat) (I2 : Nat → (List Int) → Int → Nat → (List Int) → Int → Nat → (List Int) → Int → Bool → Bool → Prop) (m2 : Nat → (List Int) → Int → Nat → (List Int) → Int → Nat → (List Int) → Int → Bool → Bool → Nat) (I3 : Nat → (List Int) → Int → Nat → (List Int) → Int → Nat → (List Int) → Int → Bool → Bool → Nat → (List Int) → Int → Bool → Bool → Prop) (m3 : Nat → (List Int) → Int → Nat → (List Int) → Int → Nat → (List Int) → Int → Bool → Bool → Nat → (List Int) → Int → Bool → Bool → Nat) : Prop :=
 (0 ≤ a2 ∧ a2.toNat < a0.ways.length) ∧ (a0.ways.length ≤ 4611686018427387904 → I0 0 ([] : List Int) 0 ∧ ∀ (g0 : Nat) (x0 : (List Int)) (v26 : Int), I0 g0 x0 v26 → (impl_blocked_C8 I0 m0 I1 m1 I2 m2 I3 m3 a0 a1 a2 res g0 x0 v26))
theorem impl_blocked_walk (a0 : Plan) (a1 : Frame) (a2 : Int) (res : Stays × Bool × Bool) (I0 : Nat → (List Int) → Int → Prop) (m0 : Nat → (List Int) → Int → Nat) (I1 : Nat → (List Int) → Int → Nat → (List Int) → Int → Prop) (m1 : Nat → (List Int) → Int → Nat → (List Int) → Int → Nat) (I2 : Nat → (List Int) → Int → Nat → (List Int) → Int → Nat → (List Int) → Int → Bool → Bool → Prop) (m2 : Nat → (List Int) → Int → Nat → (List Int) → Int → Nat → (List Int) → Int → Bool → Bool → Nat) (I3 : Nat → (List Int) → Int → Nat → (List Int) → Int → Nat → (List Int) → Int → Bool → Bool → Nat → (List Int) → Int → Bool → Bool → Prop) (m3 : Nat → (List Int) → Int → Nat → (List Int) → Int → Nat → (List Int) → Int → Bool → Bool → Nat → (List Int) → Int → Bool → Bool → Nat) (h : impl_blocked_C a0 a1 a2 res I0 m0 I1 m1 I2 m2 I3 m3) : FnV Try.prog 115 [.agg (ePlan false a0), .agg (eFrame false a1), ai a2] (.tup [.agg (eStays true res.1), ab res.2.1, ab res.2.2]) := by
 unfold impl_blocked_C at h
 refine FnS.go (fn := Try.f115) [(0, .agg (ePlan false a0)), (1, .agg (eFrame false a1)), (2, ai a2)] Try.func115 ?_
 show WpS _ (nv impl_blocked_b 1) _ ⟨mkS 169 [(0, .agg (ePlan false a0)), (1, .agg (eFrame false a1)), (2, ai a2)], [], []⟩
 refine cRN [] 0 [(8, ab false), (7, ab false), (6, ap 6 0), (4, ap 4 0), (3, ap 3 0)] [5] [0, 2, 1] [(6, [an, an, an]), (4, (eFrame false a1)), (3, (ePlan false a0))] [] ?_
 obtain ⟨q83, h⟩ := h
 refine cSeqE [(9, ap 9 0)] [6] (fun L => (9, (eWay false (nth a0.ways a2))) :: L) id (True) ?_ (fun q2 => ?_)
 ·
  replace h := q83
  refine rgS [] 1 ?_
  have q3 := h
  refine sIdx 4 (some 21) [(20, ai a2), (19, al (eWay false) a0.ways), (18, ap 3 2)] (eWay false) a0.ways 5 q3 ?_
  exact sEJ [(9, ap 9 0), (22, .agg (eWay false (nth a0.ways a2)))] trivial
 refine cSeq ?_
 refine cSeqM [(24, al (eWay false) a0.ways), (25, ai (a0.ways.length : Int)), (26, ai 0)] [7] (a0.ways.length ≤ 4611686018427387904) ?_ (fun q4 => ?_)
 ·
  refine rgS [] 2 ?_
  refine sLen 3 (some 25) [(24, al (eWay false) a0.ways), (23, ap 3 2)] (eWay false) a0.ways (fun q5 => ?_)
  exact sEJ [(26, ai 0)] q5
 replace h := h q4
 refine cBlock 0 ?_
 refine WpS.weak ?_ (weak_eq (s'' := ⟨(mkS 169 [(24, al (eWay false) a0.ways), (25, ai (a0.ways.length : Int)), (26, ai 0), (9, ap 9 0), (8, ab false), (7, ab false), (6, ap 6 0), (4, ap 4 0), (3, ap 3 0), (2, ai a2)]), [(9, (eWay false (nth a0.ways a2))), (6, [rf 0 0 (([] : List Int).length), an, an]), (4, (eFrame false a1)), (3, (ePlan false a0))], [⟨0, 1, List.map eInt ([] : List Int)⟩]⟩) (Weak.adoptL (T := (mkS 169 [(24, al (eWay false) a0.ways), (25, ai (a0.ways.length : Int)), (26, ai 0), (9, ap 9 0), (8, ab false), (7, ab false), (6, ap 6 0), (4, ap 4 0), (3, ap 3 0), (2, ai a2)])) (L := [(9, (eWay false (nth a0.ways a2))), (6, [an, an, an]), (4, (eFrame false a1)), (3, (ePlan false a0))]) (H := []) (cells := [an, an, an]) 6 0 1 (by kernel_rfl) (by kernel_rfl)) (by kernel_rfl))
 obtain ⟨q82, h⟩ := h
 refine cLoop (fun (v : Nat × (List Int) × Int) => (⟨(mkS 169 [(2, ai a2), (3, ap 3 0), (4, ap 4 0), (6, ap 6 0), (7, ab false), (8, ab false), (9, ap 9 0), (24, al (eWay false) a0.ways), (25, ai (a0.ways.length : Int)), (26, ai (v.2.2))]), [(9, (eWay false (nth a0.ways a2))), (6, [rf 0 (v.1) ((v.2.1).length), an, an]), (4, (eFrame false a1)), (3, (ePlan false a0))], [⟨(v.1), 1, List.map eInt (v.2.1)⟩]⟩ : St)) (fun (v : Nat × (List Int) × Int) => I0 (v.1) (v.2.1) (v.2.2)) (fun (v : Nat × (List Int) × Int) => m0 (v.1) (v.2.1) (v.2.2)) (0, ([] : List Int), 0) (wkL []) q82 (fun v hI => ?_)
 obtain ⟨g0, x0, v26⟩ := v
 replace h := h g0 x0 v26 hI
 dsimp only
 refine cRM [] 3 [(27, ab (decide (v26 < (a0.ways.length : Int))))] [1] [10] ?_
 unfold impl_blocked_C8 at h
 obtain ⟨q81, h⟩ := h
 refine cSeqM [] [0, 1, 10] ((decide (v26 < (a0.ways.length : Int))) = true) ?_ (fun q7 => ?_)
 ·
  replace h := q81
  refine cCond1 (fun q8 => ?_) (fun q8 => ?_)
  ·
   refine cSkip ?_
   exact QJoin.normal (by simp only [q8] <;> rfl) wkJ
  ·
   replace h := h q8
   refine cExit 0 ?_
   refine QJoin.exit ?_
   refine QRound.exit ?_
   refine QBlock.here ?_
   refine QSeq.normal ?_
   refine cSeq ?_
   refine cSeqG ⟨(mkS 169 [(3, ap 3 0), (4, ap 4 0), (6, ap 6 0), (7, ab false), (8, ab false), (9, ap 9 0), (75, ai a0.sections), (76, ai 0)]), [(9, (eWay false (nth a0.ways a2))), (6, [rf 0 g0 x0.length, an, an]), (4, (eFrame false a1)), (3, (ePlan false a0))], [⟨g0, 1, List.map eInt x0⟩]⟩ (True) ?_ (fun q9 => ?_)
   ·
    refine rgS [] 8 ?_
    exact sEJ [(76, ai 0), (75, ai a0.sections), (74, ap 3 0)] trivial
   refine cBlock 2 ?_
   refine WpS.weak ?_ (weak_eq (s'' := ⟨(mkS 169 [(3, ap 3 0), (4, ap 4 0), (6, ap 6 0), (7, ab false), (8, ab false), (9, ap 9 0), (75, ai a0.sections), (76, ai 0)]), [(9, (eWay false (nth a0.ways a2))), (6, [rf 0 g0 x0.length, rf 1 0 (([] : List Int).length), an]), (4, (eFrame false a1)), (3, (ePlan false a0))], [⟨g0, 1, List.map eInt x0⟩, ⟨0, 1, List.map eInt ([] : List Int)⟩]⟩) (Weak.adoptL (T := (mkS 169 [(3, ap 3 0), (4, ap 4 0), (6, ap 6 0), (7, ab false), (8, ab false), (9, ap 9 0), (75, ai a0.sections), (76, ai 0)])) (L := [(9, (eWay false (nth a0.ways a2))), (6, [rf 0 g0 x0.length, an, an]), (4, (eFrame false a1)), (3, (ePlan false a0))]) (H := [⟨g0, 1, List.map eInt x0⟩]) (cells := [rf 0 g0 x0.length, an, an]) 6 1 1 (by kernel_rfl) (by kernel_rfl)) (by kernel_rfl))
   obtain ⟨q66, h⟩ := h
   refine cLoop (fun (v : Nat × (List Int) × Int) => (⟨(mkS 169 [(3, ap 3 0), (4, ap 4 0), (6, ap 6 0), (7, ab false), (8, ab false), (9, ap 9 0), (75, ai a0.sections), (76, ai (v.2.2))]), [(9, (eWay false (nth a0.ways a2))), (6, [rf 0 g0 x0.length, rf 1 (v.1) ((v.2.1).length), an]), (4, (eFrame false a1)), (3, (ePlan false a0))], [⟨g0, 1, List.map eInt x0⟩, ⟨(v.1), 1, List.map eInt (v.2.1)⟩]⟩ : St)) (fun (v : Nat × (List Int) × Int) => I1 g0 x0 v26 (v.1) (v.2.1) (v.2.2)) (fun (v : Nat × (List Int) × Int) => m1 g0 x0 v26 (v.1) (v.2.1) (v.2.2)) (0, ([] : List Int), 0) (wkL []) q66 (fun v hI => ?_)
   obtain ⟨g1, x1, v76⟩ := v
   replace h := h g1 x1 v76 hI
   dsimp only
   refine cRM [] 9 [(77, ab (decide (v76 < a0.sections)))] [1] [8] ?_
   unfold impl_blocked_C6 at h
   obtain ⟨q65, h⟩ := h
   refine cSeqM [] [0, 1, 8] ((decide (v76 < a0.sections)) = true) ?_ (fun q11 => ?_)
   ·
    replace h := q65
    refine cCond1 (fun q12 => ?_) (fun q12 => ?_)
    ·
     refine cSkip ?_
     exact QJoin.normal (by simp only [q8, q12] <;> rfl) wkJ
    ·
     replace h := h q12
     refine cExit 2 ?_
     refine QJoin.exit ?_
     refine QRound.exit ?_
     refine QBlock.here ?_
     refine QSeq.normal ?_
     refine cSeq ?_
     refine cSeqG ⟨(mkS 169 [(3, ap 3 0), (4, ap 4 0), (6, ap 6 0), (7, ab false), (8, ab false), (9, ap 9 0), (105, ai (a0.switches.length : Int)), (106, ai 0)]), [(9, (eWay false (nth a0.ways a2))), (6, [rf 0 g0 x0.length, rf 1 g1 x1.length, an]), (4, (eFrame false a1)), (3, (ePlan false a0))], [⟨g0, 1, List.map eInt x0⟩, ⟨g1, 1, List.map eInt x1⟩]⟩ (a0.switches.length ≤ 4611686018427387904) ?_ (fun q13 => ?_)
     ·
      refine rgS [] 14 ?_
      refine sLen 3 (some 105) [(104, al eInt a0.switches), (103, ap 3 1)] eInt a0.switches (fun q14 => ?_)
      exact sEJ [(106, ai 0)] q14
     replace h := h q13
     refine cBlock 4 ?_
     refine WpS.weak ?_ (weak_eq (s'' := ⟨(mkS 169 [(3, ap 3 0), (4, ap 4 0), (6, ap 6 0), (7, ab false), (8, ab false), (9, ap 9 0), (105, ai (a0.switches.length : Int)), (106, ai 0)]), [(9, (eWay false (nth a0.ways a2))), (6, [rf 0 g0 x0.length, rf 1 g1 x1.length, rf 2 0 (([] : List Int).length)]), (4, (eFrame false a1)), (3, (ePlan false a0))], [⟨g0, 1, List.map eInt x0⟩, ⟨g1, 1, List.map eInt x1⟩, ⟨0, 1, List.map eInt ([] : List Int)⟩]⟩) (Weak.adoptL (T := (mkS 169 [(3, ap 3 0), (4, ap 4 0), (6, ap 6 0), (7, ab false), (8, ab false), (9, ap 9 0), (105, ai (a0.switches.length : Int)), (106, ai 0)])) (L := [(9, (eWay false (nth a0.ways a2))), (6, [rf 0 g0 x0.length, rf 1 g1 x1.length, an]), (4, (eFrame false a1)), (3, (ePlan false a0))]) (H := [⟨g0, 1, List.map eInt x0⟩, ⟨g1, 1, List.map eInt x1⟩]) (cells := [rf 0 g0 x0.length, rf 1 g1 x1.length, an]) 6 2 1 (by kernel_rfl) (by kernel_rfl)) (by kernel_rfl))
     obtain ⟨q56, h⟩ := h
     refine cLoop (fun (v : Nat × (List Int) × Int × Bool × Bool) => (⟨(mkS 169 [(3, ap 3 0), (4, ap 4 0), (6, ap 6 0), (7, ab (v.2.2.2.1)), (8, ab (v.2.2.2.2)), (9, ap 9 0), (105, ai (a0.switches.length : Int)), (106, ai (v.2.2.1))]), [(9, (eWay false (nth a0.ways a2))), (6, [rf 0 g0 x0.length, rf 1 g1 x1.length, rf 2 (v.1) ((v.2.1).length)]), (4, (eFrame false a1)), (3, (ePlan false a0))], [⟨g0, 1, List.map eInt x0⟩, ⟨g1, 1, List.map eInt x1⟩, ⟨(v.1), 1, List.map eInt (v.2.1)⟩]⟩ : St)) (fun (v : Nat × (List Int) × Int × Bool × Bool) => I2 g0 x0 v26 g1 x1 v76 (v.1) (v.2.1) (v.2.2.1) (v.2.2.2.1) (v.2.2.2.2)) (fun (v : Nat × (List Int) × Int × Bool × Bool) => m2 g0 x0 v26 g1 x1 v76 (v.1) (v.2.1) (v.2.2.1) (v.2.2.2.1) (v.2.2.2.2)) (0, ([] : List Int), 0, false, false) (wkL []) q56 (fun v hI => ?_)
     obtain ⟨g2, x2, v106, v7, v8⟩ := v
     replace h := h g2 x2 v106 v7 v8 hI
     dsimp only
     refine cRM [] 15 [(107, ab (decide (v106 < (a0.switches.length : Int))))] [1] [8] ?_
     unfold impl_blocked_C4 at h
     obtain ⟨q55, h⟩ := h
     refine cSeqM [] [0, 1, 8] ((decide (v106 < (a0.switches.length : Int))) = true) ?_ (fun q16 => ?_)
     ·
      replace h := q55
      refine cCond1 (fun q17 => ?_) (fun q17 => ?_)
      ·
       refine cSkip ?_
       exact QJoin.normal (by simp only [q8, q12, q17] <;> rfl) wkJ
      ·
       replace h := h q17
       refine cExit 4 ?_
       refine QJoin.exit ?_
       refine QRound.exit ?_
       refine QBlock.here ?_
       refine QSeq.normal ?_
       refine cSeqG ⟨(mkS 169 [(6, ap 6 0), (7, ab v7), (8, ab v8)]), [(9, (eWay false (nth a0.ways a2))), (6, [rf 0 g0 x0.length, rf 1 g1 x1.length, rf 2 g2 x2.length]), (4, (eFrame false a1)), (3, (ePlan false a0))], [⟨g0, 1, List.map eInt x0⟩, ⟨g1, 1, List.map eInt x1⟩, ⟨g2, 1, List.map eInt x2⟩]⟩ (True) ?_ (fun q18 => ?_)
       ·
        refine rgS [] 28 ?_
        exact sEJ [(8, ab v8), (7, ab v7), (168, ab v8), (167, ab v7), (166, .agg [rf 0 g0 x0.length, rf 1 g1 x1.length, rf 2 g2 x2.length])] trivial
       exact cRet (rtS (.tup [.agg [rf 0 g0 x0.length, rf 1 g1 x1.length, rf 2 g2 x2.length], ab v7, ab v8]) [.agg [rf 0 g0 x0.length, rf 1 g1 x1.length, rf 2 g2 x2.length], ab v7, ab v8] (.inl ⟨_, _, rfl, rfl, (PW.cons (.inl ⟨_, _, rfl, rfl, (PW.cons (sr_blk' (sz := 1) (by simp) rfl (cInt) h.1) (PW.cons (sr_blk' (sz := 1) (by simp) rfl (cInt) h.2.1) (PW.cons (sr_blk' (sz := 1) (by simp) rfl (cInt) h.2.2.1) PW.nil)))⟩) (PW.cons (.inr (sr_bool h.2.2.2.1)) (PW.cons (.inr (sr_bool h.2.2.2.2)) PW.nil)))⟩))
     replace h := h q16
     refine cSeq ?_
     refine cBlock 5 ?_
     refine cRM [] 16 [(13, ai v106), (108, ai v106)] [1] [8] ?_
     obtain ⟨q54, h⟩ := h
     refine cSeqM [(110, af eLie (needs (nth a0.ways a2))), (111, ai ((needs (nth a0.ways a2)).length : Int)), (112, ai 0)] [9] ((needs (nth a0.ways a2)).length ≤ 4611686018427387904) ?_ (fun q20 => ?_)
     ·
      replace h := q54
      refine rgS [] 17 ?_
      have q21 := h
      refine sCallV 2 (some 110) [(109, .agg (eWay false (nth a0.ways a2)))] [.agg (eWay false (nth a0.ways a2))] (impl_needs_V (nth a0.ways a2) q21) (PW.cons (Snap2.agg (PW.cons sa_lst (PW.cons sa_lst (PW.cons sa_lst (PW.cons sa_lst (PW.cons sa_lst PW.nil)))))) PW.nil) ?_
      refine sLen 1 (some 111) [] eLie (needs (nth a0.ways a2)) (fun q22 => ?_)
      exact sEJ [(112, ai 0)] q22
     replace h := h q20
     refine cBlock 6 ?_
     obtain ⟨q53, h⟩ := h
     refine cLoop (fun (v : Nat × (List Int) × Int × Bool × Bool) => (⟨(mkS 169 [(3, ap 3 0), (4, ap 4 0), (6, ap 6 0), (7, ab (v.2.2.2.1)), (8, ab (v.2.2.2.2)), (9, ap 9 0), (13, ai v106), (105, ai (a0.switches.length : Int)), (106, ai v106), (110, af eLie (needs (nth a0.ways a2))), (111, ai ((needs (nth a0.ways a2)).length : Int)), (112, ai (v.2.2.1))]), [(9, (eWay false (nth a0.ways a2))), (6, [rf 0 g0 x0.length, rf 1 g1 x1.length, rf 2 (v.1) ((v.2.1).length)]), (4, (eFrame false a1)), (3, (ePlan false a0))], [⟨g0, 1, List.map eInt x0⟩, ⟨g1, 1, List.map eInt x1⟩, ⟨(v.1), 1, List.map eInt (v.2.1)⟩]⟩ : St)) (fun (v : Nat × (List Int) × Int × Bool × Bool) => I3 g0 x0 v26 g1 x1 v76 g2 x2 v106 v7 v8 (v.1) (v.2.1) (v.2.2.1) (v.2.2.2.1) (v.2.2.2.2)) (fun (v : Nat × (List Int) × Int × Bool × Bool) => m3 g0 x0 v26 g1 x1 v76 g2 x2 v106 v7 v8 (v.1) (v.2.1) (v.2.2.1) (v.2.2.2.1) (v.2.2.2.2)) (g2, x2, 0, v7, v8) (wkL []) q53 (fun v hI => ?_)
     obtain ⟨g2', x2', v112, v7', v8'⟩ := v
     replace h := h g2' x2' v112 v7' v8' hI
     dsimp only
     refine cRM [] 18 [(113, ab (decide (v112 < ((needs (nth a0.ways a2)).length : Int))))] [1] [12] ?_
     unfold impl_blocked_C3 at h
     obtain ⟨q52, h⟩ := h
     refine cSeqM [] [0, 1, 12] ((decide (v112 < ((needs (nth a0.ways a2)).length : Int))) = true) ?_ (fun q24 => ?_)
     ·
      replace h := q52
      refine cCond1 (fun q25 => ?_) (fun q25 => ?_)
      ·
       refine cSkip ?_
       exact QJoin.normal (by simp only [q8, q12, q16, q25] <;> rfl) wkJ
      ·
       replace h := h q25
       refine cExit 6 ?_
       refine QJoin.exit ?_
       refine QRound.exit ?_
       refine QBlock.here ?_
       refine QBlock.normal ?_
       refine QSeq.normal ?_
       refine rgS [] 27 ?_
       refine sEnd [(106, ai (IntKind.i64.wrap (v106 + 1))), (165, ai (IntKind.i64.wrap (v106 + 1)))] ?_
       exact QRound.again (g2', x2', (IntKind.i64.wrap (v106 + 1)), v7', v8') h (wkL [])
     replace h := h q24
     refine cSeq ?_
     refine cBlock 7 ?_
     obtain ⟨q51, h⟩ := h
     refine cSeqE [(15, ap 15 0)] [12] (fun L => (15, (eLie (nth (needs (nth a0.ways a2)) v112))) :: L) id (True) ?_ (fun q26 => ?_)
     ·
      replace h := q51
      refine rgS [] 19 ?_
      have q27 := h
      refine sIdx 1 (some 114) [] eLie (needs (nth a0.ways a2)) 2 q27 ?_
      exact sEJ [(15, ap 15 0), (115, .agg (eLie (nth (needs (nth a0.ways a2)) v112)))] trivial
     unfold impl_blocked_C2 at h
     obtain ⟨q50, h⟩ := h
     refine cSeqM [] [0, 1, 12] ((!((((nth (needs (nth a0.ways a2)) v112).sw) != v106) || (((nth a1.points v106).want) == ((nth (needs (nth a0.ways a2)) v112).lie)))) = true) ?_ (fun q28 => ?_)
     ·
      replace h := q50
      obtain ⟨q33, h⟩ := h
      refine cSeqM [(130, ab ((((nth (needs (nth a0.ways a2)) v112).sw) != v106) || (((nth a1.points v106).want) == ((nth (needs (nth a0.ways a2)) v112).lie))))] [0, 1, 12] (True) ?_ (fun q29 => ?_)
      ·
       replace h := q33
       refine rgD [] 20 impl_blocked_o20 impl_blocked_o20a [] ?_
       refine tCase1 5 120 (((nth (needs (nth a0.ways a2)) v112).sw) != v106) [(119, ab (((nth (needs (nth a0.ways a2)) v112).sw) != v106)), (118, ai v106), (117, ai ((nth (needs (nth a0.ways a2)) v112).sw)), (116, ap 15 0)] (fun q30 => ?_) (fun q30 => ?_)
       ·
        exact tEJ ([(130, ab true)] ++ tz [129, 128, 127, 126, 125, 124, 123, 122, 121]) trivial (by simp only [q8, q12, q16, q24, q30] <;> kernel_rfl)
       ·
        replace h := h q30
        have q31 := h
        refine tIdx 4 (some 124) [(123, ai v106), (122, al ePoint a1.points), (121, ap 4 2)] ePoint a1.points 2 q31 ?_
        exact tEJ [(130, ab (((nth a1.points v106).want) == ((nth (needs (nth a0.ways a2)) v112).lie))), (129, ab (((nth a1.points v106).want) == ((nth (needs (nth a0.ways a2)) v112).lie))), (128, ai ((nth (needs (nth a0.ways a2)) v112).lie)), (127, ap 15 1), (126, ai ((nth a1.points v106).want)), (125, .rp (ePoint (nth a1.points v106)) 0)] trivial (by simp only [q8, q12, q16, q24, q30] <;> kernel_rfl)
      refine cCond1 (fun q32 => ?_) (fun q32 => ?_)
      ·
       replace h := h q32
       refine cExit 7 ?_
       refine QJoin.exit ?_
       refine QBlock.here ?_
       refine QSeq.normal ?_
       refine rgS [] 26 ?_
       refine sEnd [(112, ai (IntKind.i64.wrap (v112 + 1))), (164, ai (IntKind.i64.wrap (v112 + 1)))] ?_
       exact QRound.again (g2', x2', (IntKind.i64.wrap (v112 + 1)), v7', v8') h (wkL [15])
      ·
       refine cSkip ?_
       exact QJoin.normal (by simp only [q8, q12, q16, q24, q32] <;> rfl) wkJ
     replace h := h q28
     obtain ⟨q49, h⟩ := h
     refine cSeqM [(16, ab (decide (((pointF a0 a1 v106).length : Int) > 0)))] [12] ((pointF a0 a1 v106).length ≤ 4611686018427387904) ?_ (fun q34 => ?_)
     ·
      replace h := q49
      refine rgS [] 21 ?_
      have q35 := h
      refine sCallV 4 (some 134) [(133, ai v106), (132, .agg (eFrame false a1)), (131, .agg (ePlan false a0))] [.agg (ePlan false a0), .agg (eFrame false a1), ai v106] (impl_pointLock_V a0 a1 v106 q35) (PW.cons (Snap2.agg (PW.cons (.int _ _) (PW.cons sa_lst (PW.cons sa_lst (PW.cons sa_lst (PW.cons (.int _ _) PW.nil)))))) (PW.cons (Snap2.agg (PW.cons (.bool _) (PW.cons sa_lst (PW.cons sa_lst (PW.cons sa_lst PW.nil))))) (PW.cons (Snap2.of1 (.int _ _)) PW.nil))) ?_
      refine sLen 1 (some 135) [] eInt (pointF a0 a1 v106) (fun q36 => ?_)
      exact sEJ [(16, ab (decide (((pointF a0 a1 v106).length : Int) > 0))), (136, ab (decide (((pointF a0 a1 v106).length : Int) > 0)))] q36
     replace h := h q34
     obtain ⟨q48, h⟩ := h
     refine cSeqM [(17, ab (nth a1.occ (nth a0.switches v106)))] [13] (True) ?_ (fun q37 => ?_)
     ·
      replace h := q48
      refine rgD [] 22 impl_blocked_o22 impl_blocked_o22a [] ?_
      obtain ⟨q39, h⟩ := h
      refine tIdx 6 (some 142) [(141, ai v106), (140, al eInt a0.switches), (139, ap 3 1), (138, al eBool a1.occ), (137, ap 4 1)] eInt a0.switches 1 q39 ?_
      have q38 := h
      refine tIdx 2 (some 144) [(143, ai (nth a0.switches v106))] eBool a1.occ 1 q38 ?_
      exact tEJ [(17, ab (nth a1.occ (nth a0.switches v106))), (145, ab (nth a1.occ (nth a0.switches v106)))] trivial
     refine cSeqM [(7, ab (v7' || (decide (((pointF a0 a1 v106).length : Int) > 0)))), (8, ab (v8' || (nth a1.occ (nth a0.switches v106))))] [5, 2, 7] (True) ?_ (fun q40 => ?_)
     ·
      refine rgS [] 23 ?_
      refine sCase1 2 147 v7' [(146, ab v7')] (fun q41 => ?_) (fun q41 => ?_)
      ·
       refine sCase1 4 151 v8' [(150, ab v8'), (149, ab true), (148, t0)] (fun q42 => ?_) (fun q42 => ?_)
       ·
        exact sEJ ([(8, ab true), (7, ab true), (153, ab true)] ++ tz [152]) trivial (by simp only [q8, q12, q16, q24, q28, q41, q42] <;> kernel_rfl)
       ·
        exact sEJ [(8, ab (nth a1.occ (nth a0.switches v106))), (7, ab true), (153, ab (nth a1.occ (nth a0.switches v106))), (152, ab (nth a1.occ (nth a0.switches v106)))] trivial (by simp only [q8, q12, q16, q24, q28, q41, q42] <;> kernel_rfl)
      ·
       refine sCase1 4 151 v8' [(150, ab v8'), (149, ab (decide (((pointF a0 a1 v106).length : Int) > 0))), (148, ab (decide (((pointF a0 a1 v106).length : Int) > 0)))] (fun q43 => ?_) (fun q43 => ?_)
       ·
        exact sEJ ([(8, ab true), (7, ab (decide (((pointF a0 a1 v106).length : Int) > 0))), (153, ab true)] ++ tz [152]) trivial (by simp only [q8, q12, q16, q24, q28, q41, q43] <;> kernel_rfl)
       ·
        exact sEJ [(8, ab (nth a1.occ (nth a0.switches v106))), (7, ab (decide (((pointF a0 a1 v106).length : Int) > 0))), (153, ab (nth a1.occ (nth a0.switches v106))), (152, ab (nth a1.occ (nth a0.switches v106)))] trivial (by simp only [q8, q12, q16, q24, q28, q41, q43] <;> kernel_rfl)
     refine cSeqM [(157, ab ((decide (((pointF a0 a1 v106).length : Int) > 0)) || (nth a1.occ (nth a0.switches v106))))] [2, 2, 10] (True) ?_ (fun q44 => ?_)
     ·
      refine rgS [] 24 ?_
      refine sCase1 2 155 (decide (((pointF a0 a1 v106).length : Int) > 0)) [(154, ab (decide (((pointF a0 a1 v106).length : Int) > 0)))] (fun q45 => ?_) (fun q45 => ?_)
      ·
       exact sEJ ([(157, ab true)] ++ tz [156]) trivial (by simp only [q8, q12, q16, q24, q28, q45] <;> kernel_rfl)
      ·
       exact sEJ [(157, ab (nth a1.occ (nth a0.switches v106))), (156, ab (nth a1.occ (nth a0.switches v106)))] trivial (by simp only [q8, q12, q16, q24, q28, q45] <;> kernel_rfl)
     unfold impl_blocked_C1 at h
     refine cCond1 (fun q46 => ?_) (fun q46 => ?_)
     ·
      replace h := h.1 q46
      refine rgS [] 25 ?_
      obtain ⟨q47, h⟩ := h
      refine sApp 5 (some 162) [(161, .lst (List.map eInt [v106]) true true), (160, ai v106), (159, rf 2 g2' x2'.length), (158, ap 6 2)] eInt x2' [v106] (refrs true (List.map eInt [v106])) 2 g2' 1 8 (fun r => [⟨g0, 1, List.map eInt x0⟩, ⟨g1, 1, List.map eInt x1⟩, ⟨(g2' + 1), 1, r⟩]) rfl q47 ?_
      refine sEnd' [(163, ap 6 2)] [(15, (eLie (nth (needs (nth a0.ways a2)) v112))), (9, (eWay false (nth a0.ways a2))), (6, [rf 0 g0 x0.length, rf 1 g1 x1.length, rf 2 (g2' + 1) ((x2' ++ [v106]).length)]), (4, (eFrame false a1)), (3, (ePlan false a0))] [⟨g0, 1, List.map eInt x0⟩, ⟨g1, 1, List.map eInt x1⟩, ⟨(g2' + 1), 1, List.map eInt (x2' ++ [v106])⟩] ?_
      refine QBlock.normal ?_
      refine QSeq.normal ?_
      refine rgS [] 26 ?_
      refine sEnd [(112, ai (IntKind.i64.wrap (v112 + 1))), (164, ai (IntKind.i64.wrap (v112 + 1)))] ?_
      exact QRound.again ((g2' + 1), (x2' ++ [v106]), (IntKind.i64.wrap (v112 + 1)), (v7' || (decide (((pointF a0 a1 v106).length : Int) > 0))), (v8' || (nth a1.occ (nth a0.switches v106)))) h (wkL [15])
     ·
      replace h := h.2 q46
      refine cSkip ?_
      refine QBlock.normal ?_
      refine QSeq.normal ?_
      refine rgS [] 26 ?_
      refine sEnd [(112, ai (IntKind.i64.wrap (v112 + 1))), (164, ai (IntKind.i64.wrap (v112 + 1)))] ?_
      exact QRound.again (g2', x2', (IntKind.i64.wrap (v112 + 1)), (v7' || (decide (((pointF a0 a1 v106).length : Int) > 0))), (v8' || (nth a1.occ (nth a0.switches v106)))) h (wkL [15])
   replace h := h q11
   refine cSeq ?_
   refine cBlock 3 ?_
   refine cRM [] 10 [(12, ai v76), (78, ai v76)] [1] [8] ?_
   obtain ⟨q64, h⟩ := h
   refine cSeqM [(95, ab ((nth a1.occ v76) && ((hasInt ((nth a0.ways a2).sections) v76) || (hasInt ((nth a0.ways a2).over) v76))))] [9] (True) ?_ (fun q58 => ?_)
   ·
    replace h := q64
    refine rgS [] 11 ?_
    have q61 := h
    refine sIdx 4 (some 82) [(81, ai v76), (80, al eBool a1.occ), (79, ap 4 1)] eBool a1.occ 1 q61 ?_
    refine sCase1 2 84 (nth a1.occ v76) [(83, ab (nth a1.occ v76))] (fun q59 => ?_) (fun q59 => ?_)
    ·
     refine sCallV 4 (some 88) [(87, ai v76), (86, al eInt ((nth a0.ways a2).sections)), (85, ap 9 0)] [al eInt ((nth a0.ways a2).sections), ai v76] (slices_Contains_int_V ((nth a0.ways a2).sections) v76) (PW.cons (Snap2.of1 sa_lst) (PW.cons (Snap2.of1 (.int _ _)) PW.nil)) ?_
     refine sCase1 1 89 (hasInt ((nth a0.ways a2).sections) v76) [] (fun q60 => ?_) (fun q60 => ?_)
     ·
      exact sEJ ([(95, ab true), (94, ab true)] ++ tz [93, 92, 91, 90]) trivial (by simp only [q8, q11, q59, q60] <;> kernel_rfl)
     ·
      refine sCallV 4 (some 93) [(92, ai v76), (91, al eInt ((nth a0.ways a2).over)), (90, ap 9 3)] [al eInt ((nth a0.ways a2).over), ai v76] (slices_Contains_int_V ((nth a0.ways a2).over) v76) (PW.cons (Snap2.of1 sa_lst) (PW.cons (Snap2.of1 (.int _ _)) PW.nil)) ?_
      exact sEJ [(95, ab (hasInt ((nth a0.ways a2).over) v76)), (94, ab (hasInt ((nth a0.ways a2).over) v76))] trivial (by simp only [q8, q11, q59, q60] <;> kernel_rfl)
    ·
     exact sEJ ([(95, ab false)] ++ tz [94, 93, 92, 91, 90, 89, 88, 87, 86, 85]) trivial (by simp only [q8, q11, q59] <;> kernel_rfl)
   unfold impl_blocked_C5 at h
   refine cCond1 (fun q62 => ?_) (fun q62 => ?_)
   ·
    replace h := h.1 q62
    refine rgS [] 12 ?_
    obtain ⟨q63, h⟩ := h
    refine sApp 5 (some 100) [(99, .lst (List.map eInt [v76]) true true), (98, ai v76), (97, rf 1 g1 x1.length), (96, ap 6 1)] eInt x1 [v76] (refrs true (List.map eInt [v76])) 1 g1 1 8 (fun r => [⟨g0, 1, List.map eInt x0⟩, ⟨(g1 + 1), 1, r⟩]) rfl q63 ?_
    refine sEnd' [(101, ap 6 1)] [(9, (eWay false (nth a0.ways a2))), (6, [rf 0 g0 x0.length, rf 1 (g1 + 1) ((x1 ++ [v76]).length), an]), (4, (eFrame false a1)), (3, (ePlan false a0))] [⟨g0, 1, List.map eInt x0⟩, ⟨(g1 + 1), 1, List.map eInt (x1 ++ [v76])⟩] ?_
    refine QBlock.normal ?_
    refine QSeq.normal ?_
    refine rgS [] 13 ?_
    refine sEnd [(76, ai (IntKind.i64.wrap (v76 + 1))), (102, ai (IntKind.i64.wrap (v76 + 1)))] ?_
    exact QRound.again ((g1 + 1), (x1 ++ [v76]), (IntKind.i64.wrap (v76 + 1))) h (wkL [])
   ·
    replace h := h.2 q62
    refine cSkip ?_
    refine QBlock.normal ?_
    refine QSeq.normal ?_
    refine rgS [] 13 ?_
    refine sEnd [(76, ai (IntKind.i64.wrap (v76 + 1))), (102, ai (IntKind.i64.wrap (v76 + 1)))] ?_
    exact QRound.again (g1, x1, (IntKind.i64.wrap (v76 + 1))) h (wkL [])
 replace h := h q7
 refine cSeq ?_
 refine cBlock 1 ?_
 obtain ⟨q80, h⟩ := h
 refine cSeqE [(10, ai v26), (11, ap 11 0)] [10] (fun L => (11, (eWay false (nth a0.ways v26))) :: L) id (True) ?_ (fun q67 => ?_)
 ·
  replace h := q80
  refine rgS [] 4 ?_
  have q68 := h
  refine sIdx 2 (some 29) [(28, ai v26)] (eWay false) a0.ways 5 q68 ?_
  exact sEJ [(10, ai v26), (11, ap 11 0), (30, .agg (eWay false (nth a0.ways v26)))] trivial
 obtain ⟨q79, h⟩ := h
 refine cSeqM [(66, ab ((v26 != a2) && ((((nth a1.ways v26).state) != 0) && ((nth (nth a0.bars a2) v26) || ((meets ((nth a0.ways a2).sections) ((nth a0.ways v26).over)) || (meets ((nth a0.ways a2).over) ((nth a0.ways v26).sections)))))))] [1, 1, 10] (True) ?_ (fun q69 => ?_)
 ·
  replace h := q79
  refine rgS [] 5 ?_
  refine sCase1 4 34 (v26 != a2) [(33, ab (v26 != a2)), (32, ai a2), (31, ai v26)] (fun q70 => ?_) (fun q70 => ?_)
  ·
   replace h := h q70
   obtain ⟨q76, h⟩ := h
   refine sIdx 4 (some 38) [(37, ai v26), (36, al (eHeld false) a1.ways), (35, ap 4 3)] (eHeld false) a1.ways 5 q76 ?_
   refine sCase1 5 43 (((nth a1.ways v26).state) != 0) [(42, ab (((nth a1.ways v26).state) != 0)), (41, ab (((nth a1.ways v26).state) != 0)), (40, ai ((nth a1.ways v26).state)), (39, .rp (eHeld false (nth a1.ways v26)) 0)] (fun q71 => ?_) (fun q71 => ?_)
   ·
    replace h := h q71
    obtain ⟨q75, h⟩ := h
    refine sIdx 4 (some 47) [(46, ai a2), (45, al (eL eBool false) a0.bars), (44, ap 3 3)] (eL eBool false) a0.bars 1 q75 ?_
    have q74 := h
    refine sIdx 3 (some 50) [(49, ai v26), (48, al eBool (nth a0.bars a2))] eBool (nth a0.bars a2) 1 q74 ?_
    refine sCase1 2 52 (nth (nth a0.bars a2) v26) [(51, ab (nth (nth a0.bars a2) v26))] (fun q72 => ?_) (fun q72 => ?_)
    ·
     exact sEJ ([(66, ab true), (65, ab true)] ++ tz [64, 63, 62, 61, 60] ++ [(59, ab true), (58, ab true)] ++ tz [57, 56, 55, 54, 53]) trivial (by simp only [q7, q70, q71, q72] <;> kernel_rfl)
    ·
     refine sCallV 5 (some 57) [(56, al eInt ((nth a0.ways v26).over)), (55, ap 11 3), (54, al eInt ((nth a0.ways a2).sections)), (53, ap 9 0)] [al eInt ((nth a0.ways a2).sections), al eInt ((nth a0.ways v26).over)] (impl_meet_V ((nth a0.ways a2).sections) ((nth a0.ways v26).over)) (PW.cons (Snap2.of1 sa_lst) (PW.cons (Snap2.of1 sa_lst) PW.nil)) ?_
     refine sCase1 2 59 (meets ((nth a0.ways a2).sections) ((nth a0.ways v26).over)) [(58, ab (meets ((nth a0.ways a2).sections) ((nth a0.ways v26).over)))] (fun q73 => ?_) (fun q73 => ?_)
     ·
      exact sEJ ([(66, ab true), (65, ab true)] ++ tz [64, 63, 62, 61, 60]) trivial (by simp only [q7, q70, q71, q72, q73] <;> kernel_rfl)
     ·
      refine sCallV 5 (some 64) [(63, al eInt ((nth a0.ways v26).sections)), (62, ap 11 0), (61, al eInt ((nth a0.ways a2).over)), (60, ap 9 3)] [al eInt ((nth a0.ways a2).over), al eInt ((nth a0.ways v26).sections)] (impl_meet_V ((nth a0.ways a2).over) ((nth a0.ways v26).sections)) (PW.cons (Snap2.of1 sa_lst) (PW.cons (Snap2.of1 sa_lst) PW.nil)) ?_
      exact sEJ [(66, ab (meets ((nth a0.ways a2).over) ((nth a0.ways v26).sections))), (65, ab (meets ((nth a0.ways a2).over) ((nth a0.ways v26).sections)))] trivial (by simp only [q7, q70, q71, q72, q73] <;> kernel_rfl)
   ·
    exact sEJ ([(66, ab false)] ++ tz [65, 64, 63, 62, 61, 60, 59, 58, 57, 56, 55, 54, 53, 52, 51, 50, 49, 48, 47, 46, 45, 44]) trivial (by simp only [q7, q70, q71] <;> kernel_rfl)
  ·
   exact sEJ ([(66, ab false)] ++ tz [65, 64, 63, 62, 61, 60, 59, 58, 57, 56, 55, 54, 53, 52, 51, 50, 49, 48, 47, 46, 45, 44] ++ [(43, ab false), (42, ab false)] ++ tz [41, 40, 39, 38, 37, 36, 35]) trivial (by simp only [q7, q70] <;> kernel_rfl)
 unfold impl_blocked_C7 at h
 refine cCond1 (fun q77 => ?_) (fun q77 => ?_)
 ·
  replace h := h.1 q77
  refine rgS [] 6 ?_
  obtain ⟨q78, h⟩ := h
  refine sApp 5 (some 71) [(70, .lst (List.map eInt [v26]) true true), (69, ai v26), (68, rf 0 g0 x0.length), (67, ap 6 0)] eInt x0 [v26] (refrs true (List.map eInt [v26])) 0 g0 1 8 (fun r => [⟨(g0 + 1), 1, r⟩]) rfl q78 ?_
  refine sEnd' [(72, ap 6 0)] [(11, (eWay false (nth a0.ways v26))), (9, (eWay false (nth a0.ways a2))), (6, [rf 0 (g0 + 1) ((x0 ++ [v26]).length), an, an]), (4, (eFrame false a1)), (3, (ePlan false a0))] [⟨(g0 + 1), 1, List.map eInt (x0 ++ [v26])⟩] ?_
  refine QBlock.normal ?_
  refine QSeq.normal ?_
  refine rgS [] 7 ?_
  refine sEnd [(26, ai (IntKind.i64.wrap (v26 + 1))), (73, ai (IntKind.i64.wrap (v26 + 1)))] ?_
  exact QRound.again ((g0 + 1), (x0 ++ [v26]), (IntKind.i64.wrap (v26 + 1))) h (wkL [11])
 ·
  replace h := h.2 q77
  refine cSkip ?_
  refine QBlock.normal ?_
  refine QSeq.normal ?_
  refine rgS [] 7 ?_
  refine sEnd [(26, ai (IntKind.i64.wrap (v26 + 1))), (73, ai (IntKind.i64.wrap (v26 + 1)))] ?_
  exact QRound.again (g0, x0, (IntKind.i64.wrap (v26 + 1))) h (wkL [11])
theorem impl_blocked_V (a0 : Plan) (a1 : Frame) (a2 : Int) (hp : whyPre a0 a1 a2) : FnV Try.prog 115 [.agg (ePlan false a0), .agg (eFrame false a1), ai a2] (.tup [.agg (eStays true ((blockedF a0 a1 a2).1)), ab ((blockedF a0 a1 a2).2.1), ab ((blockedF a0 a1 a2).2.2)]) := impl_blocked_walk a0 a1 a2 (blockedF a0 a1 a2) (fun _ x v => upI a0.ways.length (fun _ => false) v ∧ x = filtI (hitW a0 a1 a2) v) (fun _ _ v => upM a0.ways.length v) (fun _ x0 _ _ x1 v => x0 = filtI (hitW a0 a1 a2) a0.ways.length ∧ upI a0.sections (fun _ => false) v ∧ x1 = filtI (hitS a0 a1 a2) v) (fun _ _ _ _ _ v => upM a0.sections v) (fun _ x0 _ _ x1 _ _ x2 v a b => x0 = filtI (hitW a0 a1 a2) a0.ways.length ∧ x1 = filtI (hitS a0 a1 a2) a0.sections ∧ upI a0.switches.length (fun _ => false) v ∧ x2 = filtI (hitP a0 a1 a2) v ∧ a = fiveN a0 a1 a2 v ∧ b = sixN a0 a1 a2 v) (fun _ _ _ _ _ _ _ _ v _ _ => upM a0.switches.length v) (fun _ _ _ _ _ _ _ x k a b _ x' j a' b' => blkI a0 a1 a2 k x a b x' j a' b') (fun _ _ _ _ _ _ _ _ _ _ _ _ _ j _ _ => upM (needs (nth a0.ways a2)).length j) (by
 unfold impl_blocked_C
 obtain ⟨hf, h0, h1⟩ := hp
 have hw := hf.fr.ways
 have hpt := hf.fr.points
 have hocc := hf.fr.occ
 have hP := hf.in
 have hn100 := hP.ways
 have hsw := hP.sw
 have hsec := hP.secs
 have hB := planGood_bars hf.good
 have hlt : a2.toNat < a0.ways.length := by omega
 have hmw := nth_mem hlt
 have hnd := needs_once hf.good hmw
 refine ⟨⟨h0, hlt⟩, fun hn => ⟨⟨up_start (len0 _), rfl⟩, fun g x v hI => ?_⟩⟩
 obtain ⟨hI, rfl⟩ := hI
 have hlen := filt_len (hitW a0 a1 a2) v
 have hvn := hI.2.1
 unfold impl_blocked_C8
 refine ⟨fun hv => ⟨⟨filt_end hI hv, up_start hsec.1, rfl⟩, fun g1 x1 s hJ => ?_⟩, fun hv => ⟨up_in hI hv, ⟨fun _ => ?_, ?_⟩⟩⟩
 ·obtain ⟨hx0, hJ, rfl⟩ := hJ
  have hlen1 := filt_len (hitS a0 a1 a2) s
  have hsn := hJ.2.1
  unfold impl_blocked_C6
  refine ⟨fun hs hm => ⟨⟨hx0, filt_end hJ hs, up_start (len0 _), rfl, rfl, rfl⟩, fun g2 x2 k a b hK => ?_⟩, fun hs => ?_⟩
  ·obtain ⟨_, hx1, hK, rfl, rfl, rfl⟩ := hK
   have hlen2 := filt_len (hitP a0 a1 a2) k
   have hkn := hK.2.1
   unfold impl_blocked_C4
   refine ⟨fun hk => ?_, fun hk => ⟨⟨by have := (hP.lies _ hmw).1; omega, by have := (hP.lies _ hmw).2.1; omega⟩, fun hnn => ?_⟩⟩
   ·have e1 := filt_end (q := hitP a0 a1 a2) hK hk
    have e : k = a0.switches.length := by
     have : ¬ k < (a0.switches.length : Int) := by simpa using hk
     omega
    refine ⟨⟨by omega, hx0⟩, ⟨by omega, hx1⟩, ⟨by omega, e1⟩, ?_, ?_⟩
    ·rw [e]; rfl
    ·rw [e]; rfl
   ·have hkin := up_in hK hk
    have hk1 := up_step (lenI hm) hK hk rfl
    refine ⟨⟨up_start (len0 _), by simp [needSeen], by simp [needSeen], by simp [needSeen]⟩, fun g2' x2' j a' b' hL => ?_⟩
    obtain ⟨hL, rfl, rfl, rfl⟩ := hL
    unfold impl_blocked_C3
    refine ⟨fun hj => ?_, fun hj => ⟨up_in hL hj, ?_⟩⟩
    ·have hj' : ¬ j < ((needs (nth a0.ways a2)).length : Int) := by simpa using hj
     rw [seen_all _ _ _ _ (j := j.toNat) (by omega)]
     have s1 := filt_step (q := hitP a0 a1 a2) (lenI hm) hK hk
     have s2 := (filt_step (q := fun k => offP a0 a1 a2 k && lockP a0 a1 k) (lenI hm) hK hk).2.2
     have s3 := (filt_step (q := fun k => offP a0 a1 a2 k && occP a0 a1 k) (lenI hm) hK hk).2.2
     refine ⟨⟨hx0, hx1, hk1.1, ?_, s2.symm, s3.symm⟩, hk1.2⟩
     cases hq : hitP a0 a1 a2 k with
     | true => rw [if_pos (show (offP a0 a1 a2 k && (lockP a0 a1 k || occP a0 a1 k)) = true from hq)]; exact s1.1 hq
     | false => rw [if_neg (by rw [show (offP a0 a1 a2 k && (lockP a0 a1 k || occP a0 a1 k)) = false from hq]; simp)]; exact s1.2.1 hq
    ·have hjin := up_in hL hj
     have hj1 := up_step (lenI hnn) hL hj rfl
     have ej : (IntKind.i64.wrap (j + 1)).toNat = j.toNat + 1 := by rw [wrap_up (lenI hnn) hL.1 (by simpa using hj)]; omega
     have hss := seen_s (f := a1) (k := k) hjin.2
     have hnth : nth (needs (nth a0.ways a2)) j = (needs (nth a0.ways a2))[j.toNat]'hjin.2 := nth_eq hjin.2
     have hsecs := hP.switches _ (nth_mem hkin.2)
     have hbi : ∀ (c : Prop) [Decidable c], (if c then filtI (hitP a0 a1 a2) k ++ [k] else filtI (hitP a0 a1 a2) k).length ≤ 41 := fun c _ => by
      split
      ·rw [List.length_append, List.length_singleton]; omega
      ·omega
     unfold impl_blocked_C2
     rw [hnth]
     refine ⟨⟨fun _ => ⟨hK.1, by omega⟩, fun hq => ?_⟩, fun hq => ⟨⟨hf, hK.1, by omega⟩, fun hpl => ⟨⟨⟨hK.1, hkin.2⟩, hsecs.1, by omega⟩, ?_⟩⟩⟩
     ·have : ((needs (nth a0.ways a2))[j.toNat].sw == k && !((nth a1.points k).want == (needs (nth a0.ways a2))[j.toNat].lie)) = false := by
       revert hq
       rw [show ((needs (nth a0.ways a2))[j.toNat].sw != k) = !((needs (nth a0.ways a2))[j.toNat].sw == k) from rfl]
       cases ((needs (nth a0.ways a2))[j.toNat].sw == k) <;> cases ((nth a1.points k).want == (needs (nth a0.ways a2))[j.toNat].lie) <;> simp
      rw [this, Bool.or_false] at hss
      exact ⟨⟨hj1.1, by rw [ej, hss], by rw [ej, hss], by rw [ej, hss]⟩, hj1.2⟩
     ·have hq2 : ((needs (nth a0.ways a2))[j.toNat].sw == k) = true ∧ ((nth a1.points k).want == (needs (nth a0.ways a2))[j.toNat].lie) = false := by
       revert hq
       rw [show ((needs (nth a0.ways a2))[j.toNat].sw != k) = !((needs (nth a0.ways a2))[j.toNat].sw == k) from rfl]
       cases ((needs (nth a0.ways a2))[j.toNat].sw == k) <;> cases ((nth a1.points k).want == (needs (nth a0.ways a2))[j.toNat].lie) <;> simp
      have hno := seen_no (f := a1) hnd hjin.2 hq2.1
      rw [hno, hq2.1, hq2.2] at hss
      rw [hno]
      unfold impl_blocked_C1
      have e5 : (decide (((pointF a0 a1 k).length : Int) > 0)) = lockP a0 a1 k := rfl
      have e6 : nth a1.occ (nth a0.switches k) = occP a0 a1 k := rfl
      rw [e5, e6]
      simp only [Bool.false_and, Bool.or_false, if_false, Bool.false_eq_true]
      have E : ∀ c : Bool, (needSeen a0 a1 a2 k (IntKind.i64.wrap (j + 1)).toNat && c) = c := fun c => by rw [ej, hss]; rfl
      refine ⟨fun hc => ⟨⟨by simp only [List.length_singleton]; omega, by simp only [List.length_singleton]; omega⟩, ⟨hj1.1, ?_, by rw [E], by rw [E]⟩, hj1.2⟩, fun hc => ⟨⟨hj1.1, ?_, by rw [E], by rw [E]⟩, hj1.2⟩⟩
      ·rw [E, if_pos hc]
      ·rw [E, if_neg (by rw [hc]; simp)]
  ·have hsin : 0 ≤ s ∧ s < a0.sections := ⟨hJ.1, by simpa using hs⟩
   have hst := up_step (N := a0.sections) (by omega) hJ hs rfl
   have s1 := filt_step (q := hitS a0 a1 a2) (N := a0.sections) (by omega) hJ hs
   refine ⟨⟨hJ.1, by omega⟩, ?_⟩
   unfold impl_blocked_C5
   exact ⟨fun hq => ⟨⟨by simp only [List.length_singleton]; omega, by simp only [List.length_singleton]; omega⟩, ⟨hx0, hst.1, s1.1 hq⟩, hst.2⟩, fun hq => ⟨⟨hx0, hst.1, s1.2.1 hq⟩, hst.2⟩⟩
 ·have hin := up_in hI hv
  have hbl := hB.len
  have hrow := hB.row a2 h0 h1
  exact ⟨⟨hin.1, by omega⟩, fun _ => ⟨⟨h0, by omega⟩, hin.1, by omega⟩⟩
 ·have hst := up_step (lenI hn) hI hv rfl
  have s1 := filt_step (q := hitW a0 a1 a2) (lenI hn) hI hv
  unfold impl_blocked_C7
  exact ⟨fun hq => ⟨⟨by simp only [List.length_singleton]; omega, by simp only [List.length_singleton]; omega⟩, ⟨hst.1, s1.1 hq⟩, hst.2⟩, fun hq => ⟨⟨hst.1, s1.2.1 hq⟩, hst.2⟩⟩)
noncomputable def impl_whyNot_b : Code := bodyC Try.f114
def impl_whyNot_C1 (a0 : Plan) (a1 : Frame) (a2 res : Int) : Prop :=
  ((decide (((((blockedF a0 a1 a2).1).ways).length : Int) > 0)) = true → 3 = res) ∧ ((decide (((((blockedF a0 a1 a2).1).ways).length : Int) > 0)) = false → (((blockedF a0 a1 a2).1).sections).length ≤ 4611686018427387904 → ((decide (((((blockedF a0 a1 a2).1).sections).length : Int) > 0)) = true → 4 = res) ∧ ((decide (((((blockedF a0 a1 a2).1).sections).length : Int) > 0)) = false → ((blockedF a0 a1 a2).2.1 = true → 5 = res) ∧ ((blockedF a0 a1 a2).2.1 = false → (blockedF a0 a1 a2).2.2 = true → 6 = res)))
def impl_whyNot_C2 (a0 : Plan) (a1 : Frame) (a2 res : Int) : Prop :=
  ((0 ≤ a2 ∧ a2.toNat < a1.ways.length) ∧ (((((nth a1.ways a2).state) != 0) = true → 2 = res) ∧ ((((nth a1.ways a2).state) != 0) = false → (((blockedF a0 a1 a2).1).ways).length ≤ 4611686018427387904 → impl_whyNot_C1 a0 a1 a2 res))) ∧ (((((blockedF a0 a1 a2).1).ways).length ≤ 4611686018427387904) ∧ ((((blockedF a0 a1 a2).1).sections).length ≤ 4611686018427387904) ∧ ((!(((nth a1.ways a2).state) != 0) && (!(decide (((((blockedF a0 a1 a2).1).ways).length : Int) > 0)) && (!(decide (((((blockedF a0 a1 a2).1).sections).length : Int) > 0)) && (!((blockedF a0 a1 a2).2.1) && (!((blockedF a0 a1 a2).2.2)))))) = true) → 0 = res)
def impl_whyNot_C (a0 : Plan) (a1 : Frame) (a2 : Int) (res : Int) : Prop :=
 (whyPre a0 a1 a2) ∧ (impl_whyNot_C2 a0 a1 a2 res)
theorem impl_whyNot_walk (a0 : Plan) (a1 : Frame) (a2 : Int) (res : Int) (h : impl_whyNot_C a0 a1 a2 res) : FnV Try.prog 114 [.agg (ePlan false a0), .agg (eFrame false a1), ai a2] (ai res) := by
 unfold impl_whyNot_C at h
 refine FnS.go (fn := Try.f114) [(0, .agg (ePlan false a0)), (1, .agg (eFrame false a1)), (2, ai a2)] Try.func114 ?_
 show WpS _ (nv impl_whyNot_b 1) _ ⟨mkS 40 [(0, .agg (ePlan false a0)), (1, .agg (eFrame false a1)), (2, ai a2)], [], []⟩
 refine cRN [] 0 [(6, ai 0), (4, ap 4 0), (3, ap 3 0)] [0, 1, 2] [0, 2, 1] [(4, (eFrame false a1)), (3, (ePlan false a0))] [] ?_
 obtain ⟨q26, h⟩ := h
 refine cSeqE [(7, ap 7 0), (8, ab ((blockedF a0 a1 a2).2.1)), (9, ab ((blockedF a0 a1 a2).2.2))] [1, 1, 1] (fun L => (7, (eStays true ((blockedF a0 a1 a2).1))) :: L) id (True) ?_ (fun q2 => ?_)
 ·
  replace h := q26
  refine rgS [] 1 ?_
  have q3 := h
  refine sCallV 4 (some 14) [(13, ai a2), (12, .agg (eFrame false a1)), (11, .agg (ePlan false a0))] [.agg (ePlan false a0), .agg (eFrame false a1), ai a2] (impl_blocked_V a0 a1 a2 q3) (PW.cons (Snap2.agg (PW.cons (.int _ _) (PW.cons sa_lst (PW.cons sa_lst (PW.cons sa_lst (PW.cons (.int _ _) PW.nil)))))) (PW.cons (Snap2.agg (PW.cons (.bool _) (PW.cons sa_lst (PW.cons sa_lst (PW.cons sa_lst PW.nil))))) (PW.cons (Snap2.of1 (.int _ _)) PW.nil))) ?_
  exact sEJ [(9, ab ((blockedF a0 a1 a2).2.2)), (8, ab ((blockedF a0 a1 a2).2.1)), (7, ap 7 0), (17, ab ((blockedF a0 a1 a2).2.2)), (16, ab ((blockedF a0 a1 a2).2.1)), (15, .agg (eStays true ((blockedF a0 a1 a2).1))), (10, .tup [.agg (eStays true ((blockedF a0 a1 a2).1)), ab ((blockedF a0 a1 a2).2.1), ab ((blockedF a0 a1 a2).2.2)])] trivial
 unfold impl_whyNot_C2 at h
 obtain ⟨q25, h⟩ := h
 refine cSeqM [] [] (((((blockedF a0 a1 a2).1).ways).length ≤ 4611686018427387904) ∧ ((((blockedF a0 a1 a2).1).sections).length ≤ 4611686018427387904) ∧ ((!(((nth a1.ways a2).state) != 0) && (!(decide (((((blockedF a0 a1 a2).1).ways).length : Int) > 0)) && (!(decide (((((blockedF a0 a1 a2).1).sections).length : Int) > 0)) && (!((blockedF a0 a1 a2).2.1) && (!((blockedF a0 a1 a2).2.2)))))) = true)) ?_ (fun q4 => ?_)
 ·
  replace h := q25
  refine cBlock 0 ?_
  obtain ⟨q23, h⟩ := h
  refine cSeqM [(18, ab (((nth a1.ways a2).state) != 0))] [3] (True) ?_ (fun q5 => ?_)
  ·
   replace h := q23
   refine rgS [] 2 ?_
   have q6 := h
   refine sIdx 4 (some 22) [(21, ai a2), (20, al (eHeld false) a1.ways), (19, ap 4 3)] (eHeld false) a1.ways 5 q6 ?_
   exact sEJ [(18, ab (((nth a1.ways a2).state) != 0)), (25, ab (((nth a1.ways a2).state) != 0)), (24, ai ((nth a1.ways a2).state)), (23, .rp (eHeld false (nth a1.ways a2)) 0)] trivial
  refine cCond1 (fun q7 => ?_) (fun q7 => ?_)
  ·
   replace h := h.1 q7
   refine cRM [] 3 [(6, ai 2)] [1] [] ?_
   exact cRet (QBlock.ret (QJoin.ret (rt1 (ai 2) (SnapR3.of1 (sr_int h)))))
  ·
   replace h := h.2 q7
   refine cSeqM [(26, ab (decide (((((blockedF a0 a1 a2).1).ways).length : Int) > 0)))] [0, 1, 3] ((((blockedF a0 a1 a2).1).ways).length ≤ 4611686018427387904) ?_ (fun q9 => ?_)
   ·
    refine rgS [] 4 ?_
    refine sLen 3 (some 29) [(28, af eInt (((blockedF a0 a1 a2).1).ways)), (27, ap 7 0)] eInt (((blockedF a0 a1 a2).1).ways) (fun q10 => ?_)
    exact sEJ [(26, ab (decide (((((blockedF a0 a1 a2).1).ways).length : Int) > 0))), (30, ab (decide (((((blockedF a0 a1 a2).1).ways).length : Int) > 0)))] q10
   replace h := h q9
   unfold impl_whyNot_C1 at h
   refine cCond1 (fun q11 => ?_) (fun q11 => ?_)
   ·
    replace h := h.1 q11
    refine cRM [] 5 [(6, ai 3)] [1] [] ?_
    exact cRet (QBlock.ret (QJoin.ret (rt1 (ai 3) (SnapR3.of1 (sr_int h)))))
   ·
    replace h := h.2 q11
    refine cSeqM [(31, ab (decide (((((blockedF a0 a1 a2).1).sections).length : Int) > 0)))] [0, 2, 2] ((((blockedF a0 a1 a2).1).sections).length ≤ 4611686018427387904) ?_ (fun q13 => ?_)
    ·
     refine rgS [] 6 ?_
     refine sLen 3 (some 34) [(33, af eInt (((blockedF a0 a1 a2).1).sections)), (32, ap 7 1)] eInt (((blockedF a0 a1 a2).1).sections) (fun q14 => ?_)
     exact sEJ [(31, ab (decide (((((blockedF a0 a1 a2).1).sections).length : Int) > 0))), (35, ab (decide (((((blockedF a0 a1 a2).1).sections).length : Int) > 0)))] q14
    replace h := h q13
    refine cCond1 (fun q15 => ?_) (fun q15 => ?_)
    ·
     replace h := h.1 q15
     refine cRM [] 7 [(6, ai 4)] [1] [] ?_
     exact cRet (QBlock.ret (QJoin.ret (rt1 (ai 4) (SnapR3.of1 (sr_int h)))))
    ·
     replace h := h.2 q15
     refine cRM [] 8 [(36, ab ((blockedF a0 a1 a2).2.1)), (37, ab ((blockedF a0 a1 a2).2.1))] [1] [0, 2, 1] ?_
     refine cCond1 (fun q18 => ?_) (fun q18 => ?_)
     ·
      replace h := h.1 q18
      refine cRM [] 9 [(6, ai 5)] [1] [] ?_
      exact cRet (QBlock.ret (QJoin.ret (rt1 (ai 5) (SnapR3.of1 (sr_int h)))))
     ·
      replace h := h.2 q18
      refine cRM [] 10 [(38, ab ((blockedF a0 a1 a2).2.2)), (39, ab ((blockedF a0 a1 a2).2.2))] [1] [] ?_
      refine cCond1 (fun q21 => ?_) (fun q21 => ?_)
      ·
       replace h := h q21
       refine cRM [] 11 [(6, ai 6)] [1] [] ?_
       exact cRet (QBlock.ret (QJoin.ret (rt1 (ai 6) (SnapR3.of1 (sr_int h)))))
      ·
       refine cSkip ?_
       refine QBlock.normal ?_
       exact QJoin.normal ⟨q9, q13, (by simp only [q7, q11, q15, q18, q21] <;> rfl)⟩ wkJ
 replace h := h q4
 refine cRM [] 12 [(6, ai 0)] [1] [] ?_
 exact cRet (rt1 (ai 0) (SnapR3.of1 (sr_int h)))
theorem impl_whyNot_V (a0 : Plan) (a1 : Frame) (a2 : Int) (hp : whyPre a0 a1 a2) : FnV Try.prog 114 [.agg (ePlan false a0), .agg (eFrame false a1), ai a2] (ai (whyF a0 a1 a2)) := impl_whyNot_walk a0 a1 a2 (whyF a0 a1 a2) (by
 unfold impl_whyNot_C impl_whyNot_C2 impl_whyNot_C1
 have hp' := hp
 obtain ⟨hf, h0, h1⟩ := hp'
 have hw := hf.fr.ways
 have eb : blockedF a0 a1 a2 = (staysF a0 a1 a2, fiveF a0 a1 a2, sixF a0 a1 a2) := rfl
 rw [eb]
 have e1 : (decide (((staysF a0 a1 a2).ways.length : Int) > 0)) = true ↔ (staysF a0 a1 a2).ways ≠ [] := by
  rw [decide_eq_true_eq, ← List.length_pos_iff]; omega
 have e2 : (decide (((staysF a0 a1 a2).sections.length : Int) > 0)) = true ↔ (staysF a0 a1 a2).sections ≠ [] := by
  rw [decide_eq_true_eq, ← List.length_pos_iff]; omega
 refine ⟨hp, ⟨⟨h0, by omega⟩, fun hz => ?_, fun hz _ => ⟨fun ha => ?_, fun ha _ => ⟨fun hb => ?_, fun hb => ⟨fun hc => ?_, fun hc hd => ?_⟩⟩⟩⟩, fun hq => ?_⟩
 ·unfold whyF; rw [if_pos (by simpa using hz)]
 ·unfold whyF codeF; rw [if_neg (by simpa using hz), if_pos (e1.1 ha)]
 ·unfold whyF codeF; rw [if_neg (by simpa using hz), if_neg (fun h => by rw [show (decide (((staysF a0 a1 a2).ways.length : Int) > 0)) = true from e1.2 h] at ha; cases ha), if_pos (e2.1 hb)]
 ·unfold whyF codeF; rw [if_neg (by simpa using hz), if_neg (fun h => by rw [show (decide (((staysF a0 a1 a2).ways.length : Int) > 0)) = true from e1.2 h] at ha; cases ha), if_neg (fun h => by rw [show (decide (((staysF a0 a1 a2).sections.length : Int) > 0)) = true from e2.2 h] at hb; cases hb), if_pos hc]
 ·unfold whyF codeF; rw [if_neg (by simpa using hz), if_neg (fun h => by rw [show (decide (((staysF a0 a1 a2).ways.length : Int) > 0)) = true from e1.2 h] at ha; cases ha), if_neg (fun h => by rw [show (decide (((staysF a0 a1 a2).sections.length : Int) > 0)) = true from e2.2 h] at hb; cases hb), if_neg (by rw [show fiveF a0 a1 a2 = false from hc]; simp), if_pos hd]
 ·have hq := hq.2.2
  simp only [Bool.and_eq_true, Bool.not_eq_true'] at hq
  obtain ⟨q1, q2, q3, q4, q5⟩ := hq
  unfold whyF codeF; rw [if_neg (by simpa using q1), if_neg (fun h => by rw [show (decide (((staysF a0 a1 a2).ways.length : Int) > 0)) = true from e1.2 h] at q2; cases q2), if_neg (fun h => by rw [show (decide (((staysF a0 a1 a2).sections.length : Int) > 0)) = true from e2.2 h] at q3; cases q3), if_neg (by rw [show fiveF a0 a1 a2 = false from q4]; simp), if_neg (by rw [show sixF a0 a1 a2 = false from q5]; simp)])
end Go.Proofs.Ytglpfccgmfhkdaa.Fw
