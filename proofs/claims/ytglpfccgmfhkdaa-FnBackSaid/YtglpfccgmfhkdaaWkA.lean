/- Walks and summaries of functions, printed by a program of mine (tools/mk.py), with the proofs of what they owe. -/

import Derived.Test.YtglpfccgmfhkdaaProg
import Derived.Test.YtglpfccgmfhkdaaSpC
set_option linter.unusedVariables false
set_option maxRecDepth 100000
set_option maxHeartbeats 4000000
set_option linter.unusedSimpArgs false
namespace Go.Proofs.Ytglpfccgmfhkdaa.Fw
open Go
attribute [local irreducible] evS evSD WpS Weak Oper.looksAt
noncomputable def slices_Index_int_b : Code := bodyC Try.f161
def slices_Index_int_C (a0 : (List Int)) (a1 : Int) (res : Int) (I0 : Int → Prop) (m0 : Int → Nat) : Prop :=
 a0.length ≤ 4611686018427387904 → I0 0 ∧ ∀ (v8 : Int), I0 v8 → (((decide (v8 < (a0.length : Int))) = false → (-1) = res) ∧ ((decide (v8 < (a0.length : Int))) = true → ((0 ≤ v8 ∧ v8.toNat < a0.length) ∧ ((a1 == (nth a0 v8)) = true → v8 = res)) ∧ ((!(a1 == (nth a0 v8))) = true → I0 (IntKind.i64.wrap (v8 + 1)) ∧ m0 (IntKind.i64.wrap (v8 + 1)) < m0 v8)))
theorem slices_Index_int_walk (a0 : (List Int)) (a1 : Int) (res : Int) (I0 : Int → Prop) (m0 : Int → Nat) (h : slices_Index_int_C a0 a1 res I0 m0) : FnV Try.prog 161 [al eInt a0, ai a1] (ai res) := by
 unfold slices_Index_int_C at h
 refine FnS.go (fn := Try.f161) [(0, al eInt a0), (1, ai a1)] Try.func161 ?_
 show WpS _ (nv slices_Index_int_b 1) _ ⟨mkS 19 [(0, al eInt a0), (1, ai a1)], [], []⟩
 refine cRM [] 0 [(4, ai 0)] [] [2] ?_
 refine cSeq ?_
 refine cSeqM [(7, ai (a0.length : Int)), (8, ai 0)] [2] (a0.length ≤ 4611686018427387904) ?_ (fun q2 => ?_)
 ·
  refine rgS [] 1 ?_
  refine sLen 2 (some 7) [(6, al eInt a0)] eInt a0 (fun q3 => ?_)
  exact sEJ [(8, ai 0)] q3
 replace h := h q2
 refine cBlock 0 ?_
 obtain ⟨q17, h⟩ := h
 refine cLoop (fun (v : Int) => (⟨(mkS 19 [(0, al eInt a0), (1, ai a1), (7, ai (a0.length : Int)), (8, ai v)]), [], []⟩ : St)) (fun (v : Int) => I0 v) (fun (v : Int) => m0 v) 0 (wkL []) q17 (fun v8 hI => ?_)
 replace h := h v8 hI
 refine cRM [] 2 [(9, ab (decide (v8 < (a0.length : Int))))] [1] [4] ?_
 obtain ⟨q16, h⟩ := h
 refine cSeqM [] [0, 1, 4] ((decide (v8 < (a0.length : Int))) = true) ?_ (fun q5 => ?_)
 ·
  replace h := q16
  refine cCond1 (fun q6 => ?_) (fun q6 => ?_)
  ·
   refine cSkip ?_
   exact QJoin.normal (by simp only [q6] <;> rfl) wkJ
  ·
   replace h := h q6
   refine cExit 0 ?_
   refine QJoin.exit ?_
   refine QRound.exit ?_
   refine QBlock.here ?_
   refine QSeq.normal ?_
   refine cSeqG ⟨(mkS 19 [(4, ai (-1))]), [], []⟩ (True) ?_ (fun q7 => ?_)
   ·
    refine rgS [] 7 ?_
    exact sEJ [(4, ai (-1))] trivial
   exact cRet (rt1 (ai (-1)) (SnapR3.of1 (sr_int h)))
 replace h := h q5
 obtain ⟨q15, h⟩ := h
 refine cSeqM [] [4] ((!(a1 == (nth a0 v8))) = true) ?_ (fun q8 => ?_)
 ·
  replace h := q15
  refine cBlock 1 ?_
  refine cRM [] 3 [(5, ai v8), (10, ai v8)] [1] [4] ?_
  obtain ⟨q14, h⟩ := h
  refine cSeqM [(16, ab (a1 == (nth a0 v8)))] [5] (True) ?_ (fun q10 => ?_)
  ·
   replace h := q14
   refine rgS [] 4 ?_
   have q11 := h
   refine sIdx 4 (some 14) [(13, ai v8), (12, al eInt a0), (11, ai a1)] eInt a0 1 q11 ?_
   exact sEJ [(16, ab (a1 == (nth a0 v8))), (15, ai (nth a0 v8))] trivial
  refine cCond1 (fun q12 => ?_) (fun q12 => ?_)
  ·
   replace h := h q12
   refine cRM [] 5 [(4, ai v8), (17, ai v8)] [1] [] ?_
   exact cRet (QBlock.ret (QJoin.ret (QRound.ret (QBlock.ret (QSeq.ret (rt1 (ai v8) (SnapR3.of1 (sr_int h))))))))
  ·
   refine cSkip ?_
   refine QBlock.normal ?_
   exact QJoin.normal (by simp only [q5, q12] <;> rfl) wkJ
 replace h := h q8
 refine rgS [] 6 ?_
 refine sEnd [(8, ai (IntKind.i64.wrap (v8 + 1))), (18, ai (IntKind.i64.wrap (v8 + 1)))] ?_
 exact QRound.again (IntKind.i64.wrap (v8 + 1)) h (wkL [])
theorem slices_Index_int_V (a0 : (List Int)) (a1 : Int) : FnV Try.prog 161 [al eInt a0, ai a1] (ai (idxInt a0 a1)) := slices_Index_int_walk a0 a1 (idxInt a0 a1) (upI a0.length (fun j => a1 == nth a0 j)) (upM a0.length) (by
 unfold slices_Index_int_C
 intro hn
 refine ⟨up_start (len0 _), fun v hI => ⟨fun hv => ?_, fun hv => ⟨⟨up_in hI hv, fun hp => ?_⟩, fun hp => up_step (lenI hn) hI hv (not_eq hp)⟩⟩⟩
 ·unfold idxInt; rw [up_none (q := fun x => a1 == x) hI hv]; rfl
 ·unfold idxInt; rw [up_first (q := fun x => a1 == x) hI hv hp]
  have := hI.1
  show v = (v.toNat : Int)
  omega)
noncomputable def slices_Contains_int_b : Code := bodyC Try.f130
def slices_Contains_int_C (a0 : (List Int)) (a1 : Int) (res : Bool) : Prop :=
 (decide ((idxInt a0 a1) ≥ 0)) = res
theorem slices_Contains_int_walk (a0 : (List Int)) (a1 : Int) (res : Bool) (h : slices_Contains_int_C a0 a1 res) : FnV Try.prog 130 [al eInt a0, ai a1] (ab res) := by
 unfold slices_Contains_int_C at h
 refine FnS.go (fn := Try.f130) [(0, al eInt a0), (1, ai a1)] Try.func130 ?_
 show WpS _ (nv slices_Contains_int_b 1) _ ⟨mkS 9 [(0, al eInt a0), (1, ai a1)], [], []⟩
 refine cRM [] 0 [(4, ab false)] [] [2] ?_
 refine cSeqM [(4, ab (decide ((idxInt a0 a1) ≥ 0)))] [] (True) ?_ (fun q2 => ?_)
 ·
  refine rgS [] 1 ?_
  refine sCallV 3 (some 7) [(6, ai a1), (5, al eInt a0)] [al eInt a0, ai a1] (slices_Index_int_V a0 a1) (PW.cons (Snap2.of1 sa_lst) (PW.cons (Snap2.of1 (.int _ _)) PW.nil)) ?_
  exact sEJ [(4, ab (decide ((idxInt a0 a1) ≥ 0))), (8, ab (decide ((idxInt a0 a1) ≥ 0)))] trivial
 exact cRet (rt1 (ab (decide ((idxInt a0 a1) ≥ 0))) (SnapR3.of1 (sr_bool h)))
theorem slices_Contains_int_V (a0 : (List Int)) (a1 : Int) : FnV Try.prog 130 [al eInt a0, ai a1] (ab (hasInt a0 a1)) := slices_Contains_int_walk a0 a1 (hasInt a0 a1) (by
 unfold slices_Contains_int_C
 exact idxInt_has a0 a1)
noncomputable def impl_meet_b : Code := bodyC Try.f74
def impl_meet_C (a0 : (List Int)) (a1 : (List Int)) (res : Bool) (I0 : Int → Prop) (m0 : Int → Nat) : Prop :=
 a0.length ≤ 4611686018427387904 → I0 0 ∧ ∀ (v9 : Int), I0 v9 → (((decide (v9 < (a0.length : Int))) = false → false = res) ∧ ((decide (v9 < (a0.length : Int))) = true → ((0 ≤ v9 ∧ v9.toNat < a0.length) ∧ ((hasInt a1 (nth a0 v9)) = true → true = res)) ∧ ((!(hasInt a1 (nth a0 v9))) = true → I0 (IntKind.i64.wrap (v9 + 1)) ∧ m0 (IntKind.i64.wrap (v9 + 1)) < m0 v9)))
theorem impl_meet_walk (a0 : (List Int)) (a1 : (List Int)) (res : Bool) (I0 : Int → Prop) (m0 : Int → Nat) (h : impl_meet_C a0 a1 res I0 m0) : FnV Try.prog 74 [al eInt a0, al eInt a1] (ab res) := by
 unfold impl_meet_C at h
 refine FnS.go (fn := Try.f74) [(0, al eInt a0), (1, al eInt a1)] Try.func74 ?_
 show WpS _ (nv impl_meet_b 1) _ ⟨mkS 17 [(0, al eInt a0), (1, al eInt a1)], [], []⟩
 refine cRM [] 0 [(4, ab false)] [] [2] ?_
 refine cSeq ?_
 refine cSeqM [(7, al eInt a0), (8, ai (a0.length : Int)), (9, ai 0)] [0, 1, 1] (a0.length ≤ 4611686018427387904) ?_ (fun q2 => ?_)
 ·
  refine rgS [] 1 ?_
  refine sLen 2 (some 8) [(7, al eInt a0)] eInt a0 (fun q3 => ?_)
  exact sEJ [(9, ai 0)] q3
 replace h := h q2
 refine cBlock 0 ?_
 obtain ⟨q17, h⟩ := h
 refine cLoop (fun (v : Int) => (⟨(mkS 17 [(1, al eInt a1), (7, al eInt a0), (8, ai (a0.length : Int)), (9, ai v)]), [], []⟩ : St)) (fun (v : Int) => I0 v) (fun (v : Int) => m0 v) 0 (wkL []) q17 (fun v9 hI => ?_)
 replace h := h v9 hI
 refine cRM [] 2 [(10, ab (decide (v9 < (a0.length : Int))))] [1] [4] ?_
 obtain ⟨q16, h⟩ := h
 refine cSeqM [] [0, 1, 4] ((decide (v9 < (a0.length : Int))) = true) ?_ (fun q5 => ?_)
 ·
  replace h := q16
  refine cCond1 (fun q6 => ?_) (fun q6 => ?_)
  ·
   refine cSkip ?_
   exact QJoin.normal (by simp only [q6] <;> rfl) wkJ
  ·
   replace h := h q6
   refine cExit 0 ?_
   refine QJoin.exit ?_
   refine QRound.exit ?_
   refine QBlock.here ?_
   refine QSeq.normal ?_
   refine cSeqG ⟨(mkS 17 [(4, ab false)]), [], []⟩ (True) ?_ (fun q7 => ?_)
   ·
    refine rgS [] 7 ?_
    exact sEJ [(4, ab false)] trivial
   exact cRet (rt1 (ab false) (SnapR3.of1 (sr_bool h)))
 replace h := h q5
 obtain ⟨q15, h⟩ := h
 refine cSeqM [] [4] ((!(hasInt a1 (nth a0 v9))) = true) ?_ (fun q8 => ?_)
 ·
  replace h := q15
  refine cBlock 1 ?_
  obtain ⟨q14, h⟩ := h
  refine cSeqM [(6, ai (nth a0 v9))] [4] (True) ?_ (fun q9 => ?_)
  ·
   replace h := q14
   refine rgS [] 3 ?_
   have q10 := h
   refine sIdx 1 (some 11) [] eInt a0 1 q10 ?_
   exact sEJ [(6, ai (nth a0 v9)), (12, ai (nth a0 v9))] trivial
  refine cSeqM [(15, ab (hasInt a1 (nth a0 v9)))] [0, 1, 4] (True) ?_ (fun q11 => ?_)
  ·
   refine rgS [] 4 ?_
   refine sCallV 3 (some 15) [(14, ai (nth a0 v9)), (13, al eInt a1)] [al eInt a1, ai (nth a0 v9)] (slices_Contains_int_V a1 (nth a0 v9)) (PW.cons (Snap2.of1 sa_lst) (PW.cons (Snap2.of1 (.int _ _)) PW.nil)) ?_
   exact sEJ [] trivial
  refine cCond1 (fun q12 => ?_) (fun q12 => ?_)
  ·
   replace h := h q12
   refine cRM [] 5 [(4, ab true)] [1] [] ?_
   exact cRet (QBlock.ret (QJoin.ret (QRound.ret (QBlock.ret (QSeq.ret (rt1 (ab true) (SnapR3.of1 (sr_bool h))))))))
  ·
   refine cSkip ?_
   refine QBlock.normal ?_
   exact QJoin.normal (by simp only [q5, q12] <;> rfl) wkJ
 replace h := h q8
 refine rgS [] 6 ?_
 refine sEnd [(9, ai (IntKind.i64.wrap (v9 + 1))), (16, ai (IntKind.i64.wrap (v9 + 1)))] ?_
 exact QRound.again (IntKind.i64.wrap (v9 + 1)) h (wkL [])
theorem impl_meet_V (a0 : (List Int)) (a1 : (List Int)) : FnV Try.prog 74 [al eInt a0, al eInt a1] (ab (meets a0 a1)) := impl_meet_walk a0 a1 (meets a0 a1) (upI a0.length (fun j => hasInt a1 (nth a0 j))) (upM a0.length) (by
 unfold impl_meet_C
 intro hn
 refine ⟨up_start (len0 _), fun v hI => ⟨fun hv => ?_, fun hv => ⟨⟨up_in hI hv, fun hp => ?_⟩, fun hp => up_step (lenI hn) hI hv (not_eq hp)⟩⟩⟩
 ·exact (up_nany (q := fun x => hasInt a1 x) hI hv).symm
 ·exact (up_any (q := fun x => hasInt a1 x) hI hv hp).symm)
noncomputable def slices_Clone_Lie_b : Code := bodyC Try.f158
def slices_Clone_Lie_C (a0 : (List Lie)) (res : (List Lie)) : Prop :=
 (a0 ≠ [] → (a0.length * 16 ≤ 140737488355328 ∧ a0.length ≤ 4611686018427387904) ∧ (a0 = res)) ∧ (a0 = [] → ∀ b2 : Bool, (b2 = true → [] = res) ∧ (b2 = false → (a0.length * 16 ≤ 140737488355328 ∧ a0.length ≤ 4611686018427387904) ∧ (a0 = res)))
theorem slices_Clone_Lie_walk (a0 : (List Lie)) (res : (List Lie)) (h : slices_Clone_Lie_C a0 res) : FnS Try.prog 158 [al eLie a0] [] (fun r H => r = rf 0 0 res.length ∧ H = [⟨0, 2, List.map eLie res⟩]) := by
 refine FnS.toOwn ?_
 unfold slices_Clone_Lie_C at h
 refine FnS.go (fn := Try.f158) [(0, al eLie a0)] Try.func158 ?_
 show WpS _ (nv slices_Clone_Lie_b 1) _ ⟨mkS 8 [(0, al eLie a0)], [], []⟩
 refine cRM [] 0 [(2, an)] [] [1] ?_
 refine cSeq ?_
 refine cSeq ?_
 refine rgS [] 1 ?_
 refine sNil 2 (some 4) [(3, al eLie a0)] eLie a0 (fun hx => ?_) (fun hx b2 => ?_)
 ·
  replace h := h.1 hx
  refine sEnd [] ?_
  refine QSeq.normal ?_
  refine cCond (.tmp 4) false (fun q3 => ?_) (fun q3 => ?_)
  ·
   cases q3
  ·
   refine cSkip ?_
   refine QSeq.normal ?_
   obtain ⟨q6, h⟩ := h
   refine cSeqG ⟨(mkS 8 [(2, rf 0 0 a0.length)]), [], [⟨0, 2, List.map eLie a0⟩]⟩ (True) ?_ (fun q4 => ?_)
   ·
    replace h := q6
    refine rgS [] 3 ?_
    have q5 := h
    refine sApp0 3 (some 7) [(6, al eLie a0), (5, an)] eLie a0 (refrs false (List.map eLie a0)) 0 2 16 (fun r => [⟨0, 2, r⟩]) rfl q5 ?_
    exact sEJ [(2, rf 0 0 a0.length)] trivial
   refine cRet ?_
   refine rtS (rf 0 0 a0.length) [rf 0 0 a0.length] ?_
   exact ⟨sg [some 0], own_of [some 0] rfl (by decide) ⟨rfl, (rowsOwn_eq (b := 0) (g := 0) (sz := 2) (xs := a0) (ys := res) rfl oLie h), trivial⟩, (.inr (ow_ref (by simp) rfl rfl (by have := congrArg List.length h; simpa using this)))⟩
 ·
  replace h := h.2 hx b2
  refine sEnd [] ?_
  refine QSeq.normal ?_
  refine cCond (.tmp 4) b2 (fun q7 => ?_) (fun q7 => ?_)
  ·
   replace h := h.1 q7
   refine cSeqG ⟨(mkS 8 [(2, an)]), [], []⟩ (True) ?_ (fun q8 => ?_)
   ·
    refine rgS [] 2 ?_
    exact sEJ [(2, an)] trivial
   refine cRet ?_
   refine QSeq.ret ?_
   refine rtS (an) [an] ?_
   exact ⟨sg [none], own_of [none] rfl (by decide) ⟨rfl, trivial, trivial⟩, (.inr (ow_nil (by simp) rfl rfl (by rw [← h]; rfl)))⟩
  ·
   replace h := h.2 q7
   refine cSkip ?_
   refine QSeq.normal ?_
   obtain ⟨q11, h⟩ := h
   refine cSeqG ⟨(mkS 8 [(2, rf 0 0 a0.length)]), [], [⟨0, 2, List.map eLie a0⟩]⟩ (True) ?_ (fun q9 => ?_)
   ·
    replace h := q11
    refine rgS [] 3 ?_
    have q10 := h
    refine sApp0 3 (some 7) [(6, al eLie a0), (5, an)] eLie a0 (refrs false (List.map eLie a0)) 0 2 16 (fun r => [⟨0, 2, r⟩]) rfl q10 ?_
    exact sEJ [(2, rf 0 0 a0.length)] trivial
   refine cRet ?_
   refine rtS (rf 0 0 a0.length) [rf 0 0 a0.length] ?_
   exact ⟨sg [some 0], own_of [some 0] rfl (by decide) ⟨rfl, (rowsOwn_eq (b := 0) (g := 0) (sz := 2) (xs := a0) (ys := res) rfl oLie h), trivial⟩, (.inr (ow_ref (by simp) rfl rfl (by have := congrArg List.length h; simpa using this)))⟩
theorem slices_Clone_Lie_O (a0 : (List Lie)) (hp : small a0) : FnS Try.prog 158 [al eLie a0] [] (fun r H => r = rf 0 0 ((idt a0).length) ∧ H = [⟨0, 2, List.map eLie (idt a0)⟩]) := slices_Clone_Lie_walk a0 (idt a0) (by
 have hp : a0.length ≤ 1048576 := hp
 unfold slices_Clone_Lie_C
 refine ⟨fun h => ⟨⟨by omega, by omega⟩, rfl⟩, fun h b => ⟨fun _ => ?_, fun _ => ⟨⟨by omega, by omega⟩, rfl⟩⟩⟩
 exact h.symm)
noncomputable def impl_needs_b : Code := bodyC Try.f123
def impl_needs_o1 : List Item := [iq 0, iq 1, iq 3, iq 4, ⟨2, true, false, [3, 4]⟩, ⟨5, true, false, []⟩, iq 6]
def impl_needs_o1a : List (List Nat) := [[], [0], [0, 1], [], [3], rg 0 5, rg 0 6]
def impl_needs_C (a0 : Way) (res : (List Lie)) : Prop :=
 ((small a0.lies) ∧ (((idt a0.lies).length + a0.flanks.length) * 16 ≤ 140737488355328 ∧ (idt a0.lies).length + a0.flanks.length ≤ 4611686018427387904)) ∧ (((idt a0.lies) ++ a0.flanks).length ≤ 4611686018427387904 ∧ ((idt a0.lies) ++ a0.flanks) = res)
theorem impl_needs_walk (a0 : Way) (res : (List Lie)) (h : impl_needs_C a0 res) : FnV Try.prog 123 [.agg (eWay false a0)] (af eLie res) := by
 unfold impl_needs_C at h
 refine FnS.go (fn := Try.f123) [(0, .agg (eWay false a0))] Try.func123 ?_
 show WpS _ (nv impl_needs_b 1) _ ⟨mkS 9 [(0, .agg (eWay false a0))], [], []⟩
 refine cRN [] 0 [(2, an), (1, ap 1 0)] [0, 1, 1] [] [(1, (eWay false a0))] [] ?_
 obtain ⟨q5, h⟩ := h
 refine cSeqE [(2, rf 0 1 (((idt a0.lies) ++ a0.flanks).length))] [] id (fun _ => [⟨1, 2, List.map eLie ((idt a0.lies) ++ a0.flanks)⟩]) (True) ?_ (fun q2 => ?_)
 ·
  replace h := q5
  refine rgD [] 1 impl_needs_o1 impl_needs_o1a [] ?_
  obtain ⟨q3, h⟩ := h
  refine tCallO 5 (some 5) [(7, al eLie a0.flanks), (6, ap 1 2), (4, al eLie a0.lies), (3, ap 1 1)] [al eLie a0.lies] (fun L H => floatsS Try.prog (opsN impl_needs_b 6) [3, 4] [(7, al eLie a0.flanks), (6, ap 1 2), (4, al eLie a0.lies), (3, ap 1 1), (1, ap 1 0)] L H) (rf 0 0 ((idt a0.lies).length)) [⟨0, 2, List.map eLie (idt a0.lies)⟩] (slices_Clone_Lie_O a0.lies q3) (PW.cons (Snap2.of1 sa_lst) PW.nil) (ownH_cons (fun _ => rfl) rfl) (shift_eq (shift_cons (fun _ => rfl) rfl) (by kernel_rfl)) (of_eqP (ψ := ((true = true ∧ true = true ∧ ((ap 1 2 : AV) = ap 1 2)) ∧ ((true = true ∧ true = true ∧ ((al eLie a0.flanks : AV) = al eLie a0.flanks)) ∧ True))) (by kernel_rfl) ⟨⟨rfl, rfl, rfl⟩, ⟨⟨rfl, rfl, rfl⟩, trivial⟩⟩) ?_
  have q4 := h
  refine tApp 1 (some 8) [] eLie (idt a0.lies) a0.flanks (refrs false (List.map eLie a0.flanks)) 0 0 2 16 (fun _ => True) (fun r => [⟨1, 2, r⟩]) rfl q4 trivial ?_
  exact tEJ [(2, rf 0 1 (((idt a0.lies) ++ a0.flanks).length))] trivial
 exact cRet (rt1 (rf 0 1 (((idt a0.lies) ++ a0.flanks).length)) (SnapR3.of1 (sr_blk' (sz := 2) (by simp) rfl (cLie) h)))
theorem impl_needs_V (a0 : Way) (hp : preNeeds a0) : FnV Try.prog 123 [.agg (eWay false a0)] (af eLie (needs a0)) := impl_needs_walk a0 (needs a0) (by
 obtain ⟨h1, h2⟩ := hp
 unfold impl_needs_C idt small
 exact ⟨⟨h1, by omega, by omega⟩, by rw [List.length_append]; omega, rfl⟩)
noncomputable def impl_twice_int_b : Code := bodyC Try.f129
def impl_twice_int_o4 : List Item := [iq 0, iq 1, iq 2, iq 3, iq 4, iq 5, iq 6, iq 7]
def impl_twice_int_o4a : List (List Nat) := [[], [], [0, 1], [], [], [3, 4], [3, 4, 5], rg 0 7]
def impl_twice_int_C1 (I0 : Int → Prop) (m0 : Int → Nat) (a0 : (List Int)) (res : Bool) : Prop :=
  a0.length ≤ 4611686018427387904 → I0 0 ∧ ∀ (v6 : Int), I0 v6 → (((decide (v6 < (a0.length : Int))) = false → false = res) ∧ ((decide (v6 < (a0.length : Int))) = true → (((0 ≤ v6 ∧ v6 ≤ (a0.length : Int)) ∧ (0 ≤ v6 ∧ v6.toNat < a0.length)) ∧ ((hasInt (a0.take v6.toNat) (nth a0 v6)) = true → true = res)) ∧ ((!(hasInt (a0.take v6.toNat) (nth a0 v6))) = true → I0 (IntKind.i64.wrap (v6 + 1)) ∧ m0 (IntKind.i64.wrap (v6 + 1)) < m0 v6)))
def impl_twice_int_C (a0 : (List Int)) (res : Bool) (I0 : Int → Prop) (m0 : Int → Nat) : Prop :=
 impl_twice_int_C1 I0 m0 a0 res
theorem impl_twice_int_walk (a0 : (List Int)) (res : Bool) (I0 : Int → Prop) (m0 : Int → Nat) (h : impl_twice_int_C a0 res I0 m0) : FnV Try.prog 129 [al eInt a0] (ab res) := by
 unfold impl_twice_int_C at h
 refine FnS.go (fn := Try.f129) [(0, al eInt a0)] Try.func129 ?_
 show WpS _ (nv impl_twice_int_b 1) _ ⟨mkS 18 [(0, al eInt a0)], [], []⟩
 refine cRM [] 0 [(2, ab false)] [] [1] ?_
 unfold impl_twice_int_C1 at h
 refine cSeq ?_
 refine cSeqM [(5, ai (a0.length : Int)), (6, ai 0)] [1] (a0.length ≤ 4611686018427387904) ?_ (fun q2 => ?_)
 ·
  refine rgS [] 1 ?_
  refine sLen 2 (some 5) [(4, al eInt a0)] eInt a0 (fun q3 => ?_)
  exact sEJ [(6, ai 0)] q3
 replace h := h q2
 refine cBlock 0 ?_
 obtain ⟨q18, h⟩ := h
 refine cLoop (fun (v : Int) => (⟨(mkS 18 [(0, al eInt a0), (5, ai (a0.length : Int)), (6, ai v)]), [], []⟩ : St)) (fun (v : Int) => I0 v) (fun (v : Int) => m0 v) 0 (wkL []) q18 (fun v6 hI => ?_)
 replace h := h v6 hI
 refine cRM [] 2 [(7, ab (decide (v6 < (a0.length : Int))))] [1] [3] ?_
 obtain ⟨q17, h⟩ := h
 refine cSeqM [] [0, 1, 3] ((decide (v6 < (a0.length : Int))) = true) ?_ (fun q5 => ?_)
 ·
  replace h := q17
  refine cCond1 (fun q6 => ?_) (fun q6 => ?_)
  ·
   refine cSkip ?_
   exact QJoin.normal (by simp only [q6] <;> rfl) wkJ
  ·
   replace h := h q6
   refine cExit 0 ?_
   refine QJoin.exit ?_
   refine QRound.exit ?_
   refine QBlock.here ?_
   refine QSeq.normal ?_
   refine cSeqG ⟨(mkS 18 [(2, ab false)]), [], []⟩ (True) ?_ (fun q7 => ?_)
   ·
    refine rgS [] 7 ?_
    exact sEJ [(2, ab false)] trivial
   exact cRet (rt1 (ab false) (SnapR3.of1 (sr_bool h)))
 replace h := h q5
 obtain ⟨q16, h⟩ := h
 refine cSeqM [] [3] ((!(hasInt (a0.take v6.toNat) (nth a0 v6))) = true) ?_ (fun q8 => ?_)
 ·
  replace h := q16
  refine cBlock 1 ?_
  refine cRM [] 3 [(3, ai v6), (8, ai v6)] [1] [3] ?_
  obtain ⟨q15, h⟩ := h
  refine cSeqM [(16, ab (hasInt (a0.take v6.toNat) (nth a0 v6)))] [0, 1, 3] (True) ?_ (fun q10 => ?_)
  ·
   replace h := q15
   refine rgD [] 4 impl_twice_int_o4 impl_twice_int_o4a [] ?_
   obtain ⟨q12, h⟩ := h
   refine tSlcTo 3 (some 11) [(10, ai v6), (9, al eInt a0)] eInt a0 1 false q12 ?_
   have q11 := h
   refine tIdx 3 (some 14) [(13, ai v6), (12, al eInt a0)] eInt a0 1 q11 ?_
   refine tCallV 2 (some 16) [(15, ai (nth a0 v6))] [al eInt (a0.take v6.toNat), ai (nth a0 v6)] (slices_Contains_int_V (a0.take v6.toNat) (nth a0 v6)) (PW.cons (Snap2.of1 sa_lst) (PW.cons (Snap2.of1 (.int _ _)) PW.nil)) ?_
   exact tEJ [] trivial
  refine cCond1 (fun q13 => ?_) (fun q13 => ?_)
  ·
   replace h := h q13
   refine cRM [] 5 [(2, ab true)] [1] [] ?_
   exact cRet (QBlock.ret (QJoin.ret (QRound.ret (QBlock.ret (QSeq.ret (rt1 (ab true) (SnapR3.of1 (sr_bool h))))))))
  ·
   refine cSkip ?_
   refine QBlock.normal ?_
   exact QJoin.normal (by simp only [q5, q13] <;> rfl) wkJ
 replace h := h q8
 refine rgS [] 6 ?_
 refine sEnd [(6, ai (IntKind.i64.wrap (v6 + 1))), (17, ai (IntKind.i64.wrap (v6 + 1)))] ?_
 exact QRound.again (IntKind.i64.wrap (v6 + 1)) h (wkL [])
theorem impl_twice_int_V (a0 : (List Int)) : FnV Try.prog 129 [al eInt a0] (ab (dup a0)) := impl_twice_int_walk a0 (dup a0) (upI a0.length (fun j => hasInt (a0.take j.toNat) (nth a0 j))) (upM a0.length) (by
 unfold impl_twice_int_C impl_twice_int_C1
 intro hn
 refine ⟨up_start (len0 _), fun v hI => ⟨fun hv => ?_, fun hv => ⟨⟨⟨⟨hI.1, hI.2.1⟩, up_in hI hv⟩, fun hp => ?_⟩, fun hp => up_step (lenI hn) hI hv (not_eq hp)⟩⟩⟩
 ·exact (dup_false (up_end hI hv)).symm
 ·exact (dup_true (up_in hI hv).1 (up_in hI hv).2 hp).symm)
end Go.Proofs.Ytglpfccgmfhkdaa.Fw
