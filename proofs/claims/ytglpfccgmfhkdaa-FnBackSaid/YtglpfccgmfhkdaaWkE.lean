/- Walks and summaries of functions, printed by a program of mine (tools/mk.py), with the proofs of what they owe. -/

import Derived.Test.YtglpfccgmfhkdaaProg
import Derived.Test.YtglpfccgmfhkdaaSpG
import Derived.Test.YtglpfccgmfhkdaaWkA
import Derived.Test.YtglpfccgmfhkdaaWkB
set_option linter.unusedVariables false
set_option maxRecDepth 100000
set_option maxHeartbeats 4000000
set_option linter.unusedSimpArgs false
namespace Go.Proofs.Ytglpfccgmfhkdaa.Fw
open Go
attribute [local irreducible] evS evSD WpS Weak Oper.looksAt
noncomputable def slices_Clone_bool_b : Code := bodyC Try.f120
def slices_Clone_bool_C (a0 : (List Bool)) (res : (List Bool)) : Prop :=
 (a0 ≠ [] → (a0.length * 1 ≤ 140737488355328 ∧ a0.length ≤ 4611686018427387904) ∧ (a0 = res)) ∧ (a0 = [] → ∀ b2 : Bool, (b2 = true → [] = res) ∧ (b2 = false → (a0.length * 1 ≤ 140737488355328 ∧ a0.length ≤ 4611686018427387904) ∧ (a0 = res)))
theorem slices_Clone_bool_walk (a0 : (List Bool)) (res : (List Bool)) (h : slices_Clone_bool_C a0 res) : FnS Try.prog 120 [al eBool a0] [] (fun r H => r = rf 0 0 res.length ∧ H = [⟨0, 1, List.map eBool res⟩]) := by
 refine FnS.toOwn ?_
 unfold slices_Clone_bool_C at h
 refine FnS.go (fn := Try.f120) [(0, al eBool a0)] Try.func120 ?_
 show WpS _ (nv slices_Clone_bool_b 1) _ ⟨mkS 8 [(0, al eBool a0)], [], []⟩
 refine cRM [] 0 [(2, an)] [] [1] ?_
 refine cSeq ?_
 refine cSeq ?_
 refine rgS [] 1 ?_
 refine sNil 2 (some 4) [(3, al eBool a0)] eBool a0 (fun hx => ?_) (fun hx b2 => ?_)
 ·
  replace h := h.1 hx
  refine sEnd [] ?_
  refine QSeq.normal ?_
  refine cCond (.tmp 4) false (fun q3 => ?_) (fun q3 => ?_)
  ·
   cases q3
  ·
   refine cSkip ?_
   refine QSeq.normal ?_
   obtain ⟨q6, h⟩ := h
   refine cSeqG ⟨(mkS 8 [(2, rf 0 0 a0.length)]), [], [⟨0, 1, List.map eBool a0⟩]⟩ (True) ?_ (fun q4 => ?_)
   ·
    replace h := q6
    refine rgS [] 3 ?_
    have q5 := h
    refine sApp0 3 (some 7) [(6, al eBool a0), (5, an)] eBool a0 (refrs false (List.map eBool a0)) 0 1 1 (fun r => [⟨0, 1, r⟩]) rfl q5 ?_
    exact sEJ [(2, rf 0 0 a0.length)] trivial
   refine cRet ?_
   refine rtS (rf 0 0 a0.length) [rf 0 0 a0.length] ?_
   exact ⟨sg [some 0], own_of [some 0] rfl (by decide) ⟨rfl, (rowsOwn_eq (b := 0) (g := 0) (sz := 1) (xs := a0) (ys := res) rfl oBool h), trivial⟩, (.inr (ow_ref (by simp) rfl rfl (by have := congrArg List.length h; simpa using this)))⟩
 ·
  replace h := h.2 hx b2
  refine sEnd [] ?_
  refine QSeq.normal ?_
  refine cCond (.tmp 4) b2 (fun q7 => ?_) (fun q7 => ?_)
  ·
   replace h := h.1 q7
   refine cSeqG ⟨(mkS 8 [(2, an)]), [], []⟩ (True) ?_ (fun q8 => ?_)
   ·
    refine rgS [] 2 ?_
    exact sEJ [(2, an)] trivial
   refine cRet ?_
   refine QSeq.ret ?_
   refine rtS (an) [an] ?_
   exact ⟨sg [none], own_of [none] rfl (by decide) ⟨rfl, trivial, trivial⟩, (.inr (ow_nil (by simp) rfl rfl (by rw [← h]; rfl)))⟩
  ·
   replace h := h.2 q7
   refine cSkip ?_
   refine QSeq.normal ?_
   obtain ⟨q11, h⟩ := h
   refine cSeqG ⟨(mkS 8 [(2, rf 0 0 a0.length)]), [], [⟨0, 1, List.map eBool a0⟩]⟩ (True) ?_ (fun q9 => ?_)
   ·
    replace h := q11
    refine rgS [] 3 ?_
    have q10 := h
    refine sApp0 3 (some 7) [(6, al eBool a0), (5, an)] eBool a0 (refrs false (List.map eBool a0)) 0 1 1 (fun r => [⟨0, 1, r⟩]) rfl q10 ?_
    exact sEJ [(2, rf 0 0 a0.length)] trivial
   refine cRet ?_
   refine rtS (rf 0 0 a0.length) [rf 0 0 a0.length] ?_
   exact ⟨sg [some 0], own_of [some 0] rfl (by decide) ⟨rfl, (rowsOwn_eq (b := 0) (g := 0) (sz := 1) (xs := a0) (ys := res) rfl oBool h), trivial⟩, (.inr (ow_ref (by simp) rfl rfl (by have := congrArg List.length h; simpa using this)))⟩
theorem slices_Clone_bool_O (a0 : (List Bool)) (hp : small a0) : FnS Try.prog 120 [al eBool a0] [] (fun r H => r = rf 0 0 ((idt a0).length) ∧ H = [⟨0, 1, List.map eBool (idt a0)⟩]) := slices_Clone_bool_walk a0 (idt a0) (by
 have hp : a0.length ≤ 1048576 := hp
 unfold slices_Clone_bool_C
 exact ⟨fun h => ⟨⟨by omega, by omega⟩, rfl⟩, fun h b => ⟨fun _ => h.symm, fun _ => ⟨⟨by omega, by omega⟩, rfl⟩⟩⟩)
noncomputable def slices_Clone_Point_b : Code := bodyC Try.f121
def slices_Clone_Point_C (a0 : (List Point)) (res : (List Point)) : Prop :=
 (a0 ≠ [] → (a0.length * 16 ≤ 140737488355328 ∧ a0.length ≤ 4611686018427387904) ∧ (a0 = res)) ∧ (a0 = [] → ∀ b2 : Bool, (b2 = true → [] = res) ∧ (b2 = false → (a0.length * 16 ≤ 140737488355328 ∧ a0.length ≤ 4611686018427387904) ∧ (a0 = res)))
theorem slices_Clone_Point_walk (a0 : (List Point)) (res : (List Point)) (h : slices_Clone_Point_C a0 res) : FnS Try.prog 121 [al ePoint a0] [] (fun r H => r = rf 0 0 res.length ∧ H = [⟨0, 2, List.map ePoint res⟩]) := by
 refine FnS.toOwn ?_
 unfold slices_Clone_Point_C at h
 refine FnS.go (fn := Try.f121) [(0, al ePoint a0)] Try.func121 ?_
 show WpS _ (nv slices_Clone_Point_b 1) _ ⟨mkS 8 [(0, al ePoint a0)], [], []⟩
 refine cRM [] 0 [(2, an)] [] [1] ?_
 refine cSeq ?_
 refine cSeq ?_
 refine rgS [] 1 ?_
 refine sNil 2 (some 4) [(3, al ePoint a0)] ePoint a0 (fun hx => ?_) (fun hx b2 => ?_)
 ·
  replace h := h.1 hx
  refine sEnd [] ?_
  refine QSeq.normal ?_
  refine cCond (.tmp 4) false (fun q3 => ?_) (fun q3 => ?_)
  ·
   cases q3
  ·
   refine cSkip ?_
   refine QSeq.normal ?_
   obtain ⟨q6, h⟩ := h
   refine cSeqG ⟨(mkS 8 [(2, rf 0 0 a0.length)]), [], [⟨0, 2, List.map ePoint a0⟩]⟩ (True) ?_ (fun q4 => ?_)
   ·
    replace h := q6
    refine rgS [] 3 ?_
    have q5 := h
    refine sApp0 3 (some 7) [(6, al ePoint a0), (5, an)] ePoint a0 (refrs false (List.map ePoint a0)) 0 2 16 (fun r => [⟨0, 2, r⟩]) rfl q5 ?_
    exact sEJ [(2, rf 0 0 a0.length)] trivial
   refine cRet ?_
   refine rtS (rf 0 0 a0.length) [rf 0 0 a0.length] ?_
   exact ⟨sg [some 0], own_of [some 0] rfl (by decide) ⟨rfl, (rowsOwn_eq (b := 0) (g := 0) (sz := 2) (xs := a0) (ys := res) rfl oPoint h), trivial⟩, (.inr (ow_ref (by simp) rfl rfl (by have := congrArg List.length h; simpa using this)))⟩
 ·
  replace h := h.2 hx b2
  refine sEnd [] ?_
  refine QSeq.normal ?_
  refine cCond (.tmp 4) b2 (fun q7 => ?_) (fun q7 => ?_)
  ·
   replace h := h.1 q7
   refine cSeqG ⟨(mkS 8 [(2, an)]), [], []⟩ (True) ?_ (fun q8 => ?_)
   ·
    refine rgS [] 2 ?_
    exact sEJ [(2, an)] trivial
   refine cRet ?_
   refine QSeq.ret ?_
   refine rtS (an) [an] ?_
   exact ⟨sg [none], own_of [none] rfl (by decide) ⟨rfl, trivial, trivial⟩, (.inr (ow_nil (by simp) rfl rfl (by rw [← h]; rfl)))⟩
  ·
   replace h := h.2 q7
   refine cSkip ?_
   refine QSeq.normal ?_
   obtain ⟨q11, h⟩ := h
   refine cSeqG ⟨(mkS 8 [(2, rf 0 0 a0.length)]), [], [⟨0, 2, List.map ePoint a0⟩]⟩ (True) ?_ (fun q9 => ?_)
   ·
    replace h := q11
    refine rgS [] 3 ?_
    have q10 := h
    refine sApp0 3 (some 7) [(6, al ePoint a0), (5, an)] ePoint a0 (refrs false (List.map ePoint a0)) 0 2 16 (fun r => [⟨0, 2, r⟩]) rfl q10 ?_
    exact sEJ [(2, rf 0 0 a0.length)] trivial
   refine cRet ?_
   refine rtS (rf 0 0 a0.length) [rf 0 0 a0.length] ?_
   exact ⟨sg [some 0], own_of [some 0] rfl (by decide) ⟨rfl, (rowsOwn_eq (b := 0) (g := 0) (sz := 2) (xs := a0) (ys := res) rfl oPoint h), trivial⟩, (.inr (ow_ref (by simp) rfl rfl (by have := congrArg List.length h; simpa using this)))⟩
theorem slices_Clone_Point_O (a0 : (List Point)) (hp : small a0) : FnS Try.prog 121 [al ePoint a0] [] (fun r H => r = rf 0 0 ((idt a0).length) ∧ H = [⟨0, 2, List.map ePoint (idt a0)⟩]) := slices_Clone_Point_walk a0 (idt a0) (by
 have hp : a0.length ≤ 1048576 := hp
 unfold slices_Clone_Point_C
 exact ⟨fun h => ⟨⟨by omega, by omega⟩, rfl⟩, fun h b => ⟨fun _ => h.symm, fun _ => ⟨⟨by omega, by omega⟩, rfl⟩⟩⟩)
noncomputable def slices_Clone_boolv_b : Code := bodyC Try.f120
def slices_Clone_boolv_C (a0 : (List Bool)) (res : (List Bool)) : Prop :=
 (a0 ≠ [] → (a0.length * 1 ≤ 140737488355328 ∧ a0.length ≤ 4611686018427387904) ∧ (a0.length ≤ 4611686018427387904 ∧ a0 = res)) ∧ (a0 = [] → ∀ b2 : Bool, (b2 = true → [] = res) ∧ (b2 = false → (a0.length * 1 ≤ 140737488355328 ∧ a0.length ≤ 4611686018427387904) ∧ (a0.length ≤ 4611686018427387904 ∧ a0 = res)))
theorem slices_Clone_boolv_walk (a0 : (List Bool)) (res : (List Bool)) (h : slices_Clone_boolv_C a0 res) : FnV Try.prog 120 [al eBool a0] (af eBool res) := by
 unfold slices_Clone_boolv_C at h
 refine FnS.go (fn := Try.f120) [(0, al eBool a0)] Try.func120 ?_
 show WpS _ (nv slices_Clone_boolv_b 1) _ ⟨mkS 8 [(0, al eBool a0)], [], []⟩
 refine cRM [] 0 [(2, an)] [] [1] ?_
 refine cSeq ?_
 refine cSeq ?_
 refine rgS [] 1 ?_
 refine sNil 2 (some 4) [(3, al eBool a0)] eBool a0 (fun hx => ?_) (fun hx b2 => ?_)
 ·
  replace h := h.1 hx
  refine sEnd [] ?_
  refine QSeq.normal ?_
  refine cCond (.tmp 4) false (fun q3 => ?_) (fun q3 => ?_)
  ·
   cases q3
  ·
   refine cSkip ?_
   refine QSeq.normal ?_
   obtain ⟨q6, h⟩ := h
   refine cSeqG ⟨(mkS 8 [(2, rf 0 0 a0.length)]), [], [⟨0, 1, List.map eBool a0⟩]⟩ (True) ?_ (fun q4 => ?_)
   ·
    replace h := q6
    refine rgS [] 3 ?_
    have q5 := h
    refine sApp0 3 (some 7) [(6, al eBool a0), (5, an)] eBool a0 (refrs false (List.map eBool a0)) 0 1 1 (fun r => [⟨0, 1, r⟩]) rfl q5 ?_
    exact sEJ [(2, rf 0 0 a0.length)] trivial
   exact cRet (rt1 (rf 0 0 a0.length) (SnapR3.of1 (sr_blk' (sz := 1) (by simp) rfl (cBool) h)))
 ·
  replace h := h.2 hx b2
  refine sEnd [] ?_
  refine QSeq.normal ?_
  refine cCond (.tmp 4) b2 (fun q7 => ?_) (fun q7 => ?_)
  ·
   replace h := h.1 q7
   refine cSeqG ⟨(mkS 8 [(2, an)]), [], []⟩ (True) ?_ (fun q8 => ?_)
   ·
    refine rgS [] 2 ?_
    exact sEJ [(2, an)] trivial
   exact cRet (QSeq.ret (rt1 (an) (SnapR3.of1 (sr_nil h))))
  ·
   replace h := h.2 q7
   refine cSkip ?_
   refine QSeq.normal ?_
   obtain ⟨q11, h⟩ := h
   refine cSeqG ⟨(mkS 8 [(2, rf 0 0 a0.length)]), [], [⟨0, 1, List.map eBool a0⟩]⟩ (True) ?_ (fun q9 => ?_)
   ·
    replace h := q11
    refine rgS [] 3 ?_
    have q10 := h
    refine sApp0 3 (some 7) [(6, al eBool a0), (5, an)] eBool a0 (refrs false (List.map eBool a0)) 0 1 1 (fun r => [⟨0, 1, r⟩]) rfl q10 ?_
    exact sEJ [(2, rf 0 0 a0.length)] trivial
   exact cRet (rt1 (rf 0 0 a0.length) (SnapR3.of1 (sr_blk' (sz := 1) (by simp) rfl (cBool) h)))
theorem slices_Clone_boolv_V (a0 : (List Bool)) (hp : small a0) : FnV Try.prog 120 [al eBool a0] (af eBool (idt a0)) := slices_Clone_boolv_walk a0 (idt a0) (by
 have hp : a0.length ≤ 1048576 := hp
 unfold slices_Clone_boolv_C
 exact ⟨fun h => ⟨⟨by omega, by omega⟩, by omega, rfl⟩, fun h b => ⟨fun _ => h.symm, fun _ => ⟨⟨by omega, by omega⟩, by omega, rfl⟩⟩⟩)
noncomputable def slices_Clone_Pointv_b : Code := bodyC Try.f121
def slices_Clone_Pointv_C (a0 : (List Point)) (res : (List Point)) : Prop :=
 (a0 ≠ [] → (a0.length * 16 ≤ 140737488355328 ∧ a0.length ≤ 4611686018427387904) ∧ (a0.length ≤ 4611686018427387904 ∧ a0 = res)) ∧ (a0 = [] → ∀ b2 : Bool, (b2 = true → [] = res) ∧ (b2 = false → (a0.length * 16 ≤ 140737488355328 ∧ a0.length ≤ 4611686018427387904) ∧ (a0.length ≤ 4611686018427387904 ∧ a0 = res)))
theorem slices_Clone_Pointv_walk (a0 : (List Point)) (res : (List Point)) (h : slices_Clone_Pointv_C a0 res) : FnV Try.prog 121 [al ePoint a0] (af ePoint res) := by
 unfold slices_Clone_Pointv_C at h
 refine FnS.go (fn := Try.f121) [(0, al ePoint a0)] Try.func121 ?_
 show WpS _ (nv slices_Clone_Pointv_b 1) _ ⟨mkS 8 [(0, al ePoint a0)], [], []⟩
 refine cRM [] 0 [(2, an)] [] [1] ?_
 refine cSeq ?_
 refine cSeq ?_
 refine rgS [] 1 ?_
 refine sNil 2 (some 4) [(3, al ePoint a0)] ePoint a0 (fun hx => ?_) (fun hx b2 => ?_)
 ·
  replace h := h.1 hx
  refine sEnd [] ?_
  refine QSeq.normal ?_
  refine cCond (.tmp 4) false (fun q3 => ?_) (fun q3 => ?_)
  ·
   cases q3
  ·
   refine cSkip ?_
   refine QSeq.normal ?_
   obtain ⟨q6, h⟩ := h
   refine cSeqG ⟨(mkS 8 [(2, rf 0 0 a0.length)]), [], [⟨0, 2, List.map ePoint a0⟩]⟩ (True) ?_ (fun q4 => ?_)
   ·
    replace h := q6
    refine rgS [] 3 ?_
    have q5 := h
    refine sApp0 3 (some 7) [(6, al ePoint a0), (5, an)] ePoint a0 (refrs false (List.map ePoint a0)) 0 2 16 (fun r => [⟨0, 2, r⟩]) rfl q5 ?_
    exact sEJ [(2, rf 0 0 a0.length)] trivial
   exact cRet (rt1 (rf 0 0 a0.length) (SnapR3.of1 (sr_blk' (sz := 2) (by simp) rfl (cPoint) h)))
 ·
  replace h := h.2 hx b2
  refine sEnd [] ?_
  refine QSeq.normal ?_
  refine cCond (.tmp 4) b2 (fun q7 => ?_) (fun q7 => ?_)
  ·
   replace h := h.1 q7
   refine cSeqG ⟨(mkS 8 [(2, an)]), [], []⟩ (True) ?_ (fun q8 => ?_)
   ·
    refine rgS [] 2 ?_
    exact sEJ [(2, an)] trivial
   exact cRet (QSeq.ret (rt1 (an) (SnapR3.of1 (sr_nil h))))
  ·
   replace h := h.2 q7
   refine cSkip ?_
   refine QSeq.normal ?_
   obtain ⟨q11, h⟩ := h
   refine cSeqG ⟨(mkS 8 [(2, rf 0 0 a0.length)]), [], [⟨0, 2, List.map ePoint a0⟩]⟩ (True) ?_ (fun q9 => ?_)
   ·
    replace h := q11
    refine rgS [] 3 ?_
    have q10 := h
    refine sApp0 3 (some 7) [(6, al ePoint a0), (5, an)] ePoint a0 (refrs false (List.map ePoint a0)) 0 2 16 (fun r => [⟨0, 2, r⟩]) rfl q10 ?_
    exact sEJ [(2, rf 0 0 a0.length)] trivial
   exact cRet (rt1 (rf 0 0 a0.length) (SnapR3.of1 (sr_blk' (sz := 2) (by simp) rfl (cPoint) h)))
theorem slices_Clone_Pointv_V (a0 : (List Point)) (hp : small a0) : FnV Try.prog 121 [al ePoint a0] (af ePoint (idt a0)) := slices_Clone_Pointv_walk a0 (idt a0) (by
 have hp : a0.length ≤ 1048576 := hp
 unfold slices_Clone_Pointv_C
 exact ⟨fun h => ⟨⟨by omega, by omega⟩, by omega, rfl⟩, fun h b => ⟨fun _ => h.symm, fun _ => ⟨⟨by omega, by omega⟩, by omega, rfl⟩⟩⟩)
noncomputable def impl_copied_b : Code := bodyC Try.f61
def impl_copied_o1 : List Item := [iq 0, iq 1, iq 2, iq 3, iq 5, iq 6, iq 9, ⟨4, true, false, [0, 1, 5, 6, 9]⟩, ⟨7, true, false, [0, 1, 9]⟩, iq 8, ⟨10, true, false, []⟩]
def impl_copied_o1a : List (List Nat) := [[], [0], [], [2], [2, 3], [], [5], rg 2 7, rg 0 8, [], rg 0 10]
def impl_copied_C1 (I0 : List (List Bool) → Nat → Nat → List Nat → Int → List Held → Prop) (m0 : List (List Bool) → Nat → Nat → List Nat → Int → List Held → Nat) (a0 : Frame) (bs4 : List (List Bool)) (g2 g3 : Nat) (is2 : List Nat) (v18 : Int) (ws2 : List Held) : Prop :=
  I0 (bs4 ++ [(idt ((nth a0.ways v18).been))]) (g2 + 1) (g3 + 1) (is2 ++ [bs4.length]) (IntKind.i64.wrap (v18 + 1)) (ws2 ++ [(Held.mk ((nth a0.ways v18).state) ((nth a0.ways v18).gone) (idt ((nth a0.ways v18).been)) ((nth a0.ways v18).shown) ((nth a0.ways v18).timer))]) ∧ m0 (bs4 ++ [(idt ((nth a0.ways v18).been))]) (g2 + 1) (g3 + 1) (is2 ++ [bs4.length]) (IntKind.i64.wrap (v18 + 1)) (ws2 ++ [(Held.mk ((nth a0.ways v18).state) ((nth a0.ways v18).gone) (idt ((nth a0.ways v18).been)) ((nth a0.ways v18).shown) ((nth a0.ways v18).timer))]) < m0 bs4 g2 g3 is2 v18 ws2
def impl_copied_C2 (I0 : List (List Bool) → Nat → Nat → List Nat → Int → List Held → Prop) (m0 : List (List Bool) → Nat → Nat → List Nat → Int → List Held → Nat) (a0 res : Frame) (bs4 : List (List Bool)) (g2 g3 : Nat) (is2 : List Nat) (v18 : Int) (ws2 : List Held) : Prop :=
  ((decide (v18 < (a0.ways.length : Int))) = false → a0.ok = res.ok ∧ (idt a0.occ) = res.occ ∧ (idt a0.points) = res.points ∧ ws2 = res.ways ∧ is2 = List.range ws2.length ∧ bs4 = ws2.map Held.been) ∧ ((decide (v18 < (a0.ways.length : Int))) = true → ((0 ≤ v18 ∧ v18.toNat < a0.ways.length) ∧ ((small ((nth a0.ways v18).been)) ∧ (ws2.length = is2.length ∧ ((ws2.length + 1) * 56 ≤ 140737488355328 ∧ ws2.length + 1 ≤ 4611686018427387904)))) ∧ (impl_copied_C1 I0 m0 a0 bs4 g2 g3 is2 v18 ws2))
def impl_copied_C (a0 : Frame) (res : Frame) (I0 : List (List Bool) → Nat → Nat → List Nat → Int → List Held → Prop) (m0 : List (List Bool) → Nat → Nat → List Nat → Int → List Held → Nat) : Prop :=
 ((small a0.occ) ∧ (small a0.points)) ∧ (a0.ways.length ≤ 4611686018427387904 → I0 ([] : List (List Bool)) 0 0 ([] : List Nat) 0 ([] : List Held) ∧ ∀ (bs4 : List (List Bool)) (g2 : Nat) (g3 : Nat) (is2 : List Nat) (v18 : Int) (ws2 : List Held), I0 bs4 g2 g3 is2 v18 ws2 → (impl_copied_C2 I0 m0 a0 res bs4 g2 g3 is2 v18 ws2))
theorem impl_copied_walk (a0 : Frame) (res : Frame) (I0 : List (List Bool) → Nat → Nat → List Nat → Int → List Held → Prop) (m0 : List (List Bool) → Nat → Nat → List Nat → Int → List Held → Nat) (h : impl_copied_C a0 res I0 m0) : FnS Try.prog 61 [.agg (eFrame false a0)] [] (fun r H => r = .agg [ab res.ok, rf 0 0 res.occ.length, rf 1 0 res.points.length, rf 2 0 res.ways.length] ∧ H = (⟨0, 1, List.map eBool res.occ⟩ :: ⟨0, 2, List.map ePoint res.points⟩ :: ⟨0, 5, hRows 3 res.ways (List.range res.ways.length)⟩ :: List.map fbk (List.map Held.been res.ways))) := by
 refine FnS.toOwn ?_
 unfold impl_copied_C at h
 refine FnS.go (fn := Try.f61) [(0, .agg (eFrame false a0))] Try.func61 ?_
 show WpS _ (nv impl_copied_b 1) _ ⟨mkS 34 [(0, .agg (eFrame false a0))], [], []⟩
 refine cRN [1000003] 0 [(2, ap 2 0), (1, ap 1 0)] [2] [] [(2, [ab false, an, an, an]), (1, (eFrame false a0))] [] ?_
 obtain ⟨q22, h⟩ := h
 refine cSeqE [(3, ap 3 0)] [2] (fun L => (3, [ab a0.ok, rf 0 0 ((idt a0.occ).length), rf 1 0 ((idt a0.points).length), an]) :: L) (fun _ => [⟨0, 1, List.map eBool (idt a0.occ)⟩, ⟨0, 2, List.map ePoint (idt a0.points)⟩]) (True) ?_ (fun q2 => ?_)
 ·
  replace h := q22
  refine rgD [1000003] 1 impl_copied_o1 impl_copied_o1a [(3, [ab false, an, an, an])] ?_
  obtain ⟨q3, h⟩ := h
  refine tCallO 8 (some 10) [(3, ap 3 0), (12, al ePoint a0.points), (11, ap 1 2), (9, al eBool a0.occ), (8, ap 1 1), (7, ab a0.ok), (6, ap 1 0)] [al eBool a0.occ] (fun L H => floatsS Try.prog (opsN impl_copied_b 6) [0, 1, 5, 6, 9] [(3, ap 3 0), (12, al ePoint a0.points), (11, ap 1 2), (9, al eBool a0.occ), (8, ap 1 1), (7, ab a0.ok), (6, ap 1 0), (2, ap 2 0), (1, ap 1 0)] L H) (rf 0 0 ((idt a0.occ).length)) [⟨0, 1, List.map eBool (idt a0.occ)⟩] (slices_Clone_bool_O a0.occ q3) (PW.cons (Snap2.of1 sa_lst) PW.nil) (ownH_cons (fun _ => rfl) rfl) (shift_eq (shift_cons (fun _ => rfl) rfl) (by kernel_rfl)) (of_eqP (ψ := ((true = true ∧ true = true ∧ ((ap 1 0 : AV) = ap 1 0)) ∧ ((true = true ∧ true = true ∧ ((ab a0.ok : AV) = ab a0.ok)) ∧ ((true = true ∧ true = true ∧ ((ap 1 2 : AV) = ap 1 2)) ∧ ((true = true ∧ true = true ∧ ((al ePoint a0.points : AV) = al ePoint a0.points)) ∧ ((true = true ∧ true = true ∧ ((ap 3 0 : AV) = ap 3 0)) ∧ True)))))) (by kernel_rfl) ⟨⟨rfl, rfl, rfl⟩, ⟨⟨rfl, rfl, rfl⟩, ⟨⟨rfl, rfl, rfl⟩, ⟨⟨rfl, rfl, rfl⟩, ⟨⟨rfl, rfl, rfl⟩, trivial⟩⟩⟩⟩⟩) ?_
  have q4 := h
  refine tCallO 1 (some 13) [] [al ePoint a0.points] (fun L H => floatsS Try.prog (opsN impl_copied_b 6) [0, 1, 9] [(10, rf 0 0 ((idt a0.occ).length)), (3, ap 3 0), (12, al ePoint a0.points), (11, ap 1 2), (9, al eBool a0.occ), (8, ap 1 1), (7, ab a0.ok), (6, ap 1 0), (2, ap 2 0), (1, ap 1 0)] L H) (rf 1 0 ((idt a0.points).length)) [⟨0, 1, List.map eBool (idt a0.occ)⟩, ⟨0, 2, List.map ePoint (idt a0.points)⟩] (slices_Clone_Point_O a0.points q4) (PW.cons (Snap2.of1 sa_lst) PW.nil) (ownH_cons (fun _ => rfl) rfl) (shift_eq (shift_cons (fun _ => rfl) rfl) (by kernel_rfl)) (of_eqP (ψ := ((true = true ∧ true = true ∧ ((ap 1 0 : AV) = ap 1 0)) ∧ ((true = true ∧ true = true ∧ ((ab a0.ok : AV) = ab a0.ok)) ∧ ((true = true ∧ true = true ∧ ((ap 3 0 : AV) = ap 3 0)) ∧ True)))) (by kernel_rfl) ⟨⟨rfl, rfl, rfl⟩, ⟨⟨rfl, rfl, rfl⟩, ⟨⟨rfl, rfl, rfl⟩, trivial⟩⟩⟩) ?_
  refine tFl 2 [(14, .agg [ab a0.ok, rf 0 0 ((idt a0.occ).length), rf 1 0 ((idt a0.points).length), an])] [(3, [ab a0.ok, rf 0 0 ((idt a0.occ).length), rf 1 0 ((idt a0.points).length), an]), (2, [ab false, an, an, an]), (1, (eFrame false a0))] [⟨0, 1, List.map eBool (idt a0.occ)⟩, ⟨0, 2, List.map ePoint (idt a0.points)⟩] (φ := True) trivial ?_
  exact tEJ [] trivial
 refine cSeq ?_
 refine cSeqM [(16, al (eHeld false) a0.ways), (17, ai (a0.ways.length : Int)), (18, ai 0)] [2] (a0.ways.length ≤ 4611686018427387904) ?_ (fun q5 => ?_)
 ·
  refine rgS [1000003] 2 ?_
  refine sLen 3 (some 17) [(16, al (eHeld false) a0.ways), (15, ap 1 3)] (eHeld false) a0.ways (fun q6 => ?_)
  exact sEJ [(18, ai 0)] q6
 replace h := h q5
 refine cBlock 0 ?_
 refine WpS.weak ?_ (weak_eq (s'' := ⟨(mkS 34 [(16, al (eHeld false) a0.ways), (17, ai (a0.ways.length : Int)), (18, ai 0), (3, ap 3 0), (2, ap 2 0)]), [(3, [ab a0.ok, rf 0 0 ((idt a0.occ).length), rf 1 0 ((idt a0.points).length), rf 2 0 (([] : List Held).length)]), (2, [ab false, an, an, an]), (1, (eFrame false a0))], [⟨0, 1, List.map eBool (idt a0.occ)⟩, ⟨0, 2, List.map ePoint (idt a0.points)⟩, ⟨0, 5, hRows 4 ([] : List Held) ([] : List Nat)⟩]⟩) (Weak.adoptL (T := (mkS 34 [(16, al (eHeld false) a0.ways), (17, ai (a0.ways.length : Int)), (18, ai 0), (3, ap 3 0), (2, ap 2 0)])) (L := [(3, [ab a0.ok, rf 0 0 ((idt a0.occ).length), rf 1 0 ((idt a0.points).length), an]), (2, [ab false, an, an, an]), (1, (eFrame false a0))]) (H := [⟨0, 1, List.map eBool (idt a0.occ)⟩, ⟨0, 2, List.map ePoint (idt a0.points)⟩]) (cells := [ab a0.ok, rf 0 0 ((idt a0.occ).length), rf 1 0 ((idt a0.points).length), an]) 3 3 5 (by kernel_rfl) (by kernel_rfl)) (by kernel_rfl))
 refine WpS.weak ?_ (weak_eq (s'' := ⟨(mkS 34 [(16, al (eHeld false) a0.ways), (17, ai (a0.ways.length : Int)), (18, ai 0), (3, ap 3 0), (2, ap 2 0)]), [(3, [ab a0.ok, rf 0 0 ((idt a0.occ).length), rf 1 0 ((idt a0.points).length), rf 2 0 (([] : List Held).length)]), (2, [ab false, an, an, an]), (1, (eFrame false a0))], (⟨0, 1, List.map eBool (idt a0.occ)⟩ :: ⟨0, 2, List.map ePoint (idt a0.points)⟩ :: ⟨0, 5, hRows 4 ([] : List Held) ([] : List Nat)⟩ :: ⟨0, 5, []⟩ :: List.map fbk ([] : List (List Bool)))⟩) (Weak.newB (T := (mkS 34 [(16, al (eHeld false) a0.ways), (17, ai (a0.ways.length : Int)), (18, ai 0), (3, ap 3 0), (2, ap 2 0)])) (L := [(3, [ab a0.ok, rf 0 0 ((idt a0.occ).length), rf 1 0 ((idt a0.points).length), rf 2 0 (([] : List Held).length)]), (2, [ab false, an, an, an]), (1, (eFrame false a0))]) (H := [⟨0, 1, List.map eBool (idt a0.occ)⟩, ⟨0, 2, List.map ePoint (idt a0.points)⟩, ⟨0, 5, hRows 4 ([] : List Held) ([] : List Nat)⟩]) 5) (by kernel_rfl))
 obtain ⟨q21, h⟩ := h
 refine cLoop (fun (v : List (List Bool) × Nat × Nat × List Nat × Int × List Held) => (⟨(mkS 34 [(2, ap 2 0), (3, ap 3 0), (16, al (eHeld false) a0.ways), (17, ai (a0.ways.length : Int)), (18, ai (v.2.2.2.2.1))]), [(3, [ab a0.ok, rf 0 0 ((idt a0.occ).length), rf 1 0 ((idt a0.points).length), rf 2 (v.2.1) ((v.2.2.2.2.2).length)]), (2, [ab false, an, an, an])], (⟨0, 1, List.map eBool (idt a0.occ)⟩ :: ⟨0, 2, List.map ePoint (idt a0.points)⟩ :: ⟨(v.2.1), 5, hRows 4 (v.2.2.2.2.2) (v.2.2.2.1)⟩ :: ⟨(v.2.2.1), 5, []⟩ :: List.map fbk (v.1))⟩ : St)) (fun (v : List (List Bool) × Nat × Nat × List Nat × Int × List Held) => I0 (v.1) (v.2.1) (v.2.2.1) (v.2.2.2.1) (v.2.2.2.2.1) (v.2.2.2.2.2)) (fun (v : List (List Bool) × Nat × Nat × List Nat × Int × List Held) => m0 (v.1) (v.2.1) (v.2.2.1) (v.2.2.2.1) (v.2.2.2.2.1) (v.2.2.2.2.2)) (([] : List (List Bool)), 0, 0, ([] : List Nat), 0, ([] : List Held)) (wkL [1]) q21 (fun v hI => ?_)
 obtain ⟨bs4, g2, g3, is2, v18, ws2⟩ := v
 replace h := h bs4 g2 g3 is2 v18 ws2 hI
 dsimp only
 refine cRM [1000003] 3 [(19, ab (decide (v18 < (a0.ways.length : Int))))] [1] [5] ?_
 unfold impl_copied_C2 at h
 obtain ⟨q20, h⟩ := h
 refine cSeqM [] [0, 1, 5] ((decide (v18 < (a0.ways.length : Int))) = true) ?_ (fun q8 => ?_)
 ·
  replace h := q20
  refine cCond1 (fun q9 => ?_) (fun q9 => ?_)
  ·
   refine cSkip ?_
   exact QJoin.normal (by simp only [q9] <;> rfl) wkJ
  ·
   replace h := h q9
   refine cExit 0 ?_
   refine QJoin.exit ?_
   refine QRound.exit ?_
   refine QBlock.here ?_
   refine QSeq.normal ?_
   refine cSeqG ⟨(mkS 34 [(2, ap 2 0)]), [(3, [ab a0.ok, rf 0 0 ((idt a0.occ).length), rf 1 0 ((idt a0.points).length), rf 2 g2 ws2.length]), (2, [ab a0.ok, rf 0 0 ((idt a0.occ).length), rf 1 0 ((idt a0.points).length), rf 2 g2 ws2.length])], (⟨0, 1, List.map eBool (idt a0.occ)⟩ :: ⟨0, 2, List.map ePoint (idt a0.points)⟩ :: ⟨g2, 5, hRows 4 ws2 is2⟩ :: ⟨g3, 5, []⟩ :: List.map fbk bs4)⟩ (True) ?_ (fun q10 => ?_)
   ·
    refine rgS [1000003] 8 ?_
    exact sEJ [(33, .agg [ab a0.ok, rf 0 0 ((idt a0.occ).length), rf 1 0 ((idt a0.points).length), rf 2 g2 ws2.length])] trivial
   refine cRet ?_
   refine rtS (.agg [ab a0.ok, rf 0 0 ((idt a0.occ).length), rf 1 0 ((idt a0.points).length), rf 2 g2 ws2.length]) [.agg [ab a0.ok, rf 0 0 ((idt a0.occ).length), rf 1 0 ((idt a0.points).length), rf 2 g2 ws2.length]] ?_
   exact own_frame h rfl rfl rfl rfl
 replace h := h q8
 obtain ⟨q19, h⟩ := h
 refine cSeqE [] [5] (fun L => (5, [ai ((nth a0.ways v18).state), ai ((nth a0.ways v18).gone), rf (bs4.length + 4) 0 ((idt ((nth a0.ways v18).been)).length), ab ((nth a0.ways v18).shown), ai ((nth a0.ways v18).timer)]) :: ed 0 3 (rf 2 (g2 + 1) ((ws2 ++ [(Held.mk ((nth a0.ways v18).state) ((nth a0.ways v18).gone) (idt ((nth a0.ways v18).been)) ((nth a0.ways v18).shown) ((nth a0.ways v18).timer))]).length)) L) (fun _ => (⟨0, 1, List.map eBool (idt a0.occ)⟩ :: ⟨0, 2, List.map ePoint (idt a0.points)⟩ :: ⟨(g2 + 1), 5, hRows 4 (ws2 ++ [(Held.mk ((nth a0.ways v18).state) ((nth a0.ways v18).gone) (idt ((nth a0.ways v18).been)) ((nth a0.ways v18).shown) ((nth a0.ways v18).timer))]) (is2 ++ [bs4.length])⟩ :: ⟨(g3 + 1), 5, [[ai ((nth a0.ways v18).state), ai ((nth a0.ways v18).gone), rf (bs4.length + 4) 0 ((idt ((nth a0.ways v18).been)).length), ab ((nth a0.ways v18).shown), ai ((nth a0.ways v18).timer)]]⟩ :: List.map fbk (bs4 ++ [(idt ((nth a0.ways v18).been))]))) (True) ?_ (fun q11 => ?_)
 ·
  replace h := q19
  refine cBlock 1 ?_
  obtain ⟨q18, h⟩ := h
  refine cSeqE [(5, ap 5 0)] [5] (fun L => (5, (eHeld false (nth a0.ways v18))) :: L) id (True) ?_ (fun q12 => ?_)
  ·
   replace h := q18
   refine rgS [1000003] 4 ?_
   have q13 := h
   refine sIdx 1 (some 20) [] (eHeld false) a0.ways 5 q13 ?_
   exact sEJ [(5, ap 5 0), (21, .agg (eHeld false (nth a0.ways v18)))] trivial
  obtain ⟨q17, h⟩ := h
  refine cSeqE [] [6] (fun L => er 0 [ai ((nth a0.ways v18).state), ai ((nth a0.ways v18).gone), rf (bs4.length + 4) 0 ((idt ((nth a0.ways v18).been)).length), ab ((nth a0.ways v18).shown), ai ((nth a0.ways v18).timer)] L) (fun _ => (⟨0, 1, List.map eBool (idt a0.occ)⟩ :: ⟨0, 2, List.map ePoint (idt a0.points)⟩ :: ⟨g2, 5, hRows 4 ws2 is2⟩ :: ⟨g3, 5, []⟩ :: List.map fbk (bs4 ++ [(idt ((nth a0.ways v18).been))]))) (True) ?_ (fun q14 => ?_)
  ·
   replace h := q17
   refine rgS [1000003] 5 ?_
   have q15 := h
   refine sCallO 3 (some 24) [(23, al eBool ((nth a0.ways v18).been)), (22, ap 5 2)] [al eBool ((nth a0.ways v18).been)] (rf (bs4.length + 4) 0 ((idt ((nth a0.ways v18).been)).length)) (⟨0, 1, List.map eBool (idt a0.occ)⟩ :: ⟨0, 2, List.map ePoint (idt a0.points)⟩ :: ⟨g2, 5, hRows 4 ws2 is2⟩ :: ⟨g3, 5, []⟩ :: List.map fbk (bs4 ++ [(idt ((nth a0.ways v18).been))])) (slices_Clone_bool_O ((nth a0.ways v18).been) q15) (PW.cons (Snap2.of1 sa_lst) PW.nil) (ownH_cons (fun _ => rfl) rfl) (shift_eq (shift_cons (fun _ => rfl) rfl) (by simp only [List.cons_append, List.map_nil, fam_snoc])) ?_ (er := by simp [shift3, shift2, shift0])
   exact sEJ [(25, ap 5 2)] trivial
  refine rgS [1000003] 6 ?_
  refine sEq 4 [(29, .ref 3 (g3 + 1) 0 1 true), (28, .agg [ai ((nth a0.ways v18).state), ai ((nth a0.ways v18).gone), rf (bs4.length + 4) 0 ((idt ((nth a0.ways v18).been)).length), ab ((nth a0.ways v18).shown), ai ((nth a0.ways v18).timer)]), (27, rf 2 g2 ws2.length), (26, ap 3 3)] [(5, [ai ((nth a0.ways v18).state), ai ((nth a0.ways v18).gone), rf (bs4.length + 4) 0 ((idt ((nth a0.ways v18).been)).length), ab ((nth a0.ways v18).shown), ai ((nth a0.ways v18).timer)]), (3, [ab a0.ok, rf 0 0 ((idt a0.occ).length), rf 1 0 ((idt a0.points).length), rf 2 g2 ws2.length]), (2, [ab false, an, an, an])] (⟨0, 1, List.map eBool (idt a0.occ)⟩ :: ⟨0, 2, List.map ePoint (idt a0.points)⟩ :: ⟨g2, 5, hRows 4 ws2 is2⟩ :: ⟨(g3 + 1), 5, [[ai ((nth a0.ways v18).state), ai ((nth a0.ways v18).gone), rf (bs4.length + 4) 0 ((idt ((nth a0.ways v18).been)).length), ab ((nth a0.ways v18).shown), ai ((nth a0.ways v18).timer)]]⟩ :: List.map fbk (bs4 ++ [(idt ((nth a0.ways v18).been))])) ?_
  have q16 := h
  refine sAppW 1 (some 30) [] 4 2 g2 (g3 + 1) 56 ws2 is2 (Held.mk ((nth a0.ways v18).state) ((nth a0.ways v18).gone) (idt ((nth a0.ways v18).been)) ((nth a0.ways v18).shown) ((nth a0.ways v18).timer)) bs4.length (fun r => (⟨0, 1, List.map eBool (idt a0.occ)⟩ :: ⟨0, 2, List.map ePoint (idt a0.points)⟩ :: ⟨(g2 + 1), 5, r⟩ :: ⟨(g3 + 1), 5, [[ai ((nth a0.ways v18).state), ai ((nth a0.ways v18).gone), rf (bs4.length + 4) 0 ((idt ((nth a0.ways v18).been)).length), ab ((nth a0.ways v18).shown), ai ((nth a0.ways v18).timer)]]⟩ :: List.map fbk (bs4 ++ [(idt ((nth a0.ways v18).been))]))) q16.1 q16.2 ?_
  refine sEnd' [(31, ap 3 3)] [(5, [ai ((nth a0.ways v18).state), ai ((nth a0.ways v18).gone), rf (bs4.length + 4) 0 ((idt ((nth a0.ways v18).been)).length), ab ((nth a0.ways v18).shown), ai ((nth a0.ways v18).timer)]), (3, [ab a0.ok, rf 0 0 ((idt a0.occ).length), rf 1 0 ((idt a0.points).length), rf 2 (g2 + 1) ((ws2 ++ [(Held.mk ((nth a0.ways v18).state) ((nth a0.ways v18).gone) (idt ((nth a0.ways v18).been)) ((nth a0.ways v18).shown) ((nth a0.ways v18).timer))]).length)]), (2, [ab false, an, an, an])] (⟨0, 1, List.map eBool (idt a0.occ)⟩ :: ⟨0, 2, List.map ePoint (idt a0.points)⟩ :: ⟨(g2 + 1), 5, hRows 4 (ws2 ++ [(Held.mk ((nth a0.ways v18).state) ((nth a0.ways v18).gone) (idt ((nth a0.ways v18).been)) ((nth a0.ways v18).shown) ((nth a0.ways v18).timer))]) (is2 ++ [bs4.length])⟩ :: ⟨(g3 + 1), 5, [[ai ((nth a0.ways v18).state), ai ((nth a0.ways v18).gone), rf (bs4.length + 4) 0 ((idt ((nth a0.ways v18).been)).length), ab ((nth a0.ways v18).shown), ai ((nth a0.ways v18).timer)]]⟩ :: List.map fbk (bs4 ++ [(idt ((nth a0.ways v18).been))])) ?_
  refine QBlock.normal ?_
  exact QJoin.normal trivial wkJ
 unfold impl_copied_C1 at h
 refine rgS [1000003] 7 ?_
 refine sEnd [(18, ai (IntKind.i64.wrap (v18 + 1))), (32, ai (IntKind.i64.wrap (v18 + 1)))] ?_
 exact QRound.again ((bs4 ++ [(idt ((nth a0.ways v18).been))]), (g2 + 1), (g3 + 1), (is2 ++ [bs4.length]), (IntKind.i64.wrap (v18 + 1)), (ws2 ++ [(Held.mk ((nth a0.ways v18).state) ((nth a0.ways v18).gone) (idt ((nth a0.ways v18).been)) ((nth a0.ways v18).shown) ((nth a0.ways v18).timer))])) h ((Weak.clear 3 rfl : Weak ⟨(mkS 34 [(18, ai (IntKind.i64.wrap (v18 + 1))), (32, ai (IntKind.i64.wrap (v18 + 1))), (2, ap 2 0), (3, ap 3 0), (16, al (eHeld false) a0.ways), (17, ai (a0.ways.length : Int))]), [(5, [ai ((nth a0.ways v18).state), ai ((nth a0.ways v18).gone), rf (bs4.length + 4) 0 ((idt ((nth a0.ways v18).been)).length), ab ((nth a0.ways v18).shown), ai ((nth a0.ways v18).timer)]), (3, [ab a0.ok, rf 0 0 ((idt a0.occ).length), rf 1 0 ((idt a0.points).length), rf 2 (g2 + 1) ((ws2 ++ [(Held.mk ((nth a0.ways v18).state) ((nth a0.ways v18).gone) (idt ((nth a0.ways v18).been)) ((nth a0.ways v18).shown) ((nth a0.ways v18).timer))]).length)]), (2, [ab false, an, an, an])], (⟨0, 1, List.map eBool (idt a0.occ)⟩ :: ⟨0, 2, List.map ePoint (idt a0.points)⟩ :: ⟨(g2 + 1), 5, hRows 4 (ws2 ++ [(Held.mk ((nth a0.ways v18).state) ((nth a0.ways v18).gone) (idt ((nth a0.ways v18).been)) ((nth a0.ways v18).shown) ((nth a0.ways v18).timer))]) (is2 ++ [bs4.length])⟩ :: ⟨(g3 + 1), 5, [[ai ((nth a0.ways v18).state), ai ((nth a0.ways v18).gone), rf (bs4.length + 4) 0 ((idt ((nth a0.ways v18).been)).length), ab ((nth a0.ways v18).shown), ai ((nth a0.ways v18).timer)]]⟩ :: List.map fbk (bs4 ++ [(idt ((nth a0.ways v18).been))]))⟩ ⟨(mkS 34 [(18, ai (IntKind.i64.wrap (v18 + 1))), (32, ai (IntKind.i64.wrap (v18 + 1))), (2, ap 2 0), (3, ap 3 0), (16, al (eHeld false) a0.ways), (17, ai (a0.ways.length : Int))]), [(5, [ai ((nth a0.ways v18).state), ai ((nth a0.ways v18).gone), rf (bs4.length + 4) 0 ((idt ((nth a0.ways v18).been)).length), ab ((nth a0.ways v18).shown), ai ((nth a0.ways v18).timer)]), (3, [ab a0.ok, rf 0 0 ((idt a0.occ).length), rf 1 0 ((idt a0.points).length), rf 2 (g2 + 1) ((ws2 ++ [(Held.mk ((nth a0.ways v18).state) ((nth a0.ways v18).gone) (idt ((nth a0.ways v18).been)) ((nth a0.ways v18).shown) ((nth a0.ways v18).timer))]).length)]), (2, [ab false, an, an, an])], (⟨0, 1, List.map eBool (idt a0.occ)⟩ :: ⟨0, 2, List.map ePoint (idt a0.points)⟩ :: ⟨(g2 + 1), 5, hRows 4 (ws2 ++ [(Held.mk ((nth a0.ways v18).state) ((nth a0.ways v18).gone) (idt ((nth a0.ways v18).been)) ((nth a0.ways v18).shown) ((nth a0.ways v18).timer))]) (is2 ++ [bs4.length])⟩ :: ⟨(g3 + 1), 5, []⟩ :: List.map fbk (bs4 ++ [(idt ((nth a0.ways v18).been))]))⟩).trans (wkL [5]))
theorem impl_copied_O (a0 : Frame) (hp : smallF a0) : FnS Try.prog 61 [.agg (eFrame false a0)] [] (fun r H => r = .agg [ab ((idt a0).ok), rf 0 0 (((idt a0).occ).length), rf 1 0 (((idt a0).points).length), rf 2 0 (((idt a0).ways).length)] ∧ H = (⟨0, 1, List.map eBool ((idt a0).occ)⟩ :: ⟨0, 2, List.map ePoint ((idt a0).points)⟩ :: ⟨0, 5, hRows 3 ((idt a0).ways) (List.range ((idt a0).ways).length)⟩ :: List.map fbk (List.map Held.been ((idt a0).ways)))) := impl_copied_walk a0 (idt a0) (fun bs _ _ is v ws => upI a0.ways.length (fun _ => false) v ∧ ws = a0.ways.take v.toNat ∧ is = List.range ws.length ∧ bs = ws.map Held.been) (fun _ _ _ _ v _ => upM a0.ways.length v) (by
 unfold impl_copied_C
 obtain ⟨p1, p2, p3, p4⟩ := hp
 refine ⟨⟨p1, p2⟩, fun hn => ⟨⟨up_start (len0 _), rfl, rfl, rfl⟩, fun bs g2 g3 is v ws hI => ?_⟩⟩
 unfold impl_copied_C2 impl_copied_C1
 obtain ⟨hI, rfl, hi, hb⟩ := hI
 refine ⟨fun hv => ?_, fun hv => ⟨⟨up_in hI hv, p4 _ (nth_mem (up_in hI hv).2), ?_, ?_, ?_⟩, ⟨(up_step (lenI hn) hI hv rfl).1, ?_, ?_, ?_⟩, (up_step (lenI hn) hI hv rfl).2⟩⟩
 ·have : ¬ v < (a0.ways.length : Int) := by simpa using hv
  have h1 := hI.1
  rw [List.take_of_length_le (by omega)] at hi hb ⊢
  exact ⟨rfl, rfl, rfl, rfl, hi, hb⟩
 ·rw [hi]; simp
 ·rw [List.length_take]; omega
 ·rw [List.length_take]; omega
 ·have hin := up_in hI hv
  rw [wrap_up (lenI hn) hin.1 (by omega), show (v + 1).toNat = v.toNat + 1 by omega, List.take_succ_eq_append_getElem hin.2, ← nth_eq hin.2]; rfl
 ·rw [hi, hb]; simp [List.range_succ]
 ·rw [hb, List.map_append]; rfl)
noncomputable def impl_copiedv_b : Code := bodyC Try.f61
def impl_copiedv_o1 : List Item := [iq 0, iq 1, iq 2, iq 3, iq 4, iq 5, iq 6, iq 7, iq 8, iq 9, ⟨10, true, false, []⟩]
def impl_copiedv_o1a : List (List Nat) := [[], [0], [], [2], [2, 3], [], [5], rg 2 7, rg 0 8, [], rg 0 10]
def impl_copiedv_C1 (a0 : Frame) (x0 : (List Held)) (v18 : Int) : Prop :=
  (small ((nth a0.ways v18).been)) ∧ ((x0.length + [(Held.mk ((nth a0.ways v18).state) ((nth a0.ways v18).gone) (idt ((nth a0.ways v18).been)) ((nth a0.ways v18).shown) ((nth a0.ways v18).timer))].length) * 56 ≤ 140737488355328 ∧ x0.length + [(Held.mk ((nth a0.ways v18).state) ((nth a0.ways v18).gone) (idt ((nth a0.ways v18).been)) ((nth a0.ways v18).shown) ((nth a0.ways v18).timer))].length ≤ 4611686018427387904)
def impl_copiedv_C2 (I0 : Nat → (List Held) → Int → Prop) (m0 : Nat → (List Held) → Int → Nat) (a0 : Frame) (g0 : Nat) (x0 : (List Held)) (v18 : Int) : Prop :=
  I0 (g0 + 1) (x0 ++ [(Held.mk ((nth a0.ways v18).state) ((nth a0.ways v18).gone) (idt ((nth a0.ways v18).been)) ((nth a0.ways v18).shown) ((nth a0.ways v18).timer))]) (IntKind.i64.wrap (v18 + 1)) ∧ m0 (g0 + 1) (x0 ++ [(Held.mk ((nth a0.ways v18).state) ((nth a0.ways v18).gone) (idt ((nth a0.ways v18).been)) ((nth a0.ways v18).shown) ((nth a0.ways v18).timer))]) (IntKind.i64.wrap (v18 + 1)) < m0 g0 x0 v18
def impl_copiedv_C3 (I0 : Nat → (List Held) → Int → Prop) (m0 : Nat → (List Held) → Int → Nat) (a0 res : Frame) : Prop :=
  I0 0 ([] : List Held) 0 ∧ ∀ (g0 : Nat) (x0 : (List Held)) (v18 : Int), I0 g0 x0 v18 → (((decide (v18 < (a0.ways.length : Int))) = false → (a0.ok = res.ok) ∧ ((idt a0.occ) = res.occ) ∧ ((idt a0.points) = res.points) ∧ (x0.length ≤ 4611686018427387904 ∧ x0 = res.ways)) ∧ ((decide (v18 < (a0.ways.length : Int))) = true → ((0 ≤ v18 ∧ v18.toNat < a0.ways.length) ∧ (impl_copiedv_C1 a0 x0 v18)) ∧ (impl_copiedv_C2 I0 m0 a0 g0 x0 v18)))
def impl_copiedv_C (a0 : Frame) (res : Frame) (I0 : Nat → (List Held) → Int → Prop) (m0 : Nat → (List Held) → Int → Nat) : Prop :=
 ((small a0.occ) ∧ (small a0.points)) ∧ (a0.ways.length ≤ 4611686018427387904 → impl_copiedv_C3 I0 m0 a0 res)
theorem impl_copiedv_walk (a0 : Frame) (res : Frame) (I0 : Nat → (List Held) → Int → Prop) (m0 : Nat → (List Held) → Int → Nat) (h : impl_copiedv_C a0 res I0 m0) : FnV Try.prog 61 [.agg (eFrame false a0)] (.agg (eFrame true res)) := by
 unfold impl_copiedv_C at h
 refine FnS.go (fn := Try.f61) [(0, .agg (eFrame false a0))] Try.func61 ?_
 show WpS _ (nv impl_copiedv_b 1) _ ⟨mkS 34 [(0, .agg (eFrame false a0))], [], []⟩
 refine cRN [] 0 [(2, ap 2 0), (1, ap 1 0)] [2] [] [(2, [ab false, an, an, an]), (1, (eFrame false a0))] [] ?_
 obtain ⟨q22, h⟩ := h
 refine cSeqE [(3, ap 3 0)] [2] (fun L => (3, [ab a0.ok, af eBool (idt a0.occ), af ePoint (idt a0.points), an]) :: L) id (True) ?_ (fun q2 => ?_)
 ·
  replace h := q22
  refine rgD [] 1 impl_copiedv_o1 impl_copiedv_o1a [(3, [ab false, an, an, an])] ?_
  obtain ⟨q3, h⟩ := h
  refine tCallV 5 (some 10) [(9, al eBool a0.occ), (8, ap 1 1), (7, ab a0.ok), (6, ap 1 0)] [al eBool a0.occ] (slices_Clone_boolv_V a0.occ q3) (PW.cons (Snap2.of1 sa_lst) PW.nil) ?_
  have q4 := h
  refine tCallV 3 (some 13) [(12, al ePoint a0.points), (11, ap 1 2)] [al ePoint a0.points] (slices_Clone_Pointv_V a0.points q4) (PW.cons (Snap2.of1 sa_lst) PW.nil) ?_
  refine tFl 3 [(3, ap 3 0), (14, .agg [ab a0.ok, af eBool (idt a0.occ), af ePoint (idt a0.points), an])] [(3, [ab a0.ok, af eBool (idt a0.occ), af ePoint (idt a0.points), an]), (2, [ab false, an, an, an]), (1, (eFrame false a0))] [] (φ := True) trivial ?_
  exact tEJ [] trivial
 refine cSeq ?_
 refine cSeqM [(16, al (eHeld false) a0.ways), (17, ai (a0.ways.length : Int)), (18, ai 0)] [2] (a0.ways.length ≤ 4611686018427387904) ?_ (fun q5 => ?_)
 ·
  refine rgS [] 2 ?_
  refine sLen 3 (some 17) [(16, al (eHeld false) a0.ways), (15, ap 1 3)] (eHeld false) a0.ways (fun q6 => ?_)
  exact sEJ [(18, ai 0)] q6
 replace h := h q5
 unfold impl_copiedv_C3 at h
 refine cBlock 0 ?_
 refine WpS.weak ?_ (weak_eq (s'' := ⟨(mkS 34 [(16, al (eHeld false) a0.ways), (17, ai (a0.ways.length : Int)), (18, ai 0), (3, ap 3 0), (2, ap 2 0)]), [(3, [ab a0.ok, af eBool (idt a0.occ), af ePoint (idt a0.points), rf 0 0 (([] : List Held).length)]), (2, [ab false, an, an, an]), (1, (eFrame false a0))], [⟨0, 5, List.map (eHeld true) ([] : List Held)⟩]⟩) (Weak.adoptL (T := (mkS 34 [(16, al (eHeld false) a0.ways), (17, ai (a0.ways.length : Int)), (18, ai 0), (3, ap 3 0), (2, ap 2 0)])) (L := [(3, [ab a0.ok, af eBool (idt a0.occ), af ePoint (idt a0.points), an]), (2, [ab false, an, an, an]), (1, (eFrame false a0))]) (H := []) (cells := [ab a0.ok, af eBool (idt a0.occ), af ePoint (idt a0.points), an]) 3 3 5 (by kernel_rfl) (by kernel_rfl)) (by kernel_rfl))
 obtain ⟨q21, h⟩ := h
 refine cLoop (fun (v : Nat × (List Held) × Int) => (⟨(mkS 34 [(2, ap 2 0), (3, ap 3 0), (16, al (eHeld false) a0.ways), (17, ai (a0.ways.length : Int)), (18, ai (v.2.2))]), [(3, [ab a0.ok, af eBool (idt a0.occ), af ePoint (idt a0.points), rf 0 (v.1) ((v.2.1).length)]), (2, [ab false, an, an, an])], [⟨(v.1), 5, List.map (eHeld true) (v.2.1)⟩]⟩ : St)) (fun (v : Nat × (List Held) × Int) => I0 (v.1) (v.2.1) (v.2.2)) (fun (v : Nat × (List Held) × Int) => m0 (v.1) (v.2.1) (v.2.2)) (0, ([] : List Held), 0) (wkL [1]) q21 (fun v hI => ?_)
 obtain ⟨g0, x0, v18⟩ := v
 replace h := h g0 x0 v18 hI
 dsimp only
 refine cRM [] 3 [(19, ab (decide (v18 < (a0.ways.length : Int))))] [1] [5] ?_
 obtain ⟨q20, h⟩ := h
 refine cSeqM [] [0, 1, 5] ((decide (v18 < (a0.ways.length : Int))) = true) ?_ (fun q8 => ?_)
 ·
  replace h := q20
  refine cCond1 (fun q9 => ?_) (fun q9 => ?_)
  ·
   refine cSkip ?_
   exact QJoin.normal (by simp only [q9] <;> rfl) wkJ
  ·
   replace h := h q9
   refine cExit 0 ?_
   refine QJoin.exit ?_
   refine QRound.exit ?_
   refine QBlock.here ?_
   refine QSeq.normal ?_
   refine cSeqG ⟨(mkS 34 [(2, ap 2 0)]), [(3, [ab a0.ok, af eBool (idt a0.occ), af ePoint (idt a0.points), rf 0 g0 x0.length]), (2, [ab a0.ok, af eBool (idt a0.occ), af ePoint (idt a0.points), rf 0 g0 x0.length])], [⟨g0, 5, List.map (eHeld true) x0⟩]⟩ (True) ?_ (fun q10 => ?_)
   ·
    refine rgS [] 8 ?_
    exact sEJ [(33, .agg [ab a0.ok, af eBool (idt a0.occ), af ePoint (idt a0.points), rf 0 g0 x0.length])] trivial
   exact cRet (rt1 (.agg [ab a0.ok, af eBool (idt a0.occ), af ePoint (idt a0.points), rf 0 g0 x0.length]) (SnapR3.agg (PW.cons (sr_bool h.1) (PW.cons (sr_lst h.2.1) (PW.cons (sr_lst h.2.2.1) (PW.cons (sr_blk' (sz := 5) (by simp) rfl (cHeld) h.2.2.2) PW.nil))))))
 replace h := h q8
 obtain ⟨q19, h⟩ := h
 refine cSeqE [] [5] (fun L => (5, [ai ((nth a0.ways v18).state), ai ((nth a0.ways v18).gone), af eBool (idt ((nth a0.ways v18).been)), ab ((nth a0.ways v18).shown), ai ((nth a0.ways v18).timer)]) :: ed 0 3 (rf 0 (g0 + 1) ((x0 ++ [(Held.mk ((nth a0.ways v18).state) ((nth a0.ways v18).gone) (idt ((nth a0.ways v18).been)) ((nth a0.ways v18).shown) ((nth a0.ways v18).timer))]).length)) L) (fun H => bk 0 ⟨(g0 + 1), 5, List.map (eHeld true) (x0 ++ [(Held.mk ((nth a0.ways v18).state) ((nth a0.ways v18).gone) (idt ((nth a0.ways v18).been)) ((nth a0.ways v18).shown) ((nth a0.ways v18).timer))])⟩ H) (True) ?_ (fun q11 => ?_)
 ·
  replace h := q19
  refine cBlock 1 ?_
  obtain ⟨q18, h⟩ := h
  refine cSeqE [(5, ap 5 0)] [5] (fun L => (5, (eHeld false (nth a0.ways v18))) :: L) id (True) ?_ (fun q12 => ?_)
  ·
   replace h := q18
   refine rgS [] 4 ?_
   have q13 := h
   refine sIdx 1 (some 20) [] (eHeld false) a0.ways 5 q13 ?_
   exact sEJ [(5, ap 5 0), (21, .agg (eHeld false (nth a0.ways v18)))] trivial
  unfold impl_copiedv_C1 at h
  obtain ⟨q17, h⟩ := h
  refine cSeqE [] [6] (fun L => er 0 [ai ((nth a0.ways v18).state), ai ((nth a0.ways v18).gone), af eBool (idt ((nth a0.ways v18).been)), ab ((nth a0.ways v18).shown), ai ((nth a0.ways v18).timer)] L) id (True) ?_ (fun q14 => ?_)
  ·
   replace h := q17
   refine rgS [] 5 ?_
   have q15 := h
   refine sCallV 3 (some 24) [(23, al eBool ((nth a0.ways v18).been)), (22, ap 5 2)] [al eBool ((nth a0.ways v18).been)] (slices_Clone_boolv_V ((nth a0.ways v18).been) q15) (PW.cons (Snap2.of1 sa_lst) PW.nil) ?_
   exact sEJ [(25, ap 5 2)] trivial
  refine rgS [] 6 ?_
  have q16 := h
  refine sApp 5 (some 30) [(29, .lst (List.map (eHeld false) [(Held.mk ((nth a0.ways v18).state) ((nth a0.ways v18).gone) (idt ((nth a0.ways v18).been)) ((nth a0.ways v18).shown) ((nth a0.ways v18).timer))]) true true), (28, .agg [ai ((nth a0.ways v18).state), ai ((nth a0.ways v18).gone), af eBool (idt ((nth a0.ways v18).been)), ab ((nth a0.ways v18).shown), ai ((nth a0.ways v18).timer)]), (27, rf 0 g0 x0.length), (26, ap 3 3)] (eHeld true) x0 [(Held.mk ((nth a0.ways v18).state) ((nth a0.ways v18).gone) (idt ((nth a0.ways v18).been)) ((nth a0.ways v18).shown) ((nth a0.ways v18).timer))] (refrs true (List.map (eHeld false) [(Held.mk ((nth a0.ways v18).state) ((nth a0.ways v18).gone) (idt ((nth a0.ways v18).been)) ((nth a0.ways v18).shown) ((nth a0.ways v18).timer))])) 0 g0 5 56 (fun r => [⟨(g0 + 1), 5, r⟩]) rfl q16 ?_
  refine sEnd' [(31, ap 3 3)] [(5, [ai ((nth a0.ways v18).state), ai ((nth a0.ways v18).gone), af eBool (idt ((nth a0.ways v18).been)), ab ((nth a0.ways v18).shown), ai ((nth a0.ways v18).timer)]), (3, [ab a0.ok, af eBool (idt a0.occ), af ePoint (idt a0.points), rf 0 (g0 + 1) ((x0 ++ [(Held.mk ((nth a0.ways v18).state) ((nth a0.ways v18).gone) (idt ((nth a0.ways v18).been)) ((nth a0.ways v18).shown) ((nth a0.ways v18).timer))]).length)]), (2, [ab false, an, an, an])] [⟨(g0 + 1), 5, List.map (eHeld true) (x0 ++ [(Held.mk ((nth a0.ways v18).state) ((nth a0.ways v18).gone) (idt ((nth a0.ways v18).been)) ((nth a0.ways v18).shown) ((nth a0.ways v18).timer))])⟩] ?_
  refine QBlock.normal ?_
  exact QJoin.normal trivial wkJ
 unfold impl_copiedv_C2 at h
 refine rgS [] 7 ?_
 refine sEnd [(18, ai (IntKind.i64.wrap (v18 + 1))), (32, ai (IntKind.i64.wrap (v18 + 1)))] ?_
 exact QRound.again ((g0 + 1), (x0 ++ [(Held.mk ((nth a0.ways v18).state) ((nth a0.ways v18).gone) (idt ((nth a0.ways v18).been)) ((nth a0.ways v18).shown) ((nth a0.ways v18).timer))]), (IntKind.i64.wrap (v18 + 1))) h (wkL [5])
theorem impl_copiedv_V (a0 : Frame) (hp : smallF a0) : FnV Try.prog 61 [.agg (eFrame false a0)] (.agg (eFrame true (idt a0))) := impl_copiedv_walk a0 (idt a0) (fun _ x v => upI a0.ways.length (fun _ => false) v ∧ x = a0.ways.take v.toNat) (fun _ _ v => upM a0.ways.length v) (by
 unfold impl_copiedv_C
 obtain ⟨p1, p2, p3, p4⟩ := hp
 refine ⟨⟨p1, p2⟩, fun hn => ?_⟩
 unfold impl_copiedv_C3
 refine ⟨⟨up_start (len0 _), rfl⟩, fun g0 x0 v hI => ?_⟩
 unfold impl_copiedv_C2 impl_copiedv_C1
 obtain ⟨hI, rfl⟩ := hI
 refine ⟨fun hv => ?_, fun hv => ⟨⟨up_in hI hv, p4 _ (nth_mem (up_in hI hv).2), ?_, ?_⟩, ⟨(up_step (lenI hn) hI hv rfl).1, ?_⟩, (up_step (lenI hn) hI hv rfl).2⟩⟩
 ·have : ¬ v < (a0.ways.length : Int) := by simpa using hv
  have h1 := hI.1
  rw [List.take_of_length_le (by omega)]
  exact ⟨rfl, rfl, rfl, by omega, rfl⟩
 ·rw [List.length_take]; simp only [List.length_cons, List.length_nil]; omega
 ·rw [List.length_take]; simp only [List.length_cons, List.length_nil]; omega
 ·have hin := up_in hI hv
  rw [wrap_up (lenI hn) hin.1 (by omega), show (v + 1).toNat = v.toNat + 1 by omega, List.take_succ_eq_append_getElem hin.2, ← nth_eq hin.2]; rfl)
noncomputable def impl_idle_b : Code := bodyC Try.f79
def impl_idle_C1 (a0 : Plan) (a1 : Int) (res : Held) : Prop :=
  ((0 ≤ a1 ∧ a1.toNat < a0.ways.length) ∧ (((nth a0.ways a1).sections).length ≤ 4611686018427387904 → 0 ≤ (((nth a0.ways a1).sections).length : Int) ∧ 1 * (((nth a0.ways a1).sections).length : Int) ≤ 140737488355328 ∧ (((nth a0.ways a1).sections).length : Int) ≤ 4611686018427387904)) ∧ (((nth a0.ways a1).sections).length ≤ 4611686018427387904 → (0 = res.state) ∧ (0 = res.gone) ∧ ((List.replicate (((nth a0.ways a1).sections).length : Int).toNat false) = res.been) ∧ (false = res.shown) ∧ (0 = res.timer))
def impl_idle_C (a0 : Plan) (a1 : Int) (res : Held) : Prop :=
 impl_idle_C1 a0 a1 res
theorem impl_idle_walk (a0 : Plan) (a1 : Int) (res : Held) (h : impl_idle_C a0 a1 res) : FnS Try.prog 79 [.agg (ePlan false a0), ai a1] [] (fun r H => r = .agg [ai res.state, ai res.gone, rf 0 0 res.been.length, ab res.shown, ai res.timer] ∧ H = [⟨0, 1, List.map eBool res.been⟩]) := by
 refine FnS.toOwn ?_
 unfold impl_idle_C at h
 refine FnS.go (fn := Try.f79) [(0, .agg (ePlan false a0)), (1, ai a1)] Try.func79 ?_
 show WpS _ (nv impl_idle_b 1) _ ⟨mkS 14 [(0, .agg (ePlan false a0)), (1, ai a1)], [], []⟩
 refine cRN [] 0 [(4, ap 4 0), (2, ap 2 0)] [2] [0, 1, 1] [(4, [ai 0, ai 0, an, ab false, ai 0]), (2, (ePlan false a0))] [] ?_
 unfold impl_idle_C1 at h
 obtain ⟨q6, h⟩ := h
 refine cSeqE [] [1] (fun L => ed 0 2 (rf 0 0 ((List.replicate (((nth a0.ways a1).sections).length : Int).toNat false).length)) L) (fun _ => [⟨0, 1, List.map eBool (List.replicate (((nth a0.ways a1).sections).length : Int).toNat false)⟩]) (((nth a0.ways a1).sections).length ≤ 4611686018427387904) ?_ (fun q2 => ?_)
 ·
  replace h := q6
  refine rgS [] 1 ?_
  obtain ⟨q5, h⟩ := h
  refine sIdx 4 (some 8) [(7, ai a1), (6, al (eWay false) a0.ways), (5, ap 2 2)] (eWay false) a0.ways 5 q5 ?_
  refine sLen 3 (some 11) [(10, al eInt ((nth a0.ways a1).sections)), (9, .rp (eWay false (nth a0.ways a1)) 0)] eInt ((nth a0.ways a1).sections) (fun q3 => ?_)
  replace h := h q3
  have q4 := h
  refine sMks 1 (some 12) [] eBool 1 [ab false] 0 (fun r => [⟨0, 1, r⟩]) false q4 ?_
  exact sEJ [(13, .agg [ai 0, ai 0, rf 0 0 ((List.replicate (((nth a0.ways a1).sections).length : Int).toNat false).length), ab false, ai 0])] q3
 replace h := h q2
 refine cRet ?_
 refine rtS (.agg [ai 0, ai 0, rf 0 0 ((List.replicate (((nth a0.ways a1).sections).length : Int).toNat false).length), ab false, ai 0]) [.agg [ai 0, ai 0, rf 0 0 ((List.replicate (((nth a0.ways a1).sections).length : Int).toNat false).length), ab false, ai 0]] ?_
 exact ⟨sg [some 0], own_of [some 0] rfl (by decide) ⟨rfl, (rowsOwn_eq (b := 0) (g := 0) (sz := 1) (xs := (List.replicate (((nth a0.ways a1).sections).length : Int).toNat false)) (ys := res.been) rfl oBool (h.2.2.1)), trivial⟩, (.inl ⟨_, _, rfl, rfl, (PW.cons (ow_int (a := 0) (b := res.state) (h.1)) (PW.cons (ow_int (a := 0) (b := res.gone) (h.2.1)) (PW.cons (ow_ref (by simp) rfl rfl (by have := congrArg List.length (h.2.2.1); simpa using this)) (PW.cons (ow_bool (a := false) (b := res.shown) (h.2.2.2.1)) (PW.cons (ow_int (a := 0) (b := res.timer) (h.2.2.2.2)) PW.nil)))))⟩)⟩
theorem impl_idle_O (a0 : Plan) (a1 : Int) (hp : idlePre a0 a1) : FnS Try.prog 79 [.agg (ePlan false a0), ai a1] [] (fun r H => r = .agg [ai ((idleH a0 a1).state), ai ((idleH a0 a1).gone), rf 0 0 (((idleH a0 a1).been).length), ab ((idleH a0 a1).shown), ai ((idleH a0 a1).timer)] ∧ H = [⟨0, 1, List.map eBool ((idleH a0 a1).been)⟩]) := impl_idle_walk a0 a1 (idleH a0 a1) (by
 unfold impl_idle_C impl_idle_C1
 obtain ⟨hP, h0, h1⟩ := hp
 have hlt : a1.toNat < a0.ways.length := by omega
 have := (hP.sections _ (nth_mem hlt)).2.1
 exact ⟨⟨⟨h0, hlt⟩, fun _ => ⟨len0 _, by omega, by omega⟩⟩, fun _ => ⟨rfl, rfl, by show List.replicate _ _ = List.replicate _ _; simp, rfl, rfl⟩⟩)
noncomputable def impl_some_b : Code := bodyC Try.f124
def impl_some_C1 (I0 : Int → Prop) (m0 : Int → Nat) (a0 : Frame) (a1 : (List Int)) (res : Bool) : Prop :=
  a1.length ≤ 4611686018427387904 → I0 0 ∧ ∀ (v9 : Int), I0 v9 → (((decide (v9 < (a1.length : Int))) = false → false = res) ∧ ((decide (v9 < (a1.length : Int))) = true → ((0 ≤ v9 ∧ v9.toNat < a1.length) ∧ ((0 ≤ (nth a1 v9) ∧ (nth a1 v9).toNat < a0.occ.length) ∧ ((nth a0.occ (nth a1 v9)) = true → true = res))) ∧ ((!(nth a0.occ (nth a1 v9))) = true → I0 (IntKind.i64.wrap (v9 + 1)) ∧ m0 (IntKind.i64.wrap (v9 + 1)) < m0 v9)))
def impl_some_C (a0 : Frame) (a1 : (List Int)) (res : Bool) (I0 : Int → Prop) (m0 : Int → Nat) : Prop :=
 impl_some_C1 I0 m0 a0 a1 res
theorem impl_some_walk (a0 : Frame) (a1 : (List Int)) (res : Bool) (I0 : Int → Prop) (m0 : Int → Nat) (h : impl_some_C a0 a1 res I0 m0) : FnV Try.prog 124 [.agg (eFrame false a0), al eInt a1] (ab res) := by
 unfold impl_some_C at h
 refine FnS.go (fn := Try.f124) [(0, .agg (eFrame false a0)), (1, al eInt a1)] Try.func124 ?_
 show WpS _ (nv impl_some_b 1) _ ⟨mkS 19 [(0, .agg (eFrame false a0)), (1, al eInt a1)], [], []⟩
 refine cRN [] 0 [(4, ab false), (2, ap 2 0)] [0, 1, 1] [0, 1, 1] [(2, (eFrame false a0))] [] ?_
 unfold impl_some_C1 at h
 refine cSeq ?_
 refine cSeqM [(7, al eInt a1), (8, ai (a1.length : Int)), (9, ai 0)] [1] (a1.length ≤ 4611686018427387904) ?_ (fun q2 => ?_)
 ·
  refine rgS [] 1 ?_
  refine sLen 2 (some 8) [(7, al eInt a1)] eInt a1 (fun q3 => ?_)
  exact sEJ [(9, ai 0)] q3
 replace h := h q2
 refine cBlock 0 ?_
 obtain ⟨q19, h⟩ := h
 refine cLoop (fun (v : Int) => (⟨(mkS 19 [(2, ap 2 0), (7, al eInt a1), (8, ai (a1.length : Int)), (9, ai v)]), [(2, (eFrame false a0))], []⟩ : St)) (fun (v : Int) => I0 v) (fun (v : Int) => m0 v) 0 (wkL []) q19 (fun v9 hI => ?_)
 replace h := h v9 hI
 refine cRM [] 2 [(10, ab (decide (v9 < (a1.length : Int))))] [1] [4] ?_
 obtain ⟨q18, h⟩ := h
 refine cSeqM [] [0, 1, 4] ((decide (v9 < (a1.length : Int))) = true) ?_ (fun q5 => ?_)
 ·
  replace h := q18
  refine cCond1 (fun q6 => ?_) (fun q6 => ?_)
  ·
   refine cSkip ?_
   exact QJoin.normal (by simp only [q6] <;> rfl) wkJ
  ·
   replace h := h q6
   refine cExit 0 ?_
   refine QJoin.exit ?_
   refine QRound.exit ?_
   refine QBlock.here ?_
   refine QSeq.normal ?_
   refine cSeqG ⟨(mkS 19 [(4, ab false)]), [(2, (eFrame false a0))], []⟩ (True) ?_ (fun q7 => ?_)
   ·
    refine rgS [] 7 ?_
    exact sEJ [(4, ab false)] trivial
   exact cRet (rt1 (ab false) (SnapR3.of1 (sr_bool h)))
 replace h := h q5
 obtain ⟨q17, h⟩ := h
 refine cSeqM [] [4] ((!(nth a0.occ (nth a1 v9))) = true) ?_ (fun q8 => ?_)
 ·
  replace h := q17
  refine cBlock 1 ?_
  obtain ⟨q16, h⟩ := h
  refine cSeqM [(6, ai (nth a1 v9))] [4] (True) ?_ (fun q9 => ?_)
  ·
   replace h := q16
   refine rgS [] 3 ?_
   have q10 := h
   refine sIdx 1 (some 11) [] eInt a1 1 q10 ?_
   exact sEJ [(6, ai (nth a1 v9)), (12, ai (nth a1 v9))] trivial
  obtain ⟨q15, h⟩ := h
  refine cSeqM [(17, ab (nth a0.occ (nth a1 v9)))] [0, 1, 4] (True) ?_ (fun q11 => ?_)
  ·
   replace h := q15
   refine rgS [] 4 ?_
   have q12 := h
   refine sIdx 4 (some 16) [(15, ai (nth a1 v9)), (14, al eBool a0.occ), (13, ap 2 1)] eBool a0.occ 1 q12 ?_
   exact sEJ [(17, ab (nth a0.occ (nth a1 v9)))] trivial
  refine cCond1 (fun q13 => ?_) (fun q13 => ?_)
  ·
   replace h := h q13
   refine cRM [] 5 [(4, ab true)] [1] [] ?_
   exact cRet (QBlock.ret (QJoin.ret (QRound.ret (QBlock.ret (QSeq.ret (rt1 (ab true) (SnapR3.of1 (sr_bool h))))))))
  ·
   refine cSkip ?_
   refine QBlock.normal ?_
   exact QJoin.normal (by simp only [q5, q13] <;> rfl) wkJ
 replace h := h q8
 refine rgS [] 6 ?_
 refine sEnd [(9, ai (IntKind.i64.wrap (v9 + 1))), (18, ai (IntKind.i64.wrap (v9 + 1)))] ?_
 exact QRound.again (IntKind.i64.wrap (v9 + 1)) h (wkL [])
theorem impl_some_V (a0 : Frame) (a1 : (List Int)) (hp : somePre a0 a1) : FnV Try.prog 124 [.agg (eFrame false a0), al eInt a1] (ab (someF a0 a1)) := impl_some_walk a0 a1 (someF a0 a1) (upI a1.length (fun j => occAt a0 (nth a1 j))) (upM a1.length) (by
 unfold impl_some_C impl_some_C1
 intro hn
 refine ⟨up_start (len0 _), fun v hI => ⟨fun hv => ?_, fun hv => ⟨⟨up_in hI hv, ?_, fun hb => ?_⟩, fun hb => up_step (lenI hn) hI hv (not_eq hb)⟩⟩⟩
 ·exact (up_nany (q := fun x => occAt a0 x) hI hv).symm
 ·have := hp _ (nth_mem (up_in hI hv).2)
  exact ⟨this.1, by omega⟩
 ·exact (up_any (q := fun x => occAt a0 x) hI hv hb).symm)
noncomputable def impl_proved_b : Code := bodyC Try.f108
def impl_proved_o5 : List Item := [iq 0, iq 1, iq 2, iq 3, iq 4, iq 5, iq 6, iq 7, iq 8, iq 9, iq 10, iq 11]
def impl_proved_o5a : List (List Nat) := [[], [0], [], [2], rg 0 4, rg 0 5, [], [6], [], [8], rg 6 10, rg 0 11]
def impl_proved_C1 (I0 : Int → Prop) (m0 : Int → Nat) (a0 : Plan) (a1 : Frame) (a2 : Int) (res : Bool) (v18 : Int) : Prop :=
  ((0 ≤ v18 ∧ v18.toNat < (needs (nth a0.ways a2)).length) ∧ ((0 ≤ ((nth (needs (nth a0.ways a2)) v18).sw) ∧ ((nth (needs (nth a0.ways a2)) v18).sw).toNat < a1.points.length) ∧ ((!(((nth a1.points ((nth (needs (nth a0.ways a2)) v18).sw)).want) == ((nth (needs (nth a0.ways a2)) v18).lie) && ((nth a1.points ((nth (needs (nth a0.ways a2)) v18).sw)).lies) == ((nth (needs (nth a0.ways a2)) v18).lie))) = true → false = res))) ∧ ((!(!(((nth a1.points ((nth (needs (nth a0.ways a2)) v18).sw)).want) == ((nth (needs (nth a0.ways a2)) v18).lie) && ((nth a1.points ((nth (needs (nth a0.ways a2)) v18).sw)).lies) == ((nth (needs (nth a0.ways a2)) v18).lie)))) = true → I0 (IntKind.i64.wrap (v18 + 1)) ∧ m0 (IntKind.i64.wrap (v18 + 1)) < m0 v18)
def impl_proved_C2 (I0 : Int → Prop) (m0 : Int → Nat) (a0 : Plan) (a1 : Frame) (a2 : Int) (res : Bool) (v18 : Int) : Prop :=
  ((decide (v18 < ((needs (nth a0.ways a2)).length : Int))) = false → ((somePre a1 ((nth a0.ways a2).sections)) ∧ ((!(someF a1 ((nth a0.ways a2).sections))) = true → somePre a1 ((nth a0.ways a2).over))) ∧ (((!(someF a1 ((nth a0.ways a2).sections))) && (!(someF a1 ((nth a0.ways a2).over)))) = res)) ∧ ((decide (v18 < ((needs (nth a0.ways a2)).length : Int))) = true → impl_proved_C1 I0 m0 a0 a1 a2 res v18)
def impl_proved_C (a0 : Plan) (a1 : Frame) (a2 : Int) (res : Bool) (I0 : Int → Prop) (m0 : Int → Nat) : Prop :=
 (0 ≤ a2 ∧ a2.toNat < a0.ways.length) ∧ ((preNeeds (nth a0.ways a2)) ∧ ((needs (nth a0.ways a2)).length ≤ 4611686018427387904 → I0 0 ∧ ∀ (v18 : Int), I0 v18 → (impl_proved_C2 I0 m0 a0 a1 a2 res v18)))
theorem impl_proved_walk (a0 : Plan) (a1 : Frame) (a2 : Int) (res : Bool) (I0 : Int → Prop) (m0 : Int → Nat) (h : impl_proved_C a0 a1 a2 res I0 m0) : FnV Try.prog 108 [.agg (ePlan false a0), .agg (eFrame false a1), ai a2] (ab res) := by
 unfold impl_proved_C at h
 refine FnS.go (fn := Try.f108) [(0, .agg (ePlan false a0)), (1, .agg (eFrame false a1)), (2, ai a2)] Try.func108 ?_
 show WpS _ (nv impl_proved_b 1) _ ⟨mkS 47 [(0, .agg (ePlan false a0)), (1, .agg (eFrame false a1)), (2, ai a2)], [], []⟩
 refine cRN [] 0 [(6, ab false), (4, ap 4 0), (3, ap 3 0)] [0, 1, 2] [0, 2, 1] [(4, (eFrame false a1)), (3, (ePlan false a0))] [] ?_
 obtain ⟨q28, h⟩ := h
 refine cSeqE [(7, ap 7 0)] [1] (fun L => (7, (eWay false (nth a0.ways a2))) :: L) id (True) ?_ (fun q2 => ?_)
 ·
  replace h := q28
  refine rgS [] 1 ?_
  have q3 := h
  refine sIdx 4 (some 13) [(12, ai a2), (11, al (eWay false) a0.ways), (10, ap 3 2)] (eWay false) a0.ways 5 q3 ?_
  exact sEJ [(7, ap 7 0), (14, .agg (eWay false (nth a0.ways a2)))] trivial
 refine cSeq ?_
 obtain ⟨q27, h⟩ := h
 refine cSeqM [(16, af eLie (needs (nth a0.ways a2))), (17, ai ((needs (nth a0.ways a2)).length : Int)), (18, ai 0)] [2] ((needs (nth a0.ways a2)).length ≤ 4611686018427387904) ?_ (fun q4 => ?_)
 ·
  replace h := q27
  refine rgS [] 2 ?_
  have q5 := h
  refine sCallV 2 (some 16) [(15, .agg (eWay false (nth a0.ways a2)))] [.agg (eWay false (nth a0.ways a2))] (impl_needs_V (nth a0.ways a2) q5) (PW.cons (Snap2.agg (PW.cons sa_lst (PW.cons sa_lst (PW.cons sa_lst (PW.cons sa_lst (PW.cons sa_lst PW.nil)))))) PW.nil) ?_
  refine sLen 1 (some 17) [] eLie (needs (nth a0.ways a2)) (fun q6 => ?_)
  exact sEJ [(18, ai 0)] q6
 replace h := h q4
 refine cBlock 0 ?_
 obtain ⟨q26, h⟩ := h
 refine cLoop (fun (v : Int) => (⟨(mkS 47 [(4, ap 4 0), (7, ap 7 0), (16, af eLie (needs (nth a0.ways a2))), (17, ai ((needs (nth a0.ways a2)).length : Int)), (18, ai v)]), [(7, (eWay false (nth a0.ways a2))), (4, (eFrame false a1))], []⟩ : St)) (fun (v : Int) => I0 v) (fun (v : Int) => m0 v) 0 (wkL [3]) q26 (fun v18 hI => ?_)
 replace h := h v18 hI
 refine cRM [] 3 [(19, ab (decide (v18 < ((needs (nth a0.ways a2)).length : Int))))] [1] [5] ?_
 unfold impl_proved_C2 at h
 obtain ⟨q25, h⟩ := h
 refine cSeqM [] [0, 1, 5] ((decide (v18 < ((needs (nth a0.ways a2)).length : Int))) = true) ?_ (fun q8 => ?_)
 ·
  replace h := q25
  refine cCond1 (fun q9 => ?_) (fun q9 => ?_)
  ·
   refine cSkip ?_
   exact QJoin.normal (by simp only [q9] <;> rfl) wkJ
  ·
   replace h := h q9
   refine cExit 0 ?_
   refine QJoin.exit ?_
   refine QRound.exit ?_
   refine QBlock.here ?_
   refine QSeq.normal ?_
   obtain ⟨q14, h⟩ := h
   refine cSeqG ⟨(mkS 47 [(6, ab ((!(someF a1 ((nth a0.ways a2).sections))) && (!(someF a1 ((nth a0.ways a2).over)))))]), [(7, (eWay false (nth a0.ways a2))), (4, (eFrame false a1))], []⟩ (True) ?_ (fun q10 => ?_)
   ·
    replace h := q14
    refine rgS [] 8 ?_
    obtain ⟨q11, h⟩ := h
    refine sCallV 4 (some 38) [(37, al eInt ((nth a0.ways a2).sections)), (36, ap 7 0), (35, .agg (eFrame false a1))] [.agg (eFrame false a1), al eInt ((nth a0.ways a2).sections)] (impl_some_V a1 ((nth a0.ways a2).sections) q11) (PW.cons (Snap2.agg (PW.cons (.bool _) (PW.cons sa_lst (PW.cons sa_lst (PW.cons sa_lst PW.nil))))) (PW.cons (Snap2.of1 sa_lst) PW.nil)) ?_
    refine sCase1 2 40 (!(someF a1 ((nth a0.ways a2).sections))) [(39, ab (!(someF a1 ((nth a0.ways a2).sections))))] (fun q12 => ?_) (fun q12 => ?_)
    ·
     replace h := h q12
     have q13 := h
     refine sCallV 4 (some 44) [(43, al eInt ((nth a0.ways a2).over)), (42, ap 7 3), (41, .agg (eFrame false a1))] [.agg (eFrame false a1), al eInt ((nth a0.ways a2).over)] (impl_some_V a1 ((nth a0.ways a2).over) q13) (PW.cons (Snap2.agg (PW.cons (.bool _) (PW.cons sa_lst (PW.cons sa_lst (PW.cons sa_lst PW.nil))))) (PW.cons (Snap2.of1 sa_lst) PW.nil)) ?_
     exact sEJ [(6, ab (!(someF a1 ((nth a0.ways a2).over)))), (46, ab (!(someF a1 ((nth a0.ways a2).over)))), (45, ab (!(someF a1 ((nth a0.ways a2).over))))] trivial (by simp only [q9, q12] <;> kernel_rfl)
    ·
     exact sEJ ([(6, ab false), (46, ab false)] ++ tz [45, 44, 43, 42, 41]) trivial (by simp only [q9, q12] <;> kernel_rfl)
   exact cRet (rt1 (ab ((!(someF a1 ((nth a0.ways a2).sections))) && (!(someF a1 ((nth a0.ways a2).over))))) (SnapR3.of1 (sr_bool h)))
 replace h := h q8
 unfold impl_proved_C1 at h
 obtain ⟨q24, h⟩ := h
 refine cSeqE [] [5] (fun L => (9, (eLie (nth (needs (nth a0.ways a2)) v18))) :: L) id ((!(!(((nth a1.points ((nth (needs (nth a0.ways a2)) v18).sw)).want) == ((nth (needs (nth a0.ways a2)) v18).lie) && ((nth a1.points ((nth (needs (nth a0.ways a2)) v18).sw)).lies) == ((nth (needs (nth a0.ways a2)) v18).lie)))) = true) ?_ (fun q15 => ?_)
 ·
  replace h := q24
  refine cBlock 1 ?_
  obtain ⟨q23, h⟩ := h
  refine cSeqE [(9, ap 9 0)] [5] (fun L => (9, (eLie (nth (needs (nth a0.ways a2)) v18))) :: L) id (True) ?_ (fun q16 => ?_)
  ·
   replace h := q23
   refine rgS [] 4 ?_
   have q17 := h
   refine sIdx 1 (some 20) [] eLie (needs (nth a0.ways a2)) 2 q17 ?_
   exact sEJ [(9, ap 9 0), (21, .agg (eLie (nth (needs (nth a0.ways a2)) v18)))] trivial
  obtain ⟨q22, h⟩ := h
  refine cSeqM [(33, ab (!(((nth a1.points ((nth (needs (nth a0.ways a2)) v18).sw)).want) == ((nth (needs (nth a0.ways a2)) v18).lie) && ((nth a1.points ((nth (needs (nth a0.ways a2)) v18).sw)).lies) == ((nth (needs (nth a0.ways a2)) v18).lie))))] [0, 1, 5] (True) ?_ (fun q18 => ?_)
  ·
   replace h := q22
   refine rgD [] 5 impl_proved_o5 impl_proved_o5a [] ?_
   have q19 := h
   refine tIdx 5 (some 26) [(25, ai ((nth (needs (nth a0.ways a2)) v18).sw)), (24, ap 9 0), (23, al ePoint a1.points), (22, ap 4 2)] ePoint a1.points 2 q19 ?_
   exact tEJ [(33, ab (!(((nth a1.points ((nth (needs (nth a0.ways a2)) v18).sw)).want) == ((nth (needs (nth a0.ways a2)) v18).lie) && ((nth a1.points ((nth (needs (nth a0.ways a2)) v18).sw)).lies) == ((nth (needs (nth a0.ways a2)) v18).lie)))), (32, .agg [ai ((nth (needs (nth a0.ways a2)) v18).lie), ai ((nth (needs (nth a0.ways a2)) v18).lie)]), (31, ai ((nth (needs (nth a0.ways a2)) v18).lie)), (30, ap 9 1), (29, ai ((nth (needs (nth a0.ways a2)) v18).lie)), (28, ap 9 1), (27, .agg (ePoint (nth a1.points ((nth (needs (nth a0.ways a2)) v18).sw))))] trivial
  refine cCond1 (fun q20 => ?_) (fun q20 => ?_)
  ·
   replace h := h q20
   refine cRM [] 6 [(6, ab false)] [1] [] ?_
   exact cRet (QBlock.ret (QJoin.ret (QRound.ret (QBlock.ret (QSeq.ret (rt1 (ab false) (SnapR3.of1 (sr_bool h))))))))
  ·
   refine cSkip ?_
   refine QBlock.normal ?_
   exact QJoin.normal (by simp only [q8, q20] <;> rfl) wkJ
 replace h := h q15
 refine rgS [] 7 ?_
 refine sEnd [(18, ai (IntKind.i64.wrap (v18 + 1))), (34, ai (IntKind.i64.wrap (v18 + 1)))] ?_
 exact QRound.again (IntKind.i64.wrap (v18 + 1)) h (wkL [9])
theorem impl_proved_V (a0 : Plan) (a1 : Frame) (a2 : Int) (hp : provedPre a0 a1 a2) : FnV Try.prog 108 [.agg (ePlan false a0), .agg (eFrame false a1), ai a2] (ab (provedF a0 a1 a2)) := impl_proved_walk a0 a1 a2 (provedF a0 a1 a2) (upI (needs (nth a0.ways a2)).length (fun j => !((nth a1.points (nth (needs (nth a0.ways a2)) j).sw).want == (nth (needs (nth a0.ways a2)) j).lie && (nth a1.points (nth (needs (nth a0.ways a2)) j).sw).lies == (nth (needs (nth a0.ways a2)) j).lie))) (upM (needs (nth a0.ways a2)).length) (by
 unfold impl_proved_C
 obtain ⟨hP, hF, h0, h1⟩ := hp
 have hlt : a2.toNat < a0.ways.length := by omega
 have hw := nth_mem hlt
 obtain ⟨l1, l2, l3⟩ := hP.lies _ hw
 have hocc := hF.occ
 have hsec : somePre a1 (nth a0.ways a2).sections := fun x hx => by have := (hP.sections _ hw).2.2 x hx; omega
 have hov : somePre a1 (nth a0.ways a2).over := fun x hx => by have := (hP.over _ hw).2 x hx; omega
 refine ⟨⟨h0, hlt⟩, ⟨by omega, by omega⟩, fun hn => ⟨up_start (len0 _), fun v hI => ?_⟩⟩
 unfold impl_proved_C2 impl_proved_C1
 have hq : ∀ l : Lie, decide (nth a1.points l.sw = ⟨l.lie, l.lie⟩) = ((nth a1.points l.sw).want == l.lie && (nth a1.points l.sw).lies == l.lie) := fun l => by
  rcases nth a1.points l.sw with ⟨x, y⟩
  rw [Bool.eq_iff_iff]; simp
 refine ⟨fun hv => ⟨⟨hsec, fun _ => hov⟩, ?_⟩, fun hv => ⟨⟨up_in hI hv, ?_, fun hb => ?_⟩, fun hb => ?_⟩⟩
 ·have hall := up_all (q := fun l : Lie => !((nth a1.points l.sw).want == l.lie && (nth a1.points l.sw).lies == l.lie)) (up_end hI hv)
  unfold provedF
  have : (needs (nth a0.ways a2)).all (fun l => decide (nth a1.points l.sw = ⟨l.lie, l.lie⟩)) = true := by
   rw [List.all_eq_true]
   intro l hl
   rw [hq]
   simpa using hall l hl
  rw [this, Bool.true_and]
 ·have := l3 _ (nth_mem (up_in hI hv).2)
  have h2 := hF.points
  exact ⟨this.1, by omega⟩
 ·unfold provedF
  have : (needs (nth a0.ways a2)).all (fun l => decide (nth a1.points l.sw = ⟨l.lie, l.lie⟩)) = false := by
   rw [← Bool.not_eq_true, List.all_eq_true]
   intro ha
   have := ha _ (nth_mem (up_in hI hv).2)
   rw [hq] at this
   rw [this] at hb; cases hb
  rw [this]; rfl
 ·exact up_step (lenI hn) hI hv (not_eq hb))
end Go.Proofs.Ytglpfccgmfhkdaa.Fw
