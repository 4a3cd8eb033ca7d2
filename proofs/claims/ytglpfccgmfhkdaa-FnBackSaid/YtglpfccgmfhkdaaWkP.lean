/- Walks and summaries of functions, printed by a program of mine (tools/mk.py), with the proofs of what they owe. -/

import Derived.Test.YtglpfccgmfhkdaaProg
import Derived.Test.YtglpfccgmfhkdaaSpK
import Derived.Test.YtglpfccgmfhkdaaWkA
import Derived.Test.YtglpfccgmfhkdaaWkB
import Derived.Test.YtglpfccgmfhkdaaWkD
import Derived.Test.YtglpfccgmfhkdaaWkE
import Derived.Test.YtglpfccgmfhkdaaWkF
import Derived.Test.YtglpfccgmfhkdaaWkM
import Derived.Test.YtglpfccgmfhkdaaWkN
set_option linter.unusedVariables false
set_option maxRecDepth 100000
set_option maxHeartbeats 4000000
set_option linter.unusedSimpArgs false
namespace Go.Proofs.Ytglpfccgmfhkdaa.Fw
open Go
attribute [local irreducible] evS evSD WpS Weak Oper.looksAt
noncomputable def impl_Begin_b : Code := bodyC Try.f33
def impl_Begin_o11 : List Item := [iq 0, iq 1, iq 2, iq 3, ⟨4, true, false, [0, 1]⟩, ⟨5, true, false, [0, 1]⟩, ⟨6, true, false, []⟩, iq 7, ⟨8, true, false, []⟩]
def impl_Begin_o11a : List (List Nat) := [[], [0], [], [], [2, 3], [2, 3, 4], rg 0 6, rg 0 7, rg 0 8]
def impl_Begin_C1 (I1 : Nat → (List Point) → Int → List (List Bool) → Nat → Nat → List Nat → Int → List Held → Prop) (m1 : Nat → (List Point) → Int → List (List Bool) → Nat → Nat → List Nat → Int → List Held → Nat) (a0 : Plan) (g1 : Nat) (x1 : (List Point)) (v16 : Int) (bs4 : List (List Bool)) (g2 g3 : Nat) (is2 : List Nat) (v28 : Int) (ws2 : List Held) : Prop :=
  I1 g1 x1 v16 (bs4 ++ [(idleH a0 v28).been]) (g2 + 1) (g3 + 1) (is2 ++ [bs4.length]) (IntKind.i64.wrap (v28 + 1)) (ws2 ++ [(Held.mk ((idleH a0 v28).state) ((idleH a0 v28).gone) ((idleH a0 v28).been) ((idleH a0 v28).shown) ((idleH a0 v28).timer))]) ∧ m1 g1 x1 v16 (bs4 ++ [(idleH a0 v28).been]) (g2 + 1) (g3 + 1) (is2 ++ [bs4.length]) (IntKind.i64.wrap (v28 + 1)) (ws2 ++ [(Held.mk ((idleH a0 v28).state) ((idleH a0 v28).gone) ((idleH a0 v28).been) ((idleH a0 v28).shown) ((idleH a0 v28).timer))]) < m1 g1 x1 v16 bs4 g2 g3 is2 v28 ws2
def impl_Begin_C2 (I1 : Nat → (List Point) → Int → List (List Bool) → Nat → Nat → List Nat → Int → List Held → Prop) (m1 : Nat → (List Point) → Int → List (List Bool) → Nat → Nat → List Nat → Int → List Held → Nat) (a0 : Plan) (res : Frame) (g1 : Nat) (x1 : (List Point)) (v16 : Int) (bs4 : List (List Bool)) (g2 g3 : Nat) (is2 : List Nat) (v28 : Int) (ws2 : List Held) : Prop :=
  ((decide (v28 < (a0.ways.length : Int))) = false → (true = res.ok) ∧ ((List.replicate a0.sections.toNat false).length ≤ 4611686018427387904 ∧ (List.replicate a0.sections.toNat false) = res.occ) ∧ (x1.length ≤ 4611686018427387904 ∧ x1 = res.points) ∧ (FamOk ws2 is2 bs4 ∧ ws2.length ≤ 4611686018427387904 ∧ (∀ x ∈ bs4, List.length x ≤ 4611686018427387904) ∧ view ws2 is2 bs4 = res.ways)) ∧ ((decide (v28 < (a0.ways.length : Int))) = true → ((idlePre a0 v28) ∧ (ws2.length = is2.length ∧ ((ws2.length + 1) * 56 ≤ 140737488355328 ∧ ws2.length + 1 ≤ 4611686018427387904))) ∧ (impl_Begin_C1 I1 m1 a0 g1 x1 v16 bs4 g2 g3 is2 v28 ws2))
def impl_Begin_C3 (I0 : Nat → (List Point) → Int → Prop) (m0 : Nat → (List Point) → Int → Nat) (I1 : Nat → (List Point) → Int → List (List Bool) → Nat → Nat → List Nat → Int → List Held → Prop) (m1 : Nat → (List Point) → Int → List (List Bool) → Nat → Nat → List Nat → Int → List Held → Nat) (a0 : Plan) (res : Frame) (g1 : Nat) (x1 : (List Point)) (v16 : Int) : Prop :=
  ((decide (v16 < (a0.switches.length : Int))) = false → a0.ways.length ≤ 4611686018427387904 → I1 g1 x1 v16 ([] : List (List Bool)) 0 0 ([] : List Nat) 0 ([] : List Held) ∧ ∀ (bs4 : List (List Bool)) (g2 : Nat) (g3 : Nat) (is2 : List Nat) (v28 : Int) (ws2 : List Held), I1 g1 x1 v16 bs4 g2 g3 is2 v28 ws2 → (impl_Begin_C2 I1 m1 a0 res g1 x1 v16 bs4 g2 g3 is2 v28 ws2)) ∧ ((decide (v16 < (a0.switches.length : Int))) = true → ((x1.length + [(Point.mk 1 1)].length) * 16 ≤ 140737488355328 ∧ x1.length + [(Point.mk 1 1)].length ≤ 4611686018427387904) ∧ (I0 (g1 + 1) (x1 ++ [(Point.mk 1 1)]) (IntKind.i64.wrap (v16 + 1)) ∧ m0 (g1 + 1) (x1 ++ [(Point.mk 1 1)]) (IntKind.i64.wrap (v16 + 1)) < m0 g1 x1 v16))
def impl_Begin_C4 (I0 : Nat → (List Point) → Int → Prop) (m0 : Nat → (List Point) → Int → Nat) (I1 : Nat → (List Point) → Int → List (List Bool) → Nat → Nat → List Nat → Int → List Held → Prop) (m1 : Nat → (List Point) → Int → List (List Bool) → Nat → Nat → List Nat → Int → List Held → Nat) (a0 : Plan) (res : Frame) : Prop :=
  ((!(planGood a0)) = true → (false = res.ok) ∧ ([] = res.occ) ∧ ([] = res.points) ∧ ([] = res.ways)) ∧ ((!(!(planGood a0))) = true → (0 ≤ a0.sections ∧ 1 * a0.sections ≤ 140737488355328 ∧ a0.sections ≤ 4611686018427387904) ∧ (a0.switches.length ≤ 4611686018427387904 → I0 0 ([] : List Point) 0 ∧ ∀ (g1 : Nat) (x1 : (List Point)) (v16 : Int), I0 g1 x1 v16 → (impl_Begin_C3 I0 m0 I1 m1 a0 res g1 x1 v16)))
def impl_Begin_C (a0 : Plan) (res : Frame) (I0 : Nat → (List Point) → Int → Prop) (m0 : Nat → (List Point) → Int → Nat) (I1 : Nat → (List Point) → Int → List (List Bool) → Nat → Nat → List Nat → Int → List Held → Prop) (m1 : Nat → (List Point) → Int → List (List Bool) → Nat → Nat → List Nat → Int → List Held → Nat) : Prop :=
 impl_Begin_C4 I0 m0 I1 m1 a0 res
theorem impl_Begin_walk (a0 : Plan) (res : Frame) (I0 : Nat → (List Point) → Int → Prop) (m0 : Nat → (List Point) → Int → Nat) (I1 : Nat → (List Point) → Int → List (List Bool) → Nat → Nat → List Nat → Int → List Held → Prop) (m1 : Nat → (List Point) → Int → List (List Bool) → Nat → Nat → List Nat → Int → List Held → Nat) (h : impl_Begin_C a0 res I0 m0 I1 m1) : FnV Try.prog 33 [.agg (ePlan false a0)] (.agg (eFrame true res)) := by
 unfold impl_Begin_C at h
 refine FnS.go (fn := Try.f33) [(0, .agg (ePlan false a0))] Try.func33 ?_
 show WpS _ (nv impl_Begin_b 1) _ ⟨mkS 41 [(0, .agg (ePlan false a0))], [], []⟩
 refine cRN [1000003] 0 [(2, ap 2 0), (1, ap 1 0)] [2] [] [(2, [ab false, an, an, an]), (1, (ePlan false a0))] [] ?_
 unfold impl_Begin_C4 at h
 obtain ⟨q32, h⟩ := h
 refine cSeqM [] [2] ((!(!(planGood a0))) = true) ?_ (fun q2 => ?_)
 ·
  replace h := q32
  refine cSeqM [(7, ab (!(planGood a0)))] [2] (True) ?_ (fun q3 => ?_)
  ·
   refine rgS [1000003] 1 ?_
   refine sCallV 2 (some 6) [(5, .agg (ePlan false a0))] [.agg (ePlan false a0)] (impl_right_V a0) (PW.cons (Snap2.agg (PW.cons (.int _ _) (PW.cons sa_lst (PW.cons sa_lst (PW.cons sa_lst (PW.cons (.int _ _) PW.nil)))))) PW.nil) ?_
   exact sEJ [(7, ab (!(planGood a0)))] trivial
  refine cCond1 (fun q4 => ?_) (fun q4 => ?_)
  ·
   replace h := h q4
   refine cRM [1000003] 2 [(8, .agg [ab false, an, an, an])] [] [0, 1, 1] ?_
   exact cRet (QJoin.ret (rt1 (.agg [ab false, an, an, an]) (SnapR3.agg (PW.cons (sr_bool h.1) (PW.cons (sr_nil h.2.1) (PW.cons (sr_nil h.2.2.1) (PW.cons (sr_nil h.2.2.2) PW.nil)))))))
  ·
   refine cSkip ?_
   exact QJoin.normal (by simp only [q4] <;> rfl) wkJ
 replace h := h q2
 obtain ⟨q31, h⟩ := h
 refine cSeqE [(3, ap 3 0)] [2] (fun L => (3, [ab true, rf 0 0 ((List.replicate a0.sections.toNat false).length), an, an]) :: L) (fun _ => [⟨0, 1, List.map eBool (List.replicate a0.sections.toNat false)⟩]) (True) ?_ (fun q6 => ?_)
 ·
  replace h := q31
  refine rgS [1000003] 3 ?_
  have q7 := h
  refine sMks 3 (some 11) [(10, ai a0.sections), (9, ap 1 0)] eBool 1 [ab false] 0 (fun r => [⟨0, 1, r⟩]) false q7 ?_
  exact sEJ [(3, ap 3 0), (12, .agg [ab true, rf 0 0 ((List.replicate a0.sections.toNat false).length), an, an])] trivial
 refine cSeq ?_
 refine cSeqM [(15, ai (a0.switches.length : Int)), (16, ai 0)] [3] (a0.switches.length ≤ 4611686018427387904) ?_ (fun q8 => ?_)
 ·
  refine rgS [1000003] 4 ?_
  refine sLen 3 (some 15) [(14, al eInt a0.switches), (13, ap 1 1)] eInt a0.switches (fun q9 => ?_)
  exact sEJ [(16, ai 0)] q9
 replace h := h q8
 refine cBlock 0 ?_
 refine WpS.weak ?_ (weak_eq (s'' := ⟨(mkS 41 [(15, ai (a0.switches.length : Int)), (16, ai 0), (3, ap 3 0), (2, ap 2 0), (1, ap 1 0)]), [(3, [ab true, rf 0 0 ((List.replicate a0.sections.toNat false).length), rf 1 0 (([] : List Point).length), an]), (2, [ab false, an, an, an]), (1, (ePlan false a0))], [⟨0, 1, List.map eBool (List.replicate a0.sections.toNat false)⟩, ⟨0, 2, List.map ePoint ([] : List Point)⟩]⟩) (Weak.adoptL (T := (mkS 41 [(15, ai (a0.switches.length : Int)), (16, ai 0), (3, ap 3 0), (2, ap 2 0), (1, ap 1 0)])) (L := [(3, [ab true, rf 0 0 ((List.replicate a0.sections.toNat false).length), an, an]), (2, [ab false, an, an, an]), (1, (ePlan false a0))]) (H := [⟨0, 1, List.map eBool (List.replicate a0.sections.toNat false)⟩]) (cells := [ab true, rf 0 0 ((List.replicate a0.sections.toNat false).length), an, an]) 3 2 2 (by kernel_rfl) (by kernel_rfl)) (by kernel_rfl))
 obtain ⟨q30, h⟩ := h
 refine cLoop (fun (v : Nat × (List Point) × Int) => (⟨(mkS 41 [(1, ap 1 0), (2, ap 2 0), (3, ap 3 0), (15, ai (a0.switches.length : Int)), (16, ai (v.2.2))]), [(3, [ab true, rf 0 0 ((List.replicate a0.sections.toNat false).length), rf 1 (v.1) ((v.2.1).length), an]), (2, [ab false, an, an, an]), (1, (ePlan false a0))], [⟨0, 1, List.map eBool (List.replicate a0.sections.toNat false)⟩, ⟨(v.1), 2, List.map ePoint (v.2.1)⟩]⟩ : St)) (fun (v : Nat × (List Point) × Int) => I0 (v.1) (v.2.1) (v.2.2)) (fun (v : Nat × (List Point) × Int) => m0 (v.1) (v.2.1) (v.2.2)) (0, ([] : List Point), 0) (wkL []) q30 (fun v hI => ?_)
 obtain ⟨g1, x1, v16⟩ := v
 replace h := h g1 x1 v16 hI
 dsimp only
 refine cRM [1000003] 5 [(17, ab (decide (v16 < (a0.switches.length : Int))))] [1] [5] ?_
 unfold impl_Begin_C3 at h
 obtain ⟨q29, h⟩ := h
 refine cSeqM [] [0, 1, 5] ((decide (v16 < (a0.switches.length : Int))) = true) ?_ (fun q11 => ?_)
 ·
  replace h := q29
  refine cCond1 (fun q12 => ?_) (fun q12 => ?_)
  ·
   refine cSkip ?_
   exact QJoin.normal (by simp only [q2, q12] <;> rfl) wkJ
  ·
   replace h := h q12
   refine cExit 0 ?_
   refine QJoin.exit ?_
   refine QRound.exit ?_
   refine QBlock.here ?_
   refine QSeq.normal ?_
   refine cSeq ?_
   refine cSeqG ⟨(mkS 41 [(1, ap 1 0), (2, ap 2 0), (3, ap 3 0), (27, ai (a0.ways.length : Int)), (28, ai 0)]), [(3, [ab true, rf 0 0 ((List.replicate a0.sections.toNat false).length), rf 1 g1 x1.length, an]), (2, [ab false, an, an, an]), (1, (ePlan false a0))], [⟨0, 1, List.map eBool (List.replicate a0.sections.toNat false)⟩, ⟨g1, 2, List.map ePoint x1⟩]⟩ (a0.ways.length ≤ 4611686018427387904) ?_ (fun q13 => ?_)
   ·
    refine rgS [1000003] 8 ?_
    refine sLen 3 (some 27) [(26, al (eWay false) a0.ways), (25, ap 1 2)] (eWay false) a0.ways (fun q14 => ?_)
    exact sEJ [(28, ai 0)] q14
   replace h := h q13
   refine cBlock 2 ?_
   refine WpS.weak ?_ (weak_eq (s'' := ⟨(mkS 41 [(1, ap 1 0), (2, ap 2 0), (3, ap 3 0), (27, ai (a0.ways.length : Int)), (28, ai 0)]), [(3, [ab true, rf 0 0 ((List.replicate a0.sections.toNat false).length), rf 1 g1 x1.length, rf 2 0 (([] : List Held).length)]), (2, [ab false, an, an, an]), (1, (ePlan false a0))], [⟨0, 1, List.map eBool (List.replicate a0.sections.toNat false)⟩, ⟨g1, 2, List.map ePoint x1⟩, ⟨0, 5, hRows 4 ([] : List Held) ([] : List Nat)⟩]⟩) (Weak.adoptL (T := (mkS 41 [(1, ap 1 0), (2, ap 2 0), (3, ap 3 0), (27, ai (a0.ways.length : Int)), (28, ai 0)])) (L := [(3, [ab true, rf 0 0 ((List.replicate a0.sections.toNat false).length), rf 1 g1 x1.length, an]), (2, [ab false, an, an, an]), (1, (ePlan false a0))]) (H := [⟨0, 1, List.map eBool (List.replicate a0.sections.toNat false)⟩, ⟨g1, 2, List.map ePoint x1⟩]) (cells := [ab true, rf 0 0 ((List.replicate a0.sections.toNat false).length), rf 1 g1 x1.length, an]) 3 3 5 (by kernel_rfl) (by kernel_rfl)) (by kernel_rfl))
   refine WpS.weak ?_ (weak_eq (s'' := ⟨(mkS 41 [(1, ap 1 0), (2, ap 2 0), (3, ap 3 0), (27, ai (a0.ways.length : Int)), (28, ai 0)]), [(3, [ab true, rf 0 0 ((List.replicate a0.sections.toNat false).length), rf 1 g1 x1.length, rf 2 0 (([] : List Held).length)]), (2, [ab false, an, an, an]), (1, (ePlan false a0))], (⟨0, 1, List.map eBool (List.replicate a0.sections.toNat false)⟩ :: ⟨g1, 2, List.map ePoint x1⟩ :: ⟨0, 5, hRows 4 ([] : List Held) ([] : List Nat)⟩ :: ⟨0, 5, []⟩ :: List.map fbk ([] : List (List Bool)))⟩) (Weak.newB (T := (mkS 41 [(1, ap 1 0), (2, ap 2 0), (3, ap 3 0), (27, ai (a0.ways.length : Int)), (28, ai 0)])) (L := [(3, [ab true, rf 0 0 ((List.replicate a0.sections.toNat false).length), rf 1 g1 x1.length, rf 2 0 (([] : List Held).length)]), (2, [ab false, an, an, an]), (1, (ePlan false a0))]) (H := [⟨0, 1, List.map eBool (List.replicate a0.sections.toNat false)⟩, ⟨g1, 2, List.map ePoint x1⟩, ⟨0, 5, hRows 4 ([] : List Held) ([] : List Nat)⟩]) 5) (by kernel_rfl))
   obtain ⟨q25, h⟩ := h
   refine cLoop (fun (v : List (List Bool) × Nat × Nat × List Nat × Int × List Held) => (⟨(mkS 41 [(1, ap 1 0), (2, ap 2 0), (3, ap 3 0), (27, ai (a0.ways.length : Int)), (28, ai (v.2.2.2.2.1))]), [(3, [ab true, rf 0 0 ((List.replicate a0.sections.toNat false).length), rf 1 g1 x1.length, rf 2 (v.2.1) ((v.2.2.2.2.2).length)]), (2, [ab false, an, an, an]), (1, (ePlan false a0))], (⟨0, 1, List.map eBool (List.replicate a0.sections.toNat false)⟩ :: ⟨g1, 2, List.map ePoint x1⟩ :: ⟨(v.2.1), 5, hRows 4 (v.2.2.2.2.2) (v.2.2.2.1)⟩ :: ⟨(v.2.2.1), 5, []⟩ :: List.map fbk (v.1))⟩ : St)) (fun (v : List (List Bool) × Nat × Nat × List Nat × Int × List Held) => I1 g1 x1 v16 (v.1) (v.2.1) (v.2.2.1) (v.2.2.2.1) (v.2.2.2.2.1) (v.2.2.2.2.2)) (fun (v : List (List Bool) × Nat × Nat × List Nat × Int × List Held) => m1 g1 x1 v16 (v.1) (v.2.1) (v.2.2.1) (v.2.2.2.1) (v.2.2.2.2.1) (v.2.2.2.2.2)) (([] : List (List Bool)), 0, 0, ([] : List Nat), 0, ([] : List Held)) (wkL []) q25 (fun v hI => ?_)
   obtain ⟨bs4, g2, g3, is2, v28, ws2⟩ := v
   replace h := h bs4 g2 g3 is2 v28 ws2 hI
   dsimp only
   refine cRM [1000003] 9 [(29, ab (decide (v28 < (a0.ways.length : Int))))] [1] [5] ?_
   unfold impl_Begin_C2 at h
   obtain ⟨q24, h⟩ := h
   refine cSeqM [] [0, 1, 5] ((decide (v28 < (a0.ways.length : Int))) = true) ?_ (fun q16 => ?_)
   ·
    replace h := q24
    refine cCond1 (fun q17 => ?_) (fun q17 => ?_)
    ·
     refine cSkip ?_
     exact QJoin.normal (by simp only [q2, q12, q17] <;> rfl) wkJ
    ·
     replace h := h q17
     refine cExit 2 ?_
     refine QJoin.exit ?_
     refine QRound.exit ?_
     refine QBlock.here ?_
     refine QSeq.normal ?_
     refine cSeqG ⟨(mkS 41 [(2, ap 2 0)]), [(3, [ab true, rf 0 0 ((List.replicate a0.sections.toNat false).length), rf 1 g1 x1.length, rf 2 g2 ws2.length]), (2, [ab true, rf 0 0 ((List.replicate a0.sections.toNat false).length), rf 1 g1 x1.length, rf 2 g2 ws2.length]), (1, (ePlan false a0))], (⟨0, 1, List.map eBool (List.replicate a0.sections.toNat false)⟩ :: ⟨g1, 2, List.map ePoint x1⟩ :: ⟨g2, 5, hRows 4 ws2 is2⟩ :: ⟨g3, 5, []⟩ :: List.map fbk bs4)⟩ (True) ?_ (fun q18 => ?_)
     ·
      refine rgS [1000003] 13 ?_
      exact sEJ [(40, .agg [ab true, rf 0 0 ((List.replicate a0.sections.toNat false).length), rf 1 g1 x1.length, rf 2 g2 ws2.length])] trivial
     exact cRet (rt1 (.agg [ab true, rf 0 0 ((List.replicate a0.sections.toNat false).length), rf 1 g1 x1.length, rf 2 g2 ws2.length]) (SnapR3.agg (PW.cons (sr_bool h.1) (PW.cons (sr_blk' (sz := 1) (by simp) rfl (cBool) h.2.1) (PW.cons (sr_blk' (sz := 2) (by simp) rfl (cPoint) h.2.2.1) (PW.cons (sr_fam (s := 4) (ws := ws2) (ids := is2) (bs := bs4) (by simp) rfl (fun id k h => by simpa using h) h.2.2.2) PW.nil))))))
   replace h := h q16
   obtain ⟨q23, h⟩ := h
   refine cSeqE [] [5] (fun L => ed 0 3 (rf 2 (g2 + 1) ((ws2 ++ [(Held.mk ((idleH a0 v28).state) ((idleH a0 v28).gone) ((idleH a0 v28).been) ((idleH a0 v28).shown) ((idleH a0 v28).timer))]).length)) L) (fun _ => (⟨0, 1, List.map eBool (List.replicate a0.sections.toNat false)⟩ :: ⟨g1, 2, List.map ePoint x1⟩ :: ⟨(g2 + 1), 5, hRows 4 (ws2 ++ [(Held.mk ((idleH a0 v28).state) ((idleH a0 v28).gone) ((idleH a0 v28).been) ((idleH a0 v28).shown) ((idleH a0 v28).timer))]) (is2 ++ [bs4.length])⟩ :: ⟨(g3 + 1), 5, [[ai ((idleH a0 v28).state), ai ((idleH a0 v28).gone), rf (bs4.length + 4) 0 (((idleH a0 v28).been).length), ab ((idleH a0 v28).shown), ai ((idleH a0 v28).timer)]]⟩ :: List.map fbk (bs4 ++ [(idleH a0 v28).been]))) (True) ?_ (fun q19 => ?_)
   ·
    replace h := q23
    refine cBlock 3 ?_
    refine cRM [1000003] 10 [(4, ai v28), (30, ai v28)] [1] [5] ?_
    refine rgD [1000003] 11 impl_Begin_o11 impl_Begin_o11a [] ?_
    obtain ⟨q21, h⟩ := h
    refine tCallO 5 (some 35) [(34, ai v28), (33, .agg (ePlan false a0)), (32, rf 2 g2 ws2.length), (31, ap 3 3)] [.agg (ePlan false a0), ai v28] (fun L H => floatsS Try.prog (opsN impl_Begin_b 16025) [0, 1] [(34, ai v28), (33, .agg (ePlan false a0)), (32, rf 2 g2 ws2.length), (31, ap 3 3), (4, ai v28), (1, ap 1 0), (2, ap 2 0), (3, ap 3 0), (27, ai (a0.ways.length : Int)), (28, ai v28)] L H) (.agg [ai ((idleH a0 v28).state), ai ((idleH a0 v28).gone), rf (bs4.length + 4) 0 (((idleH a0 v28).been).length), ab ((idleH a0 v28).shown), ai ((idleH a0 v28).timer)]) (⟨0, 1, List.map eBool (List.replicate a0.sections.toNat false)⟩ :: ⟨g1, 2, List.map ePoint x1⟩ :: ⟨g2, 5, hRows 4 ws2 is2⟩ :: ⟨g3, 5, []⟩ :: List.map fbk (bs4 ++ [(idleH a0 v28).been])) (impl_idle_O a0 v28 q21) (PW.cons (Snap2.agg (PW.cons (.int _ _) (PW.cons sa_lst (PW.cons sa_lst (PW.cons sa_lst (PW.cons (.int _ _) PW.nil)))))) (PW.cons (Snap2.of1 (.int _ _)) PW.nil)) (ownH_cons (fun _ => rfl) rfl) (shift_eq (shift_cons (fun _ => rfl) rfl) (by simp only [List.cons_append, List.map_nil, fam_snoc])) (of_eqP (ψ := ((true = true ∧ true = true ∧ ((ap 3 3 : AV) = ap 3 3)) ∧ ((true = true ∧ true = true ∧ ((rf 2 g2 ws2.length : AV) = rf 2 g2 ws2.length)) ∧ True))) (by kernel_rfl) ⟨⟨rfl, rfl, rfl⟩, ⟨⟨rfl, rfl, rfl⟩, trivial⟩⟩) ?_ (er := by simp [shift3, shift2, shift0])
    refine tFl 1 [(36, .ref 3 (g3 + 1) 0 1 true)] [(3, [ab true, rf 0 0 ((List.replicate a0.sections.toNat false).length), rf 1 g1 x1.length, rf 2 g2 ws2.length]), (2, [ab false, an, an, an]), (1, (ePlan false a0))] (⟨0, 1, List.map eBool (List.replicate a0.sections.toNat false)⟩ :: ⟨g1, 2, List.map ePoint x1⟩ :: ⟨g2, 5, hRows 4 ws2 is2⟩ :: ⟨(g3 + 1), 5, [[ai ((idleH a0 v28).state), ai ((idleH a0 v28).gone), rf (bs4.length + 4) 0 (((idleH a0 v28).been).length), ab ((idleH a0 v28).shown), ai ((idleH a0 v28).timer)]]⟩ :: List.map fbk (bs4 ++ [(idleH a0 v28).been])) (φ := floatsS Try.prog (opsN impl_Begin_b 16025) [0, 1] [(35, .agg [ai ((idleH a0 v28).state), ai ((idleH a0 v28).gone), rf (bs4.length + 4) 0 (((idleH a0 v28).been).length), ab ((idleH a0 v28).shown), ai ((idleH a0 v28).timer)]), (34, ai v28), (33, .agg (ePlan false a0)), (32, rf 2 g2 ws2.length), (31, ap 3 3), (4, ai v28), (1, ap 1 0), (2, ap 2 0), (3, ap 3 0), (27, ai (a0.ways.length : Int)), (28, ai v28)] [(3, [ab true, rf 0 0 ((List.replicate a0.sections.toNat false).length), rf 1 g1 x1.length, rf 2 g2 ws2.length]), (2, [ab false, an, an, an]), (1, (ePlan false a0))] (⟨0, 1, List.map eBool (List.replicate a0.sections.toNat false)⟩ :: ⟨g1, 2, List.map ePoint x1⟩ :: ⟨g2, 5, hRows 4 ws2 is2⟩ :: ⟨(g3 + 1), 5, [[ai ((idleH a0 v28).state), ai ((idleH a0 v28).gone), rf (bs4.length + 4) 0 (((idleH a0 v28).been).length), ab ((idleH a0 v28).shown), ai ((idleH a0 v28).timer)]]⟩ :: List.map fbk (bs4 ++ [(idleH a0 v28).been]))) (of_eqP (ψ := ((true = true ∧ true = true ∧ ((ap 3 3 : AV) = ap 3 3)) ∧ ((true = true ∧ true = true ∧ ((rf 2 g2 ws2.length : AV) = rf 2 g2 ws2.length)) ∧ True))) (by kernel_rfl) ⟨⟨rfl, rfl, rfl⟩, ⟨⟨rfl, rfl, rfl⟩, trivial⟩⟩) ?_
    have q22 := h
    refine tAppW 1 (some 37) [] 4 2 g2 (g3 + 1) 56 ws2 is2 (Held.mk ((idleH a0 v28).state) ((idleH a0 v28).gone) ((idleH a0 v28).been) ((idleH a0 v28).shown) ((idleH a0 v28).timer)) bs4.length (fun _ => True) (fun r => (⟨0, 1, List.map eBool (List.replicate a0.sections.toNat false)⟩ :: ⟨g1, 2, List.map ePoint x1⟩ :: ⟨(g2 + 1), 5, r⟩ :: ⟨(g3 + 1), 5, [[ai ((idleH a0 v28).state), ai ((idleH a0 v28).gone), rf (bs4.length + 4) 0 (((idleH a0 v28).been).length), ab ((idleH a0 v28).shown), ai ((idleH a0 v28).timer)]]⟩ :: List.map fbk (bs4 ++ [(idleH a0 v28).been]))) q22.1 q22.2 trivial ?_
    refine tFl 2 [(38, ap 3 3)] [(3, [ab true, rf 0 0 ((List.replicate a0.sections.toNat false).length), rf 1 g1 x1.length, rf 2 (g2 + 1) ((ws2 ++ [(Held.mk ((idleH a0 v28).state) ((idleH a0 v28).gone) ((idleH a0 v28).been) ((idleH a0 v28).shown) ((idleH a0 v28).timer))]).length)]), (2, [ab false, an, an, an]), (1, (ePlan false a0))] (⟨0, 1, List.map eBool (List.replicate a0.sections.toNat false)⟩ :: ⟨g1, 2, List.map ePoint x1⟩ :: ⟨(g2 + 1), 5, hRows 4 (ws2 ++ [(Held.mk ((idleH a0 v28).state) ((idleH a0 v28).gone) ((idleH a0 v28).been) ((idleH a0 v28).shown) ((idleH a0 v28).timer))]) (is2 ++ [bs4.length])⟩ :: ⟨(g3 + 1), 5, [[ai ((idleH a0 v28).state), ai ((idleH a0 v28).gone), rf (bs4.length + 4) 0 (((idleH a0 v28).been).length), ab ((idleH a0 v28).shown), ai ((idleH a0 v28).timer)]]⟩ :: List.map fbk (bs4 ++ [(idleH a0 v28).been])) (φ := True) trivial ?_
    refine tEnd [] ?_
    refine QBlock.normal ?_
    exact QJoin.normal trivial wkJ
   unfold impl_Begin_C1 at h
   refine rgS [1000003] 12 ?_
   refine sEnd [(28, ai (IntKind.i64.wrap (v28 + 1))), (39, ai (IntKind.i64.wrap (v28 + 1)))] ?_
   exact QRound.again ((bs4 ++ [(idleH a0 v28).been]), (g2 + 1), (g3 + 1), (is2 ++ [bs4.length]), (IntKind.i64.wrap (v28 + 1)), (ws2 ++ [(Held.mk ((idleH a0 v28).state) ((idleH a0 v28).gone) ((idleH a0 v28).been) ((idleH a0 v28).shown) ((idleH a0 v28).timer))])) h ((Weak.clear 3 rfl : Weak ⟨(mkS 41 [(28, ai (IntKind.i64.wrap (v28 + 1))), (39, ai (IntKind.i64.wrap (v28 + 1))), (1, ap 1 0), (2, ap 2 0), (3, ap 3 0), (27, ai (a0.ways.length : Int))]), [(3, [ab true, rf 0 0 ((List.replicate a0.sections.toNat false).length), rf 1 g1 x1.length, rf 2 (g2 + 1) ((ws2 ++ [(Held.mk ((idleH a0 v28).state) ((idleH a0 v28).gone) ((idleH a0 v28).been) ((idleH a0 v28).shown) ((idleH a0 v28).timer))]).length)]), (2, [ab false, an, an, an]), (1, (ePlan false a0))], (⟨0, 1, List.map eBool (List.replicate a0.sections.toNat false)⟩ :: ⟨g1, 2, List.map ePoint x1⟩ :: ⟨(g2 + 1), 5, hRows 4 (ws2 ++ [(Held.mk ((idleH a0 v28).state) ((idleH a0 v28).gone) ((idleH a0 v28).been) ((idleH a0 v28).shown) ((idleH a0 v28).timer))]) (is2 ++ [bs4.length])⟩ :: ⟨(g3 + 1), 5, [[ai ((idleH a0 v28).state), ai ((idleH a0 v28).gone), rf (bs4.length + 4) 0 (((idleH a0 v28).been).length), ab ((idleH a0 v28).shown), ai ((idleH a0 v28).timer)]]⟩ :: List.map fbk (bs4 ++ [(idleH a0 v28).been]))⟩ ⟨(mkS 41 [(28, ai (IntKind.i64.wrap (v28 + 1))), (39, ai (IntKind.i64.wrap (v28 + 1))), (1, ap 1 0), (2, ap 2 0), (3, ap 3 0), (27, ai (a0.ways.length : Int))]), [(3, [ab true, rf 0 0 ((List.replicate a0.sections.toNat false).length), rf 1 g1 x1.length, rf 2 (g2 + 1) ((ws2 ++ [(Held.mk ((idleH a0 v28).state) ((idleH a0 v28).gone) ((idleH a0 v28).been) ((idleH a0 v28).shown) ((idleH a0 v28).timer))]).length)]), (2, [ab false, an, an, an]), (1, (ePlan false a0))], (⟨0, 1, List.map eBool (List.replicate a0.sections.toNat false)⟩ :: ⟨g1, 2, List.map ePoint x1⟩ :: ⟨(g2 + 1), 5, hRows 4 (ws2 ++ [(Held.mk ((idleH a0 v28).state) ((idleH a0 v28).gone) ((idleH a0 v28).been) ((idleH a0 v28).shown) ((idleH a0 v28).timer))]) (is2 ++ [bs4.length])⟩ :: ⟨(g3 + 1), 5, []⟩ :: List.map fbk (bs4 ++ [(idleH a0 v28).been]))⟩).trans (wkL []))
 replace h := h q11
 obtain ⟨q28, h⟩ := h
 refine cSeqE [] [5] (fun L => ed 0 2 (rf 1 (g1 + 1) ((x1 ++ [(Point.mk 1 1)]).length)) L) (fun H => bk 1 ⟨(g1 + 1), 2, List.map ePoint (x1 ++ [(Point.mk 1 1)])⟩ H) (True) ?_ (fun q26 => ?_)
 ·
  replace h := q28
  refine cBlock 1 ?_
  refine rgS [1000003] 6 ?_
  have q27 := h
  refine sApp 5 (some 22) [(21, .lst (List.map ePoint [(Point.mk 1 1)]) true true), (20, .agg [ai 1, ai 1]), (19, rf 1 g1 x1.length), (18, ap 3 2)] ePoint x1 [(Point.mk 1 1)] (refrs true (List.map ePoint [(Point.mk 1 1)])) 1 g1 2 16 (fun r => [⟨0, 1, List.map eBool (List.replicate a0.sections.toNat false)⟩, ⟨(g1 + 1), 2, r⟩]) rfl q27 ?_
  refine sEnd' [(23, ap 3 2)] [(3, [ab true, rf 0 0 ((List.replicate a0.sections.toNat false).length), rf 1 (g1 + 1) ((x1 ++ [(Point.mk 1 1)]).length), an]), (2, [ab false, an, an, an]), (1, (ePlan false a0))] [⟨0, 1, List.map eBool (List.replicate a0.sections.toNat false)⟩, ⟨(g1 + 1), 2, List.map ePoint (x1 ++ [(Point.mk 1 1)])⟩] ?_
  refine QBlock.normal ?_
  exact QJoin.normal trivial wkJ
 refine rgS [1000003] 7 ?_
 refine sEnd [(16, ai (IntKind.i64.wrap (v16 + 1))), (24, ai (IntKind.i64.wrap (v16 + 1)))] ?_
 exact QRound.again ((g1 + 1), (x1 ++ [(Point.mk 1 1)]), (IntKind.i64.wrap (v16 + 1))) h (wkL [])
theorem impl_Begin_V (a0 : Plan) : FnV Try.prog 33 [.agg (ePlan false a0)] (.agg (eFrame true (beginF a0))) := impl_Begin_walk a0 (beginF a0) (fun _ x v => upI a0.switches.length (fun _ => false) v ∧ x = List.replicate v.toNat (Point.mk 1 1)) (fun _ _ v => upM a0.switches.length v) (fun _ x _ bs _ _ is v ws => x = List.replicate a0.switches.length (Point.mk 1 1) ∧ upI a0.ways.length (fun _ => false) v ∧ ws = (a0.ways.take v.toNat).map (fun w => idleN w.sections.length) ∧ is = List.range ws.length ∧ bs = ws.map Held.been) (fun _ _ _ _ _ _ _ v _ => upM a0.ways.length v) (by
 unfold impl_Begin_C impl_Begin_C4
 refine ⟨fun h => ?_, fun h => ?_⟩
 ·have h : planGood a0 = false := by simpa using h
  unfold beginF; rw [if_neg (by rw [h]; simp)]; exact ⟨rfl, rfl, rfl, rfl⟩
 have h : planGood a0 = true := by simpa using h
 have hP := planGood_in h
 have h1 := hP.secs
 have h2 := hP.sw
 have h3 := hP.ways
 have e : beginF a0 = ⟨true, List.replicate a0.sections.toNat false, List.replicate a0.switches.length ⟨1, 1⟩, a0.ways.map fun w => idleN w.sections.length⟩ := by unfold beginF; rw [if_pos h]
 rw [e]
 refine ⟨⟨by omega, by omega, by omega⟩, fun hn => ⟨⟨up_start (len0 _), rfl⟩, fun g x v hI => ?_⟩⟩
 obtain ⟨hI, rfl⟩ := hI
 have hvn := hI.2.1
 unfold impl_Begin_C3
 refine ⟨fun hv hm => ⟨⟨?_, up_start (len0 _), rfl, rfl, rfl⟩, fun bs g2 g3 is k ws hJ => ?_⟩, fun hv => ⟨⟨?_, ?_⟩, ⟨(up_step (lenI hn) hI hv rfl).1, ?_⟩, (up_step (lenI hn) hI hv rfl).2⟩⟩
 ·have : ¬ v < (a0.switches.length : Int) := by simpa using hv
  rw [show v.toNat = a0.switches.length by omega]
 ·obtain ⟨hx, hJ, rfl, rfl, rfl⟩ := hJ
  have hkn := hJ.2.1
  have hk0 := hJ.1
  have hl : ((a0.ways.take k.toNat).map fun w => idleN w.sections.length).length = k.toNat := by rw [List.length_map, List.length_take]; omega
  obtain ⟨r1, r2, r3⟩ := fam_range ((a0.ways.take k.toNat).map fun w => idleN w.sections.length)
  unfold impl_Begin_C2 impl_Begin_C1
  refine ⟨fun hk => ⟨rfl, ⟨by rw [List.length_replicate]; omega, rfl⟩, ⟨by rw [List.length_replicate]; omega, hx⟩, r1, by omega, fun b hb => ?_, ?_⟩, fun hk => ⟨⟨⟨hP, hk0, by simpa using hk⟩, by rw [List.length_range], by omega, by omega⟩, ⟨hx, (up_step (lenI hm) hJ hk rfl).1, ?_, ?_, ?_⟩, (up_step (lenI hm) hJ hk rfl).2⟩⟩
  ·obtain ⟨y, hy, rfl⟩ := List.mem_map.1 hb
   obtain ⟨w, hw, rfl⟩ := List.mem_map.1 hy
   have := (hP.sections w (List.mem_of_mem_take hw)).2.1
   simp [idleN]; omega
  ·rw [r3]
   have : ¬ k < (a0.ways.length : Int) := by simpa using hk
   rw [List.take_of_length_le (by omega)]
  ·have hin := up_in hJ hk
   rw [wrap_up (lenI hm) hk0 (by simpa using hk), show (k + 1).toNat = k.toNat + 1 by omega, List.take_succ_eq_append_getElem hin.2, ← nth_eq hin.2, List.map_append]; rfl
  ·rw [List.length_append, List.length_singleton, List.range_succ, List.length_map]
   simp
  ·rw [List.map_append]; rfl
 ·rw [List.length_replicate, List.length_singleton]; omega
 ·rw [List.length_replicate, List.length_singleton]; omega
 ·rw [wrap_up (lenI hn) hI.1 (by simpa using hv), show (v + 1).toNat = v.toNat + 1 by have := hI.1; omega, List.replicate_succ'])
noncomputable def impl_do_b : Code := bodyC Try.f63
def impl_do_o19 : List Item := [iq 0, iq 1, iq 2, iq 3, iq 4, iq 5, iq 6, iq 7, iq 8, iq 9, iq 10, iq 11, iq 12, iq 13, iq 14, iq 15]
def impl_do_o19a : List (List Nat) := [[], [0], [0, 1], [0, 1, 2], rg 0 4, rg 0 5, rg 0 5, rg 0 5 ++ [6], rg 0 5, rg 0 5 ++ [8], rg 0 5 ++ rg 6 10, rg 0 5 ++ rg 6 11, rg 0 5 ++ rg 6 12, rg 0 13, rg 0 14, rg 0 15]
def impl_do_o20 : List Item := [iq 0, iq 1, iq 2, iq 3, iq 4, iq 5, ⟨6, true, false, [1, 2, 3]⟩, iq 7, iq 8, ⟨9, true, false, []⟩]
def impl_do_o20a : List (List Nat) := [[], [], [], [2], [0], [0, 4], [0, 4, 5], rg 0 7, rg 0 8, rg 0 9]
def impl_do_o30 : List Item := [iq 0, iq 1, iq 2, iq 3, iq 4, iq 5, iq 6, iq 7, iq 8, iq 9, iq 10]
def impl_do_o30a : List (List Nat) := [[], [0], [], [2], [], [4], rg 2 6, rg 2 7, rg 0 8, rg 0 9, rg 0 10]
def impl_do_C1 (I0 : (List Point) → Int → Prop) (m0 : (List Point) → Int → Nat) (a0 : Plan) (a2 : Event) (x1 : (List Point)) (v42 : Int) : Prop :=
  I0 (x1.set ((nth (needs (nth a0.ways a2.tgt)) v42).sw).toNat (Point.mk ((nth (needs (nth a0.ways a2.tgt)) v42).lie) ((nth x1 ((nth (needs (nth a0.ways a2.tgt)) v42).sw)).lies))) (IntKind.i64.wrap (v42 + 1)) ∧ m0 (x1.set ((nth (needs (nth a0.ways a2.tgt)) v42).sw).toNat (Point.mk ((nth (needs (nth a0.ways a2.tgt)) v42).lie) ((nth x1 ((nth (needs (nth a0.ways a2.tgt)) v42).sw)).lies))) (IntKind.i64.wrap (v42 + 1)) < m0 x1 v42
def impl_do_C2 (I0 : (List Point) → Int → Prop) (m0 : (List Point) → Int → Nat) (J0 : List (List Bool) → (List Bool) → (List Point) → List Nat → Int → List Held → Prop) (a0 : Plan) (a1 : Frame) (a2 : Event) (x1 : (List Point)) (v42 : Int) : Prop :=
  ((decide (v42 < ((needs (nth a0.ways a2.tgt)).length : Int))) = false → J0 (List.map Held.been ((idt a1).ways)) ((idt a1).occ) x1 (List.range ((idt a1).ways).length) (whyF a0 (Frame.mk ((idt a1).ok) ((idt a1).occ) ((idt a1).points) (view ((idt a1).ways) (List.range ((idt a1).ways).length) (List.map Held.been ((idt a1).ways)))) a2.tgt) (((idt a1).ways).set a2.tgt.toNat (Held.mk 1 ((nth ((idt a1).ways) a2.tgt).gone) ((nth ((idt a1).ways) a2.tgt).been) ((nth ((idt a1).ways) a2.tgt).shown) ((nth ((idt a1).ways) a2.tgt).timer)))) ∧ ((decide (v42 < ((needs (nth a0.ways a2.tgt)).length : Int))) = true → ((0 ≤ v42 ∧ v42.toNat < (needs (nth a0.ways a2.tgt)).length) ∧ (0 ≤ ((nth (needs (nth a0.ways a2.tgt)) v42).sw) ∧ ((nth (needs (nth a0.ways a2.tgt)) v42).sw).toNat < x1.length)) ∧ (impl_do_C1 I0 m0 a0 a2 x1 v42))
def impl_do_C3 (I0 : (List Point) → Int → Prop) (m0 : (List Point) → Int → Nat) (J0 : List (List Bool) → (List Bool) → (List Point) → List Nat → Int → List Held → Prop) (a0 : Plan) (a1 : Frame) (a2 : Event) : Prop :=
  (((whyF a0 (Frame.mk ((idt a1).ok) ((idt a1).occ) ((idt a1).points) (view ((idt a1).ways) (List.range ((idt a1).ways).length) (List.map Held.been ((idt a1).ways)))) a2.tgt) == 0) = true → ((0 ≤ a2.tgt ∧ a2.tgt.toNat < ((idt a1).ways).length) ∧ (((idt a1).ways).length = (List.range ((idt a1).ways).length).length ∧ a2.tgt.toNat < ((idt a1).ways).length)) ∧ (((0 ≤ a2.tgt ∧ a2.tgt.toNat < a0.ways.length) ∧ (preNeeds (nth a0.ways a2.tgt))) ∧ ((needs (nth a0.ways a2.tgt)).length ≤ 4611686018427387904 → I0 ((idt a1).points) 0 ∧ ∀ (x1 : (List Point)) (v42 : Int), I0 x1 v42 → (impl_do_C2 I0 m0 J0 a0 a1 a2 x1 v42)))) ∧ (((whyF a0 (Frame.mk ((idt a1).ok) ((idt a1).occ) ((idt a1).points) (view ((idt a1).ways) (List.range ((idt a1).ways).length) (List.map Held.been ((idt a1).ways)))) a2.tgt) == 0) = false → J0 (List.map Held.been ((idt a1).ways)) ((idt a1).occ) ((idt a1).points) (List.range ((idt a1).ways).length) (whyF a0 (Frame.mk ((idt a1).ok) ((idt a1).occ) ((idt a1).points) (view ((idt a1).ways) (List.range ((idt a1).ways).length) (List.map Held.been ((idt a1).ways)))) a2.tgt) ((idt a1).ways))
def impl_do_C4 (J0 : List (List Bool) → (List Bool) → (List Point) → List Nat → Int → List Held → Prop) (a0 : Plan) (a1 : Frame) (a2 : Event) : Prop :=
  ((((nth ((idt a1).ways) a2.tgt).shown) && (someF (Frame.mk ((idt a1).ok) ((idt a1).occ) ((idt a1).points) (view ((idt a1).ways) (List.range ((idt a1).ways).length) (List.map Held.been ((idt a1).ways)))) ((nth a0.ways a2.tgt).near))) = true → (((idt a1).ways).length = (List.range ((idt a1).ways).length).length ∧ a2.tgt.toNat < ((idt a1).ways).length) ∧ (((((idt a1).ways).set a2.tgt.toNat (Held.mk 3 ((nth ((idt a1).ways) a2.tgt).gone) ((nth ((idt a1).ways) a2.tgt).been) ((nth ((idt a1).ways) a2.tgt).shown) ((nth ((idt a1).ways) a2.tgt).timer))).length = (List.range ((idt a1).ways).length).length ∧ a2.tgt.toNat < (((idt a1).ways).set a2.tgt.toNat (Held.mk 3 ((nth ((idt a1).ways) a2.tgt).gone) ((nth ((idt a1).ways) a2.tgt).been) ((nth ((idt a1).ways) a2.tgt).shown) ((nth ((idt a1).ways) a2.tgt).timer))).length) ∧ (J0 (List.map Held.been ((idt a1).ways)) ((idt a1).occ) ((idt a1).points) (List.range ((idt a1).ways).length) 0 ((((idt a1).ways).set a2.tgt.toNat (Held.mk 3 ((nth ((idt a1).ways) a2.tgt).gone) ((nth ((idt a1).ways) a2.tgt).been) ((nth ((idt a1).ways) a2.tgt).shown) ((nth ((idt a1).ways) a2.tgt).timer))).set a2.tgt.toNat (Held.mk ((nth (((idt a1).ways).set a2.tgt.toNat (Held.mk 3 ((nth ((idt a1).ways) a2.tgt).gone) ((nth ((idt a1).ways) a2.tgt).been) ((nth ((idt a1).ways) a2.tgt).shown) ((nth ((idt a1).ways) a2.tgt).timer))) a2.tgt).state) ((nth (((idt a1).ways).set a2.tgt.toNat (Held.mk 3 ((nth ((idt a1).ways) a2.tgt).gone) ((nth ((idt a1).ways) a2.tgt).been) ((nth ((idt a1).ways) a2.tgt).shown) ((nth ((idt a1).ways) a2.tgt).timer))) a2.tgt).gone) ((nth (((idt a1).ways).set a2.tgt.toNat (Held.mk 3 ((nth ((idt a1).ways) a2.tgt).gone) ((nth ((idt a1).ways) a2.tgt).been) ((nth ((idt a1).ways) a2.tgt).shown) ((nth ((idt a1).ways) a2.tgt).timer))) a2.tgt).been) ((nth (((idt a1).ways).set a2.tgt.toNat (Held.mk 3 ((nth ((idt a1).ways) a2.tgt).gone) ((nth ((idt a1).ways) a2.tgt).been) ((nth ((idt a1).ways) a2.tgt).shown) ((nth ((idt a1).ways) a2.tgt).timer))) a2.tgt).shown) a0.hold))))) ∧ ((((nth ((idt a1).ways) a2.tgt).shown) && (someF (Frame.mk ((idt a1).ok) ((idt a1).occ) ((idt a1).points) (view ((idt a1).ways) (List.range ((idt a1).ways).length) (List.map Held.been ((idt a1).ways)))) ((nth a0.ways a2.tgt).near))) = false → (idlePre a0 a2.tgt) ∧ ((((idt a1).ways).length = (List.range ((idt a1).ways).length).length ∧ a2.tgt.toNat < ((idt a1).ways).length) ∧ (J0 ((List.map Held.been ((idt a1).ways)) ++ [(idleH a0 a2.tgt).been]) ((idt a1).occ) ((idt a1).points) ((List.range ((idt a1).ways).length).set a2.tgt.toNat ((List.map Held.been ((idt a1).ways)).length)) 0 (((idt a1).ways).set a2.tgt.toNat (Held.mk ((idleH a0 a2.tgt).state) ((idleH a0 a2.tgt).gone) ((idleH a0 a2.tgt).been) ((idleH a0 a2.tgt).shown) ((idleH a0 a2.tgt).timer))))))
def impl_do_C5 (J0 : List (List Bool) → (List Bool) → (List Point) → List Nat → Int → List Held → Prop) (a0 : Plan) (a1 : Frame) (a2 : Event) : Prop :=
  (((((nth ((idt a1).ways) a2.tgt).state) != 1) && (((nth ((idt a1).ways) a2.tgt).state) != 2)) = true → J0 (List.map Held.been ((idt a1).ways)) ((idt a1).occ) ((idt a1).points) (List.range ((idt a1).ways).length) 2 ((idt a1).ways)) ∧ (((((nth ((idt a1).ways) a2.tgt).state) != 1) && (((nth ((idt a1).ways) a2.tgt).state) != 2)) = false → ((((idt a1).ways).length = (List.range ((idt a1).ways).length).length ∧ a2.tgt.toNat < ((idt a1).ways).length) ∧ ((nth ((idt a1).ways) a2.tgt).shown = true → (0 ≤ a2.tgt ∧ a2.tgt.toNat < a0.ways.length) ∧ (((idt a1).occ).length ≤ 4611686018427387904 ∧ ((idt a1).points).length ≤ 4611686018427387904 ∧ (FamOk ((idt a1).ways) (List.range ((idt a1).ways).length) (List.map Held.been ((idt a1).ways)) ∧ ((idt a1).ways).length ≤ 4611686018427387904 ∧ (∀ x ∈ (List.map Held.been ((idt a1).ways)), List.length x ≤ 4611686018427387904)) ∧ somePre (Frame.mk ((idt a1).ok) ((idt a1).occ) ((idt a1).points) (view ((idt a1).ways) (List.range ((idt a1).ways).length) (List.map Held.been ((idt a1).ways)))) ((nth a0.ways a2.tgt).near)))) ∧ (impl_do_C4 J0 a0 a1 a2))
def impl_do_C6 (J0 : List (List Bool) → (List Bool) → (List Point) → List Nat → Int → List Held → Prop) (a0 : Plan) (a1 : Frame) (a2 : Event) : Prop :=
  ((nth ((idt a1).occ) (nth a0.switches a2.tgt)) = true → J0 (List.map Held.been ((idt a1).ways)) ((idt a1).occ) ((idt a1).points) (List.range ((idt a1).ways).length) 3 ((idt a1).ways)) ∧ ((nth ((idt a1).occ) (nth a0.switches a2.tgt)) = false → (0 ≤ a2.tgt ∧ a2.tgt.toNat < ((idt a1).points).length) ∧ (J0 (List.map Held.been ((idt a1).ways)) ((idt a1).occ) (((idt a1).points).set a2.tgt.toNat (Point.mk a2.lie ((nth ((idt a1).points) a2.tgt).lies))) (List.range ((idt a1).ways).length) 0 ((idt a1).ways)))
def impl_do_C7 (J0 : List (List Bool) → (List Bool) → (List Point) → List Nat → Int → List Held → Prop) (a0 : Plan) (a1 : Frame) (a2 : Event) : Prop :=
  ((decide (((pointF a0 (Frame.mk ((idt a1).ok) ((idt a1).occ) ((idt a1).points) (view ((idt a1).ways) (List.range ((idt a1).ways).length) (List.map Held.been ((idt a1).ways)))) a2.tgt).length : Int) > 0)) = true → J0 (List.map Held.been ((idt a1).ways)) ((idt a1).occ) ((idt a1).points) (List.range ((idt a1).ways).length) 2 ((idt a1).ways)) ∧ ((decide (((pointF a0 (Frame.mk ((idt a1).ok) ((idt a1).occ) ((idt a1).points) (view ((idt a1).ways) (List.range ((idt a1).ways).length) (List.map Held.been ((idt a1).ways)))) a2.tgt).length : Int) > 0)) = false → ((0 ≤ a2.tgt ∧ a2.tgt.toNat < a0.switches.length) ∧ (0 ≤ (nth a0.switches a2.tgt) ∧ (nth a0.switches a2.tgt).toNat < ((idt a1).occ).length)) ∧ (impl_do_C6 J0 a0 a1 a2))
def impl_do_C8 (a0 : Plan) (is2 : List Nat) (v160 : Int) (ws2 : List Held) : Prop :=
  (((nth (ws2.set v160.toNat (Held.mk ((nth ws2 v160).state) ((nth ws2 v160).gone) ((nth ws2 v160).been) ((nth ws2 v160).shown) (IntKind.i64.wrap (((nth ws2 v160).timer) - 1)))) v160).timer) == 0) = true → (idlePre a0 v160) ∧ ((ws2.set v160.toNat (Held.mk ((nth ws2 v160).state) ((nth ws2 v160).gone) ((nth ws2 v160).been) ((nth ws2 v160).shown) (IntKind.i64.wrap (((nth ws2 v160).timer) - 1)))).length = is2.length ∧ v160.toNat < (ws2.set v160.toNat (Held.mk ((nth ws2 v160).state) ((nth ws2 v160).gone) ((nth ws2 v160).been) ((nth ws2 v160).shown) (IntKind.i64.wrap (((nth ws2 v160).timer) - 1)))).length)
def impl_do_C9 (a0 : Plan) (is2 : List Nat) (v160 : Int) (ws2 : List Held) : Prop :=
  ((ws2.set v160.toNat (Held.mk ((nth ws2 v160).state) ((nth ws2 v160).gone) ((nth ws2 v160).been) ((nth ws2 v160).shown) (IntKind.i64.wrap (((nth ws2 v160).timer) - 1)))).length = is2.length ∧ v160.toNat < (ws2.set v160.toNat (Held.mk ((nth ws2 v160).state) ((nth ws2 v160).gone) ((nth ws2 v160).been) ((nth ws2 v160).shown) (IntKind.i64.wrap (((nth ws2 v160).timer) - 1)))).length) ∧ (impl_do_C8 a0 is2 v160 ws2)
def impl_do_C10 (I1 : List (List Bool) → List Nat → Int → List Held → Prop) (m1 : List (List Bool) → List Nat → Int → List Held → Nat) (a0 : Plan) (bs3 : List (List Bool)) (is2 : List Nat) (v160 : Int) (ws2 : List Held) : Prop :=
  ((0 ≤ v160 ∧ v160.toNat < ws2.length) ∧ ((ws2.length = is2.length ∧ v160.toNat < ws2.length) ∧ ((((nth ws2 v160).state) == 3) = true → ((ws2.length = is2.length ∧ v160.toNat < ws2.length) ∧ (ws2.length = is2.length ∧ v160.toNat < ws2.length)) ∧ (impl_do_C9 a0 is2 v160 ws2)))) ∧ (∀ w86 : List Held, (bif (((nth ws2 v160).state) == 3) then (bif (((nth (ws2.set v160.toNat (Held.mk ((nth ws2 v160).state) ((nth ws2 v160).gone) ((nth ws2 v160).been) ((nth ws2 v160).shown) (IntKind.i64.wrap (((nth ws2 v160).timer) - 1)))) v160).timer) == 0) then ((ws2.set v160.toNat (Held.mk ((nth ws2 v160).state) ((nth ws2 v160).gone) ((nth ws2 v160).been) ((nth ws2 v160).shown) (IntKind.i64.wrap (((nth ws2 v160).timer) - 1)))).set v160.toNat (Held.mk ((idleH a0 v160).state) ((idleH a0 v160).gone) ((idleH a0 v160).been) ((idleH a0 v160).shown) ((idleH a0 v160).timer))) else (ws2.set v160.toNat (Held.mk ((nth ws2 v160).state) ((nth ws2 v160).gone) ((nth ws2 v160).been) ((nth ws2 v160).shown) (IntKind.i64.wrap (((nth ws2 v160).timer) - 1))))) else ws2) = w86 → (∀ w88 : List Nat, (bif (((nth ws2 v160).state) == 3) then (bif (((nth (ws2.set v160.toNat (Held.mk ((nth ws2 v160).state) ((nth ws2 v160).gone) ((nth ws2 v160).been) ((nth ws2 v160).shown) (IntKind.i64.wrap (((nth ws2 v160).timer) - 1)))) v160).timer) == 0) then (is2.set v160.toNat bs3.length) else is2) else is2) = w88 → (∀ w90 : List (List Bool), (bif (((nth ws2 v160).state) == 3) then (bif (((nth (ws2.set v160.toNat (Held.mk ((nth ws2 v160).state) ((nth ws2 v160).gone) ((nth ws2 v160).been) ((nth ws2 v160).shown) (IntKind.i64.wrap (((nth ws2 v160).timer) - 1)))) v160).timer) == 0) then (bs3 ++ [(idleH a0 v160).been]) else bs3) else bs3) = w90 → (I1 w90 w88 (IntKind.i64.wrap (v160 + 1)) w86 ∧ m1 w90 w88 (IntKind.i64.wrap (v160 + 1)) w86 < m1 bs3 is2 v160 ws2))))
def impl_do_C11 (I1 : List (List Bool) → List Nat → Int → List Held → Prop) (m1 : List (List Bool) → List Nat → Int → List Held → Nat) (J0 : List (List Bool) → (List Bool) → (List Point) → List Nat → Int → List Held → Prop) (a0 : Plan) (a1 : Frame) : Prop :=
  I1 (List.map Held.been ((idt a1).ways)) (List.range ((idt a1).ways).length) 0 ((idt a1).ways) ∧ ∀ (bs3 : List (List Bool)) (is2 : List Nat) (v160 : Int) (ws2 : List Held), I1 bs3 is2 v160 ws2 → (((decide (v160 < (((idt a1).ways).length : Int))) = false → J0 bs3 ((idt a1).occ) ((idt a1).points) is2 0 ws2) ∧ ((decide (v160 < (((idt a1).ways).length : Int))) = true → impl_do_C10 I1 m1 a0 bs3 is2 v160 ws2))
def impl_do_C12 (I1 : List (List Bool) → List Nat → Int → List Held → Prop) (m1 : List (List Bool) → List Nat → Int → List Held → Nat) (J0 : List (List Bool) → (List Bool) → (List Point) → List Nat → Int → List Held → Prop) (a0 : Plan) (a1 : Frame) (a2 : Event) : Prop :=
  ((a2.op == 6) = true → (((idt a1).occ).length ≤ 4611686018427387904 ∧ ((idt a1).points).length ≤ 4611686018427387904 ∧ (FamOk ((idt a1).ways) (List.range ((idt a1).ways).length) (List.map Held.been ((idt a1).ways)) ∧ ((idt a1).ways).length ≤ 4611686018427387904 ∧ (∀ x ∈ (List.map Held.been ((idt a1).ways)), List.length x ≤ 4611686018427387904)) ∧ pointPre a0 (Frame.mk ((idt a1).ok) ((idt a1).occ) ((idt a1).points) (view ((idt a1).ways) (List.range ((idt a1).ways).length) (List.map Held.been ((idt a1).ways)))) a2.tgt) ∧ ((pointF a0 (Frame.mk ((idt a1).ok) ((idt a1).occ) ((idt a1).points) (view ((idt a1).ways) (List.range ((idt a1).ways).length) (List.map Held.been ((idt a1).ways)))) a2.tgt).length ≤ 4611686018427387904 → impl_do_C7 J0 a0 a1 a2)) ∧ ((a2.op == 6) = false → ((a2.op == 7) = true → impl_do_C11 I1 m1 J0 a0 a1) ∧ ((a2.op == 7) = false → J0 (List.map Held.been ((idt a1).ways)) ((idt a1).occ) ((idt a1).points) (List.range ((idt a1).ways).length) 0 ((idt a1).ways)))
def impl_do_C13 (I1 : List (List Bool) → List Nat → Int → List Held → Prop) (m1 : List (List Bool) → List Nat → Int → List Held → Nat) (J0 : List (List Bool) → (List Bool) → (List Point) → List Nat → Int → List Held → Prop) (a0 : Plan) (a1 : Frame) (a2 : Event) : Prop :=
  ((bif (a2.op == 3) then (a2.op == 3) else (a2.op == 4)) = true → (0 ≤ a2.tgt ∧ a2.tgt.toNat < ((idt a1).occ).length) ∧ (J0 (List.map Held.been ((idt a1).ways)) (((idt a1).occ).set a2.tgt.toNat (a2.op == 3)) ((idt a1).points) (List.range ((idt a1).ways).length) 0 ((idt a1).ways))) ∧ ((bif (a2.op == 3) then (a2.op == 3) else (a2.op == 4)) = false → ((a2.op == 5) = true → (0 ≤ a2.tgt ∧ a2.tgt.toNat < ((idt a1).points).length) ∧ (J0 (List.map Held.been ((idt a1).ways)) ((idt a1).occ) (((idt a1).points).set a2.tgt.toNat (Point.mk ((nth ((idt a1).points) a2.tgt).want) a2.lie)) (List.range ((idt a1).ways).length) 0 ((idt a1).ways))) ∧ ((a2.op == 5) = false → impl_do_C12 I1 m1 J0 a0 a1 a2))
def impl_do_C14 (I1 : List (List Bool) → List Nat → Int → List Held → Prop) (m1 : List (List Bool) → List Nat → Int → List Held → Nat) (J0 : List (List Bool) → (List Bool) → (List Point) → List Nat → Int → List Held → Prop) (a0 : Plan) (a1 : Frame) (a2 : Event) : Prop :=
  ((a2.op == 2) = true → (0 ≤ a2.tgt ∧ a2.tgt.toNat < ((idt a1).ways).length) ∧ (((((idt a1).ways).length = (List.range ((idt a1).ways).length).length ∧ a2.tgt.toNat < ((idt a1).ways).length) ∧ ((((nth ((idt a1).ways) a2.tgt).state) != 1) = true → ((idt a1).ways).length = (List.range ((idt a1).ways).length).length ∧ a2.tgt.toNat < ((idt a1).ways).length)) ∧ (impl_do_C5 J0 a0 a1 a2))) ∧ ((a2.op == 2) = false → impl_do_C13 I1 m1 J0 a0 a1 a2)
def impl_do_C15 (I0 : (List Point) → Int → Prop) (m0 : (List Point) → Int → Nat) (I1 : List (List Bool) → List Nat → Int → List Held → Prop) (m1 : List (List Bool) → List Nat → Int → List Held → Nat) (J0 : List (List Bool) → (List Bool) → (List Point) → List Nat → Int → List Held → Prop) (a0 : Plan) (a1 : Frame) (a2 : Event) : Prop :=
  ((a2.op == 1) = true → (((idt a1).occ).length ≤ 4611686018427387904 ∧ ((idt a1).points).length ≤ 4611686018427387904 ∧ (FamOk ((idt a1).ways) (List.range ((idt a1).ways).length) (List.map Held.been ((idt a1).ways)) ∧ ((idt a1).ways).length ≤ 4611686018427387904 ∧ (∀ x ∈ (List.map Held.been ((idt a1).ways)), List.length x ≤ 4611686018427387904)) ∧ whyPre a0 (Frame.mk ((idt a1).ok) ((idt a1).occ) ((idt a1).points) (view ((idt a1).ways) (List.range ((idt a1).ways).length) (List.map Held.been ((idt a1).ways)))) a2.tgt) ∧ (impl_do_C3 I0 m0 J0 a0 a1 a2)) ∧ ((a2.op == 1) = false → impl_do_C14 I1 m1 J0 a0 a1 a2)
def impl_do_C16 (a0 : Plan) (a1 : Frame) (res : Done) (x1 : (List Point)) (bs3 : List (List Bool)) (is2 : List Nat) (ws2 : List Held) (x0 : (List Bool)) (v8 : Int) : Prop :=
  ((v8 != 0) = true → (smallF a1) ∧ ((v8 = res.code) ∧ ((idt a1) = res.frame))) ∧ ((!(v8 != 0)) = true → (x0.length ≤ 4611686018427387904 ∧ x1.length ≤ 4611686018427387904 ∧ (FamOk ws2 is2 bs3 ∧ ws2.length ≤ 4611686018427387904 ∧ (∀ x ∈ bs3, List.length x ≤ 4611686018427387904)) ∧ settlePre a0 (Frame.mk ((idt a1).ok) x0 x1 (view ws2 is2 bs3))) ∧ ((0 = res.code) ∧ ((settleF a0 (Frame.mk ((idt a1).ok) x0 x1 (view ws2 is2 bs3))) = res.frame)))
def impl_do_C (a0 : Plan) (a1 : Frame) (a2 : Event) (res : Done) (I0 : (List Point) → Int → Prop) (m0 : (List Point) → Int → Nat) (I1 : List (List Bool) → List Nat → Int → List Held → Prop) (m1 : List (List Bool) → List Nat → Int → List Held → Nat) (J0 : List (List Bool) → (List Bool) → (List Point) → List Nat → Int → List Held → Prop) : Prop :=
 (smallF a1) ∧ ((impl_do_C15 I0 m0 I1 m1 J0 a0 a1 a2) ∧ (∀ (bs3 : List (List Bool)) (x0 : (List Bool)) (x1 : (List Point)) (is2 : List Nat) (v8 : Int) (ws2 : List Held), J0 bs3 x0 x1 is2 v8 ws2 → (impl_do_C16 a0 a1 res x1 bs3 is2 ws2 x0 v8)))
theorem impl_do_walk (a0 : Plan) (a1 : Frame) (a2 : Event) (res : Done) (I0 : (List Point) → Int → Prop) (m0 : (List Point) → Int → Nat) (I1 : List (List Bool) → List Nat → Int → List Held → Prop) (m1 : List (List Bool) → List Nat → Int → List Held → Nat) (J0 : List (List Bool) → (List Bool) → (List Point) → List Nat → Int → List Held → Prop) (h : impl_do_C a0 a1 a2 res I0 m0 I1 m1 J0) : FnV Try.prog 63 [.agg (ePlan false a0), .agg (eFrame false a1), .agg (eEvent a2)] (.agg (eDone true res)) := by
 unfold impl_do_C at h
 refine FnS.go (fn := Try.f63) [(0, .agg (ePlan false a0)), (1, .agg (eFrame false a1)), (2, .agg (eEvent a2))] Try.func63 ?_
 show WpS _ (nv impl_do_b 1) _ ⟨mkS 200 [(0, .agg (ePlan false a0)), (1, .agg (eFrame false a1)), (2, .agg (eEvent a2))], [], []⟩
 refine cRN [] 0 [(6, ap 6 0), (5, ap 5 0), (4, ap 4 0), (3, ap 3 0)] [4] [] [(6, [ai 0, ab false, an, an, an]), (5, (eEvent a2)), (4, (eFrame false a1)), (3, (ePlan false a0))] [] ?_
 refine cRE [] 1 [(7, ap 7 0), (14, .agg (eFrame false a1))] [1] [4] (fun L => (7, (eFrame false a1)) :: L) id ?_
 obtain ⟨q126, h⟩ := h
 refine cSeqE [] [5] (fun L => er 3 [ab ((idt a1).ok), rf 0 0 (((idt a1).occ).length), rf 1 0 (((idt a1).points).length), rf 2 0 (((idt a1).ways).length)] L) (fun _ => (⟨0, 1, List.map eBool ((idt a1).occ)⟩ :: ⟨0, 2, List.map ePoint ((idt a1).points)⟩ :: ⟨0, 5, hRows 3 ((idt a1).ways) (List.range ((idt a1).ways).length)⟩ :: List.map fbk (List.map Held.been ((idt a1).ways)))) (True) ?_ (fun q3 => ?_)
 ·
  replace h := q126
  refine rgS [] 2 ?_
  have q4 := h
  refine sCallO 2 (some 16) [(15, .agg (eFrame false a1))] [.agg (eFrame false a1)] (.agg [ab ((idt a1).ok), rf 0 0 (((idt a1).occ).length), rf 1 0 (((idt a1).points).length), rf 2 0 (((idt a1).ways).length)]) (⟨0, 1, List.map eBool ((idt a1).occ)⟩ :: ⟨0, 2, List.map ePoint ((idt a1).points)⟩ :: ⟨0, 5, hRows 3 ((idt a1).ways) (List.range ((idt a1).ways).length)⟩ :: List.map fbk (List.map Held.been ((idt a1).ways))) (impl_copied_O a1 q4) (PW.cons (Snap2.agg (PW.cons (.bool _) (PW.cons sa_lst (PW.cons sa_lst (PW.cons sa_lst PW.nil))))) PW.nil) ownH_frame (by rw [List.nil_append]; exact shiftB_zero _) ?_ (er := by simp [shift3, shift2, shift0])
  exact sEJ [] trivial
 refine cRM [] 3 [(8, ai 0)] [1] [5] ?_
 refine cSeq ?_
 refine cRM [] 4 [(18, ai a2.op), (17, ap 5 0)] [1] [6] ?_
 obtain ⟨q125, h⟩ := h
 refine cBlockV 0 (fun (v : List (List Bool) × (List Bool) × (List Point) × List Nat × Int × List Held) => (⟨(mkS 200 [(3, ap 3 0), (4, ap 4 0), (6, ap 6 0), (7, ap 7 0), (8, ai (v.2.2.2.2.1))]), [(7, (eFrame false a1)), (6, [ai 0, ab false, an, an, an]), (4, [ab ((idt a1).ok), rf 0 0 ((v.2.1).length), rf 1 0 ((v.2.2.1).length), rf 2 0 ((v.2.2.2.2.2).length)]), (3, (ePlan false a0))], (⟨0, 1, List.map eBool (v.2.1)⟩ :: ⟨0, 2, List.map ePoint (v.2.2.1)⟩ :: ⟨0, 5, hRows 3 (v.2.2.2.2.2) (v.2.2.2.1)⟩ :: List.map fbk (v.1))⟩ : St)) (fun v => J0 (v.1) (v.2.1) (v.2.2.1) (v.2.2.2.1) (v.2.2.2.2.1) (v.2.2.2.2.2)) ?_ (fun v hJ => ?_)
 ·
  replace h := q125
  refine cRM [] 5 [(19, ab (a2.op == 1)), (20, ab (a2.op == 1))] [1] [7] ?_
  unfold impl_do_C15 at h
  refine cCond1 (fun q8 => ?_) (fun q8 => ?_)
  ·
   replace h := h.1 q8
   obtain ⟨q34, h⟩ := h
   refine cSeqM [(8, ai (whyF a0 (Frame.mk ((idt a1).ok) ((idt a1).occ) ((idt a1).points) (view ((idt a1).ways) (List.range ((idt a1).ways).length) (List.map Held.been ((idt a1).ways)))) a2.tgt))] [0, 3, 5] (True) ?_ (fun q9 => ?_)
   ·
    replace h := q34
    refine rgS [] 6 ?_
    obtain ⟨q10, q11, q12, q13⟩ := h
    refine sCallV 5 (some 25) [(24, ai a2.tgt), (23, ap 5 1), (22, .agg [ab ((idt a1).ok), rf 0 0 (((idt a1).occ).length), rf 1 0 (((idt a1).points).length), rf 2 0 (((idt a1).ways).length)]), (21, .agg (ePlan false a0))] [.agg (ePlan false a0), .agg [ab ((idt a1).ok), rf 0 0 (((idt a1).occ).length), rf 1 0 (((idt a1).points).length), rf 2 0 (((idt a1).ways).length)], ai a2.tgt] (impl_whyNot_V a0 (Frame.mk ((idt a1).ok) ((idt a1).occ) ((idt a1).points) (view ((idt a1).ways) (List.range ((idt a1).ways).length) (List.map Held.been ((idt a1).ways)))) a2.tgt q13) (PW.cons (Snap2.agg (PW.cons (.int _ _) (PW.cons sa_lst (PW.cons sa_lst (PW.cons sa_lst (PW.cons (.int _ _) PW.nil)))))) (PW.cons (Snap2.agg (PW.cons (.bool _) (PW.cons (sa_blk' (sz := 1) (by simp) rfl (iBool) q10) (PW.cons (sa_blk' (sz := 2) (by simp) rfl (iPoint) q11) (PW.cons (sa_fam (s := 3) (ws := (idt a1).ways) (ids := (List.range ((idt a1).ways).length)) (bs := (List.map Held.been ((idt a1).ways))) (by simp) rfl (fun id k h => by simpa using h) q12.1 q12.2.1 q12.2.2) PW.nil))))) (PW.cons (Snap2.of1 (.int _ _)) PW.nil))) ?_
    exact sEJ [(8, ai (whyF a0 (Frame.mk ((idt a1).ok) ((idt a1).occ) ((idt a1).points) (view ((idt a1).ways) (List.range ((idt a1).ways).length) (List.map Held.been ((idt a1).ways)))) a2.tgt))] trivial
   refine cRM [] 7 [(27, ab ((whyF a0 (Frame.mk ((idt a1).ok) ((idt a1).occ) ((idt a1).points) (view ((idt a1).ways) (List.range ((idt a1).ways).length) (List.map Held.been ((idt a1).ways)))) a2.tgt) == 0)), (26, ai (whyF a0 (Frame.mk ((idt a1).ok) ((idt a1).occ) ((idt a1).points) (view ((idt a1).ways) (List.range ((idt a1).ways).length) (List.map Held.been ((idt a1).ways)))) a2.tgt))] [1] [6] ?_
   unfold impl_do_C3 at h
   refine cCond1 (fun q15 => ?_) (fun q15 => ?_)
   ·
    replace h := h.1 q15
    obtain ⟨q33, h⟩ := h
    refine cSeqE [] [0, 1, 6] id (fun H => bk 2 ⟨0, 5, hRows 3 (((idt a1).ways).set a2.tgt.toNat (Held.mk 1 ((nth ((idt a1).ways) a2.tgt).gone) ((nth ((idt a1).ways) a2.tgt).been) ((nth ((idt a1).ways) a2.tgt).shown) ((nth ((idt a1).ways) a2.tgt).timer))) (List.range ((idt a1).ways).length)⟩ H) (True) ?_ (fun q16 => ?_)
    ·
     replace h := q33
     refine rgS [] 8 ?_
     obtain ⟨z32_16044, h⟩ := h
     refine sAdr 5 (some 32) [(31, ai a2.tgt), (30, ap 5 1), (29, rf 2 0 (((idt a1).ways).length)), (28, ap 4 3)] 2 0 5 z32_16044 ?_
     have q17 := h
     refine sStRj 2 none [(33, .ptr 2 0 (0 + a2.tgt.toNat) 0)] (hRows 3 ((idt a1).ways) (List.range ((idt a1).ways).length)) a2.tgt 0 1 0 [ai 1] 2 (hRows 3 (((idt a1).ways).set a2.tgt.toNat (Held.mk 1 ((nth ((idt a1).ways) a2.tgt).gone) ((nth ((idt a1).ways) a2.tgt).been) ((nth ((idt a1).ways) a2.tgt).shown) ((nth ((idt a1).ways) a2.tgt).timer))) (List.range ((idt a1).ways).length)) (hRows_get q17.1 q17.2) (hRows_keep q17.1 q17.2) ?_
     exact sEJ [] trivial
    obtain ⟨q32, h⟩ := h
    refine cSeqM [(40, af eLie (needs (nth a0.ways a2.tgt))), (41, ai ((needs (nth a0.ways a2.tgt)).length : Int)), (42, ai 0)] [3, 1, 2] ((needs (nth a0.ways a2.tgt)).length ≤ 4611686018427387904) ?_ (fun q18 => ?_)
    ·
     replace h := q32
     refine rgS [] 9 ?_
     obtain ⟨q21, h⟩ := h
     refine sIdx 5 (some 38) [(37, ai a2.tgt), (36, ap 5 1), (35, al (eWay false) a0.ways), (34, ap 3 2)] (eWay false) a0.ways 5 q21 ?_
     have q19 := h
     refine sCallV 2 (some 40) [(39, .agg (eWay false (nth a0.ways a2.tgt)))] [.agg (eWay false (nth a0.ways a2.tgt))] (impl_needs_V (nth a0.ways a2.tgt) q19) (PW.cons (Snap2.agg (PW.cons sa_lst (PW.cons sa_lst (PW.cons sa_lst (PW.cons sa_lst (PW.cons sa_lst PW.nil)))))) PW.nil) ?_
     refine sLen 1 (some 41) [] eLie (needs (nth a0.ways a2.tgt)) (fun q20 => ?_)
     exact sEJ [(42, ai 0)] q20
    replace h := h q18
    refine cBlock 1 ?_
    obtain ⟨q31, h⟩ := h
    refine cLoop (fun (v : (List Point) × Int) => (⟨(mkS 200 [(3, ap 3 0), (4, ap 4 0), (6, ap 6 0), (7, ap 7 0), (8, ai (whyF a0 (Frame.mk ((idt a1).ok) ((idt a1).occ) ((idt a1).points) (view ((idt a1).ways) (List.range ((idt a1).ways).length) (List.map Held.been ((idt a1).ways)))) a2.tgt)), (40, af eLie (needs (nth a0.ways a2.tgt))), (41, ai ((needs (nth a0.ways a2.tgt)).length : Int)), (42, ai (v.2))]), [(7, (eFrame false a1)), (6, [ai 0, ab false, an, an, an]), (4, [ab ((idt a1).ok), rf 0 0 (((idt a1).occ).length), rf 1 0 ((v.1).length), rf 2 0 (((idt a1).ways).length)]), (3, (ePlan false a0))], (⟨0, 1, List.map eBool ((idt a1).occ)⟩ :: ⟨0, 2, List.map ePoint (v.1)⟩ :: ⟨0, 5, hRows 3 (((idt a1).ways).set a2.tgt.toNat (Held.mk 1 ((nth ((idt a1).ways) a2.tgt).gone) ((nth ((idt a1).ways) a2.tgt).been) ((nth ((idt a1).ways) a2.tgt).shown) ((nth ((idt a1).ways) a2.tgt).timer))) (List.range ((idt a1).ways).length)⟩ :: List.map fbk (List.map Held.been ((idt a1).ways)))⟩ : St)) (fun (v : (List Point) × Int) => I0 (v.1) (v.2)) (fun (v : (List Point) × Int) => m0 (v.1) (v.2)) ((idt a1).points, 0) (wkL [5]) q31 (fun v hI => ?_)
    obtain ⟨x1, v42⟩ := v
    replace h := h x1 v42 hI
    dsimp only
    refine cRM [] 10 [(43, ab (decide (v42 < ((needs (nth a0.ways a2.tgt)).length : Int))))] [1] [8] ?_
    unfold impl_do_C2 at h
    obtain ⟨q30, h⟩ := h
    refine cSeqM [] [0, 1, 8] ((decide (v42 < ((needs (nth a0.ways a2.tgt)).length : Int))) = true) ?_ (fun q23 => ?_)
    ·
     replace h := q30
     refine cCond1 (fun q24 => ?_) (fun q24 => ?_)
     ·
      refine cSkip ?_
      exact QJoin.normal (by simp only [q8, q15, q24] <;> rfl) wkJ
     ·
      replace h := h q24
      refine cExit 1 ?_
      refine QJoin.exit ?_
      refine QRound.exit ?_
      refine QBlock.here ?_
      refine QBlock.normal ?_
      exact QJoinV.normal ((List.map Held.been ((idt a1).ways)), ((idt a1).occ), x1, (List.range ((idt a1).ways).length), (whyF a0 (Frame.mk ((idt a1).ok) ((idt a1).occ) ((idt a1).points) (view ((idt a1).ways) (List.range ((idt a1).ways).length) (List.map Held.been ((idt a1).ways)))) a2.tgt), (((idt a1).ways).set a2.tgt.toNat (Held.mk 1 ((nth ((idt a1).ways) a2.tgt).gone) ((nth ((idt a1).ways) a2.tgt).been) ((nth ((idt a1).ways) a2.tgt).shown) ((nth ((idt a1).ways) a2.tgt).timer)))) h (weak_eq (s' := ⟨(mkS 200 [(3, ap 3 0), (4, ap 4 0), (6, ap 6 0), (7, ap 7 0), (8, ai (whyF a0 (Frame.mk ((idt a1).ok) ((idt a1).occ) ((idt a1).points) (view ((idt a1).ways) (List.range ((idt a1).ways).length) (List.map Held.been ((idt a1).ways)))) a2.tgt))]), [(7, (eFrame false a1)), (6, [ai 0, ab false, an, an, an]), (4, [ab ((idt a1).ok), rf 0 0 (((idt a1).occ).length), rf 1 0 x1.length, rf 2 0 (((idt a1).ways).length)]), (3, (ePlan false a0))], (⟨0, 1, List.map eBool ((idt a1).occ)⟩ :: ⟨0, 2, List.map ePoint x1⟩ :: ⟨0, 5, hRows 3 (((idt a1).ways).set a2.tgt.toNat (Held.mk 1 ((nth ((idt a1).ways) a2.tgt).gone) ((nth ((idt a1).ways) a2.tgt).been) ((nth ((idt a1).ways) a2.tgt).shown) ((nth ((idt a1).ways) a2.tgt).timer))) (List.range ((idt a1).ways).length)⟩ :: List.map fbk (List.map Held.been ((idt a1).ways)))⟩) (wkL (n := 200) (A' := [(3, ap 3 0), (4, ap 4 0), (6, ap 6 0), (7, ap 7 0), (8, ai (whyF a0 (Frame.mk ((idt a1).ok) ((idt a1).occ) ((idt a1).points) (view ((idt a1).ways) (List.range ((idt a1).ways).length) (List.map Held.been ((idt a1).ways)))) a2.tgt))]) (L' := [(7, (eFrame false a1)), (6, [ai 0, ab false, an, an, an]), (4, [ab ((idt a1).ok), rf 0 0 (((idt a1).occ).length), rf 1 0 x1.length, rf 2 0 (((idt a1).ways).length)]), (3, (ePlan false a0))]) []) (congrArg (fun z => (⟨(mkS 200 [(3, ap 3 0), (4, ap 4 0), (6, ap 6 0), (7, ap 7 0), (8, ai (whyF a0 (Frame.mk ((idt a1).ok) ((idt a1).occ) ((idt a1).points) (view ((idt a1).ways) (List.range ((idt a1).ways).length) (List.map Held.been ((idt a1).ways)))) a2.tgt))]), [(7, (eFrame false a1)), (6, [ai 0, ab false, an, an, an]), (4, [ab ((idt a1).ok), rf 0 0 (((idt a1).occ).length), rf 1 0 x1.length, rf 2 0 z]), (3, (ePlan false a0))], (⟨0, 1, List.map eBool ((idt a1).occ)⟩ :: ⟨0, 2, List.map ePoint x1⟩ :: ⟨0, 5, hRows 3 (((idt a1).ways).set a2.tgt.toNat (Held.mk 1 ((nth ((idt a1).ways) a2.tgt).gone) ((nth ((idt a1).ways) a2.tgt).been) ((nth ((idt a1).ways) a2.tgt).shown) ((nth ((idt a1).ways) a2.tgt).timer))) (List.range ((idt a1).ways).length)⟩ :: List.map fbk (List.map Held.been ((idt a1).ways)))⟩ : St)) (show ((idt a1).ways).length = (((idt a1).ways).set a2.tgt.toNat (Held.mk 1 ((nth ((idt a1).ways) a2.tgt).gone) ((nth ((idt a1).ways) a2.tgt).been) ((nth ((idt a1).ways) a2.tgt).shown) ((nth ((idt a1).ways) a2.tgt).timer))).length by simp)))
    replace h := h q23
    obtain ⟨q29, h⟩ := h
    refine cSeqE [] [8] (fun L => (10, (eLie (nth (needs (nth a0.ways a2.tgt)) v42))) :: L) (fun H => bk 1 ⟨0, 2, List.map ePoint (x1.set ((nth (needs (nth a0.ways a2.tgt)) v42).sw).toNat (Point.mk ((nth (needs (nth a0.ways a2.tgt)) v42).lie) ((nth x1 ((nth (needs (nth a0.ways a2.tgt)) v42).sw)).lies)))⟩ H) (True) ?_ (fun q25 => ?_)
    ·
     replace h := q29
     refine cBlock 2 ?_
     obtain ⟨q28, h⟩ := h
     refine cSeqE [(10, ap 10 0)] [8] (fun L => (10, (eLie (nth (needs (nth a0.ways a2.tgt)) v42))) :: L) id (True) ?_ (fun q26 => ?_)
     ·
      replace h := q28
      refine rgS [] 11 ?_
      have q27 := h
      refine sIdx 1 (some 44) [] eLie (needs (nth a0.ways a2.tgt)) 2 q27 ?_
      exact sEJ [(10, ap 10 0), (45, .agg (eLie (nth (needs (nth a0.ways a2.tgt)) v42)))] trivial
     refine rgS [] 12 ?_
     have z52_4107673 := h
     refine sAdr 7 (some 52) [(51, ai ((nth (needs (nth a0.ways a2.tgt)) v42).lie)), (50, ap 10 1), (49, ai ((nth (needs (nth a0.ways a2.tgt)) v42).sw)), (48, ap 10 0), (47, rf 1 0 x1.length), (46, ap 4 2)] 1 0 2 z52_4107673 ?_
     refine sStBj 2 none [(53, .ptr 1 0 (0 + ((nth (needs (nth a0.ways a2.tgt)) v42).sw).toNat) 0)] ePoint x1 ((nth (needs (nth a0.ways a2.tgt)) v42).sw) 0 1 0 [ai ((nth (needs (nth a0.ways a2.tgt)) v42).lie)] 1 (Point.mk ((nth (needs (nth a0.ways a2.tgt)) v42).lie) ((nth x1 ((nth (needs (nth a0.ways a2.tgt)) v42).sw)).lies)) (by simpa using z52_4107673.2) ?_
     refine sEnd [] ?_
     refine QBlock.normal ?_
     exact QJoin.normal trivial wkJ
    unfold impl_do_C1 at h
    refine rgS [] 13 ?_
    refine sEnd [(42, ai (IntKind.i64.wrap (v42 + 1))), (54, ai (IntKind.i64.wrap (v42 + 1)))] ?_
    exact QRound.again ((x1.set ((nth (needs (nth a0.ways a2.tgt)) v42).sw).toNat (Point.mk ((nth (needs (nth a0.ways a2.tgt)) v42).lie) ((nth x1 ((nth (needs (nth a0.ways a2.tgt)) v42).sw)).lies))), (IntKind.i64.wrap (v42 + 1))) h (weak_eq (s' := ⟨(mkS 200 [(3, ap 3 0), (4, ap 4 0), (6, ap 6 0), (7, ap 7 0), (8, ai (whyF a0 (Frame.mk ((idt a1).ok) ((idt a1).occ) ((idt a1).points) (view ((idt a1).ways) (List.range ((idt a1).ways).length) (List.map Held.been ((idt a1).ways)))) a2.tgt)), (40, af eLie (needs (nth a0.ways a2.tgt))), (41, ai ((needs (nth a0.ways a2.tgt)).length : Int)), (42, ai (IntKind.i64.wrap (v42 + 1)))]), [(7, (eFrame false a1)), (6, [ai 0, ab false, an, an, an]), (4, [ab ((idt a1).ok), rf 0 0 (((idt a1).occ).length), rf 1 0 x1.length, rf 2 0 (((idt a1).ways).length)]), (3, (ePlan false a0))], (⟨0, 1, List.map eBool ((idt a1).occ)⟩ :: ⟨0, 2, List.map ePoint (x1.set ((nth (needs (nth a0.ways a2.tgt)) v42).sw).toNat (Point.mk ((nth (needs (nth a0.ways a2.tgt)) v42).lie) ((nth x1 ((nth (needs (nth a0.ways a2.tgt)) v42).sw)).lies)))⟩ :: ⟨0, 5, hRows 3 (((idt a1).ways).set a2.tgt.toNat (Held.mk 1 ((nth ((idt a1).ways) a2.tgt).gone) ((nth ((idt a1).ways) a2.tgt).been) ((nth ((idt a1).ways) a2.tgt).shown) ((nth ((idt a1).ways) a2.tgt).timer))) (List.range ((idt a1).ways).length)⟩ :: List.map fbk (List.map Held.been ((idt a1).ways)))⟩) (wkL (n := 200) (A' := [(3, ap 3 0), (4, ap 4 0), (6, ap 6 0), (7, ap 7 0), (8, ai (whyF a0 (Frame.mk ((idt a1).ok) ((idt a1).occ) ((idt a1).points) (view ((idt a1).ways) (List.range ((idt a1).ways).length) (List.map Held.been ((idt a1).ways)))) a2.tgt)), (40, af eLie (needs (nth a0.ways a2.tgt))), (41, ai ((needs (nth a0.ways a2.tgt)).length : Int)), (42, ai (IntKind.i64.wrap (v42 + 1)))]) (L' := [(7, (eFrame false a1)), (6, [ai 0, ab false, an, an, an]), (4, [ab ((idt a1).ok), rf 0 0 (((idt a1).occ).length), rf 1 0 x1.length, rf 2 0 (((idt a1).ways).length)]), (3, (ePlan false a0))]) [10]) (congrArg (fun z => (⟨(mkS 200 [(3, ap 3 0), (4, ap 4 0), (6, ap 6 0), (7, ap 7 0), (8, ai (whyF a0 (Frame.mk ((idt a1).ok) ((idt a1).occ) ((idt a1).points) (view ((idt a1).ways) (List.range ((idt a1).ways).length) (List.map Held.been ((idt a1).ways)))) a2.tgt)), (40, af eLie (needs (nth a0.ways a2.tgt))), (41, ai ((needs (nth a0.ways a2.tgt)).length : Int)), (42, ai (IntKind.i64.wrap (v42 + 1)))]), [(7, (eFrame false a1)), (6, [ai 0, ab false, an, an, an]), (4, [ab ((idt a1).ok), rf 0 0 (((idt a1).occ).length), rf 1 0 z, rf 2 0 (((idt a1).ways).length)]), (3, (ePlan false a0))], (⟨0, 1, List.map eBool ((idt a1).occ)⟩ :: ⟨0, 2, List.map ePoint (x1.set ((nth (needs (nth a0.ways a2.tgt)) v42).sw).toNat (Point.mk ((nth (needs (nth a0.ways a2.tgt)) v42).lie) ((nth x1 ((nth (needs (nth a0.ways a2.tgt)) v42).sw)).lies)))⟩ :: ⟨0, 5, hRows 3 (((idt a1).ways).set a2.tgt.toNat (Held.mk 1 ((nth ((idt a1).ways) a2.tgt).gone) ((nth ((idt a1).ways) a2.tgt).been) ((nth ((idt a1).ways) a2.tgt).shown) ((nth ((idt a1).ways) a2.tgt).timer))) (List.range ((idt a1).ways).length)⟩ :: List.map fbk (List.map Held.been ((idt a1).ways)))⟩ : St)) (show x1.length = (x1.set ((nth (needs (nth a0.ways a2.tgt)) v42).sw).toNat (Point.mk ((nth (needs (nth a0.ways a2.tgt)) v42).lie) ((nth x1 ((nth (needs (nth a0.ways a2.tgt)) v42).sw)).lies))).length by simp)))
   ·
    replace h := h.2 q15
    refine cSkip ?_
    refine QBlock.normal ?_
    exact QJoinV.normal ((List.map Held.been ((idt a1).ways)), ((idt a1).occ), ((idt a1).points), (List.range ((idt a1).ways).length), (whyF a0 (Frame.mk ((idt a1).ok) ((idt a1).occ) ((idt a1).points) (view ((idt a1).ways) (List.range ((idt a1).ways).length) (List.map Held.been ((idt a1).ways)))) a2.tgt), ((idt a1).ways)) h (wkL [5])
  ·
   replace h := h.2 q8
   refine cRM [] 14 [(55, ab (a2.op == 2)), (56, ab (a2.op == 2))] [1] [0, 1, 7] ?_
   unfold impl_do_C14 at h
   refine cCond1 (fun q36 => ?_) (fun q36 => ?_)
   ·
    replace h := h.1 q36
    obtain ⟨q58, h⟩ := h
    refine cSeqM [(11, .ptr 2 0 (0 + a2.tgt.toNat) 0)] [0, 2, 6] (True) ?_ (fun q37 => ?_)
    ·
     replace h := q58
     refine rgS [] 15 ?_
     have z61_8028 := h
     refine sAdr 5 (some 61) [(60, ai a2.tgt), (59, ap 5 1), (58, rf 2 0 (((idt a1).ways).length)), (57, ap 4 3)] 2 0 5 z61_8028 ?_
     exact sEJ [(11, .ptr 2 0 (0 + a2.tgt.toNat) 0)] trivial
    refine cBlock 3 ?_
    obtain ⟨q57, h⟩ := h
    refine cSeqM [(68, ab ((((nth ((idt a1).ways) a2.tgt).state) != 1) && (((nth ((idt a1).ways) a2.tgt).state) != 2)))] [7] (True) ?_ (fun q38 => ?_)
    ·
     replace h := q57
     refine rgS [] 17 ?_
     obtain ⟨q41, h⟩ := h
     refine sLdR 4 (some 72) [(71, .ptr 2 0 (0 + a2.tgt.toNat) 0), (70, .ptr 2 0 (0 + a2.tgt.toNat) 0), (69, .ptr 2 0 (0 + a2.tgt.toNat) 0)] (hRows 3 ((idt a1).ways) (List.range ((idt a1).ways).length)) a2.tgt 3 0 0 (ai ((nth ((idt a1).ways) a2.tgt).state)) (hRows_get q41.1 q41.2) ?_
     refine sCase1 2 74 (((nth ((idt a1).ways) a2.tgt).state) != 1) [(73, ab (((nth ((idt a1).ways) a2.tgt).state) != 1))] (fun q39 => ?_) (fun q39 => ?_)
     ·
      replace h := h q39
      have q40 := h
      refine sLdR 4 (some 78) [(77, .ptr 2 0 (0 + a2.tgt.toNat) 0), (76, .ptr 2 0 (0 + a2.tgt.toNat) 0), (75, .ptr 2 0 (0 + a2.tgt.toNat) 0)] (hRows 3 ((idt a1).ways) (List.range ((idt a1).ways).length)) a2.tgt 3 0 0 (ai ((nth ((idt a1).ways) a2.tgt).state)) (hRows_get q40.1 q40.2) ?_
      exact sEJ [(68, ab (((nth ((idt a1).ways) a2.tgt).state) != 2)), (80, ab (((nth ((idt a1).ways) a2.tgt).state) != 2)), (79, ab (((nth ((idt a1).ways) a2.tgt).state) != 2))] trivial (by simp only [q8, q36, q39] <;> kernel_rfl)
     ·
      exact sEJ ([(68, ab false), (80, ab false)] ++ tz [79, 78, 77, 76, 75]) trivial (by simp only [q8, q36, q39] <;> kernel_rfl)
    unfold impl_do_C5 at h
    refine cCond1 (fun q42 => ?_) (fun q42 => ?_)
    ·
     replace h := h.1 q42
     refine rgS [] 18 ?_
     refine sEnd [(8, ai 2)] ?_
     refine QBlock.normal ?_
     refine QBlock.normal ?_
     exact QJoinV.normal ((List.map Held.been ((idt a1).ways)), ((idt a1).occ), ((idt a1).points), (List.range ((idt a1).ways).length), 2, ((idt a1).ways)) h (wkL [5])
    ·
     replace h := h.2 q42
     obtain ⟨q56, h⟩ := h
     refine cSeqM [(81, ab (((nth ((idt a1).ways) a2.tgt).shown) && (someF (Frame.mk ((idt a1).ok) ((idt a1).occ) ((idt a1).points) (view ((idt a1).ways) (List.range ((idt a1).ways).length) (List.map Held.been ((idt a1).ways)))) ((nth a0.ways a2.tgt).near))))] [0, 1, 7] (True) ?_ (fun q43 => ?_)
     ·
      replace h := q56
      refine rgD [] 19 impl_do_o19 impl_do_o19a [] ?_
      obtain ⟨q50, h⟩ := h
      refine tLdR 4 (some 85) [(84, .ptr 2 0 (0 + a2.tgt.toNat) 3), (83, .ptr 2 0 (0 + a2.tgt.toNat) 0), (82, .ptr 2 0 (0 + a2.tgt.toNat) 0)] (hRows 3 ((idt a1).ways) (List.range ((idt a1).ways).length)) a2.tgt 4 3 0 (ab ((nth ((idt a1).ways) a2.tgt).shown)) (hRows_get q50.1 q50.2) ?_
      refine tCase1 1 86 ((nth ((idt a1).ways) a2.tgt).shown) [] (fun q44 => ?_) (fun q44 => ?_)
      ·
       replace h := h q44
       obtain ⟨q49, h⟩ := h
       refine tIdx 6 (some 92) [(91, ai a2.tgt), (90, ap 5 1), (89, al (eWay false) a0.ways), (88, ap 3 2), (87, .agg [ab ((idt a1).ok), rf 0 0 (((idt a1).occ).length), rf 1 0 (((idt a1).points).length), rf 2 0 (((idt a1).ways).length)])] (eWay false) a0.ways 5 q49 ?_
       obtain ⟨q45, q46, q47, q48⟩ := h
       refine tCallV 3 (some 95) [(94, al eInt ((nth a0.ways a2.tgt).near)), (93, .rp (eWay false (nth a0.ways a2.tgt)) 4)] [.agg [ab ((idt a1).ok), rf 0 0 (((idt a1).occ).length), rf 1 0 (((idt a1).points).length), rf 2 0 (((idt a1).ways).length)], al eInt ((nth a0.ways a2.tgt).near)] (impl_some_V (Frame.mk ((idt a1).ok) ((idt a1).occ) ((idt a1).points) (view ((idt a1).ways) (List.range ((idt a1).ways).length) (List.map Held.been ((idt a1).ways)))) ((nth a0.ways a2.tgt).near) q48) (PW.cons (Snap2.agg (PW.cons (.bool _) (PW.cons (sa_blk' (sz := 1) (by simp) rfl (iBool) q45) (PW.cons (sa_blk' (sz := 2) (by simp) rfl (iPoint) q46) (PW.cons (sa_fam (s := 3) (ws := (idt a1).ways) (ids := (List.range ((idt a1).ways).length)) (bs := (List.map Held.been ((idt a1).ways))) (by simp) rfl (fun id k h => by simpa using h) q47.1 q47.2.1 q47.2.2) PW.nil))))) (PW.cons (Snap2.of1 sa_lst) PW.nil)) ?_
       exact tEJ [(81, ab (someF (Frame.mk ((idt a1).ok) ((idt a1).occ) ((idt a1).points) (view ((idt a1).ways) (List.range ((idt a1).ways).length) (List.map Held.been ((idt a1).ways)))) ((nth a0.ways a2.tgt).near))), (96, ab (someF (Frame.mk ((idt a1).ok) ((idt a1).occ) ((idt a1).points) (view ((idt a1).ways) (List.range ((idt a1).ways).length) (List.map Held.been ((idt a1).ways)))) ((nth a0.ways a2.tgt).near)))] trivial (by simp only [q8, q36, q42, q44] <;> kernel_rfl)
      ·
       exact tEJ ([(81, ab false), (96, ab false)] ++ tz [95, 94, 93, 92, 91, 90, 89, 88, 87]) trivial (by simp only [q8, q36, q42, q44] <;> kernel_rfl)
     unfold impl_do_C4 at h
     refine cCond1 (fun q51 => ?_) (fun q51 => ?_)
     ·
      replace h := h.1 q51
      refine rgD [] 20 impl_do_o20 impl_do_o20a [] ?_
      obtain ⟨q53, h⟩ := h
      refine tStR 7 none [(102, .ptr 2 0 (0 + a2.tgt.toNat) 0), (101, .ptr 2 0 (0 + a2.tgt.toNat) 0), (100, ai a0.hold), (99, ap 3 4), (98, .ptr 2 0 (0 + a2.tgt.toNat) 0), (97, .ptr 2 0 (0 + a2.tgt.toNat) 0)] (hRows 3 ((idt a1).ways) (List.range ((idt a1).ways).length)) a2.tgt 0 1 0 [ai 3] (fun r => floatsS Try.prog (opsN impl_do_b 256942) [1, 2, 3] [(102, .ptr 2 0 (0 + a2.tgt.toNat) 0), (101, .ptr 2 0 (0 + a2.tgt.toNat) 0), (100, ai a0.hold), (99, ap 3 4), (98, .ptr 2 0 (0 + a2.tgt.toNat) 0), (97, .ptr 2 0 (0 + a2.tgt.toNat) 0), (81, ab (((nth ((idt a1).ways) a2.tgt).shown) && (someF (Frame.mk ((idt a1).ok) ((idt a1).occ) ((idt a1).points) (view ((idt a1).ways) (List.range ((idt a1).ways).length) (List.map Held.been ((idt a1).ways)))) ((nth a0.ways a2.tgt).near)))), (11, .ptr 2 0 (0 + a2.tgt.toNat) 0), (8, ai 0), (7, ap 7 0), (6, ap 6 0), (5, ap 5 0), (4, ap 4 0), (3, ap 3 0)] [(7, (eFrame false a1)), (6, [ai 0, ab false, an, an, an]), (5, (eEvent a2)), (4, [ab ((idt a1).ok), rf 0 0 (((idt a1).occ).length), rf 1 0 (((idt a1).points).length), rf 2 0 (((idt a1).ways).length)]), (3, (ePlan false a0))] ((fun r => (⟨0, 1, List.map eBool ((idt a1).occ)⟩ :: ⟨0, 2, List.map ePoint ((idt a1).points)⟩ :: ⟨0, 5, r⟩ :: List.map fbk (List.map Held.been ((idt a1).ways)))) r)) (fun r => (⟨0, 1, List.map eBool ((idt a1).occ)⟩ :: ⟨0, 2, List.map ePoint ((idt a1).points)⟩ :: ⟨0, 5, r⟩ :: List.map fbk (List.map Held.been ((idt a1).ways)))) (hRows 3 (((idt a1).ways).set a2.tgt.toNat (Held.mk 3 ((nth ((idt a1).ways) a2.tgt).gone) ((nth ((idt a1).ways) a2.tgt).been) ((nth ((idt a1).ways) a2.tgt).shown) ((nth ((idt a1).ways) a2.tgt).timer))) (List.range ((idt a1).ways).length)) (hRows_get q53.1 q53.2) (hRows_keep q53.1 q53.2) (of_eqP (ψ := ((true = true ∧ true = true ∧ ((.ptr 2 0 (0 + a2.tgt.toNat) 0 : AV) = .ptr 2 0 (0 + a2.tgt.toNat) 0)) ∧ ((true = true ∧ true = true ∧ ((ap 3 4 : AV) = ap 3 4)) ∧ ((true = true ∧ true = true ∧ ((ai a0.hold : AV) = ai a0.hold)) ∧ True)))) (by kernel_rfl) ⟨⟨rfl, rfl, rfl⟩, ⟨⟨rfl, rfl, rfl⟩, ⟨⟨rfl, rfl, rfl⟩, trivial⟩⟩⟩) ?_
      obtain ⟨q52, h⟩ := h
      refine tStR 3 none [(104, .ptr 2 0 (0 + a2.tgt.toNat) 4), (103, .ptr 2 0 (0 + a2.tgt.toNat) 0)] (hRows 3 (((idt a1).ways).set a2.tgt.toNat (Held.mk 3 ((nth ((idt a1).ways) a2.tgt).gone) ((nth ((idt a1).ways) a2.tgt).been) ((nth ((idt a1).ways) a2.tgt).shown) ((nth ((idt a1).ways) a2.tgt).timer))) (List.range ((idt a1).ways).length)) a2.tgt 4 1 0 [ai a0.hold] (fun _ => True) (fun r => (⟨0, 1, List.map eBool ((idt a1).occ)⟩ :: ⟨0, 2, List.map ePoint ((idt a1).points)⟩ :: ⟨0, 5, r⟩ :: List.map fbk (List.map Held.been ((idt a1).ways)))) (hRows 3 ((((idt a1).ways).set a2.tgt.toNat (Held.mk 3 ((nth ((idt a1).ways) a2.tgt).gone) ((nth ((idt a1).ways) a2.tgt).been) ((nth ((idt a1).ways) a2.tgt).shown) ((nth ((idt a1).ways) a2.tgt).timer))).set a2.tgt.toNat (Held.mk ((nth (((idt a1).ways).set a2.tgt.toNat (Held.mk 3 ((nth ((idt a1).ways) a2.tgt).gone) ((nth ((idt a1).ways) a2.tgt).been) ((nth ((idt a1).ways) a2.tgt).shown) ((nth ((idt a1).ways) a2.tgt).timer))) a2.tgt).state) ((nth (((idt a1).ways).set a2.tgt.toNat (Held.mk 3 ((nth ((idt a1).ways) a2.tgt).gone) ((nth ((idt a1).ways) a2.tgt).been) ((nth ((idt a1).ways) a2.tgt).shown) ((nth ((idt a1).ways) a2.tgt).timer))) a2.tgt).gone) ((nth (((idt a1).ways).set a2.tgt.toNat (Held.mk 3 ((nth ((idt a1).ways) a2.tgt).gone) ((nth ((idt a1).ways) a2.tgt).been) ((nth ((idt a1).ways) a2.tgt).shown) ((nth ((idt a1).ways) a2.tgt).timer))) a2.tgt).been) ((nth (((idt a1).ways).set a2.tgt.toNat (Held.mk 3 ((nth ((idt a1).ways) a2.tgt).gone) ((nth ((idt a1).ways) a2.tgt).been) ((nth ((idt a1).ways) a2.tgt).shown) ((nth ((idt a1).ways) a2.tgt).timer))) a2.tgt).shown) a0.hold)) (List.range ((idt a1).ways).length)) (hRows_get q52.1 q52.2) (hRows_keep q52.1 q52.2) trivial ?_
      refine tEnd [] ?_
      refine QBlock.normal ?_
      refine QBlock.normal ?_
      exact QJoinV.normal ((List.map Held.been ((idt a1).ways)), ((idt a1).occ), ((idt a1).points), (List.range ((idt a1).ways).length), 0, ((((idt a1).ways).set a2.tgt.toNat (Held.mk 3 ((nth ((idt a1).ways) a2.tgt).gone) ((nth ((idt a1).ways) a2.tgt).been) ((nth ((idt a1).ways) a2.tgt).shown) ((nth ((idt a1).ways) a2.tgt).timer))).set a2.tgt.toNat (Held.mk ((nth (((idt a1).ways).set a2.tgt.toNat (Held.mk 3 ((nth ((idt a1).ways) a2.tgt).gone) ((nth ((idt a1).ways) a2.tgt).been) ((nth ((idt a1).ways) a2.tgt).shown) ((nth ((idt a1).ways) a2.tgt).timer))) a2.tgt).state) ((nth (((idt a1).ways).set a2.tgt.toNat (Held.mk 3 ((nth ((idt a1).ways) a2.tgt).gone) ((nth ((idt a1).ways) a2.tgt).been) ((nth ((idt a1).ways) a2.tgt).shown) ((nth ((idt a1).ways) a2.tgt).timer))) a2.tgt).gone) ((nth (((idt a1).ways).set a2.tgt.toNat (Held.mk 3 ((nth ((idt a1).ways) a2.tgt).gone) ((nth ((idt a1).ways) a2.tgt).been) ((nth ((idt a1).ways) a2.tgt).shown) ((nth ((idt a1).ways) a2.tgt).timer))) a2.tgt).been) ((nth (((idt a1).ways).set a2.tgt.toNat (Held.mk 3 ((nth ((idt a1).ways) a2.tgt).gone) ((nth ((idt a1).ways) a2.tgt).been) ((nth ((idt a1).ways) a2.tgt).shown) ((nth ((idt a1).ways) a2.tgt).timer))) a2.tgt).shown) a0.hold))) h (weak_eq (s' := ⟨(mkS 200 [(3, ap 3 0), (4, ap 4 0), (6, ap 6 0), (7, ap 7 0), (8, ai 0)]), [(7, (eFrame false a1)), (6, [ai 0, ab false, an, an, an]), (4, [ab ((idt a1).ok), rf 0 0 (((idt a1).occ).length), rf 1 0 (((idt a1).points).length), rf 2 0 (((idt a1).ways).length)]), (3, (ePlan false a0))], (⟨0, 1, List.map eBool ((idt a1).occ)⟩ :: ⟨0, 2, List.map ePoint ((idt a1).points)⟩ :: ⟨0, 5, hRows 3 ((((idt a1).ways).set a2.tgt.toNat (Held.mk 3 ((nth ((idt a1).ways) a2.tgt).gone) ((nth ((idt a1).ways) a2.tgt).been) ((nth ((idt a1).ways) a2.tgt).shown) ((nth ((idt a1).ways) a2.tgt).timer))).set a2.tgt.toNat (Held.mk ((nth (((idt a1).ways).set a2.tgt.toNat (Held.mk 3 ((nth ((idt a1).ways) a2.tgt).gone) ((nth ((idt a1).ways) a2.tgt).been) ((nth ((idt a1).ways) a2.tgt).shown) ((nth ((idt a1).ways) a2.tgt).timer))) a2.tgt).state) ((nth (((idt a1).ways).set a2.tgt.toNat (Held.mk 3 ((nth ((idt a1).ways) a2.tgt).gone) ((nth ((idt a1).ways) a2.tgt).been) ((nth ((idt a1).ways) a2.tgt).shown) ((nth ((idt a1).ways) a2.tgt).timer))) a2.tgt).gone) ((nth (((idt a1).ways).set a2.tgt.toNat (Held.mk 3 ((nth ((idt a1).ways) a2.tgt).gone) ((nth ((idt a1).ways) a2.tgt).been) ((nth ((idt a1).ways) a2.tgt).shown) ((nth ((idt a1).ways) a2.tgt).timer))) a2.tgt).been) ((nth (((idt a1).ways).set a2.tgt.toNat (Held.mk 3 ((nth ((idt a1).ways) a2.tgt).gone) ((nth ((idt a1).ways) a2.tgt).been) ((nth ((idt a1).ways) a2.tgt).shown) ((nth ((idt a1).ways) a2.tgt).timer))) a2.tgt).shown) a0.hold)) (List.range ((idt a1).ways).length)⟩ :: List.map fbk (List.map Held.been ((idt a1).ways)))⟩) (wkL (n := 200) (A' := [(3, ap 3 0), (4, ap 4 0), (6, ap 6 0), (7, ap 7 0), (8, ai 0)]) (L' := [(7, (eFrame false a1)), (6, [ai 0, ab false, an, an, an]), (4, [ab ((idt a1).ok), rf 0 0 (((idt a1).occ).length), rf 1 0 (((idt a1).points).length), rf 2 0 (((idt a1).ways).length)]), (3, (ePlan false a0))]) [5]) (congrArg (fun z => (⟨(mkS 200 [(3, ap 3 0), (4, ap 4 0), (6, ap 6 0), (7, ap 7 0), (8, ai 0)]), [(7, (eFrame false a1)), (6, [ai 0, ab false, an, an, an]), (4, [ab ((idt a1).ok), rf 0 0 (((idt a1).occ).length), rf 1 0 (((idt a1).points).length), rf 2 0 z]), (3, (ePlan false a0))], (⟨0, 1, List.map eBool ((idt a1).occ)⟩ :: ⟨0, 2, List.map ePoint ((idt a1).points)⟩ :: ⟨0, 5, hRows 3 ((((idt a1).ways).set a2.tgt.toNat (Held.mk 3 ((nth ((idt a1).ways) a2.tgt).gone) ((nth ((idt a1).ways) a2.tgt).been) ((nth ((idt a1).ways) a2.tgt).shown) ((nth ((idt a1).ways) a2.tgt).timer))).set a2.tgt.toNat (Held.mk ((nth (((idt a1).ways).set a2.tgt.toNat (Held.mk 3 ((nth ((idt a1).ways) a2.tgt).gone) ((nth ((idt a1).ways) a2.tgt).been) ((nth ((idt a1).ways) a2.tgt).shown) ((nth ((idt a1).ways) a2.tgt).timer))) a2.tgt).state) ((nth (((idt a1).ways).set a2.tgt.toNat (Held.mk 3 ((nth ((idt a1).ways) a2.tgt).gone) ((nth ((idt a1).ways) a2.tgt).been) ((nth ((idt a1).ways) a2.tgt).shown) ((nth ((idt a1).ways) a2.tgt).timer))) a2.tgt).gone) ((nth (((idt a1).ways).set a2.tgt.toNat (Held.mk 3 ((nth ((idt a1).ways) a2.tgt).gone) ((nth ((idt a1).ways) a2.tgt).been) ((nth ((idt a1).ways) a2.tgt).shown) ((nth ((idt a1).ways) a2.tgt).timer))) a2.tgt).been) ((nth (((idt a1).ways).set a2.tgt.toNat (Held.mk 3 ((nth ((idt a1).ways) a2.tgt).gone) ((nth ((idt a1).ways) a2.tgt).been) ((nth ((idt a1).ways) a2.tgt).shown) ((nth ((idt a1).ways) a2.tgt).timer))) a2.tgt).shown) a0.hold)) (List.range ((idt a1).ways).length)⟩ :: List.map fbk (List.map Held.been ((idt a1).ways)))⟩ : St)) (show ((idt a1).ways).length = ((((idt a1).ways).set a2.tgt.toNat (Held.mk 3 ((nth ((idt a1).ways) a2.tgt).gone) ((nth ((idt a1).ways) a2.tgt).been) ((nth ((idt a1).ways) a2.tgt).shown) ((nth ((idt a1).ways) a2.tgt).timer))).set a2.tgt.toNat (Held.mk ((nth (((idt a1).ways).set a2.tgt.toNat (Held.mk 3 ((nth ((idt a1).ways) a2.tgt).gone) ((nth ((idt a1).ways) a2.tgt).been) ((nth ((idt a1).ways) a2.tgt).shown) ((nth ((idt a1).ways) a2.tgt).timer))) a2.tgt).state) ((nth (((idt a1).ways).set a2.tgt.toNat (Held.mk 3 ((nth ((idt a1).ways) a2.tgt).gone) ((nth ((idt a1).ways) a2.tgt).been) ((nth ((idt a1).ways) a2.tgt).shown) ((nth ((idt a1).ways) a2.tgt).timer))) a2.tgt).gone) ((nth (((idt a1).ways).set a2.tgt.toNat (Held.mk 3 ((nth ((idt a1).ways) a2.tgt).gone) ((nth ((idt a1).ways) a2.tgt).been) ((nth ((idt a1).ways) a2.tgt).shown) ((nth ((idt a1).ways) a2.tgt).timer))) a2.tgt).been) ((nth (((idt a1).ways).set a2.tgt.toNat (Held.mk 3 ((nth ((idt a1).ways) a2.tgt).gone) ((nth ((idt a1).ways) a2.tgt).been) ((nth ((idt a1).ways) a2.tgt).shown) ((nth ((idt a1).ways) a2.tgt).timer))) a2.tgt).shown) a0.hold)).length by simp)))
     ·
      replace h := h.2 q51
      refine rgS [] 16 ?_
      obtain ⟨q54, h⟩ := h
      refine sCallO 5 (some 66) [(65, ai a2.tgt), (64, ap 5 1), (63, .agg (ePlan false a0)), (62, .ptr 2 0 (0 + a2.tgt.toNat) 0)] [.agg (ePlan false a0), ai a2.tgt] (.agg [ai ((idleH a0 a2.tgt).state), ai ((idleH a0 a2.tgt).gone), rf ((List.map Held.been ((idt a1).ways)).length + 3) 0 (((idleH a0 a2.tgt).been).length), ab ((idleH a0 a2.tgt).shown), ai ((idleH a0 a2.tgt).timer)]) (⟨0, 1, List.map eBool ((idt a1).occ)⟩ :: ⟨0, 2, List.map ePoint ((idt a1).points)⟩ :: ⟨0, 5, hRows 3 ((idt a1).ways) (List.range ((idt a1).ways).length)⟩ :: List.map fbk ((List.map Held.been ((idt a1).ways)) ++ [(idleH a0 a2.tgt).been])) (impl_idle_O a0 a2.tgt q54) (PW.cons (Snap2.agg (PW.cons (.int _ _) (PW.cons sa_lst (PW.cons sa_lst (PW.cons sa_lst (PW.cons (.int _ _) PW.nil)))))) (PW.cons (Snap2.of1 (.int _ _)) PW.nil)) (ownH_cons (fun _ => rfl) rfl) (shift_eq (shift_cons (fun _ => rfl) rfl) (by simp only [List.cons_append, List.map_nil, fam_snoc])) ?_ (er := by simp [shift3, shift2, shift0])
      obtain ⟨q55, h⟩ := h
      refine sStRj 2 none [(67, .ptr 2 0 (0 + a2.tgt.toNat) 0)] (hRows 3 ((idt a1).ways) (List.range ((idt a1).ways).length)) a2.tgt 0 5 0 [ai ((idleH a0 a2.tgt).state), ai ((idleH a0 a2.tgt).gone), rf ((List.map Held.been ((idt a1).ways)).length + 3) 0 (((idleH a0 a2.tgt).been).length), ab ((idleH a0 a2.tgt).shown), ai ((idleH a0 a2.tgt).timer)] 2 (hRows 3 (((idt a1).ways).set a2.tgt.toNat (Held.mk ((idleH a0 a2.tgt).state) ((idleH a0 a2.tgt).gone) ((idleH a0 a2.tgt).been) ((idleH a0 a2.tgt).shown) ((idleH a0 a2.tgt).timer))) ((List.range ((idt a1).ways).length).set a2.tgt.toNat ((List.map Held.been ((idt a1).ways)).length))) (hRows_get q55.1 q55.2) (hRows_set q55.1) ?_
      refine sEnd [] ?_
      refine QBlock.normal ?_
      refine QBlock.normal ?_
      exact QJoinV.normal (((List.map Held.been ((idt a1).ways)) ++ [(idleH a0 a2.tgt).been]), ((idt a1).occ), ((idt a1).points), ((List.range ((idt a1).ways).length).set a2.tgt.toNat ((List.map Held.been ((idt a1).ways)).length)), 0, (((idt a1).ways).set a2.tgt.toNat (Held.mk ((idleH a0 a2.tgt).state) ((idleH a0 a2.tgt).gone) ((idleH a0 a2.tgt).been) ((idleH a0 a2.tgt).shown) ((idleH a0 a2.tgt).timer)))) h (weak_eq (s' := ⟨(mkS 200 [(3, ap 3 0), (4, ap 4 0), (6, ap 6 0), (7, ap 7 0), (8, ai 0)]), [(7, (eFrame false a1)), (6, [ai 0, ab false, an, an, an]), (4, [ab ((idt a1).ok), rf 0 0 (((idt a1).occ).length), rf 1 0 (((idt a1).points).length), rf 2 0 (((idt a1).ways).length)]), (3, (ePlan false a0))], (⟨0, 1, List.map eBool ((idt a1).occ)⟩ :: ⟨0, 2, List.map ePoint ((idt a1).points)⟩ :: ⟨0, 5, hRows 3 (((idt a1).ways).set a2.tgt.toNat (Held.mk ((idleH a0 a2.tgt).state) ((idleH a0 a2.tgt).gone) ((idleH a0 a2.tgt).been) ((idleH a0 a2.tgt).shown) ((idleH a0 a2.tgt).timer))) ((List.range ((idt a1).ways).length).set a2.tgt.toNat ((List.map Held.been ((idt a1).ways)).length))⟩ :: List.map fbk ((List.map Held.been ((idt a1).ways)) ++ [(idleH a0 a2.tgt).been]))⟩) (wkL (n := 200) (A' := [(3, ap 3 0), (4, ap 4 0), (6, ap 6 0), (7, ap 7 0), (8, ai 0)]) (L' := [(7, (eFrame false a1)), (6, [ai 0, ab false, an, an, an]), (4, [ab ((idt a1).ok), rf 0 0 (((idt a1).occ).length), rf 1 0 (((idt a1).points).length), rf 2 0 (((idt a1).ways).length)]), (3, (ePlan false a0))]) [5]) (congrArg (fun z => (⟨(mkS 200 [(3, ap 3 0), (4, ap 4 0), (6, ap 6 0), (7, ap 7 0), (8, ai 0)]), [(7, (eFrame false a1)), (6, [ai 0, ab false, an, an, an]), (4, [ab ((idt a1).ok), rf 0 0 (((idt a1).occ).length), rf 1 0 (((idt a1).points).length), rf 2 0 z]), (3, (ePlan false a0))], (⟨0, 1, List.map eBool ((idt a1).occ)⟩ :: ⟨0, 2, List.map ePoint ((idt a1).points)⟩ :: ⟨0, 5, hRows 3 (((idt a1).ways).set a2.tgt.toNat (Held.mk ((idleH a0 a2.tgt).state) ((idleH a0 a2.tgt).gone) ((idleH a0 a2.tgt).been) ((idleH a0 a2.tgt).shown) ((idleH a0 a2.tgt).timer))) ((List.range ((idt a1).ways).length).set a2.tgt.toNat ((List.map Held.been ((idt a1).ways)).length))⟩ :: List.map fbk ((List.map Held.been ((idt a1).ways)) ++ [(idleH a0 a2.tgt).been]))⟩ : St)) (show ((idt a1).ways).length = (((idt a1).ways).set a2.tgt.toNat (Held.mk ((idleH a0 a2.tgt).state) ((idleH a0 a2.tgt).gone) ((idleH a0 a2.tgt).been) ((idleH a0 a2.tgt).shown) ((idleH a0 a2.tgt).timer))).length by simp)))
   ·
    replace h := h.2 q36
    refine cSeqM [(105, ab (bif (a2.op == 3) then (a2.op == 3) else (a2.op == 4)))] [0, 1, 7] (True) ?_ (fun q59 => ?_)
    ·
     refine cRM [] 21 [(105, ab (a2.op == 3)), (106, ab (a2.op == 3))] [1] [0, 1, 7] ?_
     refine cCond1 (fun q61 => ?_) (fun q61 => ?_)
     ·
      refine cSkip ?_
      exact QJoin.normal trivial (wkJ (by simp only [q8, q36, q61] <;> kernel_rfl))
     ·
      refine rgS [] 22 ?_
      exact sEJ [(105, ab (a2.op == 4)), (107, ab (a2.op == 4))] trivial (by simp only [q8, q36, q61] <;> kernel_rfl)
    unfold impl_do_C13 at h
    refine cCond1 (fun q62 => ?_) (fun q62 => ?_)
    ·
     replace h := h.1 q62
     refine rgS [] 23 ?_
     obtain ⟨z115_16062, h⟩ := h
     refine sAdr 8 (some 115) [(114, ab (a2.op == 3)), (113, ai a2.op), (112, ap 5 0), (111, ai a2.tgt), (110, ap 5 1), (109, rf 0 0 (((idt a1).occ).length)), (108, ap 4 1)] 0 0 1 z115_16062 ?_
     refine sStBj 1 none [] eBool ((idt a1).occ) a2.tgt 0 1 0 [ab (a2.op == 3)] 0 (a2.op == 3) (by simpa using z115_16062.2) ?_
     refine sEnd [] ?_
     refine QBlock.normal ?_
     exact QJoinV.normal ((List.map Held.been ((idt a1).ways)), (((idt a1).occ).set a2.tgt.toNat (a2.op == 3)), ((idt a1).points), (List.range ((idt a1).ways).length), 0, ((idt a1).ways)) h (weak_eq (s' := ⟨(mkS 200 [(3, ap 3 0), (4, ap 4 0), (6, ap 6 0), (7, ap 7 0), (8, ai 0)]), [(7, (eFrame false a1)), (6, [ai 0, ab false, an, an, an]), (4, [ab ((idt a1).ok), rf 0 0 (((idt a1).occ).length), rf 1 0 (((idt a1).points).length), rf 2 0 (((idt a1).ways).length)]), (3, (ePlan false a0))], (⟨0, 1, List.map eBool (((idt a1).occ).set a2.tgt.toNat (a2.op == 3))⟩ :: ⟨0, 2, List.map ePoint ((idt a1).points)⟩ :: ⟨0, 5, hRows 3 ((idt a1).ways) (List.range ((idt a1).ways).length)⟩ :: List.map fbk (List.map Held.been ((idt a1).ways)))⟩) (wkL (n := 200) (A' := [(3, ap 3 0), (4, ap 4 0), (6, ap 6 0), (7, ap 7 0), (8, ai 0)]) (L' := [(7, (eFrame false a1)), (6, [ai 0, ab false, an, an, an]), (4, [ab ((idt a1).ok), rf 0 0 (((idt a1).occ).length), rf 1 0 (((idt a1).points).length), rf 2 0 (((idt a1).ways).length)]), (3, (ePlan false a0))]) [5]) (congrArg (fun z => (⟨(mkS 200 [(3, ap 3 0), (4, ap 4 0), (6, ap 6 0), (7, ap 7 0), (8, ai 0)]), [(7, (eFrame false a1)), (6, [ai 0, ab false, an, an, an]), (4, [ab ((idt a1).ok), rf 0 0 z, rf 1 0 (((idt a1).points).length), rf 2 0 (((idt a1).ways).length)]), (3, (ePlan false a0))], (⟨0, 1, List.map eBool (((idt a1).occ).set a2.tgt.toNat (a2.op == 3))⟩ :: ⟨0, 2, List.map ePoint ((idt a1).points)⟩ :: ⟨0, 5, hRows 3 ((idt a1).ways) (List.range ((idt a1).ways).length)⟩ :: List.map fbk (List.map Held.been ((idt a1).ways)))⟩ : St)) (show ((idt a1).occ).length = (((idt a1).occ).set a2.tgt.toNat (a2.op == 3)).length by simp)))
    ·
     replace h := h.2 q62
     refine cRM [] 24 [(116, ab (a2.op == 5)), (117, ab (a2.op == 5))] [1] [0, 1, 7] ?_
     refine cCond1 (fun q64 => ?_) (fun q64 => ?_)
     ·
      replace h := h.1 q64
      refine rgS [] 25 ?_
      obtain ⟨z124_64254, h⟩ := h
      refine sAdr 7 (some 124) [(123, ai a2.lie), (122, ap 5 2), (121, ai a2.tgt), (120, ap 5 1), (119, rf 1 0 (((idt a1).points).length)), (118, ap 4 2)] 1 0 2 z124_64254 ?_
      refine sStBj 2 none [(125, .ptr 1 0 (0 + a2.tgt.toNat) 1)] ePoint ((idt a1).points) a2.tgt 1 1 0 [ai a2.lie] 1 (Point.mk ((nth ((idt a1).points) a2.tgt).want) a2.lie) (by simpa using z124_64254.2) ?_
      refine sEnd [] ?_
      refine QBlock.normal ?_
      exact QJoinV.normal ((List.map Held.been ((idt a1).ways)), ((idt a1).occ), (((idt a1).points).set a2.tgt.toNat (Point.mk ((nth ((idt a1).points) a2.tgt).want) a2.lie)), (List.range ((idt a1).ways).length), 0, ((idt a1).ways)) h (weak_eq (s' := ⟨(mkS 200 [(3, ap 3 0), (4, ap 4 0), (6, ap 6 0), (7, ap 7 0), (8, ai 0)]), [(7, (eFrame false a1)), (6, [ai 0, ab false, an, an, an]), (4, [ab ((idt a1).ok), rf 0 0 (((idt a1).occ).length), rf 1 0 (((idt a1).points).length), rf 2 0 (((idt a1).ways).length)]), (3, (ePlan false a0))], (⟨0, 1, List.map eBool ((idt a1).occ)⟩ :: ⟨0, 2, List.map ePoint (((idt a1).points).set a2.tgt.toNat (Point.mk ((nth ((idt a1).points) a2.tgt).want) a2.lie))⟩ :: ⟨0, 5, hRows 3 ((idt a1).ways) (List.range ((idt a1).ways).length)⟩ :: List.map fbk (List.map Held.been ((idt a1).ways)))⟩) (wkL (n := 200) (A' := [(3, ap 3 0), (4, ap 4 0), (6, ap 6 0), (7, ap 7 0), (8, ai 0)]) (L' := [(7, (eFrame false a1)), (6, [ai 0, ab false, an, an, an]), (4, [ab ((idt a1).ok), rf 0 0 (((idt a1).occ).length), rf 1 0 (((idt a1).points).length), rf 2 0 (((idt a1).ways).length)]), (3, (ePlan false a0))]) [5]) (congrArg (fun z => (⟨(mkS 200 [(3, ap 3 0), (4, ap 4 0), (6, ap 6 0), (7, ap 7 0), (8, ai 0)]), [(7, (eFrame false a1)), (6, [ai 0, ab false, an, an, an]), (4, [ab ((idt a1).ok), rf 0 0 (((idt a1).occ).length), rf 1 0 z, rf 2 0 (((idt a1).ways).length)]), (3, (ePlan false a0))], (⟨0, 1, List.map eBool ((idt a1).occ)⟩ :: ⟨0, 2, List.map ePoint (((idt a1).points).set a2.tgt.toNat (Point.mk ((nth ((idt a1).points) a2.tgt).want) a2.lie))⟩ :: ⟨0, 5, hRows 3 ((idt a1).ways) (List.range ((idt a1).ways).length)⟩ :: List.map fbk (List.map Held.been ((idt a1).ways)))⟩ : St)) (show ((idt a1).points).length = (((idt a1).points).set a2.tgt.toNat (Point.mk ((nth ((idt a1).points) a2.tgt).want) a2.lie)).length by simp)))
     ·
      replace h := h.2 q64
      refine cRM [] 26 [(126, ab (a2.op == 6)), (127, ab (a2.op == 6))] [1] [0, 1, 7] ?_
      unfold impl_do_C12 at h
      refine cCond1 (fun q66 => ?_) (fun q66 => ?_)
      ·
       replace h := h.1 q66
       refine cBlock 4 ?_
       obtain ⟨q78, h⟩ := h
       refine cSeqM [(136, ab (decide (((pointF a0 (Frame.mk ((idt a1).ok) ((idt a1).occ) ((idt a1).points) (view ((idt a1).ways) (List.range ((idt a1).ways).length) (List.map Held.been ((idt a1).ways)))) a2.tgt).length : Int) > 0)))] [0, 2, 6] ((pointF a0 (Frame.mk ((idt a1).ok) ((idt a1).occ) ((idt a1).points) (view ((idt a1).ways) (List.range ((idt a1).ways).length) (List.map Held.been ((idt a1).ways)))) a2.tgt).length ≤ 4611686018427387904) ?_ (fun q67 => ?_)
       ·
        replace h := q78
        refine rgS [] 28 ?_
        obtain ⟨q68, q69, q70, q71⟩ := h
        refine sCallV 5 (some 141) [(140, ai a2.tgt), (139, ap 5 1), (138, .agg [ab ((idt a1).ok), rf 0 0 (((idt a1).occ).length), rf 1 0 (((idt a1).points).length), rf 2 0 (((idt a1).ways).length)]), (137, .agg (ePlan false a0))] [.agg (ePlan false a0), .agg [ab ((idt a1).ok), rf 0 0 (((idt a1).occ).length), rf 1 0 (((idt a1).points).length), rf 2 0 (((idt a1).ways).length)], ai a2.tgt] (impl_pointLock_V a0 (Frame.mk ((idt a1).ok) ((idt a1).occ) ((idt a1).points) (view ((idt a1).ways) (List.range ((idt a1).ways).length) (List.map Held.been ((idt a1).ways)))) a2.tgt q71) (PW.cons (Snap2.agg (PW.cons (.int _ _) (PW.cons sa_lst (PW.cons sa_lst (PW.cons sa_lst (PW.cons (.int _ _) PW.nil)))))) (PW.cons (Snap2.agg (PW.cons (.bool _) (PW.cons (sa_blk' (sz := 1) (by simp) rfl (iBool) q68) (PW.cons (sa_blk' (sz := 2) (by simp) rfl (iPoint) q69) (PW.cons (sa_fam (s := 3) (ws := (idt a1).ways) (ids := (List.range ((idt a1).ways).length)) (bs := (List.map Held.been ((idt a1).ways))) (by simp) rfl (fun id k h => by simpa using h) q70.1 q70.2.1 q70.2.2) PW.nil))))) (PW.cons (Snap2.of1 (.int _ _)) PW.nil))) ?_
        refine sLen 1 (some 142) [] eInt (pointF a0 (Frame.mk ((idt a1).ok) ((idt a1).occ) ((idt a1).points) (view ((idt a1).ways) (List.range ((idt a1).ways).length) (List.map Held.been ((idt a1).ways)))) a2.tgt) (fun q72 => ?_)
        exact sEJ [(136, ab (decide (((pointF a0 (Frame.mk ((idt a1).ok) ((idt a1).occ) ((idt a1).points) (view ((idt a1).ways) (List.range ((idt a1).ways).length) (List.map Held.been ((idt a1).ways)))) a2.tgt).length : Int) > 0))), (143, ab (decide (((pointF a0 (Frame.mk ((idt a1).ok) ((idt a1).occ) ((idt a1).points) (view ((idt a1).ways) (List.range ((idt a1).ways).length) (List.map Held.been ((idt a1).ways)))) a2.tgt).length : Int) > 0)))] q72
       replace h := h q67
       unfold impl_do_C7 at h
       refine cCond1 (fun q73 => ?_) (fun q73 => ?_)
       ·
        replace h := h.1 q73
        refine rgS [] 29 ?_
        refine sEnd [(8, ai 2)] ?_
        refine QBlock.normal ?_
        refine QBlock.normal ?_
        exact QJoinV.normal ((List.map Held.been ((idt a1).ways)), ((idt a1).occ), ((idt a1).points), (List.range ((idt a1).ways).length), 2, ((idt a1).ways)) h (wkL [5])
       ·
        replace h := h.2 q73
        obtain ⟨q77, h⟩ := h
        refine cSeqM [(144, ab (nth ((idt a1).occ) (nth a0.switches a2.tgt)))] [0, 1, 6] (True) ?_ (fun q74 => ?_)
        ·
         replace h := q77
         refine rgD [] 30 impl_do_o30 impl_do_o30a [] ?_
         obtain ⟨q75, h⟩ := h
         refine tIdx 7 (some 151) [(150, ai a2.tgt), (149, ap 5 1), (148, al eInt a0.switches), (147, ap 3 1), (146, rf 0 0 (((idt a1).occ).length)), (145, ap 4 1)] eInt a0.switches 1 q75 ?_
         have z153_4112358 := h
         refine tAdr 2 (some 153) [(152, ai (nth a0.switches a2.tgt))] 0 0 1 z153_4112358 ?_
         refine tLdB 1 (some 154) [] eBool ((idt a1).occ) (nth a0.switches a2.tgt) 4 0 0 (ab (nth ((idt a1).occ) (nth a0.switches a2.tgt))) (by simpa using z153_4112358.2) ?_
         exact tEJ [(144, ab (nth ((idt a1).occ) (nth a0.switches a2.tgt)))] trivial
        unfold impl_do_C6 at h
        refine cCond1 (fun q76 => ?_) (fun q76 => ?_)
        ·
         replace h := h.1 q76
         refine rgS [] 31 ?_
         refine sEnd [(8, ai 3)] ?_
         refine QBlock.normal ?_
         refine QBlock.normal ?_
         exact QJoinV.normal ((List.map Held.been ((idt a1).ways)), ((idt a1).occ), ((idt a1).points), (List.range ((idt a1).ways).length), 3, ((idt a1).ways)) h (wkL [5])
        ·
         replace h := h.2 q76
         refine rgS [] 27 ?_
         obtain ⟨z134_8224719, h⟩ := h
         refine sAdr 7 (some 134) [(133, ai a2.lie), (132, ap 5 2), (131, ai a2.tgt), (130, ap 5 1), (129, rf 1 0 (((idt a1).points).length)), (128, ap 4 2)] 1 0 2 z134_8224719 ?_
         refine sStBj 2 none [(135, .ptr 1 0 (0 + a2.tgt.toNat) 0)] ePoint ((idt a1).points) a2.tgt 0 1 0 [ai a2.lie] 1 (Point.mk a2.lie ((nth ((idt a1).points) a2.tgt).lies)) (by simpa using z134_8224719.2) ?_
         refine sEnd [] ?_
         refine QBlock.normal ?_
         refine QBlock.normal ?_
         exact QJoinV.normal ((List.map Held.been ((idt a1).ways)), ((idt a1).occ), (((idt a1).points).set a2.tgt.toNat (Point.mk a2.lie ((nth ((idt a1).points) a2.tgt).lies))), (List.range ((idt a1).ways).length), 0, ((idt a1).ways)) h (weak_eq (s' := ⟨(mkS 200 [(3, ap 3 0), (4, ap 4 0), (6, ap 6 0), (7, ap 7 0), (8, ai 0)]), [(7, (eFrame false a1)), (6, [ai 0, ab false, an, an, an]), (4, [ab ((idt a1).ok), rf 0 0 (((idt a1).occ).length), rf 1 0 (((idt a1).points).length), rf 2 0 (((idt a1).ways).length)]), (3, (ePlan false a0))], (⟨0, 1, List.map eBool ((idt a1).occ)⟩ :: ⟨0, 2, List.map ePoint (((idt a1).points).set a2.tgt.toNat (Point.mk a2.lie ((nth ((idt a1).points) a2.tgt).lies)))⟩ :: ⟨0, 5, hRows 3 ((idt a1).ways) (List.range ((idt a1).ways).length)⟩ :: List.map fbk (List.map Held.been ((idt a1).ways)))⟩) (wkL (n := 200) (A' := [(3, ap 3 0), (4, ap 4 0), (6, ap 6 0), (7, ap 7 0), (8, ai 0)]) (L' := [(7, (eFrame false a1)), (6, [ai 0, ab false, an, an, an]), (4, [ab ((idt a1).ok), rf 0 0 (((idt a1).occ).length), rf 1 0 (((idt a1).points).length), rf 2 0 (((idt a1).ways).length)]), (3, (ePlan false a0))]) [5]) (congrArg (fun z => (⟨(mkS 200 [(3, ap 3 0), (4, ap 4 0), (6, ap 6 0), (7, ap 7 0), (8, ai 0)]), [(7, (eFrame false a1)), (6, [ai 0, ab false, an, an, an]), (4, [ab ((idt a1).ok), rf 0 0 (((idt a1).occ).length), rf 1 0 z, rf 2 0 (((idt a1).ways).length)]), (3, (ePlan false a0))], (⟨0, 1, List.map eBool ((idt a1).occ)⟩ :: ⟨0, 2, List.map ePoint (((idt a1).points).set a2.tgt.toNat (Point.mk a2.lie ((nth ((idt a1).points) a2.tgt).lies)))⟩ :: ⟨0, 5, hRows 3 ((idt a1).ways) (List.range ((idt a1).ways).length)⟩ :: List.map fbk (List.map Held.been ((idt a1).ways)))⟩ : St)) (show ((idt a1).points).length = (((idt a1).points).set a2.tgt.toNat (Point.mk a2.lie ((nth ((idt a1).points) a2.tgt).lies))).length by simp)))
      ·
       replace h := h.2 q66
       refine cRM [] 32 [(155, ab (a2.op == 7)), (156, ab (a2.op == 7))] [1] [0, 2, 3, 1, 2] ?_
       refine cCond1 (fun q80 => ?_) (fun q80 => ?_)
       ·
        replace h := h.1 q80
        refine cRM [] 33 [(160, ai 0), (159, ai (((idt a1).ways).length : Int)), (158, rf 2 0 (((idt a1).ways).length)), (157, ap 4 3)] [2] [0, 1, 5] ?_
        unfold impl_do_C11 at h
        refine cBlock 5 ?_
        obtain ⟨q111, h⟩ := h
        refine cLoop (fun (v : List (List Bool) × List Nat × Int × List Held) => (⟨(mkS 200 [(3, ap 3 0), (4, ap 4 0), (6, ap 6 0), (7, ap 7 0), (8, ai 0), (159, ai (((idt a1).ways).length : Int)), (160, ai (v.2.2.1))]), [(7, (eFrame false a1)), (6, [ai 0, ab false, an, an, an]), (4, [ab ((idt a1).ok), rf 0 0 (((idt a1).occ).length), rf 1 0 (((idt a1).points).length), rf 2 0 ((v.2.2.2).length)]), (3, (ePlan false a0))], (⟨0, 1, List.map eBool ((idt a1).occ)⟩ :: ⟨0, 2, List.map ePoint ((idt a1).points)⟩ :: ⟨0, 5, hRows 3 (v.2.2.2) (v.2.1)⟩ :: List.map fbk (v.1))⟩ : St)) (fun (v : List (List Bool) × List Nat × Int × List Held) => I1 (v.1) (v.2.1) (v.2.2.1) (v.2.2.2)) (fun (v : List (List Bool) × List Nat × Int × List Held) => m1 (v.1) (v.2.1) (v.2.2.1) (v.2.2.2)) ((List.map Held.been ((idt a1).ways)), (List.range ((idt a1).ways).length), 0, (idt a1).ways) (wkL [5]) q111 (fun v hI => ?_)
        obtain ⟨bs3, is2, v160, ws2⟩ := v
        replace h := h bs3 is2 v160 ws2 hI
        dsimp only
        refine cRM [] 34 [(161, ab (decide (v160 < (((idt a1).ways).length : Int))))] [1] [7] ?_
        obtain ⟨q110, h⟩ := h
        refine cSeqM [] [0, 1, 7] ((decide (v160 < (((idt a1).ways).length : Int))) = true) ?_ (fun q83 => ?_)
        ·
         replace h := q110
         refine cCond1 (fun q84 => ?_) (fun q84 => ?_)
         ·
          refine cSkip ?_
          exact QJoin.normal (by simp only [q8, q36, q62, q64, q66, q80, q84] <;> rfl) wkJ
         ·
          replace h := h q84
          refine cExit 5 ?_
          refine QJoin.exit ?_
          refine QRound.exit ?_
          refine QBlock.here ?_
          refine QBlock.normal ?_
          exact QJoinV.normal (bs3, ((idt a1).occ), ((idt a1).points), is2, 0, ws2) h (wkL [])
        replace h := h q83
        unfold impl_do_C10 at h
        obtain ⟨q109, h⟩ := h
        obtain ⟨w86, q87⟩ : ∃ w : List Held, (bif (((nth ws2 v160).state) == 3) then (bif (((nth (ws2.set v160.toNat (Held.mk ((nth ws2 v160).state) ((nth ws2 v160).gone) ((nth ws2 v160).been) ((nth ws2 v160).shown) (IntKind.i64.wrap (((nth ws2 v160).timer) - 1)))) v160).timer) == 0) then ((ws2.set v160.toNat (Held.mk ((nth ws2 v160).state) ((nth ws2 v160).gone) ((nth ws2 v160).been) ((nth ws2 v160).shown) (IntKind.i64.wrap (((nth ws2 v160).timer) - 1)))).set v160.toNat (Held.mk ((idleH a0 v160).state) ((idleH a0 v160).gone) ((idleH a0 v160).been) ((idleH a0 v160).shown) ((idleH a0 v160).timer))) else (ws2.set v160.toNat (Held.mk ((nth ws2 v160).state) ((nth ws2 v160).gone) ((nth ws2 v160).been) ((nth ws2 v160).shown) (IntKind.i64.wrap (((nth ws2 v160).timer) - 1))))) else ws2) = w := ⟨_, rfl⟩
        obtain ⟨w88, q89⟩ : ∃ w : List Nat, (bif (((nth ws2 v160).state) == 3) then (bif (((nth (ws2.set v160.toNat (Held.mk ((nth ws2 v160).state) ((nth ws2 v160).gone) ((nth ws2 v160).been) ((nth ws2 v160).shown) (IntKind.i64.wrap (((nth ws2 v160).timer) - 1)))) v160).timer) == 0) then (is2.set v160.toNat bs3.length) else is2) else is2) = w := ⟨_, rfl⟩
        obtain ⟨w90, q91⟩ : ∃ w : List (List Bool), (bif (((nth ws2 v160).state) == 3) then (bif (((nth (ws2.set v160.toNat (Held.mk ((nth ws2 v160).state) ((nth ws2 v160).gone) ((nth ws2 v160).been) ((nth ws2 v160).shown) (IntKind.i64.wrap (((nth ws2 v160).timer) - 1)))) v160).timer) == 0) then (bs3 ++ [(idleH a0 v160).been]) else bs3) else bs3) = w := ⟨_, rfl⟩
        refine cSeqE [] [7] id (fun _ => (⟨0, 1, List.map eBool ((idt a1).occ)⟩ :: ⟨0, 2, List.map ePoint ((idt a1).points)⟩ :: ⟨0, 5, hRows 3 w86 w88⟩ :: List.map fbk w90)) (True) ?_ (fun q85 => ?_)
        ·
         replace h := q109
         refine cBlock 6 ?_
         refine cRM [] 35 [(12, ai v160), (162, ai v160)] [1] [7] ?_
         obtain ⟨q108, h⟩ := h
         refine cSeqM [(13, .ptr 2 0 (0 + v160.toNat) 0)] [8] (True) ?_ (fun q93 => ?_)
         ·
          replace h := q108
          refine rgS [] 36 ?_
          have z166_526384434 := h
          refine sAdr 4 (some 166) [(165, ai v160), (164, rf 2 0 ws2.length), (163, ap 4 3)] 2 0 5 z166_526384434 ?_
          exact sEJ [(13, .ptr 2 0 (0 + v160.toNat) 0)] trivial
         obtain ⟨q107, h⟩ := h
         refine cSeqM [(171, ab (((nth ws2 v160).state) == 3))] [9] (True) ?_ (fun q94 => ?_)
         ·
          replace h := q107
          refine rgS [] 37 ?_
          have q95 := h
          refine sLdR 4 (some 170) [(169, .ptr 2 0 (0 + v160.toNat) 0), (168, .ptr 2 0 (0 + v160.toNat) 0), (167, .ptr 2 0 (0 + v160.toNat) 0)] (hRows 3 ws2 is2) v160 3 0 0 (ai ((nth ws2 v160).state)) (hRows_get q95.1 q95.2) ?_
          exact sEJ [(171, ab (((nth ws2 v160).state) == 3))] trivial
         refine cCond1 (fun q96 => ?_) (fun q96 => ?_)
         ·
          replace h := h q96
          obtain ⟨q106, h⟩ := h
          refine cSeqE [] [0, 1, 9] id (fun H => bk 2 ⟨0, 5, hRows 3 (ws2.set v160.toNat (Held.mk ((nth ws2 v160).state) ((nth ws2 v160).gone) ((nth ws2 v160).been) ((nth ws2 v160).shown) (IntKind.i64.wrap (((nth ws2 v160).timer) - 1)))) is2⟩ H) (True) ?_ (fun q97 => ?_)
          ·
           replace h := q106
           refine rgS [] 38 ?_
           obtain ⟨q99, h⟩ := h
           refine sLdR 4 (some 175) [(174, .ptr 2 0 (0 + v160.toNat) 4), (173, .ptr 2 0 (0 + v160.toNat) 0), (172, .ptr 2 0 (0 + v160.toNat) 0)] (hRows 3 ws2 is2) v160 3 4 0 (ai ((nth ws2 v160).timer)) (hRows_get q99.1 q99.2) ?_
           have q98 := h
           refine sStRj 4 none [(178, .ptr 2 0 (0 + v160.toNat) 4), (177, .ptr 2 0 (0 + v160.toNat) 0), (176, ai (IntKind.i64.wrap (((nth ws2 v160).timer) - 1)))] (hRows 3 ws2 is2) v160 4 1 0 [ai (IntKind.i64.wrap (((nth ws2 v160).timer) - 1))] 2 (hRows 3 (ws2.set v160.toNat (Held.mk ((nth ws2 v160).state) ((nth ws2 v160).gone) ((nth ws2 v160).been) ((nth ws2 v160).shown) (IntKind.i64.wrap (((nth ws2 v160).timer) - 1)))) is2) (hRows_get q98.1 q98.2) (hRows_keep q98.1 q98.2) ?_
           exact sEJ [] trivial
          unfold impl_do_C9 at h
          obtain ⟨q105, h⟩ := h
          refine cSeqM [(183, ab (((nth (ws2.set v160.toNat (Held.mk ((nth ws2 v160).state) ((nth ws2 v160).gone) ((nth ws2 v160).been) ((nth ws2 v160).shown) (IntKind.i64.wrap (((nth ws2 v160).timer) - 1)))) v160).timer) == 0))] [9] (True) ?_ (fun q100 => ?_)
          ·
           replace h := q105
           refine rgS [] 39 ?_
           have q101 := h
           refine sLdR 4 (some 182) [(181, .ptr 2 0 (0 + v160.toNat) 4), (180, .ptr 2 0 (0 + v160.toNat) 0), (179, .ptr 2 0 (0 + v160.toNat) 0)] (hRows 3 (ws2.set v160.toNat (Held.mk ((nth ws2 v160).state) ((nth ws2 v160).gone) ((nth ws2 v160).been) ((nth ws2 v160).shown) (IntKind.i64.wrap (((nth ws2 v160).timer) - 1)))) is2) v160 3 4 0 (ai ((nth (ws2.set v160.toNat (Held.mk ((nth ws2 v160).state) ((nth ws2 v160).gone) ((nth ws2 v160).been) ((nth ws2 v160).shown) (IntKind.i64.wrap (((nth ws2 v160).timer) - 1)))) v160).timer)) (hRows_get q101.1 q101.2) ?_
           exact sEJ [(183, ab (((nth (ws2.set v160.toNat (Held.mk ((nth ws2 v160).state) ((nth ws2 v160).gone) ((nth ws2 v160).been) ((nth ws2 v160).shown) (IntKind.i64.wrap (((nth ws2 v160).timer) - 1)))) v160).timer) == 0))] trivial
          unfold impl_do_C8 at h
          refine cCond1 (fun q102 => ?_) (fun q102 => ?_)
          ·
           replace h := h q102
           refine rgS [] 40 ?_
           obtain ⟨q103, h⟩ := h
           refine sCallO 4 (some 187) [(186, ai v160), (185, .agg (ePlan false a0)), (184, .ptr 2 0 (0 + v160.toNat) 0)] [.agg (ePlan false a0), ai v160] (.agg [ai ((idleH a0 v160).state), ai ((idleH a0 v160).gone), rf (bs3.length + 3) 0 (((idleH a0 v160).been).length), ab ((idleH a0 v160).shown), ai ((idleH a0 v160).timer)]) (⟨0, 1, List.map eBool ((idt a1).occ)⟩ :: ⟨0, 2, List.map ePoint ((idt a1).points)⟩ :: ⟨0, 5, hRows 3 (ws2.set v160.toNat (Held.mk ((nth ws2 v160).state) ((nth ws2 v160).gone) ((nth ws2 v160).been) ((nth ws2 v160).shown) (IntKind.i64.wrap (((nth ws2 v160).timer) - 1)))) is2⟩ :: List.map fbk (bs3 ++ [(idleH a0 v160).been])) (impl_idle_O a0 v160 q103) (PW.cons (Snap2.agg (PW.cons (.int _ _) (PW.cons sa_lst (PW.cons sa_lst (PW.cons sa_lst (PW.cons (.int _ _) PW.nil)))))) (PW.cons (Snap2.of1 (.int _ _)) PW.nil)) (ownH_cons (fun _ => rfl) rfl) (shift_eq (shift_cons (fun _ => rfl) rfl) (by simp only [List.cons_append, List.map_nil, fam_snoc])) ?_ (er := by simp [shift3, shift2, shift0])
           have q104 := h
           refine sStRj 2 none [(188, .ptr 2 0 (0 + v160.toNat) 0)] (hRows 3 (ws2.set v160.toNat (Held.mk ((nth ws2 v160).state) ((nth ws2 v160).gone) ((nth ws2 v160).been) ((nth ws2 v160).shown) (IntKind.i64.wrap (((nth ws2 v160).timer) - 1)))) is2) v160 0 5 0 [ai ((idleH a0 v160).state), ai ((idleH a0 v160).gone), rf (bs3.length + 3) 0 (((idleH a0 v160).been).length), ab ((idleH a0 v160).shown), ai ((idleH a0 v160).timer)] 2 (hRows 3 ((ws2.set v160.toNat (Held.mk ((nth ws2 v160).state) ((nth ws2 v160).gone) ((nth ws2 v160).been) ((nth ws2 v160).shown) (IntKind.i64.wrap (((nth ws2 v160).timer) - 1)))).set v160.toNat (Held.mk ((idleH a0 v160).state) ((idleH a0 v160).gone) ((idleH a0 v160).been) ((idleH a0 v160).shown) ((idleH a0 v160).timer))) (is2.set v160.toNat bs3.length)) (hRows_get q104.1 q104.2) (hRows_set q104.1) ?_
           refine sEnd [] ?_
           refine QBlock.normal ?_
           exact QJoin.normal trivial (by simp only [← q87, ← q89, ← q91, q8, q36, q62, q64, q66, q80, q83, q96, q102, cond_true, cond_false]; exact wkJ)
          ·
           refine cSkip ?_
           refine QBlock.normal ?_
           exact QJoin.normal trivial (by simp only [← q87, ← q89, ← q91, q8, q36, q62, q64, q66, q80, q83, q96, q102, cond_true, cond_false]; exact wkJ)
         ·
          refine cSkip ?_
          refine QBlock.normal ?_
          exact QJoin.normal trivial (by simp only [← q87, ← q89, ← q91, q8, q36, q62, q64, q66, q80, q83, q96, cond_true, cond_false]; exact wkJ)
        replace h := h w86 q87
        have hlw86 : w86.length = ws2.length := by rw [← q87]; repeat' apply len_cond; all_goals simp
        replace h := h w88 q89
        replace h := h w90 q91
        refine rgS [] 41 ?_
        refine sEnd [(160, ai (IntKind.i64.wrap (v160 + 1))), (189, ai (IntKind.i64.wrap (v160 + 1)))] ?_
        exact QRound.again (w90, w88, (IntKind.i64.wrap (v160 + 1)), w86) h (weak_eq (s' := ⟨(mkS 200 [(3, ap 3 0), (4, ap 4 0), (6, ap 6 0), (7, ap 7 0), (8, ai 0), (159, ai (((idt a1).ways).length : Int)), (160, ai (IntKind.i64.wrap (v160 + 1)))]), [(7, (eFrame false a1)), (6, [ai 0, ab false, an, an, an]), (4, [ab ((idt a1).ok), rf 0 0 (((idt a1).occ).length), rf 1 0 (((idt a1).points).length), rf 2 0 ws2.length]), (3, (ePlan false a0))], (⟨0, 1, List.map eBool ((idt a1).occ)⟩ :: ⟨0, 2, List.map ePoint ((idt a1).points)⟩ :: ⟨0, 5, hRows 3 w86 w88⟩ :: List.map fbk w90)⟩) (wkL (n := 200) (A' := [(3, ap 3 0), (4, ap 4 0), (6, ap 6 0), (7, ap 7 0), (8, ai 0), (159, ai (((idt a1).ways).length : Int)), (160, ai (IntKind.i64.wrap (v160 + 1)))]) (L' := [(7, (eFrame false a1)), (6, [ai 0, ab false, an, an, an]), (4, [ab ((idt a1).ok), rf 0 0 (((idt a1).occ).length), rf 1 0 (((idt a1).points).length), rf 2 0 ws2.length]), (3, (ePlan false a0))]) []) (congrArg (fun z => (⟨(mkS 200 [(3, ap 3 0), (4, ap 4 0), (6, ap 6 0), (7, ap 7 0), (8, ai 0), (159, ai (((idt a1).ways).length : Int)), (160, ai (IntKind.i64.wrap (v160 + 1)))]), [(7, (eFrame false a1)), (6, [ai 0, ab false, an, an, an]), (4, [ab ((idt a1).ok), rf 0 0 (((idt a1).occ).length), rf 1 0 (((idt a1).points).length), rf 2 0 z]), (3, (ePlan false a0))], (⟨0, 1, List.map eBool ((idt a1).occ)⟩ :: ⟨0, 2, List.map ePoint ((idt a1).points)⟩ :: ⟨0, 5, hRows 3 w86 w88⟩ :: List.map fbk w90)⟩ : St)) (show ws2.length = w86.length by simp [hlw86])))
       ·
        replace h := h.2 q80
        refine cSkip ?_
        refine QBlock.normal ?_
        exact QJoinV.normal ((List.map Held.been ((idt a1).ways)), ((idt a1).occ), ((idt a1).points), (List.range ((idt a1).ways).length), 0, ((idt a1).ways)) h (wkL [5])
 obtain ⟨bs3, x0, x1, is2, v8, ws2⟩ := v
 replace h := h bs3 x0 x1 is2 v8 ws2 hJ
 dsimp only
 unfold impl_do_C16 at h
 obtain ⟨q124, h⟩ := h
 refine cSeqM [] [3] ((!(v8 != 0)) = true) ?_ (fun q112 => ?_)
 ·
  replace h := q124
  refine cRM [] 42 [(191, ab (v8 != 0)), (190, ai v8)] [1] [5] ?_
  refine cCond1 (fun q114 => ?_) (fun q114 => ?_)
  ·
   replace h := h q114
   obtain ⟨q117, h⟩ := h
   refine cSeqE [] [0, 3, 1] (fun L => er 1 [ai v8, ab ((idt a1).ok), af eBool ((idt a1).occ), af ePoint ((idt a1).points), af (eHeld false) ((idt a1).ways)] L) id (True) ?_ (fun q115 => ?_)
   ·
    replace h := q117
    refine rgS [] 43 ?_
    have q116 := h
    refine sCallV 3 (some 194) [(193, .agg (eFrame false a1)), (192, ai v8)] [.agg (eFrame false a1)] (impl_copiedv_V a1 q116) (PW.cons (Snap2.agg (PW.cons (.bool _) (PW.cons sa_lst (PW.cons sa_lst (PW.cons sa_lst PW.nil))))) PW.nil) ?_
    exact sEJ [(195, .agg [ai v8, ab ((idt a1).ok), af eBool ((idt a1).occ), af ePoint ((idt a1).points), af (eHeld false) ((idt a1).ways)])] trivial
   exact cRet (QJoin.ret (rt1 (.agg [ai v8, ab ((idt a1).ok), af eBool ((idt a1).occ), af ePoint ((idt a1).points), af (eHeld false) ((idt a1).ways)]) (SnapR3.agg (PW.cons (sr_int h.1) (PW.cons (sr_bool (congrArg (fun q => q.ok) h.2)) (PW.cons (sr_lst (congrArg (fun q => q.occ) h.2)) (PW.cons (sr_lst (congrArg (fun q => q.points) h.2)) (PW.cons (sr_lst (congrArg (fun q => q.ways) h.2)) PW.nil))))))))
  ·
   refine cSkip ?_
   exact QJoin.normal (by simp only [q114] <;> rfl) wkJ
 replace h := h q112
 obtain ⟨q123, h⟩ := h
 refine cSeqE [] [0, 2, 1] (fun L => er 1 [ai 0, ab ((settleF a0 (Frame.mk ((idt a1).ok) x0 x1 (view ws2 is2 bs3))).ok), af eBool ((settleF a0 (Frame.mk ((idt a1).ok) x0 x1 (view ws2 is2 bs3))).occ), af ePoint ((settleF a0 (Frame.mk ((idt a1).ok) x0 x1 (view ws2 is2 bs3))).points), af (eHeld false) ((settleF a0 (Frame.mk ((idt a1).ok) x0 x1 (view ws2 is2 bs3))).ways)] L) id (True) ?_ (fun q118 => ?_)
 ·
  replace h := q123
  refine rgS [] 44 ?_
  obtain ⟨q119, q120, q121, q122⟩ := h
  refine sCallV 3 (some 198) [(197, .agg [ab ((idt a1).ok), rf 0 0 x0.length, rf 1 0 x1.length, rf 2 0 ws2.length]), (196, .agg (ePlan false a0))] [.agg (ePlan false a0), .agg [ab ((idt a1).ok), rf 0 0 x0.length, rf 1 0 x1.length, rf 2 0 ws2.length]] (impl_settle_V a0 (Frame.mk ((idt a1).ok) x0 x1 (view ws2 is2 bs3)) q122) (PW.cons (Snap2.agg (PW.cons (.int _ _) (PW.cons sa_lst (PW.cons sa_lst (PW.cons sa_lst (PW.cons (.int _ _) PW.nil)))))) (PW.cons (Snap2.agg (PW.cons (.bool _) (PW.cons (sa_blk' (sz := 1) (by simp) rfl (iBool) q119) (PW.cons (sa_blk' (sz := 2) (by simp) rfl (iPoint) q120) (PW.cons (sa_fam (s := 3) (ws := ws2) (ids := is2) (bs := bs3) (by simp) rfl (fun id k h => by simpa using h) q121.1 q121.2.1 q121.2.2) PW.nil))))) PW.nil)) ?_
  exact sEJ [(199, .agg [ai 0, ab ((settleF a0 (Frame.mk ((idt a1).ok) x0 x1 (view ws2 is2 bs3))).ok), af eBool ((settleF a0 (Frame.mk ((idt a1).ok) x0 x1 (view ws2 is2 bs3))).occ), af ePoint ((settleF a0 (Frame.mk ((idt a1).ok) x0 x1 (view ws2 is2 bs3))).points), af (eHeld false) ((settleF a0 (Frame.mk ((idt a1).ok) x0 x1 (view ws2 is2 bs3))).ways)])] trivial
 exact cRet (rt1 (.agg [ai 0, ab ((settleF a0 (Frame.mk ((idt a1).ok) x0 x1 (view ws2 is2 bs3))).ok), af eBool ((settleF a0 (Frame.mk ((idt a1).ok) x0 x1 (view ws2 is2 bs3))).occ), af ePoint ((settleF a0 (Frame.mk ((idt a1).ok) x0 x1 (view ws2 is2 bs3))).points), af (eHeld false) ((settleF a0 (Frame.mk ((idt a1).ok) x0 x1 (view ws2 is2 bs3))).ways)]) (SnapR3.agg (PW.cons (sr_int h.1) (PW.cons (sr_bool (congrArg (fun q => q.ok) h.2)) (PW.cons (sr_lst (congrArg (fun q => q.occ) h.2)) (PW.cons (sr_lst (congrArg (fun q => q.points) h.2)) (PW.cons (sr_lst (congrArg (fun q => q.ways) h.2)) PW.nil)))))))
theorem impl_do_V (a0 : Plan) (a1 : Frame) (a2 : Event) (hp : doPre a0 a1 a2) : FnV Try.prog 63 [.agg (ePlan false a0), .agg (eFrame false a1), .agg (eEvent a2)] (.agg (eDone true (doF a0 a1 a2))) := impl_do_walk a0 a1 a2 (doF a0 a1 a2) (fun x v => upI (needs (nth a0.ways a2.tgt)).length (fun _ => false) v ∧ x = setPts ((needs (nth a0.ways a2.tgt)).take v.toNat) a1.points) (fun _ v => upM (needs (nth a0.ways a2.tgt)).length v) (fun bs is v ws => upI a1.ways.length (fun _ => false) v ∧ FamG ws is bs ∧ view ws is bs = tickN a0 v.toNat a1.ways) (fun _ _ v _ => upM a1.ways.length v) (fun bs o q is c ws => FamG ws is bs ∧ c = doCode a0 a1 a2 ∧ (c = 0 → Frame.mk a1.ok o q (view ws is bs) = doFr a0 a1 a2)) (by
 unfold impl_do_C
 obtain ⟨hf, he⟩ := hp
 have hs := fit_small hf
 have hs' := hs
 obtain ⟨z1, z2, z3, z4⟩ := hs'
 have hP := hf.in
 have hF := hf.fr
 have hl := hF.ways
 have hocc := hF.occ
 have hpt := hF.points
 have hn100 := hP.ways
 have hsec := hP.secs
 have hsw := hP.sw
 obtain ⟨r1, r2, r3⟩ := fam_range a1.ways
 have hG : FamG a1.ways (List.range a1.ways.length) (a1.ways.map Held.been) := ⟨r1, r2, fun b hb => by
  obtain ⟨h, hh, rfl⟩ := List.mem_map.1 hb; exact z4 h hh⟩
 have hfr : Frame.mk ((idt a1).ok) ((idt a1).occ) ((idt a1).points) (view ((idt a1).ways) (List.range ((idt a1).ways).length) (List.map Held.been ((idt a1).ways))) = a1 := by
  show Frame.mk a1.ok a1.occ a1.points (view a1.ways (List.range a1.ways.length) (List.map Held.been a1.ways)) = a1
  rw [r3]
 have hrl : ((idt a1).ways).length = (List.range ((idt a1).ways).length).length := by rw [List.length_range]
 have h62 : ((idt a1).occ).length ≤ 4611686018427387904 ∧ ((idt a1).points).length ≤ 4611686018427387904 ∧ (FamOk ((idt a1).ways) (List.range ((idt a1).ways).length) (List.map Held.been ((idt a1).ways)) ∧ ((idt a1).ways).length ≤ 4611686018427387904 ∧ (∀ x ∈ (List.map Held.been ((idt a1).ways)), List.length x ≤ 4611686018427387904)) :=
  ⟨by show a1.occ.length ≤ _; omega, by show a1.points.length ≤ _; omega, r1, by show a1.ways.length ≤ _; omega, fun x hx => by have := hG.len x hx; omega⟩
 have hno : ∀ c : Int, c = doCode a0 a1 a2 → c ≠ 0 → FamG a1.ways (List.range a1.ways.length) (a1.ways.map Held.been) ∧ c = doCode a0 a1 a2 ∧ (c = 0 → Frame.mk a1.ok a1.occ a1.points (view a1.ways (List.range a1.ways.length) (a1.ways.map Held.been)) = doFr a0 a1 a2) := fun c hc hne => ⟨hG, hc, fun h => absurd h hne⟩
 refine ⟨hs, ?_, fun bs o q is c ws hJ => ?_⟩
 ·unfold impl_do_C15
  refine ⟨fun h1 => ?_, fun h1 => ?_⟩
  ·have h1 : a2.op = 1 := by simpa using h1
   have ht := ev_ways he (.inl h1)
   have hcode : doCode a0 a1 a2 = whyF a0 a1 a2.tgt := by unfold doCode; rw [if_pos h1]
   unfold impl_do_C3
   rw [hfr]
   refine ⟨⟨h62.1, h62.2.1, h62.2.2, hf, ht.1, ht.2⟩, fun hz => ?_, fun hz => ?_⟩
   ·have hz : whyF a0 a1 a2.tgt = 0 := by simpa using hz
    have hlt : a2.tgt.toNat < a1.ways.length := by omega
    refine ⟨⟨⟨ht.1, hlt⟩, hrl, hlt⟩, ⟨⟨ht.1, by omega⟩, ?_⟩, fun hm => ⟨⟨up_start (len0 _), rfl⟩, fun x v hI => ?_⟩⟩
    ·have := hP.lies _ (nth_mem (show a2.tgt.toNat < a0.ways.length by omega))
     exact ⟨by omega, by omega⟩
    obtain ⟨hI, rfl⟩ := hI
    unfold impl_do_C2 impl_do_C1
    rw [hfr]
    refine ⟨fun hv => ?_, fun hv => ⟨⟨up_in hI hv, ?_⟩, ⟨(up_step (lenI hm) hI hv rfl).1, ?_⟩, (up_step (lenI hm) hI hv rfl).2⟩⟩
    ·have F0 := (hG.at' hlt).setState 1
     refine ⟨F0.G, hcode.symm, fun _ => ?_⟩
     have hv' : ¬ v < ((needs (nth a0.ways a2.tgt)).length : Int) := by simpa using hv
     have hv0 := hI.1
     have hvw := F0.vw
     rw [r3] at hvw
     unfold doFr
     rw [if_pos h1]
     rw [show view (((idt a1).ways).set a2.tgt.toNat (Held.mk 1 ((nth ((idt a1).ways) a2.tgt).gone) ((nth ((idt a1).ways) a2.tgt).been) ((nth ((idt a1).ways) a2.tgt).shown) ((nth ((idt a1).ways) a2.tgt).timer))) (List.range ((idt a1).ways).length) (List.map Held.been ((idt a1).ways)) = _ from hvw, List.take_of_length_le (by omega)]
     rfl
    ·rw [setPts_len]
     have := (hP.lies _ (nth_mem (show a2.tgt.toNat < a0.ways.length by omega))).2.2 _ (nth_mem (up_in hI hv).2)
     omega
    ·have hin := up_in hI hv
     rw [wrap_up (lenI hm) hI.1 (by simpa using hv), show (v + 1).toNat = v.toNat + 1 by have := hI.1; omega, setPts_s hin.2, ← nth_eq hin.2]
   ·have hz : ¬ whyF a0 a1 a2.tgt = 0 := by simpa using hz
    exact hno _ hcode.symm hz
  have h1 : ¬ a2.op = 1 := by simpa using h1
  unfold impl_do_C14
  refine ⟨fun h2 => ?_, fun h2 => ?_⟩
  ·have h2 : a2.op = 2 := by simpa using h2
   have ht := ev_ways he (.inr h2)
   have hlt : a2.tgt.toNat < a1.ways.length := by omega
   have hltp : a2.tgt.toNat < a0.ways.length := by omega
   have hc0 : doCode a0 a1 a2 = if (nth a1.ways a2.tgt).state ≠ 1 ∧ (nth a1.ways a2.tgt).state ≠ 2 then 2 else 0 := by unfold doCode; rw [if_neg h1, if_pos h2]
   refine ⟨⟨ht.1, hlt⟩, ⟨⟨hrl, hlt⟩, fun _ => ⟨hrl, hlt⟩⟩, ?_⟩
   unfold impl_do_C5
   rw [hfr]
   have hcond : ((((nth ((idt a1).ways) a2.tgt).state) != 1) && (((nth ((idt a1).ways) a2.tgt).state) != 2)) = decide ((nth a1.ways a2.tgt).state ≠ 1 ∧ (nth a1.ways a2.tgt).state ≠ 2) := by
    rw [Bool.eq_iff_iff]; simp [idt]
   rw [hcond]
   refine ⟨fun hc => ?_, fun hc => ⟨⟨⟨hrl, hlt⟩, fun _ => ⟨⟨ht.1, hltp⟩, h62.1, h62.2.1, h62.2.2, fun x hx => ?_⟩⟩, ?_⟩⟩
   ·have hc := of_decide_eq_true hc
    rw [if_pos hc] at hc0
    exact hno 2 hc0.symm (by decide)
   ·have := (hP.near _ (nth_mem hltp)).2 x hx; omega
   ·have hc := of_decide_eq_false hc
    rw [if_neg hc] at hc0
    have F0 := hG.at' hlt
    rw [r3] at F0
    unfold impl_do_C4
    rw [hfr]
    have hd : ∀ X : Frame, X = (if ((nth a1.ways a2.tgt).shown && someF a1 (nth a0.ways a2.tgt).near) = true then { a1 with ways := a1.ways.set a2.tgt.toNat { nth a1.ways a2.tgt with state := 3, timer := a0.hold } } else { a1 with ways := a1.ways.set a2.tgt.toNat (idleH a0 a2.tgt) }) → X = doFr a0 a1 a2 := fun X hX => by
     unfold doFr; rw [if_neg h1, if_pos h2]; exact hX
    refine ⟨fun hq => ⟨⟨hrl, hlt⟩, (F0.setState 3).ll, ?_⟩, fun hq => ⟨⟨hP, ht.1, ht.2⟩, ⟨hrl, hlt⟩, ?_⟩⟩
    ·have F2 := (F0.setState 3).setTimer a0.hold
     refine ⟨F2.G, hc0.symm, fun _ => hd _ ?_⟩
     have hq : ((nth a1.ways a2.tgt).shown && someF a1 (nth a0.ways a2.tgt).near) = true := hq
     rw [if_pos hq]
     have hvw := F2.vw
     exact congrArg (Frame.mk a1.ok a1.occ a1.points) hvw
    ·have F2 := F0.new (idleH a0 a2.tgt) (by
      have := (hP.sections _ (nth_mem hltp)).2.1
      show (List.replicate _ _).length ≤ _
      rw [List.length_replicate]; omega)
     have F2' : FamAt a1.ways ((List.range ((idt a1).ways).length).set a2.tgt.toNat ((List.map Held.been ((idt a1).ways)).length)) a2.tgt (idleH a0 a2.tgt) (((idt a1).ways).set a2.tgt.toNat (Held.mk ((idleH a0 a2.tgt).state) ((idleH a0 a2.tgt).gone) ((idleH a0 a2.tgt).been) ((idleH a0 a2.tgt).shown) ((idleH a0 a2.tgt).timer))) ((List.map Held.been ((idt a1).ways)) ++ [(idleH a0 a2.tgt).been]) := F2
     refine ⟨F2'.G, hc0.symm, fun _ => hd _ ?_⟩
     have hq : ¬ ((nth a1.ways a2.tgt).shown && someF a1 (nth a0.ways a2.tgt).near) = true := by
      have hq : ((nth a1.ways a2.tgt).shown && someF a1 (nth a0.ways a2.tgt).near) = false := hq
      rw [hq]; simp
     rw [if_neg hq, F2'.vw]; rfl
  have h2 : ¬ a2.op = 2 := by simpa using h2
  have ok : ∀ (o : List Bool) (q : List Point), doCode a0 a1 a2 = 0 → doFr a0 a1 a2 = { a1 with occ := o, points := q } → FamG a1.ways (List.range a1.ways.length) (a1.ways.map Held.been) ∧ 0 = doCode a0 a1 a2 ∧ ((0 : Int) = 0 → Frame.mk a1.ok o q (view a1.ways (List.range a1.ways.length) (a1.ways.map Held.been)) = doFr a0 a1 a2) := fun o q hc hd => ⟨hG, hc.symm, fun _ => by rw [r3, hd]⟩
  unfold impl_do_C13
  rw [orB]
  refine ⟨fun h3 => ?_, fun h3 => ?_⟩
  ·have h3 := of_decide_eq_true h3
   have ht := ev_secs he h3
   refine ⟨⟨ht.1, by show a2.tgt.toNat < a1.occ.length; omega⟩, ok _ _ ?_ ?_⟩
   ·unfold doCode; rw [if_neg h1, if_neg h2, if_neg (by omega)]
   ·unfold doFr; rw [if_neg h1, if_neg h2, if_pos h3]; rfl
  have h3 := of_decide_eq_false h3
  refine ⟨fun h5 => ?_, fun h5 => ?_⟩
  ·have h5 : a2.op = 5 := by simpa using h5
   have ht := ev_sw he (.inl h5)
   refine ⟨⟨ht.1, by show a2.tgt.toNat < a1.points.length; omega⟩, ok _ _ ?_ ?_⟩
   ·unfold doCode; rw [if_neg h1, if_neg h2, if_neg (by omega)]
   ·unfold doFr; rw [if_neg h1, if_neg h2, if_neg h3, if_pos h5]; rfl
  have h5 : ¬ a2.op = 5 := by simpa using h5
  unfold impl_do_C12
  refine ⟨fun h6 => ?_, fun h6 => ⟨fun h7 => ?_, fun h7 => ?_⟩⟩
  ·have h6 : a2.op = 6 := by simpa using h6
   have ht := ev_sw he (.inr h6)
   have hc0 : doCode a0 a1 a2 = if lockP a0 a1 a2.tgt = true then 2 else if occP a0 a1 a2.tgt = true then 3 else 0 := by unfold doCode; rw [if_neg h1, if_neg h2, if_pos h6]
   rw [hfr]
   refine ⟨⟨h62.1, h62.2.1, h62.2.2, hf, ht.1, ht.2⟩, fun _ => ?_⟩
   unfold impl_do_C7 impl_do_C6
   rw [hfr]
   have hsx := hP.switches _ (nth_mem (show a2.tgt.toNat < a0.switches.length by omega))
   refine ⟨fun hc => ?_, fun hc => ⟨⟨⟨ht.1, by omega⟩, hsx.1, by show _ < a1.occ.length; omega⟩, fun ho => ?_, fun ho => ⟨⟨ht.1, by show _ < a1.points.length; omega⟩, ok _ _ ?_ ?_⟩⟩⟩
   ·rw [if_pos (show lockP a0 a1 a2.tgt = true from hc)] at hc0
    exact hno 2 hc0.symm (by decide)
   ·rw [if_neg (show ¬ lockP a0 a1 a2.tgt = true by rw [show lockP a0 a1 a2.tgt = false from hc]; simp), if_pos (show occP a0 a1 a2.tgt = true from ho)] at hc0
    exact hno 3 hc0.symm (by decide)
   ·rw [if_neg (show ¬ lockP a0 a1 a2.tgt = true by rw [show lockP a0 a1 a2.tgt = false from hc]; simp), if_neg (show ¬ occP a0 a1 a2.tgt = true by rw [show occP a0 a1 a2.tgt = false from ho]; simp)] at hc0
    exact hc0
   ·unfold doFr; rw [if_neg h1, if_neg h2, if_neg h3, if_neg h5, if_pos h6]; rfl
  ·have h7 : a2.op = 7 := by simpa using h7
   unfold impl_do_C11
   refine ⟨⟨up_start (len0 _), hG, r3⟩, fun bs is v ws hI => ?_⟩
   obtain ⟨hI, G, hvw⟩ := hI
   have hwl : ws.length = a1.ways.length := by rw [← view_len G.ok, hvw, tick_len]
   refine ⟨fun hv => ⟨G, ?_, fun _ => ?_⟩, fun hv => ?_⟩
   ·unfold doCode; rw [if_neg h1, if_neg h2, if_neg (by omega)]
   ·have hv' : ¬ v < (a1.ways.length : Int) := by
     have hv : decide (v < (a1.ways.length : Int)) = false := hv
     simpa using hv
    have ha := hI.1
    have hb := hI.2.1
    rw [hvw, show v.toNat = a1.ways.length by omega]
    unfold doFr; rw [if_neg h1, if_neg h2, if_neg h3, if_neg h5, if_neg (by omega), if_pos h7]; rfl
   ·have hin := up_in hI hv
    have hlt : v.toNat < ws.length := by omega
    have hltp : v.toNat < a0.ways.length := by omega
    have F0 : FamAt (tickN a0 v.toNat a1.ways) is v (nth (tickN a0 v.toNat a1.ways) v) ws bs := FamAt.start G.ok G.nd hlt hvw G.len
    have hst := up_step (by omega) hI hv rfl
    have hw1 := wrap_up (show (a1.ways.length : Int) ≤ 4611686018427387904 by omega) hI.1 (by
     have hv : decide (v < (a1.ways.length : Int)) = true := hv
     simpa using hv)
    have hpre : idlePre a0 v := ⟨hP, hin.1, by omega⟩
    have hil : (idleH a0 v).been.length ≤ 1048576 := by
     have := (hP.sections _ (nth_mem hltp)).2.1
     show (List.replicate _ _).length ≤ _
     rw [List.length_replicate]; omega
    have F1 := F0.setTimer (IntKind.i64.wrap ((nth ws v).timer - 1))
    have fin : ∀ {ids' : List Nat} {ws' : List Held} {bs' : List (List Bool)} {x : Held}, FamAt (tickN a0 v.toNat a1.ways) ids' v x ws' bs' → x = tickH a0 v.toNat (nth (tickN a0 v.toNat a1.ways) v) → (upI a1.ways.length (fun _ => false) (IntKind.i64.wrap (v + 1)) ∧ FamG ws' ids' bs' ∧ view ws' ids' bs' = tickN a0 (IntKind.i64.wrap (v + 1)).toNat a1.ways) ∧ upM a1.ways.length (IntKind.i64.wrap (v + 1)) < upM a1.ways.length v := fun F hx => by
     refine ⟨⟨hst.1, F.G, ?_⟩, hst.2⟩
     rw [F.vw, hx, hw1, show (v + 1).toNat = v.toNat + 1 by omega]
     show _ = (tickN a0 v.toNat a1.ways).set v.toNat (tickH a0 v.toNat (nth (tickN a0 v.toNat a1.ways) (v.toNat : Int)))
     rw [nth_toNat hin.1]
    unfold impl_do_C10 impl_do_C9 impl_do_C8
    refine ⟨⟨⟨hin.1, hlt⟩, F0.ll, fun _ => ⟨⟨F0.ll, F0.ll⟩, F1.ll, fun _ => ⟨hpre, F1.ll⟩⟩⟩, fun w hw i hi b hb => ?_⟩
    have ht : (nth (ws.set v.toNat (Held.mk ((nth ws v).state) ((nth ws v).gone) ((nth ws v).been) ((nth ws v).shown) (IntKind.i64.wrap (((nth ws v).timer) - 1)))) v).timer = IntKind.i64.wrap ((nth ws v).timer - 1) := F1.timer
    rw [ht, F0.state, F0.timer] at hw hi hb
    rw [F0.timer, F0.state] at F1
    have hidl : idleH a0 (v.toNat : Int) = idleH a0 v := by rw [Int.toNat_of_nonneg hin.1]
    cases h3 : ((nth (tickN a0 v.toNat a1.ways) v).state == 3) with
    | false =>
     rw [h3] at hw hi hb
     subst hw; subst hi; subst hb
     refine fin F0 ?_
     unfold tickH; rw [if_neg (by simpa using h3)]
    | true =>
     rw [h3] at hw hi hb
     cases h0 : (IntKind.i64.wrap ((nth (tickN a0 v.toNat a1.ways) v).timer - 1) == 0) with
     | false =>
      rw [h0] at hw hi hb
      subst hw; subst hi; subst hb
      refine fin F1 ?_
      unfold tickH; rw [if_pos (by simpa using h3), if_neg (by simpa using h0)]
     | true =>
      rw [h0] at hw hi hb
      subst hw; subst hi; subst hb
      refine fin (F1.new (idleH a0 v) hil) ?_
      unfold tickH; rw [if_pos (by simpa using h3), if_pos (by simpa using h0), hidl]
  ·have h7 : ¬ a2.op = 7 := by simpa using h7
   refine ok _ _ ?_ ?_
   ·unfold doCode; rw [if_neg h1, if_neg h2, if_neg (by simpa using h6)]
   ·unfold doFr; rw [if_neg h1, if_neg h2, if_neg h3, if_neg h5, if_neg (by simpa using h6), if_neg h7]; rfl
 ·obtain ⟨G, hc, hd⟩ := hJ
  unfold impl_do_C16
  refine ⟨fun hz => ⟨hs, ?_⟩, fun hz => ?_⟩
  ·have hz : ¬ c = 0 := by simpa using hz
   unfold doF; rw [if_pos (by rw [← hc]; exact hz)]
   exact ⟨hc, rfl⟩
  ·have hz : c = 0 := by simpa using hz
   have hin := doFr_in hF (ev_ways he)
   rw [← hd hz] at hin
   have ho := hin.occ
   have hq := hin.points
   have hw := hin.ways
   have hwv : (view ws is bs).length = a0.ways.length := hw
   rw [view_len G.ok] at hwv
   replace ho : (o.length : Int) = a0.sections := ho
   replace hq : q.length = a0.switches.length := hq
   refine ⟨⟨by omega, by omega, ⟨G.ok, by omega, fun x hx => by have := G.len x hx; omega⟩, hP, hin⟩, ?_⟩
   unfold doF; rw [if_neg (by rw [← hc, hz]; simp)]
   exact ⟨rfl, by rw [← hd hz]; rfl⟩)
noncomputable def impl_Run_b : Code := bodyC Try.f22
def impl_Run_C1 (I0 : Nat → (List Done) → Bool → (List Bool) → (List Point) → (List Held) → Int → Prop) (m0 : Nat → (List Done) → Bool → (List Bool) → (List Point) → (List Held) → Int → Nat) (a0 : Plan) (a1 : (List Event)) (g0 : Nat) (x0 : (List Done)) (c5_0 : Bool) (c5_1 : (List Bool)) (c5_2 : (List Point)) (c5_3 : (List Held)) (v22 : Int) : Prop :=
  ((x0.length + [(Done.mk ((doF a0 (Frame.mk c5_0 c5_1 c5_2 c5_3) (nth a1 v22)).code) (idt ((doF a0 (Frame.mk c5_0 c5_1 c5_2 c5_3) (nth a1 v22)).frame)))].length) * 88 ≤ 140737488355328 ∧ x0.length + [(Done.mk ((doF a0 (Frame.mk c5_0 c5_1 c5_2 c5_3) (nth a1 v22)).code) (idt ((doF a0 (Frame.mk c5_0 c5_1 c5_2 c5_3) (nth a1 v22)).frame)))].length ≤ 4611686018427387904) ∧ (I0 (g0 + 1) (x0 ++ [(Done.mk ((doF a0 (Frame.mk c5_0 c5_1 c5_2 c5_3) (nth a1 v22)).code) (idt ((doF a0 (Frame.mk c5_0 c5_1 c5_2 c5_3) (nth a1 v22)).frame)))]) ((doF a0 (Frame.mk c5_0 c5_1 c5_2 c5_3) (nth a1 v22)).frame.ok) ((doF a0 (Frame.mk c5_0 c5_1 c5_2 c5_3) (nth a1 v22)).frame.occ) ((doF a0 (Frame.mk c5_0 c5_1 c5_2 c5_3) (nth a1 v22)).frame.points) ((doF a0 (Frame.mk c5_0 c5_1 c5_2 c5_3) (nth a1 v22)).frame.ways) (IntKind.i64.wrap (v22 + 1)) ∧ m0 (g0 + 1) (x0 ++ [(Done.mk ((doF a0 (Frame.mk c5_0 c5_1 c5_2 c5_3) (nth a1 v22)).code) (idt ((doF a0 (Frame.mk c5_0 c5_1 c5_2 c5_3) (nth a1 v22)).frame)))]) ((doF a0 (Frame.mk c5_0 c5_1 c5_2 c5_3) (nth a1 v22)).frame.ok) ((doF a0 (Frame.mk c5_0 c5_1 c5_2 c5_3) (nth a1 v22)).frame.occ) ((doF a0 (Frame.mk c5_0 c5_1 c5_2 c5_3) (nth a1 v22)).frame.points) ((doF a0 (Frame.mk c5_0 c5_1 c5_2 c5_3) (nth a1 v22)).frame.ways) (IntKind.i64.wrap (v22 + 1)) < m0 g0 x0 c5_0 c5_1 c5_2 c5_3 v22)
def impl_Run_C2 (I0 : Nat → (List Done) → Bool → (List Bool) → (List Point) → (List Held) → Int → Prop) (m0 : Nat → (List Done) → Bool → (List Bool) → (List Point) → (List Held) → Int → Nat) (g0 : Nat) (x0 : (List Done)) (c5_0 : Bool) (c5_1 : (List Bool)) (c5_2 : (List Point)) (c5_3 : (List Held)) (v22 : Int) : Prop :=
  ((x0.length + [(Done.mk 1 (idt (idt (Frame.mk c5_0 c5_1 c5_2 c5_3))))].length) * 88 ≤ 140737488355328 ∧ x0.length + [(Done.mk 1 (idt (idt (Frame.mk c5_0 c5_1 c5_2 c5_3))))].length ≤ 4611686018427387904) ∧ (I0 (g0 + 1) (x0 ++ [(Done.mk 1 (idt (idt (Frame.mk c5_0 c5_1 c5_2 c5_3))))]) c5_0 c5_1 c5_2 c5_3 (IntKind.i64.wrap (v22 + 1)) ∧ m0 (g0 + 1) (x0 ++ [(Done.mk 1 (idt (idt (Frame.mk c5_0 c5_1 c5_2 c5_3))))]) c5_0 c5_1 c5_2 c5_3 (IntKind.i64.wrap (v22 + 1)) < m0 g0 x0 c5_0 c5_1 c5_2 c5_3 v22)
def impl_Run_C3 (I0 : Nat → (List Done) → Bool → (List Bool) → (List Point) → (List Held) → Int → Prop) (m0 : Nat → (List Done) → Bool → (List Bool) → (List Point) → (List Held) → Int → Nat) (a0 : Plan) (a1 : (List Event)) (g0 : Nat) (x0 : (List Done)) (c5_0 : Bool) (c5_1 : (List Bool)) (c5_2 : (List Point)) (c5_3 : (List Held)) (v22 : Int) : Prop :=
  (smallF (Frame.mk c5_0 c5_1 c5_2 c5_3)) ∧ (((evGood a0 (nth a1 v22)) = true → (doPre a0 (Frame.mk c5_0 c5_1 c5_2 c5_3) (nth a1 v22)) ∧ ((smallF ((doF a0 (Frame.mk c5_0 c5_1 c5_2 c5_3) (nth a1 v22)).frame)) ∧ (impl_Run_C1 I0 m0 a0 a1 g0 x0 c5_0 c5_1 c5_2 c5_3 v22))) ∧ ((evGood a0 (nth a1 v22)) = false → (smallF (idt (Frame.mk c5_0 c5_1 c5_2 c5_3))) ∧ (impl_Run_C2 I0 m0 g0 x0 c5_0 c5_1 c5_2 c5_3 v22)))
def impl_Run_C4 (I0 : Nat → (List Done) → Bool → (List Bool) → (List Point) → (List Held) → Int → Prop) (m0 : Nat → (List Done) → Bool → (List Bool) → (List Point) → (List Held) → Int → Nat) (a0 : Plan) (a1 : (List Event)) (res : (List Done)) : Prop :=
  I0 0 ([] : List Done) ((beginF a0).ok) ((beginF a0).occ) ((beginF a0).points) ((beginF a0).ways) 0 ∧ ∀ (g0 : Nat) (x0 : (List Done)) (c5_0 : Bool) (c5_1 : (List Bool)) (c5_2 : (List Point)) (c5_3 : (List Held)) (v22 : Int), I0 g0 x0 c5_0 c5_1 c5_2 c5_3 v22 → (((decide (v22 < (a1.length : Int))) = false → x0.length ≤ 4611686018427387904 ∧ x0 = res) ∧ ((decide (v22 < (a1.length : Int))) = true → (0 ≤ v22 ∧ v22.toNat < a1.length) ∧ (impl_Run_C3 I0 m0 a0 a1 g0 x0 c5_0 c5_1 c5_2 c5_3 v22)))
def impl_Run_C (a0 : Plan) (a1 : (List Event)) (res : (List Done)) (I0 : Nat → (List Done) → Bool → (List Bool) → (List Point) → (List Held) → Int → Prop) (m0 : Nat → (List Done) → Bool → (List Bool) → (List Point) → (List Held) → Int → Nat) : Prop :=
 (((!(planGood a0)) || (decide ((a1.length : Int) > 1000))) = true → [] = res) ∧ ((!((!(planGood a0)) || (decide ((a1.length : Int) > 1000)))) = true → a1.length ≤ 4611686018427387904 → impl_Run_C4 I0 m0 a0 a1 res)
theorem impl_Run_walk (a0 : Plan) (a1 : (List Event)) (res : (List Done)) (I0 : Nat → (List Done) → Bool → (List Bool) → (List Point) → (List Held) → Int → Prop) (m0 : Nat → (List Done) → Bool → (List Bool) → (List Point) → (List Held) → Int → Nat) (h : impl_Run_C a0 a1 res I0 m0) : FnV Try.prog 22 [.agg (ePlan false a0), al eEvent a1] (af (eDone false) res) := by
 unfold impl_Run_C at h
 refine FnS.go (fn := Try.f22) [(0, .agg (ePlan false a0)), (1, al eEvent a1)] Try.func22 ?_
 show WpS _ (nv impl_Run_b 1) _ ⟨mkS 48 [(0, .agg (ePlan false a0)), (1, al eEvent a1)], [], []⟩
 refine cRN [] 0 [(4, an), (2, ap 2 0)] [0, 1, 1] [0, 1, 1] [(2, (ePlan false a0))] [] ?_
 obtain ⟨q37, h⟩ := h
 refine cSeqM [] [2] ((!((!(planGood a0)) || (decide ((a1.length : Int) > 1000)))) = true) ?_ (fun q2 => ?_)
 ·
  replace h := q37
  refine cSeqM [(17, ab ((!(planGood a0)) || (decide ((a1.length : Int) > 1000))))] [2] (True) ?_ (fun q3 => ?_)
  ·
   refine rgS [] 1 ?_
   refine sCallV 2 (some 11) [(10, .agg (ePlan false a0))] [.agg (ePlan false a0)] (impl_right_V a0) (PW.cons (Snap2.agg (PW.cons (.int _ _) (PW.cons sa_lst (PW.cons sa_lst (PW.cons sa_lst (PW.cons (.int _ _) PW.nil)))))) PW.nil) ?_
   refine sCase1 2 13 (!(planGood a0)) [(12, ab (!(planGood a0)))] (fun q4 => ?_) (fun q4 => ?_)
   ·
    exact sEJ ([(17, ab true)] ++ tz [16, 15, 14]) trivial (by simp only [q4] <;> kernel_rfl)
   ·
    refine sLen 2 (some 15) [(14, al eEvent a1)] eEvent a1 (fun q5 => ?_)
    exact sEJ [(17, ab (decide ((a1.length : Int) > 1000))), (16, ab (decide ((a1.length : Int) > 1000)))] trivial (by simp only [q4] <;> kernel_rfl)
  refine cCond1 (fun q6 => ?_) (fun q6 => ?_)
  ·
   replace h := h q6
   refine cRM [] 2 [(4, an)] [1] [] ?_
   exact cRet (QJoin.ret (rt1 (an) (SnapR3.of1 (sr_nil h))))
  ·
   refine cSkip ?_
   exact QJoin.normal (by simp only [q6] <;> rfl) wkJ
 replace h := h q2
 refine cSeqE [(5, ap 5 0)] [2] (fun L => (5, (eFrame true (beginF a0))) :: L) id (True) ?_ (fun q8 => ?_)
 ·
  refine rgS [] 3 ?_
  refine sCallV 2 (some 19) [(18, .agg (ePlan false a0))] [.agg (ePlan false a0)] (impl_Begin_V a0) (PW.cons (Snap2.agg (PW.cons (.int _ _) (PW.cons sa_lst (PW.cons sa_lst (PW.cons sa_lst (PW.cons (.int _ _) PW.nil)))))) PW.nil) ?_
  exact sEJ [(5, ap 5 0)] trivial
 refine cRM [] 4 [(6, an)] [1] [3] ?_
 refine cSeq ?_
 refine cSeqM [(20, al eEvent a1), (21, ai (a1.length : Int)), (22, ai 0)] [3] (a1.length ≤ 4611686018427387904) ?_ (fun q10 => ?_)
 ·
  refine rgS [] 5 ?_
  refine sLen 2 (some 21) [(20, al eEvent a1)] eEvent a1 (fun q11 => ?_)
  exact sEJ [(22, ai 0)] q11
 replace h := h q10
 unfold impl_Run_C4 at h
 refine cBlock 0 ?_
 refine WpS.weak ?_ (weak_adoptS (n := 48) (A' := [(6, rf 0 0 (([] : List Done).length)), (20, al eEvent a1), (21, ai (a1.length : Int)), (22, ai 0), (5, ap 5 0), (2, ap 2 0)]) 6 5 (by kernel_rfl) (by kernel_rfl) (by kernel_rfl) : Weak _ ⟨(mkS 48 [(6, rf 0 0 (([] : List Done).length)), (20, al eEvent a1), (21, ai (a1.length : Int)), (22, ai 0), (5, ap 5 0), (2, ap 2 0)]), [(5, (eFrame true (beginF a0))), (2, (ePlan false a0))], [⟨0, 5, List.map (eDone true) ([] : List Done)⟩]⟩)
 obtain ⟨q36, h⟩ := h
 refine cLoop (fun (v : Nat × (List Done) × Bool × (List Bool) × (List Point) × (List Held) × Int) => (⟨(mkS 48 [(2, ap 2 0), (5, ap 5 0), (6, rf 0 (v.1) ((v.2.1).length)), (20, al eEvent a1), (21, ai (a1.length : Int)), (22, ai (v.2.2.2.2.2.2))]), [(5, [ab (v.2.2.1), af eBool (v.2.2.2.1), af ePoint (v.2.2.2.2.1), af (eHeld false) (v.2.2.2.2.2.1)]), (2, (ePlan false a0))], [⟨(v.1), 5, List.map (eDone true) (v.2.1)⟩]⟩ : St)) (fun (v : Nat × (List Done) × Bool × (List Bool) × (List Point) × (List Held) × Int) => I0 (v.1) (v.2.1) (v.2.2.1) (v.2.2.2.1) (v.2.2.2.2.1) (v.2.2.2.2.2.1) (v.2.2.2.2.2.2)) (fun (v : Nat × (List Done) × Bool × (List Bool) × (List Point) × (List Held) × Int) => m0 (v.1) (v.2.1) (v.2.2.1) (v.2.2.2.1) (v.2.2.2.2.1) (v.2.2.2.2.2.1) (v.2.2.2.2.2.2)) (0, ([] : List Done), (beginF a0).ok, (beginF a0).occ, (beginF a0).points, (beginF a0).ways, 0) (wkL (n := 48) (A' := [(2, ap 2 0), (5, ap 5 0), (6, rf 0 0 (([] : List Done).length)), (20, al eEvent a1), (21, ai (a1.length : Int)), (22, ai 0)]) (L' := [(5, (eFrame true (beginF a0))), (2, (ePlan false a0))]) []) q36 (fun v hI => ?_)
 obtain ⟨g0, x0, c5_0, c5_1, c5_2, c5_3, v22⟩ := v
 replace h := h g0 x0 c5_0 c5_1 c5_2 c5_3 v22 hI
 dsimp only
 refine cRM [] 6 [(23, ab (decide (v22 < (a1.length : Int))))] [1] [6] ?_
 obtain ⟨q35, h⟩ := h
 refine cSeqM [] [0, 1, 6] ((decide (v22 < (a1.length : Int))) = true) ?_ (fun q13 => ?_)
 ·
  replace h := q35
  refine cCond1 (fun q14 => ?_) (fun q14 => ?_)
  ·
   refine cSkip ?_
   exact QJoin.normal (by simp only [q2, q14] <;> rfl) wkJ
  ·
   replace h := h q14
   refine cExit 0 ?_
   refine QJoin.exit ?_
   refine QRound.exit ?_
   refine QBlock.here ?_
   refine QSeq.normal ?_
   refine cSeqG ⟨(mkS 48 [(4, rf 0 g0 x0.length)]), [(5, [ab c5_0, af eBool c5_1, af ePoint c5_2, af (eHeld false) c5_3]), (2, (ePlan false a0))], [⟨g0, 5, List.map (eDone true) x0⟩]⟩ (True) ?_ (fun q15 => ?_)
   ·
    refine rgS [] 15 ?_
    exact sEJ [(4, rf 0 g0 x0.length), (47, rf 0 g0 x0.length)] trivial
   exact cRet (rt1 (rf 0 g0 x0.length) (SnapR3.of1 (sr_blk' (sz := 5) (by simp) rfl (cDone) h)))
 replace h := h q13
 refine cSeq ?_
 refine cBlock 1 ?_
 obtain ⟨q34, h⟩ := h
 refine cSeqE [(8, ap 8 0)] [6] (fun L => (8, (eEvent (nth a1 v22))) :: L) id (True) ?_ (fun q16 => ?_)
 ·
  replace h := q34
  refine rgS [] 7 ?_
  have q17 := h
  refine sIdx 1 (some 24) [] eEvent a1 3 q17 ?_
  exact sEJ [(8, ap 8 0), (25, .agg (eEvent (nth a1 v22)))] trivial
 unfold impl_Run_C3 at h
 obtain ⟨q33, h⟩ := h
 refine cSeqE [(9, ap 9 0)] [7] (fun L => (9, [ai 1, ab ((idt (Frame.mk c5_0 c5_1 c5_2 c5_3)).ok), af eBool ((idt (Frame.mk c5_0 c5_1 c5_2 c5_3)).occ), af ePoint ((idt (Frame.mk c5_0 c5_1 c5_2 c5_3)).points), af (eHeld false) ((idt (Frame.mk c5_0 c5_1 c5_2 c5_3)).ways)]) :: L) id (True) ?_ (fun q18 => ?_)
 ·
  replace h := q33
  refine rgS [] 8 ?_
  have q19 := h
  refine sCallV 2 (some 27) [(26, .agg [ab c5_0, af eBool c5_1, af ePoint c5_2, af (eHeld false) c5_3])] [.agg [ab c5_0, af eBool c5_1, af ePoint c5_2, af (eHeld false) c5_3]] (impl_copiedv_V (Frame.mk c5_0 c5_1 c5_2 c5_3) q19) (PW.cons (Snap2.agg (PW.cons (.bool _) (PW.cons sa_lst (PW.cons sa_lst (PW.cons sa_lst PW.nil))))) PW.nil) ?_
  exact sEJ [(9, ap 9 0), (28, .agg [ai 1, ab ((idt (Frame.mk c5_0 c5_1 c5_2 c5_3)).ok), af eBool ((idt (Frame.mk c5_0 c5_1 c5_2 c5_3)).occ), af ePoint ((idt (Frame.mk c5_0 c5_1 c5_2 c5_3)).points), af (eHeld false) ((idt (Frame.mk c5_0 c5_1 c5_2 c5_3)).ways)])] trivial
 refine cSeq ?_
 refine cSeqM [(31, ab (evGood a0 (nth a1 v22)))] [8] (True) ?_ (fun q20 => ?_)
 ·
  refine rgS [] 9 ?_
  refine sCallV 3 (some 31) [(30, .agg (eEvent (nth a1 v22))), (29, .agg (ePlan false a0))] [.agg (ePlan false a0), .agg (eEvent (nth a1 v22))] (impl_evOk_V a0 (nth a1 v22)) (PW.cons (Snap2.agg (PW.cons (.int _ _) (PW.cons sa_lst (PW.cons sa_lst (PW.cons sa_lst (PW.cons (.int _ _) PW.nil)))))) (PW.cons (Snap2.agg (PW.cons (.int _ _) (PW.cons (.int _ _) (PW.cons (.int _ _) PW.nil)))) PW.nil)) ?_
  exact sEJ [] trivial
 refine cCond1 (fun q21 => ?_) (fun q21 => ?_)
 ·
  replace h := h.1 q21
  obtain ⟨q28, h⟩ := h
  refine cSeqE [] [0, 1, 1, 1, 6] (fun L => er 0 (eDone true (doF a0 (Frame.mk c5_0 c5_1 c5_2 c5_3) (nth a1 v22))) L) id (True) ?_ (fun q22 => ?_)
  ·
   replace h := q28
   refine rgS [] 10 ?_
   have q23 := h
   refine sCallV 4 (some 35) [(34, .agg (eEvent (nth a1 v22))), (33, .agg [ab c5_0, af eBool c5_1, af ePoint c5_2, af (eHeld false) c5_3]), (32, .agg (ePlan false a0))] [.agg (ePlan false a0), .agg [ab c5_0, af eBool c5_1, af ePoint c5_2, af (eHeld false) c5_3], .agg (eEvent (nth a1 v22))] (impl_do_V a0 (Frame.mk c5_0 c5_1 c5_2 c5_3) (nth a1 v22) q23) (PW.cons (Snap2.agg (PW.cons (.int _ _) (PW.cons sa_lst (PW.cons sa_lst (PW.cons sa_lst (PW.cons (.int _ _) PW.nil)))))) (PW.cons (Snap2.agg (PW.cons (.bool _) (PW.cons sa_lst (PW.cons sa_lst (PW.cons sa_lst PW.nil))))) (PW.cons (Snap2.agg (PW.cons (.int _ _) (PW.cons (.int _ _) (PW.cons (.int _ _) PW.nil)))) PW.nil))) ?_
   exact sEJ [] trivial
  refine rgS [] 11 ?_
  refine sEnd' [(37, .agg [ab ((doF a0 (Frame.mk c5_0 c5_1 c5_2 c5_3) (nth a1 v22)).frame.ok), af eBool ((doF a0 (Frame.mk c5_0 c5_1 c5_2 c5_3) (nth a1 v22)).frame.occ), af ePoint ((doF a0 (Frame.mk c5_0 c5_1 c5_2 c5_3) (nth a1 v22)).frame.points), af (eHeld false) ((doF a0 (Frame.mk c5_0 c5_1 c5_2 c5_3) (nth a1 v22)).frame.ways)]), (36, ap 9 1)] [(9, (eDone true (doF a0 (Frame.mk c5_0 c5_1 c5_2 c5_3) (nth a1 v22)))), (8, (eEvent (nth a1 v22))), (5, [ab ((doF a0 (Frame.mk c5_0 c5_1 c5_2 c5_3) (nth a1 v22)).frame.ok), af eBool ((doF a0 (Frame.mk c5_0 c5_1 c5_2 c5_3) (nth a1 v22)).frame.occ), af ePoint ((doF a0 (Frame.mk c5_0 c5_1 c5_2 c5_3) (nth a1 v22)).frame.points), af (eHeld false) ((doF a0 (Frame.mk c5_0 c5_1 c5_2 c5_3) (nth a1 v22)).frame.ways)]), (2, (ePlan false a0))] [⟨g0, 5, List.map (eDone true) x0⟩] ?_
  refine QSeq.normal ?_
  obtain ⟨q27, h⟩ := h
  refine cSeqG ⟨(mkS 48 [(2, ap 2 0), (5, ap 5 0), (6, rf 0 g0 x0.length), (9, ap 9 0), (20, al eEvent a1), (21, ai (a1.length : Int)), (22, ai v22)]), [(9, [ai ((doF a0 (Frame.mk c5_0 c5_1 c5_2 c5_3) (nth a1 v22)).code), ab ((idt ((doF a0 (Frame.mk c5_0 c5_1 c5_2 c5_3) (nth a1 v22)).frame)).ok), af eBool ((idt ((doF a0 (Frame.mk c5_0 c5_1 c5_2 c5_3) (nth a1 v22)).frame)).occ), af ePoint ((idt ((doF a0 (Frame.mk c5_0 c5_1 c5_2 c5_3) (nth a1 v22)).frame)).points), af (eHeld false) ((idt ((doF a0 (Frame.mk c5_0 c5_1 c5_2 c5_3) (nth a1 v22)).frame)).ways)]), (8, (eEvent (nth a1 v22))), (5, [ab ((doF a0 (Frame.mk c5_0 c5_1 c5_2 c5_3) (nth a1 v22)).frame.ok), af eBool ((doF a0 (Frame.mk c5_0 c5_1 c5_2 c5_3) (nth a1 v22)).frame.occ), af ePoint ((doF a0 (Frame.mk c5_0 c5_1 c5_2 c5_3) (nth a1 v22)).frame.points), af (eHeld false) ((doF a0 (Frame.mk c5_0 c5_1 c5_2 c5_3) (nth a1 v22)).frame.ways)]), (2, (ePlan false a0))], [⟨g0, 5, List.map (eDone true) x0⟩]⟩ (True) ?_ (fun q24 => ?_)
  ·
   replace h := q27
   refine rgS [] 12 ?_
   have q25 := h
   refine sCallV 3 (some 40) [(39, .agg [ab ((doF a0 (Frame.mk c5_0 c5_1 c5_2 c5_3) (nth a1 v22)).frame.ok), af eBool ((doF a0 (Frame.mk c5_0 c5_1 c5_2 c5_3) (nth a1 v22)).frame.occ), af ePoint ((doF a0 (Frame.mk c5_0 c5_1 c5_2 c5_3) (nth a1 v22)).frame.points), af (eHeld false) ((doF a0 (Frame.mk c5_0 c5_1 c5_2 c5_3) (nth a1 v22)).frame.ways)]), (38, ap 9 1)] [.agg [ab ((doF a0 (Frame.mk c5_0 c5_1 c5_2 c5_3) (nth a1 v22)).frame.ok), af eBool ((doF a0 (Frame.mk c5_0 c5_1 c5_2 c5_3) (nth a1 v22)).frame.occ), af ePoint ((doF a0 (Frame.mk c5_0 c5_1 c5_2 c5_3) (nth a1 v22)).frame.points), af (eHeld false) ((doF a0 (Frame.mk c5_0 c5_1 c5_2 c5_3) (nth a1 v22)).frame.ways)]] (impl_copiedv_V ((doF a0 (Frame.mk c5_0 c5_1 c5_2 c5_3) (nth a1 v22)).frame) q25) (PW.cons (Snap2.agg (PW.cons (.bool _) (PW.cons sa_lst (PW.cons sa_lst (PW.cons sa_lst PW.nil))))) PW.nil) ?_
   exact sEJ [(41, ap 9 1)] trivial
  unfold impl_Run_C1 at h
  refine rgS [] 13 ?_
  obtain ⟨q26, h⟩ := h
  refine sApp 4 (some 45) [(44, .lst (List.map (eDone false) [(Done.mk ((doF a0 (Frame.mk c5_0 c5_1 c5_2 c5_3) (nth a1 v22)).code) (idt ((doF a0 (Frame.mk c5_0 c5_1 c5_2 c5_3) (nth a1 v22)).frame)))]) true true), (43, .agg [ai ((doF a0 (Frame.mk c5_0 c5_1 c5_2 c5_3) (nth a1 v22)).code), ab ((idt ((doF a0 (Frame.mk c5_0 c5_1 c5_2 c5_3) (nth a1 v22)).frame)).ok), af eBool ((idt ((doF a0 (Frame.mk c5_0 c5_1 c5_2 c5_3) (nth a1 v22)).frame)).occ), af ePoint ((idt ((doF a0 (Frame.mk c5_0 c5_1 c5_2 c5_3) (nth a1 v22)).frame)).points), af (eHeld false) ((idt ((doF a0 (Frame.mk c5_0 c5_1 c5_2 c5_3) (nth a1 v22)).frame)).ways)]), (42, rf 0 g0 x0.length)] (eDone true) x0 [(Done.mk ((doF a0 (Frame.mk c5_0 c5_1 c5_2 c5_3) (nth a1 v22)).code) (idt ((doF a0 (Frame.mk c5_0 c5_1 c5_2 c5_3) (nth a1 v22)).frame)))] (refrs true (List.map (eDone false) [(Done.mk ((doF a0 (Frame.mk c5_0 c5_1 c5_2 c5_3) (nth a1 v22)).code) (idt ((doF a0 (Frame.mk c5_0 c5_1 c5_2 c5_3) (nth a1 v22)).frame)))])) 0 g0 5 88 (fun r => [⟨(g0 + 1), 5, r⟩]) rfl q26 ?_
  refine sEnd [(6, rf 0 (g0 + 1) ((x0 ++ [(Done.mk ((doF a0 (Frame.mk c5_0 c5_1 c5_2 c5_3) (nth a1 v22)).code) (idt ((doF a0 (Frame.mk c5_0 c5_1 c5_2 c5_3) (nth a1 v22)).frame)))]).length))] ?_
  refine QBlock.normal ?_
  refine QSeq.normal ?_
  refine rgS [] 14 ?_
  refine sEnd [(22, ai (IntKind.i64.wrap (v22 + 1))), (46, ai (IntKind.i64.wrap (v22 + 1)))] ?_
  exact QRound.again ((g0 + 1), (x0 ++ [(Done.mk ((doF a0 (Frame.mk c5_0 c5_1 c5_2 c5_3) (nth a1 v22)).code) (idt ((doF a0 (Frame.mk c5_0 c5_1 c5_2 c5_3) (nth a1 v22)).frame)))]), (doF a0 (Frame.mk c5_0 c5_1 c5_2 c5_3) (nth a1 v22)).frame.ok, (doF a0 (Frame.mk c5_0 c5_1 c5_2 c5_3) (nth a1 v22)).frame.occ, (doF a0 (Frame.mk c5_0 c5_1 c5_2 c5_3) (nth a1 v22)).frame.points, (doF a0 (Frame.mk c5_0 c5_1 c5_2 c5_3) (nth a1 v22)).frame.ways, (IntKind.i64.wrap (v22 + 1))) h (wkL [9, 8])
 ·
  replace h := h.2 q21
  refine cSkip ?_
  refine QSeq.normal ?_
  obtain ⟨q32, h⟩ := h
  refine cSeqG ⟨(mkS 48 [(2, ap 2 0), (5, ap 5 0), (6, rf 0 g0 x0.length), (9, ap 9 0), (20, al eEvent a1), (21, ai (a1.length : Int)), (22, ai v22)]), [(9, [ai 1, ab ((idt (idt (Frame.mk c5_0 c5_1 c5_2 c5_3))).ok), af eBool ((idt (idt (Frame.mk c5_0 c5_1 c5_2 c5_3))).occ), af ePoint ((idt (idt (Frame.mk c5_0 c5_1 c5_2 c5_3))).points), af (eHeld false) ((idt (idt (Frame.mk c5_0 c5_1 c5_2 c5_3))).ways)]), (8, (eEvent (nth a1 v22))), (5, [ab c5_0, af eBool c5_1, af ePoint c5_2, af (eHeld false) c5_3]), (2, (ePlan false a0))], [⟨g0, 5, List.map (eDone true) x0⟩]⟩ (True) ?_ (fun q29 => ?_)
  ·
   replace h := q32
   refine rgS [] 12 ?_
   have q30 := h
   refine sCallV 3 (some 40) [(39, .agg (eFrame true (idt (Frame.mk c5_0 c5_1 c5_2 c5_3)))), (38, ap 9 1)] [.agg (eFrame true (idt (Frame.mk c5_0 c5_1 c5_2 c5_3)))] (impl_copiedv_V (idt (Frame.mk c5_0 c5_1 c5_2 c5_3)) q30) (PW.cons (Snap2.agg (PW.cons (.bool _) (PW.cons sa_lst (PW.cons sa_lst (PW.cons sa_lst PW.nil))))) PW.nil) ?_
   exact sEJ [(41, ap 9 1)] trivial
  unfold impl_Run_C2 at h
  refine rgS [] 13 ?_
  obtain ⟨q31, h⟩ := h
  refine sApp 4 (some 45) [(44, .lst (List.map (eDone false) [(Done.mk 1 (idt (idt (Frame.mk c5_0 c5_1 c5_2 c5_3))))]) true true), (43, .agg [ai 1, ab ((idt (idt (Frame.mk c5_0 c5_1 c5_2 c5_3))).ok), af eBool ((idt (idt (Frame.mk c5_0 c5_1 c5_2 c5_3))).occ), af ePoint ((idt (idt (Frame.mk c5_0 c5_1 c5_2 c5_3))).points), af (eHeld false) ((idt (idt (Frame.mk c5_0 c5_1 c5_2 c5_3))).ways)]), (42, rf 0 g0 x0.length)] (eDone true) x0 [(Done.mk 1 (idt (idt (Frame.mk c5_0 c5_1 c5_2 c5_3))))] (refrs true (List.map (eDone false) [(Done.mk 1 (idt (idt (Frame.mk c5_0 c5_1 c5_2 c5_3))))])) 0 g0 5 88 (fun r => [⟨(g0 + 1), 5, r⟩]) rfl q31 ?_
  refine sEnd [(6, rf 0 (g0 + 1) ((x0 ++ [(Done.mk 1 (idt (idt (Frame.mk c5_0 c5_1 c5_2 c5_3))))]).length))] ?_
  refine QBlock.normal ?_
  refine QSeq.normal ?_
  refine rgS [] 14 ?_
  refine sEnd [(22, ai (IntKind.i64.wrap (v22 + 1))), (46, ai (IntKind.i64.wrap (v22 + 1)))] ?_
  exact QRound.again ((g0 + 1), (x0 ++ [(Done.mk 1 (idt (idt (Frame.mk c5_0 c5_1 c5_2 c5_3))))]), c5_0, c5_1, c5_2, c5_3, (IntKind.i64.wrap (v22 + 1))) h (wkL [9, 8])
theorem impl_Run_V (a0 : Plan) (a1 : (List Event)) : FnV Try.prog 22 [.agg (ePlan false a0), al eEvent a1] (af (eDone false) (runF a0 a1)) := impl_Run_walk a0 a1 (runF a0 a1) (fun _ x a b c e v => upI a1.length (fun _ => false) v ∧ x = runFrom a0 (beginF a0) (a1.take v.toNat) ∧ Frame.mk a b c e = lastOf a0 (beginF a0) (a1.take v.toNat)) (fun _ _ _ _ _ _ v => upM a1.length v) (by
 unfold impl_Run_C
 refine ⟨fun h => ?_, fun h hn => ?_⟩
 ·unfold runF
  rw [if_neg]
  rintro ⟨h1, h2⟩
  rw [h1] at h
  have : ¬ (a1.length : Int) > 1000 := by omega
  simp [this] at h
 have h : planGood a0 = true ∧ (a1.length : Int) ≤ 1000 := by simpa using h
 have e : runF a0 a1 = runFrom a0 (beginF a0) a1 := by unfold runF; rw [if_pos ⟨h.1, by omega⟩]
 rw [e]
 unfold impl_Run_C4
 refine ⟨⟨up_start (len0 _), rfl, rfl⟩, fun g x a b c d v hI => ?_⟩
 obtain ⟨hI, rfl, hl⟩ := hI
 have hvn := hI.2.1
 have hv0 := hI.1
 have hrl : (runFrom a0 (beginF a0) (a1.take v.toNat)).length = v.toNat := by rw [run_len, List.length_take]; omega
 refine ⟨fun hv => ⟨by omega, ?_⟩, fun hv => ⟨up_in hI hv, ?_⟩⟩
 ·have : ¬ v < (a1.length : Int) := by simpa using hv
  rw [List.take_of_length_le (by omega)]
 have hin := up_in hI hv
 have hst := up_step (lenI hn) hI hv rfl
 have hfit : Fit a0 (lastOf a0 (beginF a0) (a1.take v.toNat)) := last_fit _ (begin_fit h.1)
 have htk : a1.take (IntKind.i64.wrap (v + 1)).toNat = a1.take v.toNat ++ [nth a1 v] := by
  rw [wrap_up (lenI hn) hv0 (by simpa using hv), show (v + 1).toNat = v.toNat + 1 by omega, List.take_succ_eq_append_getElem hin.2, nth_eq hin.2]
 have hra := run_app a0 (nth a1 v) (a1.take v.toNat) (beginF a0)
 unfold impl_Run_C3
 rw [hl]
 refine ⟨fit_small hfit, fun he => ⟨⟨hfit, he⟩, fit_small (do_fit hfit he), ?_⟩, fun he => ⟨fit_small hfit, ?_⟩⟩
 ·unfold impl_Run_C1
  rw [hl]
  refine ⟨⟨by simp only [List.length_singleton]; omega, by simp only [List.length_singleton]; omega⟩, ⟨hst.1, ?_, ?_⟩, hst.2⟩
  ·rw [htk, hra.1, if_pos he]; rfl
  ·rw [htk, hra.2, if_pos he]
 ·unfold impl_Run_C2
  rw [hl]
  refine ⟨⟨by simp only [List.length_singleton]; omega, by simp only [List.length_singleton]; omega⟩, ⟨hst.1, ?_, ?_⟩, hst.2⟩
  ·rw [htk, hra.1, if_neg (by rw [he]; simp)]; rfl
  ·rw [htk, hra.2, if_neg (by rw [he]; simp), hl])
end Go.Proofs.Ytglpfccgmfhkdaa.Fw
