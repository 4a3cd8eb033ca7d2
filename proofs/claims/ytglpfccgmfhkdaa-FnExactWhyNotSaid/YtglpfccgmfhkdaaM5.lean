/- Walks and summaries of functions, printed by a program of mine (tools/mk2.py), with the proofs of what they owe. -/
import Derived.Test.YtglpfccgmfhkdaaM4

set_option linter.unusedVariables false
set_option maxRecDepth 100000
set_option maxHeartbeats 4000000
set_option linter.unusedSimpArgs false
namespace Go.Proofs.Ytglpfccgmfhkdaa.Fw
open Go
attribute [local irreducible] evS evSD WpS Weak Oper.looksAt
noncomputable def spec_l2pass_b : Code := bodyC Try.f140
def spec_l2pass_o10 : List Item := [iq 0, iq 1, iq 2, iq 3, iq 4, iq 5, iq 6, iq 7, iq 8, iq 9, iq 10, iq 11, iq 12, iq 13, iq 14, iq 15, iq 16, iq 17, iq 18, iq 19, iq 20, iq 21, iq 22, iq 23, iq 24, iq 25, iq 26, iq 27, iq 28, iq 29, iq 30, iq 31, iq 32, iq 33, iq 34, iq 35, iq 36, iq 37]
def spec_l2pass_o10a : List (List Nat) := [[], [0], [0, 1], [0, 1, 2], [], rg 0 5, rg 0 6, rg 0 7, rg 0 8, rg 0 9, rg 0 10, rg 0 11, rg 0 12, rg 0 9, rg 0 9 ++ [13], rg 0 9, rg 0 9 ++ [13, 14, 15], rg 0 9 ++ rg 13 17, rg 0 18, rg 0 19, rg 0 20, rg 0 21, rg 0 22, rg 0 22, rg 0 22 ++ [23], rg 0 25, rg 0 26, rg 0 27, rg 0 28, rg 0 29, rg 0 30, rg 0 27, rg 0 27 ++ [31], rg 0 33, rg 0 34, rg 0 35, rg 0 36, rg 0 37]
def spec_l2pass_C1 (I1 : List (List Bool) → Int → List Held → Prop) (m1 : List (List Bool) → Int → List Held → Nat) (j2 : Int) (hi : List Nat) (bs4 : List (List Bool)) (v16 : Int) (ws3 : List Held) : Prop :=
  (ws3.length = hi.length ∧ j2.toNat < ws3.length) ∧ ((ws3.length = hi.length ∧ j2.toNat < ws3.length) ∧ (I1 bs4 v16 (ws3.set j2.toNat (Held.mk ((nth ws3 j2).state) (IntKind.i64.wrap (((nth ws3 j2).gone) + 1)) ((nth ws3 j2).been) ((nth ws3 j2).shown) ((nth ws3 j2).timer))) ∧ m1 bs4 v16 (ws3.set j2.toNat (Held.mk ((nth ws3 j2).state) (IntKind.i64.wrap (((nth ws3 j2).gone) + 1)) ((nth ws3 j2).been) ((nth ws3 j2).shown) ((nth ws3 j2).timer))) < m1 bs4 v16 ws3))
def spec_l2pass_C2 (I1 : List (List Bool) → Int → List Held → Prop) (m1 : List (List Bool) → Int → List Held → Nat) (a0 : Way) (j2 : Int) (hk : Bool) (ho : List Bool) (hq : List Point) (hw : List Held) (hi : List Nat) (hb bs4 : List (List Bool)) (v16 : Int) (ws3 : List Held) : Prop :=
  (((ws3.length = hi.length ∧ j2.toNat < ws3.length) ∧ ((((nth hi j2) < bs4.length) ∧ (0 ≤ ((nth ws3 j2).gone) ∧ ((nth ws3 j2).gone).toNat < (nth ws3 j2).been.length)) ∧ (((nth hi j2) < bs4.length ∧ ((nth ws3 j2).gone).toNat < (bs4.getD (nth hi j2) []).length) ∧ ((!(nth (bs4.getD (nth hi j2) []) ((nth ws3 j2).gone))) = false → (0 ≤ ((nth ws3 j2).gone) ∧ ((nth ws3 j2).gone).toNat < a0.sections.length) ∧ ((0 ≤ (nth a0.sections ((nth ws3 j2).gone)) ∧ (nth a0.sections ((nth ws3 j2).gone)).toNat < ho.length) ∧ ((nth ho (nth a0.sections ((nth ws3 j2).gone))) = false → (decide (((nth ws3 j2).gone) < (IntKind.i64.wrap ((a0.sections.length : Int) - 1)))) = true → (ws3.length = hi.length ∧ j2.toNat < ws3.length) ∧ ((((nth hi j2) < bs4.length) ∧ (0 ≤ (IntKind.i64.wrap (((nth ws3 j2).gone) + 1)) ∧ (IntKind.i64.wrap (((nth ws3 j2).gone) + 1)).toNat < (nth ws3 j2).been.length)) ∧ ((nth hi j2) < bs4.length ∧ (IntKind.i64.wrap (((nth ws3 j2).gone) + 1)).toNat < (bs4.getD (nth hi j2) []).length)))))))) ∧ (((!(nth (bs4.getD (nth hi j2) []) ((nth ws3 j2).gone))) || ((nth ho (nth a0.sections ((nth ws3 j2).gone))) || ((decide (((nth ws3 j2).gone) < (IntKind.i64.wrap ((a0.sections.length : Int) - 1)))) && (!(nth (bs4.getD (nth hi j2) []) (IntKind.i64.wrap (((nth ws3 j2).gone) + 1))))))) = true → passPostM a0 j2 hk ho hq hw hi hb ho hq ws3 hi bs4)) ∧ ((!((!(nth (bs4.getD (nth hi j2) []) ((nth ws3 j2).gone))) || ((nth ho (nth a0.sections ((nth ws3 j2).gone))) || ((decide (((nth ws3 j2).gone) < (IntKind.i64.wrap ((a0.sections.length : Int) - 1)))) && (!(nth (bs4.getD (nth hi j2) []) (IntKind.i64.wrap (((nth ws3 j2).gone) + 1)))))))) = true → spec_l2pass_C1 I1 m1 j2 hi bs4 v16 ws3)
def spec_l2pass_C3 (I1 : List (List Bool) → Int → List Held → Prop) (m1 : List (List Bool) → Int → List Held → Nat) (a0 : Way) (j2 : Int) (hk : Bool) (ho : List Bool) (hq : List Point) (hw : List Held) (hi : List Nat) (hb bs4 : List (List Bool)) (v16 : Int) (ws3 : List Held) : Prop :=
  ((ws3.length = hi.length ∧ j2.toNat < ws3.length) ∧ ((decide (((nth ws3 j2).gone) < (a0.sections.length : Int))) = false → (idlePreM j2 hk ho hq ws3 hi bs4) ∧ (∀ (w13 : List Held) (i14 : List Nat) (b15 : List (List Bool)), idlePostM j2 hk ho hq ws3 hi bs4 ho hq w13 i14 b15 → (passPostM a0 j2 hk ho hq hw hi hb ho hq w13 i14 b15)))) ∧ ((decide (((nth ws3 j2).gone) < (a0.sections.length : Int))) = true → (ws3.length = hi.length ∧ j2.toNat < ws3.length) ∧ (spec_l2pass_C2 I1 m1 a0 j2 hk ho hq hw hi hb bs4 v16 ws3))
def spec_l2pass_C4 (I0 : List (List Bool) → Int → Prop) (m0 : List (List Bool) → Int → Nat) (a0 : Way) (j2 : Int) (ho : List Bool) (hw : List Held) (hi : List Nat) (bs4 : List (List Bool)) (v16 : Int) : Prop :=
  ((0 ≤ v16 ∧ v16.toNat < a0.sections.length) ∧ ((0 ≤ (nth a0.sections v16) ∧ (nth a0.sections v16).toNat < ho.length) ∧ ((nth ho (nth a0.sections v16)) = true → (hw.length = hi.length ∧ j2.toNat < hw.length) ∧ ((((nth hi j2) < bs4.length) ∧ (0 ≤ v16 ∧ v16.toNat < (nth hw j2).been.length)) ∧ ((nth hi j2) < bs4.length ∧ v16.toNat < (bs4.getD (nth hi j2) []).length))))) ∧ (∀ w42 : List (List Bool), (bif (nth ho (nth a0.sections v16)) then (bs4.set (nth hi j2) ((bs4.getD (nth hi j2) []).set v16.toNat true)) else bs4) = w42 → (I0 w42 (IntKind.i64.wrap (v16 + 1)) ∧ m0 w42 (IntKind.i64.wrap (v16 + 1)) < m0 bs4 v16))
def spec_l2pass_C (a0 : Way) (j2 : Int) (hg : Nat) (hk : Bool) (ho : List Bool) (hq : List Point) (hw : List Held) (hi : List Nat) (hb : List (List Bool)) (I0 : List (List Bool) → Int → Prop) (m0 : List (List Bool) → Int → Nat) (I1 : List (List Bool) → Int → List Held → Prop) (m1 : List (List Bool) → Int → List Held → Nat) : Prop :=
 a0.sections.length ≤ 4611686018427387904 → I0 hb 0 ∧ ∀ (bs4 : List (List Bool)) (v16 : Int), I0 bs4 v16 → (((decide (v16 < (a0.sections.length : Int))) = false → I1 bs4 v16 hw ∧ ∀ (ws3 : List Held), I1 bs4 v16 ws3 → (spec_l2pass_C3 I1 m1 a0 j2 hk ho hq hw hi hb bs4 v16 ws3)) ∧ ((decide (v16 < (a0.sections.length : Int))) = true → spec_l2pass_C4 I0 m0 a0 j2 ho hw hi bs4 v16))
theorem spec_l2pass_walk (a0 : Way) (j2 : Int) (hg : Nat) (hk : Bool) (ho : List Bool) (hq : List Point) (hw : List Held) (hi : List Nat) (hb : List (List Bool)) (I0 : List (List Bool) → Int → Prop) (m0 : List (List Bool) → Int → Nat) (I1 : List (List Bool) → Int → List Held → Prop) (m1 : List (List Bool) → Int → List Held → Nat) (h : spec_l2pass_C a0 j2 hg hk ho hq hw hi hb I0 m0 I1 m1) : FnS Try.prog 140 [.agg (eWay false a0), .ptr 0 hg 0 0, .ptr 3 0 (0 + j2.toNat) 0] (⟨hg, 4, [[ab hk, rf 1 0 ho.length, rf 2 0 hq.length, rf 3 0 hw.length]]⟩ :: ⟨0, 1, List.map eBool ho⟩ :: ⟨0, 2, List.map ePoint hq⟩ :: ⟨0, 5, hRows 4 hw hi⟩ :: List.map fbk hb) (fun r H' => ∃ (hw' : List Held) (hi' : List Nat) (hb' : List (List Bool)), r = .tup [] ∧ H' = (⟨hg, 4, [[ab hk, rf 1 0 ho.length, rf 2 0 hq.length, rf 3 0 hw'.length]]⟩ :: ⟨0, 1, List.map eBool ho⟩ :: ⟨0, 2, List.map ePoint hq⟩ :: ⟨0, 5, hRows 4 hw' hi'⟩ :: List.map fbk hb') ∧ passPostM a0 j2 hk ho hq hw hi hb ho hq hw' hi' hb') := by
 unfold spec_l2pass_C at h
 refine FnS.go (fn := Try.f140) [(0, .agg (eWay false a0)), (1, .ptr 0 hg 0 0), (2, .ptr 3 0 (0 + j2.toNat) 0)] Try.func140 ?_
 show WpS _ (nv spec_l2pass_b 1) _ ⟨mkS 92 [(0, .agg (eWay false a0)), (1, .ptr 0 hg 0 0), (2, .ptr 3 0 (0 + j2.toNat) 0)], [], (⟨hg, 4, [[ab hk, rf 1 0 ho.length, rf 2 0 hq.length, rf 3 0 hw.length]]⟩ :: ⟨0, 1, List.map eBool ho⟩ :: ⟨0, 2, List.map ePoint hq⟩ :: ⟨0, 5, hRows 4 hw hi⟩ :: List.map fbk hb)⟩
 refine cRE [] 0 [(3, ap 3 0)] [1] [0, 1, 2] (fun L => (3, (eWay false a0)) :: L) id ?_
 refine cSeqM [(6, ai (a0.sections.length : Int))] [3] (a0.sections.length ≤ 4611686018427387904) ?_ (fun q2 => ?_)
 ·
  refine rgS [] 1 ?_
  refine sLen 3 (some 12) [(11, al eInt a0.sections), (10, ap 3 0)] eInt a0.sections (fun q3 => ?_)
  exact sEJ [(6, ai (a0.sections.length : Int))] q3
 replace h := h q2
 refine cSeq ?_
 refine cSeqM [(14, al eInt a0.sections), (15, ai (a0.sections.length : Int)), (16, ai 0)] [4] (True) ?_ (fun q4 => ?_)
 ·
  refine rgS [] 2 ?_
  refine sLen 3 (some 15) [(14, al eInt a0.sections), (13, ap 3 0)] eInt a0.sections (fun q5 => ?_)
  exact sEJ [(16, ai 0)] trivial
 refine cBlock 0 ?_
 obtain ⟨q55, h⟩ := h
 refine cLoop (fun (v : List (List Bool) × Int) => (⟨(mkS 92 [(1, .ptr 0 hg 0 0), (2, .ptr 3 0 (0 + j2.toNat) 0), (3, ap 3 0), (6, ai (a0.sections.length : Int)), (14, al eInt a0.sections), (15, ai (a0.sections.length : Int)), (16, ai (v.2))]), [(3, (eWay false a0))], (⟨hg, 4, [[ab hk, rf 1 0 ho.length, rf 2 0 hq.length, rf 3 0 hw.length]]⟩ :: ⟨0, 1, List.map eBool ho⟩ :: ⟨0, 2, List.map ePoint hq⟩ :: ⟨0, 5, hRows 4 hw hi⟩ :: List.map fbk (v.1))⟩ : St)) (fun (v : List (List Bool) × Int) => I0 (v.1) (v.2)) (fun (v : List (List Bool) × Int) => m0 (v.1) (v.2)) (hb, 0) (wkL []) q55 (fun v hI => ?_)
 obtain ⟨bs4, v16⟩ := v
 replace h := h bs4 v16 hI
 dsimp only
 refine cRM [] 3 [(17, ab (decide (v16 < (a0.sections.length : Int))))] [1] [7] ?_
 obtain ⟨q54, h⟩ := h
 refine cSeqM [] [0, 1, 7] ((decide (v16 < (a0.sections.length : Int))) = true) ?_ (fun q7 => ?_)
 ·
  replace h := q54
  refine cCond1 (fun q8 => ?_) (fun q8 => ?_)
  ·
   refine cSkip ?_
   exact QJoin.normal (by simp only [q8] <;> rfl) wkJ
  ·
   replace h := h q8
   refine cExit 0 ?_
   refine QJoin.exit ?_
   refine QRound.exit ?_
   refine QBlock.here ?_
   refine QSeq.normal ?_
   refine cSeq ?_
   refine cBlock 2 ?_
   obtain ⟨q40, h⟩ := h
   refine cLoop (fun (v : List Held) => (⟨(mkS 92 [(1, .ptr 0 hg 0 0), (2, .ptr 3 0 (0 + j2.toNat) 0), (3, ap 3 0), (6, ai (a0.sections.length : Int))]), [(3, (eWay false a0))], (⟨hg, 4, [[ab hk, rf 1 0 ho.length, rf 2 0 hq.length, rf 3 0 v.length]]⟩ :: ⟨0, 1, List.map eBool ho⟩ :: ⟨0, 2, List.map ePoint hq⟩ :: ⟨0, 5, hRows 4 v hi⟩ :: List.map fbk bs4)⟩ : St)) (fun (v : List Held) => I1 bs4 v16 v) (fun (v : List Held) => m1 bs4 v16 v) hw (wkL []) q40 (fun ws3 hI => ?_)
   replace h := h ws3 hI
   unfold spec_l2pass_C3 at h
   obtain ⟨q39, h⟩ := h
   refine cSeqM [] [4] ((decide (((nth ws3 j2).gone) < (a0.sections.length : Int))) = true) ?_ (fun q9 => ?_)
   ·
    replace h := q39
    obtain ⟨q18, h⟩ := h
    refine cSeqM [(40, ab (decide (((nth ws3 j2).gone) < (a0.sections.length : Int))))] [4] (True) ?_ (fun q10 => ?_)
    ·
     replace h := q18
     refine rgS [] 8 ?_
     have q11 := h
     refine sLdR 4 (some 38) [(37, .ptr 3 0 (0 + j2.toNat) 1), (36, .ptr 3 0 (0 + j2.toNat) 0), (35, .ptr 3 0 (0 + j2.toNat) 0)] (hRows 4 ws3 hi) j2 3 1 0 (ai ((nth ws3 j2).gone)) (hRows_get q11.1 q11.2) ?_
     exact sEJ [(40, ab (decide (((nth ws3 j2).gone) < (a0.sections.length : Int)))), (39, ai (a0.sections.length : Int))] trivial
    refine cCond1 (fun q12 => ?_) (fun q12 => ?_)
    ·
     refine cSkip ?_
     exact QJoin.normal (by simp only [q8, q12] <;> rfl) wkJ
    ·
     replace h := h q12
     refine cExit 2 ?_
     refine QJoin.exit ?_
     refine QRound.exit ?_
     refine QBlock.here ?_
     refine QSeq.normal ?_
     refine rgS [] 12 ?_
     obtain ⟨q16, h⟩ := h
     refine sCallM 2 (some 91) [(90, .ptr 3 0 (0 + j2.toNat) 0)] [.ptr 3 0 (0 + j2.toNat) 0] _ (spec_l2idle_M j2 hg hk ho hq ws3 hi bs4 q16) (fun r H' hq => by obtain ⟨_, _, _, rfl, _⟩ := hq; rfl) ?_
     rintro r H' ⟨w13, i14, b15, rfl, rfl, q17⟩
     replace h := h w13 i14 b15 q17
     refine sEnd [] ?_
     refine enS (t0) [] ?_
     exact ⟨w13, i14, b15, rfl, rfl, h⟩
   replace h := h q9
   refine cBlock 3 ?_
   obtain ⟨q38, h⟩ := h
   refine cSeqM [(9, ai ((nth ws3 j2).gone))] [4] (True) ?_ (fun q19 => ?_)
   ·
    replace h := q38
    refine rgS [] 9 ?_
    have q20 := h
    refine sLdR 4 (some 44) [(43, .ptr 3 0 (0 + j2.toNat) 1), (42, .ptr 3 0 (0 + j2.toNat) 0), (41, .ptr 3 0 (0 + j2.toNat) 0)] (hRows 4 ws3 hi) j2 3 1 0 (ai ((nth ws3 j2).gone)) (hRows_get q20.1 q20.2) ?_
    exact sEJ [(9, ai ((nth ws3 j2).gone))] trivial
   unfold spec_l2pass_C2 at h
   obtain ⟨q37, h⟩ := h
   refine cSeqM [] [0, 1, 4] ((!((!(nth (bs4.getD (nth hi j2) []) ((nth ws3 j2).gone))) || ((nth ho (nth a0.sections ((nth ws3 j2).gone))) || ((decide (((nth ws3 j2).gone) < (IntKind.i64.wrap ((a0.sections.length : Int) - 1)))) && (!(nth (bs4.getD (nth hi j2) []) (IntKind.i64.wrap (((nth ws3 j2).gone) + 1)))))))) = true) ?_ (fun q21 => ?_)
   ·
    replace h := q37
    obtain ⟨q34, h⟩ := h
    refine cSeqM [(82, ab ((!(nth (bs4.getD (nth hi j2) []) ((nth ws3 j2).gone))) || ((nth ho (nth a0.sections ((nth ws3 j2).gone))) || ((decide (((nth ws3 j2).gone) < (IntKind.i64.wrap ((a0.sections.length : Int) - 1)))) && (!(nth (bs4.getD (nth hi j2) []) (IntKind.i64.wrap (((nth ws3 j2).gone) + 1))))))))] [0, 1, 4] (True) ?_ (fun q22 => ?_)
    ·
     replace h := q34
     refine rgD [] 10 spec_l2pass_o10 spec_l2pass_o10a [] ?_
     obtain ⟨q32, h⟩ := h
     refine tLdR 4 (some 48) [(47, .ptr 3 0 (0 + j2.toNat) 2), (46, .ptr 3 0 (0 + j2.toNat) 0), (45, .ptr 3 0 (0 + j2.toNat) 0)] (hRows 4 ws3 hi) j2 36 2 0 (rf ((nth hi j2) + 4) 0 ((nth ws3 j2).been.length)) (hRows_get q32.1 q32.2) ?_
     obtain ⟨⟨q23, z50_3860⟩, h⟩ := h
     refine tAdrF 2 (some 50) [(49, ai ((nth ws3 j2).gone))] bs4 (nth hi j2) 4 q23 z50_3860 ?_
     obtain ⟨q31, h⟩ := h
     refine tLdF 1 (some 51) [] bs4 (nth hi j2) ((nth ws3 j2).gone) 4 q31.1 q31.2 ?_
     refine tCase1 2 53 (!(nth (bs4.getD (nth hi j2) []) ((nth ws3 j2).gone))) [(52, ab (!(nth (bs4.getD (nth hi j2) []) ((nth ws3 j2).gone))))] (fun q24 => ?_) (fun q24 => ?_)
     ·
      exact tEJ ([(82, ab true)] ++ tz [81, 80, 79, 78, 77, 76, 75, 74, 73, 72, 71, 70, 69, 68, 67] ++ [(66, ab true), (65, ab true)] ++ tz [64, 63, 62, 61, 60, 59, 58, 57, 56, 55, 54]) trivial (by simp only [q8, q9, q24] <;> kernel_rfl)
     ·
      replace h := h q24
      refine tAnd 4 (some 57) (rf 1 0 ho.length) [(56, .ptr 0 hg 0 1), (55, .ptr 0 hg 0 0), (54, .ptr 0 hg 0 0)] (φ := hg = hg) rfl ?_
      obtain ⟨q30, h⟩ := h
      refine tIdx 4 (some 61) [(60, ai ((nth ws3 j2).gone)), (59, al eInt a0.sections), (58, ap 3 0)] eInt a0.sections 1 q30 ?_
      obtain ⟨z63_3860, h⟩ := h
      refine tAdr 2 (some 63) [(62, ai (nth a0.sections ((nth ws3 j2).gone)))] 1 0 1 z63_3860 ?_
      refine tLdB 1 (some 64) [] eBool ho (nth a0.sections ((nth ws3 j2).gone)) 4 0 0 (ab (nth ho (nth a0.sections ((nth ws3 j2).gone)))) (by simpa using z63_3860.2) ?_
      refine tCase1 2 66 (nth ho (nth a0.sections ((nth ws3 j2).gone))) [(65, ab (nth ho (nth a0.sections ((nth ws3 j2).gone))))] (fun q25 => ?_) (fun q25 => ?_)
      ·
       exact tEJ ([(82, ab true)] ++ tz [81, 80, 79, 78, 77, 76, 75, 74, 73, 72, 71, 70, 69, 68, 67]) trivial (by simp only [q8, q9, q24, q25] <;> kernel_rfl)
      ·
       replace h := h q25
       refine tCase1 5 71 (decide (((nth ws3 j2).gone) < (IntKind.i64.wrap ((a0.sections.length : Int) - 1)))) [(70, ab (decide (((nth ws3 j2).gone) < (IntKind.i64.wrap ((a0.sections.length : Int) - 1))))), (69, ai (IntKind.i64.wrap ((a0.sections.length : Int) - 1))), (68, ai (a0.sections.length : Int)), (67, ai ((nth ws3 j2).gone))] (fun q26 => ?_) (fun q26 => ?_)
       ·
        replace h := h q26
        obtain ⟨q29, h⟩ := h
        refine tLdR 4 (some 75) [(74, .ptr 3 0 (0 + j2.toNat) 2), (73, .ptr 3 0 (0 + j2.toNat) 0), (72, .ptr 3 0 (0 + j2.toNat) 0)] (hRows 4 ws3 hi) j2 36 2 0 (rf ((nth hi j2) + 4) 0 ((nth ws3 j2).been.length)) (hRows_get q29.1 q29.2) ?_
        obtain ⟨⟨q27, z78_3860⟩, h⟩ := h
        refine tAdrF 3 (some 78) [(77, ai (IntKind.i64.wrap (((nth ws3 j2).gone) + 1))), (76, ai ((nth ws3 j2).gone))] bs4 (nth hi j2) 4 q27 z78_3860 ?_
        have q28 := h
        refine tLdF 1 (some 79) [] bs4 (nth hi j2) (IntKind.i64.wrap (((nth ws3 j2).gone) + 1)) 4 q28.1 q28.2 ?_
        exact tEJ [(82, ab (!(nth (bs4.getD (nth hi j2) []) (IntKind.i64.wrap (((nth ws3 j2).gone) + 1))))), (81, ab (!(nth (bs4.getD (nth hi j2) []) (IntKind.i64.wrap (((nth ws3 j2).gone) + 1))))), (80, ab (!(nth (bs4.getD (nth hi j2) []) (IntKind.i64.wrap (((nth ws3 j2).gone) + 1)))))] trivial (by simp only [q8, q9, q24, q25, q26] <;> kernel_rfl)
       ·
        exact tEJ ([(82, ab false), (81, ab false)] ++ tz [80, 79, 78, 77, 76, 75, 74, 73, 72]) trivial (by simp only [q8, q9, q24, q25, q26] <;> kernel_rfl)
    refine cCond1 (fun q33 => ?_) (fun q33 => ?_)
    ·
     replace h := h q33
     refine cRet ?_
     refine QJoin.ret ?_
     refine QBlock.ret ?_
     refine QRound.ret ?_
     refine QBlock.ret ?_
     refine QSeq.ret ?_
     refine rtS (t0) [] ?_
     exact ⟨ws3, hi, bs4, rfl, rfl, h⟩
    ·
     refine cSkip ?_
     exact QJoin.normal (by simp only [q8, q9, q33] <;> rfl) wkJ
   replace h := h q21
   unfold spec_l2pass_C1 at h
   refine rgS [] 11 ?_
   obtain ⟨q36, h⟩ := h
   refine sLdR 4 (some 86) [(85, .ptr 3 0 (0 + j2.toNat) 1), (84, .ptr 3 0 (0 + j2.toNat) 0), (83, .ptr 3 0 (0 + j2.toNat) 0)] (hRows 4 ws3 hi) j2 3 1 0 (ai ((nth ws3 j2).gone)) (hRows_get q36.1 q36.2) ?_
   obtain ⟨q35, h⟩ := h
   refine sStRj 4 none [(89, .ptr 3 0 (0 + j2.toNat) 1), (88, .ptr 3 0 (0 + j2.toNat) 0), (87, ai (IntKind.i64.wrap (((nth ws3 j2).gone) + 1)))] (hRows 4 ws3 hi) j2 1 1 0 [ai (IntKind.i64.wrap (((nth ws3 j2).gone) + 1))] 3 (hRows 4 (ws3.set j2.toNat (Held.mk ((nth ws3 j2).state) (IntKind.i64.wrap (((nth ws3 j2).gone) + 1)) ((nth ws3 j2).been) ((nth ws3 j2).shown) ((nth ws3 j2).timer))) hi) (hRows_get q35.1 q35.2) (hRows_keep q35.1 q35.2) ?_
   refine sEnd [] ?_
   refine QBlock.normal ?_
   exact QRound.again (ws3.set j2.toNat (Held.mk ((nth ws3 j2).state) (IntKind.i64.wrap (((nth ws3 j2).gone) + 1)) ((nth ws3 j2).been) ((nth ws3 j2).shown) ((nth ws3 j2).timer))) h (weak_eq (s' := ⟨(mkS 92 [(1, .ptr 0 hg 0 0), (2, .ptr 3 0 (0 + j2.toNat) 0), (3, ap 3 0), (6, ai (a0.sections.length : Int))]), [(3, (eWay false a0))], (⟨hg, 4, [[ab hk, rf 1 0 ho.length, rf 2 0 hq.length, rf 3 0 ws3.length]]⟩ :: ⟨0, 1, List.map eBool ho⟩ :: ⟨0, 2, List.map ePoint hq⟩ :: ⟨0, 5, hRows 4 (ws3.set j2.toNat (Held.mk ((nth ws3 j2).state) (IntKind.i64.wrap (((nth ws3 j2).gone) + 1)) ((nth ws3 j2).been) ((nth ws3 j2).shown) ((nth ws3 j2).timer))) hi⟩ :: List.map fbk bs4)⟩) (wkL (n := 92) (A' := [(1, .ptr 0 hg 0 0), (2, .ptr 3 0 (0 + j2.toNat) 0), (3, ap 3 0), (6, ai (a0.sections.length : Int))]) (L' := [(3, (eWay false a0))]) []) (congrArg (fun z => (⟨(mkS 92 [(1, .ptr 0 hg 0 0), (2, .ptr 3 0 (0 + j2.toNat) 0), (3, ap 3 0), (6, ai (a0.sections.length : Int))]), [(3, (eWay false a0))], (⟨hg, 4, [[ab hk, rf 1 0 ho.length, rf 2 0 hq.length, rf 3 0 z]]⟩ :: ⟨0, 1, List.map eBool ho⟩ :: ⟨0, 2, List.map ePoint hq⟩ :: ⟨0, 5, hRows 4 (ws3.set j2.toNat (Held.mk ((nth ws3 j2).state) (IntKind.i64.wrap (((nth ws3 j2).gone) + 1)) ((nth ws3 j2).been) ((nth ws3 j2).shown) ((nth ws3 j2).timer))) hi⟩ :: List.map fbk bs4)⟩ : St)) (show ws3.length = (ws3.set j2.toNat (Held.mk ((nth ws3 j2).state) (IntKind.i64.wrap (((nth ws3 j2).gone) + 1)) ((nth ws3 j2).been) ((nth ws3 j2).shown) ((nth ws3 j2).timer))).length by simp)))
 replace h := h q7
 unfold spec_l2pass_C4 at h
 obtain ⟨q53, h⟩ := h
 obtain ⟨w42, q43⟩ : ∃ w : List (List Bool), (bif (nth ho (nth a0.sections v16)) then (bs4.set (nth hi j2) ((bs4.getD (nth hi j2) []).set v16.toNat true)) else bs4) = w := ⟨_, rfl⟩
 refine cSeqE [] [7] id (fun _ => (⟨hg, 4, [[ab hk, rf 1 0 ho.length, rf 2 0 hq.length, rf 3 0 hw.length]]⟩ :: ⟨0, 1, List.map eBool ho⟩ :: ⟨0, 2, List.map ePoint hq⟩ :: ⟨0, 5, hRows 4 hw hi⟩ :: List.map fbk w42)) (True) ?_ (fun q41 => ?_)
 ·
  replace h := q53
  refine cBlock 1 ?_
  obtain ⟨q52, h⟩ := h
  refine cSeqM [(7, ai v16), (8, ai (nth a0.sections v16))] [7] (True) ?_ (fun q44 => ?_)
  ·
   replace h := q52
   refine rgS [] 4 ?_
   have q45 := h
   refine sIdx 2 (some 19) [(18, ai v16)] eInt a0.sections 1 q45 ?_
   exact sEJ [(8, ai (nth a0.sections v16)), (7, ai v16), (20, ai (nth a0.sections v16))] trivial
  obtain ⟨q51, h⟩ := h
  refine cSeqM [(27, ab (nth ho (nth a0.sections v16)))] [1, 1, 7] (True) ?_ (fun q46 => ?_)
  ·
   replace h := q51
   refine rgS [] 5 ?_
   refine sAnd 4 (some 24) (rf 1 0 ho.length) [(23, .ptr 0 hg 0 1), (22, .ptr 0 hg 0 0), (21, .ptr 0 hg 0 0)] (φ := hg = hg) rfl ?_
   have z26_7474 := h
   refine sAdr 2 (some 26) [(25, ai (nth a0.sections v16))] 1 0 1 z26_7474 ?_
   refine sLdB 1 (some 27) [] eBool ho (nth a0.sections v16) 4 0 0 (ab (nth ho (nth a0.sections v16))) (by simpa using z26_7474.2) ?_
   exact sEJ [] trivial
  refine cCond1 (fun q47 => ?_) (fun q47 => ?_)
  ·
   replace h := h q47
   refine rgS [] 6 ?_
   obtain ⟨q50, h⟩ := h
   refine sLdR 4 (some 31) [(30, .ptr 3 0 (0 + j2.toNat) 2), (29, .ptr 3 0 (0 + j2.toNat) 0), (28, .ptr 3 0 (0 + j2.toNat) 0)] (hRows 4 hw hi) j2 36 2 0 (rf ((nth hi j2) + 4) 0 ((nth hw j2).been.length)) (hRows_get q50.1 q50.2) ?_
   obtain ⟨⟨q48, z33_14950⟩, h⟩ := h
   refine sAdrF 2 (some 33) [(32, ai v16)] bs4 (nth hi j2) 4 q48 z33_14950 ?_
   have q49 := h
   refine sStF 1 none [] bs4 (nth hi j2) v16 true (fun r => (⟨hg, 4, [[ab hk, rf 1 0 ho.length, rf 2 0 hq.length, rf 3 0 hw.length]]⟩ :: ⟨0, 1, List.map eBool ho⟩ :: ⟨0, 2, List.map ePoint hq⟩ :: ⟨0, 5, hRows 4 hw hi⟩ :: r)) q49.1 q49.2 ?_
   refine sEnd [] ?_
   refine QBlock.normal ?_
   exact QJoin.normal trivial (by simp only [← q43, q7, q47, cond_true, cond_false]; exact wkJ)
  ·
   refine cSkip ?_
   refine QBlock.normal ?_
   exact QJoin.normal trivial (by simp only [← q43, q7, q47, cond_true, cond_false]; exact wkJ)
 replace h := h w42 q43
 refine rgS [] 7 ?_
 refine sEnd [(16, ai (IntKind.i64.wrap (v16 + 1))), (34, ai (IntKind.i64.wrap (v16 + 1)))] ?_
 exact QRound.again (w42, (IntKind.i64.wrap (v16 + 1))) h (wkL [])
theorem spec_l2pass_M (a0 : Way) (j2 : Int) (hg : Nat) (hk : Bool) (ho : List Bool) (hq : List Point) (hw : List Held) (hi : List Nat) (hb : List (List Bool)) (hp : passPreM a0 j2 hk ho hq hw hi hb) : FnS Try.prog 140 [.agg (eWay false a0), .ptr 0 hg 0 0, .ptr 3 0 (0 + j2.toNat) 0] (⟨hg, 4, [[ab hk, rf 1 0 ho.length, rf 2 0 hq.length, rf 3 0 hw.length]]⟩ :: ⟨0, 1, List.map eBool ho⟩ :: ⟨0, 2, List.map ePoint hq⟩ :: ⟨0, 5, hRows 4 hw hi⟩ :: List.map fbk hb) (fun r H' => ∃ (hw' : List Held) (hi' : List Nat) (hb' : List (List Bool)), r = .tup [] ∧ H' = (⟨hg, 4, [[ab hk, rf 1 0 ho.length, rf 2 0 hq.length, rf 3 0 hw'.length]]⟩ :: ⟨0, 1, List.map eBool ho⟩ :: ⟨0, 2, List.map ePoint hq⟩ :: ⟨0, 5, hRows 4 hw' hi'⟩ :: List.map fbk hb') ∧ passPostM a0 j2 hk ho hq hw hi hb ho hq hw' hi' hb') := spec_l2pass_walk a0 j2 hg hk ho hq hw hi hb (passI0 a0.sections (theF hk ho hq hw hi hb) (view hw hi hb) hi j2 hw) (fun _ k => upM a0.sections.length k) (fun bs _ ws => passI1 a0.sections (theF hk ho hq hw hi hb) (view hw hi hb) hi j2 bs ws) (fun _ _ ws => ((a0.sections.length : Int) - (nth ws j2).gone).toNat) (by
 unfold spec_l2pass_C
 obtain ⟨F, h0, h1, hs, hsin, hbl, hg0, hg1⟩ := hp
 have hlt : j2.toNat < hw.length := by omega
 have F0 := F.at' hlt
 have hbi : ∀ k : Int, 0 ≤ k → k.toNat < a0.sections.length → 0 ≤ nth a0.sections k ∧ (nth a0.sections k).toNat < ho.length := fun k k0 k1 => by
  have := hsin _ (nth_mem k1); omega
 intro hn
 refine ⟨⟨up_start (len0 _), by rw [Int.toNat_zero, upBeen_0]; exact F0⟩, fun bs k hI => ⟨fun hkk => ?_, fun hkk => ?_⟩⟩
 ·obtain ⟨hI, F1⟩ := hI
  have hk' : ¬ k < (a0.sections.length : Int) := by simpa using hkk
  have k0 := hI.1
  rw [upBeen_end hbl (by omega)] at F1
  have hbn : (passB a0.sections (theF hk ho hq hw hi hb) (nth (view hw hi hb) j2)).length = a0.sections.length := by unfold passB; rw [List.length_zipWith]; omega
  refine ⟨⟨(nth (view hw hi hb) j2).gone, goI_start hg0 hg1, F1⟩, fun ws hJ => ?_⟩
  obtain ⟨g, hgI, F2⟩ := hJ
  unfold spec_l2pass_C3
  have e1 : (nth ws j2).gone = g := F2.gone
  have e2 : bs.getD (nth hi j2) [] = passB a0.sections (theF hk ho hq hw hi hb) (nth (view hw hi hb) j2) := F2.been
  have e3 : (nth ws j2).been.length = a0.sections.length := F2.blen.trans hbn
  have hgJ := hgI
  obtain ⟨g0, g1, -⟩ := hgJ
  have hll := F2.ll
  have hid := F2.idlt
  have w1 : IntKind.i64.wrap ((a0.sections.length : Int) - 1) = (a0.sections.length : Int) - 1 := w64 (by omega) (by omega)
  rw [e1]
  refine ⟨⟨hll, fun hc => ⟨⟨F2.G, h0, by omega⟩, fun w i b hpost => ?_⟩⟩, fun hc => ⟨hll, ?_⟩⟩
  ·obtain ⟨G, hv⟩ := hpost
   have F3 := F2.again G hv
   refine ⟨F3.G, ?_⟩
   rw [F3.vw, F2.nthv]
   have hge : goCond a0.sections (theF hk ho hq hw hi hb) (passB a0.sections (theF hk ho hq hw hi hb) (nth (view hw hi hb) j2)) g = false := by unfold goCond; rw [hc]; rfl
   have hE := goI_end hs hgI hge
   have hgn : ¬ g < (a0.sections.length : Int) := by simpa using hc
   congr 1
   rw [passH_eq, if_pos (by omega), hbn]
  ·have hgl : g < (a0.sections.length : Int) := by simpa using hc
   unfold spec_l2pass_C2
   rw [e1, e2, e3]
   have hbr := stop_go (f := theF hk ho hq hw hi hb) (been := passB a0.sections (theF hk ho hq hw hi hb) (nth (view hw hi hb) j2)) hs hc
   refine ⟨⟨⟨hll, ⟨hid, g0, by omega⟩, ⟨hid, by omega⟩, fun _ => ⟨⟨g0, by omega⟩, hbi g g0 (by omega), fun _ hl => ⟨hll, ?_⟩⟩⟩, fun hstop => ?_⟩, fun hgo => ?_⟩
   ·rw [w1] at hl
    have hl : g < (a0.sections.length : Int) - 1 := by simpa using hl
    rw [w64 (by omega) (by omega)]
    exact ⟨⟨hid, by omega, by omega⟩, hid, by omega⟩
   ·have hst : goCond a0.sections (theF hk ho hq hw hi hb) (passB a0.sections (theF hk ho hq hw hi hb) (nth (view hw hi hb) j2)) g = false := by
     have h2 : (!goCond a0.sections (theF hk ho hq hw hi hb) (passB a0.sections (theF hk ho hq hw hi hb) (nth (view hw hi hb) j2)) g) = true := hbr.symm.trans hstop
     simpa using h2
    have hE := goI_end hs hgI hst
    refine ⟨F2.G, ?_⟩
    rw [F2.vw]
    congr 1
    rw [passH_eq, if_neg (by omega), hE]
   ·have hst : goCond a0.sections (theF hk ho hq hw hi hb) (passB a0.sections (theF hk ho hq hw hi hb) (nth (view hw hi hb) j2)) g = true := by
     have h2 : (!goCond a0.sections (theF hk ho hq hw hi hb) (passB a0.sections (theF hk ho hq hw hi hb) (nth (view hw hi hb) j2)) g) = false := hbr.symm.trans (not_eq hgo)
     simpa using h2
    obtain ⟨hst, _⟩ := goI_step hs hgI hst
    unfold spec_l2pass_C1
    rw [e1]
    have w2 : IntKind.i64.wrap (g + 1) = g + 1 := w64 (by omega) (by omega)
    have F5 := F2.setGone (IntKind.i64.wrap (g + 1))
    refine ⟨hll, hll, ⟨_, hst, F5⟩, ?_⟩
    have e5 := F5.gone
    show ((a0.sections.length : Int) - (nth (ws.set j2.toNat _) j2).gone).toNat < ((a0.sections.length : Int) - (nth ws j2).gone).toNat
    rw [e5, e1]
    show ((a0.sections.length : Int) - IntKind.i64.wrap (g + 1)).toNat < _
    rw [w2]; omega
 ·obtain ⟨hI, F1⟩ := hI
  have hkl : k < (a0.sections.length : Int) := by simpa using hkk
  have k0 := hI.1
  have hub : (upBeen a0.sections (theF hk ho hq hw hi hb) (nth (view hw hi hb) j2).been k.toNat).length = a0.sections.length := by rw [upBeen_len hbl (by omega), hbl]
  have e2 : bs.getD (nth hi j2) [] = upBeen a0.sections (theF hk ho hq hw hi hb) (nth (view hw hi hb) j2).been k.toNat := F1.been
  have e3 : (nth hw j2).been.length = a0.sections.length := F1.blen.trans hub
  have hid := F1.idlt
  unfold spec_l2pass_C4
  rw [e2]
  refine ⟨⟨⟨k0, by omega⟩, hbi k k0 (by omega), fun _ => ⟨F1.ll, ⟨hid, k0, by omega⟩, hid, by omega⟩⟩, fun w hw' => ?_⟩
  have hst := up_step (lenI hn) hI hkk rfl
  refine ⟨⟨hst.1, ?_⟩, hst.2⟩
  rw [wrap_up (lenI hn) k0 hkl, show (k + 1).toNat = k.toNat + 1 by omega, ← upBeen_step hbl (by omega), ← hw']
  have hat := upBeen_at (s := a0.sections) (f := theF hk ho hq hw hi hb) (b := (nth (view hw hi hb) j2).been) hbl (show k.toNat < _ by omega)
  rw [nth_toNat k0] at hat
  have hocc : nth ho (nth a0.sections k) = occAt (theF hk ho hq hw hi hb) (a0.sections[k.toNat]'(by omega)) := by
   unfold occAt
   rw [← nth_eq (by omega)]; rfl
  rw [hocc]
  cases hb2 : occAt (theF hk ho hq hw hi hb) (a0.sections[k.toNat]'(by omega)) with
  | true =>
   rw [Bool.or_true]
   exact F1.setB _ (by rw [List.length_set])
  | false =>
   rw [Bool.or_false]
   have : (upBeen a0.sections (theF hk ho hq hw hi hb) (nth (view hw hi hb) j2).been k.toNat).set k.toNat ((nth (view hw hi hb) j2).been[k.toNat]'(by omega)) = upBeen a0.sections (theF hk ho hq hw hi hb) (nth (view hw hi hb) j2).been k.toNat := by
    rw [← hat, nth_eq (xs := upBeen _ _ _ _) (by rw [hub]; omega)]; exact List.set_getElem_self _
   rw [this]; exact F1)
noncomputable def spec_l2settle_b : Code := bodyC Try.f98
def spec_l2settle_o7 : List Item := [iq 0, iq 1, iq 2, iq 3, iq 4, iq 5, iq 6, iq 7, iq 8, iq 9, iq 10, iq 11, iq 12, iq 13, iq 14, iq 15, iq 16]
def spec_l2settle_o7a : List (List Nat) := [[], [0], [0, 1], [0, 1, 2], rg 0 4, rg 0 5, rg 0 6, rg 0 7, rg 0 8, rg 0 9, rg 0 6, rg 0 6 ++ [10], rg 0 6 ++ [10, 11], rg 0 6 ++ [10, 11, 12], rg 0 14, rg 0 15, rg 0 16]
def spec_l2settle_o12 : List Item := [iq 0, iq 1, iq 2, iq 3, iq 4, iq 5]
def spec_l2settle_o12a : List (List Nat) := [[], [], [1], [1, 2], [], rg 0 5]
def spec_l2settle_C1 (a0 : Plan) (ho : List Bool) (is3 : List Nat) (v12 : Int) (ws3 : List Held) : Prop :=
  ((((nth ws3 v12).state) != 4) && (nth ho (nth ((nth a0.ways v12).sections) 0))) = true → (ws3.length = is3.length ∧ v12.toNat < ws3.length) ∧ ((ws3.set v12.toNat (Held.mk 4 ((nth ws3 v12).gone) ((nth ws3 v12).been) ((nth ws3 v12).shown) ((nth ws3 v12).timer))).length = is3.length ∧ v12.toNat < (ws3.set v12.toNat (Held.mk 4 ((nth ws3 v12).gone) ((nth ws3 v12).been) ((nth ws3 v12).shown) ((nth ws3 v12).timer))).length)
def spec_l2settle_C2 (is3 : List Nat) (v12 : Int) (w16 : List Held) : Prop :=
  ((w16.set v12.toNat (Held.mk 1 ((nth w16 v12).gone) ((nth w16 v12).been) ((nth w16 v12).shown) ((nth w16 v12).timer))).set v12.toNat (Held.mk 2 ((nth (w16.set v12.toNat (Held.mk 1 ((nth w16 v12).gone) ((nth w16 v12).been) ((nth w16 v12).shown) ((nth w16 v12).timer))) v12).gone) ((nth (w16.set v12.toNat (Held.mk 1 ((nth w16 v12).gone) ((nth w16 v12).been) ((nth w16 v12).shown) ((nth w16 v12).timer))) v12).been) ((nth (w16.set v12.toNat (Held.mk 1 ((nth w16 v12).gone) ((nth w16 v12).been) ((nth w16 v12).shown) ((nth w16 v12).timer))) v12).shown) ((nth (w16.set v12.toNat (Held.mk 1 ((nth w16 v12).gone) ((nth w16 v12).been) ((nth w16 v12).shown) ((nth w16 v12).timer))) v12).timer))).length = is3.length ∧ v12.toNat < ((w16.set v12.toNat (Held.mk 1 ((nth w16 v12).gone) ((nth w16 v12).been) ((nth w16 v12).shown) ((nth w16 v12).timer))).set v12.toNat (Held.mk 2 ((nth (w16.set v12.toNat (Held.mk 1 ((nth w16 v12).gone) ((nth w16 v12).been) ((nth w16 v12).shown) ((nth w16 v12).timer))) v12).gone) ((nth (w16.set v12.toNat (Held.mk 1 ((nth w16 v12).gone) ((nth w16 v12).been) ((nth w16 v12).shown) ((nth w16 v12).timer))) v12).been) ((nth (w16.set v12.toNat (Held.mk 1 ((nth w16 v12).gone) ((nth w16 v12).been) ((nth w16 v12).shown) ((nth w16 v12).timer))) v12).shown) ((nth (w16.set v12.toNat (Held.mk 1 ((nth w16 v12).gone) ((nth w16 v12).been) ((nth w16 v12).shown) ((nth w16 v12).timer))) v12).timer))).length
def spec_l2settle_C3 (a0 : Plan) (hk : Bool) (ho : List Bool) (hq : List Point) (bs4 : List (List Bool)) (is3 : List Nat) (v12 : Int) (w16 : List Held) : Prop :=
  (provedF a0 (Frame.mk hk ho hq (view (w16.set v12.toNat (Held.mk 1 ((nth w16 v12).gone) ((nth w16 v12).been) ((nth w16 v12).shown) ((nth w16 v12).timer))) is3 bs4)) v12) = true → ((w16.set v12.toNat (Held.mk 1 ((nth w16 v12).gone) ((nth w16 v12).been) ((nth w16 v12).shown) ((nth w16 v12).timer))).length = is3.length ∧ v12.toNat < (w16.set v12.toNat (Held.mk 1 ((nth w16 v12).gone) ((nth w16 v12).been) ((nth w16 v12).shown) ((nth w16 v12).timer))).length) ∧ (spec_l2settle_C2 is3 v12 w16)
def spec_l2settle_C4 (a0 : Plan) (hk : Bool) (ho : List Bool) (hq : List Point) (bs4 : List (List Bool)) (is3 : List Nat) (v12 : Int) (w16 : List Held) : Prop :=
  (ho.length ≤ 4611686018427387904 ∧ hq.length ≤ 4611686018427387904 ∧ (FamOk (w16.set v12.toNat (Held.mk 1 ((nth w16 v12).gone) ((nth w16 v12).been) ((nth w16 v12).shown) ((nth w16 v12).timer))) is3 bs4 ∧ (w16.set v12.toNat (Held.mk 1 ((nth w16 v12).gone) ((nth w16 v12).been) ((nth w16 v12).shown) ((nth w16 v12).timer))).length ≤ 4611686018427387904 ∧ (∀ x ∈ bs4, List.length x ≤ 4611686018427387904)) ∧ provedPre a0 (Frame.mk hk ho hq (view (w16.set v12.toNat (Held.mk 1 ((nth w16 v12).gone) ((nth w16 v12).been) ((nth w16 v12).shown) ((nth w16 v12).timer))) is3 bs4)) v12) ∧ (spec_l2settle_C3 a0 hk ho hq bs4 is3 v12 w16)
def spec_l2settle_C5 (I0 : List (List Bool) → List Nat → Int → List Held → Prop) (m0 : List (List Bool) → List Nat → Int → List Held → Nat) (a0 : Plan) (hk : Bool) (ho : List Bool) (hq : List Point) (bs4 : List (List Bool)) (is3 : List Nat) (v12 : Int) (ws3 w29 : List Held) : Prop :=
  ((((nth w29 v12).state) == 4) = true → (passPreM (nth a0.ways v12) v12 hk ho hq w29 is3 bs4) ∧ (∀ (w54 : List Held) (i55 : List Nat) (b56 : List (List Bool)), passPostM (nth a0.ways v12) v12 hk ho hq w29 is3 bs4 ho hq w54 i55 b56 → (I0 b56 i55 (IntKind.i64.wrap (v12 + 1)) w54 ∧ m0 b56 i55 (IntKind.i64.wrap (v12 + 1)) w54 < m0 bs4 is3 v12 ws3))) ∧ ((((nth w29 v12).state) == 4) = false → I0 bs4 is3 (IntKind.i64.wrap (v12 + 1)) w29 ∧ m0 bs4 is3 (IntKind.i64.wrap (v12 + 1)) w29 < m0 bs4 is3 v12 ws3)
def spec_l2settle_C6 (I0 : List (List Bool) → List Nat → Int → List Held → Prop) (m0 : List (List Bool) → List Nat → Int → List Held → Nat) (a0 : Plan) (hk : Bool) (ho : List Bool) (hq : List Point) (bs4 : List (List Bool)) (is3 : List Nat) (v12 : Int) (ws3 w16 : List Held) : Prop :=
  (((w16.length = is3.length ∧ v12.toNat < w16.length) ∧ ((((nth w16 v12).state) == 1) = false → w16.length = is3.length ∧ v12.toNat < w16.length)) ∧ (((((nth w16 v12).state) == 1) || (((nth w16 v12).state) == 2)) = true → (w16.length = is3.length ∧ v12.toNat < w16.length) ∧ (spec_l2settle_C4 a0 hk ho hq bs4 is3 v12 w16))) ∧ (∀ w29 : List Held, (bif ((((nth w16 v12).state) == 1) || (((nth w16 v12).state) == 2)) then (bif (provedF a0 (Frame.mk hk ho hq (view (w16.set v12.toNat (Held.mk 1 ((nth w16 v12).gone) ((nth w16 v12).been) ((nth w16 v12).shown) ((nth w16 v12).timer))) is3 bs4)) v12) then (((w16.set v12.toNat (Held.mk 1 ((nth w16 v12).gone) ((nth w16 v12).been) ((nth w16 v12).shown) ((nth w16 v12).timer))).set v12.toNat (Held.mk 2 ((nth (w16.set v12.toNat (Held.mk 1 ((nth w16 v12).gone) ((nth w16 v12).been) ((nth w16 v12).shown) ((nth w16 v12).timer))) v12).gone) ((nth (w16.set v12.toNat (Held.mk 1 ((nth w16 v12).gone) ((nth w16 v12).been) ((nth w16 v12).shown) ((nth w16 v12).timer))) v12).been) ((nth (w16.set v12.toNat (Held.mk 1 ((nth w16 v12).gone) ((nth w16 v12).been) ((nth w16 v12).shown) ((nth w16 v12).timer))) v12).shown) ((nth (w16.set v12.toNat (Held.mk 1 ((nth w16 v12).gone) ((nth w16 v12).been) ((nth w16 v12).shown) ((nth w16 v12).timer))) v12).timer))).set v12.toNat (Held.mk ((nth ((w16.set v12.toNat (Held.mk 1 ((nth w16 v12).gone) ((nth w16 v12).been) ((nth w16 v12).shown) ((nth w16 v12).timer))).set v12.toNat (Held.mk 2 ((nth (w16.set v12.toNat (Held.mk 1 ((nth w16 v12).gone) ((nth w16 v12).been) ((nth w16 v12).shown) ((nth w16 v12).timer))) v12).gone) ((nth (w16.set v12.toNat (Held.mk 1 ((nth w16 v12).gone) ((nth w16 v12).been) ((nth w16 v12).shown) ((nth w16 v12).timer))) v12).been) ((nth (w16.set v12.toNat (Held.mk 1 ((nth w16 v12).gone) ((nth w16 v12).been) ((nth w16 v12).shown) ((nth w16 v12).timer))) v12).shown) ((nth (w16.set v12.toNat (Held.mk 1 ((nth w16 v12).gone) ((nth w16 v12).been) ((nth w16 v12).shown) ((nth w16 v12).timer))) v12).timer))) v12).state) ((nth ((w16.set v12.toNat (Held.mk 1 ((nth w16 v12).gone) ((nth w16 v12).been) ((nth w16 v12).shown) ((nth w16 v12).timer))).set v12.toNat (Held.mk 2 ((nth (w16.set v12.toNat (Held.mk 1 ((nth w16 v12).gone) ((nth w16 v12).been) ((nth w16 v12).shown) ((nth w16 v12).timer))) v12).gone) ((nth (w16.set v12.toNat (Held.mk 1 ((nth w16 v12).gone) ((nth w16 v12).been) ((nth w16 v12).shown) ((nth w16 v12).timer))) v12).been) ((nth (w16.set v12.toNat (Held.mk 1 ((nth w16 v12).gone) ((nth w16 v12).been) ((nth w16 v12).shown) ((nth w16 v12).timer))) v12).shown) ((nth (w16.set v12.toNat (Held.mk 1 ((nth w16 v12).gone) ((nth w16 v12).been) ((nth w16 v12).shown) ((nth w16 v12).timer))) v12).timer))) v12).gone) ((nth ((w16.set v12.toNat (Held.mk 1 ((nth w16 v12).gone) ((nth w16 v12).been) ((nth w16 v12).shown) ((nth w16 v12).timer))).set v12.toNat (Held.mk 2 ((nth (w16.set v12.toNat (Held.mk 1 ((nth w16 v12).gone) ((nth w16 v12).been) ((nth w16 v12).shown) ((nth w16 v12).timer))) v12).gone) ((nth (w16.set v12.toNat (Held.mk 1 ((nth w16 v12).gone) ((nth w16 v12).been) ((nth w16 v12).shown) ((nth w16 v12).timer))) v12).been) ((nth (w16.set v12.toNat (Held.mk 1 ((nth w16 v12).gone) ((nth w16 v12).been) ((nth w16 v12).shown) ((nth w16 v12).timer))) v12).shown) ((nth (w16.set v12.toNat (Held.mk 1 ((nth w16 v12).gone) ((nth w16 v12).been) ((nth w16 v12).shown) ((nth w16 v12).timer))) v12).timer))) v12).been) true ((nth ((w16.set v12.toNat (Held.mk 1 ((nth w16 v12).gone) ((nth w16 v12).been) ((nth w16 v12).shown) ((nth w16 v12).timer))).set v12.toNat (Held.mk 2 ((nth (w16.set v12.toNat (Held.mk 1 ((nth w16 v12).gone) ((nth w16 v12).been) ((nth w16 v12).shown) ((nth w16 v12).timer))) v12).gone) ((nth (w16.set v12.toNat (Held.mk 1 ((nth w16 v12).gone) ((nth w16 v12).been) ((nth w16 v12).shown) ((nth w16 v12).timer))) v12).been) ((nth (w16.set v12.toNat (Held.mk 1 ((nth w16 v12).gone) ((nth w16 v12).been) ((nth w16 v12).shown) ((nth w16 v12).timer))) v12).shown) ((nth (w16.set v12.toNat (Held.mk 1 ((nth w16 v12).gone) ((nth w16 v12).been) ((nth w16 v12).shown) ((nth w16 v12).timer))) v12).timer))) v12).timer))) else (w16.set v12.toNat (Held.mk 1 ((nth w16 v12).gone) ((nth w16 v12).been) ((nth w16 v12).shown) ((nth w16 v12).timer)))) else w16) = w29 → ((w29.length = is3.length ∧ v12.toNat < w29.length) ∧ (spec_l2settle_C5 I0 m0 a0 hk ho hq bs4 is3 v12 ws3 w29)))
def spec_l2settle_C7 (I0 : List (List Bool) → List Nat → Int → List Held → Prop) (m0 : List (List Bool) → List Nat → Int → List Held → Nat) (a0 : Plan) (hk : Bool) (ho : List Bool) (hq : List Point) (bs4 : List (List Bool)) (is3 : List Nat) (v12 : Int) (ws3 : List Held) : Prop :=
  (((ws3.length = is3.length ∧ v12.toNat < ws3.length) ∧ ((((nth ws3 v12).state) != 4) = true → ((0 : Int) ≤ 0 ∧ (0 : Int).toNat < ((nth a0.ways v12).sections).length) ∧ (0 ≤ (nth ((nth a0.ways v12).sections) 0) ∧ (nth ((nth a0.ways v12).sections) 0).toNat < ho.length))) ∧ (spec_l2settle_C1 a0 ho is3 v12 ws3)) ∧ (∀ w16 : List Held, (bif ((((nth ws3 v12).state) != 4) && (nth ho (nth ((nth a0.ways v12).sections) 0))) then ((ws3.set v12.toNat (Held.mk 4 ((nth ws3 v12).gone) ((nth ws3 v12).been) ((nth ws3 v12).shown) ((nth ws3 v12).timer))).set v12.toNat (Held.mk ((nth (ws3.set v12.toNat (Held.mk 4 ((nth ws3 v12).gone) ((nth ws3 v12).been) ((nth ws3 v12).shown) ((nth ws3 v12).timer))) v12).state) ((nth (ws3.set v12.toNat (Held.mk 4 ((nth ws3 v12).gone) ((nth ws3 v12).been) ((nth ws3 v12).shown) ((nth ws3 v12).timer))) v12).gone) ((nth (ws3.set v12.toNat (Held.mk 4 ((nth ws3 v12).gone) ((nth ws3 v12).been) ((nth ws3 v12).shown) ((nth ws3 v12).timer))) v12).been) ((nth (ws3.set v12.toNat (Held.mk 4 ((nth ws3 v12).gone) ((nth ws3 v12).been) ((nth ws3 v12).shown) ((nth ws3 v12).timer))) v12).shown) 0)) else ws3) = w16 → (spec_l2settle_C6 I0 m0 a0 hk ho hq bs4 is3 v12 ws3 w16))
def spec_l2settle_C8 (I0 : List (List Bool) → List Nat → Int → List Held → Prop) (m0 : List (List Bool) → List Nat → Int → List Held → Nat) (a0 : Plan) (hk : Bool) (ho : List Bool) (hq : List Point) (hw : List Held) (hi : List Nat) (hb bs4 : List (List Bool)) (is3 : List Nat) (v12 : Int) (ws3 : List Held) : Prop :=
  ((decide (v12 < (hw.length : Int))) = false → setPostM a0 hk ho hq hw hi hb ho hq ws3 is3 bs4) ∧ ((decide (v12 < (hw.length : Int))) = true → (0 ≤ v12 ∧ v12.toNat < ws3.length) ∧ ((0 ≤ v12 ∧ v12.toNat < a0.ways.length) ∧ (((ws3.length = is3.length ∧ v12.toNat < ws3.length) ∧ ((((nth ws3 v12).state) == 0) = true → I0 bs4 is3 (IntKind.i64.wrap (v12 + 1)) ws3 ∧ m0 bs4 is3 (IntKind.i64.wrap (v12 + 1)) ws3 < m0 bs4 is3 v12 ws3)) ∧ ((!(((nth ws3 v12).state) == 0)) = true → spec_l2settle_C7 I0 m0 a0 hk ho hq bs4 is3 v12 ws3))))
def spec_l2settle_C (a0 : Plan) (hg : Nat) (hk : Bool) (ho : List Bool) (hq : List Point) (hw : List Held) (hi : List Nat) (hb : List (List Bool)) (I0 : List (List Bool) → List Nat → Int → List Held → Prop) (m0 : List (List Bool) → List Nat → Int → List Held → Nat) : Prop :=
 I0 hb hi 0 hw ∧ ∀ (bs4 : List (List Bool)) (is3 : List Nat) (v12 : Int) (ws3 : List Held), I0 bs4 is3 v12 ws3 → (spec_l2settle_C8 I0 m0 a0 hk ho hq hw hi hb bs4 is3 v12 ws3)
theorem spec_l2settle_walk (a0 : Plan) (hg : Nat) (hk : Bool) (ho : List Bool) (hq : List Point) (hw : List Held) (hi : List Nat) (hb : List (List Bool)) (I0 : List (List Bool) → List Nat → Int → List Held → Prop) (m0 : List (List Bool) → List Nat → Int → List Held → Nat) (h : spec_l2settle_C a0 hg hk ho hq hw hi hb I0 m0) : FnS Try.prog 98 [.agg (ePlan false a0), .ptr 0 hg 0 0] (⟨hg, 4, [[ab hk, rf 1 0 ho.length, rf 2 0 hq.length, rf 3 0 hw.length]]⟩ :: ⟨0, 1, List.map eBool ho⟩ :: ⟨0, 2, List.map ePoint hq⟩ :: ⟨0, 5, hRows 4 hw hi⟩ :: List.map fbk hb) (fun r H' => ∃ (hw' : List Held) (hi' : List Nat) (hb' : List (List Bool)), r = .tup [] ∧ H' = (⟨hg, 4, [[ab hk, rf 1 0 ho.length, rf 2 0 hq.length, rf 3 0 hw'.length]]⟩ :: ⟨0, 1, List.map eBool ho⟩ :: ⟨0, 2, List.map ePoint hq⟩ :: ⟨0, 5, hRows 4 hw' hi'⟩ :: List.map fbk hb') ∧ setPostM a0 hk ho hq hw hi hb ho hq hw' hi' hb') := by
 unfold spec_l2settle_C at h
 refine FnS.go (fn := Try.f98) [(0, .agg (ePlan false a0)), (1, .ptr 0 hg 0 0)] Try.func98 ?_
 show WpS _ (nv spec_l2settle_b 1) _ ⟨mkS 91 [(0, .agg (ePlan false a0)), (1, .ptr 0 hg 0 0)], [], (⟨hg, 4, [[ab hk, rf 1 0 ho.length, rf 2 0 hq.length, rf 3 0 hw.length]]⟩ :: ⟨0, 1, List.map eBool ho⟩ :: ⟨0, 2, List.map ePoint hq⟩ :: ⟨0, 5, hRows 4 hw hi⟩ :: List.map fbk hb)⟩
 refine cRE [] 0 [(2, ap 2 0)] [1] [0, 1, 1] (fun L => (2, (ePlan false a0)) :: L) id ?_
 refine cSeqM [(11, ai (hw.length : Int)), (12, ai 0)] [2] (True) ?_ (fun q2 => ?_)
 ·
  refine rgS [] 1 ?_
  refine sAnd 4 (some 10) (rf 3 0 hw.length) [(9, .ptr 0 hg 0 3), (8, .ptr 0 hg 0 0), (7, .ptr 0 hg 0 0)] (φ := hg = hg) rfl ?_
  exact sEJ [(12, ai 0), (11, ai (hw.length : Int))] trivial
 refine cBlock 0 ?_
 obtain ⟨q66, h⟩ := h
 refine cLoop (fun (v : List (List Bool) × List Nat × Int × List Held) => (⟨(mkS 91 [(1, .ptr 0 hg 0 0), (2, ap 2 0), (11, ai (hw.length : Int)), (12, ai (v.2.2.1))]), [(2, (ePlan false a0))], (⟨hg, 4, [[ab hk, rf 1 0 ho.length, rf 2 0 hq.length, rf 3 0 ((v.2.2.2).length)]]⟩ :: ⟨0, 1, List.map eBool ho⟩ :: ⟨0, 2, List.map ePoint hq⟩ :: ⟨0, 5, hRows 4 (v.2.2.2) (v.2.1)⟩ :: List.map fbk (v.1))⟩ : St)) (fun (v : List (List Bool) × List Nat × Int × List Held) => I0 (v.1) (v.2.1) (v.2.2.1) (v.2.2.2)) (fun (v : List (List Bool) × List Nat × Int × List Held) => m0 (v.1) (v.2.1) (v.2.2.1) (v.2.2.2)) (hb, hi, 0, hw) (wkL []) q66 (fun v hI => ?_)
 obtain ⟨bs4, is3, v12, ws3⟩ := v
 replace h := h bs4 is3 v12 ws3 hI
 dsimp only
 refine cRM [] 2 [(13, ab (decide (v12 < (hw.length : Int))))] [1] [4] ?_
 unfold spec_l2settle_C8 at h
 obtain ⟨q65, h⟩ := h
 refine cSeqM [] [0, 1, 4] ((decide (v12 < (hw.length : Int))) = true) ?_ (fun q4 => ?_)
 ·
  replace h := q65
  refine cCond1 (fun q5 => ?_) (fun q5 => ?_)
  ·
   refine cSkip ?_
   exact QJoin.normal (by simp only [q5] <;> rfl) wkJ
  ·
   replace h := h q5
   refine cExit 0 ?_
   refine QJoin.exit ?_
   refine QRound.exit ?_
   refine QBlock.here ?_
   refine enS (t0) [] ?_
   exact ⟨ws3, is3, bs4, rfl, rfl, h⟩
 replace h := h q4
 refine cSeq ?_
 refine cBlock 1 ?_
 refine cRM [] 3 [(4, ai v12), (14, ai v12)] [1] [4] ?_
 obtain ⟨q64, h⟩ := h
 refine cSeqM [(5, .ptr 3 0 (0 + v12.toNat) 0)] [5] (True) ?_ (fun q7 => ?_)
 ·
  replace h := q64
  refine rgS [] 4 ?_
  refine sAnd 4 (some 18) (rf 3 0 ws3.length) [(17, .ptr 0 hg 0 3), (16, .ptr 0 hg 0 0), (15, .ptr 0 hg 0 0)] (φ := hg = hg) rfl ?_
  have z20_1842 := h
  refine sAdr 2 (some 20) [(19, ai v12)] 3 0 5 z20_1842 ?_
  exact sEJ [(5, .ptr 3 0 (0 + v12.toNat) 0)] trivial
 obtain ⟨q63, h⟩ := h
 refine cSeqE [(6, ap 6 0)] [6] (fun L => (6, (eWay false (nth a0.ways v12))) :: L) id (True) ?_ (fun q8 => ?_)
 ·
  replace h := q63
  refine rgS [] 5 ?_
  have q9 := h
  refine sIdx 4 (some 24) [(23, ai v12), (22, al (eWay false) a0.ways), (21, ap 2 2)] (eWay false) a0.ways 5 q9 ?_
  exact sEJ [(6, ap 6 0), (25, .agg (eWay false (nth a0.ways v12)))] trivial
 obtain ⟨q62, h⟩ := h
 refine cSeqM [] [7] ((!(((nth ws3 v12).state) == 0)) = true) ?_ (fun q10 => ?_)
 ·
  replace h := q62
  obtain ⟨q14, h⟩ := h
  refine cSeqM [(30, ab (((nth ws3 v12).state) == 0))] [7] (True) ?_ (fun q11 => ?_)
  ·
   replace h := q14
   refine rgS [] 6 ?_
   have q12 := h
   refine sLdR 4 (some 29) [(28, .ptr 3 0 (0 + v12.toNat) 0), (27, .ptr 3 0 (0 + v12.toNat) 0), (26, .ptr 3 0 (0 + v12.toNat) 0)] (hRows 4 ws3 is3) v12 3 0 0 (ai ((nth ws3 v12).state)) (hRows_get q12.1 q12.2) ?_
   exact sEJ [(30, ab (((nth ws3 v12).state) == 0))] trivial
  refine cCond1 (fun q13 => ?_) (fun q13 => ?_)
  ·
   replace h := h q13
   refine cExit 1 ?_
   refine QJoin.exit ?_
   refine QBlock.here ?_
   refine QSeq.normal ?_
   refine rgS [] 17 ?_
   refine sEnd [(12, ai (IntKind.i64.wrap (v12 + 1))), (90, ai (IntKind.i64.wrap (v12 + 1)))] ?_
   exact QRound.again (bs4, is3, (IntKind.i64.wrap (v12 + 1)), ws3) h (wkL [6])
  ·
   refine cSkip ?_
   exact QJoin.normal (by simp only [q4, q13] <;> rfl) wkJ
 replace h := h q10
 unfold spec_l2settle_C7 at h
 obtain ⟨q61, h⟩ := h
 obtain ⟨w16, q17⟩ : ∃ w : List Held, (bif ((((nth ws3 v12).state) != 4) && (nth ho (nth ((nth a0.ways v12).sections) 0))) then ((ws3.set v12.toNat (Held.mk 4 ((nth ws3 v12).gone) ((nth ws3 v12).been) ((nth ws3 v12).shown) ((nth ws3 v12).timer))).set v12.toNat (Held.mk ((nth (ws3.set v12.toNat (Held.mk 4 ((nth ws3 v12).gone) ((nth ws3 v12).been) ((nth ws3 v12).shown) ((nth ws3 v12).timer))) v12).state) ((nth (ws3.set v12.toNat (Held.mk 4 ((nth ws3 v12).gone) ((nth ws3 v12).been) ((nth ws3 v12).shown) ((nth ws3 v12).timer))) v12).gone) ((nth (ws3.set v12.toNat (Held.mk 4 ((nth ws3 v12).gone) ((nth ws3 v12).been) ((nth ws3 v12).shown) ((nth ws3 v12).timer))) v12).been) ((nth (ws3.set v12.toNat (Held.mk 4 ((nth ws3 v12).gone) ((nth ws3 v12).been) ((nth ws3 v12).shown) ((nth ws3 v12).timer))) v12).shown) 0)) else ws3) = w := ⟨_, rfl⟩
 refine cSeqE [] [7] id (fun H => bk 3 ⟨0, 5, hRows 4 w16 is3⟩ H) (True) ?_ (fun q15 => ?_)
 ·
  replace h := q61
  obtain ⟨q27, h⟩ := h
  refine cSeqM [(47, ab ((((nth ws3 v12).state) != 4) && (nth ho (nth ((nth a0.ways v12).sections) 0))))] [7] (True) ?_ (fun q18 => ?_)
  ·
   replace h := q27
   refine rgD [] 7 spec_l2settle_o7 spec_l2settle_o7a [] ?_
   obtain ⟨q21, h⟩ := h
   refine tLdR 4 (some 34) [(33, .ptr 3 0 (0 + v12.toNat) 0), (32, .ptr 3 0 (0 + v12.toNat) 0), (31, .ptr 3 0 (0 + v12.toNat) 0)] (hRows 4 ws3 is3) v12 3 0 0 (ai ((nth ws3 v12).state)) (hRows_get q21.1 q21.2) ?_
   refine tCase1 2 36 (((nth ws3 v12).state) != 4) [(35, ab (((nth ws3 v12).state) != 4))] (fun q19 => ?_) (fun q19 => ?_)
   ·
    replace h := h q19
    refine tAnd 4 (some 40) (rf 1 0 ho.length) [(39, .ptr 0 hg 0 1), (38, .ptr 0 hg 0 0), (37, .ptr 0 hg 0 0)] (φ := hg = hg) rfl ?_
    obtain ⟨q20, h⟩ := h
    refine tIdx 3 (some 43) [(42, al eInt ((nth a0.ways v12).sections)), (41, ap 6 0)] eInt ((nth a0.ways v12).sections) 1 q20 ?_
    have z45_29500 := h
    refine tAdr 2 (some 45) [(44, ai (nth ((nth a0.ways v12).sections) 0))] 1 0 1 z45_29500 ?_
    refine tLdB 1 (some 46) [] eBool ho (nth ((nth a0.ways v12).sections) 0) 4 0 0 (ab (nth ho (nth ((nth a0.ways v12).sections) 0))) (by simpa using z45_29500.2) ?_
    exact tEJ [(47, ab (nth ho (nth ((nth a0.ways v12).sections) 0)))] trivial (by simp only [q4, q10, q19] <;> kernel_rfl)
   ·
    exact tEJ ([(47, ab false)] ++ tz [46, 45, 44, 43, 42, 41, 40, 39, 38, 37]) trivial (by simp only [q4, q10, q19] <;> kernel_rfl)
  unfold spec_l2settle_C1 at h
  refine cCond1 (fun q22 => ?_) (fun q22 => ?_)
  ·
   replace h := h q22
   obtain ⟨q26, h⟩ := h
   refine cSeqE [] [0, 1, 7] id (fun H => bk 3 ⟨0, 5, hRows 4 (ws3.set v12.toNat (Held.mk 4 ((nth ws3 v12).gone) ((nth ws3 v12).been) ((nth ws3 v12).shown) ((nth ws3 v12).timer))) is3⟩ H) (True) ?_ (fun q23 => ?_)
   ·
    replace h := q26
    refine rgS [] 8 ?_
    have q24 := h
    refine sStRj 4 none [(50, .ptr 3 0 (0 + v12.toNat) 0), (49, .ptr 3 0 (0 + v12.toNat) 0), (48, .ptr 3 0 (0 + v12.toNat) 0)] (hRows 4 ws3 is3) v12 0 1 0 [ai 4] 3 (hRows 4 (ws3.set v12.toNat (Held.mk 4 ((nth ws3 v12).gone) ((nth ws3 v12).been) ((nth ws3 v12).shown) ((nth ws3 v12).timer))) is3) (hRows_get q24.1 q24.2) (hRows_keep q24.1 q24.2) ?_
    exact sEJ [] trivial
   refine rgS [] 9 ?_
   have q25 := h
   refine sStRj 4 none [(53, .ptr 3 0 (0 + v12.toNat) 4), (52, .ptr 3 0 (0 + v12.toNat) 0), (51, .ptr 3 0 (0 + v12.toNat) 0)] (hRows 4 (ws3.set v12.toNat (Held.mk 4 ((nth ws3 v12).gone) ((nth ws3 v12).been) ((nth ws3 v12).shown) ((nth ws3 v12).timer))) is3) v12 4 1 0 [ai 0] 3 (hRows 4 ((ws3.set v12.toNat (Held.mk 4 ((nth ws3 v12).gone) ((nth ws3 v12).been) ((nth ws3 v12).shown) ((nth ws3 v12).timer))).set v12.toNat (Held.mk ((nth (ws3.set v12.toNat (Held.mk 4 ((nth ws3 v12).gone) ((nth ws3 v12).been) ((nth ws3 v12).shown) ((nth ws3 v12).timer))) v12).state) ((nth (ws3.set v12.toNat (Held.mk 4 ((nth ws3 v12).gone) ((nth ws3 v12).been) ((nth ws3 v12).shown) ((nth ws3 v12).timer))) v12).gone) ((nth (ws3.set v12.toNat (Held.mk 4 ((nth ws3 v12).gone) ((nth ws3 v12).been) ((nth ws3 v12).shown) ((nth ws3 v12).timer))) v12).been) ((nth (ws3.set v12.toNat (Held.mk 4 ((nth ws3 v12).gone) ((nth ws3 v12).been) ((nth ws3 v12).shown) ((nth ws3 v12).timer))) v12).shown) 0)) is3) (hRows_get q25.1 q25.2) (hRows_keep q25.1 q25.2) ?_
   refine sEnd [] ?_
   exact QJoin.normal trivial (by simp only [← q17, q4, q10, q22, cond_true, cond_false]; exact wkJ)
  ·
   refine cSkip ?_
   exact QJoin.normal trivial (by simp only [← q17, q4, q10, q22, cond_true, cond_false]; exact wkJ)
 replace h := h w16 q17
 have hlw16 : w16.length = ws3.length := by rw [← q17]; repeat' apply len_cond; all_goals simp
 unfold spec_l2settle_C6 at h
 obtain ⟨q60, h⟩ := h
 obtain ⟨w29, q30⟩ : ∃ w : List Held, (bif ((((nth w16 v12).state) == 1) || (((nth w16 v12).state) == 2)) then (bif (provedF a0 (Frame.mk hk ho hq (view (w16.set v12.toNat (Held.mk 1 ((nth w16 v12).gone) ((nth w16 v12).been) ((nth w16 v12).shown) ((nth w16 v12).timer))) is3 bs4)) v12) then (((w16.set v12.toNat (Held.mk 1 ((nth w16 v12).gone) ((nth w16 v12).been) ((nth w16 v12).shown) ((nth w16 v12).timer))).set v12.toNat (Held.mk 2 ((nth (w16.set v12.toNat (Held.mk 1 ((nth w16 v12).gone) ((nth w16 v12).been) ((nth w16 v12).shown) ((nth w16 v12).timer))) v12).gone) ((nth (w16.set v12.toNat (Held.mk 1 ((nth w16 v12).gone) ((nth w16 v12).been) ((nth w16 v12).shown) ((nth w16 v12).timer))) v12).been) ((nth (w16.set v12.toNat (Held.mk 1 ((nth w16 v12).gone) ((nth w16 v12).been) ((nth w16 v12).shown) ((nth w16 v12).timer))) v12).shown) ((nth (w16.set v12.toNat (Held.mk 1 ((nth w16 v12).gone) ((nth w16 v12).been) ((nth w16 v12).shown) ((nth w16 v12).timer))) v12).timer))).set v12.toNat (Held.mk ((nth ((w16.set v12.toNat (Held.mk 1 ((nth w16 v12).gone) ((nth w16 v12).been) ((nth w16 v12).shown) ((nth w16 v12).timer))).set v12.toNat (Held.mk 2 ((nth (w16.set v12.toNat (Held.mk 1 ((nth w16 v12).gone) ((nth w16 v12).been) ((nth w16 v12).shown) ((nth w16 v12).timer))) v12).gone) ((nth (w16.set v12.toNat (Held.mk 1 ((nth w16 v12).gone) ((nth w16 v12).been) ((nth w16 v12).shown) ((nth w16 v12).timer))) v12).been) ((nth (w16.set v12.toNat (Held.mk 1 ((nth w16 v12).gone) ((nth w16 v12).been) ((nth w16 v12).shown) ((nth w16 v12).timer))) v12).shown) ((nth (w16.set v12.toNat (Held.mk 1 ((nth w16 v12).gone) ((nth w16 v12).been) ((nth w16 v12).shown) ((nth w16 v12).timer))) v12).timer))) v12).state) ((nth ((w16.set v12.toNat (Held.mk 1 ((nth w16 v12).gone) ((nth w16 v12).been) ((nth w16 v12).shown) ((nth w16 v12).timer))).set v12.toNat (Held.mk 2 ((nth (w16.set v12.toNat (Held.mk 1 ((nth w16 v12).gone) ((nth w16 v12).been) ((nth w16 v12).shown) ((nth w16 v12).timer))) v12).gone) ((nth (w16.set v12.toNat (Held.mk 1 ((nth w16 v12).gone) ((nth w16 v12).been) ((nth w16 v12).shown) ((nth w16 v12).timer))) v12).been) ((nth (w16.set v12.toNat (Held.mk 1 ((nth w16 v12).gone) ((nth w16 v12).been) ((nth w16 v12).shown) ((nth w16 v12).timer))) v12).shown) ((nth (w16.set v12.toNat (Held.mk 1 ((nth w16 v12).gone) ((nth w16 v12).been) ((nth w16 v12).shown) ((nth w16 v12).timer))) v12).timer))) v12).gone) ((nth ((w16.set v12.toNat (Held.mk 1 ((nth w16 v12).gone) ((nth w16 v12).been) ((nth w16 v12).shown) ((nth w16 v12).timer))).set v12.toNat (Held.mk 2 ((nth (w16.set v12.toNat (Held.mk 1 ((nth w16 v12).gone) ((nth w16 v12).been) ((nth w16 v12).shown) ((nth w16 v12).timer))) v12).gone) ((nth (w16.set v12.toNat (Held.mk 1 ((nth w16 v12).gone) ((nth w16 v12).been) ((nth w16 v12).shown) ((nth w16 v12).timer))) v12).been) ((nth (w16.set v12.toNat (Held.mk 1 ((nth w16 v12).gone) ((nth w16 v12).been) ((nth w16 v12).shown) ((nth w16 v12).timer))) v12).shown) ((nth (w16.set v12.toNat (Held.mk 1 ((nth w16 v12).gone) ((nth w16 v12).been) ((nth w16 v12).shown) ((nth w16 v12).timer))) v12).timer))) v12).been) true ((nth ((w16.set v12.toNat (Held.mk 1 ((nth w16 v12).gone) ((nth w16 v12).been) ((nth w16 v12).shown) ((nth w16 v12).timer))).set v12.toNat (Held.mk 2 ((nth (w16.set v12.toNat (Held.mk 1 ((nth w16 v12).gone) ((nth w16 v12).been) ((nth w16 v12).shown) ((nth w16 v12).timer))) v12).gone) ((nth (w16.set v12.toNat (Held.mk 1 ((nth w16 v12).gone) ((nth w16 v12).been) ((nth w16 v12).shown) ((nth w16 v12).timer))) v12).been) ((nth (w16.set v12.toNat (Held.mk 1 ((nth w16 v12).gone) ((nth w16 v12).been) ((nth w16 v12).shown) ((nth w16 v12).timer))) v12).shown) ((nth (w16.set v12.toNat (Held.mk 1 ((nth w16 v12).gone) ((nth w16 v12).been) ((nth w16 v12).shown) ((nth w16 v12).timer))) v12).timer))) v12).timer))) else (w16.set v12.toNat (Held.mk 1 ((nth w16 v12).gone) ((nth w16 v12).been) ((nth w16 v12).shown) ((nth w16 v12).timer)))) else w16) = w := ⟨_, rfl⟩
 refine cSeqE [] [2, 1, 4] id (fun H => bk 3 ⟨0, 5, hRows 4 w29 is3⟩ H) (True) ?_ (fun q28 => ?_)
 ·
  replace h := q60
  obtain ⟨q50, h⟩ := h
  refine cSeqM [(65, ab ((((nth w16 v12).state) == 1) || (((nth w16 v12).state) == 2)))] [7] (True) ?_ (fun q31 => ?_)
  ·
   replace h := q50
   refine rgS [] 10 ?_
   obtain ⟨q34, h⟩ := h
   refine sLdR 4 (some 57) [(56, .ptr 3 0 (0 + v12.toNat) 0), (55, .ptr 3 0 (0 + v12.toNat) 0), (54, .ptr 3 0 (0 + v12.toNat) 0)] (hRows 4 w16 is3) v12 3 0 0 (ai ((nth w16 v12).state)) (hRows_get q34.1 q34.2) ?_
   refine sCase1 2 59 (((nth w16 v12).state) == 1) [(58, ab (((nth w16 v12).state) == 1))] (fun q32 => ?_) (fun q32 => ?_)
   ·
    exact sEJ ([(65, ab true)] ++ tz [64, 63, 62, 61, 60]) trivial (by simp only [q4, q10, q32] <;> kernel_rfl)
   ·
    replace h := h q32
    have q33 := h
    refine sLdR 4 (some 63) [(62, .ptr 3 0 (0 + v12.toNat) 0), (61, .ptr 3 0 (0 + v12.toNat) 0), (60, .ptr 3 0 (0 + v12.toNat) 0)] (hRows 4 w16 is3) v12 3 0 0 (ai ((nth w16 v12).state)) (hRows_get q33.1 q33.2) ?_
    exact sEJ [(65, ab (((nth w16 v12).state) == 2)), (64, ab (((nth w16 v12).state) == 2))] trivial (by simp only [q4, q10, q32] <;> kernel_rfl)
  refine cCond1 (fun q35 => ?_) (fun q35 => ?_)
  ·
   replace h := h q35
   obtain ⟨q49, h⟩ := h
   refine cSeqE [] [0, 1, 7] id (fun H => bk 3 ⟨0, 5, hRows 4 (w16.set v12.toNat (Held.mk 1 ((nth w16 v12).gone) ((nth w16 v12).been) ((nth w16 v12).shown) ((nth w16 v12).timer))) is3⟩ H) (True) ?_ (fun q36 => ?_)
   ·
    replace h := q49
    refine rgS [] 11 ?_
    have q37 := h
    refine sStRj 4 none [(68, .ptr 3 0 (0 + v12.toNat) 0), (67, .ptr 3 0 (0 + v12.toNat) 0), (66, .ptr 3 0 (0 + v12.toNat) 0)] (hRows 4 w16 is3) v12 0 1 0 [ai 1] 3 (hRows 4 (w16.set v12.toNat (Held.mk 1 ((nth w16 v12).gone) ((nth w16 v12).been) ((nth w16 v12).shown) ((nth w16 v12).timer))) is3) (hRows_get q37.1 q37.2) (hRows_keep q37.1 q37.2) ?_
    exact sEJ [] trivial
   unfold spec_l2settle_C4 at h
   obtain ⟨q48, h⟩ := h
   refine cSeqM [(74, ab (provedF a0 (Frame.mk hk ho hq (view (w16.set v12.toNat (Held.mk 1 ((nth w16 v12).gone) ((nth w16 v12).been) ((nth w16 v12).shown) ((nth w16 v12).timer))) is3 bs4)) v12))] [2, 1, 4] (True) ?_ (fun q38 => ?_)
   ·
    replace h := q48
    refine rgD [] 12 spec_l2settle_o12 spec_l2settle_o12a [] ?_
    refine tAnd 4 (some 72) (.agg [ab hk, rf 1 0 ho.length, rf 2 0 hq.length, rf 3 0 ws3.length]) [(71, .ptr 0 hg 0 0), (70, .ptr 0 hg 0 0), (69, .agg (ePlan false a0))] (φ := hg = hg) rfl ?_
    obtain ⟨q39, q40, q41, q42⟩ := h
    refine tCallV 2 (some 74) [(73, ai v12)] [.agg (ePlan false a0), .agg [ab hk, rf 1 0 ho.length, rf 2 0 hq.length, rf 3 0 ws3.length], ai v12] (spec_l2proved_V a0 (Frame.mk hk ho hq (view (w16.set v12.toNat (Held.mk 1 ((nth w16 v12).gone) ((nth w16 v12).been) ((nth w16 v12).shown) ((nth w16 v12).timer))) is3 bs4)) v12 q42) (PW.cons (Snap2.agg (PW.cons (.int _ _) (PW.cons sa_lst (PW.cons sa_lst (PW.cons sa_lst (PW.cons (.int _ _) PW.nil)))))) (PW.cons (Snap2.agg (PW.cons (.bool _) (PW.cons (sa_blk' (sz := 1) (by simp [hlw16]) rfl (iBool) q39) (PW.cons (sa_blk' (sz := 2) (by simp [hlw16]) rfl (iPoint) q40) (PW.cons (sa_fam (s := 4) (ws := (w16.set v12.toNat (Held.mk 1 ((nth w16 v12).gone) ((nth w16 v12).been) ((nth w16 v12).shown) ((nth w16 v12).timer)))) (ids := is3) (bs := bs4) (by simp [hlw16]) rfl (fun id k h => by simpa using h) q41.1 q41.2.1 q41.2.2) PW.nil))))) (PW.cons (Snap2.of1 (.int _ _)) PW.nil))) ?_
    exact tEJ [] trivial
   unfold spec_l2settle_C3 at h
   refine cCond1 (fun q43 => ?_) (fun q43 => ?_)
   ·
    replace h := h q43
    obtain ⟨q47, h⟩ := h
    refine cSeqE [] [0, 1, 6] id (fun H => bk 3 ⟨0, 5, hRows 4 ((w16.set v12.toNat (Held.mk 1 ((nth w16 v12).gone) ((nth w16 v12).been) ((nth w16 v12).shown) ((nth w16 v12).timer))).set v12.toNat (Held.mk 2 ((nth (w16.set v12.toNat (Held.mk 1 ((nth w16 v12).gone) ((nth w16 v12).been) ((nth w16 v12).shown) ((nth w16 v12).timer))) v12).gone) ((nth (w16.set v12.toNat (Held.mk 1 ((nth w16 v12).gone) ((nth w16 v12).been) ((nth w16 v12).shown) ((nth w16 v12).timer))) v12).been) ((nth (w16.set v12.toNat (Held.mk 1 ((nth w16 v12).gone) ((nth w16 v12).been) ((nth w16 v12).shown) ((nth w16 v12).timer))) v12).shown) ((nth (w16.set v12.toNat (Held.mk 1 ((nth w16 v12).gone) ((nth w16 v12).been) ((nth w16 v12).shown) ((nth w16 v12).timer))) v12).timer))) is3⟩ H) (True) ?_ (fun q44 => ?_)
    ·
     replace h := q47
     refine rgS [] 13 ?_
     have q45 := h
     refine sStRj 4 none [(77, .ptr 3 0 (0 + v12.toNat) 0), (76, .ptr 3 0 (0 + v12.toNat) 0), (75, .ptr 3 0 (0 + v12.toNat) 0)] (hRows 4 (w16.set v12.toNat (Held.mk 1 ((nth w16 v12).gone) ((nth w16 v12).been) ((nth w16 v12).shown) ((nth w16 v12).timer))) is3) v12 0 1 0 [ai 2] 3 (hRows 4 ((w16.set v12.toNat (Held.mk 1 ((nth w16 v12).gone) ((nth w16 v12).been) ((nth w16 v12).shown) ((nth w16 v12).timer))).set v12.toNat (Held.mk 2 ((nth (w16.set v12.toNat (Held.mk 1 ((nth w16 v12).gone) ((nth w16 v12).been) ((nth w16 v12).shown) ((nth w16 v12).timer))) v12).gone) ((nth (w16.set v12.toNat (Held.mk 1 ((nth w16 v12).gone) ((nth w16 v12).been) ((nth w16 v12).shown) ((nth w16 v12).timer))) v12).been) ((nth (w16.set v12.toNat (Held.mk 1 ((nth w16 v12).gone) ((nth w16 v12).been) ((nth w16 v12).shown) ((nth w16 v12).timer))) v12).shown) ((nth (w16.set v12.toNat (Held.mk 1 ((nth w16 v12).gone) ((nth w16 v12).been) ((nth w16 v12).shown) ((nth w16 v12).timer))) v12).timer))) is3) (hRows_get q45.1 q45.2) (hRows_keep q45.1 q45.2) ?_
     exact sEJ [] trivial
    unfold spec_l2settle_C2 at h
    refine rgS [] 14 ?_
    have q46 := h
    refine sStRj 4 none [(80, .ptr 3 0 (0 + v12.toNat) 3), (79, .ptr 3 0 (0 + v12.toNat) 0), (78, .ptr 3 0 (0 + v12.toNat) 0)] (hRows 4 ((w16.set v12.toNat (Held.mk 1 ((nth w16 v12).gone) ((nth w16 v12).been) ((nth w16 v12).shown) ((nth w16 v12).timer))).set v12.toNat (Held.mk 2 ((nth (w16.set v12.toNat (Held.mk 1 ((nth w16 v12).gone) ((nth w16 v12).been) ((nth w16 v12).shown) ((nth w16 v12).timer))) v12).gone) ((nth (w16.set v12.toNat (Held.mk 1 ((nth w16 v12).gone) ((nth w16 v12).been) ((nth w16 v12).shown) ((nth w16 v12).timer))) v12).been) ((nth (w16.set v12.toNat (Held.mk 1 ((nth w16 v12).gone) ((nth w16 v12).been) ((nth w16 v12).shown) ((nth w16 v12).timer))) v12).shown) ((nth (w16.set v12.toNat (Held.mk 1 ((nth w16 v12).gone) ((nth w16 v12).been) ((nth w16 v12).shown) ((nth w16 v12).timer))) v12).timer))) is3) v12 3 1 0 [ab true] 3 (hRows 4 (((w16.set v12.toNat (Held.mk 1 ((nth w16 v12).gone) ((nth w16 v12).been) ((nth w16 v12).shown) ((nth w16 v12).timer))).set v12.toNat (Held.mk 2 ((nth (w16.set v12.toNat (Held.mk 1 ((nth w16 v12).gone) ((nth w16 v12).been) ((nth w16 v12).shown) ((nth w16 v12).timer))) v12).gone) ((nth (w16.set v12.toNat (Held.mk 1 ((nth w16 v12).gone) ((nth w16 v12).been) ((nth w16 v12).shown) ((nth w16 v12).timer))) v12).been) ((nth (w16.set v12.toNat (Held.mk 1 ((nth w16 v12).gone) ((nth w16 v12).been) ((nth w16 v12).shown) ((nth w16 v12).timer))) v12).shown) ((nth (w16.set v12.toNat (Held.mk 1 ((nth w16 v12).gone) ((nth w16 v12).been) ((nth w16 v12).shown) ((nth w16 v12).timer))) v12).timer))).set v12.toNat (Held.mk ((nth ((w16.set v12.toNat (Held.mk 1 ((nth w16 v12).gone) ((nth w16 v12).been) ((nth w16 v12).shown) ((nth w16 v12).timer))).set v12.toNat (Held.mk 2 ((nth (w16.set v12.toNat (Held.mk 1 ((nth w16 v12).gone) ((nth w16 v12).been) ((nth w16 v12).shown) ((nth w16 v12).timer))) v12).gone) ((nth (w16.set v12.toNat (Held.mk 1 ((nth w16 v12).gone) ((nth w16 v12).been) ((nth w16 v12).shown) ((nth w16 v12).timer))) v12).been) ((nth (w16.set v12.toNat (Held.mk 1 ((nth w16 v12).gone) ((nth w16 v12).been) ((nth w16 v12).shown) ((nth w16 v12).timer))) v12).shown) ((nth (w16.set v12.toNat (Held.mk 1 ((nth w16 v12).gone) ((nth w16 v12).been) ((nth w16 v12).shown) ((nth w16 v12).timer))) v12).timer))) v12).state) ((nth ((w16.set v12.toNat (Held.mk 1 ((nth w16 v12).gone) ((nth w16 v12).been) ((nth w16 v12).shown) ((nth w16 v12).timer))).set v12.toNat (Held.mk 2 ((nth (w16.set v12.toNat (Held.mk 1 ((nth w16 v12).gone) ((nth w16 v12).been) ((nth w16 v12).shown) ((nth w16 v12).timer))) v12).gone) ((nth (w16.set v12.toNat (Held.mk 1 ((nth w16 v12).gone) ((nth w16 v12).been) ((nth w16 v12).shown) ((nth w16 v12).timer))) v12).been) ((nth (w16.set v12.toNat (Held.mk 1 ((nth w16 v12).gone) ((nth w16 v12).been) ((nth w16 v12).shown) ((nth w16 v12).timer))) v12).shown) ((nth (w16.set v12.toNat (Held.mk 1 ((nth w16 v12).gone) ((nth w16 v12).been) ((nth w16 v12).shown) ((nth w16 v12).timer))) v12).timer))) v12).gone) ((nth ((w16.set v12.toNat (Held.mk 1 ((nth w16 v12).gone) ((nth w16 v12).been) ((nth w16 v12).shown) ((nth w16 v12).timer))).set v12.toNat (Held.mk 2 ((nth (w16.set v12.toNat (Held.mk 1 ((nth w16 v12).gone) ((nth w16 v12).been) ((nth w16 v12).shown) ((nth w16 v12).timer))) v12).gone) ((nth (w16.set v12.toNat (Held.mk 1 ((nth w16 v12).gone) ((nth w16 v12).been) ((nth w16 v12).shown) ((nth w16 v12).timer))) v12).been) ((nth (w16.set v12.toNat (Held.mk 1 ((nth w16 v12).gone) ((nth w16 v12).been) ((nth w16 v12).shown) ((nth w16 v12).timer))) v12).shown) ((nth (w16.set v12.toNat (Held.mk 1 ((nth w16 v12).gone) ((nth w16 v12).been) ((nth w16 v12).shown) ((nth w16 v12).timer))) v12).timer))) v12).been) true ((nth ((w16.set v12.toNat (Held.mk 1 ((nth w16 v12).gone) ((nth w16 v12).been) ((nth w16 v12).shown) ((nth w16 v12).timer))).set v12.toNat (Held.mk 2 ((nth (w16.set v12.toNat (Held.mk 1 ((nth w16 v12).gone) ((nth w16 v12).been) ((nth w16 v12).shown) ((nth w16 v12).timer))) v12).gone) ((nth (w16.set v12.toNat (Held.mk 1 ((nth w16 v12).gone) ((nth w16 v12).been) ((nth w16 v12).shown) ((nth w16 v12).timer))) v12).been) ((nth (w16.set v12.toNat (Held.mk 1 ((nth w16 v12).gone) ((nth w16 v12).been) ((nth w16 v12).shown) ((nth w16 v12).timer))) v12).shown) ((nth (w16.set v12.toNat (Held.mk 1 ((nth w16 v12).gone) ((nth w16 v12).been) ((nth w16 v12).shown) ((nth w16 v12).timer))) v12).timer))) v12).timer))) is3) (hRows_get q46.1 q46.2) (hRows_keep q46.1 q46.2) ?_
    refine sEnd [] ?_
    exact QJoin.normal trivial (by simp only [← q30, q4, q10, q35, q43, cond_true, cond_false]; exact wkJ)
   ·
    refine cSkip ?_
    exact QJoin.normal trivial (by simp only [← q30, q4, q10, q35, q43, cond_true, cond_false]; exact wkJ)
  ·
   refine cSkip ?_
   exact QJoin.normal trivial (by simp only [← q30, q4, q10, q35, cond_true, cond_false]; exact wkJ)
 replace h := h w29 q30
 have hlw29 : w29.length = ws3.length := by rw [← q30]; repeat' apply len_cond; all_goals simp [hlw16]
 obtain ⟨q59, h⟩ := h
 refine cSeqM [(85, ab (((nth w29 v12).state) == 4))] [6] (True) ?_ (fun q51 => ?_)
 ·
  replace h := q59
  refine rgS [] 15 ?_
  have q52 := h
  refine sLdR 4 (some 84) [(83, .ptr 3 0 (0 + v12.toNat) 0), (82, .ptr 3 0 (0 + v12.toNat) 0), (81, .ptr 3 0 (0 + v12.toNat) 0)] (hRows 4 w29 is3) v12 3 0 0 (ai ((nth w29 v12).state)) (hRows_get q52.1 q52.2) ?_
  exact sEJ [(85, ab (((nth w29 v12).state) == 4))] trivial
 unfold spec_l2settle_C5 at h
 refine cCond1 (fun q53 => ?_) (fun q53 => ?_)
 ·
  replace h := h.1 q53
  refine rgS [] 16 ?_
  obtain ⟨q57, h⟩ := h
  refine sRe (⟨hg, 4, [[ab hk, rf 1 0 ho.length, rf 2 0 hq.length, rf 3 0 w29.length]]⟩ :: ⟨0, 1, List.map eBool ho⟩ :: ⟨0, 2, List.map ePoint hq⟩ :: ⟨0, 5, hRows 4 w29 is3⟩ :: List.map fbk bs4) (by rw [show ws3.length = w29.length by simp [hlw16, hlw29]] <;> rfl) ?_
  refine sCallM 4 (some 89) [(88, .ptr 3 0 (0 + v12.toNat) 0), (87, .ptr 0 hg 0 0), (86, .agg (eWay false (nth a0.ways v12)))] [.agg (eWay false (nth a0.ways v12)), .ptr 0 hg 0 0, .ptr 3 0 (0 + v12.toNat) 0] _ (spec_l2pass_M (nth a0.ways v12) v12 hg hk ho hq w29 is3 bs4 q57) (fun r H' hq => by obtain ⟨_, _, _, rfl, _⟩ := hq; rfl) ?_
  rintro r H' ⟨w54, i55, b56, rfl, rfl, q58⟩
  replace h := h w54 i55 b56 q58
  refine sEnd [] ?_
  refine QBlock.normal ?_
  refine QSeq.normal ?_
  refine rgS [] 17 ?_
  refine sEnd [(12, ai (IntKind.i64.wrap (v12 + 1))), (90, ai (IntKind.i64.wrap (v12 + 1)))] ?_
  exact QRound.again (b56, i55, (IntKind.i64.wrap (v12 + 1)), w54) h (wkL [6])
 ·
  replace h := h.2 q53
  refine cSkip ?_
  refine QBlock.normal ?_
  refine QSeq.normal ?_
  refine rgS [] 17 ?_
  refine sEnd [(12, ai (IntKind.i64.wrap (v12 + 1))), (90, ai (IntKind.i64.wrap (v12 + 1)))] ?_
  exact QRound.again (bs4, is3, (IntKind.i64.wrap (v12 + 1)), w29) h (weak_eq (s' := ⟨(mkS 91 [(1, .ptr 0 hg 0 0), (2, ap 2 0), (11, ai (hw.length : Int)), (12, ai (IntKind.i64.wrap (v12 + 1)))]), [(2, (ePlan false a0))], (⟨hg, 4, [[ab hk, rf 1 0 ho.length, rf 2 0 hq.length, rf 3 0 ws3.length]]⟩ :: ⟨0, 1, List.map eBool ho⟩ :: ⟨0, 2, List.map ePoint hq⟩ :: ⟨0, 5, hRows 4 w29 is3⟩ :: List.map fbk bs4)⟩) (wkL (n := 91) (A' := [(1, .ptr 0 hg 0 0), (2, ap 2 0), (11, ai (hw.length : Int)), (12, ai (IntKind.i64.wrap (v12 + 1)))]) (L' := [(2, (ePlan false a0))]) [6]) (congrArg (fun z => (⟨(mkS 91 [(1, .ptr 0 hg 0 0), (2, ap 2 0), (11, ai (hw.length : Int)), (12, ai (IntKind.i64.wrap (v12 + 1)))]), [(2, (ePlan false a0))], (⟨hg, 4, [[ab hk, rf 1 0 ho.length, rf 2 0 hq.length, rf 3 0 z]]⟩ :: ⟨0, 1, List.map eBool ho⟩ :: ⟨0, 2, List.map ePoint hq⟩ :: ⟨0, 5, hRows 4 w29 is3⟩ :: List.map fbk bs4)⟩ : St)) (show ws3.length = w29.length by simp [hlw16, hlw29])))
theorem spec_l2settle_M (a0 : Plan) (hg : Nat) (hk : Bool) (ho : List Bool) (hq : List Point) (hw : List Held) (hi : List Nat) (hb : List (List Bool)) (hp : setPreM a0 hk ho hq hw hi hb) : FnS Try.prog 98 [.agg (ePlan false a0), .ptr 0 hg 0 0] (⟨hg, 4, [[ab hk, rf 1 0 ho.length, rf 2 0 hq.length, rf 3 0 hw.length]]⟩ :: ⟨0, 1, List.map eBool ho⟩ :: ⟨0, 2, List.map ePoint hq⟩ :: ⟨0, 5, hRows 4 hw hi⟩ :: List.map fbk hb) (fun r H' => ∃ (hw' : List Held) (hi' : List Nat) (hb' : List (List Bool)), r = .tup [] ∧ H' = (⟨hg, 4, [[ab hk, rf 1 0 ho.length, rf 2 0 hq.length, rf 3 0 hw'.length]]⟩ :: ⟨0, 1, List.map eBool ho⟩ :: ⟨0, 2, List.map ePoint hq⟩ :: ⟨0, 5, hRows 4 hw' hi'⟩ :: List.map fbk hb') ∧ setPostM a0 hk ho hq hw hi hb ho hq hw' hi' hb') := spec_l2settle_walk a0 hg hk ho hq hw hi hb (setI a0 (theF hk ho hq hw hi hb)) (fun _ _ v _ => upM hw.length v) (by
 unfold spec_l2settle_C
 obtain ⟨G, hP, hF⟩ := hp
 have hVl : (theF hk ho hq hw hi hb).ways.length = hw.length := view_len G.ok
 have hways := hF.ways
 have hpw := hP.ways
 have hfocc := hF.occ
 have hfpt := hF.points
 have hpsec := hP.secs
 have hsw := hP.sw
 refine ⟨⟨?_, G.ok, G.nd, rfl, G.len⟩, fun bs is v ws hI => ?_⟩
 ·rw [hVl]; exact up_start (len0 _)
 have hI' := hI
 obtain ⟨hU, hok, hnd, hvw, hlen⟩ := hI'
 have hn : ((theF hk ho hq hw hi hb).ways.length : Int) ≤ 4611686018427387904 := by omega
 obtain ⟨s1, s2, s3⟩ := settleN_same a0 (theF hk ho hq hw hi hb) v.toNat
 have hwl : ws.length = hw.length := by rw [← view_len hok, hvw, settleN_len, hVl]
 unfold spec_l2settle_C8
 have hm : ∀ x : Int, upM hw.length x = upM (theF hk ho hq hw hi hb).ways.length x := fun x => by rw [hVl]
 simp only [hm]
 rw [← hVl]
 refine ⟨fun hv => ?_, fun hv => ?_⟩
 ·have hv' : ¬ v < ((theF hk ho hq hw hi hb).ways.length : Int) := by simpa using hv
  have h1 := hU.2.1
  have h0 := hU.1
  have : v.toNat = (theF hk ho hq hw hi hb).ways.length := by omega
  rw [this] at hvw
  exact ⟨⟨hok, hnd, hlen⟩, hvw⟩
 have hin := up_in hU hv
 have h0 := hin.1
 have hlt : v.toNat < ws.length := by omega
 have hpl : v.toNat < a0.ways.length := by omega
 have hFN := settleN_in hF v.toNat
 have hV : (atN a0 (theF hk ho hq hw hi hb) v).ways.length = hw.length := (settleN_len _ _ _).trans hVl
 have hs : (secs a0 v) ≠ [] ∧ (secs a0 v).length ≤ 30 ∧ ∀ x ∈ secs a0 v, 0 ≤ x ∧ x < a0.sections := hP.sections _ (nth_mem hpl)
 have hg1 : (atN a0 (theF hk ho hq hw hi hb) v).ways[v.toNat]? = some (nth (atN a0 (theF hk ho hq hw hi hb) v).ways v) := nth_some (by omega)
 have hbe : (nth (atN a0 (theF hk ho hq hw hi hb) v).ways v).been.length = (secs a0 v).length := hFN.been _ _ _ hg1 (nth_some hpl)
 have hgo := hFN.gone _ (List.mem_of_getElem? hg1)
 have hsl : 0 < (secs a0 v).length := List.length_pos_iff.2 hs.1
 have hol : (ho.length : Int) = a0.sections := hfocc
 have hql : hq.length = a0.switches.length := hfpt
 have hsin : ∀ k : Int, 0 ≤ k → k.toNat < (secs a0 v).length → 0 ≤ nth (secs a0 v) k ∧ (nth (secs a0 v) k).toNat < ho.length := fun k k0 k1 => by
  have := hs.2.2 _ (nth_mem k1); omega
 have F0 : FamAt (atN a0 (theF hk ho hq hw hi hb) v).ways is v (nth (atN a0 (theF hk ho hq hw hi hb) v).ways v) ws bs := FamAt.start hok hnd hlt hvw hlen
 have hstep := stepH_eq (p := a0) (f := theF hk ho hq hw hi hb) h0
 refine ⟨⟨h0, hlt⟩, ⟨h0, hpl⟩, ⟨F0.ll, fun hz => ?_⟩, fun hz => ?_⟩
 ·rw [F0.state] at hz
  exact set_next hn hU hv F0 (by rw [hstep, if_pos (by simpa using hz)])
 have hz : ¬ (nth (atN a0 (theF hk ho hq hw hi hb) v).ways v).state = 0 := by rw [F0.state] at hz; simpa using hz
 rw [if_neg hz] at hstep
 unfold spec_l2settle_C7 spec_l2settle_C1
 refine ⟨⟨⟨F0.ll, fun _ => ⟨⟨Int.le_refl _, hsl⟩, hsin 0 (Int.le_refl _) hsl⟩⟩, fun _ => ⟨F0.ll, (F0.setState 4).ll⟩⟩, fun w27 hw27 => ?_⟩
 have F1 : FamAt (atN a0 (theF hk ho hq hw hi hb) v).ways is v (preA a0 (theF hk ho hq hw hi hb) v) w27 bs := by
  rw [← hw27, F0.state]
  unfold preA
  simp only
  have hc : ((nth (atN a0 (theF hk ho hq hw hi hb) v).ways v).state ≠ 4 ∧ occAt (atN a0 (theF hk ho hq hw hi hb) v) (nth (secs a0 v) 0) = true) ↔ ((((nth (atN a0 (theF hk ho hq hw hi hb) v).ways v).state != 4) && (nth ho (nth ((nth a0.ways v).sections) 0))) = true) := by
   rw [Bool.and_eq_true, bne_iff_ne]
   unfold occAt
   rw [show (atN a0 (theF hk ho hq hw hi hb) v).occ = ho from s2]; rfl
  by_cases hb : ((nth (atN a0 (theF hk ho hq hw hi hb) v).ways v).state ≠ 4 ∧ occAt (atN a0 (theF hk ho hq hw hi hb) v) (nth (secs a0 v) 0) = true)
  ·rw [if_pos hb, hc.1 hb]
   exact (F0.setState 4).setTimer 0
  ·rw [if_neg hb, Bool.eq_false_iff.2 (fun h => hb (hc.2 h))]
   exact F0
 have hpre : provedPre a0 (Frame.mk hk ho hq (view (w27.set v.toNat (Held.mk 1 ((nth w27 v).gone) ((nth w27 v).been) ((nth w27 v).shown) ((nth w27 v).timer))) is bs)) v := by
  have FS := F1.setState 1
  refine ⟨hP, ⟨hF.occ, hF.points, ?_, fun i h w e1 e2 => ?_, fun h hh => ?_⟩, h0, by omega⟩
  ·show (view _ is bs).length = _
   rw [view_len FS.ok, List.length_set]; have := F1.vlen; omega
  ·replace e1 : (view _ is bs)[i]? = some h := e1
   rw [FS.vw, List.getElem?_set] at e1
   split at e1
   ·rename_i hi; subst hi
    split at e1
    ·cases e1
     have := nth_some hpl
     rw [e2] at this
     cases this
     show (preA a0 (theF hk ho hq hw _ hb) v).been.length = _
     rw [preA_been.1]; exact hbe
    ·cases e1
   ·exact hFN.been i h w e1 e2
  ·replace hh : h ∈ view _ is bs := hh
   rw [FS.vw] at hh
   rcases List.mem_or_eq_of_mem_set hh with hh | rfl
   ·exact hFN.gone h hh
   ·show 0 ≤ (preA a0 (theF hk ho hq hw hi hb) v).gone ∧ (preA a0 (theF hk ho hq hw hi hb) v).gone ≤ (preA a0 (theF hk ho hq hw hi hb) v).been.length
    rw [preA_been.1, preA_been.2]; exact hgo
 have hprv : provedF a0 (Frame.mk hk ho hq (view (w27.set v.toNat (Held.mk 1 ((nth w27 v).gone) ((nth w27 v).been) ((nth w27 v).shown) ((nth w27 v).timer))) is bs)) v = provedF a0 (atN a0 (theF hk ho hq hw hi hb) v) v := provedF_same s2.symm s3.symm
 unfold spec_l2settle_C6
 refine ⟨⟨⟨F1.ll, fun _ => F1.ll⟩, fun _ => ⟨F1.ll, ?_⟩⟩, fun w47 hw47 => ?_⟩
 ·unfold spec_l2settle_C4 spec_l2settle_C3 spec_l2settle_C2
  have FS := F1.setState 1
  refine ⟨⟨by omega, by omega, ⟨FS.ok, ?_, fun b hb => by have := hlen b hb; omega⟩, hpre⟩, fun _ => ⟨FS.ll, (FS.setState 2).ll⟩⟩
  rw [List.length_set]; have := F1.vlen; omega
 have F2 : FamAt (atN a0 (theF hk ho hq hw hi hb) v).ways is v (preH a0 (theF hk ho hq hw hi hb) v) w47 bs := by
  rw [← hw47, hprv, F1.state]
  unfold preH
  simp only
  by_cases hb : (preA a0 (theF hk ho hq hw hi hb) v).state = 1 ∨ (preA a0 (theF hk ho hq hw hi hb) v).state = 2
  ·rw [if_pos hb, show (((preA a0 (theF hk ho hq hw hi _) v).state == 1) || ((preA a0 (theF hk ho hq hw hi _) v).state == 2)) = true by simpa using hb]
   cases hq : provedF a0 (atN a0 (theF hk ho _ hw hi _) v) v with
   | true => exact ((F1.setState 1).setState 2).setShown true
   | false => exact F1.setState 1
  ·rw [if_neg hb, show (((preA a0 (theF hk ho hq hw hi _) v).state == 1) || ((preA a0 (theF hk ho hq hw hi _) v).state == 2)) = false by simpa using hb]
   exact F1
 have hpb : (preH a0 (theF hk ho hq hw hi hb) v).been.length = (secs a0 v).length := by rw [preH_been.1]; exact hbe
 have hpg : 0 ≤ (preH a0 (theF hk ho hq hw hi hb) v).gone ∧ (preH a0 (theF hk ho hq hw hi hb) v).gone ≤ (secs a0 v).length := by rw [preH_been.2, ← hbe]; exact hgo
 refine ⟨F2.ll, ?_⟩
 unfold spec_l2settle_C5
 refine ⟨fun h4 => ⟨⟨F2.G, h0, by have := F2.lt; omega, ?_, ?_, ?_, ?_, ?_⟩, fun w i b hpost => ?_⟩, fun h4 => ?_⟩
 ·show (secs a0 v).length ≤ _; omega
 ·intro x hx
  have := hs.2.2 x hx; omega
 ·rw [F2.nthv]; exact hpb
 ·rw [F2.nthv]; exact hpg.1
 ·rw [F2.nthv]; exact hpg.2
 ·obtain ⟨G', hv'⟩ := hpost
  have F3 := F2.again G' hv'
  have h4 : (preH a0 (theF hk ho hq hw hi hb) v).state = 4 := by rw [F2.state] at h4; simpa using h4
  rw [if_pos h4] at hstep
  refine set_next hn hU hv F3 ?_
  rw [F2.nthv, hstep]
  exact passH_same s2.symm
 ·rw [F2.state] at h4
  exact set_next hn hU hv F2 (by rw [hstep, if_neg (by simpa using h4)]))
end Go.Proofs.Ytglpfccgmfhkdaa.Fw
/- Walks and summaries of functions, printed by a program of mine (tools/mk2.py), with the proofs of what they owe. -/

set_option linter.unusedVariables false
set_option maxRecDepth 100000
set_option maxHeartbeats 4000000
set_option linter.unusedSimpArgs false
namespace Go.Proofs.Ytglpfccgmfhkdaa.Fw
open Go
attribute [local irreducible] evS evSD WpS Weak Oper.looksAt
noncomputable def spec_FrameOk_b : Code := bodyC Try.f41
def spec_FrameOk_C1 (a0 : Plan) (a1 : Frame) (res : Bool) : Prop :=
  (setPreM a0 ((idt a1).ok) ((idt a1).occ) ((idt a1).points) ((idt a1).ways) (List.range ((idt a1).ways).length) (List.map Held.been ((idt a1).ways))) ∧ (∀ (w27 : List Held) (i28 : List Nat) (b29 : List (List Bool)), setPostM a0 ((idt a1).ok) ((idt a1).occ) ((idt a1).points) ((idt a1).ways) (List.range ((idt a1).ways).length) (List.map Held.been ((idt a1).ways)) ((idt a1).occ) ((idt a1).points) w27 i28 b29 → ((((idt a1).occ).length ≤ 4611686018427387904 ∧ ((idt a1).points).length ≤ 4611686018427387904 ∧ (FamOk w27 i28 b29 ∧ w27.length ≤ 4611686018427387904 ∧ (∀ x ∈ b29, List.length x ≤ 4611686018427387904)) ∧ samePre a1 (Frame.mk ((idt a1).ok) ((idt a1).occ) ((idt a1).points) (view w27 i28 b29))) ∧ ((sameW a1 (Frame.mk ((idt a1).ok) ((idt a1).occ) ((idt a1).points) (view w27 i28 b29))) = res)))
def spec_FrameOk_C2 (a0 : Plan) (a1 : Frame) (res : Bool) (v76 v65 : Int) : Prop :=
  ((v65 != v76) = true → (0 ≤ v65 ∧ v65.toNat < a0.bars.length) ∧ ((0 ≤ v76 ∧ v76.toNat < (nth a0.bars v65).length) ∧ ((nth (nth a0.bars v65) v76) = true → (0 ≤ v65 ∧ v65.toNat < a1.ways.length) ∧ ((((nth a1.ways v65).state) != 0) = true → 0 ≤ v76 ∧ v76.toNat < a1.ways.length)))) ∧ (((v65 != v76) && ((nth (nth a0.bars v65) v76) && ((((nth a1.ways v65).state) != 0) && (((nth a1.ways v76).state) != 0)))) = true → false = res)
def spec_FrameOk_C3 (I1 : Int → Int → Prop) (m1 : Int → Int → Nat) (I2 : Int → Int → Int → Prop) (m2 : Int → Int → Int → Nat) (a0 : Plan) (a1 : Frame) (res : Bool) (v47 v76 v65 : Int) : Prop :=
  ((decide (v76 < (a1.ways.length : Int))) = false → I1 v47 (IntKind.i64.wrap (v65 + 1)) ∧ m1 v47 (IntKind.i64.wrap (v65 + 1)) < m1 v47 v65) ∧ ((decide (v76 < (a1.ways.length : Int))) = true → (spec_FrameOk_C2 a0 a1 res v76 v65) ∧ ((!((v65 != v76) && ((nth (nth a0.bars v65) v76) && ((((nth a1.ways v65).state) != 0) && (((nth a1.ways v76).state) != 0))))) = true → I2 v47 v65 (IntKind.i64.wrap (v76 + 1)) ∧ m2 v47 v65 (IntKind.i64.wrap (v76 + 1)) < m2 v47 v65 v76))
def spec_FrameOk_C4 (I0 : Int → Prop) (m0 : Int → Nat) (I1 : Int → Int → Prop) (m1 : Int → Int → Nat) (I2 : Int → Int → Int → Prop) (m2 : Int → Int → Int → Nat) (a0 : Plan) (a1 : Frame) (res : Bool) (v47 : Int) : Prop :=
  ((decide (v47 < (a1.points.length : Int))) = false → a1.ways.length ≤ 4611686018427387904 → I1 v47 0 ∧ ∀ (v65 : Int), I1 v47 v65 → (((decide (v65 < (a1.ways.length : Int))) = false → (smallF a1) ∧ (spec_FrameOk_C1 a0 a1 res)) ∧ ((decide (v65 < (a1.ways.length : Int))) = true → ((heldPre a0 a1 v65) ∧ ((!(heldOk a0 a1 v65)) = true → false = res)) ∧ ((!(!(heldOk a0 a1 v65))) = true → I2 v47 v65 0 ∧ ∀ (v76 : Int), I2 v47 v65 v76 → (spec_FrameOk_C3 I1 m1 I2 m2 a0 a1 res v47 v76 v65))))) ∧ ((decide (v47 < (a1.points.length : Int))) = true → ((0 ≤ v47 ∧ v47.toNat < a1.points.length) ∧ (((!(inR ((nth a1.points v47).want) 1 2)) || (!(inR ((nth a1.points v47).lies) 0 2))) = true → false = res)) ∧ ((!((!(inR ((nth a1.points v47).want) 1 2)) || (!(inR ((nth a1.points v47).lies) 0 2)))) = true → I0 (IntKind.i64.wrap (v47 + 1)) ∧ m0 (IntKind.i64.wrap (v47 + 1)) < m0 v47))
def spec_FrameOk_C5 (I0 : Int → Prop) (m0 : Int → Nat) (I1 : Int → Int → Prop) (m1 : Int → Int → Nat) (I2 : Int → Int → Int → Prop) (m2 : Int → Int → Int → Nat) (a0 : Plan) (a1 : Frame) (res : Bool) : Prop :=
  (((!(planGood a0)) || ((!a1.ok) || (((a1.occ.length : Int) != a0.sections) || (((a1.points.length : Int) != (a0.switches.length : Int)) || ((a1.ways.length : Int) != (a0.ways.length : Int)))))) = true → false = res) ∧ ((!((!(planGood a0)) || ((!a1.ok) || (((a1.occ.length : Int) != a0.sections) || (((a1.points.length : Int) != (a0.switches.length : Int)) || ((a1.ways.length : Int) != (a0.ways.length : Int))))))) = true → a1.points.length ≤ 4611686018427387904 → I0 0 ∧ ∀ (v47 : Int), I0 v47 → (spec_FrameOk_C4 I0 m0 I1 m1 I2 m2 a0 a1 res v47))
def spec_FrameOk_C (a0 : Plan) (a1 : Frame) (res : Bool) (I0 : Int → Prop) (m0 : Int → Nat) (I1 : Int → Int → Prop) (m1 : Int → Int → Nat) (I2 : Int → Int → Int → Prop) (m2 : Int → Int → Int → Nat) : Prop :=
 spec_FrameOk_C5 I0 m0 I1 m1 I2 m2 a0 a1 res
theorem spec_FrameOk_walk (a0 : Plan) (a1 : Frame) (res : Bool) (I0 : Int → Prop) (m0 : Int → Nat) (I1 : Int → Int → Prop) (m1 : Int → Int → Nat) (I2 : Int → Int → Int → Prop) (m2 : Int → Int → Int → Nat) (h : spec_FrameOk_C a0 a1 res I0 m0 I1 m1 I2 m2) : FnV Try.prog 41 [.agg (ePlan false a0), .agg (eFrame false a1)] (ab res) := by
 unfold spec_FrameOk_C at h
 refine FnS.go (fn := Try.f41) [(0, .agg (ePlan false a0)), (1, .agg (eFrame false a1))] Try.func41 ?_
 show WpS _ (nv spec_FrameOk_b 1) _ ⟨mkS 119 [(0, .agg (ePlan false a0)), (1, .agg (eFrame false a1))], [], []⟩
 refine WpS.weak ?_ (weak_eq (s'' := ⟨(mkS 119 [(0, .agg (ePlan false a0)), (1, .agg (eFrame false a1))]), [], [⟨0, 4, []⟩]⟩) (Weak.newB (T := (mkS 119 [(0, .agg (ePlan false a0)), (1, .agg (eFrame false a1))])) (L := []) (H := []) 4) (by kernel_rfl))
 refine cRN [2000009] 0 [(4, ab false), (3, ap 3 0), (2, ap 2 0)] [0, 1, 2] [] [(3, (eFrame false a1)), (2, (ePlan false a0))] [⟨0, 4, []⟩] ?_
 unfold spec_FrameOk_C5 at h
 obtain ⟨q81, h⟩ := h
 refine cSeqM [] [2] ((!((!(planGood a0)) || ((!a1.ok) || (((a1.occ.length : Int) != a0.sections) || (((a1.points.length : Int) != (a0.switches.length : Int)) || ((a1.ways.length : Int) != (a0.ways.length : Int))))))) = true) ?_ (fun q2 => ?_)
 ·
  replace h := q81
  refine cSeqM [(43, ab ((!(planGood a0)) || ((!a1.ok) || (((a1.occ.length : Int) != a0.sections) || (((a1.points.length : Int) != (a0.switches.length : Int)) || ((a1.ways.length : Int) != (a0.ways.length : Int)))))))] [2] (True) ?_ (fun q3 => ?_)
  ·
   refine rgS [2000009] 1 ?_
   refine sCallV 2 (some 11) [(10, .agg (ePlan false a0))] [.agg (ePlan false a0)] (spec_l1ok_V a0) (PW.cons (Snap2.agg (PW.cons (.int _ _) (PW.cons sa_lst (PW.cons sa_lst (PW.cons sa_lst (PW.cons (.int _ _) PW.nil)))))) PW.nil) ?_
   refine sCase1 2 13 (!(planGood a0)) [(12, ab (!(planGood a0)))] (fun q4 => ?_) (fun q4 => ?_)
   ·
    exact sEJ ([(43, ab true)] ++ tz [42, 41, 40, 39, 38, 37, 36] ++ [(35, ab true), (34, ab true)] ++ tz [33, 32, 31, 30, 29, 28, 27] ++ [(26, ab true), (25, ab true)] ++ tz [24, 23, 22, 21, 20, 19] ++ [(18, ab true), (17, ab true)] ++ tz [16, 15, 14]) trivial (by simp only [q4] <;> kernel_rfl)
   ·
    refine sCase1 5 18 (!a1.ok) [(17, ab (!a1.ok)), (16, ab (!a1.ok)), (15, ab a1.ok), (14, ap 3 0)] (fun q5 => ?_) (fun q5 => ?_)
    ·
     exact sEJ ([(43, ab true)] ++ tz [42, 41, 40, 39, 38, 37, 36] ++ [(35, ab true), (34, ab true)] ++ tz [33, 32, 31, 30, 29, 28, 27] ++ [(26, ab true), (25, ab true)] ++ tz [24, 23, 22, 21, 20, 19]) trivial (by simp only [q4, q5] <;> kernel_rfl)
    ·
     refine sLen 3 (some 21) [(20, al eBool a1.occ), (19, ap 3 1)] eBool a1.occ (fun q6 => ?_)
     refine sCase1 5 26 ((a1.occ.length : Int) != a0.sections) [(25, ab ((a1.occ.length : Int) != a0.sections)), (24, ab ((a1.occ.length : Int) != a0.sections)), (23, ai a0.sections), (22, ap 2 0)] (fun q7 => ?_) (fun q7 => ?_)
     ·
      exact sEJ ([(43, ab true)] ++ tz [42, 41, 40, 39, 38, 37, 36] ++ [(35, ab true), (34, ab true)] ++ tz [33, 32, 31, 30, 29, 28, 27]) trivial (by simp only [q4, q5, q7] <;> kernel_rfl)
     ·
      refine sLen 3 (some 29) [(28, al ePoint a1.points), (27, ap 3 2)] ePoint a1.points (fun q8 => ?_)
      refine sLen 3 (some 32) [(31, al eInt a0.switches), (30, ap 2 1)] eInt a0.switches (fun q9 => ?_)
      refine sCase1 3 35 ((a1.points.length : Int) != (a0.switches.length : Int)) [(34, ab ((a1.points.length : Int) != (a0.switches.length : Int))), (33, ab ((a1.points.length : Int) != (a0.switches.length : Int)))] (fun q10 => ?_) (fun q10 => ?_)
      ·
       exact sEJ ([(43, ab true)] ++ tz [42, 41, 40, 39, 38, 37, 36]) trivial (by simp only [q4, q5, q7, q10] <;> kernel_rfl)
      ·
       refine sLen 3 (some 38) [(37, al (eHeld false) a1.ways), (36, ap 3 3)] (eHeld false) a1.ways (fun q11 => ?_)
       refine sLen 3 (some 41) [(40, al (eWay false) a0.ways), (39, ap 2 2)] (eWay false) a0.ways (fun q12 => ?_)
       exact sEJ [(43, ab ((a1.ways.length : Int) != (a0.ways.length : Int))), (42, ab ((a1.ways.length : Int) != (a0.ways.length : Int)))] trivial (by simp only [q4, q5, q7, q10] <;> kernel_rfl)
  refine cCond1 (fun q13 => ?_) (fun q13 => ?_)
  ·
   replace h := h q13
   refine cRM [2000009] 2 [(4, ab false)] [1] [] ?_
   exact cRet (QJoin.ret (rt1 (ab false) (SnapR3.of1 (sr_bool h))))
  ·
   refine cSkip ?_
   exact QJoin.normal (by simp only [q13] <;> rfl) wkJ
 replace h := h q2
 refine cSeq ?_
 refine cSeqM [(45, al ePoint a1.points), (46, ai (a1.points.length : Int)), (47, ai 0)] [2] (a1.points.length ≤ 4611686018427387904) ?_ (fun q15 => ?_)
 ·
  refine rgS [2000009] 3 ?_
  refine sLen 3 (some 46) [(45, al ePoint a1.points), (44, ap 3 2)] ePoint a1.points (fun q16 => ?_)
  exact sEJ [(47, ai 0)] q16
 replace h := h q15
 refine cBlock 0 ?_
 obtain ⟨q80, h⟩ := h
 refine cLoop (fun (v : Int) => (⟨(mkS 119 [(2, ap 2 0), (3, ap 3 0), (45, al ePoint a1.points), (46, ai (a1.points.length : Int)), (47, ai v)]), [(3, (eFrame false a1)), (2, (ePlan false a0))], [⟨0, 4, []⟩]⟩ : St)) (fun (v : Int) => I0 v) (fun (v : Int) => m0 v) 0 (wkL []) q80 (fun v47 hI => ?_)
 replace h := h v47 hI
 refine cRM [2000009] 4 [(48, ab (decide (v47 < (a1.points.length : Int))))] [1] [5] ?_
 unfold spec_FrameOk_C4 at h
 obtain ⟨q79, h⟩ := h
 refine cSeqM [] [0, 1, 5] ((decide (v47 < (a1.points.length : Int))) = true) ?_ (fun q18 => ?_)
 ·
  replace h := q79
  refine cCond1 (fun q19 => ?_) (fun q19 => ?_)
  ·
   refine cSkip ?_
   exact QJoin.normal (by simp only [q2, q19] <;> rfl) wkJ
  ·
   replace h := h q19
   refine cExit 0 ?_
   refine QJoin.exit ?_
   refine QRound.exit ?_
   refine QBlock.here ?_
   refine QSeq.normal ?_
   refine cSeq ?_
   refine cSeqG ⟨(mkS 119 [(2, ap 2 0), (3, ap 3 0), (64, ai (a1.ways.length : Int)), (65, ai 0)]), [(3, (eFrame false a1)), (2, (ePlan false a0))], [⟨0, 4, []⟩]⟩ (a1.ways.length ≤ 4611686018427387904) ?_ (fun q20 => ?_)
   ·
    refine rgS [2000009] 9 ?_
    refine sLen 3 (some 64) [(63, al (eHeld false) a1.ways), (62, ap 3 3)] (eHeld false) a1.ways (fun q21 => ?_)
    exact sEJ [(65, ai 0)] q21
   replace h := h q20
   refine cBlock 2 ?_
   obtain ⟨q69, h⟩ := h
   refine cLoop (fun (v : Int) => (⟨(mkS 119 [(2, ap 2 0), (3, ap 3 0), (64, ai (a1.ways.length : Int)), (65, ai v)]), [(3, (eFrame false a1)), (2, (ePlan false a0))], [⟨0, 4, []⟩]⟩ : St)) (fun (v : Int) => I1 v47 v) (fun (v : Int) => m1 v47 v) 0 (wkL []) q69 (fun v65 hI => ?_)
   replace h := h v65 hI
   refine cRM [2000009] 10 [(66, ab (decide (v65 < (a1.ways.length : Int))))] [1] [4] ?_
   obtain ⟨q68, h⟩ := h
   refine cSeqM [] [0, 1, 4] ((decide (v65 < (a1.ways.length : Int))) = true) ?_ (fun q23 => ?_)
   ·
    replace h := q68
    refine cCond1 (fun q24 => ?_) (fun q24 => ?_)
    ·
     refine cSkip ?_
     exact QJoin.normal (by simp only [q2, q19, q24] <;> rfl) wkJ
    ·
     replace h := h q24
     refine cExit 2 ?_
     refine QJoin.exit ?_
     refine QRound.exit ?_
     refine QBlock.here ?_
     refine QSeq.normal ?_
     obtain ⟨q38, h⟩ := h
     refine cSeqG ⟨(mkS 119 [(2, ap 2 0), (3, ap 3 0), (9, .ptr 0 1 0 0)]), [(3, (eFrame false a1)), (2, (ePlan false a0))], (⟨1, 4, [[ab ((idt a1).ok), rf 1 0 (((idt a1).occ).length), rf 2 0 (((idt a1).points).length), rf 3 0 (((idt a1).ways).length)]]⟩ :: ⟨0, 1, List.map eBool ((idt a1).occ)⟩ :: ⟨0, 2, List.map ePoint ((idt a1).points)⟩ :: ⟨0, 5, hRows 4 ((idt a1).ways) (List.range ((idt a1).ways).length)⟩ :: List.map fbk (List.map Held.been ((idt a1).ways)))⟩ (True) ?_ (fun q25 => ?_)
     ·
      replace h := q38
      refine rgS [2000009] 21 ?_
      have q26 := h
      refine sCallO 2 (some 113) [(112, .agg (eFrame false a1))] [.agg (eFrame false a1)] (.agg [ab ((idt a1).ok), rf 1 0 (((idt a1).occ).length), rf 2 0 (((idt a1).points).length), rf 3 0 (((idt a1).ways).length)]) (⟨0, 4, []⟩ :: ⟨0, 1, List.map eBool ((idt a1).occ)⟩ :: ⟨0, 2, List.map ePoint ((idt a1).points)⟩ :: ⟨0, 5, hRows 4 ((idt a1).ways) (List.range ((idt a1).ways).length)⟩ :: List.map fbk (List.map Held.been ((idt a1).ways))) (spec_l2copy_O a1 q26) (PW.cons (Snap2.agg (PW.cons (.bool _) (PW.cons sa_lst (PW.cons sa_lst (PW.cons sa_lst PW.nil))))) PW.nil) ownH_frame (shift_eq shift_frame (by kernel_rfl)) ?_ (er := by simp [shift3, shift2, shift0])
      refine sEq 1 [(9, .ptr 0 1 0 0)] [(3, (eFrame false a1)), (2, (ePlan false a0))] (⟨1, 4, [[ab false, an, an, an]]⟩ :: ⟨0, 1, List.map eBool ((idt a1).occ)⟩ :: ⟨0, 2, List.map ePoint ((idt a1).points)⟩ :: ⟨0, 5, hRows 4 ((idt a1).ways) (List.range ((idt a1).ways).length)⟩ :: List.map fbk (List.map Held.been ((idt a1).ways))) ?_
      refine sStV 1 [] (⟨1, 4, [[ab ((idt a1).ok), rf 1 0 (((idt a1).occ).length), rf 2 0 (((idt a1).points).length), rf 3 0 (((idt a1).ways).length)]]⟩ :: ⟨0, 1, List.map eBool ((idt a1).occ)⟩ :: ⟨0, 2, List.map ePoint ((idt a1).points)⟩ :: ⟨0, 5, hRows 4 ((idt a1).ways) (List.range ((idt a1).ways).length)⟩ :: List.map fbk (List.map Held.been ((idt a1).ways))) (φ := 1 = 1) (ψ := 4 ≤ 4) rfl (by decide) ?_
      exact sEJ [] trivial
     unfold spec_FrameOk_C1 at h
     refine cSeq ?_
     refine rgS [2000009] 22 ?_
     obtain ⟨q36, h⟩ := h
     refine sCallM 2 (some 115) [(114, .agg (ePlan false a0))] [.agg (ePlan false a0), .ptr 0 1 0 0] _ (spec_l2settle_M a0 1 ((idt a1).ok) ((idt a1).occ) ((idt a1).points) ((idt a1).ways) (List.range ((idt a1).ways).length) (List.map Held.been ((idt a1).ways)) q36) (fun r H' hq => by obtain ⟨_, _, _, rfl, _⟩ := hq; rfl) ?_
     rintro r H' ⟨w27, i28, b29, rfl, rfl, q37⟩
     replace h := h w27 i28 b29 q37
     refine sEnd [] ?_
     refine QSeq.normal ?_
     obtain ⟨q35, h⟩ := h
     refine cSeqG ⟨(mkS 119 [(4, ab (sameW a1 (Frame.mk ((idt a1).ok) ((idt a1).occ) ((idt a1).points) (view w27 i28 b29))))]), [(3, (eFrame false a1)), (2, (ePlan false a0))], (⟨1, 4, [[ab ((idt a1).ok), rf 1 0 (((idt a1).occ).length), rf 2 0 (((idt a1).points).length), rf 3 0 w27.length]]⟩ :: ⟨0, 1, List.map eBool ((idt a1).occ)⟩ :: ⟨0, 2, List.map ePoint ((idt a1).points)⟩ :: ⟨0, 5, hRows 4 w27 i28⟩ :: List.map fbk b29)⟩ (True) ?_ (fun q30 => ?_)
     ·
      replace h := q35
      refine rgS [2000009] 23 ?_
      refine sAnd 2 (some 117) (.agg [ab ((idt a1).ok), rf 1 0 (((idt a1).occ).length), rf 2 0 (((idt a1).points).length), rf 3 0 w27.length]) [(116, .agg (eFrame false a1))] (φ := 1 = 1) rfl ?_
      obtain ⟨q31, q32, q33, q34⟩ := h
      refine sCallV 1 (some 118) [] [.agg (eFrame false a1), .agg [ab ((idt a1).ok), rf 1 0 (((idt a1).occ).length), rf 2 0 (((idt a1).points).length), rf 3 0 w27.length]] (spec_l2same_V a1 (Frame.mk ((idt a1).ok) ((idt a1).occ) ((idt a1).points) (view w27 i28 b29)) q34) (PW.cons (Snap2.agg (PW.cons (.bool _) (PW.cons sa_lst (PW.cons sa_lst (PW.cons sa_lst PW.nil))))) (PW.cons (Snap2.agg (PW.cons (.bool _) (PW.cons (sa_blk' (sz := 1) (by simp) rfl (iBool) q31) (PW.cons (sa_blk' (sz := 2) (by simp) rfl (iPoint) q32) (PW.cons (sa_fam (s := 4) (ws := w27) (ids := i28) (bs := b29) (by simp) rfl (fun id k h => by simpa using h) q33.1 q33.2.1 q33.2.2) PW.nil))))) PW.nil)) ?_
      exact sEJ [(4, ab (sameW a1 (Frame.mk ((idt a1).ok) ((idt a1).occ) ((idt a1).points) (view w27 i28 b29))))] trivial
     exact cRet (rt1 (ab (sameW a1 (Frame.mk ((idt a1).ok) ((idt a1).occ) ((idt a1).points) (view w27 i28 b29)))) (SnapR3.of1 (sr_bool h)))
   replace h := h q23
   refine cSeq ?_
   refine cBlock 3 ?_
   refine cRM [2000009] 11 [(7, ai v65), (67, ai v65)] [1] [4] ?_
   obtain ⟨q67, h⟩ := h
   refine cSeqM [] [5] ((!(!(heldOk a0 a1 v65))) = true) ?_ (fun q40 => ?_)
   ·
    replace h := q67
    obtain ⟨q45, h⟩ := h
    refine cSeqM [(72, ab (!(heldOk a0 a1 v65)))] [5] (True) ?_ (fun q41 => ?_)
    ·
     replace h := q45
     refine rgS [2000009] 12 ?_
     have q42 := h
     refine sCallV 4 (some 71) [(70, ai v65), (69, .agg (eFrame false a1)), (68, .agg (ePlan false a0))] [.agg (ePlan false a0), .agg (eFrame false a1), ai v65] (spec_l2held_V a0 a1 v65 q42) (PW.cons (Snap2.agg (PW.cons (.int _ _) (PW.cons sa_lst (PW.cons sa_lst (PW.cons sa_lst (PW.cons (.int _ _) PW.nil)))))) (PW.cons (Snap2.agg (PW.cons (.bool _) (PW.cons sa_lst (PW.cons sa_lst (PW.cons sa_lst PW.nil))))) (PW.cons (Snap2.of1 (.int _ _)) PW.nil))) ?_
     exact sEJ [(72, ab (!(heldOk a0 a1 v65)))] trivial
    refine cCond1 (fun q43 => ?_) (fun q43 => ?_)
    ·
     replace h := h q43
     refine cRM [2000009] 13 [(4, ab false)] [1] [] ?_
     exact cRet (QJoin.ret (QBlock.ret (QSeq.ret (QRound.ret (QBlock.ret (QSeq.ret (rt1 (ab false) (SnapR3.of1 (sr_bool h)))))))))
    ·
     refine cSkip ?_
     exact QJoin.normal (by simp only [q2, q19, q23, q43] <;> rfl) wkJ
   replace h := h q40
   refine cSeqM [(75, ai (a1.ways.length : Int)), (76, ai 0)] [5] (True) ?_ (fun q46 => ?_)
   ·
    refine rgS [2000009] 14 ?_
    refine sLen 3 (some 75) [(74, al (eHeld false) a1.ways), (73, ap 3 3)] (eHeld false) a1.ways (fun q47 => ?_)
    exact sEJ [(76, ai 0)] trivial
   refine cBlock 4 ?_
   obtain ⟨q66, h⟩ := h
   refine cLoop (fun (v : Int) => (⟨(mkS 119 [(2, ap 2 0), (3, ap 3 0), (7, ai v65), (64, ai (a1.ways.length : Int)), (65, ai v65), (75, ai (a1.ways.length : Int)), (76, ai v)]), [(3, (eFrame false a1)), (2, (ePlan false a0))], [⟨0, 4, []⟩]⟩ : St)) (fun (v : Int) => I2 v47 v65 v) (fun (v : Int) => m2 v47 v65 v) 0 (wkL []) q66 (fun v76 hI => ?_)
   replace h := h v76 hI
   refine cRM [2000009] 15 [(77, ab (decide (v76 < (a1.ways.length : Int))))] [1] [7] ?_
   unfold spec_FrameOk_C3 at h
   obtain ⟨q65, h⟩ := h
   refine cSeqM [] [0, 1, 7] ((decide (v76 < (a1.ways.length : Int))) = true) ?_ (fun q49 => ?_)
   ·
    replace h := q65
    refine cCond1 (fun q50 => ?_) (fun q50 => ?_)
    ·
     refine cSkip ?_
     exact QJoin.normal (by simp only [q2, q19, q23, q40, q50] <;> rfl) wkJ
    ·
     replace h := h q50
     refine cExit 4 ?_
     refine QJoin.exit ?_
     refine QRound.exit ?_
     refine QBlock.here ?_
     refine QBlock.normal ?_
     refine QSeq.normal ?_
     refine rgS [2000009] 20 ?_
     refine sEnd [(65, ai (IntKind.i64.wrap (v65 + 1))), (111, ai (IntKind.i64.wrap (v65 + 1)))] ?_
     exact QRound.again (IntKind.i64.wrap (v65 + 1)) h (wkL [])
   replace h := h q49
   obtain ⟨q64, h⟩ := h
   refine cSeqM [] [7] ((!((v65 != v76) && ((nth (nth a0.bars v65) v76) && ((((nth a1.ways v65).state) != 0) && (((nth a1.ways v76).state) != 0))))) = true) ?_ (fun q51 => ?_)
   ·
    replace h := q64
    refine cBlock 5 ?_
    refine cRM [2000009] 16 [(8, ai v76), (78, ai v76)] [1] [7] ?_
    unfold spec_FrameOk_C2 at h
    obtain ⟨q63, h⟩ := h
    refine cSeqM [(109, ab ((v65 != v76) && ((nth (nth a0.bars v65) v76) && ((((nth a1.ways v65).state) != 0) && (((nth a1.ways v76).state) != 0)))))] [0, 1, 7] (True) ?_ (fun q53 => ?_)
    ·
     replace h := q63
     refine rgS [2000009] 17 ?_
     refine sCase1 4 82 (v65 != v76) [(81, ab (v65 != v76)), (80, ai v76), (79, ai v65)] (fun q54 => ?_) (fun q54 => ?_)
     ·
      replace h := h q54
      obtain ⟨q60, h⟩ := h
      refine sIdx 4 (some 86) [(85, ai v65), (84, al (eL eBool false) a0.bars), (83, ap 2 3)] (eL eBool false) a0.bars 1 q60 ?_
      obtain ⟨q59, h⟩ := h
      refine sIdx 3 (some 89) [(88, ai v76), (87, al eBool (nth a0.bars v65))] eBool (nth a0.bars v65) 1 q59 ?_
      refine sCase1 3 92 (nth (nth a0.bars v65) v76) [(91, ab (nth (nth a0.bars v65) v76)), (90, ab (nth (nth a0.bars v65) v76))] (fun q55 => ?_) (fun q55 => ?_)
      ·
       replace h := h q55
       obtain ⟨q58, h⟩ := h
       refine sIdx 4 (some 96) [(95, ai v65), (94, al (eHeld false) a1.ways), (93, ap 3 3)] (eHeld false) a1.ways 5 q58 ?_
       refine sCase1 5 101 (((nth a1.ways v65).state) != 0) [(100, ab (((nth a1.ways v65).state) != 0)), (99, ab (((nth a1.ways v65).state) != 0)), (98, ai ((nth a1.ways v65).state)), (97, .rp (eHeld false (nth a1.ways v65)) 0)] (fun q56 => ?_) (fun q56 => ?_)
       ·
        replace h := h q56
        have q57 := h
        refine sIdx 4 (some 105) [(104, ai v76), (103, al (eHeld false) a1.ways), (102, ap 3 3)] (eHeld false) a1.ways 5 q57 ?_
        exact sEJ [(109, ab (((nth a1.ways v76).state) != 0)), (108, ab (((nth a1.ways v76).state) != 0)), (107, ai ((nth a1.ways v76).state)), (106, .rp (eHeld false (nth a1.ways v76)) 0)] trivial (by simp only [q2, q19, q23, q40, q49, q54, q55, q56] <;> kernel_rfl)
       ·
        exact sEJ ([(109, ab false)] ++ tz [108, 107, 106, 105, 104, 103, 102]) trivial (by simp only [q2, q19, q23, q40, q49, q54, q55, q56] <;> kernel_rfl)
      ·
       exact sEJ ([(109, ab false)] ++ tz [108, 107, 106, 105, 104, 103, 102] ++ [(101, ab false), (100, ab false)] ++ tz [99, 98, 97, 96, 95, 94, 93]) trivial (by simp only [q2, q19, q23, q40, q49, q54, q55] <;> kernel_rfl)
     ·
      exact sEJ ([(109, ab false)] ++ tz [108, 107, 106, 105, 104, 103, 102] ++ [(101, ab false), (100, ab false)] ++ tz [99, 98, 97, 96, 95, 94, 93] ++ [(92, ab false), (91, ab false)] ++ tz [90, 89, 88, 87, 86, 85, 84, 83]) trivial (by simp only [q2, q19, q23, q40, q49, q54] <;> kernel_rfl)
    refine cCond1 (fun q61 => ?_) (fun q61 => ?_)
    ·
     replace h := h q61
     refine cRM [2000009] 18 [(4, ab false)] [1] [] ?_
     exact cRet (QBlock.ret (QJoin.ret (QRound.ret (QBlock.ret (QBlock.ret (QSeq.ret (QRound.ret (QBlock.ret (QSeq.ret (rt1 (ab false) (SnapR3.of1 (sr_bool h))))))))))))
    ·
     refine cSkip ?_
     refine QBlock.normal ?_
     exact QJoin.normal (by simp only [q2, q19, q23, q40, q49, q61] <;> rfl) wkJ
   replace h := h q51
   refine rgS [2000009] 19 ?_
   refine sEnd [(76, ai (IntKind.i64.wrap (v76 + 1))), (110, ai (IntKind.i64.wrap (v76 + 1)))] ?_
   exact QRound.again (IntKind.i64.wrap (v76 + 1)) h (wkL [])
 replace h := h q18
 obtain ⟨q78, h⟩ := h
 refine cSeqE [] [5] (fun L => (6, (ePoint (nth a1.points v47))) :: L) id ((!((!(inR ((nth a1.points v47).want) 1 2)) || (!(inR ((nth a1.points v47).lies) 0 2)))) = true) ?_ (fun q70 => ?_)
 ·
  replace h := q78
  refine cBlock 1 ?_
  obtain ⟨q77, h⟩ := h
  refine cSeqE [(6, ap 6 0)] [5] (fun L => (6, (ePoint (nth a1.points v47))) :: L) id (True) ?_ (fun q71 => ?_)
  ·
   replace h := q77
   refine rgS [2000009] 5 ?_
   have q72 := h
   refine sIdx 1 (some 49) [] ePoint a1.points 2 q72 ?_
   exact sEJ [(6, ap 6 0), (50, .agg (ePoint (nth a1.points v47)))] trivial
  refine cSeqM [(60, ab ((!(inR ((nth a1.points v47).want) 1 2)) || (!(inR ((nth a1.points v47).lies) 0 2))))] [0, 1, 5] (True) ?_ (fun q73 => ?_)
  ·
   refine rgS [2000009] 6 ?_
   refine sCallV 3 (some 53) [(52, ai ((nth a1.points v47).want)), (51, ap 6 0)] [ai ((nth a1.points v47).want), ai 1, ai 2] (spec_l1in_V ((nth a1.points v47).want) 1 2) (PW.cons (Snap2.of1 (.int _ _)) (PW.cons (Snap2.of1 (.int _ _)) (PW.cons (Snap2.of1 (.int _ _)) PW.nil))) ?_
   refine sCase1 2 55 (!(inR ((nth a1.points v47).want) 1 2)) [(54, ab (!(inR ((nth a1.points v47).want) 1 2)))] (fun q74 => ?_) (fun q74 => ?_)
   ·
    exact sEJ ([(60, ab true)] ++ tz [59, 58, 57, 56]) trivial (by simp only [q2, q18, q74] <;> kernel_rfl)
   ·
    refine sCallV 3 (some 58) [(57, ai ((nth a1.points v47).lies)), (56, ap 6 1)] [ai ((nth a1.points v47).lies), ai 0, ai 2] (spec_l1in_V ((nth a1.points v47).lies) 0 2) (PW.cons (Snap2.of1 (.int _ _)) (PW.cons (Snap2.of1 (.int _ _)) (PW.cons (Snap2.of1 (.int _ _)) PW.nil))) ?_
    exact sEJ [(60, ab (!(inR ((nth a1.points v47).lies) 0 2))), (59, ab (!(inR ((nth a1.points v47).lies) 0 2)))] trivial (by simp only [q2, q18, q74] <;> kernel_rfl)
  refine cCond1 (fun q75 => ?_) (fun q75 => ?_)
  ·
   replace h := h q75
   refine cRM [2000009] 7 [(4, ab false)] [1] [] ?_
   exact cRet (QBlock.ret (QJoin.ret (QRound.ret (QBlock.ret (QSeq.ret (rt1 (ab false) (SnapR3.of1 (sr_bool h))))))))
  ·
   refine cSkip ?_
   refine QBlock.normal ?_
   exact QJoin.normal (by simp only [q2, q18, q75] <;> rfl) wkJ
 replace h := h q70
 refine rgS [2000009] 8 ?_
 refine sEnd [(47, ai (IntKind.i64.wrap (v47 + 1))), (61, ai (IntKind.i64.wrap (v47 + 1)))] ?_
 exact QRound.again (IntKind.i64.wrap (v47 + 1)) h (wkL [6])
theorem spec_FrameOk_V (a0 : Plan) (a1 : Frame) (hp : frameSm a0 a1) : FnV Try.prog 41 [.agg (ePlan false a0), .agg (eFrame false a1)] (ab (frameOk a0 a1)) := spec_FrameOk_walk a0 a1 (frameOk a0 a1) (upI a1.points.length (fun j => (!(inR (nth a1.points j).want 1 2)) || (!(inR (nth a1.points j).lies 0 2)))) (upM a1.points.length) (fun _ i => (∀ x ∈ a1.points, ptOk x = true) ∧ upI a1.ways.length (fun i => !(heldOk a0 a1 i) || rowHit a0 a1 a1.ways.length i) i) (fun _ => upM a1.ways.length) (fun _ i => upI a1.ways.length (fun k => barHit a0 a1 i k)) (fun _ _ => upM a1.ways.length) (by
 unfold spec_FrameOk_C spec_FrameOk_C5
 have hs : smallF a1 := hp
 have no : ∀ φ : Prop, (frameOk a0 a1 = true → φ) → ¬ φ → false = frameOk a0 a1 := fun φ h1 h2 => by
  cases h : frameOk a0 a1 with
  | false => rfl
  | true => exact absurd (h1 h) h2
 have D := fun h => (frameOk_iff (p := a0) (f := a1)).1 h
 refine ⟨fun hq => no _ D (fun hd => by have := hd.1; unfold frBase at this; rw [hq] at this; cases this), fun hq hn => ⟨up_start (len0 _), fun v hI => ?_⟩⟩
 have hbase : frBase a0 a1 = true := hq
 obtain ⟨b1, b2, b3, b4, b5⟩ := frBase_iff.1 hbase
 have hP := planGood_in b1
 have hB := planGood_bars b1
 unfold spec_FrameOk_C4
 refine ⟨fun hv hm => ?_, fun hv => ⟨⟨up_in hI hv, fun hb => no _ D fun hd => ?_⟩, fun hb => up_step (lenI hn) hI hv (not_eq hb)⟩⟩
 ·have hpt : ∀ x ∈ a1.points, ptOk x = true := fun x hx => by
   have := up_all (q := fun x : Point => (!(inR x.want 1 2)) || (!(inR x.lies 0 2))) (up_end hI hv) x hx
   unfold ptOk
   simpa [Bool.and_eq_true] using this
  refine ⟨⟨hpt, up_start (len0 _)⟩, fun i hJ => ⟨fun hi => ?_, fun hi => ?_⟩⟩
  ·have hall := up_end hJ.2 hi
   have hheld : ∀ i : Int, 0 ≤ i → i < a1.ways.length → heldOk a0 a1 i = true := fun i i0 i1 => by
    have := hall i i0 i1
    rw [Bool.or_eq_false_iff] at this
    simpa using this.1
   have hbars : ∀ i k : Int, 0 ≤ i → i < a1.ways.length → 0 ≤ k → k < a1.ways.length → barHit a0 a1 i k = false := fun i k i0 i1 k0 k1 => by
    have := hall i i0 i1
    rw [Bool.or_eq_false_iff] at this
    have h2 := this.2
    unfold rowHit at h2
    rw [List.any_eq_false] at h2
    have := h2 k.toNat (List.mem_range.2 (by omega))
    rw [Int.toNat_of_nonneg k0] at this
    simpa using this
   have hF : FrameIn a0 a1 := frame_in hbase fun i i0 i1 => by
    have := hheld i i0 i1
    rw [heldOk_parts, Bool.and_eq_true] at this; exact this.1
   obtain ⟨r1, r2, r3⟩ := fam_range a1.ways
   have hG : FamG a1.ways (List.range a1.ways.length) (a1.ways.map Held.been) := ⟨r1, r2, fun b hb => by
    obtain ⟨h, hh, rfl⟩ := List.mem_map.1 hb; exact hs.2.2.2 h hh⟩
   have hth : theF a1.ok a1.occ a1.points a1.ways (List.range a1.ways.length) (a1.ways.map Held.been) = a1 := by unfold theF; rw [r3]
   refine ⟨hs, ⟨hG, ?_⟩, fun w i b hpost => ?_⟩
   ·show settlePre a0 (theF a1.ok a1.occ a1.points a1.ways (List.range a1.ways.length) (a1.ways.map Held.been))
    rw [hth]; exact ⟨hP, hF⟩
   ·obtain ⟨G, hv⟩ := hpost
    replace hv : view w i b = (settleF a0 (theF a1.ok a1.occ a1.points a1.ways (List.range a1.ways.length) (a1.ways.map Held.been))).ways := hv
    rw [hth] at hv
    have hl : w.length = a1.ways.length := by rw [← view_len G.ok, hv]; exact settleN_len _ _ _
    have hF2 := settleN_in hF a1.ways.length
    obtain ⟨s1, s2, s3, s4⟩ := hs
    have hvl : (settleF a0 a1).ways.length = a1.ways.length := settleN_len _ _ _
    have hbn : ∀ h ∈ (settleF a0 a1).ways, h.been.length ≤ 1048576 := fun h hh => by
     obtain ⟨j, hj, rfl⟩ := List.mem_iff_getElem.1 hh
     have := hF2.been j _ _ (List.getElem?_eq_getElem hj) (List.getElem?_eq_getElem (by omega))
     rw [this]
     have := (hP.sections _ (List.getElem_mem (show j < a0.ways.length by omega))).2.1
     omega
    refine ⟨⟨by show a1.occ.length ≤ _; omega, by show a1.points.length ≤ _; omega, ⟨G.ok, by omega, fun x hx => by have := G.len x hx; omega⟩, ?_, ⟨s1, s2, s3, s4⟩, ⟨s1, s2, ?_, ?_⟩, fun j x y e1 e2 => ?_⟩, ?_⟩
    ·show a1.ways.length = (view w i b).length; rw [view_len G.ok, hl]
    ·show (view w i b).length ≤ _; rw [view_len G.ok]; omega
    ·show ∀ h ∈ view w i b, _
     rw [hv]; exact hbn
    ·replace e2 : (view w i b)[j]? = some y := e2
     rw [hv] at e2
     have hj := (List.getElem?_eq_some_iff.1 e1).1
     have hw := List.getElem?_eq_getElem (show j < a0.ways.length by omega)
     rw [hF.been j _ _ e1 hw, hF2.been j _ _ e2 hw]
    ·unfold sameW
     show decide (a1.ways = view w i b) = _
     rw [hv]
     by_cases h : a1.ways = (settleF a0 a1).ways
     ·rw [decide_eq_true h, frameOk_iff.2 ⟨hbase, hpt, hheld, hbars, h⟩]
     ·rw [decide_eq_false h]
      exact no _ D fun hd => h hd.2.2.2.2
  ·have hin := up_in hJ.2 hi
   refine ⟨⟨⟨hP, hs, b5, hin.1, by omega⟩, fun hb => no _ D fun hd => ?_⟩, fun hb => ⟨up_start (len0 _), fun k hK => ?_⟩⟩
   ·rw [hd.2.2.1 i hin.1 (by omega)] at hb; cases hb
   ·have hb : heldOk a0 a1 i = true := by simpa using hb
    unfold spec_FrameOk_C3
    refine ⟨fun hk => ?_, fun hk => ⟨?_, fun hq => up_step (lenI hm) hK hk (not_eq hq)⟩⟩
    ·have := up_step (lenI hm) hJ.2 hi (show (!(heldOk a0 a1 i) || rowHit a0 a1 a1.ways.length i) = false by
      rw [hb]
      exact List.any_eq_false.2 fun k hk' => by rw [up_end hK hk k (by omega) (by have := List.mem_range.1 hk'; omega)]; simp)
     exact ⟨⟨hpt, this.1⟩, this.2⟩
    ·have hkn := up_in hK hk
     have hbl := hB.len
     have hrow := hB.row i hin.1 (by omega)
     unfold spec_FrameOk_C2
     refine ⟨fun _ => ⟨⟨hin.1, by omega⟩, ⟨hkn.1, by omega⟩, fun _ => ⟨hin, fun _ => hkn⟩⟩, fun hq => no _ D fun hd => ?_⟩
     have := hd.2.2.2.1 i k hin.1 (by omega) hkn.1 (by omega)
     have hq : barHit a0 a1 i k = true := hq
     rw [this] at hq; cases hq
 ·have := hd.2.1 _ (nth_mem (up_in hI hv).2)
  unfold ptOk at this
  rw [Bool.and_eq_true] at this
  rw [this.1, this.2] at hb; cases hb)
def spec_FrameOk_c : Ctr Try.prog := ⟨41, [.plan, .frame], [.bool], some fun x => frameSm x.1 x.2.1, fun x => ((frameOk x.1 x.2.1), ()), fun x h => spec_FrameOk_V x.1 x.2.1 h⟩
def impl_FrameOk_o40 : List Item := [iq 0, iq 1, iq 2, iq 3, iq 4, iq 5]
def impl_FrameOk_o40a : List (List Nat) := [[], [], [], [1, 2], rg 0 4, rg 0 5]
def impl_FrameOk_C1 (I2 : Int → Int → Int → Prop) (m2 : Int → Int → Int → Nat) (a0 : Plan) (a1 : Frame) (res : Bool) (v48 v158 v74 : Int) : Prop :=
  (((((nth a1.ways v74).state) != 0) = true → (0 ≤ v158 ∧ v158.toNat < a1.ways.length) ∧ ((((nth a1.ways v158).state) != 0) = true → (0 ≤ v74 ∧ v74.toNat < a0.bars.length) ∧ (0 ≤ v158 ∧ v158.toNat < (nth a0.bars v74).length))) ∧ (((((nth a1.ways v74).state) != 0) && ((((nth a1.ways v158).state) != 0) && (nth (nth a0.bars v74) v158))) = true → false = res)) ∧ ((!((((nth a1.ways v74).state) != 0) && ((((nth a1.ways v158).state) != 0) && (nth (nth a0.bars v74) v158)))) = true → I2 v48 v74 (IntKind.i64.wrap (v158 + 1)) ∧ m2 v48 v74 (IntKind.i64.wrap (v158 + 1)) < m2 v48 v74 v158)
def impl_FrameOk_C2 (I1 : Int → Int → Prop) (m1 : Int → Int → Nat) (I2 : Int → Int → Int → Prop) (m2 : Int → Int → Int → Nat) (a0 : Plan) (a1 : Frame) (res : Bool) (v48 v74 : Int) : Prop :=
  (((((nth a1.ways v74).state) == 0) = true → (nth a1.ways v74).shown = true → false = res) ∧ ((((nth a1.ways v74).state) == 0) = false → (bif (((nth a1.ways v74).state) == 2) then (((nth a1.ways v74).state) == 2) else (((nth a1.ways v74).state) == 3)) = true → (!((nth a1.ways v74).shown)) = true → false = res)) ∧ ((bif (((nth a1.ways v74).state) == 0) then (!((nth a1.ways v74).shown)) else (!(bif (((nth a1.ways v74).state) == 2) then (((nth a1.ways v74).state) == 2) else (((nth a1.ways v74).state) == 3)) || (!(!((nth a1.ways v74).shown))))) = true → I2 v48 v74 0 ∧ ∀ (v158 : Int), I2 v48 v74 v158 → (((decide (v158 < v74)) = false → I1 v48 (IntKind.i64.wrap (v74 + 1)) ∧ m1 v48 (IntKind.i64.wrap (v74 + 1)) < m1 v48 v74) ∧ ((decide (v158 < v74)) = true → impl_FrameOk_C1 I2 m2 a0 a1 res v48 v158 v74)))
def impl_FrameOk_C3 (I1 : Int → Int → Prop) (m1 : Int → Int → Nat) (I2 : Int → Int → Int → Prop) (m2 : Int → Int → Int → Nat) (a0 : Plan) (a1 : Frame) (res : Bool) (v48 v74 : Int) : Prop :=
  (((((nth a1.ways v74).state) == 3) = true → ((decide (((nth a1.ways v74).timer) < 1)) || (decide (((nth a1.ways v74).timer) > a0.hold))) = true → false = res) ∧ ((((nth a1.ways v74).state) == 3) = false → (((nth a1.ways v74).timer) != 0) = true → false = res)) ∧ ((bif (((nth a1.ways v74).state) == 3) then (!((decide (((nth a1.ways v74).timer) < 1)) || (decide (((nth a1.ways v74).timer) > a0.hold)))) else (!(((nth a1.ways v74).timer) != 0))) = true → impl_FrameOk_C2 I1 m1 I2 m2 a0 a1 res v48 v74)
def impl_FrameOk_C4 (I1 : Int → Int → Prop) (m1 : Int → Int → Nat) (I2 : Int → Int → Int → Prop) (m2 : Int → Int → Int → Nat) (a0 : Plan) (a1 : Frame) (res : Bool) (v48 v74 : Int) : Prop :=
  (((((nth a1.ways v74).state) != 4) = true → ((((nth a1.ways v74).gone) != 0) || (hasBool ((nth a1.ways v74).been) true)) = true → false = res) ∧ ((((nth a1.ways v74).state) != 4) = false → (0 ≤ ((nth a1.ways v74).gone) ∧ ((nth a1.ways v74).gone) ≤ (((nth a1.ways v74).been).length : Int)) ∧ ((hasBool (((nth a1.ways v74).been).take ((nth a1.ways v74).gone).toNat) false) = true → false = res))) ∧ ((bif (((nth a1.ways v74).state) != 4) then (!((((nth a1.ways v74).gone) != 0) || (hasBool ((nth a1.ways v74).been) true))) else (!(hasBool (((nth a1.ways v74).been).take ((nth a1.ways v74).gone).toNat) false))) = true → impl_FrameOk_C3 I1 m1 I2 m2 a0 a1 res v48 v74)
def impl_FrameOk_C5 (I1 : Int → Int → Prop) (m1 : Int → Int → Nat) (I2 : Int → Int → Int → Prop) (m2 : Int → Int → Int → Nat) (a0 : Plan) (a1 : Frame) (res : Bool) (v48 v74 : Int) : Prop :=
  (((decide (((nth a1.ways v74).state) < 0)) || ((decide (((nth a1.ways v74).state) > 4)) || (((((nth a1.ways v74).been).length : Int) != (((nth a0.ways v74).sections).length : Int)) || ((decide (((nth a1.ways v74).gone) < 0)) || (decide (((nth a1.ways v74).gone) ≥ (((nth a0.ways v74).sections).length : Int))))))) = true → false = res) ∧ ((!((decide (((nth a1.ways v74).state) < 0)) || ((decide (((nth a1.ways v74).state) > 4)) || (((((nth a1.ways v74).been).length : Int) != (((nth a0.ways v74).sections).length : Int)) || ((decide (((nth a1.ways v74).gone) < 0)) || (decide (((nth a1.ways v74).gone) ≥ (((nth a0.ways v74).sections).length : Int)))))))) = true → impl_FrameOk_C4 I1 m1 I2 m2 a0 a1 res v48 v74)
def impl_FrameOk_C6 (I0 : Int → Prop) (m0 : Int → Nat) (a1 : Frame) (res : Bool) (v48 : Int) : Prop :=
  ((0 ≤ v48 ∧ v48.toNat < a1.points.length) ∧ ((bif (((nth a1.points v48).want) != 1) then ((((nth a1.points v48).want) != 2) || ((decide (((nth a1.points v48).lies) < 0)) || (decide (((nth a1.points v48).lies) > 2)))) else ((decide (((nth a1.points v48).lies) < 0)) || (decide (((nth a1.points v48).lies) > 2)))) = true → false = res)) ∧ ((!(bif (((nth a1.points v48).want) != 1) then ((((nth a1.points v48).want) != 2) || ((decide (((nth a1.points v48).lies) < 0)) || (decide (((nth a1.points v48).lies) > 2)))) else ((decide (((nth a1.points v48).lies) < 0)) || (decide (((nth a1.points v48).lies) > 2))))) = true → I0 (IntKind.i64.wrap (v48 + 1)) ∧ m0 (IntKind.i64.wrap (v48 + 1)) < m0 v48)
def impl_FrameOk_C7 (I0 : Int → Prop) (m0 : Int → Nat) (I1 : Int → Int → Prop) (m1 : Int → Int → Nat) (I2 : Int → Int → Int → Prop) (m2 : Int → Int → Int → Nat) (a0 : Plan) (a1 : Frame) (res : Bool) (v48 : Int) : Prop :=
  ((decide (v48 < (a1.points.length : Int))) = false → a1.ways.length ≤ 4611686018427387904 → I1 v48 0 ∧ ∀ (v74 : Int), I1 v48 v74 → (((decide (v74 < (a1.ways.length : Int))) = false → (settlePre a0 a1) ∧ ((sameF a1 (settleF a0 a1)) = res)) ∧ ((decide (v74 < (a1.ways.length : Int))) = true → (0 ≤ v74 ∧ v74.toNat < a1.ways.length) ∧ ((0 ≤ v74 ∧ v74.toNat < a0.ways.length) ∧ (((nth a0.ways v74).sections).length ≤ 4611686018427387904 → impl_FrameOk_C5 I1 m1 I2 m2 a0 a1 res v48 v74))))) ∧ ((decide (v48 < (a1.points.length : Int))) = true → impl_FrameOk_C6 I0 m0 a1 res v48)
def impl_FrameOk_C8 (I0 : Int → Prop) (m0 : Int → Nat) (I1 : Int → Int → Prop) (m1 : Int → Int → Nat) (I2 : Int → Int → Int → Prop) (m2 : Int → Int → Int → Nat) (a0 : Plan) (a1 : Frame) (res : Bool) : Prop :=
  (((!(planGood a0)) || ((!a1.ok) || (((a1.occ.length : Int) != a0.sections) || (((a1.points.length : Int) != (a0.switches.length : Int)) || ((a1.ways.length : Int) != (a0.ways.length : Int)))))) = true → false = res) ∧ ((!((!(planGood a0)) || ((!a1.ok) || (((a1.occ.length : Int) != a0.sections) || (((a1.points.length : Int) != (a0.switches.length : Int)) || ((a1.ways.length : Int) != (a0.ways.length : Int))))))) = true → a1.points.length ≤ 4611686018427387904 → I0 0 ∧ ∀ (v48 : Int), I0 v48 → (impl_FrameOk_C7 I0 m0 I1 m1 I2 m2 a0 a1 res v48))
def impl_FrameOk_C (a0 : Plan) (a1 : Frame) (res : Bool) (I0 : Int → Prop) (m0 : Int → Nat) (I1 : Int → Int → Prop) (m1 : Int → Int → Nat) (I2 : Int → Int → Int → Prop) (m2 : Int → Int → Int → Nat) : Prop :=
 impl_FrameOk_C8 I0 m0 I1 m1 I2 m2 a0 a1 res
theorem impl_FrameOk_V (a0 : Plan) (a1 : Frame) (hp : frameSm a0 a1) : FnV Try.prog 43 [.agg (ePlan false a0), .agg (eFrame false a1)] (ab (frameOk a0 a1)) := (fun (I0 : Int → Prop) (m0 : Int → Nat) (I1 : Int → Int → Prop) (m1 : Int → Int → Nat) (I2 : Int → Int → Int → Prop) (m2 : Int → Int → Int → Nat) (h : impl_FrameOk_C a0 a1 (frameOk a0 a1) I0 m0 I1 m1 I2 m2) => FnV.run (ps := [.plan, .frame]) (rs := [.bool]) (x := (a0, a1, ())) (r := ((frameOk a0 a1), ())) ⟨190, ecs, [impl_right_c, impl_settle_c, impl_same_c, slices_Contains_bool_c]⟩ ⟨[], [(40, impl_FrameOk_o40, impl_FrameOk_o40a)]⟩ (lp1 [2, 3, 46, 47] [(3, 4), (2, 5)] 48 I0 m0 fun w0 => (lp1 [2, 3, 72, 73] [(3, 4), (2, 5)] 74 (I1 w0) (m1 w0) fun w1 => (lp1 [2, 3, 7, 8, 72, 73, 74, 157] [(8, 5), (3, 4), (2, 5)] 158 (I2 w0 w1) (m2 w0 w1) fun _ => .nil))) Try.func43 h) (upI a1.points.length (fun j => !ptOk (nth a1.points j))) (upM a1.points.length) (fun _ i => (∀ x ∈ a1.points, ptOk x = true) ∧ upI a1.ways.length (fun i => !(heldOk a0 a1 i) || rowHit a0 a1 i.toNat i) i) (fun _ => upM a1.ways.length) (fun _ i => upI i (fun k => barHit a0 a1 i k)) (fun _ i => upM i) (by
 unfold impl_FrameOk_C impl_FrameOk_C8
 have hs : smallF a1 := hp
 have no : ∀ φ : Prop, (frameOk a0 a1 = true → φ) → ¬ φ → false = frameOk a0 a1 := fun φ h1 h2 => by
  cases h : frameOk a0 a1 with
  | false => rfl
  | true => exact absurd (h1 h) h2
 have D := fun h => (frameOk_iff (p := a0) (f := a1)).1 h
 refine ⟨fun hq => no _ D (fun hd => by have := hd.1; unfold frBase at this; rw [hq] at this; cases this), fun hq hn => ⟨up_start (len0 _), fun v hI => ?_⟩⟩
 have hbase : frBase a0 a1 = true := hq
 obtain ⟨b1, b2, b3, b4, b5⟩ := frBase_iff.1 hbase
 have hP := planGood_in b1
 have hB := planGood_bars b1
 unfold impl_FrameOk_C7
 refine ⟨fun hv hm => ?_, fun hv => ?_⟩
 ·have hpt : ∀ x ∈ a1.points, ptOk x = true := fun x hx => by
   simpa using up_all (q := fun x : Point => !ptOk x) (up_end hI hv) x hx
  refine ⟨⟨hpt, up_start (len0 _)⟩, fun i hJ => ⟨fun hi => ?_, fun hi => ?_⟩⟩
  ·have hall := up_end hJ.2 hi
   have hheld : ∀ i : Int, 0 ≤ i → i < a1.ways.length → heldOk a0 a1 i = true := fun i i0 i1 => by
    have := hall i i0 i1
    rw [Bool.or_eq_false_iff] at this
    simpa using this.1
   have hlow : ∀ i k : Int, 0 ≤ i → i < a1.ways.length → 0 ≤ k → k < i → barHit a0 a1 i k = false := fun i k i0 i1 k0 k1 => by
    have := hall i i0 i1
    rw [Bool.or_eq_false_iff] at this
    have h2 := this.2
    unfold rowHit at h2
    rw [List.any_eq_false] at h2
    have := h2 k.toNat (List.mem_range.2 (by omega))
    rw [Int.toNat_of_nonneg k0] at this
    simpa using this
   have hbars : ∀ i k : Int, 0 ≤ i → i < a1.ways.length → 0 ≤ k → k < a1.ways.length → barHit a0 a1 i k = false := fun i k i0 i1 k0 k1 => by
    rcases Int.lt_trichotomy k i with h | h | h
    ·exact hlow i k i0 i1 k0 h
    ·unfold barHit; rw [h]; simp
    ·rw [barHit_sym hB b5 i0 i1 k0 k1]; exact hlow k i k0 k1 i0 h
   have hF : FrameIn a0 a1 := frame_in hbase fun i i0 i1 => by
    have := hheld i i0 i1
    rw [heldOk_parts, Bool.and_eq_true] at this; exact this.1
   refine ⟨⟨hP, hF⟩, ?_⟩
   obtain ⟨s1, s2, s3⟩ := settleN_same a0 a1 a1.ways.length
   unfold sameF
   rw [show (settleF a0 a1).occ = a1.occ from s2, show (settleF a0 a1).points = a1.points from s3]
   unfold eqv
   by_cases h : a1.ways = (settleF a0 a1).ways
   ·rw [decide_eq_true h, frameOk_iff.2 ⟨hbase, hpt, hheld, hbars, h⟩]; simp
   ·rw [decide_eq_false h, Bool.and_false]
    exact no _ D fun hd => h hd.2.2.2.2
  ·have hin := up_in hJ.2 hi
   have hi' : i < (a1.ways.length : Int) := by simpa using hi
   have noH : ∀ c : Bool, c = false → (heldOk a0 a1 i = true → c = true) → false = frameOk a0 a1 := fun c hc h => no _ D fun hd => by
    have := h (hd.2.2.1 i hin.1 (by omega)); rw [hc] at this; cases this
   have P := heldOk_parts a0 a1 i
   refine ⟨hin, ⟨hin.1, by omega⟩, fun hsl => ?_⟩
   unfold impl_FrameOk_C5
   refine ⟨fun hq => noH (heldB1 a0 a1 i) (by unfold heldB1; rw [hq]; rfl) fun h => by rw [P, Bool.and_eq_true] at h; exact h.1, fun hq1 => ?_⟩
   have h1 : heldB1 a0 a1 i = true := hq1
   rw [h1, Bool.true_and] at P
   have hgone : 0 ≤ (nth a1.ways i).gone ∧ (nth a1.ways i).gone ≤ ((nth a1.ways i).been.length : Int) := by
    unfold heldB1 at h1
    simp only [Bool.not_eq_true', Bool.or_eq_false_iff, bne_eq_false_iff_eq, decide_eq_false_iff_not] at h1
    omega
   unfold impl_FrameOk_C4
   refine ⟨⟨fun h4 hq => noH (heldB2 a1 i) (by unfold heldB2; rw [h4, hq]; rfl) fun h => by rw [P, Bool.and_eq_true] at h; exact h.1,
    fun h4 => ⟨hgone, fun hq => noH (heldB2 a1 i) (by unfold heldB2; rw [h4, hq]; rfl) fun h => by rw [P, Bool.and_eq_true] at h; exact h.1⟩⟩, fun hq2 => ?_⟩
   have h2 : heldB2 a1 i = true := hq2
   rw [h2, Bool.true_and] at P
   unfold impl_FrameOk_C3
   refine ⟨⟨fun h4 hq => noH (heldB3 a0 a1 i) (by unfold heldB3; rw [h4, hq]; rfl) fun h => by rw [P, Bool.and_eq_true] at h; exact h.1,
    fun h4 hq => noH (heldB3 a0 a1 i) (by unfold heldB3; rw [h4, hq]; rfl) fun h => by rw [P, Bool.and_eq_true] at h; exact h.1⟩, fun hq3 => ?_⟩
   have h3 : heldB3 a0 a1 i = true := hq3
   rw [h3, Bool.true_and] at P
   unfold impl_FrameOk_C2
   refine ⟨⟨fun h4 hq => noH (heldB4 a1 i) (by unfold heldB4; rw [h4, hq]; rfl) fun h => by rw [P] at h; exact h,
    fun h4 hc hq => noH (heldB4 a1 i) (by unfold heldB4; rw [h4, hc, hq]; rfl) fun h => by rw [P] at h; exact h⟩, fun hq4 => ?_⟩
   have h4 : heldB4 a1 i = true := hq4
   rw [h4] at P
   refine ⟨up_start hin.1, fun k hK => ⟨fun hk => ?_, fun hk => ?_⟩⟩
   ·have := up_step (lenI hm) hJ.2 hi (show (!(heldOk a0 a1 i) || rowHit a0 a1 i.toNat i) = false by
     rw [P]
     exact List.any_eq_false.2 fun k hk' => by rw [up_end hK hk k (by omega) (by have := List.mem_range.1 hk'; omega)]; simp)
    exact ⟨⟨hpt, this.1⟩, this.2⟩
   ·have hki : k < i := by simpa using hk
    have hk0 := hK.1
    have hbl := hB.len
    have hrow := hB.row i hin.1 (by omega)
    have hc : ((((nth a1.ways i).state) != 0) && ((((nth a1.ways k).state) != 0) && (nth (nth a0.bars i) k))) = barHit a0 a1 i k := by
     unfold barHit bar
     rw [show (i != k) = true by simpa using (show i ≠ k by omega)]
     cases ((nth a1.ways i).state != 0) <;> cases ((nth a1.ways k).state != 0) <;> cases (nth (nth a0.bars i) k) <;> rfl
    unfold impl_FrameOk_C1
    rw [hc]
    refine ⟨⟨fun _ => ⟨⟨hk0, by omega⟩, fun _ => ⟨⟨hin.1, by omega⟩, hk0, by omega⟩⟩, fun hq => no _ D fun hd => ?_⟩, fun hq => up_step (by omega) hK hk (not_eq hq)⟩
    have := hd.2.2.2.1 i k hin.1 (by omega) hk0 (by omega)
    rw [this] at hq; cases hq
 ·unfold impl_FrameOk_C6
  rw [ptBad]
  refine ⟨⟨up_in hI hv, fun hb => no _ D fun hd => ?_⟩, fun hb => up_step (lenI hn) hI hv (not_eq hb)⟩
  have := hd.2.1 _ (nth_mem (up_in hI hv).2)
  rw [this] at hb; cases hb)
def impl_FrameOk_c : Ctr Try.prog := ⟨43, [.plan, .frame], [.bool], some fun x => frameSm x.1 x.2.1, fun x => ((frameOk x.1 x.2.1), ()), fun x h => impl_FrameOk_V x.1 x.2.1 h⟩
end Go.Proofs.Ytglpfccgmfhkdaa.Fw
/- Walks and summaries of functions, printed by a program of mine (tools/mk2.py), with the proofs of what they owe. -/

set_option linter.unusedVariables false
set_option maxRecDepth 100000
set_option maxHeartbeats 4000000
set_option linter.unusedSimpArgs false
namespace Go.Proofs.Ytglpfccgmfhkdaa.Fw
open Go
attribute [local irreducible] evS evSD WpS Weak Oper.looksAt
def impl_is_C (a0 : Int) (a1 : Int) (res : Bool) : Prop :=
 ((decide (a0 ≥ 0)) && (decide (a0 < a1))) = res
theorem impl_is_V (a0 : Int) (a1 : Int) : FnV Try.prog 107 [ai a0, ai a1] (ab (isIn a0 a1)) := (fun (h : impl_is_C a0 a1 (isIn a0 a1)) => FnV.run (ps := [.int, .int]) (rs := [.bool]) (x := (a0, a1, ())) (r := ((isIn a0 a1), ())) ⟨12, ecs, []⟩ ⟨[], []⟩ .nil Try.func107 h) (by
 unfold impl_is_C isIn
 rfl)
def impl_is_c : Ctr Try.prog := ⟨107, [.int, .int], [.bool], none, fun x => ((isIn x.1 x.2.1), ()), fun x h => impl_is_V x.1 x.2.1⟩
def spec_l3holds_C1 (I0 : Int → Prop) (m0 : Int → Nat) (a0 : Plan) (a1 : Frame) (a2 a3 : Int) (res : Bool) (v25 : Int) : Prop :=
  ((0 ≤ v25 ∧ v25.toNat < ((nth a0.ways a2).sections).length) ∧ ((((nth ((nth a0.ways a2).sections) v25) == a3) = true → 0 ≤ a2 ∧ a2.toNat < a1.ways.length) ∧ ((((nth ((nth a0.ways a2).sections) v25) == a3) && (decide (v25 ≥ ((nth a1.ways a2).gone)))) = true → true = res))) ∧ ((!(((nth ((nth a0.ways a2).sections) v25) == a3) && (decide (v25 ≥ ((nth a1.ways a2).gone))))) = true → I0 (IntKind.i64.wrap (v25 + 1)) ∧ m0 (IntKind.i64.wrap (v25 + 1)) < m0 v25)
def spec_l3holds_C2 (I0 : Int → Prop) (m0 : Int → Nat) (a0 : Plan) (a1 : Frame) (a2 a3 : Int) (res : Bool) : Prop :=
  ((0 ≤ a2 ∧ a2.toNat < a1.ways.length) ∧ ((((nth a1.ways a2).state) == 0) = true → false = res)) ∧ ((!(((nth a1.ways a2).state) == 0)) = true → (0 ≤ a2 ∧ a2.toNat < a0.ways.length) ∧ (((nth a0.ways a2).sections).length ≤ 4611686018427387904 → I0 0 ∧ ∀ (v25 : Int), I0 v25 → (((decide (v25 < (((nth a0.ways a2).sections).length : Int))) = false → false = res) ∧ ((decide (v25 < (((nth a0.ways a2).sections).length : Int))) = true → spec_l3holds_C1 I0 m0 a0 a1 a2 a3 res v25))))
def spec_l3holds_C (a0 : Plan) (a1 : Frame) (a2 : Int) (a3 : Int) (res : Bool) (I0 : Int → Prop) (m0 : Int → Nat) : Prop :=
 spec_l3holds_C2 I0 m0 a0 a1 a2 a3 res
theorem spec_l3holds_V (a0 : Plan) (a1 : Frame) (a2 : Int) (a3 : Int) (hp : holdsPre a0 a1 a2 a3) : FnV Try.prog 111 [.agg (ePlan false a0), .agg (eFrame false a1), ai a2, ai a3] (ab (holdsF a0 a1 a2 a3)) := (fun (I0 : Int → Prop) (m0 : Int → Nat) (h : spec_l3holds_C a0 a1 a2 a3 (holdsF a0 a1 a2 a3) I0 m0) => FnV.run (ps := [.plan, .frame, .int, .int]) (rs := [.bool]) (x := (a0, a1, a2, a3, ())) (r := ((holdsF a0 a1 a2 a3), ())) ⟨44, ecs, []⟩ ⟨[], []⟩ (lp1 [2, 3, 5, 23, 24] [(5, 4)] 25 I0 m0 fun _ => .nil) Try.func111 h) (upI (nth a0.ways a2).sections.length (fun k => ((nth (nth a0.ways a2).sections k) == a3) && (decide (k ≥ (nth a1.ways a2).gone)))) (upM (nth a0.ways a2).sections.length) (by
 unfold spec_l3holds_C spec_l3holds_C2
 obtain ⟨hf, h0, h1⟩ := hp
 have hw := hf.fr.ways
 have hlt : a2.toNat < a0.ways.length := by omega
 have hlt1 : a2.toNat < a1.ways.length := by omega
 have hg := hf.fr.gone _ (nth_mem hlt1)
 refine ⟨⟨⟨h0, hlt1⟩, fun h => ?_⟩, fun h => ⟨⟨h0, hlt⟩, fun hn => ⟨up_start (len0 _), fun v hI => ⟨fun hv => ?_, fun hv => ?_⟩⟩⟩⟩
 ·unfold holdsF
  rw [show ((nth a1.ways a2).state != 0) = false by simpa using h]; rfl
 ·have hs : ((nth a1.ways a2).state != 0) = true := by simpa using h
  unfold holdsF
  rw [hs, Bool.true_and, eq_comm, ← Bool.not_eq_true, drop_has]
  rintro ⟨k, hk, hl, he⟩
  have := up_end hI hv k (by omega) (by omega)
  rw [nth_nat hl, he] at this
  simp at this
  omega
 ·have hs : ((nth a1.ways a2).state != 0) = true := by simpa using h
  have hin := up_in hI hv
  unfold spec_l3holds_C1
  refine ⟨⟨hin, fun _ => ⟨h0, hlt1⟩, fun hb => ?_⟩, fun hb => up_step (lenI hn) hI hv (not_eq hb)⟩
  unfold holdsF
  rw [hs, Bool.true_and, eq_comm, drop_has]
  simp only [Bool.and_eq_true, beq_iff_eq, decide_eq_true_eq] at hb
  exact ⟨v.toNat, by omega, hin.2, by rw [← nth_eq hin.2]; exact hb.1⟩)
def spec_l3holds_c : Ctr Try.prog := ⟨111, [.plan, .frame, .int, .int], [.bool], some fun x => holdsPre x.1 x.2.1 x.2.2.1 x.2.2.2.1, fun x => ((holdsF x.1 x.2.1 x.2.2.1 x.2.2.2.1), ()), fun x h => spec_l3holds_V x.1 x.2.1 x.2.2.1 x.2.2.2.1 h⟩
def impl_has_C (a0 : Plan) (a1 : Frame) (a2 : Int) (a3 : Int) (res : Bool) : Prop :=
 (0 ≤ a2 ∧ a2.toNat < a0.ways.length) ∧ (((0 ≤ a2 ∧ a2.toNat < a1.ways.length) ∧ ((((nth a1.ways a2).state) != 0) = true → 0 ≤ a2 ∧ a2.toNat < a1.ways.length)) ∧ (((((nth a1.ways a2).state) != 0) && ((decide ((idxInt ((nth a0.ways a2).sections) a3) ≥ ((nth a1.ways a2).gone))) && (decide ((idxInt ((nth a0.ways a2).sections) a3) ≥ 0)))) = res))
theorem impl_has_V (a0 : Plan) (a1 : Frame) (a2 : Int) (a3 : Int) (hp : holdsPre a0 a1 a2 a3) : FnV Try.prog 152 [.agg (ePlan false a0), .agg (eFrame false a1), ai a2, ai a3] (ab (holdsF a0 a1 a2 a3)) := (fun (h : impl_has_C a0 a1 a2 a3 (holdsF a0 a1 a2 a3)) => FnV.run (ps := [.plan, .frame, .int, .int]) (rs := [.bool]) (x := (a0, a1, a2, a3, ())) (r := ((holdsF a0 a1 a2 a3), ())) ⟨39, ecs, [slices_Index_int_c]⟩ ⟨[], []⟩ .nil Try.func152 h) (by
 unfold impl_has_C
 obtain ⟨hf, h0, h1⟩ := hp
 have hw := hf.fr.ways
 have hlt : a2.toNat < a0.ways.length := by omega
 have hlt1 : a2.toNat < a1.ways.length := by omega
 have hg := hf.fr.gone _ (nth_mem hlt1)
 refine ⟨⟨h0, hlt⟩, ⟨⟨h0, hlt1⟩, fun _ => ⟨h0, hlt1⟩⟩, ?_⟩
 unfold holdsF
 rw [has_eq (secs_nodup hf.good (nth_mem hlt)) hg.1])
def impl_has_c : Ctr Try.prog := ⟨152, [.plan, .frame, .int, .int], [.bool], some fun x => holdsPre x.1 x.2.1 x.2.2.1 x.2.2.2.1, fun x => ((holdsF x.1 x.2.1 x.2.2.1 x.2.2.2.1), ()), fun x h => impl_has_V x.1 x.2.1 x.2.2.1 x.2.2.2.1 h⟩
end Go.Proofs.Ytglpfccgmfhkdaa.Fw
/- Walks and summaries of functions, printed by a program of mine (tools/mk2.py), with the proofs of what they owe. -/

set_option linter.unusedVariables false
set_option maxRecDepth 100000
set_option maxHeartbeats 4000000
set_option linter.unusedSimpArgs false
namespace Go.Proofs.Ytglpfccgmfhkdaa.Fw
open Go
attribute [local irreducible] evS evSD WpS Weak Oper.looksAt
def impl_in_1_C (a0 : Lie) (a1 : Int) (res : Bool) : Prop :=
 (a0.sw == a1) = res
theorem impl_in_1_V (a0 : Lie) (a1 : Int) : FnV Try.prog 166 [.agg (eLie a0), .rp [ai a1] 0] (ab (lieEq a0 a1)) := (fun (h : impl_in_1_C a0 a1 (lieEq a0 a1)) => FnV.run (ps := [.lie, (.ptr .int)]) (rs := [.bool]) (x := (a0, a1, ())) (r := ((lieEq a0 a1), ())) ⟨8, ecs, []⟩ ⟨[], []⟩ .nil Try.func166 h) (by
 exact rfl)
def impl_in_1_c : Ctr Try.prog := ⟨166, [.lie, (.ptr .int)], [.bool], none, fun x => ((lieEq x.1 x.2.1), ()), fun x h => impl_in_1_V x.1 x.2.1⟩
def slices_IndexFunc_Lie_C (a0 : (List Lie)) (a1 : Int) (res : Int) (I0 : Int → Prop) (m0 : Int → Nat) : Prop :=
 a0.length ≤ 4611686018427387904 → I0 0 ∧ ∀ (v8 : Int), I0 v8 → (((decide (v8 < (a0.length : Int))) = false → (-1) = res) ∧ ((decide (v8 < (a0.length : Int))) = true → ((0 ≤ v8 ∧ v8.toNat < a0.length) ∧ ((lieEq (nth a0 v8) a1) = true → v8 = res)) ∧ ((!(lieEq (nth a0 v8) a1)) = true → I0 (IntKind.i64.wrap (v8 + 1)) ∧ m0 (IntKind.i64.wrap (v8 + 1)) < m0 v8)))
theorem slices_IndexFunc_Lie_V (a0 : (List Lie)) (a1 : Int) : FnV Try.prog 170 [al eLie a0, .fn 166 [.rp [ai a1] 0]] (ai (idxLie a0 a1)) := (fun (I0 : Int → Prop) (m0 : Int → Nat) (h : slices_IndexFunc_Lie_C a0 a1 (idxLie a0 a1) I0 m0) => FnV.run (ps := [(.l .lie), (.clo 166 (.ptr .int))]) (rs := [.int]) (x := (a0, a1, ())) (r := ((idxLie a0 a1), ())) ⟨19, ecs, [impl_in_1_c]⟩ ⟨[], []⟩ (lp1 [0, 1, 7] [] 8 I0 m0 fun _ => .nil) Try.func170 h) (upI a0.length (fun j => lieEq (nth a0 j) a1)) (upM a0.length) (by
 unfold slices_IndexFunc_Lie_C
 intro hn
 refine ⟨up_start (len0 _), fun v hI => ⟨fun hv => ?_, fun hv => ⟨⟨up_in hI hv, fun hp => ?_⟩, fun hp => up_step (lenI hn) hI hv (not_eq hp)⟩⟩⟩
 ·unfold idxLie; rw [up_none (q := fun x : Lie => x.sw == a1) hI hv]; rfl
 ·unfold idxLie; rw [up_first (q := fun x : Lie => x.sw == a1) hI hv hp]
  have := hI.1
  show v = (v.toNat : Int)
  omega)
def slices_IndexFunc_Lie_c : Ctr Try.prog := ⟨170, [(.l .lie), (.clo 166 (.ptr .int))], [.int], none, fun x => ((idxLie x.1 x.2.1), ()), fun x h => slices_IndexFunc_Lie_V x.1 x.2.1⟩
def slices_ContainsFunc_Lie_C (a0 : (List Lie)) (a1 : Int) (res : Bool) : Prop :=
 (decide ((idxLie a0 a1) ≥ 0)) = res
theorem slices_ContainsFunc_Lie_V (a0 : (List Lie)) (a1 : Int) : FnV Try.prog 165 [al eLie a0, .fn 166 [.rp [ai a1] 0]] (ab (lieIn a0 a1)) := (fun (h : slices_ContainsFunc_Lie_C a0 a1 (lieIn a0 a1)) => FnV.run (ps := [(.l .lie), (.clo 166 (.ptr .int))]) (rs := [.bool]) (x := (a0, a1, ())) (r := ((lieIn a0 a1), ())) ⟨9, ecs, [slices_IndexFunc_Lie_c]⟩ ⟨[], []⟩ .nil Try.func165 h) (by
 exact idxLie_in a0 a1)
def slices_ContainsFunc_Lie_c : Ctr Try.prog := ⟨165, [(.l .lie), (.clo 166 (.ptr .int))], [.bool], none, fun x => ((lieIn x.1 x.2.1), ()), fun x h => slices_ContainsFunc_Lie_V x.1 x.2.1⟩
def impl_in_C (a0 : (List Lie)) (a1 : Int) (res : Bool) : Prop :=
 (lieIn a0 a1) = res
theorem impl_in_V (a0 : (List Lie)) (a1 : Int) : FnV Try.prog 153 [al eLie a0, ai a1] (ab (lieIn a0 a1)) := (fun (h : impl_in_C a0 a1 (lieIn a0 a1)) => FnV.run (ps := [(.l .lie), .int]) (rs := [.bool]) (x := (a0, a1, ())) (r := ((lieIn a0 a1), ())) ⟨8, ecs, [slices_ContainsFunc_Lie_c]⟩ ⟨[], []⟩ .nil Try.func153 h) (by
 exact rfl)
def impl_in_c : Ctr Try.prog := ⟨153, [(.l .lie), .int], [.bool], none, fun x => ((lieIn x.1 x.2.1), ()), fun x h => impl_in_V x.1 x.2.1⟩
def impl_pointLock_o6 : List Item := [iq 0, iq 1, iq 2, iq 3, iq 4, iq 5, iq 6, iq 7, iq 8, iq 9, iq 10, iq 11, iq 12, iq 13, iq 14, iq 15, iq 16, iq 17, iq 18, iq 19, iq 20]
def impl_pointLock_o6a : List (List Nat) := [[], [0], [], [0, 1, 2], rg 0 4, rg 0 5, rg 0 6, rg 0 5, rg 0 8, rg 0 9, rg 0 10, rg 0 10, rg 0 10, rg 0 10, rg 0 10 ++ [13], rg 0 10, rg 0 10 ++ [13, 14, 15], rg 0 10 ++ rg 13 17, rg 0 18, rg 0 19, rg 0 20]
def impl_pointLock_C1 (I0 : Nat → (List Int) → Int → Prop) (m0 : Nat → (List Int) → Int → Nat) (a0 : Plan) (a1 : Frame) (a2 : Int) (g0 : Nat) (x0 : (List Int)) (v13 : Int) : Prop :=
  (((lieIn ((nth a0.ways v13).flanks) a2) || ((lieIn ((nth a0.ways v13).lies) a2) && (holdsF a0 a1 v13 (nth a0.switches a2)))) = true → ((x0.length + [v13].length) * 8 ≤ 140737488355328 ∧ x0.length + [v13].length ≤ 4611686018427387904) ∧ (I0 (g0 + 1) (x0 ++ [v13]) (IntKind.i64.wrap (v13 + 1)) ∧ m0 (g0 + 1) (x0 ++ [v13]) (IntKind.i64.wrap (v13 + 1)) < m0 g0 x0 v13)) ∧ (((lieIn ((nth a0.ways v13).flanks) a2) || ((lieIn ((nth a0.ways v13).lies) a2) && (holdsF a0 a1 v13 (nth a0.switches a2)))) = false → I0 g0 x0 (IntKind.i64.wrap (v13 + 1)) ∧ m0 g0 x0 (IntKind.i64.wrap (v13 + 1)) < m0 g0 x0 v13)
def impl_pointLock_C2 (I0 : Nat → (List Int) → Int → Prop) (m0 : Nat → (List Int) → Int → Nat) (a0 : Plan) (a1 : Frame) (a2 : Int) (g0 : Nat) (x0 : (List Int)) (v13 : Int) : Prop :=
  ((0 ≤ v13 ∧ v13.toNat < a1.ways.length) ∧ ((((nth a1.ways v13).state) == 0) = true → I0 g0 x0 (IntKind.i64.wrap (v13 + 1)) ∧ m0 g0 x0 (IntKind.i64.wrap (v13 + 1)) < m0 g0 x0 v13)) ∧ ((!(((nth a1.ways v13).state) == 0)) = true → ((lieIn ((nth a0.ways v13).flanks) a2) = false → (lieIn ((nth a0.ways v13).lies) a2) = true → (0 ≤ a2 ∧ a2.toNat < a0.switches.length) ∧ (holdsPre a0 a1 v13 (nth a0.switches a2))) ∧ (impl_pointLock_C1 I0 m0 a0 a1 a2 g0 x0 v13))
def impl_pointLock_C (a0 : Plan) (a1 : Frame) (a2 : Int) (res : (List Int)) (I0 : Nat → (List Int) → Int → Prop) (m0 : Nat → (List Int) → Int → Nat) : Prop :=
 a0.ways.length ≤ 4611686018427387904 → I0 0 ([] : List Int) 0 ∧ ∀ (g0 : Nat) (x0 : (List Int)) (v13 : Int), I0 g0 x0 v13 → (((decide (v13 < (a0.ways.length : Int))) = false → x0.length ≤ 4611686018427387904 ∧ x0 = res) ∧ ((decide (v13 < (a0.ways.length : Int))) = true → (0 ≤ v13 ∧ v13.toNat < a0.ways.length) ∧ (impl_pointLock_C2 I0 m0 a0 a1 a2 g0 x0 v13)))
theorem impl_pointLock_V (a0 : Plan) (a1 : Frame) (a2 : Int) (hp : pointPre a0 a1 a2) : FnV Try.prog 113 [.agg (ePlan false a0), .agg (eFrame false a1), ai a2] (af eInt (pointF a0 a1 a2)) := (fun (I0 : Nat → (List Int) → Int → Prop) (m0 : Nat → (List Int) → Int → Nat) (h : impl_pointLock_C a0 a1 a2 (pointF a0 a1 a2) I0 m0) => FnV.run (ps := [.plan, .frame, .int]) (rs := [(.l .int)]) (x := (a0, a1, a2, ())) (r := ((pointF a0 a1 a2), ())) ⟨52, ecs, [impl_in_c, impl_has_c]⟩ ⟨[], [(6, impl_pointLock_o6, impl_pointLock_o6a)]⟩ (.lp [(0, 7, .int)] [2, 3, 4, 11, 12] [(4, 4), (3, 5)] [.nat, (.l .int), .int] [kb 0, kb 0, 13] (fun w0 => [(7, .ref 0 w0.1 w0.2.1.length false), (13, .i .i64 w0.2.2.1), (kb 0, .blk w0.1 .int w0.2.1 _ rfl)]) (fun w0 => I0 w0.1 w0.2.1 w0.2.2.1) (fun w0 => m0 w0.1 w0.2.1 w0.2.2.1) fun _ => .nil) Try.func113 h) (fun _ x v => upI a0.ways.length (fun _ => false) v ∧ x = filtI (fun i => wantsF a0 a1 i a2) v) (fun _ _ v => upM a0.ways.length v) (by
 unfold impl_pointLock_C
 obtain ⟨hf, h0, h1⟩ := hp
 have hw := hf.fr.ways
 have hn100 := hf.in.ways
 have hmem := hf.in.switches
 intro hn
 refine ⟨⟨up_start (len0 _), rfl⟩, fun g x v hI => ?_⟩
 obtain ⟨hI, rfl⟩ := hI
 have hv0 := hI.1
 have hlen := filt_len (fun i => wantsF a0 a1 i a2) v
 have hvn := hI.2.1
 refine ⟨fun hv => ⟨by omega, ?_⟩, fun hv => ⟨up_in hI hv, ?_⟩⟩
 ·have : ¬ v < (a0.ways.length : Int) := by simpa using hv
  rw [show v = (a0.ways.length : Int) by omega]; rfl
 have hin := up_in hI hv
 have hst := up_step (lenI hn) hI hv rfl
 have hw1 : IntKind.i64.wrap (v + 1) = v + 1 := wrap_up (lenI hn) hv0 (by simpa using hv)
 have yes : wantsF a0 a1 v a2 = true → (upI a0.ways.length (fun _ => false) (IntKind.i64.wrap (v + 1)) ∧ filtI (fun i => wantsF a0 a1 i a2) v ++ [v] = filtI (fun i => wantsF a0 a1 i a2) (IntKind.i64.wrap (v + 1))) := fun h => ⟨hst.1, by rw [hw1, filt_s hv0, if_pos h]⟩
 have no : wantsF a0 a1 v a2 = false → (upI a0.ways.length (fun _ => false) (IntKind.i64.wrap (v + 1)) ∧ filtI (fun i => wantsF a0 a1 i a2) v = filtI (fun i => wantsF a0 a1 i a2) (IntKind.i64.wrap (v + 1))) := fun h => ⟨hst.1, by rw [hw1, filt_s hv0, if_neg (by rw [h]; simp)]⟩
 unfold impl_pointLock_C2 impl_pointLock_C1
 refine ⟨⟨⟨hv0, by omega⟩, fun hz => ⟨no ?_, hst.2⟩⟩, fun hz => ⟨fun _ _ => ⟨⟨h0, by omega⟩, hf, hv0, by omega⟩, ⟨fun hq => ⟨⟨?_, ?_⟩, yes ?_, hst.2⟩, fun hq => ⟨no ?_, hst.2⟩⟩⟩⟩
 ·unfold wantsF
  rw [show ((nth a1.ways v).state != 0) = false by simpa using hz]; rfl
 ·simp only [List.length_singleton]; omega
 ·simp only [List.length_singleton]; omega
 ·unfold wantsF
  rw [show ((nth a1.ways v).state != 0) = true by simpa using hz]; exact hq
 ·unfold wantsF
  rw [show ((nth a1.ways v).state != 0) = true by simpa using hz]; exact hq)
def impl_pointLock_c : Ctr Try.prog := ⟨113, [.plan, .frame, .int], [(.l .int)], some fun x => pointPre x.1 x.2.1 x.2.2.1, fun x => ((pointF x.1 x.2.1 x.2.2.1), ()), fun x h => impl_pointLock_V x.1 x.2.1 x.2.2.1 h⟩
def spec_l3wants_o12 : List Item := [iq 0, iq 1, iq 2, iq 3, iq 4, iq 5, iq 6, iq 7, iq 8, iq 9, iq 10, iq 11, iq 12, iq 13, iq 14]
def spec_l3wants_o12a : List (List Nat) := [[], [0], [], [0, 1, 2], rg 0 4, rg 0 5, rg 0 5, rg 0 5, rg 0 5, rg 0 5 ++ [8], rg 0 5, rg 0 5 ++ [8, 9, 10], rg 0 5 ++ rg 8 12, rg 0 13, rg 0 14]
def spec_l3wants_C1 (I1 : Int → Int → Prop) (m1 : Int → Int → Nat) (a0 : Plan) (a1 : Frame) (a2 a3 res v27 v45 : Int) : Prop :=
  ((0 ≤ v45 ∧ v45.toNat < ((nth a0.ways a2).lies).length) ∧ (((((nth ((nth a0.ways a2).lies) v45).sw) == a3) = true → (0 ≤ a3 ∧ a3.toNat < a0.switches.length) ∧ (holdsPre a0 a1 a2 (nth a0.switches a3))) ∧ (((((nth ((nth a0.ways a2).lies) v45).sw) == a3) && (holdsF a0 a1 a2 (nth a0.switches a3))) = true → (nth ((nth a0.ways a2).lies) v45).lie = res))) ∧ ((!((((nth ((nth a0.ways a2).lies) v45).sw) == a3) && (holdsF a0 a1 a2 (nth a0.switches a3)))) = true → I1 v27 (IntKind.i64.wrap (v45 + 1)) ∧ m1 v27 (IntKind.i64.wrap (v45 + 1)) < m1 v27 v45)
def spec_l3wants_C2 (I0 : Int → Prop) (m0 : Int → Nat) (I1 : Int → Int → Prop) (m1 : Int → Int → Nat) (a0 : Plan) (a1 : Frame) (a2 a3 res v27 : Int) : Prop :=
  ((decide (v27 < (((nth a0.ways a2).flanks).length : Int))) = false → (0 ≤ a2 ∧ a2.toNat < a0.ways.length) ∧ (((nth a0.ways a2).lies).length ≤ 4611686018427387904 → I1 v27 0 ∧ ∀ (v45 : Int), I1 v27 v45 → (((decide (v45 < (((nth a0.ways a2).lies).length : Int))) = false → 0 = res) ∧ ((decide (v45 < (((nth a0.ways a2).lies).length : Int))) = true → spec_l3wants_C1 I1 m1 a0 a1 a2 a3 res v27 v45)))) ∧ ((decide (v27 < (((nth a0.ways a2).flanks).length : Int))) = true → ((0 ≤ v27 ∧ v27.toNat < ((nth a0.ways a2).flanks).length) ∧ ((((nth ((nth a0.ways a2).flanks) v27).sw) == a3) = true → (nth ((nth a0.ways a2).flanks) v27).lie = res)) ∧ ((!(((nth ((nth a0.ways a2).flanks) v27).sw) == a3)) = true → I0 (IntKind.i64.wrap (v27 + 1)) ∧ m0 (IntKind.i64.wrap (v27 + 1)) < m0 v27))
def spec_l3wants_C (a0 : Plan) (a1 : Frame) (a2 : Int) (a3 : Int) (res : Int) (I0 : Int → Prop) (m0 : Int → Nat) (I1 : Int → Int → Prop) (m1 : Int → Int → Nat) : Prop :=
 ((0 ≤ a2 ∧ a2.toNat < a1.ways.length) ∧ ((((nth a1.ways a2).state) == 0) = true → 0 = res)) ∧ ((!(((nth a1.ways a2).state) == 0)) = true → (0 ≤ a2 ∧ a2.toNat < a0.ways.length) ∧ (((nth a0.ways a2).flanks).length ≤ 4611686018427387904 → I0 0 ∧ ∀ (v27 : Int), I0 v27 → (spec_l3wants_C2 I0 m0 I1 m1 a0 a1 a2 a3 res v27)))
theorem spec_l3wants_V (a0 : Plan) (a1 : Frame) (a2 : Int) (a3 : Int) (hp : wantsPre a0 a1 a2 a3) : FnV Try.prog 155 [.agg (ePlan false a0), .agg (eFrame false a1), ai a2, ai a3] (ai (wantsI a0 a1 a2 a3)) := (fun (I0 : Int → Prop) (m0 : Int → Nat) (I1 : Int → Int → Prop) (m1 : Int → Int → Nat) (h : spec_l3wants_C a0 a1 a2 a3 (wantsI a0 a1 a2 a3) I0 m0 I1 m1) => FnV.run (ps := [.plan, .frame, .int, .int]) (rs := [.int]) (x := (a0, a1, a2, a3, ())) (r := ((wantsI a0 a1 a2 a3), ())) ⟨67, ecs, [spec_l3holds_c]⟩ ⟨[], [(12, spec_l3wants_o12, spec_l3wants_o12a)]⟩ (lp1 [2, 3, 4, 5, 25, 26] [(5, 4), (4, 5)] 27 I0 m0 fun w0 => (lp1 [2, 3, 4, 5, 43, 44] [(5, 4), (4, 5)] 45 (I1 w0) (m1 w0) fun _ => .nil)) Try.func155 h) (upI (nth a0.ways a2).flanks.length (fun j => (nth (nth a0.ways a2).flanks j).sw == a3)) (upM (nth a0.ways a2).flanks.length) (fun _ => upI (nth a0.ways a2).lies.length (fun j => (nth (nth a0.ways a2).lies j).sw == a3 && holdsF a0 a1 a2 (nth a0.switches a3))) (fun _ => upM (nth a0.ways a2).lies.length) (by
 unfold spec_l3wants_C
 obtain ⟨hf, h0, h1, h2, h3⟩ := hp
 have hw := hf.fr.ways
 refine ⟨⟨⟨h0, by omega⟩, fun hz => ?_⟩, fun hz => ⟨⟨h0, by omega⟩, fun hn => ⟨up_start (len0 _), fun v hI => ?_⟩⟩⟩
 ·unfold wantsI; rw [if_pos (by simpa using hz)]
 have hz : ¬ (nth a1.ways a2).state = 0 := by simpa using hz
 unfold spec_l3wants_C2
 refine ⟨fun hv => ⟨⟨h0, by omega⟩, fun hm => ⟨up_start (len0 _), fun k hK => ?_⟩⟩, fun hv => ⟨⟨up_in hI hv, fun hb => ?_⟩, fun hb => up_step (lenI hn) hI hv (not_eq hb)⟩⟩
 ·have e1 := up_none (q := fun x : Lie => x.sw == a3) hI hv
  unfold spec_l3wants_C1
  refine ⟨fun hk => ?_, fun hk => ⟨⟨up_in hK hk, fun _ => ⟨⟨h2, by omega⟩, hf, h0, h1⟩, fun hb => ?_⟩, fun hb => up_step (lenI hm) hK hk (not_eq hb)⟩⟩
  ·unfold wantsI
   rw [if_neg hz, e1]
   simp only
   rw [up_none (q := fun x : Lie => x.sw == a3 && holdsF a0 a1 a2 (nth a0.switches a3)) hK hk]
  ·unfold wantsI
   rw [if_neg hz, e1]
   simp only
   rw [up_first (q := fun x : Lie => x.sw == a3 && holdsF a0 a1 a2 (nth a0.switches a3)) hK hk hb]
   simp only [nth_toNat hK.1]
 ·unfold wantsI
  rw [if_neg hz, up_first (q := fun x : Lie => x.sw == a3) hI hv hb]
  simp only [nth_toNat hI.1])
def spec_l3wants_c : Ctr Try.prog := ⟨155, [.plan, .frame, .int, .int], [.int], some fun x => wantsPre x.1 x.2.1 x.2.2.1 x.2.2.2.1, fun x => ((wantsI x.1 x.2.1 x.2.2.1 x.2.2.2.1), ()), fun x h => spec_l3wants_V x.1 x.2.1 x.2.2.1 x.2.2.2.1 h⟩
def spec_l3point_C1 (I0 : Nat → (List Int) → Int → Prop) (m0 : Nat → (List Int) → Int → Nat) (a0 : Plan) (a1 : Frame) (a2 : Int) (g0 : Nat) (x0 : (List Int)) (v12 : Int) : Prop :=
  ((decide ((wantsI a0 a1 v12 a2) > 0)) = true → ((x0.length + [v12].length) * 8 ≤ 140737488355328 ∧ x0.length + [v12].length ≤ 4611686018427387904) ∧ (I0 (g0 + 1) (x0 ++ [v12]) (IntKind.i64.wrap (v12 + 1)) ∧ m0 (g0 + 1) (x0 ++ [v12]) (IntKind.i64.wrap (v12 + 1)) < m0 g0 x0 v12)) ∧ ((decide ((wantsI a0 a1 v12 a2) > 0)) = false → I0 g0 x0 (IntKind.i64.wrap (v12 + 1)) ∧ m0 g0 x0 (IntKind.i64.wrap (v12 + 1)) < m0 g0 x0 v12)
def spec_l3point_C (a0 : Plan) (a1 : Frame) (a2 : Int) (res : (List Int)) (I0 : Nat → (List Int) → Int → Prop) (m0 : Nat → (List Int) → Int → Nat) : Prop :=
 a0.ways.length ≤ 4611686018427387904 → I0 0 ([] : List Int) 0 ∧ ∀ (g0 : Nat) (x0 : (List Int)) (v12 : Int), I0 g0 x0 v12 → (((decide (v12 < (a0.ways.length : Int))) = false → x0.length ≤ 4611686018427387904 ∧ x0 = res) ∧ ((decide (v12 < (a0.ways.length : Int))) = true → (wantsPre a0 a1 v12 a2) ∧ (spec_l3point_C1 I0 m0 a0 a1 a2 g0 x0 v12)))
theorem spec_l3point_V (a0 : Plan) (a1 : Frame) (a2 : Int) (hp : pointPre a0 a1 a2) : FnV Try.prog 117 [.agg (ePlan false a0), .agg (eFrame false a1), ai a2] (af eInt (pointF a0 a1 a2)) := (fun (I0 : Nat → (List Int) → Int → Prop) (m0 : Nat → (List Int) → Int → Nat) (h : spec_l3point_C a0 a1 a2 (pointF a0 a1 a2) I0 m0) => FnV.run (ps := [.plan, .frame, .int]) (rs := [(.l .int)]) (x := (a0, a1, a2, ())) (r := ((pointF a0 a1 a2), ())) ⟨27, ecs, [spec_l3wants_c]⟩ ⟨[], []⟩ (.lp [(0, 7, .int)] [2, 3, 4, 11] [(4, 4), (3, 5)] [.nat, (.l .int), .int] [kb 0, kb 0, 12] (fun w0 => [(7, .ref 0 w0.1 w0.2.1.length false), (12, .i .i64 w0.2.2.1), (kb 0, .blk w0.1 .int w0.2.1 _ rfl)]) (fun w0 => I0 w0.1 w0.2.1 w0.2.2.1) (fun w0 => m0 w0.1 w0.2.1 w0.2.2.1) fun _ => .nil) Try.func117 h) (fun _ x v => upI a0.ways.length (fun _ => false) v ∧ x = filtI (fun i => wantsF a0 a1 i a2) v) (fun _ _ v => upM a0.ways.length v) (by
 unfold spec_l3point_C
 obtain ⟨hf, h0, h1⟩ := hp
 have hn100 := hf.in.ways
 intro hn
 refine ⟨⟨up_start (len0 _), rfl⟩, fun g x v hI => ?_⟩
 obtain ⟨hI, rfl⟩ := hI
 have hv0 := hI.1
 have hlen := filt_len (fun i => wantsF a0 a1 i a2) v
 have hvn := hI.2.1
 refine ⟨fun hv => ⟨by omega, ?_⟩, fun hv => ⟨⟨hf, hv0, by have := up_in hI hv; omega, h0, h1⟩, ?_⟩⟩
 ·have : ¬ v < (a0.ways.length : Int) := by simpa using hv
  rw [show v = (a0.ways.length : Int) by omega]; rfl
 have hst := up_step (lenI hn) hI hv rfl
 have hw1 : IntKind.i64.wrap (v + 1) = v + 1 := wrap_up (lenI hn) hv0 (by simpa using hv)
 unfold spec_l3point_C1
 rw [wants_eq hf.good (up_in hI hv).2]
 refine ⟨fun hq => ⟨⟨?_, ?_⟩, ⟨hst.1, by rw [hw1, filt_s hv0, if_pos hq]⟩, hst.2⟩, fun hq => ⟨⟨hst.1, by rw [hw1, filt_s hv0, if_neg (by rw [hq]; simp)]⟩, hst.2⟩⟩
 ·simp only [List.length_singleton]; omega
 ·simp only [List.length_singleton]; omega)
def spec_l3point_c : Ctr Try.prog := ⟨117, [.plan, .frame, .int], [(.l .int)], some fun x => pointPre x.1 x.2.1 x.2.2.1, fun x => ((pointF x.1 x.2.1 x.2.2.1), ()), fun x h => spec_l3point_V x.1 x.2.1 x.2.2.1 h⟩
def impl_blocked_o20 : List Item := [iq 0, iq 1, iq 2, iq 3, iq 4, iq 5, iq 6, iq 7, iq 8, iq 9, iq 10, iq 11, iq 12, iq 13, iq 14]
def impl_blocked_o20a : List (List Nat) := [[], [0], [], [0, 1, 2], rg 0 4, rg 0 5, rg 0 6, rg 0 5, rg 0 8, rg 0 9, rg 0 10, rg 0 5, rg 0 5 ++ [11], rg 0 13, rg 0 14]
def impl_blocked_o22 : List Item := [iq 0, iq 1, iq 2, iq 3, iq 4, iq 5, iq 6, iq 7, iq 8, iq 9]
def impl_blocked_o22a : List (List Nat) := [[], [0], [], [2], [], [2, 3, 4], rg 2 6, rg 0 7, rg 0 8, rg 0 9]
def impl_blocked_C1 (I3 : Nat → (List Int) → Int → Nat → (List Int) → Int → Nat → (List Int) → Int → Bool → Bool → Nat → (List Int) → Int → Bool → Bool → Prop) (m3 : Nat → (List Int) → Int → Nat → (List Int) → Int → Nat → (List Int) → Int → Bool → Bool → Nat → (List Int) → Int → Bool → Bool → Nat) (a0 : Plan) (a1 : Frame) (g0 : Nat) (x0 : (List Int)) (v26 : Int) (g1 : Nat) (x1 : (List Int)) (v76 : Int) (g2 : Nat) (x2 : (List Int)) (v112 : Int) (v7 v8 : Bool) (v106 : Int) (g2' : Nat) (x2' : (List Int)) (v7' v8' : Bool) : Prop :=
  (((decide (((pointF a0 a1 v106).length : Int) > 0)) || (nth a1.occ (nth a0.switches v106))) = true → ((x2'.length + [v106].length) * 8 ≤ 140737488355328 ∧ x2'.length + [v106].length ≤ 4611686018427387904) ∧ (I3 g0 x0 v26 g1 x1 v76 g2 x2 v106 v7 v8 (g2' + 1) (x2' ++ [v106]) (IntKind.i64.wrap (v112 + 1)) (v7' || (decide (((pointF a0 a1 v106).length : Int) > 0))) (v8' || (nth a1.occ (nth a0.switches v106))) ∧ m3 g0 x0 v26 g1 x1 v76 g2 x2 v106 v7 v8 (g2' + 1) (x2' ++ [v106]) (IntKind.i64.wrap (v112 + 1)) (v7' || (decide (((pointF a0 a1 v106).length : Int) > 0))) (v8' || (nth a1.occ (nth a0.switches v106))) < m3 g0 x0 v26 g1 x1 v76 g2 x2 v106 v7 v8 g2' x2' v112 v7' v8')) ∧ (((decide (((pointF a0 a1 v106).length : Int) > 0)) || (nth a1.occ (nth a0.switches v106))) = false → I3 g0 x0 v26 g1 x1 v76 g2 x2 v106 v7 v8 g2' x2' (IntKind.i64.wrap (v112 + 1)) (v7' || (decide (((pointF a0 a1 v106).length : Int) > 0))) (v8' || (nth a1.occ (nth a0.switches v106))) ∧ m3 g0 x0 v26 g1 x1 v76 g2 x2 v106 v7 v8 g2' x2' (IntKind.i64.wrap (v112 + 1)) (v7' || (decide (((pointF a0 a1 v106).length : Int) > 0))) (v8' || (nth a1.occ (nth a0.switches v106))) < m3 g0 x0 v26 g1 x1 v76 g2 x2 v106 v7 v8 g2' x2' v112 v7' v8')
def impl_blocked_C2 (I3 : Nat → (List Int) → Int → Nat → (List Int) → Int → Nat → (List Int) → Int → Bool → Bool → Nat → (List Int) → Int → Bool → Bool → Prop) (m3 : Nat → (List Int) → Int → Nat → (List Int) → Int → Nat → (List Int) → Int → Bool → Bool → Nat → (List Int) → Int → Bool → Bool → Nat) (a0 : Plan) (a1 : Frame) (a2 : Int) (g0 : Nat) (x0 : (List Int)) (v26 : Int) (g1 : Nat) (x1 : (List Int)) (v76 : Int) (g2 : Nat) (x2 : (List Int)) (v112 : Int) (v7 v8 : Bool) (v106 : Int) (g2' : Nat) (x2' : (List Int)) (v7' v8' : Bool) : Prop :=
  (((((nth (needs (nth a0.ways a2)) v112).sw) != v106) = false → 0 ≤ v106 ∧ v106.toNat < a1.points.length) ∧ (((((nth (needs (nth a0.ways a2)) v112).sw) != v106) || (((nth a1.points v106).want) == ((nth (needs (nth a0.ways a2)) v112).lie))) = true → I3 g0 x0 v26 g1 x1 v76 g2 x2 v106 v7 v8 g2' x2' (IntKind.i64.wrap (v112 + 1)) v7' v8' ∧ m3 g0 x0 v26 g1 x1 v76 g2 x2 v106 v7 v8 g2' x2' (IntKind.i64.wrap (v112 + 1)) v7' v8' < m3 g0 x0 v26 g1 x1 v76 g2 x2 v106 v7 v8 g2' x2' v112 v7' v8')) ∧ ((!((((nth (needs (nth a0.ways a2)) v112).sw) != v106) || (((nth a1.points v106).want) == ((nth (needs (nth a0.ways a2)) v112).lie)))) = true → (pointPre a0 a1 v106) ∧ ((pointF a0 a1 v106).length ≤ 4611686018427387904 → ((0 ≤ v106 ∧ v106.toNat < a0.switches.length) ∧ (0 ≤ (nth a0.switches v106) ∧ (nth a0.switches v106).toNat < a1.occ.length)) ∧ (impl_blocked_C1 I3 m3 a0 a1 g0 x0 v26 g1 x1 v76 g2 x2 v112 v7 v8 v106 g2' x2' v7' v8')))
def impl_blocked_C3 (I2 : Nat → (List Int) → Int → Nat → (List Int) → Int → Nat → (List Int) → Int → Bool → Bool → Prop) (m2 : Nat → (List Int) → Int → Nat → (List Int) → Int → Nat → (List Int) → Int → Bool → Bool → Nat) (I3 : Nat → (List Int) → Int → Nat → (List Int) → Int → Nat → (List Int) → Int → Bool → Bool → Nat → (List Int) → Int → Bool → Bool → Prop) (m3 : Nat → (List Int) → Int → Nat → (List Int) → Int → Nat → (List Int) → Int → Bool → Bool → Nat → (List Int) → Int → Bool → Bool → Nat) (a0 : Plan) (a1 : Frame) (a2 : Int) (g0 : Nat) (x0 : (List Int)) (v26 : Int) (g1 : Nat) (x1 : (List Int)) (v76 : Int) (g2 : Nat) (x2 : (List Int)) (v112 : Int) (v7 v8 : Bool) (v106 : Int) (g2' : Nat) (x2' : (List Int)) (v7' v8' : Bool) : Prop :=
  ((decide (v112 < ((needs (nth a0.ways a2)).length : Int))) = false → I2 g0 x0 v26 g1 x1 v76 g2' x2' (IntKind.i64.wrap (v106 + 1)) v7' v8' ∧ m2 g0 x0 v26 g1 x1 v76 g2' x2' (IntKind.i64.wrap (v106 + 1)) v7' v8' < m2 g0 x0 v26 g1 x1 v76 g2 x2 v106 v7 v8) ∧ ((decide (v112 < ((needs (nth a0.ways a2)).length : Int))) = true → (0 ≤ v112 ∧ v112.toNat < (needs (nth a0.ways a2)).length) ∧ (impl_blocked_C2 I3 m3 a0 a1 a2 g0 x0 v26 g1 x1 v76 g2 x2 v112 v7 v8 v106 g2' x2' v7' v8'))
def impl_blocked_C4 (I2 : Nat → (List Int) → Int → Nat → (List Int) → Int → Nat → (List Int) → Int → Bool → Bool → Prop) (m2 : Nat → (List Int) → Int → Nat → (List Int) → Int → Nat → (List Int) → Int → Bool → Bool → Nat) (I3 : Nat → (List Int) → Int → Nat → (List Int) → Int → Nat → (List Int) → Int → Bool → Bool → Nat → (List Int) → Int → Bool → Bool → Prop) (m3 : Nat → (List Int) → Int → Nat → (List Int) → Int → Nat → (List Int) → Int → Bool → Bool → Nat → (List Int) → Int → Bool → Bool → Nat) (a0 : Plan) (a1 : Frame) (a2 : Int) (res : Stays × Bool × Bool) (g0 : Nat) (x0 : (List Int)) (v26 : Int) (g1 : Nat) (x1 : (List Int)) (v76 : Int) (g2 : Nat) (x2 : (List Int)) (v7 v8 : Bool) (v106 : Int) : Prop :=
  ((decide (v106 < (a0.switches.length : Int))) = false → (x0.length ≤ 4611686018427387904 ∧ x0 = res.1.ways) ∧ (x1.length ≤ 4611686018427387904 ∧ x1 = res.1.sections) ∧ (x2.length ≤ 4611686018427387904 ∧ x2 = res.1.points) ∧ (v7 = res.2.1) ∧ (v8 = res.2.2)) ∧ ((decide (v106 < (a0.switches.length : Int))) = true → (preNeeds (nth a0.ways a2)) ∧ ((needs (nth a0.ways a2)).length ≤ 4611686018427387904 → I3 g0 x0 v26 g1 x1 v76 g2 x2 v106 v7 v8 g2 x2 0 v7 v8 ∧ ∀ (g2' : Nat) (x2' : (List Int)) (v112 : Int) (v7' : Bool) (v8' : Bool), I3 g0 x0 v26 g1 x1 v76 g2 x2 v106 v7 v8 g2' x2' v112 v7' v8' → (impl_blocked_C3 I2 m2 I3 m3 a0 a1 a2 g0 x0 v26 g1 x1 v76 g2 x2 v112 v7 v8 v106 g2' x2' v7' v8')))
def impl_blocked_C5 (I1 : Nat → (List Int) → Int → Nat → (List Int) → Int → Prop) (m1 : Nat → (List Int) → Int → Nat → (List Int) → Int → Nat) (a0 : Plan) (a1 : Frame) (a2 : Int) (g0 : Nat) (x0 : (List Int)) (v26 : Int) (g1 : Nat) (x1 : (List Int)) (v76 : Int) : Prop :=
  (((nth a1.occ v76) && ((hasInt ((nth a0.ways a2).sections) v76) || (hasInt ((nth a0.ways a2).over) v76))) = true → ((x1.length + [v76].length) * 8 ≤ 140737488355328 ∧ x1.length + [v76].length ≤ 4611686018427387904) ∧ (I1 g0 x0 v26 (g1 + 1) (x1 ++ [v76]) (IntKind.i64.wrap (v76 + 1)) ∧ m1 g0 x0 v26 (g1 + 1) (x1 ++ [v76]) (IntKind.i64.wrap (v76 + 1)) < m1 g0 x0 v26 g1 x1 v76)) ∧ (((nth a1.occ v76) && ((hasInt ((nth a0.ways a2).sections) v76) || (hasInt ((nth a0.ways a2).over) v76))) = false → I1 g0 x0 v26 g1 x1 (IntKind.i64.wrap (v76 + 1)) ∧ m1 g0 x0 v26 g1 x1 (IntKind.i64.wrap (v76 + 1)) < m1 g0 x0 v26 g1 x1 v76)
def impl_blocked_C6 (I1 : Nat → (List Int) → Int → Nat → (List Int) → Int → Prop) (m1 : Nat → (List Int) → Int → Nat → (List Int) → Int → Nat) (I2 : Nat → (List Int) → Int → Nat → (List Int) → Int → Nat → (List Int) → Int → Bool → Bool → Prop) (m2 : Nat → (List Int) → Int → Nat → (List Int) → Int → Nat → (List Int) → Int → Bool → Bool → Nat) (I3 : Nat → (List Int) → Int → Nat → (List Int) → Int → Nat → (List Int) → Int → Bool → Bool → Nat → (List Int) → Int → Bool → Bool → Prop) (m3 : Nat → (List Int) → Int → Nat → (List Int) → Int → Nat → (List Int) → Int → Bool → Bool → Nat → (List Int) → Int → Bool → Bool → Nat) (a0 : Plan) (a1 : Frame) (a2 : Int) (res : Stays × Bool × Bool) (g0 : Nat) (x0 : (List Int)) (v26 : Int) (g1 : Nat) (x1 : (List Int)) (v76 : Int) : Prop :=
  ((decide (v76 < a0.sections)) = false → a0.switches.length ≤ 4611686018427387904 → I2 g0 x0 v26 g1 x1 v76 0 ([] : List Int) 0 false false ∧ ∀ (g2 : Nat) (x2 : (List Int)) (v106 : Int) (v7 : Bool) (v8 : Bool), I2 g0 x0 v26 g1 x1 v76 g2 x2 v106 v7 v8 → (impl_blocked_C4 I2 m2 I3 m3 a0 a1 a2 res g0 x0 v26 g1 x1 v76 g2 x2 v7 v8 v106)) ∧ ((decide (v76 < a0.sections)) = true → (0 ≤ v76 ∧ v76.toNat < a1.occ.length) ∧ (impl_blocked_C5 I1 m1 a0 a1 a2 g0 x0 v26 g1 x1 v76))
def impl_blocked_C7 (I0 : Nat → (List Int) → Int → Prop) (m0 : Nat → (List Int) → Int → Nat) (a0 : Plan) (a1 : Frame) (a2 : Int) (g0 : Nat) (x0 : (List Int)) (v26 : Int) : Prop :=
  (((v26 != a2) && ((((nth a1.ways v26).state) != 0) && ((nth (nth a0.bars a2) v26) || ((meets ((nth a0.ways a2).sections) ((nth a0.ways v26).over)) || (meets ((nth a0.ways a2).over) ((nth a0.ways v26).sections)))))) = true → ((x0.length + [v26].length) * 8 ≤ 140737488355328 ∧ x0.length + [v26].length ≤ 4611686018427387904) ∧ (I0 (g0 + 1) (x0 ++ [v26]) (IntKind.i64.wrap (v26 + 1)) ∧ m0 (g0 + 1) (x0 ++ [v26]) (IntKind.i64.wrap (v26 + 1)) < m0 g0 x0 v26)) ∧ (((v26 != a2) && ((((nth a1.ways v26).state) != 0) && ((nth (nth a0.bars a2) v26) || ((meets ((nth a0.ways a2).sections) ((nth a0.ways v26).over)) || (meets ((nth a0.ways a2).over) ((nth a0.ways v26).sections)))))) = false → I0 g0 x0 (IntKind.i64.wrap (v26 + 1)) ∧ m0 g0 x0 (IntKind.i64.wrap (v26 + 1)) < m0 g0 x0 v26)
def impl_blocked_C8 (I0 : Nat → (List Int) → Int → Prop) (m0 : Nat → (List Int) → Int → Nat) (I1 : Nat → (List Int) → Int → Nat → (List Int) → Int → Prop) (m1 : Nat → (List Int) → Int → Nat → (List Int) → Int → Nat) (I2 : Nat → (List Int) → Int → Nat → (List Int) → Int → Nat → (List Int) → Int → Bool → Bool → Prop) (m2 : Nat → (List Int) → Int → Nat → (List Int) → Int → Nat → (List Int) → Int → Bool → Bool → Nat) (I3 : Nat → (List Int) → Int → Nat → (List Int) → Int → Nat → (List Int) → Int → Bool → Bool → Nat → (List Int) → Int → Bool → Bool → Prop) (m3 : Nat → (List Int) → Int → Nat → (List Int) → Int → Nat → (List Int) → Int → Bool → Bool → Nat → (List Int) → Int → Bool → Bool → Nat) (a0 : Plan) (a1 : Frame) (a2 : Int) (res : Stays × Bool × Bool) (g0 : Nat) (x0 : (List Int)) (v26 : Int) : Prop :=
  ((decide (v26 < (a0.ways.length : Int))) = false → I1 g0 x0 v26 0 ([] : List Int) 0 ∧ ∀ (g1 : Nat) (x1 : (List Int)) (v76 : Int), I1 g0 x0 v26 g1 x1 v76 → (impl_blocked_C6 I1 m1 I2 m2 I3 m3 a0 a1 a2 res g0 x0 v26 g1 x1 v76)) ∧ ((decide (v26 < (a0.ways.length : Int))) = true → (0 ≤ v26 ∧ v26.toNat < a0.ways.length) ∧ (((v26 != a2) = true → (0 ≤ v26 ∧ v26.toNat < a1.ways.length) ∧ ((((nth a1.ways v26).state) != 0) = true → (0 ≤ a2 ∧ a2.toNat < a0.bars.length) ∧ (0 ≤ v26 ∧ v26.toNat < (nth a0.bars a2).length))) ∧ (impl_blocked_C7 I0 m0 a0 a1 a2 g0 x0 v26)))
def impl_blocked_C (a0 : Plan) (a1 : Frame) (a2 : Int) (res : Stays × Bool × Bool) (I0 : Nat → (List Int) → Int → Prop) (m0 : Nat → (List Int) → Int → Nat) (I1 : Nat → (List Int) → Int → Nat → (List Int) → Int → Prop) (m1 : Nat → (List Int) → Int → Nat → (List Int) → Int → Nat) (I2 : Nat → (List Int) → Int → Nat → (List Int) → Int → Nat → (List Int) → Int → Bool → Bool → Prop) (m2 : Nat → (List Int) → Int → Nat → (List Int) → Int → Nat → (List Int) → Int → Bool → Bool → Nat) (I3 : Nat → (List Int) → Int → Nat → (List Int) → Int → Nat → (List Int) → Int → Bool → Bool → Nat → (List Int) → Int → Bool → Bool → Prop) (m3 : Nat → (List Int) → Int → Nat → (List Int) → Int → Nat → (List Int) → Int → Bool → Bool → Nat → (List Int) → Int → Bool → Bool → Nat) : Prop :=
 (0 ≤ a2 ∧ a2.toNat < a0.ways.length) ∧ (a0.ways.length ≤ 4611686018427387904 → I0 0 ([] : List Int) 0 ∧ ∀ (g0 : Nat) (x0 : (List Int)) (v26 : Int), I0 g0 x0 v26 → (impl_blocked_C8 I0 m0 I1 m1 I2 m2 I3 m3 a0 a1 a2 res g0 x0 v26))
theorem impl_blocked_V (a0 : Plan) (a1 : Frame) (a2 : Int) (hp : whyPre a0 a1 a2) : FnV Try.prog 115 [.agg (ePlan false a0), .agg (eFrame false a1), ai a2] (.tup [.agg (eStays true ((blockedF a0 a1 a2).1)), ab ((blockedF a0 a1 a2).2.1), ab ((blockedF a0 a1 a2).2.2)]) := (fun (I0 : Nat → (List Int) → Int → Prop) (m0 : Nat → (List Int) → Int → Nat) (I1 : Nat → (List Int) → Int → Nat → (List Int) → Int → Prop) (m1 : Nat → (List Int) → Int → Nat → (List Int) → Int → Nat) (I2 : Nat → (List Int) → Int → Nat → (List Int) → Int → Nat → (List Int) → Int → Bool → Bool → Prop) (m2 : Nat → (List Int) → Int → Nat → (List Int) → Int → Nat → (List Int) → Int → Bool → Bool → Nat) (I3 : Nat → (List Int) → Int → Nat → (List Int) → Int → Nat → (List Int) → Int → Bool → Bool → Nat → (List Int) → Int → Bool → Bool → Prop) (m3 : Nat → (List Int) → Int → Nat → (List Int) → Int → Nat → (List Int) → Int → Bool → Bool → Nat → (List Int) → Int → Bool → Bool → Nat) (h : impl_blocked_C a0 a1 a2 (blockedF a0 a1 a2) I0 m0 I1 m1 I2 m2 I3 m3) => FnV.run (ps := [.plan, .frame, .int]) (rs := [.stays, .bool, .bool]) (x := (a0, a1, a2, ())) (r := ((blockedF a0 a1 a2).1, (blockedF a0 a1 a2).2.1, (blockedF a0 a1 a2).2.2, ())) ⟨169, ecs, [impl_needs_c, impl_pointLock_c, slices_Contains_int_c, impl_meet_c]⟩ ⟨[], [(20, impl_blocked_o20, impl_blocked_o20a), (22, impl_blocked_o22, impl_blocked_o22a)]⟩ (.lp [(7, 0, .int)] [2, 3, 4, 6, 7, 8, 9, 24, 25] [(9, 5), (6, 3), (4, 4), (3, 5)] [.nat, (.l .int), .int] [kb 0, kb 0, 26] (fun w0 => [(26, .i .i64 w0.2.2.1), (kc 6 0, .ref 0 w0.1 w0.2.1.length false), (kb 0, .blk w0.1 .int w0.2.1 _ rfl)]) (fun w0 => I0 w0.1 w0.2.1 w0.2.2.1) (fun w0 => m0 w0.1 w0.2.1 w0.2.2.1) fun w0 => (.lp [(7, 1, .int)] [3, 4, 6, 7, 8, 9, 75] [(9, 5), (6, 3), (4, 4), (3, 5)] [.nat, (.l .int), .int] [kb 1, kb 1, 76] (fun w1 => [(76, .i .i64 w1.2.2.1), (kc 6 1, .ref 1 w1.1 w1.2.1.length false), (kb 1, .blk w1.1 .int w1.2.1 _ rfl)]) (fun w1 => I1 w0.1 w0.2.1 w0.2.2.1 w1.1 w1.2.1 w1.2.2.1) (fun w1 => m1 w0.1 w0.2.1 w0.2.2.1 w1.1 w1.2.1 w1.2.2.1) fun w1 => (.lp [(7, 2, .int)] [3, 4, 6, 9, 105] [(9, 5), (6, 3), (4, 4), (3, 5)] [.nat, (.l .int), .int, .bool, .bool] [kb 2, kb 2, 106, 7, 8] (fun w2 => [(7, .b (.v w2.2.2.2.1)), (8, .b (.v w2.2.2.2.2.1)), (106, .i .i64 w2.2.2.1), (kc 6 2, .ref 2 w2.1 w2.2.1.length false), (kb 2, .blk w2.1 .int w2.2.1 _ rfl)]) (fun w2 => I2 w0.1 w0.2.1 w0.2.2.1 w1.1 w1.2.1 w1.2.2.1 w2.1 w2.2.1 w2.2.2.1 w2.2.2.2.1 w2.2.2.2.2.1) (fun w2 => m2 w0.1 w0.2.1 w0.2.2.1 w1.1 w1.2.1 w1.2.2.1 w2.1 w2.2.1 w2.2.2.1 w2.2.2.2.1 w2.2.2.2.2.1) fun w2 => (.lp [] [3, 4, 6, 9, 13, 105, 106, 110, 111] [(9, 5), (6, 3), (4, 4), (3, 5)] [.nat, (.l .int), .int, .bool, .bool] [kb 2, kb 2, 112, 7, 8] (fun w3 => [(7, .b (.v w3.2.2.2.1)), (8, .b (.v w3.2.2.2.2.1)), (112, .i .i64 w3.2.2.1), (kc 6 2, .ref 2 w3.1 w3.2.1.length false), (kb 2, .blk w3.1 .int w3.2.1 _ rfl)]) (fun w3 => I3 w0.1 w0.2.1 w0.2.2.1 w1.1 w1.2.1 w1.2.2.1 w2.1 w2.2.1 w2.2.2.1 w2.2.2.2.1 w2.2.2.2.2.1 w3.1 w3.2.1 w3.2.2.1 w3.2.2.2.1 w3.2.2.2.2.1) (fun w3 => m3 w0.1 w0.2.1 w0.2.2.1 w1.1 w1.2.1 w1.2.2.1 w2.1 w2.2.1 w2.2.2.1 w2.2.2.2.1 w2.2.2.2.2.1 w3.1 w3.2.1 w3.2.2.1 w3.2.2.2.1 w3.2.2.2.2.1) fun _ => .nil)))) Try.func115 h) (fun _ x v => upI a0.ways.length (fun _ => false) v ∧ x = filtI (hitW a0 a1 a2) v) (fun _ _ v => upM a0.ways.length v) (fun _ x0 _ _ x1 v => x0 = filtI (hitW a0 a1 a2) a0.ways.length ∧ upI a0.sections (fun _ => false) v ∧ x1 = filtI (hitS a0 a1 a2) v) (fun _ _ _ _ _ v => upM a0.sections v) (fun _ x0 _ _ x1 _ _ x2 v a b => x0 = filtI (hitW a0 a1 a2) a0.ways.length ∧ x1 = filtI (hitS a0 a1 a2) a0.sections ∧ upI a0.switches.length (fun _ => false) v ∧ x2 = filtI (hitP a0 a1 a2) v ∧ a = fiveN a0 a1 a2 v ∧ b = sixN a0 a1 a2 v) (fun _ _ _ _ _ _ _ _ v _ _ => upM a0.switches.length v) (fun _ _ _ _ _ _ _ x k a b _ x' j a' b' => blkI a0 a1 a2 k x a b x' j a' b') (fun _ _ _ _ _ _ _ _ _ _ _ _ _ j _ _ => upM (needs (nth a0.ways a2)).length j) (by
 unfold impl_blocked_C
 obtain ⟨hf, h0, h1⟩ := hp
 have hw := hf.fr.ways
 have hpt := hf.fr.points
 have hocc := hf.fr.occ
 have hP := hf.in
 have hn100 := hP.ways
 have hsw := hP.sw
 have hsec := hP.secs
 have hB := planGood_bars hf.good
 have hlt : a2.toNat < a0.ways.length := by omega
 have hmw := nth_mem hlt
 have hnd := needs_once hf.good hmw
 refine ⟨⟨h0, hlt⟩, fun hn => ⟨⟨up_start (len0 _), rfl⟩, fun g x v hI => ?_⟩⟩
 obtain ⟨hI, rfl⟩ := hI
 have hlen := filt_len (hitW a0 a1 a2) v
 have hvn := hI.2.1
 unfold impl_blocked_C8
 refine ⟨fun hv => ⟨⟨filt_end hI hv, up_start hsec.1, rfl⟩, fun g1 x1 s hJ => ?_⟩, fun hv => ⟨up_in hI hv, ⟨fun _ => ?_, ?_⟩⟩⟩
 ·obtain ⟨hx0, hJ, rfl⟩ := hJ
  have hlen1 := filt_len (hitS a0 a1 a2) s
  have hsn := hJ.2.1
  unfold impl_blocked_C6
  refine ⟨fun hs hm => ⟨⟨hx0, filt_end hJ hs, up_start (len0 _), rfl, rfl, rfl⟩, fun g2 x2 k a b hK => ?_⟩, fun hs => ?_⟩
  ·obtain ⟨_, hx1, hK, rfl, rfl, rfl⟩ := hK
   have hlen2 := filt_len (hitP a0 a1 a2) k
   have hkn := hK.2.1
   unfold impl_blocked_C4
   refine ⟨fun hk => ?_, fun hk => ⟨⟨by have := (hP.lies _ hmw).1; omega, by have := (hP.lies _ hmw).2.1; omega⟩, fun hnn => ?_⟩⟩
   ·have e1 := filt_end (q := hitP a0 a1 a2) hK hk
    have e : k = a0.switches.length := by
     have : ¬ k < (a0.switches.length : Int) := by simpa using hk
     omega
    refine ⟨⟨by omega, hx0⟩, ⟨by omega, hx1⟩, ⟨by omega, e1⟩, ?_, ?_⟩
    ·rw [e]; rfl
    ·rw [e]; rfl
   ·have hkin := up_in hK hk
    have hk1 := up_step (lenI hm) hK hk rfl
    refine ⟨⟨up_start (len0 _), by simp [needSeen], by simp [needSeen], by simp [needSeen]⟩, fun g2' x2' j a' b' hL => ?_⟩
    obtain ⟨hL, rfl, rfl, rfl⟩ := hL
    unfold impl_blocked_C3
    refine ⟨fun hj => ?_, fun hj => ⟨up_in hL hj, ?_⟩⟩
    ·have hj' : ¬ j < ((needs (nth a0.ways a2)).length : Int) := by simpa using hj
     rw [seen_all _ _ _ _ (j := j.toNat) (by omega)]
     have s1 := filt_step (q := hitP a0 a1 a2) (lenI hm) hK hk
     have s2 := (filt_step (q := fun k => offP a0 a1 a2 k && lockP a0 a1 k) (lenI hm) hK hk).2.2
     have s3 := (filt_step (q := fun k => offP a0 a1 a2 k && occP a0 a1 k) (lenI hm) hK hk).2.2
     refine ⟨⟨hx0, hx1, hk1.1, ?_, s2.symm, s3.symm⟩, hk1.2⟩
     cases hq : hitP a0 a1 a2 k with
     | true => rw [if_pos (show (offP a0 a1 a2 k && (lockP a0 a1 k || occP a0 a1 k)) = true from hq)]; exact s1.1 hq
     | false => rw [if_neg (by rw [show (offP a0 a1 a2 k && (lockP a0 a1 k || occP a0 a1 k)) = false from hq]; simp)]; exact s1.2.1 hq
    ·have hjin := up_in hL hj
     have hj1 := up_step (lenI hnn) hL hj rfl
     have ej : (IntKind.i64.wrap (j + 1)).toNat = j.toNat + 1 := by rw [wrap_up (lenI hnn) hL.1 (by simpa using hj)]; omega
     have hss := seen_s (f := a1) (k := k) hjin.2
     have hnth : nth (needs (nth a0.ways a2)) j = (needs (nth a0.ways a2))[j.toNat]'hjin.2 := nth_eq hjin.2
     have hsecs := hP.switches _ (nth_mem hkin.2)
     have hbi : ∀ (c : Prop) [Decidable c], (if c then filtI (hitP a0 a1 a2) k ++ [k] else filtI (hitP a0 a1 a2) k).length ≤ 41 := fun c _ => by
      split
      ·rw [List.length_append, List.length_singleton]; omega
      ·omega
     unfold impl_blocked_C2
     rw [hnth]
     refine ⟨⟨fun _ => ⟨hK.1, by omega⟩, fun hq => ?_⟩, fun hq => ⟨⟨hf, hK.1, by omega⟩, fun hpl => ⟨⟨⟨hK.1, hkin.2⟩, hsecs.1, by omega⟩, ?_⟩⟩⟩
     ·have : ((needs (nth a0.ways a2))[j.toNat].sw == k && !((nth a1.points k).want == (needs (nth a0.ways a2))[j.toNat].lie)) = false := by
       revert hq
       rw [show ((needs (nth a0.ways a2))[j.toNat].sw != k) = !((needs (nth a0.ways a2))[j.toNat].sw == k) from rfl]
       cases ((needs (nth a0.ways a2))[j.toNat].sw == k) <;> cases ((nth a1.points k).want == (needs (nth a0.ways a2))[j.toNat].lie) <;> simp
      rw [this, Bool.or_false] at hss
      exact ⟨⟨hj1.1, by rw [ej, hss], by rw [ej, hss], by rw [ej, hss]⟩, hj1.2⟩
     ·have hq2 : ((needs (nth a0.ways a2))[j.toNat].sw == k) = true ∧ ((nth a1.points k).want == (needs (nth a0.ways a2))[j.toNat].lie) = false := by
       revert hq
       rw [show ((needs (nth a0.ways a2))[j.toNat].sw != k) = !((needs (nth a0.ways a2))[j.toNat].sw == k) from rfl]
       cases ((needs (nth a0.ways a2))[j.toNat].sw == k) <;> cases ((nth a1.points k).want == (needs (nth a0.ways a2))[j.toNat].lie) <;> simp
      have hno := seen_no (f := a1) hnd hjin.2 hq2.1
      rw [hno, hq2.1, hq2.2] at hss
      rw [hno]
      unfold impl_blocked_C1
      have e5 : (decide (((pointF a0 a1 k).length : Int) > 0)) = lockP a0 a1 k := rfl
      have e6 : nth a1.occ (nth a0.switches k) = occP a0 a1 k := rfl
      rw [e5, e6]
      simp only [Bool.false_and, Bool.or_false, if_false, Bool.false_eq_true]
      have E : ∀ c : Bool, (needSeen a0 a1 a2 k (IntKind.i64.wrap (j + 1)).toNat && c) = c := fun c => by rw [ej, hss]; rfl
      refine ⟨fun hc => ⟨⟨by simp only [List.length_singleton]; omega, by simp only [List.length_singleton]; omega⟩, ⟨hj1.1, ?_, by rw [E], by rw [E]⟩, hj1.2⟩, fun hc => ⟨⟨hj1.1, ?_, by rw [E], by rw [E]⟩, hj1.2⟩⟩
      ·rw [E, if_pos hc]
      ·rw [E, if_neg (by rw [hc]; simp)]
  ·have hsin : 0 ≤ s ∧ s < a0.sections := ⟨hJ.1, by simpa using hs⟩
   have hst := up_step (N := a0.sections) (by omega) hJ hs rfl
   have s1 := filt_step (q := hitS a0 a1 a2) (N := a0.sections) (by omega) hJ hs
   refine ⟨⟨hJ.1, by omega⟩, ?_⟩
   unfold impl_blocked_C5
   exact ⟨fun hq => ⟨⟨by simp only [List.length_singleton]; omega, by simp only [List.length_singleton]; omega⟩, ⟨hx0, hst.1, s1.1 hq⟩, hst.2⟩, fun hq => ⟨⟨hx0, hst.1, s1.2.1 hq⟩, hst.2⟩⟩
 ·have hin := up_in hI hv
  have hbl := hB.len
  have hrow := hB.row a2 h0 h1
  exact ⟨⟨hin.1, by omega⟩, fun _ => ⟨⟨h0, by omega⟩, hin.1, by omega⟩⟩
 ·have hst := up_step (lenI hn) hI hv rfl
  have s1 := filt_step (q := hitW a0 a1 a2) (lenI hn) hI hv
  unfold impl_blocked_C7
  exact ⟨fun hq => ⟨⟨by simp only [List.length_singleton]; omega, by simp only [List.length_singleton]; omega⟩, ⟨hst.1, s1.1 hq⟩, hst.2⟩, fun hq => ⟨⟨hst.1, s1.2.1 hq⟩, hst.2⟩⟩)
def impl_blocked_c : Ctr Try.prog := ⟨115, [.plan, .frame, .int], [.stays, .bool, .bool], some fun x => whyPre x.1 x.2.1 x.2.2.1, fun x => ((blockedF x.1 x.2.1 x.2.2.1).1, (blockedF x.1 x.2.1 x.2.2.1).2.1, (blockedF x.1 x.2.1 x.2.2.1).2.2, ()), fun x h => impl_blocked_V x.1 x.2.1 x.2.2.1 h⟩
def spec_l3stays_o7 : List Item := [iq 0, iq 1, iq 2, iq 3, iq 4, iq 5, iq 6, iq 7, iq 8, iq 9, iq 10, iq 11, iq 12, iq 13, iq 14, iq 15, iq 16, iq 17, iq 18, iq 19, iq 20, iq 21, iq 22, iq 23, iq 24, iq 25, iq 26, iq 27, iq 28, iq 29, iq 30, iq 31, iq 32, iq 33, iq 34, iq 35, iq 36, iq 37, iq 38, iq 39, iq 40, iq 41, iq 42, iq 43]
def spec_l3stays_o7a : List (List Nat) := [[], [], [0, 1], [0, 1, 2], rg 0 4, rg 0 5, rg 0 4, rg 0 7, rg 0 8, rg 0 9, rg 0 10, rg 0 11, rg 0 12, rg 0 13, rg 0 14, rg 0 13, rg 0 16, rg 0 17, rg 0 13, rg 0 19, rg 0 20, rg 0 21, rg 0 22, rg 0 23, rg 0 22, rg 0 22 ++ [24], rg 0 22, rg 0 22 ++ [24, 25, 26], rg 0 22 ++ rg 24 28, rg 0 22 ++ rg 24 29, rg 0 30, rg 0 31, rg 0 32, rg 0 33, rg 0 34, rg 0 33, rg 0 33 ++ [35], rg 0 33, rg 0 33 ++ [35, 36, 37], rg 0 33 ++ rg 35 39, rg 0 33 ++ rg 35 40, rg 0 41, rg 0 42, rg 0 43]
def spec_l3stays_o37 : List Item := [iq 0, iq 1, iq 2, iq 3, iq 4, iq 5, iq 6, iq 7, iq 8]
def spec_l3stays_o37a : List (List Nat) := [[], [0], [], [2], [], [2, 3, 4], rg 2 6, rg 0 7, rg 0 8]
def spec_l3stays_C1 (I2 : Nat → (List Int) → Int → Int → Nat → (List Int) → Int → Int → Nat → (List Int) → Int → Int → Prop) (m2 : Nat → (List Int) → Int → Int → Nat → (List Int) → Int → Int → Nat → (List Int) → Int → Int → Nat) (g0 : Nat) (x0 : (List Int)) (v28 v9 : Int) (g1 : Nat) (x1 : (List Int)) (v12 v9' : Int) (g2 : Nat) (x2 : (List Int)) (v118 v13 : Int) : Prop :=
  ((v13 == 0) = true → I2 g0 x0 v28 v9 g1 x1 v12 v9' (g2 + 1) (x2 ++ [v118]) (IntKind.i64.wrap (v118 + 1)) 6 ∧ m2 g0 x0 v28 v9 g1 x1 v12 v9' (g2 + 1) (x2 ++ [v118]) (IntKind.i64.wrap (v118 + 1)) 6 < m2 g0 x0 v28 v9 g1 x1 v12 v9' g2 x2 v118 v13) ∧ ((v13 == 0) = false → I2 g0 x0 v28 v9 g1 x1 v12 v9' (g2 + 1) (x2 ++ [v118]) (IntKind.i64.wrap (v118 + 1)) v13 ∧ m2 g0 x0 v28 v9 g1 x1 v12 v9' (g2 + 1) (x2 ++ [v118]) (IntKind.i64.wrap (v118 + 1)) v13 < m2 g0 x0 v28 v9 g1 x1 v12 v9' g2 x2 v118 v13)
def spec_l3stays_C2 (I2 : Nat → (List Int) → Int → Int → Nat → (List Int) → Int → Int → Nat → (List Int) → Int → Int → Prop) (m2 : Nat → (List Int) → Int → Int → Nat → (List Int) → Int → Int → Nat → (List Int) → Int → Int → Nat) (a0 : Plan) (a1 : Frame) (g0 : Nat) (x0 : (List Int)) (v28 v9 : Int) (g1 : Nat) (x1 : (List Int)) (v12 v9' : Int) (g2 : Nat) (x2 : (List Int)) (v118 v13 : Int) : Prop :=
  ((nth a1.occ (nth a0.switches v118)) = true → ((x2.length + [v118].length) * 8 ≤ 140737488355328 ∧ x2.length + [v118].length ≤ 4611686018427387904) ∧ (spec_l3stays_C1 I2 m2 g0 x0 v28 v9 g1 x1 v12 v9' g2 x2 v118 v13)) ∧ ((nth a1.occ (nth a0.switches v118)) = false → I2 g0 x0 v28 v9 g1 x1 v12 v9' g2 x2 (IntKind.i64.wrap (v118 + 1)) v13 ∧ m2 g0 x0 v28 v9 g1 x1 v12 v9' g2 x2 (IntKind.i64.wrap (v118 + 1)) v13 < m2 g0 x0 v28 v9 g1 x1 v12 v9' g2 x2 v118 v13)
def spec_l3stays_C3 (I2 : Nat → (List Int) → Int → Int → Nat → (List Int) → Int → Int → Nat → (List Int) → Int → Int → Prop) (m2 : Nat → (List Int) → Int → Int → Nat → (List Int) → Int → Int → Nat → (List Int) → Int → Int → Nat) (a0 : Plan) (a1 : Frame) (g0 : Nat) (x0 : (List Int)) (v28 v9 : Int) (g1 : Nat) (x1 : (List Int)) (v12 v9' : Int) (g2 : Nat) (x2 : (List Int)) (v118 v13 : Int) : Prop :=
  ((decide (((pointF a0 a1 v118).length : Int) > 0)) = true → ((x2.length + [v118].length) * 8 ≤ 140737488355328 ∧ x2.length + [v118].length ≤ 4611686018427387904) ∧ (I2 g0 x0 v28 v9 g1 x1 v12 v9' (g2 + 1) (x2 ++ [v118]) (IntKind.i64.wrap (v118 + 1)) 5 ∧ m2 g0 x0 v28 v9 g1 x1 v12 v9' (g2 + 1) (x2 ++ [v118]) (IntKind.i64.wrap (v118 + 1)) 5 < m2 g0 x0 v28 v9 g1 x1 v12 v9' g2 x2 v118 v13)) ∧ ((decide (((pointF a0 a1 v118).length : Int) > 0)) = false → ((0 ≤ v118 ∧ v118.toNat < a0.switches.length) ∧ (0 ≤ (nth a0.switches v118) ∧ (nth a0.switches v118).toNat < a1.occ.length)) ∧ (spec_l3stays_C2 I2 m2 a0 a1 g0 x0 v28 v9 g1 x1 v12 v9' g2 x2 v118 v13))
def spec_l3stays_C4 (I4 : Nat → (List Int) → Int → Int → Nat → (List Int) → Int → Int → Nat → (List Int) → Int → Int → Int → Int → Int → Int → Prop) (m4 : Nat → (List Int) → Int → Int → Nat → (List Int) → Int → Int → Nat → (List Int) → Int → Int → Int → Int → Int → Int → Nat) (a0 : Plan) (a2 : Int) (g0 : Nat) (x0 : (List Int)) (v28 v9 : Int) (g1 : Nat) (x1 : (List Int)) (v12 v9' v133 v15 v127 v15' : Int) (g2 : Nat) (x2 : (List Int)) (v118 v13 : Int) : Prop :=
  I4 g0 x0 v28 v9 g1 x1 v12 v9' g2 x2 v118 v13 v127 v15 (IntKind.i64.wrap (v133 + 1)) (bif (((nth (nth [(nth a0.ways a2).lies, (nth a0.ways a2).flanks] v127) v133).sw) == v118) then (nth (nth [(nth a0.ways a2).lies, (nth a0.ways a2).flanks] v127) v133).lie else v15') ∧ m4 g0 x0 v28 v9 g1 x1 v12 v9' g2 x2 v118 v13 v127 v15 (IntKind.i64.wrap (v133 + 1)) (bif (((nth (nth [(nth a0.ways a2).lies, (nth a0.ways a2).flanks] v127) v133).sw) == v118) then (nth (nth [(nth a0.ways a2).lies, (nth a0.ways a2).flanks] v127) v133).lie else v15') < m4 g0 x0 v28 v9 g1 x1 v12 v9' g2 x2 v118 v13 v127 v15 v133 v15'
def spec_l3stays_C5 (I3 : Nat → (List Int) → Int → Int → Nat → (List Int) → Int → Int → Nat → (List Int) → Int → Int → Int → Int → Prop) (m3 : Nat → (List Int) → Int → Int → Nat → (List Int) → Int → Int → Nat → (List Int) → Int → Int → Int → Int → Nat) (I4 : Nat → (List Int) → Int → Int → Nat → (List Int) → Int → Int → Nat → (List Int) → Int → Int → Int → Int → Int → Int → Prop) (m4 : Nat → (List Int) → Int → Int → Nat → (List Int) → Int → Int → Nat → (List Int) → Int → Int → Int → Int → Int → Int → Nat) (a0 : Plan) (a2 : Int) (g0 : Nat) (x0 : (List Int)) (v28 v9 : Int) (g1 : Nat) (x1 : (List Int)) (v12 v9' v133 v15 v127 v15' : Int) (g2 : Nat) (x2 : (List Int)) (v118 v13 : Int) : Prop :=
  ((decide (v133 < ((nth [(nth a0.ways a2).lies, (nth a0.ways a2).flanks] v127).length : Int))) = false → I3 g0 x0 v28 v9 g1 x1 v12 v9' g2 x2 v118 v13 (IntKind.i64.wrap (v127 + 1)) v15' ∧ m3 g0 x0 v28 v9 g1 x1 v12 v9' g2 x2 v118 v13 (IntKind.i64.wrap (v127 + 1)) v15' < m3 g0 x0 v28 v9 g1 x1 v12 v9' g2 x2 v118 v13 v127 v15) ∧ ((decide (v133 < ((nth [(nth a0.ways a2).lies, (nth a0.ways a2).flanks] v127).length : Int))) = true → (0 ≤ v133 ∧ v133.toNat < (nth [(nth a0.ways a2).lies, (nth a0.ways a2).flanks] v127).length) ∧ (spec_l3stays_C4 I4 m4 a0 a2 g0 x0 v28 v9 g1 x1 v12 v9' v133 v15 v127 v15' g2 x2 v118 v13))
def spec_l3stays_C6 (I3 : Nat → (List Int) → Int → Int → Nat → (List Int) → Int → Int → Nat → (List Int) → Int → Int → Int → Int → Prop) (m3 : Nat → (List Int) → Int → Int → Nat → (List Int) → Int → Int → Nat → (List Int) → Int → Int → Int → Int → Nat) (I4 : Nat → (List Int) → Int → Int → Nat → (List Int) → Int → Int → Nat → (List Int) → Int → Int → Int → Int → Int → Int → Prop) (m4 : Nat → (List Int) → Int → Int → Nat → (List Int) → Int → Int → Nat → (List Int) → Int → Int → Int → Int → Int → Int → Nat) (a0 : Plan) (a2 : Int) (g0 : Nat) (x0 : (List Int)) (v28 v9 : Int) (g1 : Nat) (x1 : (List Int)) (v12 v9' v15 v127 : Int) (g2 : Nat) (x2 : (List Int)) (v118 v13 : Int) : Prop :=
  (0 ≤ v127 ∧ v127.toNat < [(nth a0.ways a2).lies, (nth a0.ways a2).flanks].length) ∧ ((nth [(nth a0.ways a2).lies, (nth a0.ways a2).flanks] v127).length ≤ 4611686018427387904 → I4 g0 x0 v28 v9 g1 x1 v12 v9' g2 x2 v118 v13 v127 v15 0 v15 ∧ ∀ (v133 : Int) (v15' : Int), I4 g0 x0 v28 v9 g1 x1 v12 v9' g2 x2 v118 v13 v127 v15 v133 v15' → (spec_l3stays_C5 I3 m3 I4 m4 a0 a2 g0 x0 v28 v9 g1 x1 v12 v9' v133 v15 v127 v15' g2 x2 v118 v13))
def spec_l3stays_C7 (I2 : Nat → (List Int) → Int → Int → Nat → (List Int) → Int → Int → Nat → (List Int) → Int → Int → Prop) (m2 : Nat → (List Int) → Int → Int → Nat → (List Int) → Int → Int → Nat → (List Int) → Int → Int → Nat) (I3 : Nat → (List Int) → Int → Int → Nat → (List Int) → Int → Int → Nat → (List Int) → Int → Int → Int → Int → Prop) (m3 : Nat → (List Int) → Int → Int → Nat → (List Int) → Int → Int → Nat → (List Int) → Int → Int → Int → Int → Nat) (I4 : Nat → (List Int) → Int → Int → Nat → (List Int) → Int → Int → Nat → (List Int) → Int → Int → Int → Int → Int → Int → Prop) (m4 : Nat → (List Int) → Int → Int → Nat → (List Int) → Int → Int → Nat → (List Int) → Int → Int → Int → Int → Int → Int → Nat) (a0 : Plan) (a1 : Frame) (a2 : Int) (g0 : Nat) (x0 : (List Int)) (v28 v9 : Int) (g1 : Nat) (x1 : (List Int)) (v12 v9' v15 v127 : Int) (g2 : Nat) (x2 : (List Int)) (v118 v13 : Int) : Prop :=
  ((decide (v127 < ([(nth a0.ways a2).lies, (nth a0.ways a2).flanks].length : Int))) = false → (((v15 == 0) = false → 0 ≤ v118 ∧ v118.toNat < a1.points.length) ∧ (((v15 == 0) || (v15 == ((nth a1.points v118).want))) = true → I2 g0 x0 v28 v9 g1 x1 v12 v9' g2 x2 (IntKind.i64.wrap (v118 + 1)) v13 ∧ m2 g0 x0 v28 v9 g1 x1 v12 v9' g2 x2 (IntKind.i64.wrap (v118 + 1)) v13 < m2 g0 x0 v28 v9 g1 x1 v12 v9' g2 x2 v118 v13)) ∧ ((!((v15 == 0) || (v15 == ((nth a1.points v118).want)))) = true → (pointPre a0 a1 v118) ∧ ((pointF a0 a1 v118).length ≤ 4611686018427387904 → spec_l3stays_C3 I2 m2 a0 a1 g0 x0 v28 v9 g1 x1 v12 v9' g2 x2 v118 v13))) ∧ ((decide (v127 < ([(nth a0.ways a2).lies, (nth a0.ways a2).flanks].length : Int))) = true → spec_l3stays_C6 I3 m3 I4 m4 a0 a2 g0 x0 v28 v9 g1 x1 v12 v9' v15 v127 g2 x2 v118 v13)
def spec_l3stays_C8 (I2 : Nat → (List Int) → Int → Int → Nat → (List Int) → Int → Int → Nat → (List Int) → Int → Int → Prop) (m2 : Nat → (List Int) → Int → Int → Nat → (List Int) → Int → Int → Nat → (List Int) → Int → Int → Nat) (I3 : Nat → (List Int) → Int → Int → Nat → (List Int) → Int → Int → Nat → (List Int) → Int → Int → Int → Int → Prop) (m3 : Nat → (List Int) → Int → Int → Nat → (List Int) → Int → Int → Nat → (List Int) → Int → Int → Int → Int → Nat) (I4 : Nat → (List Int) → Int → Int → Nat → (List Int) → Int → Int → Nat → (List Int) → Int → Int → Int → Int → Int → Int → Prop) (m4 : Nat → (List Int) → Int → Int → Nat → (List Int) → Int → Int → Nat → (List Int) → Int → Int → Int → Int → Int → Int → Nat) (a0 : Plan) (a1 : Frame) (a2 : Int) (res : Stays × Int) (g0 : Nat) (x0 : (List Int)) (v28 v9 : Int) (g1 : Nat) (x1 : (List Int)) (v12 v9' : Int) (g2 : Nat) (x2 : (List Int)) (v118 v13 : Int) : Prop :=
  ((decide (v118 < (a0.switches.length : Int))) = false → (x0.length ≤ 4611686018427387904 ∧ x0 = res.1.ways) ∧ (x1.length ≤ 4611686018427387904 ∧ x1 = res.1.sections) ∧ (x2.length ≤ 4611686018427387904 ∧ x2 = res.1.points) ∧ ((bif (v9' == 0) then v13 else v9') = res.2)) ∧ ((decide (v118 < (a0.switches.length : Int))) = true → [(nth a0.ways a2).lies, (nth a0.ways a2).flanks].length ≤ 4611686018427387904 → I3 g0 x0 v28 v9 g1 x1 v12 v9' g2 x2 v118 v13 0 0 ∧ ∀ (v127 : Int) (v15 : Int), I3 g0 x0 v28 v9 g1 x1 v12 v9' g2 x2 v118 v13 v127 v15 → (spec_l3stays_C7 I2 m2 I3 m3 I4 m4 a0 a1 a2 g0 x0 v28 v9 g1 x1 v12 v9' v15 v127 g2 x2 v118 v13))
def spec_l3stays_C9 (I1 : Nat → (List Int) → Int → Int → Nat → (List Int) → Int → Int → Prop) (m1 : Nat → (List Int) → Int → Int → Nat → (List Int) → Int → Int → Nat) (a0 : Plan) (a1 : Frame) (a2 : Int) (g0 : Nat) (x0 : (List Int)) (v28 v9 : Int) (g1 : Nat) (x1 : (List Int)) (v12 v9' : Int) : Prop :=
  (((nth a1.occ v12) && ((meets [v12] ((nth a0.ways a2).sections)) || (meets [v12] ((nth a0.ways a2).over)))) = true → ((x1.length + [v12].length) * 8 ≤ 140737488355328 ∧ x1.length + [v12].length ≤ 4611686018427387904) ∧ (((v9' == 0) = true → I1 g0 x0 v28 v9 (g1 + 1) (x1 ++ [v12]) (IntKind.i64.wrap (v12 + 1)) 4 ∧ m1 g0 x0 v28 v9 (g1 + 1) (x1 ++ [v12]) (IntKind.i64.wrap (v12 + 1)) 4 < m1 g0 x0 v28 v9 g1 x1 v12 v9') ∧ ((v9' == 0) = false → I1 g0 x0 v28 v9 (g1 + 1) (x1 ++ [v12]) (IntKind.i64.wrap (v12 + 1)) v9' ∧ m1 g0 x0 v28 v9 (g1 + 1) (x1 ++ [v12]) (IntKind.i64.wrap (v12 + 1)) v9' < m1 g0 x0 v28 v9 g1 x1 v12 v9'))) ∧ (((nth a1.occ v12) && ((meets [v12] ((nth a0.ways a2).sections)) || (meets [v12] ((nth a0.ways a2).over)))) = false → I1 g0 x0 v28 v9 g1 x1 (IntKind.i64.wrap (v12 + 1)) v9' ∧ m1 g0 x0 v28 v9 g1 x1 (IntKind.i64.wrap (v12 + 1)) v9' < m1 g0 x0 v28 v9 g1 x1 v12 v9')
def spec_l3stays_C10 (I1 : Nat → (List Int) → Int → Int → Nat → (List Int) → Int → Int → Prop) (m1 : Nat → (List Int) → Int → Int → Nat → (List Int) → Int → Int → Nat) (I2 : Nat → (List Int) → Int → Int → Nat → (List Int) → Int → Int → Nat → (List Int) → Int → Int → Prop) (m2 : Nat → (List Int) → Int → Int → Nat → (List Int) → Int → Int → Nat → (List Int) → Int → Int → Nat) (I3 : Nat → (List Int) → Int → Int → Nat → (List Int) → Int → Int → Nat → (List Int) → Int → Int → Int → Int → Prop) (m3 : Nat → (List Int) → Int → Int → Nat → (List Int) → Int → Int → Nat → (List Int) → Int → Int → Int → Int → Nat) (I4 : Nat → (List Int) → Int → Int → Nat → (List Int) → Int → Int → Nat → (List Int) → Int → Int → Int → Int → Int → Int → Prop) (m4 : Nat → (List Int) → Int → Int → Nat → (List Int) → Int → Int → Nat → (List Int) → Int → Int → Int → Int → Int → Int → Nat) (a0 : Plan) (a1 : Frame) (a2 : Int) (res : Stays × Int) (g0 : Nat) (x0 : (List Int)) (v28 v9 : Int) (g1 : Nat) (x1 : (List Int)) (v12 v9' : Int) : Prop :=
  ((decide (v12 < a0.sections)) = false → a0.switches.length ≤ 4611686018427387904 → I2 g0 x0 v28 v9 g1 x1 v12 v9' 0 ([] : List Int) 0 0 ∧ ∀ (g2 : Nat) (x2 : (List Int)) (v118 : Int) (v13 : Int), I2 g0 x0 v28 v9 g1 x1 v12 v9' g2 x2 v118 v13 → (spec_l3stays_C8 I2 m2 I3 m3 I4 m4 a0 a1 a2 res g0 x0 v28 v9 g1 x1 v12 v9' g2 x2 v118 v13)) ∧ ((decide (v12 < a0.sections)) = true → (0 ≤ v12 ∧ v12.toNat < a1.occ.length) ∧ (spec_l3stays_C9 I1 m1 a0 a1 a2 g0 x0 v28 v9 g1 x1 v12 v9'))
def spec_l3stays_C11 (I0 : Nat → (List Int) → Int → Int → Prop) (m0 : Nat → (List Int) → Int → Int → Nat) (a0 : Plan) (a1 : Frame) (a2 : Int) (g0 : Nat) (x0 : (List Int)) (v28 v9 : Int) : Prop :=
  (((v28 != a2) && ((((nth a1.ways v28).state) != 0) && ((nth (nth a0.bars a2) v28) || ((meets ((nth a0.ways a2).sections) ((nth a0.ways v28).over)) || (meets ((nth a0.ways a2).over) ((nth a0.ways v28).sections)))))) = true → ((x0.length + [v28].length) * 8 ≤ 140737488355328 ∧ x0.length + [v28].length ≤ 4611686018427387904) ∧ (I0 (g0 + 1) (x0 ++ [v28]) (IntKind.i64.wrap (v28 + 1)) 3 ∧ m0 (g0 + 1) (x0 ++ [v28]) (IntKind.i64.wrap (v28 + 1)) 3 < m0 g0 x0 v28 v9)) ∧ (((v28 != a2) && ((((nth a1.ways v28).state) != 0) && ((nth (nth a0.bars a2) v28) || ((meets ((nth a0.ways a2).sections) ((nth a0.ways v28).over)) || (meets ((nth a0.ways a2).over) ((nth a0.ways v28).sections)))))) = false → I0 g0 x0 (IntKind.i64.wrap (v28 + 1)) v9 ∧ m0 g0 x0 (IntKind.i64.wrap (v28 + 1)) v9 < m0 g0 x0 v28 v9)
def spec_l3stays_C12 (I0 : Nat → (List Int) → Int → Int → Prop) (m0 : Nat → (List Int) → Int → Int → Nat) (a0 : Plan) (a1 : Frame) (a2 : Int) (g0 : Nat) (x0 : (List Int)) (v28 v9 : Int) : Prop :=
  ((v28 != a2) = true → (0 ≤ v28 ∧ v28.toNat < a1.ways.length) ∧ ((((nth a1.ways v28).state) != 0) = true → (0 ≤ a2 ∧ a2.toNat < a0.bars.length) ∧ ((0 ≤ v28 ∧ v28.toNat < (nth a0.bars a2).length) ∧ ((nth (nth a0.bars a2) v28) = false → (0 ≤ v28 ∧ v28.toNat < a0.ways.length) ∧ ((meets ((nth a0.ways a2).sections) ((nth a0.ways v28).over)) = false → 0 ≤ v28 ∧ v28.toNat < a0.ways.length))))) ∧ (spec_l3stays_C11 I0 m0 a0 a1 a2 g0 x0 v28 v9)
def spec_l3stays_C13 (I0 : Nat → (List Int) → Int → Int → Prop) (m0 : Nat → (List Int) → Int → Int → Nat) (I1 : Nat → (List Int) → Int → Int → Nat → (List Int) → Int → Int → Prop) (m1 : Nat → (List Int) → Int → Int → Nat → (List Int) → Int → Int → Nat) (I2 : Nat → (List Int) → Int → Int → Nat → (List Int) → Int → Int → Nat → (List Int) → Int → Int → Prop) (m2 : Nat → (List Int) → Int → Int → Nat → (List Int) → Int → Int → Nat → (List Int) → Int → Int → Nat) (I3 : Nat → (List Int) → Int → Int → Nat → (List Int) → Int → Int → Nat → (List Int) → Int → Int → Int → Int → Prop) (m3 : Nat → (List Int) → Int → Int → Nat → (List Int) → Int → Int → Nat → (List Int) → Int → Int → Int → Int → Nat) (I4 : Nat → (List Int) → Int → Int → Nat → (List Int) → Int → Int → Nat → (List Int) → Int → Int → Int → Int → Int → Int → Prop) (m4 : Nat → (List Int) → Int → Int → Nat → (List Int) → Int → Int → Nat → (List Int) → Int → Int → Int → Int → Int → Int → Nat) (a0 : Plan) (a1 : Frame) (a2 : Int) (res : Stays × Int) : Prop :=
  I0 0 ([] : List Int) 0 0 ∧ ∀ (g0 : Nat) (x0 : (List Int)) (v28 : Int) (v9 : Int), I0 g0 x0 v28 v9 → (((decide (v28 < (a0.ways.length : Int))) = false → I1 g0 x0 v28 v9 0 ([] : List Int) 0 v9 ∧ ∀ (g1 : Nat) (x1 : (List Int)) (v12 : Int) (v9' : Int), I1 g0 x0 v28 v9 g1 x1 v12 v9' → (spec_l3stays_C10 I1 m1 I2 m2 I3 m3 I4 m4 a0 a1 a2 res g0 x0 v28 v9 g1 x1 v12 v9')) ∧ ((decide (v28 < (a0.ways.length : Int))) = true → spec_l3stays_C12 I0 m0 a0 a1 a2 g0 x0 v28 v9))
def spec_l3stays_C (a0 : Plan) (a1 : Frame) (a2 : Int) (res : Stays × Int) (I0 : Nat → (List Int) → Int → Int → Prop) (m0 : Nat → (List Int) → Int → Int → Nat) (I1 : Nat → (List Int) → Int → Int → Nat → (List Int) → Int → Int → Prop) (m1 : Nat → (List Int) → Int → Int → Nat → (List Int) → Int → Int → Nat) (I2 : Nat → (List Int) → Int → Int → Nat → (List Int) → Int → Int → Nat → (List Int) → Int → Int → Prop) (m2 : Nat → (List Int) → Int → Int → Nat → (List Int) → Int → Int → Nat → (List Int) → Int → Int → Nat) (I3 : Nat → (List Int) → Int → Int → Nat → (List Int) → Int → Int → Nat → (List Int) → Int → Int → Int → Int → Prop) (m3 : Nat → (List Int) → Int → Int → Nat → (List Int) → Int → Int → Nat → (List Int) → Int → Int → Int → Int → Nat) (I4 : Nat → (List Int) → Int → Int → Nat → (List Int) → Int → Int → Nat → (List Int) → Int → Int → Int → Int → Int → Int → Prop) (m4 : Nat → (List Int) → Int → Int → Nat → (List Int) → Int → Int → Nat → (List Int) → Int → Int → Int → Int → Int → Int → Nat) : Prop :=
 (0 ≤ a2 ∧ a2.toNat < a0.ways.length) ∧ (a0.ways.length ≤ 4611686018427387904 → spec_l3stays_C13 I0 m0 I1 m1 I2 m2 I3 m3 I4 m4 a0 a1 a2 res)
theorem spec_l3stays_V (a0 : Plan) (a1 : Frame) (a2 : Int) (hp : whyPre a0 a1 a2) : FnV Try.prog 154 [.agg (ePlan false a0), .agg (eFrame false a1), ai a2] (.tup [.agg (eStays true ((stays3F a0 a1 a2).1)), ai ((stays3F a0 a1 a2).2)]) := (fun (I0 : Nat → (List Int) → Int → Int → Prop) (m0 : Nat → (List Int) → Int → Int → Nat) (I1 : Nat → (List Int) → Int → Int → Nat → (List Int) → Int → Int → Prop) (m1 : Nat → (List Int) → Int → Int → Nat → (List Int) → Int → Int → Nat) (I2 : Nat → (List Int) → Int → Int → Nat → (List Int) → Int → Int → Nat → (List Int) → Int → Int → Prop) (m2 : Nat → (List Int) → Int → Int → Nat → (List Int) → Int → Int → Nat → (List Int) → Int → Int → Nat) (I3 : Nat → (List Int) → Int → Int → Nat → (List Int) → Int → Int → Nat → (List Int) → Int → Int → Int → Int → Prop) (m3 : Nat → (List Int) → Int → Int → Nat → (List Int) → Int → Int → Nat → (List Int) → Int → Int → Int → Int → Nat) (I4 : Nat → (List Int) → Int → Int → Nat → (List Int) → Int → Int → Nat → (List Int) → Int → Int → Int → Int → Int → Int → Prop) (m4 : Nat → (List Int) → Int → Int → Nat → (List Int) → Int → Int → Nat → (List Int) → Int → Int → Int → Int → Int → Int → Nat) (h : spec_l3stays_C a0 a1 a2 (stays3F a0 a1 a2) I0 m0 I1 m1 I2 m2 I3 m3 I4 m4) => FnV.run (ps := [.plan, .frame, .int]) (rs := [.stays, .int]) (x := (a0, a1, a2, ())) (r := ((stays3F a0 a1 a2).1, (stays3F a0 a1 a2).2, ())) ⟨192, ecs, [spec_l3point_c, spec_l1meet_c]⟩ ⟨[], [(7, spec_l3stays_o7, spec_l3stays_o7a), (37, spec_l3stays_o37, spec_l3stays_o37a)]⟩ (.lp [(9, 0, .int)] [2, 3, 4, 6, 8, 10, 27] [(10, 5), (8, 3), (6, 3), (4, 4), (3, 5)] [.nat, (.l .int), .int, .int] [kb 0, kb 0, 28, 9] (fun w0 => [(9, .i .i64 w0.2.2.2.1), (28, .i .i64 w0.2.2.1), (kc 8 0, .ref 0 w0.1 w0.2.1.length false), (kb 0, .blk w0.1 .int w0.2.1 _ rfl)]) (fun w0 => I0 w0.1 w0.2.1 w0.2.2.1 w0.2.2.2.1) (fun w0 => m0 w0.1 w0.2.1 w0.2.2.1 w0.2.2.2.1) fun w0 => (.lp [(9, 1, .int)] [3, 4, 6, 8, 10] [(10, 5), (8, 3), (6, 3), (4, 4), (3, 5)] [.nat, (.l .int), .int, .int] [kb 1, kb 1, 12, 9] (fun w1 => [(9, .i .i64 w1.2.2.2.1), (12, .i .i64 w1.2.2.1), (kc 8 1, .ref 1 w1.1 w1.2.1.length false), (kb 1, .blk w1.1 .int w1.2.1 _ rfl)]) (fun w1 => I1 w0.1 w0.2.1 w0.2.2.1 w0.2.2.2.1 w1.1 w1.2.1 w1.2.2.1 w1.2.2.2.1) (fun w1 => m1 w0.1 w0.2.1 w0.2.2.1 w0.2.2.2.1 w1.1 w1.2.1 w1.2.2.1 w1.2.2.2.1) fun w1 => (.lp [(9, 2, .int)] [3, 4, 6, 8, 9, 10, 117] [(10, 5), (8, 3), (6, 3), (4, 4), (3, 5)] [.nat, (.l .int), .int, .int] [kb 2, kb 2, 118, 13] (fun w2 => [(13, .i .i64 w2.2.2.2.1), (118, .i .i64 w2.2.2.1), (kc 8 2, .ref 2 w2.1 w2.2.1.length false), (kb 2, .blk w2.1 .int w2.2.1 _ rfl)]) (fun w2 => I2 w0.1 w0.2.1 w0.2.2.1 w0.2.2.2.1 w1.1 w1.2.1 w1.2.2.1 w1.2.2.2.1 w2.1 w2.2.1 w2.2.2.1 w2.2.2.2.1) (fun w2 => m2 w0.1 w0.2.1 w0.2.2.1 w0.2.2.2.1 w1.1 w1.2.1 w1.2.2.1 w1.2.2.2.1 w2.1 w2.2.1 w2.2.2.1 w2.2.2.2.1) fun w2 => (.lp [] [3, 4, 6, 8, 9, 10, 13, 14, 117, 118, 125, 126] [(10, 5), (8, 3), (6, 3), (4, 4), (3, 5)] [.int, .int] [127, 15] (fun w3 => [(15, .i .i64 w3.2.1), (127, .i .i64 w3.1)]) (fun w3 => I3 w0.1 w0.2.1 w0.2.2.1 w0.2.2.2.1 w1.1 w1.2.1 w1.2.2.1 w1.2.2.2.1 w2.1 w2.2.1 w2.2.2.1 w2.2.2.2.1 w3.1 w3.2.1) (fun w3 => m3 w0.1 w0.2.1 w0.2.2.1 w0.2.2.2.1 w1.1 w1.2.1 w1.2.2.1 w1.2.2.2.1 w2.1 w2.2.1 w2.2.2.1 w2.2.2.2.1 w3.1 w3.2.1) fun w3 => (.lp [] [3, 4, 6, 8, 9, 10, 13, 14, 117, 118, 125, 126, 127, 131, 132] [(10, 5), (8, 3), (6, 3), (4, 4), (3, 5)] [.int, .int] [133, 15] (fun w4 => [(15, .i .i64 w4.2.1), (133, .i .i64 w4.1)]) (fun w4 => I4 w0.1 w0.2.1 w0.2.2.1 w0.2.2.2.1 w1.1 w1.2.1 w1.2.2.1 w1.2.2.2.1 w2.1 w2.2.1 w2.2.2.1 w2.2.2.2.1 w3.1 w3.2.1 w4.1 w4.2.1) (fun w4 => m4 w0.1 w0.2.1 w0.2.2.1 w0.2.2.2.1 w1.1 w1.2.1 w1.2.2.1 w1.2.2.2.1 w2.1 w2.2.1 w2.2.2.1 w2.2.2.2.1 w3.1 w3.2.1 w4.1 w4.2.1) fun _ => .nil))))) Try.func154 h) (fun _ x v c => upI a0.ways.length (fun _ => false) v ∧ x = filtI (hitW a0 a1 a2) v ∧ c = (if x ≠ [] then 3 else 0)) (fun _ _ v _ => upM a0.ways.length v) (fun _ x0 _ _ _ x1 v c => x0 = filtI (hitW a0 a1 a2) a0.ways.length ∧ upI a0.sections (fun _ => false) v ∧ x1 = filtI (hitS a0 a1 a2) v ∧ c = (if x0 ≠ [] then 3 else if x1 ≠ [] then 4 else 0)) (fun _ _ _ _ _ _ v _ => upM a0.sections v) (fun _ x0 _ _ _ x1 _ c _ x2 v h => x0 = filtI (hitW a0 a1 a2) a0.ways.length ∧ x1 = filtI (hitS a0 a1 a2) a0.sections ∧ c = (if x0 ≠ [] then 3 else if x1 ≠ [] then 4 else 0) ∧ upI a0.switches.length (fun _ => false) v ∧ x2 = filtI (hitP a0 a1 a2) v ∧ h = heldN a0 a1 a2 v) (fun _ _ _ _ _ _ _ _ _ _ v _ => upM a0.switches.length v) (fun _ _ _ _ _ _ _ _ _ _ k _ i l => upI ([(nth a0.ways a2).lies, (nth a0.ways a2).flanks].length : Int) (fun _ => false) i ∧ l = lieFrom 0 (([(nth a0.ways a2).lies, (nth a0.ways a2).flanks].take i.toNat).flatten) k) (fun _ _ _ _ _ _ _ _ _ _ _ _ i _ => upM ([(nth a0.ways a2).lies, (nth a0.ways a2).flanks].length : Int) i) (fun _ _ _ _ _ _ _ _ _ _ k _ i l j l' => upI (nth [(nth a0.ways a2).lies, (nth a0.ways a2).flanks] i).length (fun _ => false) j ∧ l' = lieFrom l ((nth [(nth a0.ways a2).lies, (nth a0.ways a2).flanks] i).take j.toNat) k) (fun _ _ _ _ _ _ _ _ _ _ _ _ i _ j _ => upM (nth [(nth a0.ways a2).lies, (nth a0.ways a2).flanks] i).length j) (by
 unfold spec_l3stays_C spec_l3stays_C13
 obtain ⟨hf, h0, h1⟩ := hp
 have hw := hf.fr.ways
 have hpt := hf.fr.points
 have hocc := hf.fr.occ
 have hP := hf.in
 have hn100 := hP.ways
 have hsw := hP.sw
 have hsec := hP.secs
 have hB := planGood_bars hf.good
 have hlt : a2.toNat < a0.ways.length := by omega
 have hmw := nth_mem hlt
 have hnd := needs_once hf.good hmw
 refine ⟨⟨h0, hlt⟩, fun hn => ⟨⟨up_start (len0 _), rfl, rfl⟩, fun g x v c hI => ?_⟩⟩
 obtain ⟨hI, rfl, rfl⟩ := hI
 have hlen := filt_len (hitW a0 a1 a2) v
 have hvn := hI.2.1
 refine ⟨fun hv => ⟨⟨filt_end hI hv, up_start hsec.1, rfl, by simp [filt_0]⟩, fun g1 x1 s c1 hJ => ?_⟩, fun hv => ?_⟩
 ·obtain ⟨hx0, hJ, rfl, rfl⟩ := hJ
  have hlen1 := filt_len (hitS a0 a1 a2) s
  have hsn := hJ.2.1
  unfold spec_l3stays_C10
  refine ⟨fun hs hm => ⟨⟨hx0, filt_end hJ hs, rfl, up_start (len0 _), rfl, rfl⟩, fun g2 x2 k hd hK => ?_⟩, fun hs => ?_⟩
  ·obtain ⟨_, hx1, hc, hK, rfl, rfl⟩ := hK
   have hlen2 := filt_len (hitP a0 a1 a2) k
   have hkn := hK.2.1
   unfold spec_l3stays_C8
   refine ⟨fun hk => ?_, fun hk h2 => ⟨⟨up_start (len0 _), rfl⟩, fun i l hL => ?_⟩⟩
   ·have e1 := filt_end (q := hitP a0 a1 a2) hK hk
    have e : k = a0.switches.length := by
     have : ¬ k < (a0.switches.length : Int) := by simpa using hk
     omega
    refine ⟨⟨by omega, hx0⟩, ⟨by omega, hx1⟩, ⟨by omega, e1⟩, ?_⟩
    show _ = codeF a0 a1 a2
    unfold codeF
    show _ = if filtI (hitW a0 a1 a2) a0.ways.length ≠ [] then 3 else if filtI (hitS a0 a1 a2) a0.sections ≠ [] then 4 else _
    rw [hx0, hx1]
    by_cases z1 : filtI (hitW a0 a1 a2) a0.ways.length ≠ []
    ·rw [if_pos z1, if_pos z1]; rfl
    ·rw [if_neg z1, if_neg z1]
     by_cases z2 : filtI (hitS a0 a1 a2) a0.sections ≠ []
     ·rw [if_pos z2, if_pos z2]; rfl
     ·rw [if_neg z2, if_neg z2, e]; rfl
   ·have hkin := up_in hK hk
    have hk1 := up_step (lenI hm) hK hk rfl
    have s1 := filt_step (q := hitP a0 a1 a2) (lenI hm) hK hk
    have s2 := (filt_step (q := fun k => offP a0 a1 a2 k && lockP a0 a1 k) (lenI hm) hK hk).2.2
    have s3 := (filt_step (q := fun k => offP a0 a1 a2 k && occP a0 a1 k) (lenI hm) hK hk).2.2
    have hs5 : fiveN a0 a1 a2 (IntKind.i64.wrap (k + 1)) = (fiveN a0 a1 a2 k || (offP a0 a1 a2 k && lockP a0 a1 k)) := s2
    have hs6 : sixN a0 a1 a2 (IntKind.i64.wrap (k + 1)) = (sixN a0 a1 a2 k || (offP a0 a1 a2 k && occP a0 a1 k)) := s3
    obtain ⟨hL, rfl⟩ := hL
    unfold spec_l3stays_C7
    refine ⟨fun hi => ?_, fun hi => ?_⟩
    ·have hi2 : i = 2 := by
      have a := hL.2.1
      have : ¬ i < (([(nth a0.ways a2).lies, (nth a0.ways a2).flanks].length : Nat) : Int) := by simpa using hi
      simp at a this; omega
     have hne : (List.take i.toNat [(nth a0.ways a2).lies, (nth a0.ways a2).flanks]).flatten = needs (nth a0.ways a2) := by rw [hi2]; simp [needs]
     rw [hne]
     have ho := lie_off (f := a1) (k := k) hf.good hlt
     refine ⟨⟨fun _ => ⟨hK.1, by omega⟩, fun hq => ?_⟩, fun hq => ⟨⟨hf, hK.1, by omega⟩, fun hpl => ?_⟩⟩
     ·rw [ho] at hq
      have hq : offP a0 a1 a2 k = false := by simpa using hq
      refine ⟨⟨hx0, hx1, hc, hk1.1, s1.2.1 (by unfold hitP; rw [hq]; rfl), ?_⟩, hk1.2⟩
      unfold heldN; rw [hs5, hs6, hq]; simp
     ·rw [ho] at hq
      have hq : offP a0 a1 a2 k = true := by simpa using hq
      have hsecs := hP.switches _ (nth_mem hkin.2)
      unfold spec_l3stays_C3
      have e5 : (decide (((pointF a0 a1 k).length : Int) > 0)) = lockP a0 a1 k := rfl
      rw [e5]
      rw [hq, Bool.true_and] at hs5 hs6
      have bnd : ((filtI (hitP a0 a1 a2) k).length + [k].length) * 8 ≤ 140737488355328 ∧ (filtI (hitP a0 a1 a2) k).length + [k].length ≤ 4611686018427387904 := by
       simp only [List.length_singleton]; omega
      refine ⟨fun hl => ⟨bnd, ⟨hx0, hx1, hc, hk1.1, s1.1 (by unfold hitP; rw [hq, hl]; rfl), ?_⟩, hk1.2⟩, fun hl => ⟨⟨⟨hK.1, hkin.2⟩, hsecs.1, by omega⟩, ?_⟩⟩
      ·unfold heldN; rw [hs5, hl, Bool.or_true]; rfl
      ·rw [hl, Bool.or_false] at hs5
       unfold spec_l3stays_C2 spec_l3stays_C1
       have e6 : nth a1.occ (nth a0.switches k) = occP a0 a1 k := rfl
       rw [e6]
       refine ⟨fun hoc => ⟨bnd, ?_⟩, fun hoc => ⟨⟨hx0, hx1, hc, hk1.1, s1.2.1 (by unfold hitP; rw [hq, hl, hoc]; rfl), ?_⟩, hk1.2⟩⟩
       ·rw [hoc, Bool.or_true] at hs6
        have hh := s1.1 (show hitP a0 a1 a2 k = true by unfold hitP; rw [hq, hl, hoc]; rfl)
        refine ⟨fun hz => ⟨⟨hx0, hx1, hc, hk1.1, hh, ?_⟩, hk1.2⟩, fun hz => ⟨⟨hx0, hx1, hc, hk1.1, hh, ?_⟩, hk1.2⟩⟩
        ·unfold heldN at hz ⊢
         rw [hs5, hs6]
         cases h5 : fiveN a0 a1 a2 k with
         | true => rw [h5] at hz; simp at hz
         | false => simp
        ·unfold heldN at hz ⊢
         rw [hs5, hs6]
         cases h5 : fiveN a0 a1 a2 k with
         | true => simp
         | false =>
          rw [h5] at hz
          cases h6 : sixN a0 a1 a2 k with
          | true => simp
          | false => rw [h6] at hz; simp at hz
       ·rw [hoc, Bool.or_false] at hs6
        unfold heldN; rw [hs5, hs6]
    ·unfold spec_l3stays_C6
     refine ⟨up_in hL hi, fun hm2 => ⟨⟨up_start (len0 _), rfl⟩, fun j l' hM => ?_⟩⟩
     obtain ⟨hM, rfl⟩ := hM
     unfold spec_l3stays_C5 spec_l3stays_C4
     refine ⟨fun hj => ?_, fun hj => ⟨up_in hM hj, ?_⟩⟩
     ·have hst := up_step (lenI h2) hL hi rfl
      refine ⟨⟨hst.1, ?_⟩, hst.2⟩
      have hi' := up_in hL hi
      rw [wrap_up (lenI h2) hL.1 (by simpa using hi), show (i + 1).toNat = i.toNat + 1 by omega, List.take_succ_eq_append_getElem hi'.2, List.flatten_append]
      have hj' : ¬ j < ((nth [(nth a0.ways a2).lies, (nth a0.ways a2).flanks] i).length : Int) := by simpa using hj
      have hj0 := hM.1
      have ht : (nth [(nth a0.ways a2).lies, (nth a0.ways a2).flanks] i).take j.toNat = nth [(nth a0.ways a2).lies, (nth a0.ways a2).flanks] i := List.take_of_length_le (by omega)
      rw [ht, nth_eq hi'.2]
      unfold lieFrom
      rw [List.foldl_append]
      simp
     ·have hst := up_step (lenI hm2) hM hj rfl
      refine ⟨⟨hst.1, ?_⟩, hst.2⟩
      have hj' := up_in hM hj
      rw [wrap_up (lenI hm2) hM.1 (by simpa using hj), show (j + 1).toNat = j.toNat + 1 by omega, List.take_succ_eq_append_getElem hj'.2, nth_eq hj'.2]
      unfold lieFrom
      rw [List.foldl_append]; rfl
  ·have hsin : 0 ≤ s ∧ s < a0.sections := ⟨hJ.1, by simpa using hs⟩
   have hst := up_step (N := a0.sections) (by omega) hJ hs rfl
   have s1 := filt_step (q := hitS a0 a1 a2) (N := a0.sections) (by omega) hJ hs
   refine ⟨⟨hJ.1, by omega⟩, ?_⟩
   unfold spec_l3stays_C9
   rw [meets_one, meets_one]
   have bnd : ((filtI (hitS a0 a1 a2) s).length + [s].length) * 8 ≤ 140737488355328 ∧ (filtI (hitS a0 a1 a2) s).length + [s].length ≤ 4611686018427387904 := by
    simp only [List.length_singleton]; omega
   refine ⟨fun hq => ⟨bnd, fun hz => ?_, fun hz => ?_⟩, fun hq => ⟨⟨hx0, hst.1, s1.2.1 hq, ?_⟩, hst.2⟩⟩
   ·refine ⟨⟨hx0, hst.1, s1.1 hq, ?_⟩, hst.2⟩
    by_cases z : filtI (hitW a0 a1 a2) v ≠ []
    ·rw [if_pos z] at hz; simp at hz
    ·rw [if_neg z, if_pos (by simp)]
   ·refine ⟨⟨hx0, hst.1, s1.1 hq, ?_⟩, hst.2⟩
    by_cases z : filtI (hitW a0 a1 a2) v ≠ []
    ·rw [if_pos z, if_pos z]
    ·rw [if_neg z, if_neg z]
     rw [if_neg z] at hz
     by_cases z2 : filtI (hitS a0 a1 a2) s ≠ []
     ·rw [if_pos z2, if_pos (by simp)]
     ·rw [if_neg z2] at hz; simp at hz
   ·rfl
 ·have hin := up_in hI hv
  have hbl := hB.len
  have hrow := hB.row a2 h0 h1
  have hst := up_step (lenI hn) hI hv rfl
  have s1 := filt_step (q := hitW a0 a1 a2) (lenI hn) hI hv
  unfold spec_l3stays_C12 spec_l3stays_C11
  have bnd : ((filtI (hitW a0 a1 a2) v).length + [v].length) * 8 ≤ 140737488355328 ∧ (filtI (hitW a0 a1 a2) v).length + [v].length ≤ 4611686018427387904 := by
   simp only [List.length_singleton]; omega
  refine ⟨fun _ => ⟨⟨hin.1, by omega⟩, fun _ => ⟨⟨h0, by omega⟩, ⟨hin.1, by omega⟩, fun _ => ⟨hin, fun _ => hin⟩⟩⟩, fun hq => ⟨bnd, ⟨hst.1, s1.1 hq, by rw [if_pos (by simp)]⟩, hst.2⟩, fun hq => ⟨⟨hst.1, s1.2.1 hq, rfl⟩, hst.2⟩⟩)
def spec_l3stays_c : Ctr Try.prog := ⟨154, [.plan, .frame, .int], [.stays, .int], some fun x => whyPre x.1 x.2.1 x.2.2.1, fun x => ((stays3F x.1 x.2.1 x.2.2.1).1, (stays3F x.1 x.2.1 x.2.2.1).2, ()), fun x h => spec_l3stays_V x.1 x.2.1 x.2.2.1 h⟩
def spec_l3why_C (a0 : Plan) (a1 : Frame) (a2 : Int) (res : Int) : Prop :=
 ((0 ≤ a2 ∧ a2.toNat < a1.ways.length) ∧ ((((nth a1.ways a2).state) != 0) = true → 2 = res)) ∧ ((!(((nth a1.ways a2).state) != 0)) = true → (whyPre a0 a1 a2) ∧ ((stays3F a0 a1 a2).2 = res))
theorem spec_l3why_V (a0 : Plan) (a1 : Frame) (a2 : Int) (hp : whyPre a0 a1 a2) : FnV Try.prog 116 [.agg (ePlan false a0), .agg (eFrame false a1), ai a2] (ai (whyF a0 a1 a2)) := (fun (h : spec_l3why_C a0 a1 a2 (whyF a0 a1 a2)) => FnV.run (ps := [.plan, .frame, .int]) (rs := [.int]) (x := (a0, a1, a2, ())) (r := ((whyF a0 a1 a2), ())) ⟨24, ecs, [spec_l3stays_c]⟩ ⟨[], []⟩ .nil Try.func116 h) (by
 unfold spec_l3why_C
 have hp' := hp
 obtain ⟨hf, h0, h1⟩ := hp'
 have hw := hf.fr.ways
 refine ⟨⟨⟨h0, by omega⟩, fun hz => ?_⟩, fun hz => ⟨hp, ?_⟩⟩
 ·unfold whyF; rw [if_pos (by simpa using hz)]
 ·unfold whyF; rw [if_neg (by simpa using hz)]; rfl)
def spec_l3why_c : Ctr Try.prog := ⟨116, [.plan, .frame, .int], [.int], some fun x => whyPre x.1 x.2.1 x.2.2.1, fun x => ((whyF x.1 x.2.1 x.2.2.1), ()), fun x h => spec_l3why_V x.1 x.2.1 x.2.2.1 h⟩
def impl_whyNot_C1 (a0 : Plan) (a1 : Frame) (a2 res : Int) : Prop :=
  ((decide (((((blockedF a0 a1 a2).1).ways).length : Int) > 0)) = true → 3 = res) ∧ ((decide (((((blockedF a0 a1 a2).1).ways).length : Int) > 0)) = false → (((blockedF a0 a1 a2).1).sections).length ≤ 4611686018427387904 → ((decide (((((blockedF a0 a1 a2).1).sections).length : Int) > 0)) = true → 4 = res) ∧ ((decide (((((blockedF a0 a1 a2).1).sections).length : Int) > 0)) = false → ((blockedF a0 a1 a2).2.1 = true → 5 = res) ∧ ((blockedF a0 a1 a2).2.1 = false → (blockedF a0 a1 a2).2.2 = true → 6 = res)))
def impl_whyNot_C2 (a0 : Plan) (a1 : Frame) (a2 res : Int) : Prop :=
  ((0 ≤ a2 ∧ a2.toNat < a1.ways.length) ∧ (((((nth a1.ways a2).state) != 0) = true → 2 = res) ∧ ((((nth a1.ways a2).state) != 0) = false → (((blockedF a0 a1 a2).1).ways).length ≤ 4611686018427387904 → impl_whyNot_C1 a0 a1 a2 res))) ∧ (((((blockedF a0 a1 a2).1).ways).length ≤ 4611686018427387904) ∧ ((((blockedF a0 a1 a2).1).sections).length ≤ 4611686018427387904) ∧ ((!(((nth a1.ways a2).state) != 0) && (!(decide (((((blockedF a0 a1 a2).1).ways).length : Int) > 0)) && (!(decide (((((blockedF a0 a1 a2).1).sections).length : Int) > 0)) && (!((blockedF a0 a1 a2).2.1) && (!((blockedF a0 a1 a2).2.2)))))) = true) → 0 = res)
def impl_whyNot_C (a0 : Plan) (a1 : Frame) (a2 : Int) (res : Int) : Prop :=
 (whyPre a0 a1 a2) ∧ (impl_whyNot_C2 a0 a1 a2 res)
theorem impl_whyNot_V (a0 : Plan) (a1 : Frame) (a2 : Int) (hp : whyPre a0 a1 a2) : FnV Try.prog 114 [.agg (ePlan false a0), .agg (eFrame false a1), ai a2] (ai (whyF a0 a1 a2)) := (fun (h : impl_whyNot_C a0 a1 a2 (whyF a0 a1 a2)) => FnV.run (ps := [.plan, .frame, .int]) (rs := [.int]) (x := (a0, a1, a2, ())) (r := ((whyF a0 a1 a2), ())) ⟨40, ecs, [impl_blocked_c]⟩ ⟨[], []⟩ .nil Try.func114 h) (by
 unfold impl_whyNot_C impl_whyNot_C2 impl_whyNot_C1
 have hp' := hp
 obtain ⟨hf, h0, h1⟩ := hp'
 have hw := hf.fr.ways
 have eb : blockedF a0 a1 a2 = (staysF a0 a1 a2, fiveF a0 a1 a2, sixF a0 a1 a2) := rfl
 rw [eb]
 have e1 : (decide (((staysF a0 a1 a2).ways.length : Int) > 0)) = true ↔ (staysF a0 a1 a2).ways ≠ [] := by
  rw [decide_eq_true_eq, ← List.length_pos_iff]; omega
 have e2 : (decide (((staysF a0 a1 a2).sections.length : Int) > 0)) = true ↔ (staysF a0 a1 a2).sections ≠ [] := by
  rw [decide_eq_true_eq, ← List.length_pos_iff]; omega
 refine ⟨hp, ⟨⟨h0, by omega⟩, fun hz => ?_, fun hz _ => ⟨fun ha => ?_, fun ha _ => ⟨fun hb => ?_, fun hb => ⟨fun hc => ?_, fun hc hd => ?_⟩⟩⟩⟩, fun hq => ?_⟩
 ·unfold whyF; rw [if_pos (by simpa using hz)]
 ·unfold whyF codeF; rw [if_neg (by simpa using hz), if_pos (e1.1 ha)]
 ·unfold whyF codeF; rw [if_neg (by simpa using hz), if_neg (fun h => by rw [show (decide (((staysF a0 a1 a2).ways.length : Int) > 0)) = true from e1.2 h] at ha; cases ha), if_pos (e2.1 hb)]
 ·unfold whyF codeF; rw [if_neg (by simpa using hz), if_neg (fun h => by rw [show (decide (((staysF a0 a1 a2).ways.length : Int) > 0)) = true from e1.2 h] at ha; cases ha), if_neg (fun h => by rw [show (decide (((staysF a0 a1 a2).sections.length : Int) > 0)) = true from e2.2 h] at hb; cases hb), if_pos hc]
 ·unfold whyF codeF; rw [if_neg (by simpa using hz), if_neg (fun h => by rw [show (decide (((staysF a0 a1 a2).ways.length : Int) > 0)) = true from e1.2 h] at ha; cases ha), if_neg (fun h => by rw [show (decide (((staysF a0 a1 a2).sections.length : Int) > 0)) = true from e2.2 h] at hb; cases hb), if_neg (by rw [show fiveF a0 a1 a2 = false from hc]; simp), if_pos hd]
 ·have hq := hq.2.2
  simp only [Bool.and_eq_true, Bool.not_eq_true'] at hq
  obtain ⟨q1, q2, q3, q4, q5⟩ := hq
  unfold whyF codeF; rw [if_neg (by simpa using q1), if_neg (fun h => by rw [show (decide (((staysF a0 a1 a2).ways.length : Int) > 0)) = true from e1.2 h] at q2; cases q2), if_neg (fun h => by rw [show (decide (((staysF a0 a1 a2).sections.length : Int) > 0)) = true from e2.2 h] at q3; cases q3), if_neg (by rw [show fiveF a0 a1 a2 = false from q4]; simp), if_neg (by rw [show sixF a0 a1 a2 = false from q5]; simp)])
def impl_whyNot_c : Ctr Try.prog := ⟨114, [.plan, .frame, .int], [.int], some fun x => whyPre x.1 x.2.1 x.2.2.1, fun x => ((whyF x.1 x.2.1 x.2.2.1), ()), fun x h => impl_whyNot_V x.1 x.2.1 x.2.2.1 h⟩
end Go.Proofs.Ytglpfccgmfhkdaa.Fw
/- Walks and summaries of functions, printed by a program of mine (tools/mk2.py), with the proofs of what they owe. -/

set_option linter.unusedVariables false
set_option maxRecDepth 100000
set_option maxHeartbeats 4000000
set_option linter.unusedSimpArgs false
namespace Go.Proofs.Ytglpfccgmfhkdaa.Fw
open Go
attribute [local irreducible] evS evSD WpS Weak Oper.looksAt
def spec_WhyNot_C (a0 : Plan) (a1 : Frame) (a2 : Int) (res : Int) : Prop :=
 ((frameSm a0 a1) ∧ (((!(frameOk a0 a1)) || (!(inR a2 0 (IntKind.i64.wrap ((a0.ways.length : Int) - 1))))) = true → 1 = res)) ∧ ((!((!(frameOk a0 a1)) || (!(inR a2 0 (IntKind.i64.wrap ((a0.ways.length : Int) - 1)))))) = true → (whyPre a0 a1 a2) ∧ ((whyF a0 a1 a2) = res))
theorem spec_WhyNot_V (a0 : Plan) (a1 : Frame) (a2 : Int) (hp : frameSm3 a0 a1 a2) : FnV Try.prog 53 [.agg (ePlan false a0), .agg (eFrame false a1), ai a2] (ai (WhyF a0 a1 a2)) := (fun (h : spec_WhyNot_C a0 a1 a2 (WhyF a0 a1 a2)) => FnV.run (ps := [.plan, .frame, .int]) (rs := [.int]) (x := (a0, a1, a2, ())) (r := ((WhyF a0 a1 a2), ())) ⟨24, ecs, [spec_FrameOk_c, spec_l1in_c, spec_l3why_c]⟩ ⟨[], []⟩ .nil Try.func53 h) (by
 unfold spec_WhyNot_C
 have key : frameOk a0 a1 = true → inR a2 0 (IntKind.i64.wrap ((a0.ways.length : Int) - 1)) = isIn a2 a0.ways.length := fun h => by
  have := (frameOk_fit h).in.ways
  rw [w64 (by omega) (by omega), isIn_R]
 refine ⟨⟨hp, fun h => ?_⟩, fun h => ?_⟩
 ·unfold WhyF
  cases hq : frameOk a0 a1 with
  | false => rfl
  | true =>
   rw [hq, key hq] at h
   have : isIn a2 a0.ways.length = false := by simpa using h
   rw [this]; rfl
 ·have h : frameOk a0 a1 = true ∧ inR a2 0 (IntKind.i64.wrap ((a0.ways.length : Int) - 1)) = true := by simpa using h
  rw [key h.1] at h
  refine ⟨⟨frameOk_fit h.1, (isIn_iff.1 h.2).1, (isIn_iff.1 h.2).2⟩, ?_⟩
  unfold WhyF; rw [h.1, h.2]; rfl)
def spec_WhyNot_c : Ctr Try.prog := ⟨53, [.plan, .frame, .int], [.int], some fun x => frameSm3 x.1 x.2.1 x.2.2.1, fun x => ((WhyF x.1 x.2.1 x.2.2.1), ()), fun x h => spec_WhyNot_V x.1 x.2.1 x.2.2.1 h⟩
def impl_WhyNot_C (a0 : Plan) (a1 : Frame) (a2 : Int) (res : Int) : Prop :=
 ((frameSm a0 a1) ∧ (((!(frameOk a0 a1)) || (!(isIn a2 (a0.ways.length : Int)))) = true → 1 = res)) ∧ ((!((!(frameOk a0 a1)) || (!(isIn a2 (a0.ways.length : Int))))) = true → (whyPre a0 a1 a2) ∧ ((whyF a0 a1 a2) = res))
theorem impl_WhyNot_V (a0 : Plan) (a1 : Frame) (a2 : Int) (hp : frameSm3 a0 a1 a2) : FnV Try.prog 50 [.agg (ePlan false a0), .agg (eFrame false a1), ai a2] (ai (WhyF a0 a1 a2)) := (fun (h : impl_WhyNot_C a0 a1 a2 (WhyF a0 a1 a2)) => FnV.run (ps := [.plan, .frame, .int]) (rs := [.int]) (x := (a0, a1, a2, ())) (r := ((WhyF a0 a1 a2), ())) ⟨23, ecs, [impl_FrameOk_c, impl_is_c, impl_whyNot_c]⟩ ⟨[], []⟩ .nil Try.func50 h) (by
 unfold impl_WhyNot_C
 refine ⟨⟨hp, fun h => ?_⟩, fun h => ?_⟩
 ·unfold WhyF
  cases hq : frameOk a0 a1 with
  | false => rfl
  | true =>
   rw [hq] at h
   have : isIn a2 a0.ways.length = false := by simpa using h
   rw [this]; rfl
 ·have h : frameOk a0 a1 = true ∧ isIn a2 a0.ways.length = true := by simpa using h
  refine ⟨⟨frameOk_fit h.1, (isIn_iff.1 h.2).1, (isIn_iff.1 h.2).2⟩, ?_⟩
  unfold WhyF; rw [h.1, h.2]; rfl)
def impl_WhyNot_c : Ctr Try.prog := ⟨50, [.plan, .frame, .int], [.int], some fun x => frameSm3 x.1 x.2.1 x.2.2.1, fun x => ((WhyF x.1 x.2.1 x.2.2.1), ()), fun x h => impl_WhyNot_V x.1 x.2.1 x.2.2.1 h⟩
end Go.Proofs.Ytglpfccgmfhkdaa.Fw
/- Walks and summaries of functions, printed by a program of mine (tools/mk2.py), with the proofs of what they owe. -/

set_option linter.unusedVariables false
set_option maxRecDepth 100000
set_option maxHeartbeats 4000000
set_option linter.unusedSimpArgs false
namespace Go.Proofs.Ytglpfccgmfhkdaa.Fw
open Go
attribute [local irreducible] evS evSD WpS Weak Oper.looksAt
def laws_FnExactWhyNot_o8 : List Item := [iq 0, iq 1, iq 2, iq 3, iq 4, iq 5, iq 6]
def laws_FnExactWhyNot_o8a : List (List Nat) := [[], [0], [], [0, 1, 2], [], rg 0 5, rg 0 6]
def laws_FnExactWhyNot_o14 : List Item := [iq 0, iq 1, iq 2, iq 3, iq 4]
def laws_FnExactWhyNot_o14a : List (List Nat) := [[], [], [1], [0, 1, 2], rg 0 4]
def laws_FnExactWhyNot_o16 : List Item := [iq 0, iq 1, iq 2, iq 3, iq 4]
def laws_FnExactWhyNot_o16a : List (List Nat) := [[], [], [1], [0, 1, 2], rg 0 4]
def laws_FnExactWhyNot_C1 (a0 : Plan) (a1 : Frame) (a2 : Int) (res : Bool) : Prop :=
  (frameSm3 (idt a0) (idt a1) a2) ∧ ((((WhyF (idt a0) (idt a1) a2) != (WhyF (idt a0) (idt a1) a2)) = true → false = res) ∧ ((!((WhyF (idt a0) (idt a1) a2) != (WhyF (idt a0) (idt a1) a2))) = true → ((smallPlan a0) ∧ ((!(eqv (idt a0) (idt a0))) = true → false = res)) ∧ ((!(!(eqv (idt a0) (idt a0)))) = true → ((smallFr a1) ∧ ((!(eqv (idt a1) (idt a1))) = true → false = res)) ∧ ((!(!(eqv (idt a1) (idt a1)))) = true → true = res))))
def laws_FnExactWhyNot_C2 (a0 : Plan) (a1 : Frame) (a2 : Int) (res : Bool) : Prop :=
  ((decide ((szPlan a0 1048576) < 0)) = true → true = res) ∧ ((!(decide ((szPlan a0 1048576) < 0))) = true → (okL a1 (szPlan a0 1048576)) ∧ (((decide ((szFrame a1 (szPlan a0 1048576)) < 0)) = true → true = res) ∧ ((!(decide ((szFrame a1 (szPlan a0 1048576)) < 0))) = true → ((smallPlan a0) ∧ ((smallFr a1) ∧ (frameSm3 (idt a0) (idt a1) a2))) ∧ ((smallPlan a0) ∧ ((smallFr a1) ∧ (laws_FnExactWhyNot_C1 a0 a1 a2 res))))))
def laws_FnExactWhyNot_C (a0 : Plan) (a1 : Frame) (a2 : Int) (res : Bool) : Prop :=
 (okL a0 1048576) ∧ (laws_FnExactWhyNot_C2 a0 a1 a2 res)
theorem laws_FnExactWhyNot_V (a0 : Plan) (a1 : Frame) (a2 : Int) : FnV Try.prog 19 [.agg (ePlan false a0), .agg (eFrame false a1), ai a2] (ab (yes3 a0 a1 a2)) := (fun (h : laws_FnExactWhyNot_C a0 a1 a2 (yes3 a0 a1 a2)) => FnV.run (ps := [.plan, .frame, .int]) (rs := [.bool]) (x := (a0, a1, a2, ())) (r := ((yes3 a0 a1 a2), ())) ⟨49, ecs, [laws_szPlan_c, laws_szFrame_c, laws_toPlan_c, laws_toFrame_c, spec_WhyNot_c, impl_WhyNot_c, laws_eqPlan_c, laws_eqFrame_c]⟩ ⟨[], [(8, laws_FnExactWhyNot_o8, laws_FnExactWhyNot_o8a), (14, laws_FnExactWhyNot_o14, laws_FnExactWhyNot_o14a), (16, laws_FnExactWhyNot_o16, laws_FnExactWhyNot_o16a)]⟩ .nil Try.func19 h) (by
 unfold laws_FnExactWhyNot_C laws_FnExactWhyNot_C2 laws_FnExactWhyNot_C1
 refine ⟨⟨by omega, by omega⟩, fun _ => rfl, fun h => ?_⟩
 have hs := small_of h
 have hl := left_of (n := planN a0) ⟨by omega, by omega⟩ h
 refine ⟨hl.2, fun _ => rfl, fun h2 => ?_⟩
 have hf : smallFr a1 := (left_of (n := frameN a1) hl.2 h2).1
 have hF : frameSm3 (idt a0) (idt a1) a2 := smallFr_F hf
 exact ⟨⟨hs, hf, hF⟩, hs, hf, hF, fun h => by simp at h, fun _ => ⟨⟨hs, fun h => by simp [eqv] at h⟩, fun _ => ⟨⟨hf, fun h => by simp [eqv] at h⟩, fun _ => rfl⟩⟩⟩)
end Go.Proofs.Ytglpfccgmfhkdaa.Fw
