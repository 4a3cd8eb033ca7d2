/- Walks and summaries of functions, printed by a program of mine (tools/mk.py), with the proofs of what they owe. -/
import Derived.Test.YtglpfccgmfhkdaaProg
import Derived.Test.YtglpfccgmfhkdaaSpG
import Derived.Test.YtglpfccgmfhkdaaWkA
import Derived.Test.YtglpfccgmfhkdaaWkG
set_option linter.unusedVariables false
set_option maxRecDepth 100000
set_option maxHeartbeats 4000000
set_option linter.unusedSimpArgs false
namespace Go.Proofs.Ytglpfccgmfhkdaa.Fw
open Go
attribute [local irreducible] evS evSD WpS Weak Oper.looksAt
noncomputable def spec_l2pass_b : Code := bodyC Try.f140
def spec_l2pass_o10 : List Item := [iq 0, iq 1, iq 2, iq 3, iq 4, iq 5, iq 6, iq 7, iq 8, iq 9, iq 10, iq 11, iq 12, iq 13, iq 14, iq 15, iq 16, iq 17, iq 18, iq 19, iq 20, iq 21, iq 22, iq 23, iq 24, iq 25, iq 26, iq 27, iq 28, iq 29, iq 30, iq 31, iq 32, iq 33, iq 34, iq 35, iq 36, iq 37]
def spec_l2pass_o10a : List (List Nat) := [[], [0], [0, 1], [0, 1, 2], [], rg 0 5, rg 0 6, rg 0 7, rg 0 8, rg 0 9, rg 0 10, rg 0 11, rg 0 12, rg 0 9, rg 0 9 ++ [13], rg 0 9, rg 0 9 ++ [13, 14, 15], rg 0 9 ++ rg 13 17, rg 0 18, rg 0 19, rg 0 20, rg 0 21, rg 0 22, rg 0 22, rg 0 22 ++ [23], rg 0 25, rg 0 26, rg 0 27, rg 0 28, rg 0 29, rg 0 30, rg 0 27, rg 0 27 ++ [31], rg 0 33, rg 0 34, rg 0 35, rg 0 36, rg 0 37]
def spec_l2pass_C1 (I1 : List (List Bool) → Int → List Held → Prop) (m1 : List (List Bool) → Int → List Held → Nat) (j2 : Int) (hi : List Nat) (bs4 : List (List Bool)) (v16 : Int) (ws3 : List Held) : Prop :=
  (ws3.length = hi.length ∧ j2.toNat < ws3.length) ∧ ((ws3.length = hi.length ∧ j2.toNat < ws3.length) ∧ (I1 bs4 v16 (ws3.set j2.toNat (Held.mk ((nth ws3 j2).state) (IntKind.i64.wrap (((nth ws3 j2).gone) + 1)) ((nth ws3 j2).been) ((nth ws3 j2).shown) ((nth ws3 j2).timer))) ∧ m1 bs4 v16 (ws3.set j2.toNat (Held.mk ((nth ws3 j2).state) (IntKind.i64.wrap (((nth ws3 j2).gone) + 1)) ((nth ws3 j2).been) ((nth ws3 j2).shown) ((nth ws3 j2).timer))) < m1 bs4 v16 ws3))
def spec_l2pass_C2 (I1 : List (List Bool) → Int → List Held → Prop) (m1 : List (List Bool) → Int → List Held → Nat) (a0 : Way) (j2 : Int) (hk : Bool) (ho : List Bool) (hq : List Point) (hw : List Held) (hi : List Nat) (hb : List (List Bool)) (bs4 : List (List Bool)) (v16 : Int) (ws3 : List Held) : Prop :=
  (((ws3.length = hi.length ∧ j2.toNat < ws3.length) ∧ ((((nth hi j2) < bs4.length) ∧ (0 ≤ ((nth ws3 j2).gone) ∧ ((nth ws3 j2).gone).toNat < (nth ws3 j2).been.length)) ∧ (((nth hi j2) < bs4.length ∧ ((nth ws3 j2).gone).toNat < (bs4.getD (nth hi j2) []).length) ∧ ((!(nth (bs4.getD (nth hi j2) []) ((nth ws3 j2).gone))) = false → (0 ≤ ((nth ws3 j2).gone) ∧ ((nth ws3 j2).gone).toNat < a0.sections.length) ∧ ((0 ≤ (nth a0.sections ((nth ws3 j2).gone)) ∧ (nth a0.sections ((nth ws3 j2).gone)).toNat < ho.length) ∧ ((nth ho (nth a0.sections ((nth ws3 j2).gone))) = false → (decide (((nth ws3 j2).gone) < (IntKind.i64.wrap ((a0.sections.length : Int) - 1)))) = true → (ws3.length = hi.length ∧ j2.toNat < ws3.length) ∧ ((((nth hi j2) < bs4.length) ∧ (0 ≤ (IntKind.i64.wrap (((nth ws3 j2).gone) + 1)) ∧ (IntKind.i64.wrap (((nth ws3 j2).gone) + 1)).toNat < (nth ws3 j2).been.length)) ∧ ((nth hi j2) < bs4.length ∧ (IntKind.i64.wrap (((nth ws3 j2).gone) + 1)).toNat < (bs4.getD (nth hi j2) []).length)))))))) ∧ (((!(nth (bs4.getD (nth hi j2) []) ((nth ws3 j2).gone))) || ((nth ho (nth a0.sections ((nth ws3 j2).gone))) || ((decide (((nth ws3 j2).gone) < (IntKind.i64.wrap ((a0.sections.length : Int) - 1)))) && (!(nth (bs4.getD (nth hi j2) []) (IntKind.i64.wrap (((nth ws3 j2).gone) + 1))))))) = true → passPostM a0 j2 hk ho hq hw hi hb ho hq ws3 hi bs4)) ∧ ((!((!(nth (bs4.getD (nth hi j2) []) ((nth ws3 j2).gone))) || ((nth ho (nth a0.sections ((nth ws3 j2).gone))) || ((decide (((nth ws3 j2).gone) < (IntKind.i64.wrap ((a0.sections.length : Int) - 1)))) && (!(nth (bs4.getD (nth hi j2) []) (IntKind.i64.wrap (((nth ws3 j2).gone) + 1)))))))) = true → spec_l2pass_C1 I1 m1 j2 hi bs4 v16 ws3)
def spec_l2pass_C3 (I1 : List (List Bool) → Int → List Held → Prop) (m1 : List (List Bool) → Int → List Held → Nat) (a0 : Way) (j2 : Int) (hk : Bool) (ho : List Bool) (hq : List Point) (hw : List Held) (hi : List Nat) (hb : List (List Bool)) (bs4 : List (List Bool)) (v16 : Int) (ws3 : List Held) : Prop :=
  ((ws3.length = hi.length ∧ j2.toNat < ws3.length) ∧ ((decide (((nth ws3 j2).gone) < (a0.sections.length : Int))) = false → (idlePreM j2 hk ho hq ws3 hi bs4) ∧ (∀ (w13 : List Held) (i14 : List Nat) (b15 : List (List Bool)), idlePostM j2 hk ho hq ws3 hi bs4 ho hq w13 i14 b15 → (passPostM a0 j2 hk ho hq hw hi hb ho hq w13 i14 b15)))) ∧ ((decide (((nth ws3 j2).gone) < (a0.sections.length : Int))) = true → (ws3.length = hi.length ∧ j2.toNat < ws3.length) ∧ (spec_l2pass_C2 I1 m1 a0 j2 hk ho hq hw hi hb bs4 v16 ws3))
def spec_l2pass_C4 (I0 : List (List Bool) → Int → Prop) (m0 : List (List Bool) → Int → Nat) (a0 : Way) (j2 : Int) (ho : List Bool) (hw : List Held) (hi : List Nat) (bs4 : List (List Bool)) (v16 : Int) : Prop :=
  ((0 ≤ v16 ∧ v16.toNat < a0.sections.length) ∧ ((0 ≤ (nth a0.sections v16) ∧ (nth a0.sections v16).toNat < ho.length) ∧ ((nth ho (nth a0.sections v16)) = true → (hw.length = hi.length ∧ j2.toNat < hw.length) ∧ ((((nth hi j2) < bs4.length) ∧ (0 ≤ v16 ∧ v16.toNat < (nth hw j2).been.length)) ∧ ((nth hi j2) < bs4.length ∧ v16.toNat < (bs4.getD (nth hi j2) []).length))))) ∧ (∀ w42 : List (List Bool), (bif (nth ho (nth a0.sections v16)) then (bs4.set (nth hi j2) ((bs4.getD (nth hi j2) []).set v16.toNat true)) else bs4) = w42 → (I0 w42 (IntKind.i64.wrap (v16 + 1)) ∧ m0 w42 (IntKind.i64.wrap (v16 + 1)) < m0 bs4 v16))
def spec_l2pass_C (a0 : Way) (j2 : Int) (hg : Nat) (hk : Bool) (ho : List Bool) (hq : List Point) (hw : List Held) (hi : List Nat) (hb : List (List Bool)) (I0 : List (List Bool) → Int → Prop) (m0 : List (List Bool) → Int → Nat) (I1 : List (List Bool) → Int → List Held → Prop) (m1 : List (List Bool) → Int → List Held → Nat) : Prop :=
 a0.sections.length ≤ 4611686018427387904 → I0 hb 0 ∧ ∀ (bs4 : List (List Bool)) (v16 : Int), I0 bs4 v16 → (((decide (v16 < (a0.sections.length : Int))) = false → I1 bs4 v16 hw ∧ ∀ (ws3 : List Held), I1 bs4 v16 ws3 → (spec_l2pass_C3 I1 m1 a0 j2 hk ho hq hw hi hb bs4 v16 ws3)) ∧ ((decide (v16 < (a0.sections.length : Int))) = true → spec_l2pass_C4 I0 m0 a0 j2 ho hw hi bs4 v16))
theorem spec_l2pass_walk (a0 : Way) (j2 : Int) (hg : Nat) (hk : Bool) (ho : List Bool) (hq : List Point) (hw : List Held) (hi : List Nat) (hb : List (List Bool)) (I0 : List (List Bool) → Int → Prop) (m0 : List (List Bool) → Int → Nat) (I1 : List (List Bool) → Int → List Held → Prop) (m1 : List (List Bool) → Int → List Held → Nat) (h : spec_l2pass_C a0 j2 hg hk ho hq hw hi hb I0 m0 I1 m1) : FnS Try.prog 140 [.agg (eWay false a0), .ptr 0 hg 0 0, .ptr 3 0 (0 + j2.toNat) 0] (⟨hg, 4, [[ab hk, rf 1 0 ho.length, rf 2 0 hq.length, rf 3 0 hw.length]]⟩ :: ⟨0, 1, List.map eBool ho⟩ :: ⟨0, 2, List.map ePoint hq⟩ :: ⟨0, 5, hRows 4 hw hi⟩ :: List.map fbk hb) (fun r H' => ∃ (hw' : List Held) (hi' : List Nat) (hb' : List (List Bool)), r = .tup [] ∧ H' = (⟨hg, 4, [[ab hk, rf 1 0 ho.length, rf 2 0 hq.length, rf 3 0 hw'.length]]⟩ :: ⟨0, 1, List.map eBool ho⟩ :: ⟨0, 2, List.map ePoint hq⟩ :: ⟨0, 5, hRows 4 hw' hi'⟩ :: List.map fbk hb') ∧ passPostM a0 j2 hk ho hq hw hi hb ho hq hw' hi' hb') := by
 unfold spec_l2pass_C at h
 refine FnS.go (fn := Try.f140) [(0, .agg (eWay false a0)), (1, .ptr 0 hg 0 0), (2, .ptr 3 0 (0 + j2.toNat) 0)] Try.func140 ?_
 show WpS _ (nv spec_l2pass_b 1) _ ⟨mkS 92 [(0, .agg (eWay false a0)), (1, .ptr 0 hg 0 0), (2, .ptr 3 0 (0 + j2.toNat) 0)], [], (⟨hg, 4, [[ab hk, rf 1 0 ho.length, rf 2 0 hq.length, rf 3 0 hw.length]]⟩ :: ⟨0, 1, List.map eBool ho⟩ :: ⟨0, 2, List.map ePoint hq⟩ :: ⟨0, 5, hRows 4 hw hi⟩ :: List.map fbk hb)⟩
 refine cRE [] 0 [(3, ap 3 0)] [1] [0, 1, 2] (fun L => (3, (eWay false a0)) :: L) id ?_
 refine cSeqM [(6, ai (a0.sections.length : Int))] [3] (a0.sections.length ≤ 4611686018427387904) ?_ (fun q2 => ?_)
 ·
  refine rgS [] 1 ?_
  refine sLen 3 (some 12) [(11, al eInt a0.sections), (10, ap 3 0)] eInt a0.sections (fun q3 => ?_)
  exact sEJ [(6, ai (a0.sections.length : Int))] q3
 replace h := h q2
 refine cSeq ?_
 refine cSeqM [(14, al eInt a0.sections), (15, ai (a0.sections.length : Int)), (16, ai 0)] [4] (True) ?_ (fun q4 => ?_)
 ·
  refine rgS [] 2 ?_
  refine sLen 3 (some 15) [(14, al eInt a0.sections), (13, ap 3 0)] eInt a0.sections (fun q5 => ?_)
  exact sEJ [(16, ai 0)] trivial
 refine cBlock 0 ?_
 obtain ⟨q55, h⟩ := h
 refine cLoop (fun (v : List (List Bool) × Int) => (⟨(mkS 92 [(1, .ptr 0 hg 0 0), (2, .ptr 3 0 (0 + j2.toNat) 0), (3, ap 3 0), (6, ai (a0.sections.length : Int)), (14, al eInt a0.sections), (15, ai (a0.sections.length : Int)), (16, ai (v.2))]), [(3, (eWay false a0))], (⟨hg, 4, [[ab hk, rf 1 0 ho.length, rf 2 0 hq.length, rf 3 0 hw.length]]⟩ :: ⟨0, 1, List.map eBool ho⟩ :: ⟨0, 2, List.map ePoint hq⟩ :: ⟨0, 5, hRows 4 hw hi⟩ :: List.map fbk (v.1))⟩ : St)) (fun (v : List (List Bool) × Int) => I0 (v.1) (v.2)) (fun (v : List (List Bool) × Int) => m0 (v.1) (v.2)) (hb, 0) (wkL []) q55 (fun v hI => ?_)
 obtain ⟨bs4, v16⟩ := v
 replace h := h bs4 v16 hI
 dsimp only
 refine cRM [] 3 [(17, ab (decide (v16 < (a0.sections.length : Int))))] [1] [7] ?_
 obtain ⟨q54, h⟩ := h
 refine cSeqM [] [0, 1, 7] ((decide (v16 < (a0.sections.length : Int))) = true) ?_ (fun q7 => ?_)
 ·
  replace h := q54
  refine cCond1 (fun q8 => ?_) (fun q8 => ?_)
  ·
   refine cSkip ?_
   exact QJoin.normal (by simp only [q8] <;> rfl) wkJ
  ·
   replace h := h q8
   refine cExit 0 ?_
   refine QJoin.exit ?_
   refine QRound.exit ?_
   refine QBlock.here ?_
   refine QSeq.normal ?_
   refine cSeq ?_
   refine cBlock 2 ?_
   obtain ⟨q40, h⟩ := h
   refine cLoop (fun (v : List Held) => (⟨(mkS 92 [(1, .ptr 0 hg 0 0), (2, .ptr 3 0 (0 + j2.toNat) 0), (3, ap 3 0), (6, ai (a0.sections.length : Int))]), [(3, (eWay false a0))], (⟨hg, 4, [[ab hk, rf 1 0 ho.length, rf 2 0 hq.length, rf 3 0 v.length]]⟩ :: ⟨0, 1, List.map eBool ho⟩ :: ⟨0, 2, List.map ePoint hq⟩ :: ⟨0, 5, hRows 4 v hi⟩ :: List.map fbk bs4)⟩ : St)) (fun (v : List Held) => I1 bs4 v16 v) (fun (v : List Held) => m1 bs4 v16 v) hw (wkL []) q40 (fun ws3 hI => ?_)
   replace h := h ws3 hI
   unfold spec_l2pass_C3 at h
   obtain ⟨q39, h⟩ := h
   refine cSeqM [] [4] ((decide (((nth ws3 j2).gone) < (a0.sections.length : Int))) = true) ?_ (fun q9 => ?_)
   ·
    replace h := q39
    obtain ⟨q18, h⟩ := h
    refine cSeqM [(40, ab (decide (((nth ws3 j2).gone) < (a0.sections.length : Int))))] [4] (True) ?_ (fun q10 => ?_)
    ·
     replace h := q18
     refine rgS [] 8 ?_
     have q11 := h
     refine sLdR 4 (some 38) [(37, .ptr 3 0 (0 + j2.toNat) 1), (36, .ptr 3 0 (0 + j2.toNat) 0), (35, .ptr 3 0 (0 + j2.toNat) 0)] (hRows 4 ws3 hi) j2 3 1 0 (ai ((nth ws3 j2).gone)) (hRows_get q11.1 q11.2) ?_
     exact sEJ [(40, ab (decide (((nth ws3 j2).gone) < (a0.sections.length : Int)))), (39, ai (a0.sections.length : Int))] trivial
    refine cCond1 (fun q12 => ?_) (fun q12 => ?_)
    ·
     refine cSkip ?_
     exact QJoin.normal (by simp only [q8, q12] <;> rfl) wkJ
    ·
     replace h := h q12
     refine cExit 2 ?_
     refine QJoin.exit ?_
     refine QRound.exit ?_
     refine QBlock.here ?_
     refine QSeq.normal ?_
     refine rgS [] 12 ?_
     obtain ⟨q16, h⟩ := h
     refine sCallM 2 (some 91) [(90, .ptr 3 0 (0 + j2.toNat) 0)] [.ptr 3 0 (0 + j2.toNat) 0] _ (spec_l2idle_M j2 hg hk ho hq ws3 hi bs4 q16) (fun r H' hq => by obtain ⟨_, _, _, rfl, _⟩ := hq; rfl) ?_
     rintro r H' ⟨w13, i14, b15, rfl, rfl, q17⟩
     replace h := h w13 i14 b15 q17
     refine sEnd [] ?_
     refine enS (t0) [] ?_
     exact ⟨w13, i14, b15, rfl, rfl, h⟩
   replace h := h q9
   refine cBlock 3 ?_
   obtain ⟨q38, h⟩ := h
   refine cSeqM [(9, ai ((nth ws3 j2).gone))] [4] (True) ?_ (fun q19 => ?_)
   ·
    replace h := q38
    refine rgS [] 9 ?_
    have q20 := h
    refine sLdR 4 (some 44) [(43, .ptr 3 0 (0 + j2.toNat) 1), (42, .ptr 3 0 (0 + j2.toNat) 0), (41, .ptr 3 0 (0 + j2.toNat) 0)] (hRows 4 ws3 hi) j2 3 1 0 (ai ((nth ws3 j2).gone)) (hRows_get q20.1 q20.2) ?_
    exact sEJ [(9, ai ((nth ws3 j2).gone))] trivial
   unfold spec_l2pass_C2 at h
   obtain ⟨q37, h⟩ := h
   refine cSeqM [] [0, 1, 4] ((!((!(nth (bs4.getD (nth hi j2) []) ((nth ws3 j2).gone))) || ((nth ho (nth a0.sections ((nth ws3 j2).gone))) || ((decide (((nth ws3 j2).gone) < (IntKind.i64.wrap ((a0.sections.length : Int) - 1)))) && (!(nth (bs4.getD (nth hi j2) []) (IntKind.i64.wrap (((nth ws3 j2).gone) + 1)))))))) = true) ?_ (fun q21 => ?_)
   ·
    replace h := q37
    obtain ⟨q34, h⟩ := h
    refine cSeqM [(82, ab ((!(nth (bs4.getD (nth hi j2) []) ((nth ws3 j2).gone))) || ((nth ho (nth a0.sections ((nth ws3 j2).gone))) || ((decide (((nth ws3 j2).gone) < (IntKind.i64.wrap ((a0.sections.length : Int) - 1)))) && (!(nth (bs4.getD (nth hi j2) []) (IntKind.i64.wrap (((nth ws3 j2).gone) + 1))))))))] [0, 1, 4] (True) ?_ (fun q22 => ?_)
    ·
     replace h := q34
     refine rgD [] 10 spec_l2pass_o10 spec_l2pass_o10a [] ?_
     obtain ⟨q32, h⟩ := h
     refine tLdR 4 (some 48) [(47, .ptr 3 0 (0 + j2.toNat) 2), (46, .ptr 3 0 (0 + j2.toNat) 0), (45, .ptr 3 0 (0 + j2.toNat) 0)] (hRows 4 ws3 hi) j2 36 2 0 (rf ((nth hi j2) + 4) 0 ((nth ws3 j2).been.length)) (hRows_get q32.1 q32.2) ?_
     obtain ⟨⟨q23, z50_3860⟩, h⟩ := h
     refine tAdrF 2 (some 50) [(49, ai ((nth ws3 j2).gone))] bs4 (nth hi j2) 4 q23 z50_3860 ?_
     obtain ⟨q31, h⟩ := h
     refine tLdF 1 (some 51) [] bs4 (nth hi j2) ((nth ws3 j2).gone) 4 q31.1 q31.2 ?_
     refine tCase1 2 53 (!(nth (bs4.getD (nth hi j2) []) ((nth ws3 j2).gone))) [(52, ab (!(nth (bs4.getD (nth hi j2) []) ((nth ws3 j2).gone))))] (fun q24 => ?_) (fun q24 => ?_)
     ·
      exact tEJ ([(82, ab true)] ++ tz [81, 80, 79, 78, 77, 76, 75, 74, 73, 72, 71, 70, 69, 68, 67] ++ [(66, ab true), (65, ab true)] ++ tz [64, 63, 62, 61, 60, 59, 58, 57, 56, 55, 54]) trivial (by simp only [q8, q9, q24] <;> kernel_rfl)
     ·
      replace h := h q24
      refine tAnd 4 (some 57) (rf 1 0 ho.length) [(56, .ptr 0 hg 0 1), (55, .ptr 0 hg 0 0), (54, .ptr 0 hg 0 0)] (φ := hg = hg) rfl ?_
      obtain ⟨q30, h⟩ := h
      refine tIdx 4 (some 61) [(60, ai ((nth ws3 j2).gone)), (59, al eInt a0.sections), (58, ap 3 0)] eInt a0.sections 1 q30 ?_
      obtain ⟨z63_3860, h⟩ := h
      refine tAdr 2 (some 63) [(62, ai (nth a0.sections ((nth ws3 j2).gone)))] 1 0 1 z63_3860 ?_
      refine tLdB 1 (some 64) [] eBool ho (nth a0.sections ((nth ws3 j2).gone)) 4 0 0 (ab (nth ho (nth a0.sections ((nth ws3 j2).gone)))) (by simpa using z63_3860.2) ?_
      refine tCase1 2 66 (nth ho (nth a0.sections ((nth ws3 j2).gone))) [(65, ab (nth ho (nth a0.sections ((nth ws3 j2).gone))))] (fun q25 => ?_) (fun q25 => ?_)
      ·
       exact tEJ ([(82, ab true)] ++ tz [81, 80, 79, 78, 77, 76, 75, 74, 73, 72, 71, 70, 69, 68, 67]) trivial (by simp only [q8, q9, q24, q25] <;> kernel_rfl)
      ·
       replace h := h q25
       refine tCase1 5 71 (decide (((nth ws3 j2).gone) < (IntKind.i64.wrap ((a0.sections.length : Int) - 1)))) [(70, ab (decide (((nth ws3 j2).gone) < (IntKind.i64.wrap ((a0.sections.length : Int) - 1))))), (69, ai (IntKind.i64.wrap ((a0.sections.length : Int) - 1))), (68, ai (a0.sections.length : Int)), (67, ai ((nth ws3 j2).gone))] (fun q26 => ?_) (fun q26 => ?_)
       ·
        replace h := h q26
        obtain ⟨q29, h⟩ := h
        refine tLdR 4 (some 75) [(74, .ptr 3 0 (0 + j2.toNat) 2), (73, .ptr 3 0 (0 + j2.toNat) 0), (72, .ptr 3 0 (0 + j2.toNat) 0)] (hRows 4 ws3 hi) j2 36 2 0 (rf ((nth hi j2) + 4) 0 ((nth ws3 j2).been.length)) (hRows_get q29.1 q29.2) ?_
        obtain ⟨⟨q27, z78_3860⟩, h⟩ := h
        refine tAdrF 3 (some 78) [(77, ai (IntKind.i64.wrap (((nth ws3 j2).gone) + 1))), (76, ai ((nth ws3 j2).gone))] bs4 (nth hi j2) 4 q27 z78_3860 ?_
        have q28 := h
        refine tLdF 1 (some 79) [] bs4 (nth hi j2) (IntKind.i64.wrap (((nth ws3 j2).gone) + 1)) 4 q28.1 q28.2 ?_
        exact tEJ [(82, ab (!(nth (bs4.getD (nth hi j2) []) (IntKind.i64.wrap (((nth ws3 j2).gone) + 1))))), (81, ab (!(nth (bs4.getD (nth hi j2) []) (IntKind.i64.wrap (((nth ws3 j2).gone) + 1))))), (80, ab (!(nth (bs4.getD (nth hi j2) []) (IntKind.i64.wrap (((nth ws3 j2).gone) + 1)))))] trivial (by simp only [q8, q9, q24, q25, q26] <;> kernel_rfl)
       ·
        exact tEJ ([(82, ab false), (81, ab false)] ++ tz [80, 79, 78, 77, 76, 75, 74, 73, 72]) trivial (by simp only [q8, q9, q24, q25, q26] <;> kernel_rfl)
    refine cCond1 (fun q33 => ?_) (fun q33 => ?_)
    ·
     replace h := h q33
     refine cRet ?_
     refine QJoin.ret ?_
     refine QBlock.ret ?_
     refine QRound.ret ?_
     refine QBlock.ret ?_
     refine QSeq.ret ?_
     refine rtS (t0) [] ?_
     exact ⟨ws3, hi, bs4, rfl, rfl, h⟩
    ·
     refine cSkip ?_
     exact QJoin.normal (by simp only [q8, q9, q33] <;> rfl) wkJ
   replace h := h q21
   unfold spec_l2pass_C1 at h
   refine rgS [] 11 ?_
   obtain ⟨q36, h⟩ := h
   refine sLdR 4 (some 86) [(85, .ptr 3 0 (0 + j2.toNat) 1), (84, .ptr 3 0 (0 + j2.toNat) 0), (83, .ptr 3 0 (0 + j2.toNat) 0)] (hRows 4 ws3 hi) j2 3 1 0 (ai ((nth ws3 j2).gone)) (hRows_get q36.1 q36.2) ?_
   obtain ⟨q35, h⟩ := h
   refine sStRj 4 none [(89, .ptr 3 0 (0 + j2.toNat) 1), (88, .ptr 3 0 (0 + j2.toNat) 0), (87, ai (IntKind.i64.wrap (((nth ws3 j2).gone) + 1)))] (hRows 4 ws3 hi) j2 1 1 0 [ai (IntKind.i64.wrap (((nth ws3 j2).gone) + 1))] 3 (hRows 4 (ws3.set j2.toNat (Held.mk ((nth ws3 j2).state) (IntKind.i64.wrap (((nth ws3 j2).gone) + 1)) ((nth ws3 j2).been) ((nth ws3 j2).shown) ((nth ws3 j2).timer))) hi) (hRows_get q35.1 q35.2) (hRows_keep q35.1 q35.2) ?_
   refine sEnd [] ?_
   refine QBlock.normal ?_
   exact QRound.again (ws3.set j2.toNat (Held.mk ((nth ws3 j2).state) (IntKind.i64.wrap (((nth ws3 j2).gone) + 1)) ((nth ws3 j2).been) ((nth ws3 j2).shown) ((nth ws3 j2).timer))) h (weak_eq (s' := ⟨(mkS 92 [(1, .ptr 0 hg 0 0), (2, .ptr 3 0 (0 + j2.toNat) 0), (3, ap 3 0), (6, ai (a0.sections.length : Int))]), [(3, (eWay false a0))], (⟨hg, 4, [[ab hk, rf 1 0 ho.length, rf 2 0 hq.length, rf 3 0 ws3.length]]⟩ :: ⟨0, 1, List.map eBool ho⟩ :: ⟨0, 2, List.map ePoint hq⟩ :: ⟨0, 5, hRows 4 (ws3.set j2.toNat (Held.mk ((nth ws3 j2).state) (IntKind.i64.wrap (((nth ws3 j2).gone) + 1)) ((nth ws3 j2).been) ((nth ws3 j2).shown) ((nth ws3 j2).timer))) hi⟩ :: List.map fbk bs4)⟩) (wkL (n := 92) (A' := [(1, .ptr 0 hg 0 0), (2, .ptr 3 0 (0 + j2.toNat) 0), (3, ap 3 0), (6, ai (a0.sections.length : Int))]) (L' := [(3, (eWay false a0))]) []) (congrArg (fun z => (⟨(mkS 92 [(1, .ptr 0 hg 0 0), (2, .ptr 3 0 (0 + j2.toNat) 0), (3, ap 3 0), (6, ai (a0.sections.length : Int))]), [(3, (eWay false a0))], (⟨hg, 4, [[ab hk, rf 1 0 ho.length, rf 2 0 hq.length, rf 3 0 z]]⟩ :: ⟨0, 1, List.map eBool ho⟩ :: ⟨0, 2, List.map ePoint hq⟩ :: ⟨0, 5, hRows 4 (ws3.set j2.toNat (Held.mk ((nth ws3 j2).state) (IntKind.i64.wrap (((nth ws3 j2).gone) + 1)) ((nth ws3 j2).been) ((nth ws3 j2).shown) ((nth ws3 j2).timer))) hi⟩ :: List.map fbk bs4)⟩ : St)) (show ws3.length = (ws3.set j2.toNat (Held.mk ((nth ws3 j2).state) (IntKind.i64.wrap (((nth ws3 j2).gone) + 1)) ((nth ws3 j2).been) ((nth ws3 j2).shown) ((nth ws3 j2).timer))).length by simp)))
 replace h := h q7
 unfold spec_l2pass_C4 at h
 obtain ⟨q53, h⟩ := h
 obtain ⟨w42, q43⟩ : ∃ w : List (List Bool), (bif (nth ho (nth a0.sections v16)) then (bs4.set (nth hi j2) ((bs4.getD (nth hi j2) []).set v16.toNat true)) else bs4) = w := ⟨_, rfl⟩
 refine cSeqE [] [7] id (fun _ => (⟨hg, 4, [[ab hk, rf 1 0 ho.length, rf 2 0 hq.length, rf 3 0 hw.length]]⟩ :: ⟨0, 1, List.map eBool ho⟩ :: ⟨0, 2, List.map ePoint hq⟩ :: ⟨0, 5, hRows 4 hw hi⟩ :: List.map fbk w42)) (True) ?_ (fun q41 => ?_)
 ·
  replace h := q53
  refine cBlock 1 ?_
  obtain ⟨q52, h⟩ := h
  refine cSeqM [(7, ai v16), (8, ai (nth a0.sections v16))] [7] (True) ?_ (fun q44 => ?_)
  ·
   replace h := q52
   refine rgS [] 4 ?_
   have q45 := h
   refine sIdx 2 (some 19) [(18, ai v16)] eInt a0.sections 1 q45 ?_
   exact sEJ [(8, ai (nth a0.sections v16)), (7, ai v16), (20, ai (nth a0.sections v16))] trivial
  obtain ⟨q51, h⟩ := h
  refine cSeqM [(27, ab (nth ho (nth a0.sections v16)))] [1, 1, 7] (True) ?_ (fun q46 => ?_)
  ·
   replace h := q51
   refine rgS [] 5 ?_
   refine sAnd 4 (some 24) (rf 1 0 ho.length) [(23, .ptr 0 hg 0 1), (22, .ptr 0 hg 0 0), (21, .ptr 0 hg 0 0)] (φ := hg = hg) rfl ?_
   have z26_7474 := h
   refine sAdr 2 (some 26) [(25, ai (nth a0.sections v16))] 1 0 1 z26_7474 ?_
   refine sLdB 1 (some 27) [] eBool ho (nth a0.sections v16) 4 0 0 (ab (nth ho (nth a0.sections v16))) (by simpa using z26_7474.2) ?_
   exact sEJ [] trivial
  refine cCond1 (fun q47 => ?_) (fun q47 => ?_)
  ·
   replace h := h q47
   refine rgS [] 6 ?_
   obtain ⟨q50, h⟩ := h
   refine sLdR 4 (some 31) [(30, .ptr 3 0 (0 + j2.toNat) 2), (29, .ptr 3 0 (0 + j2.toNat) 0), (28, .ptr 3 0 (0 + j2.toNat) 0)] (hRows 4 hw hi) j2 36 2 0 (rf ((nth hi j2) + 4) 0 ((nth hw j2).been.length)) (hRows_get q50.1 q50.2) ?_
   obtain ⟨⟨q48, z33_14950⟩, h⟩ := h
   refine sAdrF 2 (some 33) [(32, ai v16)] bs4 (nth hi j2) 4 q48 z33_14950 ?_
   have q49 := h
   refine sStF 1 none [] bs4 (nth hi j2) v16 true (fun r => (⟨hg, 4, [[ab hk, rf 1 0 ho.length, rf 2 0 hq.length, rf 3 0 hw.length]]⟩ :: ⟨0, 1, List.map eBool ho⟩ :: ⟨0, 2, List.map ePoint hq⟩ :: ⟨0, 5, hRows 4 hw hi⟩ :: r)) q49.1 q49.2 ?_
   refine sEnd [] ?_
   refine QBlock.normal ?_
   exact QJoin.normal trivial (by simp only [← q43, q7, q47, cond_true, cond_false]; exact wkJ)
  ·
   refine cSkip ?_
   refine QBlock.normal ?_
   exact QJoin.normal trivial (by simp only [← q43, q7, q47, cond_true, cond_false]; exact wkJ)
 replace h := h w42 q43
 refine rgS [] 7 ?_
 refine sEnd [(16, ai (IntKind.i64.wrap (v16 + 1))), (34, ai (IntKind.i64.wrap (v16 + 1)))] ?_
 exact QRound.again (w42, (IntKind.i64.wrap (v16 + 1))) h (wkL [])

theorem spec_l2pass_M (a0 : Way) (j2 : Int) (hg : Nat) (hk : Bool) (ho : List Bool) (hq : List Point) (hw : List Held) (hi : List Nat) (hb : List (List Bool)) (hp : passPreM a0 j2 hk ho hq hw hi hb) : FnS Try.prog 140 [.agg (eWay false a0), .ptr 0 hg 0 0, .ptr 3 0 (0 + j2.toNat) 0] (⟨hg, 4, [[ab hk, rf 1 0 ho.length, rf 2 0 hq.length, rf 3 0 hw.length]]⟩ :: ⟨0, 1, List.map eBool ho⟩ :: ⟨0, 2, List.map ePoint hq⟩ :: ⟨0, 5, hRows 4 hw hi⟩ :: List.map fbk hb) (fun r H' => ∃ (hw' : List Held) (hi' : List Nat) (hb' : List (List Bool)), r = .tup [] ∧ H' = (⟨hg, 4, [[ab hk, rf 1 0 ho.length, rf 2 0 hq.length, rf 3 0 hw'.length]]⟩ :: ⟨0, 1, List.map eBool ho⟩ :: ⟨0, 2, List.map ePoint hq⟩ :: ⟨0, 5, hRows 4 hw' hi'⟩ :: List.map fbk hb') ∧ passPostM a0 j2 hk ho hq hw hi hb ho hq hw' hi' hb') := spec_l2pass_walk a0 j2 hg hk ho hq hw hi hb (passI0 a0.sections (theF hk ho hq hw hi hb) (view hw hi hb) hi j2 hw) (fun _ k => upM a0.sections.length k) (fun bs _ ws => passI1 a0.sections (theF hk ho hq hw hi hb) (view hw hi hb) hi j2 bs ws) (fun _ _ ws => ((a0.sections.length : Int) - (nth ws j2).gone).toNat) (by
  unfold spec_l2pass_C
  obtain ⟨F, h0, h1, hs, hsin, hbl, hg0, hg1⟩ := hp
  have hlt : j2.toNat < hw.length := by omega
  have F0 := F.at' hlt
  have hbi : ∀ k : Int, 0 ≤ k → k.toNat < a0.sections.length → 0 ≤ nth a0.sections k ∧ (nth a0.sections k).toNat < ho.length := fun k k0 k1 => by
    have := hsin _ (nth_mem k1); omega
  intro hn
  refine ⟨⟨up_start (len0 _), by rw [Int.toNat_zero, upBeen_0]; exact F0⟩, fun bs k hI => ⟨fun hkk => ?_, fun hkk => ?_⟩⟩
  · obtain ⟨hI, F1⟩ := hI
    have hk' : ¬ k < (a0.sections.length : Int) := by simpa using hkk
    have k0 := hI.1
    rw [upBeen_end hbl (by omega)] at F1
    have hbn : (passB a0.sections (theF hk ho hq hw hi hb) (nth (view hw hi hb) j2)).length = a0.sections.length := by unfold passB; rw [List.length_zipWith]; omega
    refine ⟨⟨(nth (view hw hi hb) j2).gone, goI_start hg0 hg1, F1⟩, fun ws hJ => ?_⟩
    obtain ⟨g, hgI, F2⟩ := hJ
    unfold spec_l2pass_C3
    have e1 : (nth ws j2).gone = g := F2.gone
    have e2 : bs.getD (nth hi j2) [] = passB a0.sections (theF hk ho hq hw hi hb) (nth (view hw hi hb) j2) := F2.been
    have e3 : (nth ws j2).been.length = a0.sections.length := F2.blen.trans hbn
    have hgJ := hgI
    obtain ⟨g0, g1, -⟩ := hgJ
    have hll := F2.ll
    have hid := F2.idlt
    have w1 : IntKind.i64.wrap ((a0.sections.length : Int) - 1) = (a0.sections.length : Int) - 1 := w64 (by omega) (by omega)
    rw [e1]
    refine ⟨⟨hll, fun hc => ⟨⟨F2.G, h0, by omega⟩, fun w i b hpost => ?_⟩⟩, fun hc => ⟨hll, ?_⟩⟩
    · obtain ⟨G, hv⟩ := hpost
      have F3 := F2.again G hv
      refine ⟨F3.G, ?_⟩
      rw [F3.vw, F2.nthv]
      have hge : goCond a0.sections (theF hk ho hq hw hi hb) (passB a0.sections (theF hk ho hq hw hi hb) (nth (view hw hi hb) j2)) g = false := by unfold goCond; rw [hc]; rfl
      have hE := goI_end hs hgI hge
      have hgn : ¬ g < (a0.sections.length : Int) := by simpa using hc
      congr 1
      rw [passH_eq, if_pos (by omega), hbn]
    · have hgl : g < (a0.sections.length : Int) := by simpa using hc
      unfold spec_l2pass_C2
      rw [e1, e2, e3]
      have hbr := stop_go (f := theF hk ho hq hw hi hb) (been := passB a0.sections (theF hk ho hq hw hi hb) (nth (view hw hi hb) j2)) hs hc
      refine ⟨⟨⟨hll, ⟨hid, g0, by omega⟩, ⟨hid, by omega⟩, fun _ => ⟨⟨g0, by omega⟩, hbi g g0 (by omega), fun _ hl => ⟨hll, ?_⟩⟩⟩, fun hstop => ?_⟩, fun hgo => ?_⟩
      · rw [w1] at hl
        have hl : g < (a0.sections.length : Int) - 1 := by simpa using hl
        rw [w64 (by omega) (by omega)]
        exact ⟨⟨hid, by omega, by omega⟩, hid, by omega⟩
      · have hst : goCond a0.sections (theF hk ho hq hw hi hb) (passB a0.sections (theF hk ho hq hw hi hb) (nth (view hw hi hb) j2)) g = false := by
          have h2 : (!goCond a0.sections (theF hk ho hq hw hi hb) (passB a0.sections (theF hk ho hq hw hi hb) (nth (view hw hi hb) j2)) g) = true := hbr.symm.trans hstop
          simpa using h2
        have hE := goI_end hs hgI hst
        refine ⟨F2.G, ?_⟩
        rw [F2.vw]
        congr 1
        rw [passH_eq, if_neg (by omega), hE]
      · have hst : goCond a0.sections (theF hk ho hq hw hi hb) (passB a0.sections (theF hk ho hq hw hi hb) (nth (view hw hi hb) j2)) g = true := by
          have h2 : (!goCond a0.sections (theF hk ho hq hw hi hb) (passB a0.sections (theF hk ho hq hw hi hb) (nth (view hw hi hb) j2)) g) = false := hbr.symm.trans (not_eq hgo)
          simpa using h2
        obtain ⟨hst, _⟩ := goI_step hs hgI hst
        unfold spec_l2pass_C1
        rw [e1]
        have w2 : IntKind.i64.wrap (g + 1) = g + 1 := w64 (by omega) (by omega)
        have F5 := F2.setGone (IntKind.i64.wrap (g + 1))
        refine ⟨hll, hll, ⟨_, hst, F5⟩, ?_⟩
        have e5 := F5.gone
        show ((a0.sections.length : Int) - (nth (ws.set j2.toNat _) j2).gone).toNat < ((a0.sections.length : Int) - (nth ws j2).gone).toNat
        rw [e5, e1]
        show ((a0.sections.length : Int) - IntKind.i64.wrap (g + 1)).toNat < _
        rw [w2]; omega
  · obtain ⟨hI, F1⟩ := hI
    have hkl : k < (a0.sections.length : Int) := by simpa using hkk
    have k0 := hI.1
    have hub : (upBeen a0.sections (theF hk ho hq hw hi hb) (nth (view hw hi hb) j2).been k.toNat).length = a0.sections.length := by rw [upBeen_len hbl (by omega), hbl]
    have e2 : bs.getD (nth hi j2) [] = upBeen a0.sections (theF hk ho hq hw hi hb) (nth (view hw hi hb) j2).been k.toNat := F1.been
    have e3 : (nth hw j2).been.length = a0.sections.length := F1.blen.trans hub
    have hid := F1.idlt
    unfold spec_l2pass_C4
    rw [e2]
    refine ⟨⟨⟨k0, by omega⟩, hbi k k0 (by omega), fun _ => ⟨F1.ll, ⟨hid, k0, by omega⟩, hid, by omega⟩⟩, fun w hw' => ?_⟩
    have hst := up_step (lenI hn) hI hkk rfl
    refine ⟨⟨hst.1, ?_⟩, hst.2⟩
    rw [wrap_up (lenI hn) k0 hkl, show (k + 1).toNat = k.toNat + 1 by omega, ← upBeen_step hbl (by omega), ← hw']
    have hat := upBeen_at (s := a0.sections) (f := theF hk ho hq hw hi hb) (b := (nth (view hw hi hb) j2).been) hbl (show k.toNat < _ by omega)
    rw [nth_toNat k0] at hat
    have hocc : nth ho (nth a0.sections k) = occAt (theF hk ho hq hw hi hb) (a0.sections[k.toNat]'(by omega)) := by
      unfold occAt
      rw [← nth_eq (by omega)]; rfl
    rw [hocc]
    cases hb2 : occAt (theF hk ho hq hw hi hb) (a0.sections[k.toNat]'(by omega)) with
    | true =>
      rw [Bool.or_true]
      exact F1.setB _ (by rw [List.length_set])
    | false =>
      rw [Bool.or_false]
      have : (upBeen a0.sections (theF hk ho hq hw hi hb) (nth (view hw hi hb) j2).been k.toNat).set k.toNat ((nth (view hw hi hb) j2).been[k.toNat]'(by omega)) = upBeen a0.sections (theF hk ho hq hw hi hb) (nth (view hw hi hb) j2).been k.toNat := by
        rw [← hat, nth_eq (xs := upBeen _ _ _ _) (by rw [hub]; omega)]; exact List.set_getElem_self _
      rw [this]; exact F1)

noncomputable def spec_l2settle_b : Code := bodyC Try.f98
def spec_l2settle_o7 : List Item := [iq 0, iq 1, iq 2, iq 3, iq 4, iq 5, iq 6, iq 7, iq 8, iq 9, iq 10, iq 11, iq 12, iq 13, iq 14, iq 15, iq 16]
def spec_l2settle_o7a : List (List Nat) := [[], [0], [0, 1], [0, 1, 2], rg 0 4, rg 0 5, rg 0 6, rg 0 7, rg 0 8, rg 0 9, rg 0 6, rg 0 6 ++ [10], rg 0 6 ++ [10, 11], rg 0 6 ++ [10, 11, 12], rg 0 14, rg 0 15, rg 0 16]
def spec_l2settle_o12 : List Item := [iq 0, iq 1, iq 2, iq 3, iq 4, iq 5]
def spec_l2settle_o12a : List (List Nat) := [[], [], [1], [1, 2], [], rg 0 5]
def spec_l2settle_C1 (a0 : Plan) (ho : List Bool) (is3 : List Nat) (v12 : Int) (ws3 : List Held) : Prop :=
  ((((nth ws3 v12).state) != 4) && (nth ho (nth ((nth a0.ways v12).sections) 0))) = true → (ws3.length = is3.length ∧ v12.toNat < ws3.length) ∧ ((ws3.set v12.toNat (Held.mk 4 ((nth ws3 v12).gone) ((nth ws3 v12).been) ((nth ws3 v12).shown) ((nth ws3 v12).timer))).length = is3.length ∧ v12.toNat < (ws3.set v12.toNat (Held.mk 4 ((nth ws3 v12).gone) ((nth ws3 v12).been) ((nth ws3 v12).shown) ((nth ws3 v12).timer))).length)
def spec_l2settle_C2 (is3 : List Nat) (v12 : Int) (w16 : List Held) : Prop :=
  ((w16.set v12.toNat (Held.mk 1 ((nth w16 v12).gone) ((nth w16 v12).been) ((nth w16 v12).shown) ((nth w16 v12).timer))).set v12.toNat (Held.mk 2 ((nth (w16.set v12.toNat (Held.mk 1 ((nth w16 v12).gone) ((nth w16 v12).been) ((nth w16 v12).shown) ((nth w16 v12).timer))) v12).gone) ((nth (w16.set v12.toNat (Held.mk 1 ((nth w16 v12).gone) ((nth w16 v12).been) ((nth w16 v12).shown) ((nth w16 v12).timer))) v12).been) ((nth (w16.set v12.toNat (Held.mk 1 ((nth w16 v12).gone) ((nth w16 v12).been) ((nth w16 v12).shown) ((nth w16 v12).timer))) v12).shown) ((nth (w16.set v12.toNat (Held.mk 1 ((nth w16 v12).gone) ((nth w16 v12).been) ((nth w16 v12).shown) ((nth w16 v12).timer))) v12).timer))).length = is3.length ∧ v12.toNat < ((w16.set v12.toNat (Held.mk 1 ((nth w16 v12).gone) ((nth w16 v12).been) ((nth w16 v12).shown) ((nth w16 v12).timer))).set v12.toNat (Held.mk 2 ((nth (w16.set v12.toNat (Held.mk 1 ((nth w16 v12).gone) ((nth w16 v12).been) ((nth w16 v12).shown) ((nth w16 v12).timer))) v12).gone) ((nth (w16.set v12.toNat (Held.mk 1 ((nth w16 v12).gone) ((nth w16 v12).been) ((nth w16 v12).shown) ((nth w16 v12).timer))) v12).been) ((nth (w16.set v12.toNat (Held.mk 1 ((nth w16 v12).gone) ((nth w16 v12).been) ((nth w16 v12).shown) ((nth w16 v12).timer))) v12).shown) ((nth (w16.set v12.toNat (Held.mk 1 ((nth w16 v12).gone) ((nth w16 v12).been) ((nth w16 v12).shown) ((nth w16 v12).timer))) v12).timer))).length
def spec_l2settle_C3 (a0 : Plan) (hk : Bool) (ho : List Bool) (hq : List Point) (bs4 : List (List Bool)) (is3 : List Nat) (v12 : Int) (w16 : List Held) : Prop :=
  (provedF a0 (Frame.mk hk ho hq (view (w16.set v12.toNat (Held.mk 1 ((nth w16 v12).gone) ((nth w16 v12).been) ((nth w16 v12).shown) ((nth w16 v12).timer))) is3 bs4)) v12) = true → ((w16.set v12.toNat (Held.mk 1 ((nth w16 v12).gone) ((nth w16 v12).been) ((nth w16 v12).shown) ((nth w16 v12).timer))).length = is3.length ∧ v12.toNat < (w16.set v12.toNat (Held.mk 1 ((nth w16 v12).gone) ((nth w16 v12).been) ((nth w16 v12).shown) ((nth w16 v12).timer))).length) ∧ (spec_l2settle_C2 is3 v12 w16)
def spec_l2settle_C4 (a0 : Plan) (hk : Bool) (ho : List Bool) (hq : List Point) (bs4 : List (List Bool)) (is3 : List Nat) (v12 : Int) (w16 : List Held) : Prop :=
  (ho.length ≤ 4611686018427387904 ∧ hq.length ≤ 4611686018427387904 ∧ (FamOk (w16.set v12.toNat (Held.mk 1 ((nth w16 v12).gone) ((nth w16 v12).been) ((nth w16 v12).shown) ((nth w16 v12).timer))) is3 bs4 ∧ (w16.set v12.toNat (Held.mk 1 ((nth w16 v12).gone) ((nth w16 v12).been) ((nth w16 v12).shown) ((nth w16 v12).timer))).length ≤ 4611686018427387904 ∧ (∀ x ∈ bs4, List.length x ≤ 4611686018427387904)) ∧ provedPre a0 (Frame.mk hk ho hq (view (w16.set v12.toNat (Held.mk 1 ((nth w16 v12).gone) ((nth w16 v12).been) ((nth w16 v12).shown) ((nth w16 v12).timer))) is3 bs4)) v12) ∧ (spec_l2settle_C3 a0 hk ho hq bs4 is3 v12 w16)
def spec_l2settle_C5 (I0 : List (List Bool) → List Nat → Int → List Held → Prop) (m0 : List (List Bool) → List Nat → Int → List Held → Nat) (a0 : Plan) (hk : Bool) (ho : List Bool) (hq : List Point) (bs4 : List (List Bool)) (is3 : List Nat) (v12 : Int) (ws3 : List Held) (w29 : List Held) : Prop :=
  ((((nth w29 v12).state) == 4) = true → (passPreM (nth a0.ways v12) v12 hk ho hq w29 is3 bs4) ∧ (∀ (w54 : List Held) (i55 : List Nat) (b56 : List (List Bool)), passPostM (nth a0.ways v12) v12 hk ho hq w29 is3 bs4 ho hq w54 i55 b56 → (I0 b56 i55 (IntKind.i64.wrap (v12 + 1)) w54 ∧ m0 b56 i55 (IntKind.i64.wrap (v12 + 1)) w54 < m0 bs4 is3 v12 ws3))) ∧ ((((nth w29 v12).state) == 4) = false → I0 bs4 is3 (IntKind.i64.wrap (v12 + 1)) w29 ∧ m0 bs4 is3 (IntKind.i64.wrap (v12 + 1)) w29 < m0 bs4 is3 v12 ws3)
def spec_l2settle_C6 (I0 : List (List Bool) → List Nat → Int → List Held → Prop) (m0 : List (List Bool) → List Nat → Int → List Held → Nat) (a0 : Plan) (hk : Bool) (ho : List Bool) (hq : List Point) (bs4 : List (List Bool)) (is3 : List Nat) (v12 : Int) (ws3 : List Held) (w16 : List Held) : Prop :=
  (((w16.length = is3.length ∧ v12.toNat < w16.length) ∧ ((((nth w16 v12).state) == 1) = false → w16.length = is3.length ∧ v12.toNat < w16.length)) ∧ (((((nth w16 v12).state) == 1) || (((nth w16 v12).state) == 2)) = true → (w16.length = is3.length ∧ v12.toNat < w16.length) ∧ (spec_l2settle_C4 a0 hk ho hq bs4 is3 v12 w16))) ∧ (∀ w29 : List Held, (bif ((((nth w16 v12).state) == 1) || (((nth w16 v12).state) == 2)) then (bif (provedF a0 (Frame.mk hk ho hq (view (w16.set v12.toNat (Held.mk 1 ((nth w16 v12).gone) ((nth w16 v12).been) ((nth w16 v12).shown) ((nth w16 v12).timer))) is3 bs4)) v12) then (((w16.set v12.toNat (Held.mk 1 ((nth w16 v12).gone) ((nth w16 v12).been) ((nth w16 v12).shown) ((nth w16 v12).timer))).set v12.toNat (Held.mk 2 ((nth (w16.set v12.toNat (Held.mk 1 ((nth w16 v12).gone) ((nth w16 v12).been) ((nth w16 v12).shown) ((nth w16 v12).timer))) v12).gone) ((nth (w16.set v12.toNat (Held.mk 1 ((nth w16 v12).gone) ((nth w16 v12).been) ((nth w16 v12).shown) ((nth w16 v12).timer))) v12).been) ((nth (w16.set v12.toNat (Held.mk 1 ((nth w16 v12).gone) ((nth w16 v12).been) ((nth w16 v12).shown) ((nth w16 v12).timer))) v12).shown) ((nth (w16.set v12.toNat (Held.mk 1 ((nth w16 v12).gone) ((nth w16 v12).been) ((nth w16 v12).shown) ((nth w16 v12).timer))) v12).timer))).set v12.toNat (Held.mk ((nth ((w16.set v12.toNat (Held.mk 1 ((nth w16 v12).gone) ((nth w16 v12).been) ((nth w16 v12).shown) ((nth w16 v12).timer))).set v12.toNat (Held.mk 2 ((nth (w16.set v12.toNat (Held.mk 1 ((nth w16 v12).gone) ((nth w16 v12).been) ((nth w16 v12).shown) ((nth w16 v12).timer))) v12).gone) ((nth (w16.set v12.toNat (Held.mk 1 ((nth w16 v12).gone) ((nth w16 v12).been) ((nth w16 v12).shown) ((nth w16 v12).timer))) v12).been) ((nth (w16.set v12.toNat (Held.mk 1 ((nth w16 v12).gone) ((nth w16 v12).been) ((nth w16 v12).shown) ((nth w16 v12).timer))) v12).shown) ((nth (w16.set v12.toNat (Held.mk 1 ((nth w16 v12).gone) ((nth w16 v12).been) ((nth w16 v12).shown) ((nth w16 v12).timer))) v12).timer))) v12).state) ((nth ((w16.set v12.toNat (Held.mk 1 ((nth w16 v12).gone) ((nth w16 v12).been) ((nth w16 v12).shown) ((nth w16 v12).timer))).set v12.toNat (Held.mk 2 ((nth (w16.set v12.toNat (Held.mk 1 ((nth w16 v12).gone) ((nth w16 v12).been) ((nth w16 v12).shown) ((nth w16 v12).timer))) v12).gone) ((nth (w16.set v12.toNat (Held.mk 1 ((nth w16 v12).gone) ((nth w16 v12).been) ((nth w16 v12).shown) ((nth w16 v12).timer))) v12).been) ((nth (w16.set v12.toNat (Held.mk 1 ((nth w16 v12).gone) ((nth w16 v12).been) ((nth w16 v12).shown) ((nth w16 v12).timer))) v12).shown) ((nth (w16.set v12.toNat (Held.mk 1 ((nth w16 v12).gone) ((nth w16 v12).been) ((nth w16 v12).shown) ((nth w16 v12).timer))) v12).timer))) v12).gone) ((nth ((w16.set v12.toNat (Held.mk 1 ((nth w16 v12).gone) ((nth w16 v12).been) ((nth w16 v12).shown) ((nth w16 v12).timer))).set v12.toNat (Held.mk 2 ((nth (w16.set v12.toNat (Held.mk 1 ((nth w16 v12).gone) ((nth w16 v12).been) ((nth w16 v12).shown) ((nth w16 v12).timer))) v12).gone) ((nth (w16.set v12.toNat (Held.mk 1 ((nth w16 v12).gone) ((nth w16 v12).been) ((nth w16 v12).shown) ((nth w16 v12).timer))) v12).been) ((nth (w16.set v12.toNat (Held.mk 1 ((nth w16 v12).gone) ((nth w16 v12).been) ((nth w16 v12).shown) ((nth w16 v12).timer))) v12).shown) ((nth (w16.set v12.toNat (Held.mk 1 ((nth w16 v12).gone) ((nth w16 v12).been) ((nth w16 v12).shown) ((nth w16 v12).timer))) v12).timer))) v12).been) true ((nth ((w16.set v12.toNat (Held.mk 1 ((nth w16 v12).gone) ((nth w16 v12).been) ((nth w16 v12).shown) ((nth w16 v12).timer))).set v12.toNat (Held.mk 2 ((nth (w16.set v12.toNat (Held.mk 1 ((nth w16 v12).gone) ((nth w16 v12).been) ((nth w16 v12).shown) ((nth w16 v12).timer))) v12).gone) ((nth (w16.set v12.toNat (Held.mk 1 ((nth w16 v12).gone) ((nth w16 v12).been) ((nth w16 v12).shown) ((nth w16 v12).timer))) v12).been) ((nth (w16.set v12.toNat (Held.mk 1 ((nth w16 v12).gone) ((nth w16 v12).been) ((nth w16 v12).shown) ((nth w16 v12).timer))) v12).shown) ((nth (w16.set v12.toNat (Held.mk 1 ((nth w16 v12).gone) ((nth w16 v12).been) ((nth w16 v12).shown) ((nth w16 v12).timer))) v12).timer))) v12).timer))) else (w16.set v12.toNat (Held.mk 1 ((nth w16 v12).gone) ((nth w16 v12).been) ((nth w16 v12).shown) ((nth w16 v12).timer)))) else w16) = w29 → ((w29.length = is3.length ∧ v12.toNat < w29.length) ∧ (spec_l2settle_C5 I0 m0 a0 hk ho hq bs4 is3 v12 ws3 w29)))
def spec_l2settle_C7 (I0 : List (List Bool) → List Nat → Int → List Held → Prop) (m0 : List (List Bool) → List Nat → Int → List Held → Nat) (a0 : Plan) (hk : Bool) (ho : List Bool) (hq : List Point) (bs4 : List (List Bool)) (is3 : List Nat) (v12 : Int) (ws3 : List Held) : Prop :=
  (((ws3.length = is3.length ∧ v12.toNat < ws3.length) ∧ ((((nth ws3 v12).state) != 4) = true → ((0 : Int) ≤ 0 ∧ (0 : Int).toNat < ((nth a0.ways v12).sections).length) ∧ (0 ≤ (nth ((nth a0.ways v12).sections) 0) ∧ (nth ((nth a0.ways v12).sections) 0).toNat < ho.length))) ∧ (spec_l2settle_C1 a0 ho is3 v12 ws3)) ∧ (∀ w16 : List Held, (bif ((((nth ws3 v12).state) != 4) && (nth ho (nth ((nth a0.ways v12).sections) 0))) then ((ws3.set v12.toNat (Held.mk 4 ((nth ws3 v12).gone) ((nth ws3 v12).been) ((nth ws3 v12).shown) ((nth ws3 v12).timer))).set v12.toNat (Held.mk ((nth (ws3.set v12.toNat (Held.mk 4 ((nth ws3 v12).gone) ((nth ws3 v12).been) ((nth ws3 v12).shown) ((nth ws3 v12).timer))) v12).state) ((nth (ws3.set v12.toNat (Held.mk 4 ((nth ws3 v12).gone) ((nth ws3 v12).been) ((nth ws3 v12).shown) ((nth ws3 v12).timer))) v12).gone) ((nth (ws3.set v12.toNat (Held.mk 4 ((nth ws3 v12).gone) ((nth ws3 v12).been) ((nth ws3 v12).shown) ((nth ws3 v12).timer))) v12).been) ((nth (ws3.set v12.toNat (Held.mk 4 ((nth ws3 v12).gone) ((nth ws3 v12).been) ((nth ws3 v12).shown) ((nth ws3 v12).timer))) v12).shown) 0)) else ws3) = w16 → (spec_l2settle_C6 I0 m0 a0 hk ho hq bs4 is3 v12 ws3 w16))
def spec_l2settle_C8 (I0 : List (List Bool) → List Nat → Int → List Held → Prop) (m0 : List (List Bool) → List Nat → Int → List Held → Nat) (a0 : Plan) (hk : Bool) (ho : List Bool) (hq : List Point) (hw : List Held) (hi : List Nat) (hb : List (List Bool)) (bs4 : List (List Bool)) (is3 : List Nat) (v12 : Int) (ws3 : List Held) : Prop :=
  ((decide (v12 < (hw.length : Int))) = false → setPostM a0 hk ho hq hw hi hb ho hq ws3 is3 bs4) ∧ ((decide (v12 < (hw.length : Int))) = true → (0 ≤ v12 ∧ v12.toNat < ws3.length) ∧ ((0 ≤ v12 ∧ v12.toNat < a0.ways.length) ∧ (((ws3.length = is3.length ∧ v12.toNat < ws3.length) ∧ ((((nth ws3 v12).state) == 0) = true → I0 bs4 is3 (IntKind.i64.wrap (v12 + 1)) ws3 ∧ m0 bs4 is3 (IntKind.i64.wrap (v12 + 1)) ws3 < m0 bs4 is3 v12 ws3)) ∧ ((!(((nth ws3 v12).state) == 0)) = true → spec_l2settle_C7 I0 m0 a0 hk ho hq bs4 is3 v12 ws3))))
def spec_l2settle_C (a0 : Plan) (hg : Nat) (hk : Bool) (ho : List Bool) (hq : List Point) (hw : List Held) (hi : List Nat) (hb : List (List Bool)) (I0 : List (List Bool) → List Nat → Int → List Held → Prop) (m0 : List (List Bool) → List Nat → Int → List Held → Nat) : Prop :=
 I0 hb hi 0 hw ∧ ∀ (bs4 : List (List Bool)) (is3 : List Nat) (v12 : Int) (ws3 : List Held), I0 bs4 is3 v12 ws3 → (spec_l2settle_C8 I0 m0 a0 hk ho hq hw hi hb bs4 is3 v12 ws3)
theorem spec_l2settle_walk (a0 : Plan) (hg : Nat) (hk : Bool) (ho : List Bool) (hq : List Point) (hw : List Held) (hi : List Nat) (hb : List (List Bool)) (I0 : List (List Bool) → List Nat → Int → List Held → Prop) (m0 : List (List Bool) → List Nat → Int → List Held → Nat) (h : spec_l2settle_C a0 hg hk ho hq hw hi hb I0 m0) : FnS Try.prog 98 [.agg (ePlan false a0), .ptr 0 hg 0 0] (⟨hg, 4, [[ab hk, rf 1 0 ho.length, rf 2 0 hq.length, rf 3 0 hw.length]]⟩ :: ⟨0, 1, List.map eBool ho⟩ :: ⟨0, 2, List.map ePoint hq⟩ :: ⟨0, 5, hRows 4 hw hi⟩ :: List.map fbk hb) (fun r H' => ∃ (hw' : List Held) (hi' : List Nat) (hb' : List (List Bool)), r = .tup [] ∧ H' = (⟨hg, 4, [[ab hk, rf 1 0 ho.length, rf 2 0 hq.length, rf 3 0 hw'.length]]⟩ :: ⟨0, 1, List.map eBool ho⟩ :: ⟨0, 2, List.map ePoint hq⟩ :: ⟨0, 5, hRows 4 hw' hi'⟩ :: List.map fbk hb') ∧ setPostM a0 hk ho hq hw hi hb ho hq hw' hi' hb') := by
 unfold spec_l2settle_C at h
 refine FnS.go (fn := Try.f98) [(0, .agg (ePlan false a0)), (1, .ptr 0 hg 0 0)] Try.func98 ?_
 show WpS _ (nv spec_l2settle_b 1) _ ⟨mkS 91 [(0, .agg (ePlan false a0)), (1, .ptr 0 hg 0 0)], [], (⟨hg, 4, [[ab hk, rf 1 0 ho.length, rf 2 0 hq.length, rf 3 0 hw.length]]⟩ :: ⟨0, 1, List.map eBool ho⟩ :: ⟨0, 2, List.map ePoint hq⟩ :: ⟨0, 5, hRows 4 hw hi⟩ :: List.map fbk hb)⟩
 refine cRE [] 0 [(2, ap 2 0)] [1] [0, 1, 1] (fun L => (2, (ePlan false a0)) :: L) id ?_
 refine cSeqM [(11, ai (hw.length : Int)), (12, ai 0)] [2] (True) ?_ (fun q2 => ?_)
 ·
  refine rgS [] 1 ?_
  refine sAnd 4 (some 10) (rf 3 0 hw.length) [(9, .ptr 0 hg 0 3), (8, .ptr 0 hg 0 0), (7, .ptr 0 hg 0 0)] (φ := hg = hg) rfl ?_
  exact sEJ [(12, ai 0), (11, ai (hw.length : Int))] trivial
 refine cBlock 0 ?_
 obtain ⟨q66, h⟩ := h
 refine cLoop (fun (v : List (List Bool) × List Nat × Int × List Held) => (⟨(mkS 91 [(1, .ptr 0 hg 0 0), (2, ap 2 0), (11, ai (hw.length : Int)), (12, ai (v.2.2.1))]), [(2, (ePlan false a0))], (⟨hg, 4, [[ab hk, rf 1 0 ho.length, rf 2 0 hq.length, rf 3 0 ((v.2.2.2).length)]]⟩ :: ⟨0, 1, List.map eBool ho⟩ :: ⟨0, 2, List.map ePoint hq⟩ :: ⟨0, 5, hRows 4 (v.2.2.2) (v.2.1)⟩ :: List.map fbk (v.1))⟩ : St)) (fun (v : List (List Bool) × List Nat × Int × List Held) => I0 (v.1) (v.2.1) (v.2.2.1) (v.2.2.2)) (fun (v : List (List Bool) × List Nat × Int × List Held) => m0 (v.1) (v.2.1) (v.2.2.1) (v.2.2.2)) (hb, hi, 0, hw) (wkL []) q66 (fun v hI => ?_)
 obtain ⟨bs4, is3, v12, ws3⟩ := v
 replace h := h bs4 is3 v12 ws3 hI
 dsimp only
 refine cRM [] 2 [(13, ab (decide (v12 < (hw.length : Int))))] [1] [4] ?_
 unfold spec_l2settle_C8 at h
 obtain ⟨q65, h⟩ := h
 refine cSeqM [] [0, 1, 4] ((decide (v12 < (hw.length : Int))) = true) ?_ (fun q4 => ?_)
 ·
  replace h := q65
  refine cCond1 (fun q5 => ?_) (fun q5 => ?_)
  ·
   refine cSkip ?_
   exact QJoin.normal (by simp only [q5] <;> rfl) wkJ
  ·
   replace h := h q5
   refine cExit 0 ?_
   refine QJoin.exit ?_
   refine QRound.exit ?_
   refine QBlock.here ?_
   refine enS (t0) [] ?_
   exact ⟨ws3, is3, bs4, rfl, rfl, h⟩
 replace h := h q4
 refine cSeq ?_
 refine cBlock 1 ?_
 refine cRM [] 3 [(4, ai v12), (14, ai v12)] [1] [4] ?_
 obtain ⟨q64, h⟩ := h
 refine cSeqM [(5, .ptr 3 0 (0 + v12.toNat) 0)] [5] (True) ?_ (fun q7 => ?_)
 ·
  replace h := q64
  refine rgS [] 4 ?_
  refine sAnd 4 (some 18) (rf 3 0 ws3.length) [(17, .ptr 0 hg 0 3), (16, .ptr 0 hg 0 0), (15, .ptr 0 hg 0 0)] (φ := hg = hg) rfl ?_
  have z20_1842 := h
  refine sAdr 2 (some 20) [(19, ai v12)] 3 0 5 z20_1842 ?_
  exact sEJ [(5, .ptr 3 0 (0 + v12.toNat) 0)] trivial
 obtain ⟨q63, h⟩ := h
 refine cSeqE [(6, ap 6 0)] [6] (fun L => (6, (eWay false (nth a0.ways v12))) :: L) id (True) ?_ (fun q8 => ?_)
 ·
  replace h := q63
  refine rgS [] 5 ?_
  have q9 := h
  refine sIdx 4 (some 24) [(23, ai v12), (22, al (eWay false) a0.ways), (21, ap 2 2)] (eWay false) a0.ways 5 q9 ?_
  exact sEJ [(6, ap 6 0), (25, .agg (eWay false (nth a0.ways v12)))] trivial
 obtain ⟨q62, h⟩ := h
 refine cSeqM [] [7] ((!(((nth ws3 v12).state) == 0)) = true) ?_ (fun q10 => ?_)
 ·
  replace h := q62
  obtain ⟨q14, h⟩ := h
  refine cSeqM [(30, ab (((nth ws3 v12).state) == 0))] [7] (True) ?_ (fun q11 => ?_)
  ·
   replace h := q14
   refine rgS [] 6 ?_
   have q12 := h
   refine sLdR 4 (some 29) [(28, .ptr 3 0 (0 + v12.toNat) 0), (27, .ptr 3 0 (0 + v12.toNat) 0), (26, .ptr 3 0 (0 + v12.toNat) 0)] (hRows 4 ws3 is3) v12 3 0 0 (ai ((nth ws3 v12).state)) (hRows_get q12.1 q12.2) ?_
   exact sEJ [(30, ab (((nth ws3 v12).state) == 0))] trivial
  refine cCond1 (fun q13 => ?_) (fun q13 => ?_)
  ·
   replace h := h q13
   refine cExit 1 ?_
   refine QJoin.exit ?_
   refine QBlock.here ?_
   refine QSeq.normal ?_
   refine rgS [] 17 ?_
   refine sEnd [(12, ai (IntKind.i64.wrap (v12 + 1))), (90, ai (IntKind.i64.wrap (v12 + 1)))] ?_
   exact QRound.again (bs4, is3, (IntKind.i64.wrap (v12 + 1)), ws3) h (wkL [6])
  ·
   refine cSkip ?_
   exact QJoin.normal (by simp only [q4, q13] <;> rfl) wkJ
 replace h := h q10
 unfold spec_l2settle_C7 at h
 obtain ⟨q61, h⟩ := h
 obtain ⟨w16, q17⟩ : ∃ w : List Held, (bif ((((nth ws3 v12).state) != 4) && (nth ho (nth ((nth a0.ways v12).sections) 0))) then ((ws3.set v12.toNat (Held.mk 4 ((nth ws3 v12).gone) ((nth ws3 v12).been) ((nth ws3 v12).shown) ((nth ws3 v12).timer))).set v12.toNat (Held.mk ((nth (ws3.set v12.toNat (Held.mk 4 ((nth ws3 v12).gone) ((nth ws3 v12).been) ((nth ws3 v12).shown) ((nth ws3 v12).timer))) v12).state) ((nth (ws3.set v12.toNat (Held.mk 4 ((nth ws3 v12).gone) ((nth ws3 v12).been) ((nth ws3 v12).shown) ((nth ws3 v12).timer))) v12).gone) ((nth (ws3.set v12.toNat (Held.mk 4 ((nth ws3 v12).gone) ((nth ws3 v12).been) ((nth ws3 v12).shown) ((nth ws3 v12).timer))) v12).been) ((nth (ws3.set v12.toNat (Held.mk 4 ((nth ws3 v12).gone) ((nth ws3 v12).been) ((nth ws3 v12).shown) ((nth ws3 v12).timer))) v12).shown) 0)) else ws3) = w := ⟨_, rfl⟩
 refine cSeqE [] [7] id (fun H => bk 3 ⟨0, 5, hRows 4 w16 is3⟩ H) (True) ?_ (fun q15 => ?_)
 ·
  replace h := q61
  obtain ⟨q27, h⟩ := h
  refine cSeqM [(47, ab ((((nth ws3 v12).state) != 4) && (nth ho (nth ((nth a0.ways v12).sections) 0))))] [7] (True) ?_ (fun q18 => ?_)
  ·
   replace h := q27
   refine rgD [] 7 spec_l2settle_o7 spec_l2settle_o7a [] ?_
   obtain ⟨q21, h⟩ := h
   refine tLdR 4 (some 34) [(33, .ptr 3 0 (0 + v12.toNat) 0), (32, .ptr 3 0 (0 + v12.toNat) 0), (31, .ptr 3 0 (0 + v12.toNat) 0)] (hRows 4 ws3 is3) v12 3 0 0 (ai ((nth ws3 v12).state)) (hRows_get q21.1 q21.2) ?_
   refine tCase1 2 36 (((nth ws3 v12).state) != 4) [(35, ab (((nth ws3 v12).state) != 4))] (fun q19 => ?_) (fun q19 => ?_)
   ·
    replace h := h q19
    refine tAnd 4 (some 40) (rf 1 0 ho.length) [(39, .ptr 0 hg 0 1), (38, .ptr 0 hg 0 0), (37, .ptr 0 hg 0 0)] (φ := hg = hg) rfl ?_
    obtain ⟨q20, h⟩ := h
    refine tIdx 3 (some 43) [(42, al eInt ((nth a0.ways v12).sections)), (41, ap 6 0)] eInt ((nth a0.ways v12).sections) 1 q20 ?_
    have z45_29500 := h
    refine tAdr 2 (some 45) [(44, ai (nth ((nth a0.ways v12).sections) 0))] 1 0 1 z45_29500 ?_
    refine tLdB 1 (some 46) [] eBool ho (nth ((nth a0.ways v12).sections) 0) 4 0 0 (ab (nth ho (nth ((nth a0.ways v12).sections) 0))) (by simpa using z45_29500.2) ?_
    exact tEJ [(47, ab (nth ho (nth ((nth a0.ways v12).sections) 0)))] trivial (by simp only [q4, q10, q19] <;> kernel_rfl)
   ·
    exact tEJ ([(47, ab false)] ++ tz [46, 45, 44, 43, 42, 41, 40, 39, 38, 37]) trivial (by simp only [q4, q10, q19] <;> kernel_rfl)
  unfold spec_l2settle_C1 at h
  refine cCond1 (fun q22 => ?_) (fun q22 => ?_)
  ·
   replace h := h q22
   obtain ⟨q26, h⟩ := h
   refine cSeqE [] [0, 1, 7] id (fun H => bk 3 ⟨0, 5, hRows 4 (ws3.set v12.toNat (Held.mk 4 ((nth ws3 v12).gone) ((nth ws3 v12).been) ((nth ws3 v12).shown) ((nth ws3 v12).timer))) is3⟩ H) (True) ?_ (fun q23 => ?_)
   ·
    replace h := q26
    refine rgS [] 8 ?_
    have q24 := h
    refine sStRj 4 none [(50, .ptr 3 0 (0 + v12.toNat) 0), (49, .ptr 3 0 (0 + v12.toNat) 0), (48, .ptr 3 0 (0 + v12.toNat) 0)] (hRows 4 ws3 is3) v12 0 1 0 [ai 4] 3 (hRows 4 (ws3.set v12.toNat (Held.mk 4 ((nth ws3 v12).gone) ((nth ws3 v12).been) ((nth ws3 v12).shown) ((nth ws3 v12).timer))) is3) (hRows_get q24.1 q24.2) (hRows_keep q24.1 q24.2) ?_
    exact sEJ [] trivial
   refine rgS [] 9 ?_
   have q25 := h
   refine sStRj 4 none [(53, .ptr 3 0 (0 + v12.toNat) 4), (52, .ptr 3 0 (0 + v12.toNat) 0), (51, .ptr 3 0 (0 + v12.toNat) 0)] (hRows 4 (ws3.set v12.toNat (Held.mk 4 ((nth ws3 v12).gone) ((nth ws3 v12).been) ((nth ws3 v12).shown) ((nth ws3 v12).timer))) is3) v12 4 1 0 [ai 0] 3 (hRows 4 ((ws3.set v12.toNat (Held.mk 4 ((nth ws3 v12).gone) ((nth ws3 v12).been) ((nth ws3 v12).shown) ((nth ws3 v12).timer))).set v12.toNat (Held.mk ((nth (ws3.set v12.toNat (Held.mk 4 ((nth ws3 v12).gone) ((nth ws3 v12).been) ((nth ws3 v12).shown) ((nth ws3 v12).timer))) v12).state) ((nth (ws3.set v12.toNat (Held.mk 4 ((nth ws3 v12).gone) ((nth ws3 v12).been) ((nth ws3 v12).shown) ((nth ws3 v12).timer))) v12).gone) ((nth (ws3.set v12.toNat (Held.mk 4 ((nth ws3 v12).gone) ((nth ws3 v12).been) ((nth ws3 v12).shown) ((nth ws3 v12).timer))) v12).been) ((nth (ws3.set v12.toNat (Held.mk 4 ((nth ws3 v12).gone) ((nth ws3 v12).been) ((nth ws3 v12).shown) ((nth ws3 v12).timer))) v12).shown) 0)) is3) (hRows_get q25.1 q25.2) (hRows_keep q25.1 q25.2) ?_
   refine sEnd [] ?_
   exact QJoin.normal trivial (by simp only [← q17, q4, q10, q22, cond_true, cond_false]; exact wkJ)
  ·
   refine cSkip ?_
   exact QJoin.normal trivial (by simp only [← q17, q4, q10, q22, cond_true, cond_false]; exact wkJ)
 replace h := h w16 q17
 have hlw16 : w16.length = ws3.length := by rw [← q17]; repeat' apply len_cond; all_goals simp
 unfold spec_l2settle_C6 at h
 obtain ⟨q60, h⟩ := h
 obtain ⟨w29, q30⟩ : ∃ w : List Held, (bif ((((nth w16 v12).state) == 1) || (((nth w16 v12).state) == 2)) then (bif (provedF a0 (Frame.mk hk ho hq (view (w16.set v12.toNat (Held.mk 1 ((nth w16 v12).gone) ((nth w16 v12).been) ((nth w16 v12).shown) ((nth w16 v12).timer))) is3 bs4)) v12) then (((w16.set v12.toNat (Held.mk 1 ((nth w16 v12).gone) ((nth w16 v12).been) ((nth w16 v12).shown) ((nth w16 v12).timer))).set v12.toNat (Held.mk 2 ((nth (w16.set v12.toNat (Held.mk 1 ((nth w16 v12).gone) ((nth w16 v12).been) ((nth w16 v12).shown) ((nth w16 v12).timer))) v12).gone) ((nth (w16.set v12.toNat (Held.mk 1 ((nth w16 v12).gone) ((nth w16 v12).been) ((nth w16 v12).shown) ((nth w16 v12).timer))) v12).been) ((nth (w16.set v12.toNat (Held.mk 1 ((nth w16 v12).gone) ((nth w16 v12).been) ((nth w16 v12).shown) ((nth w16 v12).timer))) v12).shown) ((nth (w16.set v12.toNat (Held.mk 1 ((nth w16 v12).gone) ((nth w16 v12).been) ((nth w16 v12).shown) ((nth w16 v12).timer))) v12).timer))).set v12.toNat (Held.mk ((nth ((w16.set v12.toNat (Held.mk 1 ((nth w16 v12).gone) ((nth w16 v12).been) ((nth w16 v12).shown) ((nth w16 v12).timer))).set v12.toNat (Held.mk 2 ((nth (w16.set v12.toNat (Held.mk 1 ((nth w16 v12).gone) ((nth w16 v12).been) ((nth w16 v12).shown) ((nth w16 v12).timer))) v12).gone) ((nth (w16.set v12.toNat (Held.mk 1 ((nth w16 v12).gone) ((nth w16 v12).been) ((nth w16 v12).shown) ((nth w16 v12).timer))) v12).been) ((nth (w16.set v12.toNat (Held.mk 1 ((nth w16 v12).gone) ((nth w16 v12).been) ((nth w16 v12).shown) ((nth w16 v12).timer))) v12).shown) ((nth (w16.set v12.toNat (Held.mk 1 ((nth w16 v12).gone) ((nth w16 v12).been) ((nth w16 v12).shown) ((nth w16 v12).timer))) v12).timer))) v12).state) ((nth ((w16.set v12.toNat (Held.mk 1 ((nth w16 v12).gone) ((nth w16 v12).been) ((nth w16 v12).shown) ((nth w16 v12).timer))).set v12.toNat (Held.mk 2 ((nth (w16.set v12.toNat (Held.mk 1 ((nth w16 v12).gone) ((nth w16 v12).been) ((nth w16 v12).shown) ((nth w16 v12).timer))) v12).gone) ((nth (w16.set v12.toNat (Held.mk 1 ((nth w16 v12).gone) ((nth w16 v12).been) ((nth w16 v12).shown) ((nth w16 v12).timer))) v12).been) ((nth (w16.set v12.toNat (Held.mk 1 ((nth w16 v12).gone) ((nth w16 v12).been) ((nth w16 v12).shown) ((nth w16 v12).timer))) v12).shown) ((nth (w16.set v12.toNat (Held.mk 1 ((nth w16 v12).gone) ((nth w16 v12).been) ((nth w16 v12).shown) ((nth w16 v12).timer))) v12).timer))) v12).gone) ((nth ((w16.set v12.toNat (Held.mk 1 ((nth w16 v12).gone) ((nth w16 v12).been) ((nth w16 v12).shown) ((nth w16 v12).timer))).set v12.toNat (Held.mk 2 ((nth (w16.set v12.toNat (Held.mk 1 ((nth w16 v12).gone) ((nth w16 v12).been) ((nth w16 v12).shown) ((nth w16 v12).timer))) v12).gone) ((nth (w16.set v12.toNat (Held.mk 1 ((nth w16 v12).gone) ((nth w16 v12).been) ((nth w16 v12).shown) ((nth w16 v12).timer))) v12).been) ((nth (w16.set v12.toNat (Held.mk 1 ((nth w16 v12).gone) ((nth w16 v12).been) ((nth w16 v12).shown) ((nth w16 v12).timer))) v12).shown) ((nth (w16.set v12.toNat (Held.mk 1 ((nth w16 v12).gone) ((nth w16 v12).been) ((nth w16 v12).shown) ((nth w16 v12).timer))) v12).timer))) v12).been) true ((nth ((w16.set v12.toNat (Held.mk 1 ((nth w16 v12).gone) ((nth w16 v12).been) ((nth w16 v12).shown) ((nth w16 v12).timer))).set v12.toNat (Held.mk 2 ((nth (w16.set v12.toNat (Held.mk 1 ((nth w16 v12).gone) ((nth w16 v12).been) ((nth w16 v12).shown) ((nth w16 v12).timer))) v12).gone) ((nth (w16.set v12.toNat (Held.mk 1 ((nth w16 v12).gone) ((nth w16 v12).been) ((nth w16 v12).shown) ((nth w16 v12).timer))) v12).been) ((nth (w16.set v12.toNat (Held.mk 1 ((nth w16 v12).gone) ((nth w16 v12).been) ((nth w16 v12).shown) ((nth w16 v12).timer))) v12).shown) ((nth (w16.set v12.toNat (Held.mk 1 ((nth w16 v12).gone) ((nth w16 v12).been) ((nth w16 v12).shown) ((nth w16 v12).timer))) v12).timer))) v12).timer))) else (w16.set v12.toNat (Held.mk 1 ((nth w16 v12).gone) ((nth w16 v12).been) ((nth w16 v12).shown) ((nth w16 v12).timer)))) else w16) = w := ⟨_, rfl⟩
 refine cSeqE [] [2, 1, 4] id (fun H => bk 3 ⟨0, 5, hRows 4 w29 is3⟩ H) (True) ?_ (fun q28 => ?_)
 ·
  replace h := q60
  obtain ⟨q50, h⟩ := h
  refine cSeqM [(65, ab ((((nth w16 v12).state) == 1) || (((nth w16 v12).state) == 2)))] [7] (True) ?_ (fun q31 => ?_)
  ·
   replace h := q50
   refine rgS [] 10 ?_
   obtain ⟨q34, h⟩ := h
   refine sLdR 4 (some 57) [(56, .ptr 3 0 (0 + v12.toNat) 0), (55, .ptr 3 0 (0 + v12.toNat) 0), (54, .ptr 3 0 (0 + v12.toNat) 0)] (hRows 4 w16 is3) v12 3 0 0 (ai ((nth w16 v12).state)) (hRows_get q34.1 q34.2) ?_
   refine sCase1 2 59 (((nth w16 v12).state) == 1) [(58, ab (((nth w16 v12).state) == 1))] (fun q32 => ?_) (fun q32 => ?_)
   ·
    exact sEJ ([(65, ab true)] ++ tz [64, 63, 62, 61, 60]) trivial (by simp only [q4, q10, q32] <;> kernel_rfl)
   ·
    replace h := h q32
    have q33 := h
    refine sLdR 4 (some 63) [(62, .ptr 3 0 (0 + v12.toNat) 0), (61, .ptr 3 0 (0 + v12.toNat) 0), (60, .ptr 3 0 (0 + v12.toNat) 0)] (hRows 4 w16 is3) v12 3 0 0 (ai ((nth w16 v12).state)) (hRows_get q33.1 q33.2) ?_
    exact sEJ [(65, ab (((nth w16 v12).state) == 2)), (64, ab (((nth w16 v12).state) == 2))] trivial (by simp only [q4, q10, q32] <;> kernel_rfl)
  refine cCond1 (fun q35 => ?_) (fun q35 => ?_)
  ·
   replace h := h q35
   obtain ⟨q49, h⟩ := h
   refine cSeqE [] [0, 1, 7] id (fun H => bk 3 ⟨0, 5, hRows 4 (w16.set v12.toNat (Held.mk 1 ((nth w16 v12).gone) ((nth w16 v12).been) ((nth w16 v12).shown) ((nth w16 v12).timer))) is3⟩ H) (True) ?_ (fun q36 => ?_)
   ·
    replace h := q49
    refine rgS [] 11 ?_
    have q37 := h
    refine sStRj 4 none [(68, .ptr 3 0 (0 + v12.toNat) 0), (67, .ptr 3 0 (0 + v12.toNat) 0), (66, .ptr 3 0 (0 + v12.toNat) 0)] (hRows 4 w16 is3) v12 0 1 0 [ai 1] 3 (hRows 4 (w16.set v12.toNat (Held.mk 1 ((nth w16 v12).gone) ((nth w16 v12).been) ((nth w16 v12).shown) ((nth w16 v12).timer))) is3) (hRows_get q37.1 q37.2) (hRows_keep q37.1 q37.2) ?_
    exact sEJ [] trivial
   unfold spec_l2settle_C4 at h
   obtain ⟨q48, h⟩ := h
   refine cSeqM [(74, ab (provedF a0 (Frame.mk hk ho hq (view (w16.set v12.toNat (Held.mk 1 ((nth w16 v12).gone) ((nth w16 v12).been) ((nth w16 v12).shown) ((nth w16 v12).timer))) is3 bs4)) v12))] [2, 1, 4] (True) ?_ (fun q38 => ?_)
   ·
    replace h := q48
    refine rgD [] 12 spec_l2settle_o12 spec_l2settle_o12a [] ?_
    refine tAnd 4 (some 72) (.agg [ab hk, rf 1 0 ho.length, rf 2 0 hq.length, rf 3 0 ws3.length]) [(71, .ptr 0 hg 0 0), (70, .ptr 0 hg 0 0), (69, .agg (ePlan false a0))] (φ := hg = hg) rfl ?_
    obtain ⟨q39, q40, q41, q42⟩ := h
    refine tCallV 2 (some 74) [(73, ai v12)] [.agg (ePlan false a0), .agg [ab hk, rf 1 0 ho.length, rf 2 0 hq.length, rf 3 0 ws3.length], ai v12] (spec_l2proved_V a0 (Frame.mk hk ho hq (view (w16.set v12.toNat (Held.mk 1 ((nth w16 v12).gone) ((nth w16 v12).been) ((nth w16 v12).shown) ((nth w16 v12).timer))) is3 bs4)) v12 q42) (PW.cons (Snap2.agg (PW.cons (.int _ _) (PW.cons sa_lst (PW.cons sa_lst (PW.cons sa_lst (PW.cons (.int _ _) PW.nil)))))) (PW.cons (Snap2.agg (PW.cons (.bool _) (PW.cons (sa_blk' (sz := 1) (by simp [hlw16]) rfl (iBool) q39) (PW.cons (sa_blk' (sz := 2) (by simp [hlw16]) rfl (iPoint) q40) (PW.cons (sa_fam (s := 4) (ws := (w16.set v12.toNat (Held.mk 1 ((nth w16 v12).gone) ((nth w16 v12).been) ((nth w16 v12).shown) ((nth w16 v12).timer)))) (ids := is3) (bs := bs4) (by simp [hlw16]) rfl (fun id k h => by simpa using h) q41.1 q41.2.1 q41.2.2) PW.nil))))) (PW.cons (Snap2.of1 (.int _ _)) PW.nil))) ?_
    exact tEJ [] trivial
   unfold spec_l2settle_C3 at h
   refine cCond1 (fun q43 => ?_) (fun q43 => ?_)
   ·
    replace h := h q43
    obtain ⟨q47, h⟩ := h
    refine cSeqE [] [0, 1, 6] id (fun H => bk 3 ⟨0, 5, hRows 4 ((w16.set v12.toNat (Held.mk 1 ((nth w16 v12).gone) ((nth w16 v12).been) ((nth w16 v12).shown) ((nth w16 v12).timer))).set v12.toNat (Held.mk 2 ((nth (w16.set v12.toNat (Held.mk 1 ((nth w16 v12).gone) ((nth w16 v12).been) ((nth w16 v12).shown) ((nth w16 v12).timer))) v12).gone) ((nth (w16.set v12.toNat (Held.mk 1 ((nth w16 v12).gone) ((nth w16 v12).been) ((nth w16 v12).shown) ((nth w16 v12).timer))) v12).been) ((nth (w16.set v12.toNat (Held.mk 1 ((nth w16 v12).gone) ((nth w16 v12).been) ((nth w16 v12).shown) ((nth w16 v12).timer))) v12).shown) ((nth (w16.set v12.toNat (Held.mk 1 ((nth w16 v12).gone) ((nth w16 v12).been) ((nth w16 v12).shown) ((nth w16 v12).timer))) v12).timer))) is3⟩ H) (True) ?_ (fun q44 => ?_)
    ·
     replace h := q47
     refine rgS [] 13 ?_
     have q45 := h
     refine sStRj 4 none [(77, .ptr 3 0 (0 + v12.toNat) 0), (76, .ptr 3 0 (0 + v12.toNat) 0), (75, .ptr 3 0 (0 + v12.toNat) 0)] (hRows 4 (w16.set v12.toNat (Held.mk 1 ((nth w16 v12).gone) ((nth w16 v12).been) ((nth w16 v12).shown) ((nth w16 v12).timer))) is3) v12 0 1 0 [ai 2] 3 (hRows 4 ((w16.set v12.toNat (Held.mk 1 ((nth w16 v12).gone) ((nth w16 v12).been) ((nth w16 v12).shown) ((nth w16 v12).timer))).set v12.toNat (Held.mk 2 ((nth (w16.set v12.toNat (Held.mk 1 ((nth w16 v12).gone) ((nth w16 v12).been) ((nth w16 v12).shown) ((nth w16 v12).timer))) v12).gone) ((nth (w16.set v12.toNat (Held.mk 1 ((nth w16 v12).gone) ((nth w16 v12).been) ((nth w16 v12).shown) ((nth w16 v12).timer))) v12).been) ((nth (w16.set v12.toNat (Held.mk 1 ((nth w16 v12).gone) ((nth w16 v12).been) ((nth w16 v12).shown) ((nth w16 v12).timer))) v12).shown) ((nth (w16.set v12.toNat (Held.mk 1 ((nth w16 v12).gone) ((nth w16 v12).been) ((nth w16 v12).shown) ((nth w16 v12).timer))) v12).timer))) is3) (hRows_get q45.1 q45.2) (hRows_keep q45.1 q45.2) ?_
     exact sEJ [] trivial
    unfold spec_l2settle_C2 at h
    refine rgS [] 14 ?_
    have q46 := h
    refine sStRj 4 none [(80, .ptr 3 0 (0 + v12.toNat) 3), (79, .ptr 3 0 (0 + v12.toNat) 0), (78, .ptr 3 0 (0 + v12.toNat) 0)] (hRows 4 ((w16.set v12.toNat (Held.mk 1 ((nth w16 v12).gone) ((nth w16 v12).been) ((nth w16 v12).shown) ((nth w16 v12).timer))).set v12.toNat (Held.mk 2 ((nth (w16.set v12.toNat (Held.mk 1 ((nth w16 v12).gone) ((nth w16 v12).been) ((nth w16 v12).shown) ((nth w16 v12).timer))) v12).gone) ((nth (w16.set v12.toNat (Held.mk 1 ((nth w16 v12).gone) ((nth w16 v12).been) ((nth w16 v12).shown) ((nth w16 v12).timer))) v12).been) ((nth (w16.set v12.toNat (Held.mk 1 ((nth w16 v12).gone) ((nth w16 v12).been) ((nth w16 v12).shown) ((nth w16 v12).timer))) v12).shown) ((nth (w16.set v12.toNat (Held.mk 1 ((nth w16 v12).gone) ((nth w16 v12).been) ((nth w16 v12).shown) ((nth w16 v12).timer))) v12).timer))) is3) v12 3 1 0 [ab true] 3 (hRows 4 (((w16.set v12.toNat (Held.mk 1 ((nth w16 v12).gone) ((nth w16 v12).been) ((nth w16 v12).shown) ((nth w16 v12).timer))).set v12.toNat (Held.mk 2 ((nth (w16.set v12.toNat (Held.mk 1 ((nth w16 v12).gone) ((nth w16 v12).been) ((nth w16 v12).shown) ((nth w16 v12).timer))) v12).gone) ((nth (w16.set v12.toNat (Held.mk 1 ((nth w16 v12).gone) ((nth w16 v12).been) ((nth w16 v12).shown) ((nth w16 v12).timer))) v12).been) ((nth (w16.set v12.toNat (Held.mk 1 ((nth w16 v12).gone) ((nth w16 v12).been) ((nth w16 v12).shown) ((nth w16 v12).timer))) v12).shown) ((nth (w16.set v12.toNat (Held.mk 1 ((nth w16 v12).gone) ((nth w16 v12).been) ((nth w16 v12).shown) ((nth w16 v12).timer))) v12).timer))).set v12.toNat (Held.mk ((nth ((w16.set v12.toNat (Held.mk 1 ((nth w16 v12).gone) ((nth w16 v12).been) ((nth w16 v12).shown) ((nth w16 v12).timer))).set v12.toNat (Held.mk 2 ((nth (w16.set v12.toNat (Held.mk 1 ((nth w16 v12).gone) ((nth w16 v12).been) ((nth w16 v12).shown) ((nth w16 v12).timer))) v12).gone) ((nth (w16.set v12.toNat (Held.mk 1 ((nth w16 v12).gone) ((nth w16 v12).been) ((nth w16 v12).shown) ((nth w16 v12).timer))) v12).been) ((nth (w16.set v12.toNat (Held.mk 1 ((nth w16 v12).gone) ((nth w16 v12).been) ((nth w16 v12).shown) ((nth w16 v12).timer))) v12).shown) ((nth (w16.set v12.toNat (Held.mk 1 ((nth w16 v12).gone) ((nth w16 v12).been) ((nth w16 v12).shown) ((nth w16 v12).timer))) v12).timer))) v12).state) ((nth ((w16.set v12.toNat (Held.mk 1 ((nth w16 v12).gone) ((nth w16 v12).been) ((nth w16 v12).shown) ((nth w16 v12).timer))).set v12.toNat (Held.mk 2 ((nth (w16.set v12.toNat (Held.mk 1 ((nth w16 v12).gone) ((nth w16 v12).been) ((nth w16 v12).shown) ((nth w16 v12).timer))) v12).gone) ((nth (w16.set v12.toNat (Held.mk 1 ((nth w16 v12).gone) ((nth w16 v12).been) ((nth w16 v12).shown) ((nth w16 v12).timer))) v12).been) ((nth (w16.set v12.toNat (Held.mk 1 ((nth w16 v12).gone) ((nth w16 v12).been) ((nth w16 v12).shown) ((nth w16 v12).timer))) v12).shown) ((nth (w16.set v12.toNat (Held.mk 1 ((nth w16 v12).gone) ((nth w16 v12).been) ((nth w16 v12).shown) ((nth w16 v12).timer))) v12).timer))) v12).gone) ((nth ((w16.set v12.toNat (Held.mk 1 ((nth w16 v12).gone) ((nth w16 v12).been) ((nth w16 v12).shown) ((nth w16 v12).timer))).set v12.toNat (Held.mk 2 ((nth (w16.set v12.toNat (Held.mk 1 ((nth w16 v12).gone) ((nth w16 v12).been) ((nth w16 v12).shown) ((nth w16 v12).timer))) v12).gone) ((nth (w16.set v12.toNat (Held.mk 1 ((nth w16 v12).gone) ((nth w16 v12).been) ((nth w16 v12).shown) ((nth w16 v12).timer))) v12).been) ((nth (w16.set v12.toNat (Held.mk 1 ((nth w16 v12).gone) ((nth w16 v12).been) ((nth w16 v12).shown) ((nth w16 v12).timer))) v12).shown) ((nth (w16.set v12.toNat (Held.mk 1 ((nth w16 v12).gone) ((nth w16 v12).been) ((nth w16 v12).shown) ((nth w16 v12).timer))) v12).timer))) v12).been) true ((nth ((w16.set v12.toNat (Held.mk 1 ((nth w16 v12).gone) ((nth w16 v12).been) ((nth w16 v12).shown) ((nth w16 v12).timer))).set v12.toNat (Held.mk 2 ((nth (w16.set v12.toNat (Held.mk 1 ((nth w16 v12).gone) ((nth w16 v12).been) ((nth w16 v12).shown) ((nth w16 v12).timer))) v12).gone) ((nth (w16.set v12.toNat (Held.mk 1 ((nth w16 v12).gone) ((nth w16 v12).been) ((nth w16 v12).shown) ((nth w16 v12).timer))) v12).been) ((nth (w16.set v12.toNat (Held.mk 1 ((nth w16 v12).gone) ((nth w16 v12).been) ((nth w16 v12).shown) ((nth w16 v12).timer))) v12).shown) ((nth (w16.set v12.toNat (Held.mk 1 ((nth w16 v12).gone) ((nth w16 v12).been) ((nth w16 v12).shown) ((nth w16 v12).timer))) v12).timer))) v12).timer))) is3) (hRows_get q46.1 q46.2) (hRows_keep q46.1 q46.2) ?_
    refine sEnd [] ?_
    exact QJoin.normal trivial (by simp only [← q30, q4, q10, q35, q43, cond_true, cond_false]; exact wkJ)
   ·
    refine cSkip ?_
    exact QJoin.normal trivial (by simp only [← q30, q4, q10, q35, q43, cond_true, cond_false]; exact wkJ)
  ·
   refine cSkip ?_
   exact QJoin.normal trivial (by simp only [← q30, q4, q10, q35, cond_true, cond_false]; exact wkJ)
 replace h := h w29 q30
 have hlw29 : w29.length = ws3.length := by rw [← q30]; repeat' apply len_cond; all_goals simp [hlw16]
 obtain ⟨q59, h⟩ := h
 refine cSeqM [(85, ab (((nth w29 v12).state) == 4))] [6] (True) ?_ (fun q51 => ?_)
 ·
  replace h := q59
  refine rgS [] 15 ?_
  have q52 := h
  refine sLdR 4 (some 84) [(83, .ptr 3 0 (0 + v12.toNat) 0), (82, .ptr 3 0 (0 + v12.toNat) 0), (81, .ptr 3 0 (0 + v12.toNat) 0)] (hRows 4 w29 is3) v12 3 0 0 (ai ((nth w29 v12).state)) (hRows_get q52.1 q52.2) ?_
  exact sEJ [(85, ab (((nth w29 v12).state) == 4))] trivial
 unfold spec_l2settle_C5 at h
 refine cCond1 (fun q53 => ?_) (fun q53 => ?_)
 ·
  replace h := h.1 q53
  refine rgS [] 16 ?_
  obtain ⟨q57, h⟩ := h
  refine sRe (⟨hg, 4, [[ab hk, rf 1 0 ho.length, rf 2 0 hq.length, rf 3 0 w29.length]]⟩ :: ⟨0, 1, List.map eBool ho⟩ :: ⟨0, 2, List.map ePoint hq⟩ :: ⟨0, 5, hRows 4 w29 is3⟩ :: List.map fbk bs4) (by rw [show ws3.length = w29.length by simp [hlw16, hlw29]] <;> rfl) ?_
  refine sCallM 4 (some 89) [(88, .ptr 3 0 (0 + v12.toNat) 0), (87, .ptr 0 hg 0 0), (86, .agg (eWay false (nth a0.ways v12)))] [.agg (eWay false (nth a0.ways v12)), .ptr 0 hg 0 0, .ptr 3 0 (0 + v12.toNat) 0] _ (spec_l2pass_M (nth a0.ways v12) v12 hg hk ho hq w29 is3 bs4 q57) (fun r H' hq => by obtain ⟨_, _, _, rfl, _⟩ := hq; rfl) ?_
  rintro r H' ⟨w54, i55, b56, rfl, rfl, q58⟩
  replace h := h w54 i55 b56 q58
  refine sEnd [] ?_
  refine QBlock.normal ?_
  refine QSeq.normal ?_
  refine rgS [] 17 ?_
  refine sEnd [(12, ai (IntKind.i64.wrap (v12 + 1))), (90, ai (IntKind.i64.wrap (v12 + 1)))] ?_
  exact QRound.again (b56, i55, (IntKind.i64.wrap (v12 + 1)), w54) h (wkL [6])
 ·
  replace h := h.2 q53
  refine cSkip ?_
  refine QBlock.normal ?_
  refine QSeq.normal ?_
  refine rgS [] 17 ?_
  refine sEnd [(12, ai (IntKind.i64.wrap (v12 + 1))), (90, ai (IntKind.i64.wrap (v12 + 1)))] ?_
  exact QRound.again (bs4, is3, (IntKind.i64.wrap (v12 + 1)), w29) h (weak_eq (s' := ⟨(mkS 91 [(1, .ptr 0 hg 0 0), (2, ap 2 0), (11, ai (hw.length : Int)), (12, ai (IntKind.i64.wrap (v12 + 1)))]), [(2, (ePlan false a0))], (⟨hg, 4, [[ab hk, rf 1 0 ho.length, rf 2 0 hq.length, rf 3 0 ws3.length]]⟩ :: ⟨0, 1, List.map eBool ho⟩ :: ⟨0, 2, List.map ePoint hq⟩ :: ⟨0, 5, hRows 4 w29 is3⟩ :: List.map fbk bs4)⟩) (wkL (n := 91) (A' := [(1, .ptr 0 hg 0 0), (2, ap 2 0), (11, ai (hw.length : Int)), (12, ai (IntKind.i64.wrap (v12 + 1)))]) (L' := [(2, (ePlan false a0))]) [6]) (congrArg (fun z => (⟨(mkS 91 [(1, .ptr 0 hg 0 0), (2, ap 2 0), (11, ai (hw.length : Int)), (12, ai (IntKind.i64.wrap (v12 + 1)))]), [(2, (ePlan false a0))], (⟨hg, 4, [[ab hk, rf 1 0 ho.length, rf 2 0 hq.length, rf 3 0 z]]⟩ :: ⟨0, 1, List.map eBool ho⟩ :: ⟨0, 2, List.map ePoint hq⟩ :: ⟨0, 5, hRows 4 w29 is3⟩ :: List.map fbk bs4)⟩ : St)) (show ws3.length = w29.length by simp [hlw16, hlw29])))

theorem spec_l2settle_M (a0 : Plan) (hg : Nat) (hk : Bool) (ho : List Bool) (hq : List Point) (hw : List Held) (hi : List Nat) (hb : List (List Bool)) (hp : setPreM a0 hk ho hq hw hi hb) : FnS Try.prog 98 [.agg (ePlan false a0), .ptr 0 hg 0 0] (⟨hg, 4, [[ab hk, rf 1 0 ho.length, rf 2 0 hq.length, rf 3 0 hw.length]]⟩ :: ⟨0, 1, List.map eBool ho⟩ :: ⟨0, 2, List.map ePoint hq⟩ :: ⟨0, 5, hRows 4 hw hi⟩ :: List.map fbk hb) (fun r H' => ∃ (hw' : List Held) (hi' : List Nat) (hb' : List (List Bool)), r = .tup [] ∧ H' = (⟨hg, 4, [[ab hk, rf 1 0 ho.length, rf 2 0 hq.length, rf 3 0 hw'.length]]⟩ :: ⟨0, 1, List.map eBool ho⟩ :: ⟨0, 2, List.map ePoint hq⟩ :: ⟨0, 5, hRows 4 hw' hi'⟩ :: List.map fbk hb') ∧ setPostM a0 hk ho hq hw hi hb ho hq hw' hi' hb') := spec_l2settle_walk a0 hg hk ho hq hw hi hb (setI a0 (theF hk ho hq hw hi hb)) (fun _ _ v _ => upM hw.length v) (by
  unfold spec_l2settle_C
  obtain ⟨G, hP, hF⟩ := hp
  have hVl : (theF hk ho hq hw hi hb).ways.length = hw.length := view_len G.ok
  have hways := hF.ways
  have hpw := hP.ways
  have hfocc := hF.occ
  have hfpt := hF.points
  have hpsec := hP.secs
  have hsw := hP.sw
  refine ⟨⟨?_, G.ok, G.nd, rfl, G.len⟩, fun bs is v ws hI => ?_⟩
  · rw [hVl]; exact up_start (len0 _)
  have hI' := hI
  obtain ⟨hU, hok, hnd, hvw, hlen⟩ := hI'
  have hn : ((theF hk ho hq hw hi hb).ways.length : Int) ≤ 4611686018427387904 := by omega
  obtain ⟨s1, s2, s3⟩ := settleN_same a0 (theF hk ho hq hw hi hb) v.toNat
  have hwl : ws.length = hw.length := by rw [← view_len hok, hvw, settleN_len, hVl]
  unfold spec_l2settle_C8
  have hm : ∀ x : Int, upM hw.length x = upM (theF hk ho hq hw hi hb).ways.length x := fun x => by rw [hVl]
  simp only [hm]
  rw [← hVl]
  refine ⟨fun hv => ?_, fun hv => ?_⟩
  · have hv' : ¬ v < ((theF hk ho hq hw hi hb).ways.length : Int) := by simpa using hv
    have h1 := hU.2.1
    have h0 := hU.1
    have : v.toNat = (theF hk ho hq hw hi hb).ways.length := by omega
    rw [this] at hvw
    exact ⟨⟨hok, hnd, hlen⟩, hvw⟩
  have hin := up_in hU hv
  have h0 := hin.1
  have hlt : v.toNat < ws.length := by omega
  have hpl : v.toNat < a0.ways.length := by omega
  have hFN := settleN_in hF v.toNat
  have hV : (atN a0 (theF hk ho hq hw hi hb) v).ways.length = hw.length := (settleN_len _ _ _).trans hVl
  have hs : (secs a0 v) ≠ [] ∧ (secs a0 v).length ≤ 30 ∧ ∀ x ∈ secs a0 v, 0 ≤ x ∧ x < a0.sections := hP.sections _ (nth_mem hpl)
  have hg1 : (atN a0 (theF hk ho hq hw hi hb) v).ways[v.toNat]? = some (nth (atN a0 (theF hk ho hq hw hi hb) v).ways v) := nth_some (by omega)
  have hbe : (nth (atN a0 (theF hk ho hq hw hi hb) v).ways v).been.length = (secs a0 v).length := hFN.been _ _ _ hg1 (nth_some hpl)
  have hgo := hFN.gone _ (List.mem_of_getElem? hg1)
  have hsl : 0 < (secs a0 v).length := List.length_pos_iff.2 hs.1
  have hol : (ho.length : Int) = a0.sections := hfocc
  have hql : hq.length = a0.switches.length := hfpt
  have hsin : ∀ k : Int, 0 ≤ k → k.toNat < (secs a0 v).length → 0 ≤ nth (secs a0 v) k ∧ (nth (secs a0 v) k).toNat < ho.length := fun k k0 k1 => by
    have := hs.2.2 _ (nth_mem k1); omega
  have F0 : FamAt (atN a0 (theF hk ho hq hw hi hb) v).ways is v (nth (atN a0 (theF hk ho hq hw hi hb) v).ways v) ws bs := FamAt.start hok hnd hlt hvw hlen
  have hstep := stepH_eq (p := a0) (f := theF hk ho hq hw hi hb) h0
  refine ⟨⟨h0, hlt⟩, ⟨h0, hpl⟩, ⟨F0.ll, fun hz => ?_⟩, fun hz => ?_⟩
  · rw [F0.state] at hz
    exact set_next hn hU hv F0 (by rw [hstep, if_pos (by simpa using hz)])
  have hz : ¬ (nth (atN a0 (theF hk ho hq hw hi hb) v).ways v).state = 0 := by rw [F0.state] at hz; simpa using hz
  rw [if_neg hz] at hstep
  unfold spec_l2settle_C7 spec_l2settle_C1
  refine ⟨⟨⟨F0.ll, fun _ => ⟨⟨Int.le_refl _, hsl⟩, hsin 0 (Int.le_refl _) hsl⟩⟩, fun _ => ⟨F0.ll, (F0.setState 4).ll⟩⟩, fun w27 hw27 => ?_⟩
  have F1 : FamAt (atN a0 (theF hk ho hq hw hi hb) v).ways is v (preA a0 (theF hk ho hq hw hi hb) v) w27 bs := by
    rw [← hw27, F0.state]
    unfold preA
    simp only
    have hc : ((nth (atN a0 (theF hk ho hq hw hi hb) v).ways v).state ≠ 4 ∧ occAt (atN a0 (theF hk ho hq hw hi hb) v) (nth (secs a0 v) 0) = true) ↔ ((((nth (atN a0 (theF hk ho hq hw hi hb) v).ways v).state != 4) && (nth ho (nth ((nth a0.ways v).sections) 0))) = true) := by
      rw [Bool.and_eq_true, bne_iff_ne]
      unfold occAt
      rw [show (atN a0 (theF hk ho hq hw hi hb) v).occ = ho from s2]; rfl
    by_cases hb : ((nth (atN a0 (theF hk ho hq hw hi hb) v).ways v).state ≠ 4 ∧ occAt (atN a0 (theF hk ho hq hw hi hb) v) (nth (secs a0 v) 0) = true)
    · rw [if_pos hb, hc.1 hb]
      exact (F0.setState 4).setTimer 0
    · rw [if_neg hb, Bool.eq_false_iff.2 (fun h => hb (hc.2 h))]
      exact F0
  have hpre : provedPre a0 (Frame.mk hk ho hq (view (w27.set v.toNat (Held.mk 1 ((nth w27 v).gone) ((nth w27 v).been) ((nth w27 v).shown) ((nth w27 v).timer))) is bs)) v := by
    have FS := F1.setState 1
    refine ⟨hP, ⟨hF.occ, hF.points, ?_, fun i h w e1 e2 => ?_, fun h hh => ?_⟩, h0, by omega⟩
    · show (view _ is bs).length = _
      rw [view_len FS.ok, List.length_set]; have := F1.vlen; omega
    · replace e1 : (view _ is bs)[i]? = some h := e1
      rw [FS.vw, List.getElem?_set] at e1
      split at e1
      · rename_i hi; subst hi
        split at e1
        · cases e1
          have := nth_some hpl
          rw [e2] at this
          cases this
          show (preA a0 (theF hk ho hq hw _ hb) v).been.length = _
          rw [preA_been.1]; exact hbe
        · cases e1
      · exact hFN.been i h w e1 e2
    · replace hh : h ∈ view _ is bs := hh
      rw [FS.vw] at hh
      rcases List.mem_or_eq_of_mem_set hh with hh | rfl
      · exact hFN.gone h hh
      · show 0 ≤ (preA a0 (theF hk ho hq hw hi hb) v).gone ∧ (preA a0 (theF hk ho hq hw hi hb) v).gone ≤ (preA a0 (theF hk ho hq hw hi hb) v).been.length
        rw [preA_been.1, preA_been.2]; exact hgo
  have hprv : provedF a0 (Frame.mk hk ho hq (view (w27.set v.toNat (Held.mk 1 ((nth w27 v).gone) ((nth w27 v).been) ((nth w27 v).shown) ((nth w27 v).timer))) is bs)) v = provedF a0 (atN a0 (theF hk ho hq hw hi hb) v) v := provedF_same s2.symm s3.symm
  unfold spec_l2settle_C6
  refine ⟨⟨⟨F1.ll, fun _ => F1.ll⟩, fun _ => ⟨F1.ll, ?_⟩⟩, fun w47 hw47 => ?_⟩
  · unfold spec_l2settle_C4 spec_l2settle_C3 spec_l2settle_C2
    have FS := F1.setState 1
    refine ⟨⟨by omega, by omega, ⟨FS.ok, ?_, fun b hb => by have := hlen b hb; omega⟩, hpre⟩, fun _ => ⟨FS.ll, (FS.setState 2).ll⟩⟩
    rw [List.length_set]; have := F1.vlen; omega
  have F2 : FamAt (atN a0 (theF hk ho hq hw hi hb) v).ways is v (preH a0 (theF hk ho hq hw hi hb) v) w47 bs := by
    rw [← hw47, hprv, F1.state]
    unfold preH
    simp only
    by_cases hb : (preA a0 (theF hk ho hq hw hi hb) v).state = 1 ∨ (preA a0 (theF hk ho hq hw hi hb) v).state = 2
    · rw [if_pos hb, show (((preA a0 (theF hk ho hq hw hi _) v).state == 1) || ((preA a0 (theF hk ho hq hw hi _) v).state == 2)) = true by simpa using hb]
      cases hq : provedF a0 (atN a0 (theF hk ho _ hw hi _) v) v with
      | true => exact ((F1.setState 1).setState 2).setShown true
      | false => exact F1.setState 1
    · rw [if_neg hb, show (((preA a0 (theF hk ho hq hw hi _) v).state == 1) || ((preA a0 (theF hk ho hq hw hi _) v).state == 2)) = false by simpa using hb]
      exact F1
  have hpb : (preH a0 (theF hk ho hq hw hi hb) v).been.length = (secs a0 v).length := by rw [preH_been.1]; exact hbe
  have hpg : 0 ≤ (preH a0 (theF hk ho hq hw hi hb) v).gone ∧ (preH a0 (theF hk ho hq hw hi hb) v).gone ≤ (secs a0 v).length := by rw [preH_been.2, ← hbe]; exact hgo
  refine ⟨F2.ll, ?_⟩
  unfold spec_l2settle_C5
  refine ⟨fun h4 => ⟨⟨F2.G, h0, by have := F2.lt; omega, ?_, ?_, ?_, ?_, ?_⟩, fun w i b hpost => ?_⟩, fun h4 => ?_⟩
  · show (secs a0 v).length ≤ _; omega
  · intro x hx
    have := hs.2.2 x hx; omega
  · rw [F2.nthv]; exact hpb
  · rw [F2.nthv]; exact hpg.1
  · rw [F2.nthv]; exact hpg.2
  · obtain ⟨G', hv'⟩ := hpost
    have F3 := F2.again G' hv'
    have h4 : (preH a0 (theF hk ho hq hw hi hb) v).state = 4 := by rw [F2.state] at h4; simpa using h4
    rw [if_pos h4] at hstep
    refine set_next hn hU hv F3 ?_
    rw [F2.nthv, hstep]
    exact passH_same s2.symm
  · rw [F2.state] at h4
    exact set_next hn hU hv F2 (by rw [hstep, if_neg (by simpa using h4)]))

end Go.Proofs.Ytglpfccgmfhkdaa.Fw
