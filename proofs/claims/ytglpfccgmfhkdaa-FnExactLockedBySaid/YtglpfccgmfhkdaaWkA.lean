/- Walks and summaries of functions, printed by a program of mine (tools/mk.py), with the proofs of what they owe. -/
import Derived.Test.YtglpfccgmfhkdaaProg
import Derived.Test.YtglpfccgmfhkdaaSpC
set_option linter.unusedVariables false
set_option maxRecDepth 100000
set_option maxHeartbeats 4000000
set_option linter.unusedSimpArgs false
namespace Go.Proofs.Ytglpfccgmfhkdaa.Fw
open Go
attribute [local irreducible] evS evSD WpS Weak Oper.looksAt
noncomputable def laws_szIntS_b : Code := bodyC Try.f64
def laws_szIntS_C (a0 : (List Int)) (a1 : Int) (res : Int) : Prop :=
 a0.length ≤ 4611686018427387904 → ((decide ((IntKind.i64.wrap (a1 - (a0.length : Int))) < 0)) = true → (-1) = res) ∧ ((!(decide ((IntKind.i64.wrap (a1 - (a0.length : Int))) < 0))) = true → (IntKind.i64.wrap (a1 - (a0.length : Int))) = res)
theorem laws_szIntS_walk (a0 : (List Int)) (a1 : Int) (res : Int) (h : laws_szIntS_C a0 a1 res) : FnV Try.prog 64 [al eInt a0, ai a1] (ai res) := by
 unfold laws_szIntS_C at h
 refine FnS.go (fn := Try.f64) [(0, al eInt a0), (1, ai a1)] Try.func64 ?_
 show WpS _ (nv laws_szIntS_b 1) _ ⟨mkS 12 [(0, al eInt a0), (1, ai a1)], [], []⟩
 refine cRM [] 0 [(4, ai 0)] [] [2] ?_
 refine cSeqM [(1, ai (IntKind.i64.wrap (a1 - (a0.length : Int))))] [] (a0.length ≤ 4611686018427387904) ?_ (fun q2 => ?_)
 ·
  refine rgS [] 1 ?_
  refine sLen 3 (some 7) [(6, al eInt a0), (5, ai a1)] eInt a0 (fun q3 => ?_)
  exact sEJ [(1, ai (IntKind.i64.wrap (a1 - (a0.length : Int)))), (8, ai (IntKind.i64.wrap (a1 - (a0.length : Int))))] q3
 replace h := h q2
 obtain ⟨q9, h⟩ := h
 refine cSeqM [] [1] ((!(decide ((IntKind.i64.wrap (a1 - (a0.length : Int))) < 0))) = true) ?_ (fun q4 => ?_)
 ·
  replace h := q9
  refine cRM [] 2 [(10, ab (decide ((IntKind.i64.wrap (a1 - (a0.length : Int))) < 0))), (9, ai (IntKind.i64.wrap (a1 - (a0.length : Int))))] [1] [1] ?_
  refine cCond1 (fun q6 => ?_) (fun q6 => ?_)
  ·
   replace h := h q6
   refine cRM [] 3 [(4, ai (-1))] [1] [] ?_
   exact cRet (QJoin.ret (rt1 (ai (-1)) (SnapR3.of1 (sr_int h))))
  ·
   refine cSkip ?_
   exact QJoin.normal (by simp only [q6] <;> rfl) wkJ
 replace h := h q4
 refine cRM [] 4 [(4, ai (IntKind.i64.wrap (a1 - (a0.length : Int)))), (11, ai (IntKind.i64.wrap (a1 - (a0.length : Int))))] [1] [] ?_
 exact cRet (rt1 (ai (IntKind.i64.wrap (a1 - (a0.length : Int)))) (SnapR3.of1 (sr_int h)))

theorem laws_szIntS_V (a0 : (List Int)) (a1 : Int) (hp : okL a0 a1) : FnV Try.prog 64 [al eInt a0, ai a1] (ai (szL a0 a1)) := laws_szIntS_walk a0 a1 (szL a0 a1) (by
 unfold laws_szIntS_C
 exact fun hn => sz_len hp hn)

noncomputable def laws_szLieS_b : Code := bodyC Try.f159
def laws_szLieS_C (a0 : (List Lie)) (a1 : Int) (res : Int) : Prop :=
 a0.length ≤ 4611686018427387904 → ((decide ((IntKind.i64.wrap (a1 - (a0.length : Int))) < 0)) = true → (-1) = res) ∧ ((!(decide ((IntKind.i64.wrap (a1 - (a0.length : Int))) < 0))) = true → (IntKind.i64.wrap (a1 - (a0.length : Int))) = res)
theorem laws_szLieS_walk (a0 : (List Lie)) (a1 : Int) (res : Int) (h : laws_szLieS_C a0 a1 res) : FnV Try.prog 159 [al eLie a0, ai a1] (ai res) := by
 unfold laws_szLieS_C at h
 refine FnS.go (fn := Try.f159) [(0, al eLie a0), (1, ai a1)] Try.func159 ?_
 show WpS _ (nv laws_szLieS_b 1) _ ⟨mkS 12 [(0, al eLie a0), (1, ai a1)], [], []⟩
 refine cRM [] 0 [(4, ai 0)] [] [2] ?_
 refine cSeqM [(1, ai (IntKind.i64.wrap (a1 - (a0.length : Int))))] [] (a0.length ≤ 4611686018427387904) ?_ (fun q2 => ?_)
 ·
  refine rgS [] 1 ?_
  refine sLen 3 (some 7) [(6, al eLie a0), (5, ai a1)] eLie a0 (fun q3 => ?_)
  exact sEJ [(1, ai (IntKind.i64.wrap (a1 - (a0.length : Int)))), (8, ai (IntKind.i64.wrap (a1 - (a0.length : Int))))] q3
 replace h := h q2
 obtain ⟨q9, h⟩ := h
 refine cSeqM [] [1] ((!(decide ((IntKind.i64.wrap (a1 - (a0.length : Int))) < 0))) = true) ?_ (fun q4 => ?_)
 ·
  replace h := q9
  refine cRM [] 2 [(10, ab (decide ((IntKind.i64.wrap (a1 - (a0.length : Int))) < 0))), (9, ai (IntKind.i64.wrap (a1 - (a0.length : Int))))] [1] [1] ?_
  refine cCond1 (fun q6 => ?_) (fun q6 => ?_)
  ·
   replace h := h q6
   refine cRM [] 3 [(4, ai (-1))] [1] [] ?_
   exact cRet (QJoin.ret (rt1 (ai (-1)) (SnapR3.of1 (sr_int h))))
  ·
   refine cSkip ?_
   exact QJoin.normal (by simp only [q6] <;> rfl) wkJ
 replace h := h q4
 refine cRM [] 4 [(4, ai (IntKind.i64.wrap (a1 - (a0.length : Int)))), (11, ai (IntKind.i64.wrap (a1 - (a0.length : Int))))] [1] [] ?_
 exact cRet (rt1 (ai (IntKind.i64.wrap (a1 - (a0.length : Int)))) (SnapR3.of1 (sr_int h)))

theorem laws_szLieS_V (a0 : (List Lie)) (a1 : Int) (hp : okL a0 a1) : FnV Try.prog 159 [al eLie a0, ai a1] (ai (szL a0 a1)) := laws_szLieS_walk a0 a1 (szL a0 a1) (by
 unfold laws_szLieS_C
 exact fun hn => sz_len hp hn)

noncomputable def laws_szWay_b : Code := bodyC Try.f125
def laws_szWay_C1 (a0 : Way) (a1 res : Int) : Prop :=
  ((decide ((szL a0.over (szL a0.flanks (szL a0.lies (szL a0.sections a1)))) < 0)) = true → (-1) = res) ∧ ((!(decide ((szL a0.over (szL a0.flanks (szL a0.lies (szL a0.sections a1)))) < 0))) = true → (okL a0.near (szL a0.over (szL a0.flanks (szL a0.lies (szL a0.sections a1))))) ∧ (((decide ((szL a0.near (szL a0.over (szL a0.flanks (szL a0.lies (szL a0.sections a1))))) < 0)) = true → (-1) = res) ∧ ((!(decide ((szL a0.near (szL a0.over (szL a0.flanks (szL a0.lies (szL a0.sections a1))))) < 0))) = true → (szL a0.near (szL a0.over (szL a0.flanks (szL a0.lies (szL a0.sections a1))))) = res)))
def laws_szWay_C2 (a0 : Way) (a1 res : Int) : Prop :=
  ((decide ((szL a0.lies (szL a0.sections a1)) < 0)) = true → (-1) = res) ∧ ((!(decide ((szL a0.lies (szL a0.sections a1)) < 0))) = true → (okL a0.flanks (szL a0.lies (szL a0.sections a1))) ∧ (((decide ((szL a0.flanks (szL a0.lies (szL a0.sections a1))) < 0)) = true → (-1) = res) ∧ ((!(decide ((szL a0.flanks (szL a0.lies (szL a0.sections a1))) < 0))) = true → (okL a0.over (szL a0.flanks (szL a0.lies (szL a0.sections a1)))) ∧ (laws_szWay_C1 a0 a1 res))))
def laws_szWay_C (a0 : Way) (a1 : Int) (res : Int) : Prop :=
 (okL a0.sections a1) ∧ (((decide ((szL a0.sections a1) < 0)) = true → (-1) = res) ∧ ((!(decide ((szL a0.sections a1) < 0))) = true → (okL a0.lies (szL a0.sections a1)) ∧ (laws_szWay_C2 a0 a1 res)))
theorem laws_szWay_walk (a0 : Way) (a1 : Int) (res : Int) (h : laws_szWay_C a0 a1 res) : FnV Try.prog 125 [.agg (eWay false a0), ai a1] (ai res) := by
 unfold laws_szWay_C at h
 refine FnS.go (fn := Try.f125) [(0, .agg (eWay false a0)), (1, ai a1)] Try.func125 ?_
 show WpS _ (nv laws_szWay_b 1) _ ⟨mkS 36 [(0, .agg (eWay false a0)), (1, ai a1)], [], []⟩
 refine cRN [] 0 [(4, ai 0), (2, ap 2 0)] [0, 1, 1] [0, 1, 1] [(2, (eWay false a0))] [] ?_
 obtain ⟨q42, h⟩ := h
 refine cSeqM [(1, ai (szL a0.sections a1))] [1] (True) ?_ (fun q2 => ?_)
 ·
  replace h := q42
  refine rgS [] 1 ?_
  have q3 := h
  refine sCallV 4 (some 8) [(7, ai a1), (6, al eInt a0.sections), (5, ap 2 0)] [al eInt a0.sections, ai a1] (laws_szIntS_V a0.sections a1 q3) (PW.cons (Snap2.of1 sa_lst) (PW.cons (Snap2.of1 (.int _ _)) PW.nil)) ?_
  exact sEJ [(1, ai (szL a0.sections a1))] trivial
 obtain ⟨q41, h⟩ := h
 refine cSeqM [] [2] ((!(decide ((szL a0.sections a1) < 0))) = true) ?_ (fun q4 => ?_)
 ·
  replace h := q41
  refine cRM [] 2 [(10, ab (decide ((szL a0.sections a1) < 0))), (9, ai (szL a0.sections a1))] [1] [2] ?_
  refine cCond1 (fun q6 => ?_) (fun q6 => ?_)
  ·
   replace h := h q6
   refine cRM [] 3 [(4, ai (-1))] [1] [] ?_
   exact cRet (QJoin.ret (rt1 (ai (-1)) (SnapR3.of1 (sr_int h))))
  ·
   refine cSkip ?_
   exact QJoin.normal (by simp only [q6] <;> rfl) wkJ
 replace h := h q4
 obtain ⟨q40, h⟩ := h
 refine cSeqM [(1, ai (szL a0.lies (szL a0.sections a1)))] [0, 1, 1] (True) ?_ (fun q8 => ?_)
 ·
  replace h := q40
  refine rgS [] 4 ?_
  have q9 := h
  refine sCallV 4 (some 14) [(13, ai (szL a0.sections a1)), (12, al eLie a0.lies), (11, ap 2 1)] [al eLie a0.lies, ai (szL a0.sections a1)] (laws_szLieS_V a0.lies (szL a0.sections a1) q9) (PW.cons (Snap2.of1 sa_lst) (PW.cons (Snap2.of1 (.int _ _)) PW.nil)) ?_
  exact sEJ [(1, ai (szL a0.lies (szL a0.sections a1)))] trivial
 unfold laws_szWay_C2 at h
 obtain ⟨q39, h⟩ := h
 refine cSeqM [] [2] ((!(decide ((szL a0.lies (szL a0.sections a1)) < 0))) = true) ?_ (fun q10 => ?_)
 ·
  replace h := q39
  refine cRM [] 5 [(16, ab (decide ((szL a0.lies (szL a0.sections a1)) < 0))), (15, ai (szL a0.lies (szL a0.sections a1)))] [1] [2] ?_
  refine cCond1 (fun q12 => ?_) (fun q12 => ?_)
  ·
   replace h := h q12
   refine cRM [] 6 [(4, ai (-1))] [1] [] ?_
   exact cRet (QJoin.ret (rt1 (ai (-1)) (SnapR3.of1 (sr_int h))))
  ·
   refine cSkip ?_
   exact QJoin.normal (by simp only [q4, q12] <;> rfl) wkJ
 replace h := h q10
 obtain ⟨q38, h⟩ := h
 refine cSeqM [(1, ai (szL a0.flanks (szL a0.lies (szL a0.sections a1))))] [0, 1, 1] (True) ?_ (fun q14 => ?_)
 ·
  replace h := q38
  refine rgS [] 7 ?_
  have q15 := h
  refine sCallV 4 (some 20) [(19, ai (szL a0.lies (szL a0.sections a1))), (18, al eLie a0.flanks), (17, ap 2 2)] [al eLie a0.flanks, ai (szL a0.lies (szL a0.sections a1))] (laws_szLieS_V a0.flanks (szL a0.lies (szL a0.sections a1)) q15) (PW.cons (Snap2.of1 sa_lst) (PW.cons (Snap2.of1 (.int _ _)) PW.nil)) ?_
  exact sEJ [(1, ai (szL a0.flanks (szL a0.lies (szL a0.sections a1))))] trivial
 obtain ⟨q37, h⟩ := h
 refine cSeqM [] [2] ((!(decide ((szL a0.flanks (szL a0.lies (szL a0.sections a1))) < 0))) = true) ?_ (fun q16 => ?_)
 ·
  replace h := q37
  refine cRM [] 8 [(22, ab (decide ((szL a0.flanks (szL a0.lies (szL a0.sections a1))) < 0))), (21, ai (szL a0.flanks (szL a0.lies (szL a0.sections a1))))] [1] [2] ?_
  refine cCond1 (fun q18 => ?_) (fun q18 => ?_)
  ·
   replace h := h q18
   refine cRM [] 9 [(4, ai (-1))] [1] [] ?_
   exact cRet (QJoin.ret (rt1 (ai (-1)) (SnapR3.of1 (sr_int h))))
  ·
   refine cSkip ?_
   exact QJoin.normal (by simp only [q4, q10, q18] <;> rfl) wkJ
 replace h := h q16
 obtain ⟨q36, h⟩ := h
 refine cSeqM [(1, ai (szL a0.over (szL a0.flanks (szL a0.lies (szL a0.sections a1)))))] [0, 1, 1] (True) ?_ (fun q20 => ?_)
 ·
  replace h := q36
  refine rgS [] 10 ?_
  have q21 := h
  refine sCallV 4 (some 26) [(25, ai (szL a0.flanks (szL a0.lies (szL a0.sections a1)))), (24, al eInt a0.over), (23, ap 2 3)] [al eInt a0.over, ai (szL a0.flanks (szL a0.lies (szL a0.sections a1)))] (laws_szIntS_V a0.over (szL a0.flanks (szL a0.lies (szL a0.sections a1))) q21) (PW.cons (Snap2.of1 sa_lst) (PW.cons (Snap2.of1 (.int _ _)) PW.nil)) ?_
  exact sEJ [(1, ai (szL a0.over (szL a0.flanks (szL a0.lies (szL a0.sections a1)))))] trivial
 unfold laws_szWay_C1 at h
 obtain ⟨q35, h⟩ := h
 refine cSeqM [] [2] ((!(decide ((szL a0.over (szL a0.flanks (szL a0.lies (szL a0.sections a1)))) < 0))) = true) ?_ (fun q22 => ?_)
 ·
  replace h := q35
  refine cRM [] 11 [(28, ab (decide ((szL a0.over (szL a0.flanks (szL a0.lies (szL a0.sections a1)))) < 0))), (27, ai (szL a0.over (szL a0.flanks (szL a0.lies (szL a0.sections a1)))))] [1] [2] ?_
  refine cCond1 (fun q24 => ?_) (fun q24 => ?_)
  ·
   replace h := h q24
   refine cRM [] 12 [(4, ai (-1))] [1] [] ?_
   exact cRet (QJoin.ret (rt1 (ai (-1)) (SnapR3.of1 (sr_int h))))
  ·
   refine cSkip ?_
   exact QJoin.normal (by simp only [q4, q10, q16, q24] <;> rfl) wkJ
 replace h := h q22
 obtain ⟨q34, h⟩ := h
 refine cSeqM [(1, ai (szL a0.near (szL a0.over (szL a0.flanks (szL a0.lies (szL a0.sections a1))))))] [] (True) ?_ (fun q26 => ?_)
 ·
  replace h := q34
  refine rgS [] 13 ?_
  have q27 := h
  refine sCallV 4 (some 32) [(31, ai (szL a0.over (szL a0.flanks (szL a0.lies (szL a0.sections a1))))), (30, al eInt a0.near), (29, ap 2 4)] [al eInt a0.near, ai (szL a0.over (szL a0.flanks (szL a0.lies (szL a0.sections a1))))] (laws_szIntS_V a0.near (szL a0.over (szL a0.flanks (szL a0.lies (szL a0.sections a1)))) q27) (PW.cons (Snap2.of1 sa_lst) (PW.cons (Snap2.of1 (.int _ _)) PW.nil)) ?_
  exact sEJ [(1, ai (szL a0.near (szL a0.over (szL a0.flanks (szL a0.lies (szL a0.sections a1))))))] trivial
 obtain ⟨q33, h⟩ := h
 refine cSeqM [] [1] ((!(decide ((szL a0.near (szL a0.over (szL a0.flanks (szL a0.lies (szL a0.sections a1))))) < 0))) = true) ?_ (fun q28 => ?_)
 ·
  replace h := q33
  refine cRM [] 14 [(34, ab (decide ((szL a0.near (szL a0.over (szL a0.flanks (szL a0.lies (szL a0.sections a1))))) < 0))), (33, ai (szL a0.near (szL a0.over (szL a0.flanks (szL a0.lies (szL a0.sections a1))))))] [1] [1] ?_
  refine cCond1 (fun q30 => ?_) (fun q30 => ?_)
  ·
   replace h := h q30
   refine cRM [] 15 [(4, ai (-1))] [1] [] ?_
   exact cRet (QJoin.ret (rt1 (ai (-1)) (SnapR3.of1 (sr_int h))))
  ·
   refine cSkip ?_
   exact QJoin.normal (by simp only [q4, q10, q16, q22, q30] <;> rfl) wkJ
 replace h := h q28
 refine cRM [] 16 [(4, ai (szL a0.near (szL a0.over (szL a0.flanks (szL a0.lies (szL a0.sections a1)))))), (35, ai (szL a0.near (szL a0.over (szL a0.flanks (szL a0.lies (szL a0.sections a1))))))] [1] [] ?_
 exact cRet (rt1 (ai (szL a0.near (szL a0.over (szL a0.flanks (szL a0.lies (szL a0.sections a1)))))) (SnapR3.of1 (sr_int h)))

theorem laws_szWay_V (a0 : Way) (a1 : Int) (hp : okL a0 a1) : FnV Try.prog 125 [.agg (eWay false a0), ai a1] (ai (szWay a0 a1)) := laws_szWay_walk a0 a1 (szWay a0 a1) (by
 unfold laws_szWay_C laws_szWay_C2 laws_szWay_C1 szWay wayN szL
 have hp : 0 ≤ a1 ∧ a1 ≤ 1048576 := hp
 refine ⟨hp, sz_step (m := a0.lies.length + a0.flanks.length + a0.over.length + a0.near.length) hp (by omega) fun c k => ⟨k, ?_⟩⟩
 rw [lessN_plus hp.1 c]
 refine sz_step (m := a0.flanks.length + a0.over.length + a0.near.length) hp (by omega) fun c k => ⟨k, ?_⟩
 rw [lessN_plus hp.1 c]
 refine sz_step (m := a0.over.length + a0.near.length) hp (by omega) fun c k => ⟨k, ?_⟩
 rw [lessN_plus hp.1 c]
 refine sz_step (m := a0.near.length) hp (by omega) fun c k => ⟨k, ?_⟩
 rw [lessN_plus hp.1 c]
 exact sz_step (m := 0) hp (by omega) fun c k => rfl)

noncomputable def laws_szWayS_b : Code := bodyC Try.f65
def laws_szWayS_C1 (I0 : Int → Int → Prop) (m0 : Int → Int → Nat) (a0 : (List Way)) (a1 res : Int) : Prop :=
  I0 (IntKind.i64.wrap (a1 - (a0.length : Int))) 0 ∧ ∀ (v1 : Int) (v5 : Int), I0 v1 v5 → (((decide (v5 < (a0.length : Int))) = false → v1 = res) ∧ ((decide (v5 < (a0.length : Int))) = true → (((0 ≤ v5 ∧ v5.toNat < a0.length) ∧ (okL (nth a0 v5) v1)) ∧ ((decide ((szWay (nth a0 v5) v1) < 0)) = true → (-1) = res)) ∧ ((!(decide ((szWay (nth a0 v5) v1) < 0))) = true → I0 (szWay (nth a0 v5) v1) (IntKind.i64.wrap (v5 + 1)) ∧ m0 (szWay (nth a0 v5) v1) (IntKind.i64.wrap (v5 + 1)) < m0 v1 v5)))
def laws_szWayS_C (a0 : (List Way)) (a1 : Int) (res : Int) (I0 : Int → Int → Prop) (m0 : Int → Int → Nat) : Prop :=
 a0.length ≤ 4611686018427387904 → ((decide ((IntKind.i64.wrap (a1 - (a0.length : Int))) < 0)) = true → (-1) = res) ∧ ((!(decide ((IntKind.i64.wrap (a1 - (a0.length : Int))) < 0))) = true → laws_szWayS_C1 I0 m0 a0 a1 res)
theorem laws_szWayS_walk (a0 : (List Way)) (a1 : Int) (res : Int) (I0 : Int → Int → Prop) (m0 : Int → Int → Nat) (h : laws_szWayS_C a0 a1 res I0 m0) : FnV Try.prog 65 [al (eWay false) a0, ai a1] (ai res) := by
 unfold laws_szWayS_C at h
 refine FnS.go (fn := Try.f65) [(0, al (eWay false) a0), (1, ai a1)] Try.func65 ?_
 show WpS _ (nv laws_szWayS_b 1) _ ⟨mkS 27 [(0, al (eWay false) a0), (1, ai a1)], [], []⟩
 refine cRM [] 0 [(4, ai 0)] [] [2] ?_
 refine cSeqM [(1, ai (IntKind.i64.wrap (a1 - (a0.length : Int))))] [1] (a0.length ≤ 4611686018427387904) ?_ (fun q2 => ?_)
 ·
  refine rgS [] 1 ?_
  refine sLen 3 (some 8) [(7, al (eWay false) a0), (6, ai a1)] (eWay false) a0 (fun q3 => ?_)
  exact sEJ [(1, ai (IntKind.i64.wrap (a1 - (a0.length : Int)))), (9, ai (IntKind.i64.wrap (a1 - (a0.length : Int))))] q3
 replace h := h q2
 obtain ⟨q25, h⟩ := h
 refine cSeqM [] [2] ((!(decide ((IntKind.i64.wrap (a1 - (a0.length : Int))) < 0))) = true) ?_ (fun q4 => ?_)
 ·
  replace h := q25
  refine cRM [] 2 [(11, ab (decide ((IntKind.i64.wrap (a1 - (a0.length : Int))) < 0))), (10, ai (IntKind.i64.wrap (a1 - (a0.length : Int))))] [1] [2] ?_
  refine cCond1 (fun q6 => ?_) (fun q6 => ?_)
  ·
   replace h := h q6
   refine cRM [] 3 [(4, ai (-1))] [1] [] ?_
   exact cRet (QJoin.ret (rt1 (ai (-1)) (SnapR3.of1 (sr_int h))))
  ·
   refine cSkip ?_
   exact QJoin.normal (by simp only [q6] <;> rfl) wkJ
 replace h := h q4
 refine cSeq ?_
 refine cRM [] 4 [(5, ai 0)] [1] [2] ?_
 unfold laws_szWayS_C1 at h
 refine cBlock 0 ?_
 obtain ⟨q24, h⟩ := h
 refine cLoop (fun (v : Int × Int) => (⟨(mkS 27 [(0, al (eWay false) a0), (1, ai (v.1)), (5, ai (v.2))]), [], []⟩ : St)) (fun (v : Int × Int) => I0 (v.1) (v.2)) (fun (v : Int × Int) => m0 (v.1) (v.2)) ((IntKind.i64.wrap (a1 - (a0.length : Int))), 0) (wkL []) q24 (fun v hI => ?_)
 obtain ⟨v1, v5⟩ := v
 replace h := h v1 v5 hI
 dsimp only
 obtain ⟨q23, h⟩ := h
 refine cSeqM [] [3] ((decide (v5 < (a0.length : Int))) = true) ?_ (fun q9 => ?_)
 ·
  replace h := q23
  refine cSeqM [(15, ab (decide (v5 < (a0.length : Int))))] [3] (True) ?_ (fun q10 => ?_)
  ·
   refine rgS [] 5 ?_
   refine sLen 3 (some 14) [(13, al (eWay false) a0), (12, ai v5)] (eWay false) a0 (fun q11 => ?_)
   exact sEJ [(15, ab (decide (v5 < (a0.length : Int))))] trivial
  refine cCond1 (fun q12 => ?_) (fun q12 => ?_)
  ·
   refine cSkip ?_
   exact QJoin.normal (by simp only [q4, q12] <;> rfl) wkJ
  ·
   replace h := h q12
   refine cExit 0 ?_
   refine QJoin.exit ?_
   refine QRound.exit ?_
   refine QBlock.here ?_
   refine QSeq.normal ?_
   refine cSeqG ⟨(mkS 27 [(4, ai v1)]), [], []⟩ (True) ?_ (fun q13 => ?_)
   ·
    refine rgS [] 10 ?_
    exact sEJ [(4, ai v1), (26, ai v1)] trivial
   exact cRet (rt1 (ai v1) (SnapR3.of1 (sr_int h)))
 replace h := h q9
 obtain ⟨q22, h⟩ := h
 refine cSeqM [(1, ai (szWay (nth a0 v5) v1))] [1, 1, 1] ((!(decide ((szWay (nth a0 v5) v1) < 0))) = true) ?_ (fun q14 => ?_)
 ·
  replace h := q22
  refine cBlock 1 ?_
  obtain ⟨q21, h⟩ := h
  refine cSeqM [(1, ai (szWay (nth a0 v5) v1))] [1, 1, 1] (True) ?_ (fun q15 => ?_)
  ·
   replace h := q21
   refine rgS [] 7 ?_
   obtain ⟨q17, h⟩ := h
   refine sIdx 3 (some 20) [(19, ai v5), (18, al (eWay false) a0)] (eWay false) a0 5 q17 ?_
   have q16 := h
   refine sCallV 3 (some 23) [(22, ai v1), (21, .agg (eWay false (nth a0 v5)))] [.agg (eWay false (nth a0 v5)), ai v1] (laws_szWay_V (nth a0 v5) v1 q16) (PW.cons (Snap2.agg (PW.cons sa_lst (PW.cons sa_lst (PW.cons sa_lst (PW.cons sa_lst (PW.cons sa_lst PW.nil)))))) (PW.cons (Snap2.of1 (.int _ _)) PW.nil)) ?_
   exact sEJ [(1, ai (szWay (nth a0 v5) v1))] trivial
  refine cRM [] 8 [(25, ab (decide ((szWay (nth a0 v5) v1) < 0))), (24, ai (szWay (nth a0 v5) v1))] [1] [3] ?_
  refine cCond1 (fun q19 => ?_) (fun q19 => ?_)
  ·
   replace h := h q19
   refine cRM [] 9 [(4, ai (-1))] [1] [] ?_
   exact cRet (QBlock.ret (QJoin.ret (QRound.ret (QBlock.ret (QSeq.ret (rt1 (ai (-1)) (SnapR3.of1 (sr_int h))))))))
  ·
   refine cSkip ?_
   refine QBlock.normal ?_
   exact QJoin.normal (by simp only [q4, q9, q19] <;> rfl) wkJ
 replace h := h q14
 refine rgS [] 6 ?_
 refine sEnd [(5, ai (IntKind.i64.wrap (v5 + 1))), (17, ai (IntKind.i64.wrap (v5 + 1))), (16, ai v5)] ?_
 exact QRound.again ((szWay (nth a0 v5) v1), (IntKind.i64.wrap (v5 + 1))) h (wkL [])

theorem laws_szWayS_V (a0 : (List Way)) (a1 : Int) (hp : okL a0 a1) : FnV Try.prog 65 [al (eWay false) a0, ai a1] (ai (szWays a0 a1)) := laws_szWayS_walk a0 a1 (szWays a0 a1) (sumI a0 wayN a1) (sumM a0) (by
 unfold laws_szWayS_C laws_szWayS_C1
 exact fun hn => sum_loop (g := szWay) (fun _ _ => rfl) hp hn)

noncomputable def laws_szBoolS_b : Code := bodyC Try.f94
def laws_szBoolS_C (a0 : (List Bool)) (a1 : Int) (res : Int) : Prop :=
 a0.length ≤ 4611686018427387904 → ((decide ((IntKind.i64.wrap (a1 - (a0.length : Int))) < 0)) = true → (-1) = res) ∧ ((!(decide ((IntKind.i64.wrap (a1 - (a0.length : Int))) < 0))) = true → (IntKind.i64.wrap (a1 - (a0.length : Int))) = res)
theorem laws_szBoolS_walk (a0 : (List Bool)) (a1 : Int) (res : Int) (h : laws_szBoolS_C a0 a1 res) : FnV Try.prog 94 [al eBool a0, ai a1] (ai res) := by
 unfold laws_szBoolS_C at h
 refine FnS.go (fn := Try.f94) [(0, al eBool a0), (1, ai a1)] Try.func94 ?_
 show WpS _ (nv laws_szBoolS_b 1) _ ⟨mkS 12 [(0, al eBool a0), (1, ai a1)], [], []⟩
 refine cRM [] 0 [(4, ai 0)] [] [2] ?_
 refine cSeqM [(1, ai (IntKind.i64.wrap (a1 - (a0.length : Int))))] [] (a0.length ≤ 4611686018427387904) ?_ (fun q2 => ?_)
 ·
  refine rgS [] 1 ?_
  refine sLen 3 (some 7) [(6, al eBool a0), (5, ai a1)] eBool a0 (fun q3 => ?_)
  exact sEJ [(1, ai (IntKind.i64.wrap (a1 - (a0.length : Int)))), (8, ai (IntKind.i64.wrap (a1 - (a0.length : Int))))] q3
 replace h := h q2
 obtain ⟨q9, h⟩ := h
 refine cSeqM [] [1] ((!(decide ((IntKind.i64.wrap (a1 - (a0.length : Int))) < 0))) = true) ?_ (fun q4 => ?_)
 ·
  replace h := q9
  refine cRM [] 2 [(10, ab (decide ((IntKind.i64.wrap (a1 - (a0.length : Int))) < 0))), (9, ai (IntKind.i64.wrap (a1 - (a0.length : Int))))] [1] [1] ?_
  refine cCond1 (fun q6 => ?_) (fun q6 => ?_)
  ·
   replace h := h q6
   refine cRM [] 3 [(4, ai (-1))] [1] [] ?_
   exact cRet (QJoin.ret (rt1 (ai (-1)) (SnapR3.of1 (sr_int h))))
  ·
   refine cSkip ?_
   exact QJoin.normal (by simp only [q6] <;> rfl) wkJ
 replace h := h q4
 refine cRM [] 4 [(4, ai (IntKind.i64.wrap (a1 - (a0.length : Int)))), (11, ai (IntKind.i64.wrap (a1 - (a0.length : Int))))] [1] [] ?_
 exact cRet (rt1 (ai (IntKind.i64.wrap (a1 - (a0.length : Int)))) (SnapR3.of1 (sr_int h)))

theorem laws_szBoolS_V (a0 : (List Bool)) (a1 : Int) (hp : okL a0 a1) : FnV Try.prog 94 [al eBool a0, ai a1] (ai (szL a0 a1)) := laws_szBoolS_walk a0 a1 (szL a0 a1) (by
 unfold laws_szBoolS_C
 exact fun hn => sz_len hp hn)

noncomputable def laws_szBoolSS_b : Code := bodyC Try.f66
def laws_szBoolSS_C1 (I0 : Int → Int → Prop) (m0 : Int → Int → Nat) (a0 : (List (List Bool))) (a1 res : Int) : Prop :=
  I0 (IntKind.i64.wrap (a1 - (a0.length : Int))) 0 ∧ ∀ (v1 : Int) (v5 : Int), I0 v1 v5 → (((decide (v5 < (a0.length : Int))) = false → v1 = res) ∧ ((decide (v5 < (a0.length : Int))) = true → (((0 ≤ v5 ∧ v5.toNat < a0.length) ∧ (okL (nth a0 v5) v1)) ∧ ((decide ((szL (nth a0 v5) v1) < 0)) = true → (-1) = res)) ∧ ((!(decide ((szL (nth a0 v5) v1) < 0))) = true → I0 (szL (nth a0 v5) v1) (IntKind.i64.wrap (v5 + 1)) ∧ m0 (szL (nth a0 v5) v1) (IntKind.i64.wrap (v5 + 1)) < m0 v1 v5)))
def laws_szBoolSS_C (a0 : (List (List Bool))) (a1 : Int) (res : Int) (I0 : Int → Int → Prop) (m0 : Int → Int → Nat) : Prop :=
 a0.length ≤ 4611686018427387904 → ((decide ((IntKind.i64.wrap (a1 - (a0.length : Int))) < 0)) = true → (-1) = res) ∧ ((!(decide ((IntKind.i64.wrap (a1 - (a0.length : Int))) < 0))) = true → laws_szBoolSS_C1 I0 m0 a0 a1 res)
theorem laws_szBoolSS_walk (a0 : (List (List Bool))) (a1 : Int) (res : Int) (I0 : Int → Int → Prop) (m0 : Int → Int → Nat) (h : laws_szBoolSS_C a0 a1 res I0 m0) : FnV Try.prog 66 [al (eL eBool false) a0, ai a1] (ai res) := by
 unfold laws_szBoolSS_C at h
 refine FnS.go (fn := Try.f66) [(0, al (eL eBool false) a0), (1, ai a1)] Try.func66 ?_
 show WpS _ (nv laws_szBoolSS_b 1) _ ⟨mkS 27 [(0, al (eL eBool false) a0), (1, ai a1)], [], []⟩
 refine cRM [] 0 [(4, ai 0)] [] [2] ?_
 refine cSeqM [(1, ai (IntKind.i64.wrap (a1 - (a0.length : Int))))] [1] (a0.length ≤ 4611686018427387904) ?_ (fun q2 => ?_)
 ·
  refine rgS [] 1 ?_
  refine sLen 3 (some 8) [(7, al (eL eBool false) a0), (6, ai a1)] (eL eBool false) a0 (fun q3 => ?_)
  exact sEJ [(1, ai (IntKind.i64.wrap (a1 - (a0.length : Int)))), (9, ai (IntKind.i64.wrap (a1 - (a0.length : Int))))] q3
 replace h := h q2
 obtain ⟨q25, h⟩ := h
 refine cSeqM [] [2] ((!(decide ((IntKind.i64.wrap (a1 - (a0.length : Int))) < 0))) = true) ?_ (fun q4 => ?_)
 ·
  replace h := q25
  refine cRM [] 2 [(11, ab (decide ((IntKind.i64.wrap (a1 - (a0.length : Int))) < 0))), (10, ai (IntKind.i64.wrap (a1 - (a0.length : Int))))] [1] [2] ?_
  refine cCond1 (fun q6 => ?_) (fun q6 => ?_)
  ·
   replace h := h q6
   refine cRM [] 3 [(4, ai (-1))] [1] [] ?_
   exact cRet (QJoin.ret (rt1 (ai (-1)) (SnapR3.of1 (sr_int h))))
  ·
   refine cSkip ?_
   exact QJoin.normal (by simp only [q6] <;> rfl) wkJ
 replace h := h q4
 refine cSeq ?_
 refine cRM [] 4 [(5, ai 0)] [1] [2] ?_
 unfold laws_szBoolSS_C1 at h
 refine cBlock 0 ?_
 obtain ⟨q24, h⟩ := h
 refine cLoop (fun (v : Int × Int) => (⟨(mkS 27 [(0, al (eL eBool false) a0), (1, ai (v.1)), (5, ai (v.2))]), [], []⟩ : St)) (fun (v : Int × Int) => I0 (v.1) (v.2)) (fun (v : Int × Int) => m0 (v.1) (v.2)) ((IntKind.i64.wrap (a1 - (a0.length : Int))), 0) (wkL []) q24 (fun v hI => ?_)
 obtain ⟨v1, v5⟩ := v
 replace h := h v1 v5 hI
 dsimp only
 obtain ⟨q23, h⟩ := h
 refine cSeqM [] [3] ((decide (v5 < (a0.length : Int))) = true) ?_ (fun q9 => ?_)
 ·
  replace h := q23
  refine cSeqM [(15, ab (decide (v5 < (a0.length : Int))))] [3] (True) ?_ (fun q10 => ?_)
  ·
   refine rgS [] 5 ?_
   refine sLen 3 (some 14) [(13, al (eL eBool false) a0), (12, ai v5)] (eL eBool false) a0 (fun q11 => ?_)
   exact sEJ [(15, ab (decide (v5 < (a0.length : Int))))] trivial
  refine cCond1 (fun q12 => ?_) (fun q12 => ?_)
  ·
   refine cSkip ?_
   exact QJoin.normal (by simp only [q4, q12] <;> rfl) wkJ
  ·
   replace h := h q12
   refine cExit 0 ?_
   refine QJoin.exit ?_
   refine QRound.exit ?_
   refine QBlock.here ?_
   refine QSeq.normal ?_
   refine cSeqG ⟨(mkS 27 [(4, ai v1)]), [], []⟩ (True) ?_ (fun q13 => ?_)
   ·
    refine rgS [] 10 ?_
    exact sEJ [(4, ai v1), (26, ai v1)] trivial
   exact cRet (rt1 (ai v1) (SnapR3.of1 (sr_int h)))
 replace h := h q9
 obtain ⟨q22, h⟩ := h
 refine cSeqM [(1, ai (szL (nth a0 v5) v1))] [1, 1, 1] ((!(decide ((szL (nth a0 v5) v1) < 0))) = true) ?_ (fun q14 => ?_)
 ·
  replace h := q22
  refine cBlock 1 ?_
  obtain ⟨q21, h⟩ := h
  refine cSeqM [(1, ai (szL (nth a0 v5) v1))] [1, 1, 1] (True) ?_ (fun q15 => ?_)
  ·
   replace h := q21
   refine rgS [] 7 ?_
   obtain ⟨q17, h⟩ := h
   refine sIdx 3 (some 20) [(19, ai v5), (18, al (eL eBool false) a0)] (eL eBool false) a0 1 q17 ?_
   have q16 := h
   refine sCallV 3 (some 23) [(22, ai v1), (21, al eBool (nth a0 v5))] [al eBool (nth a0 v5), ai v1] (laws_szBoolS_V (nth a0 v5) v1 q16) (PW.cons (Snap2.of1 sa_lst) (PW.cons (Snap2.of1 (.int _ _)) PW.nil)) ?_
   exact sEJ [(1, ai (szL (nth a0 v5) v1))] trivial
  refine cRM [] 8 [(25, ab (decide ((szL (nth a0 v5) v1) < 0))), (24, ai (szL (nth a0 v5) v1))] [1] [3] ?_
  refine cCond1 (fun q19 => ?_) (fun q19 => ?_)
  ·
   replace h := h q19
   refine cRM [] 9 [(4, ai (-1))] [1] [] ?_
   exact cRet (QBlock.ret (QJoin.ret (QRound.ret (QBlock.ret (QSeq.ret (rt1 (ai (-1)) (SnapR3.of1 (sr_int h))))))))
  ·
   refine cSkip ?_
   refine QBlock.normal ?_
   exact QJoin.normal (by simp only [q4, q9, q19] <;> rfl) wkJ
 replace h := h q14
 refine rgS [] 6 ?_
 refine sEnd [(5, ai (IntKind.i64.wrap (v5 + 1))), (17, ai (IntKind.i64.wrap (v5 + 1))), (16, ai v5)] ?_
 exact QRound.again ((szL (nth a0 v5) v1), (IntKind.i64.wrap (v5 + 1))) h (wkL [])

theorem laws_szBoolSS_V (a0 : (List (List Bool))) (a1 : Int) (hp : okL a0 a1) : FnV Try.prog 66 [al (eL eBool false) a0, ai a1] (ai (szBars a0 a1)) := laws_szBoolSS_walk a0 a1 (szBars a0 a1) (sumI a0 List.length a1) (sumM a0) (by
 unfold laws_szBoolSS_C laws_szBoolSS_C1
 exact fun hn => sum_loop (g := szL) (fun _ _ => rfl) hp hn)

noncomputable def laws_szPlan_b : Code := bodyC Try.f23
def laws_szPlan_C1 (a0 : Plan) (a1 res : Int) : Prop :=
  ((decide ((szWays a0.ways (szL a0.switches a1)) < 0)) = true → (-1) = res) ∧ ((!(decide ((szWays a0.ways (szL a0.switches a1)) < 0))) = true → (okL a0.bars (szWays a0.ways (szL a0.switches a1))) ∧ (((decide ((szBars a0.bars (szWays a0.ways (szL a0.switches a1))) < 0)) = true → (-1) = res) ∧ ((!(decide ((szBars a0.bars (szWays a0.ways (szL a0.switches a1))) < 0))) = true → (szBars a0.bars (szWays a0.ways (szL a0.switches a1))) = res)))
def laws_szPlan_C (a0 : Plan) (a1 : Int) (res : Int) : Prop :=
 (okL a0.switches a1) ∧ (((decide ((szL a0.switches a1) < 0)) = true → (-1) = res) ∧ ((!(decide ((szL a0.switches a1) < 0))) = true → (okL a0.ways (szL a0.switches a1)) ∧ (laws_szPlan_C1 a0 a1 res)))
theorem laws_szPlan_walk (a0 : Plan) (a1 : Int) (res : Int) (h : laws_szPlan_C a0 a1 res) : FnV Try.prog 23 [.agg (ePlan false a0), ai a1] (ai res) := by
 unfold laws_szPlan_C at h
 refine FnS.go (fn := Try.f23) [(0, .agg (ePlan false a0)), (1, ai a1)] Try.func23 ?_
 show WpS _ (nv laws_szPlan_b 1) _ ⟨mkS 24 [(0, .agg (ePlan false a0)), (1, ai a1)], [], []⟩
 refine cRN [] 0 [(4, ai 0), (2, ap 2 0)] [0, 1, 1] [0, 1, 1] [(2, (ePlan false a0))] [] ?_
 obtain ⟨q26, h⟩ := h
 refine cSeqM [(1, ai (szL a0.switches a1))] [1] (True) ?_ (fun q2 => ?_)
 ·
  replace h := q26
  refine rgS [] 1 ?_
  have q3 := h
  refine sCallV 4 (some 8) [(7, ai a1), (6, al eInt a0.switches), (5, ap 2 1)] [al eInt a0.switches, ai a1] (laws_szIntS_V a0.switches a1 q3) (PW.cons (Snap2.of1 sa_lst) (PW.cons (Snap2.of1 (.int _ _)) PW.nil)) ?_
  exact sEJ [(1, ai (szL a0.switches a1))] trivial
 obtain ⟨q25, h⟩ := h
 refine cSeqM [] [2] ((!(decide ((szL a0.switches a1) < 0))) = true) ?_ (fun q4 => ?_)
 ·
  replace h := q25
  refine cRM [] 2 [(10, ab (decide ((szL a0.switches a1) < 0))), (9, ai (szL a0.switches a1))] [1] [2] ?_
  refine cCond1 (fun q6 => ?_) (fun q6 => ?_)
  ·
   replace h := h q6
   refine cRM [] 3 [(4, ai (-1))] [1] [] ?_
   exact cRet (QJoin.ret (rt1 (ai (-1)) (SnapR3.of1 (sr_int h))))
  ·
   refine cSkip ?_
   exact QJoin.normal (by simp only [q6] <;> rfl) wkJ
 replace h := h q4
 obtain ⟨q24, h⟩ := h
 refine cSeqM [(1, ai (szWays a0.ways (szL a0.switches a1)))] [0, 1, 1] (True) ?_ (fun q8 => ?_)
 ·
  replace h := q24
  refine rgS [] 4 ?_
  have q9 := h
  refine sCallV 4 (some 14) [(13, ai (szL a0.switches a1)), (12, al (eWay false) a0.ways), (11, ap 2 2)] [al (eWay false) a0.ways, ai (szL a0.switches a1)] (laws_szWayS_V a0.ways (szL a0.switches a1) q9) (PW.cons (Snap2.of1 sa_lst) (PW.cons (Snap2.of1 (.int _ _)) PW.nil)) ?_
  exact sEJ [(1, ai (szWays a0.ways (szL a0.switches a1)))] trivial
 unfold laws_szPlan_C1 at h
 obtain ⟨q23, h⟩ := h
 refine cSeqM [] [2] ((!(decide ((szWays a0.ways (szL a0.switches a1)) < 0))) = true) ?_ (fun q10 => ?_)
 ·
  replace h := q23
  refine cRM [] 5 [(16, ab (decide ((szWays a0.ways (szL a0.switches a1)) < 0))), (15, ai (szWays a0.ways (szL a0.switches a1)))] [1] [2] ?_
  refine cCond1 (fun q12 => ?_) (fun q12 => ?_)
  ·
   replace h := h q12
   refine cRM [] 6 [(4, ai (-1))] [1] [] ?_
   exact cRet (QJoin.ret (rt1 (ai (-1)) (SnapR3.of1 (sr_int h))))
  ·
   refine cSkip ?_
   exact QJoin.normal (by simp only [q4, q12] <;> rfl) wkJ
 replace h := h q10
 obtain ⟨q22, h⟩ := h
 refine cSeqM [(1, ai (szBars a0.bars (szWays a0.ways (szL a0.switches a1))))] [] (True) ?_ (fun q14 => ?_)
 ·
  replace h := q22
  refine rgS [] 7 ?_
  have q15 := h
  refine sCallV 4 (some 20) [(19, ai (szWays a0.ways (szL a0.switches a1))), (18, al (eL eBool false) a0.bars), (17, ap 2 3)] [al (eL eBool false) a0.bars, ai (szWays a0.ways (szL a0.switches a1))] (laws_szBoolSS_V a0.bars (szWays a0.ways (szL a0.switches a1)) q15) (PW.cons (Snap2.of1 sa_lst) (PW.cons (Snap2.of1 (.int _ _)) PW.nil)) ?_
  exact sEJ [(1, ai (szBars a0.bars (szWays a0.ways (szL a0.switches a1))))] trivial
 obtain ⟨q21, h⟩ := h
 refine cSeqM [] [1] ((!(decide ((szBars a0.bars (szWays a0.ways (szL a0.switches a1))) < 0))) = true) ?_ (fun q16 => ?_)
 ·
  replace h := q21
  refine cRM [] 8 [(22, ab (decide ((szBars a0.bars (szWays a0.ways (szL a0.switches a1))) < 0))), (21, ai (szBars a0.bars (szWays a0.ways (szL a0.switches a1))))] [1] [1] ?_
  refine cCond1 (fun q18 => ?_) (fun q18 => ?_)
  ·
   replace h := h q18
   refine cRM [] 9 [(4, ai (-1))] [1] [] ?_
   exact cRet (QJoin.ret (rt1 (ai (-1)) (SnapR3.of1 (sr_int h))))
  ·
   refine cSkip ?_
   exact QJoin.normal (by simp only [q4, q10, q18] <;> rfl) wkJ
 replace h := h q16
 refine cRM [] 10 [(4, ai (szBars a0.bars (szWays a0.ways (szL a0.switches a1)))), (23, ai (szBars a0.bars (szWays a0.ways (szL a0.switches a1))))] [1] [] ?_
 exact cRet (rt1 (ai (szBars a0.bars (szWays a0.ways (szL a0.switches a1)))) (SnapR3.of1 (sr_int h)))

theorem laws_szPlan_V (a0 : Plan) (a1 : Int) (hp : okL a0 a1) : FnV Try.prog 23 [.agg (ePlan false a0), ai a1] (ai (szPlan a0 a1)) := laws_szPlan_walk a0 a1 (szPlan a0 a1) (by
 unfold laws_szPlan_C laws_szPlan_C1 szPlan planN szL szWays szBars
 have hp : 0 ≤ a1 ∧ a1 ≤ 1048576 := hp
 refine ⟨hp, sz_step (m := waysN a0.ways + barsN a0.bars) hp (by omega) fun c k => ⟨k, ?_⟩⟩
 rw [lessN_plus hp.1 c]
 refine sz_step (m := barsN a0.bars) hp (by omega) fun c k => ⟨k, ?_⟩
 rw [lessN_plus hp.1 c]
 exact sz_step (m := 0) hp (by omega) fun c k => rfl)

noncomputable def spec_l1in_b : Code := bodyC Try.f67
def spec_l1in_C (a0 : Int) (a1 : Int) (a2 : Int) (res : Bool) : Prop :=
 ((decide (a0 ≥ a1)) && (decide (a0 ≤ a2))) = res
theorem spec_l1in_walk (a0 : Int) (a1 : Int) (a2 : Int) (res : Bool) (h : spec_l1in_C a0 a1 a2 res) : FnV Try.prog 67 [ai a0, ai a1, ai a2] (ab res) := by
 unfold spec_l1in_C at h
 refine FnS.go (fn := Try.f67) [(0, ai a0), (1, ai a1), (2, ai a2)] Try.func67 ?_
 show WpS _ (nv spec_l1in_b 1) _ ⟨mkS 15 [(0, ai a0), (1, ai a1), (2, ai a2)], [], []⟩
 refine cRM [] 0 [(6, ab false)] [] [3] ?_
 refine cSeqM [(6, ab ((decide (a0 ≥ a1)) && (decide (a0 ≤ a2))))] [] (True) ?_ (fun q2 => ?_)
 ·
  refine rgS [] 1 ?_
  refine sCase1 4 10 (decide (a0 ≥ a1)) [(9, ab (decide (a0 ≥ a1))), (8, ai a1), (7, ai a0)] (fun q3 => ?_) (fun q3 => ?_)
  ·
   exact sEJ [(6, ab (decide (a0 ≤ a2))), (14, ab (decide (a0 ≤ a2))), (13, ab (decide (a0 ≤ a2))), (12, ai a2), (11, ai a0)] trivial (by simp only [q3] <;> kernel_rfl)
  ·
   exact sEJ ([(6, ab false), (14, ab false)] ++ tz [13, 12, 11]) trivial (by simp only [q3] <;> kernel_rfl)
 exact cRet (rt1 (ab ((decide (a0 ≥ a1)) && (decide (a0 ≤ a2)))) (SnapR3.of1 (sr_bool h)))

theorem spec_l1in_V (a0 : Int) (a1 : Int) (a2 : Int) : FnV Try.prog 67 [ai a0, ai a1, ai a2] (ab (inR a0 a1 a2)) := spec_l1in_walk a0 a1 a2 (inR a0 a1 a2) (by
 rfl)

noncomputable def spec_l1meet_b : Code := bodyC Try.f69
def spec_l1meet_C1 (I0 : Int → Prop) (m0 : Int → Nat) (I1 : Int → Int → Prop) (m1 : Int → Int → Nat) (a0 a1 : (List Int)) (res : Bool) (v11 : Int) : Prop :=
  I1 v11 0 ∧ ∀ (v17 : Int), I1 v11 v17 → (((decide (v17 < (a1.length : Int))) = false → I0 (IntKind.i64.wrap (v11 + 1)) ∧ m0 (IntKind.i64.wrap (v11 + 1)) < m0 v11) ∧ ((decide (v17 < (a1.length : Int))) = true → ((0 ≤ v17 ∧ v17.toNat < a1.length) ∧ (((nth a0 v11) == (nth a1 v17)) = true → true = res)) ∧ ((!((nth a0 v11) == (nth a1 v17))) = true → I1 v11 (IntKind.i64.wrap (v17 + 1)) ∧ m1 v11 (IntKind.i64.wrap (v17 + 1)) < m1 v11 v17)))
def spec_l1meet_C (a0 : (List Int)) (a1 : (List Int)) (res : Bool) (I0 : Int → Prop) (m0 : Int → Nat) (I1 : Int → Int → Prop) (m1 : Int → Int → Nat) : Prop :=
 a0.length ≤ 4611686018427387904 → I0 0 ∧ ∀ (v11 : Int), I0 v11 → (((decide (v11 < (a0.length : Int))) = false → false = res) ∧ ((decide (v11 < (a0.length : Int))) = true → (0 ≤ v11 ∧ v11.toNat < a0.length) ∧ (a1.length ≤ 4611686018427387904 → spec_l1meet_C1 I0 m0 I1 m1 a0 a1 res v11)))
theorem spec_l1meet_walk (a0 : (List Int)) (a1 : (List Int)) (res : Bool) (I0 : Int → Prop) (m0 : Int → Nat) (I1 : Int → Int → Prop) (m1 : Int → Int → Nat) (h : spec_l1meet_C a0 a1 res I0 m0 I1 m1) : FnV Try.prog 69 [al eInt a0, al eInt a1] (ab res) := by
 unfold spec_l1meet_C at h
 refine FnS.go (fn := Try.f69) [(0, al eInt a0), (1, al eInt a1)] Try.func69 ?_
 show WpS _ (nv spec_l1meet_b 1) _ ⟨mkS 26 [(0, al eInt a0), (1, al eInt a1)], [], []⟩
 refine cRM [] 0 [(4, ab false)] [] [2] ?_
 refine cSeq ?_
 refine cSeqM [(9, al eInt a0), (10, ai (a0.length : Int)), (11, ai 0)] [0, 1, 1] (a0.length ≤ 4611686018427387904) ?_ (fun q2 => ?_)
 ·
  refine rgS [] 1 ?_
  refine sLen 2 (some 10) [(9, al eInt a0)] eInt a0 (fun q3 => ?_)
  exact sEJ [(11, ai 0)] q3
 replace h := h q2
 refine cBlock 0 ?_
 obtain ⟨q27, h⟩ := h
 refine cLoop (fun (v : Int) => (⟨(mkS 26 [(1, al eInt a1), (9, al eInt a0), (10, ai (a0.length : Int)), (11, ai v)]), [], []⟩ : St)) (fun (v : Int) => I0 v) (fun (v : Int) => m0 v) 0 (wkL []) q27 (fun v11 hI => ?_)
 replace h := h v11 hI
 refine cRM [] 2 [(12, ab (decide (v11 < (a0.length : Int))))] [1] [4] ?_
 obtain ⟨q26, h⟩ := h
 refine cSeqM [] [0, 1, 4] ((decide (v11 < (a0.length : Int))) = true) ?_ (fun q5 => ?_)
 ·
  replace h := q26
  refine cCond1 (fun q6 => ?_) (fun q6 => ?_)
  ·
   refine cSkip ?_
   exact QJoin.normal (by simp only [q6] <;> rfl) wkJ
  ·
   replace h := h q6
   refine cExit 0 ?_
   refine QJoin.exit ?_
   refine QRound.exit ?_
   refine QBlock.here ?_
   refine QSeq.normal ?_
   refine cSeqG ⟨(mkS 26 [(4, ab false)]), [], []⟩ (True) ?_ (fun q7 => ?_)
   ·
    refine rgS [] 11 ?_
    exact sEJ [(4, ab false)] trivial
   exact cRet (rt1 (ab false) (SnapR3.of1 (sr_bool h)))
 replace h := h q5
 refine cSeq ?_
 refine cBlock 1 ?_
 obtain ⟨q25, h⟩ := h
 refine cSeqM [(6, ai (nth a0 v11))] [4] (True) ?_ (fun q8 => ?_)
 ·
  replace h := q25
  refine rgS [] 3 ?_
  have q9 := h
  refine sIdx 1 (some 13) [] eInt a0 1 q9 ?_
  exact sEJ [(6, ai (nth a0 v11)), (14, ai (nth a0 v11))] trivial
 refine cSeqM [(15, al eInt a1), (16, ai (a1.length : Int)), (17, ai 0)] [5] (a1.length ≤ 4611686018427387904) ?_ (fun q10 => ?_)
 ·
  refine rgS [] 4 ?_
  refine sLen 2 (some 16) [(15, al eInt a1)] eInt a1 (fun q11 => ?_)
  exact sEJ [(17, ai 0)] q11
 replace h := h q10
 unfold spec_l1meet_C1 at h
 refine cBlock 2 ?_
 obtain ⟨q24, h⟩ := h
 refine cLoop (fun (v : Int) => (⟨(mkS 26 [(1, al eInt a1), (6, ai (nth a0 v11)), (9, al eInt a0), (10, ai (a0.length : Int)), (11, ai v11), (15, al eInt a1), (16, ai (a1.length : Int)), (17, ai v)]), [], []⟩ : St)) (fun (v : Int) => I1 v11 v) (fun (v : Int) => m1 v11 v) 0 (wkL []) q24 (fun v17 hI => ?_)
 replace h := h v17 hI
 refine cRM [] 5 [(18, ab (decide (v17 < (a1.length : Int))))] [1] [8] ?_
 obtain ⟨q23, h⟩ := h
 refine cSeqM [] [0, 1, 8] ((decide (v17 < (a1.length : Int))) = true) ?_ (fun q13 => ?_)
 ·
  replace h := q23
  refine cCond1 (fun q14 => ?_) (fun q14 => ?_)
  ·
   refine cSkip ?_
   exact QJoin.normal (by simp only [q5, q14] <;> rfl) wkJ
  ·
   replace h := h q14
   refine cExit 2 ?_
   refine QJoin.exit ?_
   refine QRound.exit ?_
   refine QBlock.here ?_
   refine QBlock.normal ?_
   refine QSeq.normal ?_
   refine rgS [] 10 ?_
   refine sEnd [(11, ai (IntKind.i64.wrap (v11 + 1))), (25, ai (IntKind.i64.wrap (v11 + 1)))] ?_
   exact QRound.again (IntKind.i64.wrap (v11 + 1)) h (wkL [])
 replace h := h q13
 obtain ⟨q22, h⟩ := h
 refine cSeqM [] [8] ((!((nth a0 v11) == (nth a1 v17))) = true) ?_ (fun q15 => ?_)
 ·
  replace h := q22
  refine cBlock 3 ?_
  obtain ⟨q21, h⟩ := h
  refine cSeqM [(8, ai (nth a1 v17))] [8] (True) ?_ (fun q16 => ?_)
  ·
   replace h := q21
   refine rgS [] 6 ?_
   have q17 := h
   refine sIdx 1 (some 19) [] eInt a1 1 q17 ?_
   exact sEJ [(8, ai (nth a1 v17)), (20, ai (nth a1 v17))] trivial
  refine cRM [] 7 [(23, ab ((nth a0 v11) == (nth a1 v17))), (22, ai (nth a1 v17)), (21, ai (nth a0 v11))] [1] [0, 1, 8] ?_
  refine cCond1 (fun q19 => ?_) (fun q19 => ?_)
  ·
   replace h := h q19
   refine cRM [] 8 [(4, ab true)] [1] [] ?_
   exact cRet (QBlock.ret (QJoin.ret (QRound.ret (QBlock.ret (QBlock.ret (QSeq.ret (QRound.ret (QBlock.ret (QSeq.ret (rt1 (ab true) (SnapR3.of1 (sr_bool h))))))))))))
  ·
   refine cSkip ?_
   refine QBlock.normal ?_
   exact QJoin.normal (by simp only [q5, q13, q19] <;> rfl) wkJ
 replace h := h q15
 refine rgS [] 9 ?_
 refine sEnd [(17, ai (IntKind.i64.wrap (v17 + 1))), (24, ai (IntKind.i64.wrap (v17 + 1)))] ?_
 exact QRound.again (IntKind.i64.wrap (v17 + 1)) h (wkL [])

theorem spec_l1meet_V (a0 : (List Int)) (a1 : (List Int)) : FnV Try.prog 69 [al eInt a0, al eInt a1] (ab (meets a0 a1)) := spec_l1meet_walk a0 a1 (meets a0 a1) (upI a0.length (fun j => hasInt a1 (nth a0 j))) (upM a0.length) (fun v => upI a1.length (fun k => nth a0 v == nth a1 k)) (fun v => upM a1.length) (by
 unfold spec_l1meet_C spec_l1meet_C1
 intro hn
 refine ⟨up_start (len0 _), fun v hI => ⟨fun hv => ?_, fun hv => ⟨up_in hI hv, fun hm => ⟨up_start (len0 _), fun k hK => ⟨fun hk => ?_, fun hk => ⟨⟨up_in hK hk, fun hp => ?_⟩, fun hp => up_step (lenI hm) hK hk (not_eq hp)⟩⟩⟩⟩⟩⟩
 ·exact (up_nany (q := fun x => hasInt a1 x) hI hv).symm
 ·exact up_step (lenI hn) hI hv (has_false (up_end hK hk))
 ·exact (up_any (q := fun x => hasInt a1 x) hI hv (has_true (up_in hK hk).2 hp)).symm)

noncomputable def laws_toIntS_b : Code := bodyC Try.f70
def laws_toIntS_C1 (I0 : (List Int) → Int → Prop) (m0 : (List Int) → Int → Nat) (a0 res : (List Int)) : Prop :=
  I0 (List.replicate (a0.length : Int).toNat (0 : Int)) 0 ∧ ∀ (x0 : (List Int)) (v4 : Int), I0 x0 v4 → (((decide (v4 < (a0.length : Int))) = false → x0.length ≤ 4611686018427387904 ∧ x0 = res) ∧ ((decide (v4 < (a0.length : Int))) = true → ((0 ≤ v4 ∧ v4.toNat < a0.length) ∧ (0 ≤ v4 ∧ v4.toNat < x0.length)) ∧ (I0 (x0.set v4.toNat (nth a0 v4)) (IntKind.i64.wrap (v4 + 1)) ∧ m0 (x0.set v4.toNat (nth a0 v4)) (IntKind.i64.wrap (v4 + 1)) < m0 x0 v4)))
def laws_toIntS_C (a0 : (List Int)) (res : (List Int)) (I0 : (List Int) → Int → Prop) (m0 : (List Int) → Int → Nat) : Prop :=
 (a0.length ≤ 4611686018427387904 → 0 ≤ (a0.length : Int) ∧ 8 * (a0.length : Int) ≤ 140737488355328 ∧ (a0.length : Int) ≤ 4611686018427387904) ∧ (a0.length ≤ 4611686018427387904 → laws_toIntS_C1 I0 m0 a0 res)
theorem laws_toIntS_walk (a0 : (List Int)) (res : (List Int)) (I0 : (List Int) → Int → Prop) (m0 : (List Int) → Int → Nat) (h : laws_toIntS_C a0 res I0 m0) : FnV Try.prog 70 [al eInt a0] (af eInt res) := by
 unfold laws_toIntS_C at h
 refine FnS.go (fn := Try.f70) [(0, al eInt a0)] Try.func70 ?_
 show WpS _ (nv laws_toIntS_b 1) _ ⟨mkS 22 [(0, al eInt a0)], [], []⟩
 refine cRM [] 0 [(2, an)] [] [1] ?_
 obtain ⟨q16, h⟩ := h
 refine cSeqN [(3, rf 0 0 ((List.replicate (a0.length : Int).toNat (0 : Int)).length))] [1] [] [⟨0, 1, List.map eInt (List.replicate (a0.length : Int).toNat (0 : Int))⟩] (a0.length ≤ 4611686018427387904) ?_ (fun q2 => ?_)
 ·
  replace h := q16
  refine rgS [] 1 ?_
  refine sLen 2 (some 6) [(5, al eInt a0)] eInt a0 (fun q3 => ?_)
  replace h := h q3
  have q4 := h
  refine sMks 1 (some 7) [] eInt 8 [ai 0] 0 (fun r => [⟨0, 1, r⟩]) (0 : Int) q4 ?_
  exact sEJ [(3, rf 0 0 ((List.replicate (a0.length : Int).toNat (0 : Int)).length))] q3
 replace h := h q2
 refine cSeq ?_
 refine cRM [] 2 [(4, ai 0)] [1] [2] ?_
 unfold laws_toIntS_C1 at h
 refine cBlock 0 ?_
 obtain ⟨q15, h⟩ := h
 refine cLoop (fun (v : (List Int) × Int) => (⟨(mkS 22 [(0, al eInt a0), (3, rf 0 0 ((v.1).length)), (4, ai (v.2))]), [], [⟨0, 1, List.map eInt (v.1)⟩]⟩ : St)) (fun (v : (List Int) × Int) => I0 (v.1) (v.2)) (fun (v : (List Int) × Int) => m0 (v.1) (v.2)) ((List.replicate (a0.length : Int).toNat (0 : Int)), 0) (wkL []) q15 (fun v hI => ?_)
 obtain ⟨x0, v4⟩ := v
 replace h := h x0 v4 hI
 dsimp only
 obtain ⟨q14, h⟩ := h
 refine cSeqM [] [3] ((decide (v4 < (a0.length : Int))) = true) ?_ (fun q6 => ?_)
 ·
  replace h := q14
  refine cSeqM [(11, ab (decide (v4 < (a0.length : Int))))] [3] (True) ?_ (fun q7 => ?_)
  ·
   refine rgS [] 3 ?_
   refine sLen 3 (some 10) [(9, al eInt a0), (8, ai v4)] eInt a0 (fun q8 => ?_)
   exact sEJ [(11, ab (decide (v4 < (a0.length : Int))))] trivial
  refine cCond1 (fun q9 => ?_) (fun q9 => ?_)
  ·
   refine cSkip ?_
   exact QJoin.normal (by simp only [q9] <;> rfl) wkJ
  ·
   replace h := h q9
   refine cExit 0 ?_
   refine QJoin.exit ?_
   refine QRound.exit ?_
   refine QBlock.here ?_
   refine QSeq.normal ?_
   refine cSeqG ⟨(mkS 22 [(2, rf 0 0 x0.length)]), [], [⟨0, 1, List.map eInt x0⟩]⟩ (True) ?_ (fun q10 => ?_)
   ·
    refine rgS [] 6 ?_
    exact sEJ [(2, rf 0 0 x0.length), (21, rf 0 0 x0.length)] trivial
   exact cRet (rt1 (rf 0 0 x0.length) (SnapR3.of1 (sr_blk' (sz := 1) (by simp) rfl (cInt) h)))
 replace h := h q6
 obtain ⟨q13, h⟩ := h
 refine cSeqN [] [3] [] [⟨0, 1, List.map eInt (x0.set v4.toNat (nth a0 v4))⟩] (True) ?_ (fun q11 => ?_)
 ·
  replace h := q13
  refine cBlock 1 ?_
  refine rgS [] 5 ?_
  obtain ⟨q12, h⟩ := h
  refine sIdx 5 (some 18) [(17, ai v4), (16, al eInt a0), (15, ai v4), (14, rf 0 0 x0.length)] eInt a0 1 q12 ?_
  have z20_932 := h
  refine sAdr 2 (some 20) [(19, ai (nth a0 v4))] 0 0 1 z20_932 ?_
  refine sStBj 1 none [] eInt x0 v4 0 1 0 [ai (nth a0 v4)] 0 (nth a0 v4) (by simpa using z20_932.2) ?_
  refine sEnd [] ?_
  refine QBlock.normal ?_
  exact QJoin.normal trivial wkJ
 refine rgS [] 4 ?_
 refine sEnd [(4, ai (IntKind.i64.wrap (v4 + 1))), (13, ai (IntKind.i64.wrap (v4 + 1))), (12, ai v4)] ?_
 exact QRound.again ((x0.set v4.toNat (nth a0 v4)), (IntKind.i64.wrap (v4 + 1))) h (weak_eq (s' := ⟨(mkS 22 [(0, al eInt a0), (3, rf 0 0 x0.length), (4, ai (IntKind.i64.wrap (v4 + 1)))]), [], [⟨0, 1, List.map eInt (x0.set v4.toNat (nth a0 v4))⟩]⟩) (wkL (n := 22) (A' := [(0, al eInt a0), (3, rf 0 0 x0.length), (4, ai (IntKind.i64.wrap (v4 + 1)))]) (L' := []) []) (congrArg (fun z => (⟨(mkS 22 [(0, al eInt a0), (3, rf 0 0 z), (4, ai (IntKind.i64.wrap (v4 + 1)))]), [], [⟨0, 1, List.map eInt (x0.set v4.toNat (nth a0 v4))⟩]⟩ : St)) (show x0.length = (x0.set v4.toNat (nth a0 v4)).length by simp)))

theorem laws_toIntS_V (a0 : (List Int)) (hp : small a0) : FnV Try.prog 70 [al eInt a0] (af eInt (idt a0)) := laws_toIntS_walk a0 (idt a0) (fillI a0 (fun x => x) (0 : Int)) (fillM a0) (by
 unfold laws_toIntS_C laws_toIntS_C1
 have hp : a0.length ≤ 1048576 := hp
 exact ⟨fun hn => ⟨len0 _, by omega, by omega⟩, fun hn => fill_loop0 (f := fun x => x) hn (by simp [idt])⟩)

noncomputable def laws_toLie_b : Code := bodyC Try.f168
def laws_toLie_C (a0 : Lie) (res : Lie) : Prop :=
 (a0.sw = res.sw) ∧ (a0.lie = res.lie)
theorem laws_toLie_walk (a0 : Lie) (res : Lie) (h : laws_toLie_C a0 res) : FnV Try.prog 168 [.agg (eLie a0)] (.agg (eLie res)) := by
 unfold laws_toLie_C at h
 refine FnS.go (fn := Try.f168) [(0, .agg (eLie a0))] Try.func168 ?_
 show WpS _ (nv laws_toLie_b 1) _ ⟨mkS 11 [(0, .agg (eLie a0))], [], []⟩
 refine cRN [] 0 [(2, ap 2 0), (1, ap 1 0)] [2] [] [(2, [ai 0, ai 0]), (1, (eLie a0))] [] ?_
 refine cRE [] 1 [(3, ap 3 0)] [1] [2] (fun L => (3, [ai 0, ai 0]) :: L) id ?_
 refine cRE [] 2 [(6, ap 3 0), (5, ai a0.sw), (4, ap 1 0)] [] [3] (fun L => ed 0 0 (ai a0.sw) L) id ?_
 refine cRE [] 3 [(9, ap 3 1), (8, ai a0.lie), (7, ap 1 1)] [] [2] (fun L => er 0 (eLie a0) L) id ?_
 refine cRE [] 4 [(10, .agg (eLie a0))] [] [0, 1, 1] (fun L => er 1 (eLie a0) L) id ?_
 exact cRet (rt1 (.agg (eLie a0)) (SnapR3.agg (PW.cons (sr_int h.1) (PW.cons (sr_int h.2) PW.nil))))

theorem laws_toLie_V (a0 : Lie) : FnV Try.prog 168 [.agg (eLie a0)] (.agg (eLie (idt a0))) := laws_toLie_walk a0 (idt a0) (by
 exact ⟨rfl, rfl⟩)

noncomputable def laws_toLieS_b : Code := bodyC Try.f160
def laws_toLieS_C1 (I0 : (List Lie) → Int → Prop) (m0 : (List Lie) → Int → Nat) (a0 res : (List Lie)) : Prop :=
  I0 (List.replicate (a0.length : Int).toNat ({ sw := (0 : Int), lie := (0 : Int) } : Lie)) 0 ∧ ∀ (x0 : (List Lie)) (v4 : Int), I0 x0 v4 → (((decide (v4 < (a0.length : Int))) = false → x0.length ≤ 4611686018427387904 ∧ x0 = res) ∧ ((decide (v4 < (a0.length : Int))) = true → ((0 ≤ v4 ∧ v4.toNat < a0.length) ∧ (0 ≤ v4 ∧ v4.toNat < x0.length)) ∧ (I0 (x0.set v4.toNat (idt (nth a0 v4))) (IntKind.i64.wrap (v4 + 1)) ∧ m0 (x0.set v4.toNat (idt (nth a0 v4))) (IntKind.i64.wrap (v4 + 1)) < m0 x0 v4)))
def laws_toLieS_C (a0 : (List Lie)) (res : (List Lie)) (I0 : (List Lie) → Int → Prop) (m0 : (List Lie) → Int → Nat) : Prop :=
 (a0.length ≤ 4611686018427387904 → 0 ≤ (a0.length : Int) ∧ 16 * (a0.length : Int) ≤ 140737488355328 ∧ (a0.length : Int) ≤ 4611686018427387904) ∧ (a0.length ≤ 4611686018427387904 → laws_toLieS_C1 I0 m0 a0 res)
theorem laws_toLieS_walk (a0 : (List Lie)) (res : (List Lie)) (I0 : (List Lie) → Int → Prop) (m0 : (List Lie) → Int → Nat) (h : laws_toLieS_C a0 res I0 m0) : FnV Try.prog 160 [al eLie a0] (af eLie res) := by
 unfold laws_toLieS_C at h
 refine FnS.go (fn := Try.f160) [(0, al eLie a0)] Try.func160 ?_
 show WpS _ (nv laws_toLieS_b 1) _ ⟨mkS 23 [(0, al eLie a0)], [], []⟩
 refine cRM [] 0 [(2, an)] [] [1] ?_
 obtain ⟨q16, h⟩ := h
 refine cSeqN [(3, rf 0 0 ((List.replicate (a0.length : Int).toNat ({ sw := (0 : Int), lie := (0 : Int) } : Lie)).length))] [1] [] [⟨0, 2, List.map eLie (List.replicate (a0.length : Int).toNat ({ sw := (0 : Int), lie := (0 : Int) } : Lie))⟩] (a0.length ≤ 4611686018427387904) ?_ (fun q2 => ?_)
 ·
  replace h := q16
  refine rgS [] 1 ?_
  refine sLen 2 (some 6) [(5, al eLie a0)] eLie a0 (fun q3 => ?_)
  replace h := h q3
  have q4 := h
  refine sMks 1 (some 7) [] eLie 16 [ai 0, ai 0] 0 (fun r => [⟨0, 2, r⟩]) ({ sw := (0 : Int), lie := (0 : Int) } : Lie) q4 ?_
  exact sEJ [(3, rf 0 0 ((List.replicate (a0.length : Int).toNat ({ sw := (0 : Int), lie := (0 : Int) } : Lie)).length))] q3
 replace h := h q2
 refine cSeq ?_
 refine cRM [] 2 [(4, ai 0)] [1] [2] ?_
 unfold laws_toLieS_C1 at h
 refine cBlock 0 ?_
 obtain ⟨q15, h⟩ := h
 refine cLoop (fun (v : (List Lie) × Int) => (⟨(mkS 23 [(0, al eLie a0), (3, rf 0 0 ((v.1).length)), (4, ai (v.2))]), [], [⟨0, 2, List.map eLie (v.1)⟩]⟩ : St)) (fun (v : (List Lie) × Int) => I0 (v.1) (v.2)) (fun (v : (List Lie) × Int) => m0 (v.1) (v.2)) ((List.replicate (a0.length : Int).toNat ({ sw := (0 : Int), lie := (0 : Int) } : Lie)), 0) (wkL []) q15 (fun v hI => ?_)
 obtain ⟨x0, v4⟩ := v
 replace h := h x0 v4 hI
 dsimp only
 obtain ⟨q14, h⟩ := h
 refine cSeqM [] [3] ((decide (v4 < (a0.length : Int))) = true) ?_ (fun q6 => ?_)
 ·
  replace h := q14
  refine cSeqM [(11, ab (decide (v4 < (a0.length : Int))))] [3] (True) ?_ (fun q7 => ?_)
  ·
   refine rgS [] 3 ?_
   refine sLen 3 (some 10) [(9, al eLie a0), (8, ai v4)] eLie a0 (fun q8 => ?_)
   exact sEJ [(11, ab (decide (v4 < (a0.length : Int))))] trivial
  refine cCond1 (fun q9 => ?_) (fun q9 => ?_)
  ·
   refine cSkip ?_
   exact QJoin.normal (by simp only [q9] <;> rfl) wkJ
  ·
   replace h := h q9
   refine cExit 0 ?_
   refine QJoin.exit ?_
   refine QRound.exit ?_
   refine QBlock.here ?_
   refine QSeq.normal ?_
   refine cSeqG ⟨(mkS 23 [(2, rf 0 0 x0.length)]), [], [⟨0, 2, List.map eLie x0⟩]⟩ (True) ?_ (fun q10 => ?_)
   ·
    refine rgS [] 6 ?_
    exact sEJ [(2, rf 0 0 x0.length), (22, rf 0 0 x0.length)] trivial
   exact cRet (rt1 (rf 0 0 x0.length) (SnapR3.of1 (sr_blk' (sz := 2) (by simp) rfl (cLie) h)))
 replace h := h q6
 obtain ⟨q13, h⟩ := h
 refine cSeqN [] [3] [] [⟨0, 2, List.map eLie (x0.set v4.toNat (idt (nth a0 v4)))⟩] (True) ?_ (fun q11 => ?_)
 ·
  replace h := q13
  refine cBlock 1 ?_
  refine rgS [] 5 ?_
  obtain ⟨q12, h⟩ := h
  refine sIdx 5 (some 18) [(17, ai v4), (16, al eLie a0), (15, ai v4), (14, rf 0 0 x0.length)] eLie a0 2 q12 ?_
  refine sCallV 2 (some 20) [(19, .agg (eLie (nth a0 v4)))] [.agg (eLie (nth a0 v4))] (laws_toLie_V (nth a0 v4)) (PW.cons (Snap2.agg (PW.cons (.int _ _) (PW.cons (.int _ _) PW.nil))) PW.nil) ?_
  have z21_932 := h
  refine sAdr 1 (some 21) [] 0 0 2 z21_932 ?_
  refine sStBj 1 none [] eLie x0 v4 0 2 0 (eLie (idt (nth a0 v4))) 0 (idt (nth a0 v4)) (by simpa using z21_932.2) ?_
  refine sEnd [] ?_
  refine QBlock.normal ?_
  exact QJoin.normal trivial wkJ
 refine rgS [] 4 ?_
 refine sEnd [(4, ai (IntKind.i64.wrap (v4 + 1))), (13, ai (IntKind.i64.wrap (v4 + 1))), (12, ai v4)] ?_
 exact QRound.again ((x0.set v4.toNat (idt (nth a0 v4))), (IntKind.i64.wrap (v4 + 1))) h (weak_eq (s' := ⟨(mkS 23 [(0, al eLie a0), (3, rf 0 0 x0.length), (4, ai (IntKind.i64.wrap (v4 + 1)))]), [], [⟨0, 2, List.map eLie (x0.set v4.toNat (idt (nth a0 v4)))⟩]⟩) (wkL (n := 23) (A' := [(0, al eLie a0), (3, rf 0 0 x0.length), (4, ai (IntKind.i64.wrap (v4 + 1)))]) (L' := []) []) (congrArg (fun z => (⟨(mkS 23 [(0, al eLie a0), (3, rf 0 0 z), (4, ai (IntKind.i64.wrap (v4 + 1)))]), [], [⟨0, 2, List.map eLie (x0.set v4.toNat (idt (nth a0 v4)))⟩]⟩ : St)) (show x0.length = (x0.set v4.toNat (idt (nth a0 v4))).length by simp)))

theorem laws_toLieS_V (a0 : (List Lie)) (hp : small a0) : FnV Try.prog 160 [al eLie a0] (af eLie (idt a0)) := laws_toLieS_walk a0 (idt a0) (fillI a0 (idt) ({ sw := (0 : Int), lie := (0 : Int) } : Lie)) (fillM a0) (by
 unfold laws_toLieS_C laws_toLieS_C1
 have hp : a0.length ≤ 1048576 := hp
 exact ⟨fun hn => ⟨len0 _, by omega, by omega⟩, fun hn => fill_loop0 (f := idt) hn (map_idt _)⟩)

noncomputable def laws_toWay_b : Code := bodyC Try.f128
def laws_toWay_C (a0 : Way) (res : Way) : Prop :=
 (small a0.sections) ∧ ((small a0.lies) ∧ ((small a0.flanks) ∧ ((small a0.over) ∧ ((small a0.near) ∧ (((idt a0.sections) = res.sections) ∧ ((idt a0.lies) = res.lies) ∧ ((idt a0.flanks) = res.flanks) ∧ ((idt a0.over) = res.over) ∧ ((idt a0.near) = res.near))))))
theorem laws_toWay_walk (a0 : Way) (res : Way) (h : laws_toWay_C a0 res) : FnV Try.prog 128 [.agg (eWay false a0)] (.agg (eWay true res)) := by
 unfold laws_toWay_C at h
 refine FnS.go (fn := Try.f128) [(0, .agg (eWay false a0))] Try.func128 ?_
 show WpS _ (nv laws_toWay_b 1) _ ⟨mkS 25 [(0, .agg (eWay false a0))], [], []⟩
 refine cRN [] 0 [(2, ap 2 0), (1, ap 1 0)] [2] [] [(2, [an, an, an, an, an]), (1, (eWay false a0))] [] ?_
 refine cRE [] 1 [(3, ap 3 0)] [1] [2] (fun L => (3, [an, an, an, an, an]) :: L) id ?_
 obtain ⟨q18, h⟩ := h
 refine cSeqE [] [3] (fun L => ed 0 0 (af eInt (idt a0.sections)) L) id (True) ?_ (fun q3 => ?_)
 ·
  replace h := q18
  refine rgS [] 2 ?_
  have q4 := h
  refine sCallV 3 (some 6) [(5, al eInt a0.sections), (4, ap 1 0)] [al eInt a0.sections] (laws_toIntS_V a0.sections q4) (PW.cons (Snap2.of1 sa_lst) PW.nil) ?_
  exact sEJ [(7, ap 3 0)] trivial
 obtain ⟨q17, h⟩ := h
 refine cSeqE [] [3] (fun L => ed 0 1 (af eLie (idt a0.lies)) L) id (True) ?_ (fun q5 => ?_)
 ·
  replace h := q17
  refine rgS [] 3 ?_
  have q6 := h
  refine sCallV 3 (some 10) [(9, al eLie a0.lies), (8, ap 1 1)] [al eLie a0.lies] (laws_toLieS_V a0.lies q6) (PW.cons (Snap2.of1 sa_lst) PW.nil) ?_
  exact sEJ [(11, ap 3 1)] trivial
 obtain ⟨q16, h⟩ := h
 refine cSeqE [] [3] (fun L => ed 0 2 (af eLie (idt a0.flanks)) L) id (True) ?_ (fun q7 => ?_)
 ·
  replace h := q16
  refine rgS [] 4 ?_
  have q8 := h
  refine sCallV 3 (some 14) [(13, al eLie a0.flanks), (12, ap 1 2)] [al eLie a0.flanks] (laws_toLieS_V a0.flanks q8) (PW.cons (Snap2.of1 sa_lst) PW.nil) ?_
  exact sEJ [(15, ap 3 2)] trivial
 obtain ⟨q15, h⟩ := h
 refine cSeqE [] [3] (fun L => ed 0 3 (af eInt (idt a0.over)) L) id (True) ?_ (fun q9 => ?_)
 ·
  replace h := q15
  refine rgS [] 5 ?_
  have q10 := h
  refine sCallV 3 (some 18) [(17, al eInt a0.over), (16, ap 1 3)] [al eInt a0.over] (laws_toIntS_V a0.over q10) (PW.cons (Snap2.of1 sa_lst) PW.nil) ?_
  exact sEJ [(19, ap 3 3)] trivial
 obtain ⟨q14, h⟩ := h
 refine cSeqE [] [2] (fun L => ed 0 4 (af eInt (idt a0.near)) L) id (True) ?_ (fun q11 => ?_)
 ·
  replace h := q14
  refine rgS [] 6 ?_
  have q12 := h
  refine sCallV 3 (some 22) [(21, al eInt a0.near), (20, ap 1 4)] [al eInt a0.near] (laws_toIntS_V a0.near q12) (PW.cons (Snap2.of1 sa_lst) PW.nil) ?_
  exact sEJ [(23, ap 3 4)] trivial
 refine cRE [] 7 [(24, .agg [af eInt (idt a0.sections), af eLie (idt a0.lies), af eLie (idt a0.flanks), af eInt (idt a0.over), af eInt (idt a0.near)])] [] [0, 1, 1] (fun L => er 1 [af eInt (idt a0.sections), af eLie (idt a0.lies), af eLie (idt a0.flanks), af eInt (idt a0.over), af eInt (idt a0.near)] L) id ?_
 exact cRet (rt1 (.agg [af eInt (idt a0.sections), af eLie (idt a0.lies), af eLie (idt a0.flanks), af eInt (idt a0.over), af eInt (idt a0.near)]) (SnapR3.agg (PW.cons (sr_lst h.1) (PW.cons (sr_lst h.2.1) (PW.cons (sr_lst h.2.2.1) (PW.cons (sr_lst h.2.2.2.1) (PW.cons (sr_lst h.2.2.2.2) PW.nil)))))))

theorem laws_toWay_V (a0 : Way) (hp : smallWay a0) : FnV Try.prog 128 [.agg (eWay false a0)] (.agg (eWay true (idt a0))) := laws_toWay_walk a0 (idt a0) (by
 have hp : a0.sections.length + a0.lies.length + a0.flanks.length + a0.over.length + a0.near.length ≤ 1048576 := hp
 unfold laws_toWay_C small
 exact ⟨by omega, by omega, by omega, by omega, by omega, rfl, rfl, rfl, rfl, rfl⟩)

noncomputable def laws_toWayS_b : Code := bodyC Try.f71
def laws_toWayS_C1 (I0 : (List Way) → Int → Prop) (m0 : (List Way) → Int → Nat) (a0 res : (List Way)) : Prop :=
  I0 (List.replicate (a0.length : Int).toNat ({ sections := ([] : (List Int)), lies := ([] : (List Lie)), flanks := ([] : (List Lie)), over := ([] : (List Int)), near := ([] : (List Int)) } : Way)) 0 ∧ ∀ (x0 : (List Way)) (v4 : Int), I0 x0 v4 → (((decide (v4 < (a0.length : Int))) = false → x0.length ≤ 4611686018427387904 ∧ x0 = res) ∧ ((decide (v4 < (a0.length : Int))) = true → ((0 ≤ v4 ∧ v4.toNat < a0.length) ∧ ((smallWay (nth a0 v4)) ∧ (0 ≤ v4 ∧ v4.toNat < x0.length))) ∧ (I0 (x0.set v4.toNat (idt (nth a0 v4))) (IntKind.i64.wrap (v4 + 1)) ∧ m0 (x0.set v4.toNat (idt (nth a0 v4))) (IntKind.i64.wrap (v4 + 1)) < m0 x0 v4)))
def laws_toWayS_C (a0 : (List Way)) (res : (List Way)) (I0 : (List Way) → Int → Prop) (m0 : (List Way) → Int → Nat) : Prop :=
 (a0.length ≤ 4611686018427387904 → 0 ≤ (a0.length : Int) ∧ 120 * (a0.length : Int) ≤ 140737488355328 ∧ (a0.length : Int) ≤ 4611686018427387904) ∧ (a0.length ≤ 4611686018427387904 → laws_toWayS_C1 I0 m0 a0 res)
theorem laws_toWayS_walk (a0 : (List Way)) (res : (List Way)) (I0 : (List Way) → Int → Prop) (m0 : (List Way) → Int → Nat) (h : laws_toWayS_C a0 res I0 m0) : FnV Try.prog 71 [al (eWay false) a0] (af (eWay false) res) := by
 unfold laws_toWayS_C at h
 refine FnS.go (fn := Try.f71) [(0, al (eWay false) a0)] Try.func71 ?_
 show WpS _ (nv laws_toWayS_b 1) _ ⟨mkS 23 [(0, al (eWay false) a0)], [], []⟩
 refine cRM [] 0 [(2, an)] [] [1] ?_
 obtain ⟨q17, h⟩ := h
 refine cSeqN [(3, rf 0 0 ((List.replicate (a0.length : Int).toNat ({ sections := ([] : (List Int)), lies := ([] : (List Lie)), flanks := ([] : (List Lie)), over := ([] : (List Int)), near := ([] : (List Int)) } : Way)).length))] [1] [] [⟨0, 5, List.map (eWay true) (List.replicate (a0.length : Int).toNat ({ sections := ([] : (List Int)), lies := ([] : (List Lie)), flanks := ([] : (List Lie)), over := ([] : (List Int)), near := ([] : (List Int)) } : Way))⟩] (a0.length ≤ 4611686018427387904) ?_ (fun q2 => ?_)
 ·
  replace h := q17
  refine rgS [] 1 ?_
  refine sLen 2 (some 6) [(5, al (eWay false) a0)] (eWay false) a0 (fun q3 => ?_)
  replace h := h q3
  have q4 := h
  refine sMks 1 (some 7) [] (eWay true) 120 [.lst [] false true, .lst [] false true, .lst [] false true, .lst [] false true, .lst [] false true] 0 (fun r => [⟨0, 5, r⟩]) ({ sections := ([] : (List Int)), lies := ([] : (List Lie)), flanks := ([] : (List Lie)), over := ([] : (List Int)), near := ([] : (List Int)) } : Way) q4 ?_
  exact sEJ [(3, rf 0 0 ((List.replicate (a0.length : Int).toNat ({ sections := ([] : (List Int)), lies := ([] : (List Lie)), flanks := ([] : (List Lie)), over := ([] : (List Int)), near := ([] : (List Int)) } : Way)).length))] q3
 replace h := h q2
 refine cSeq ?_
 refine cRM [] 2 [(4, ai 0)] [1] [2] ?_
 unfold laws_toWayS_C1 at h
 refine cBlock 0 ?_
 obtain ⟨q16, h⟩ := h
 refine cLoop (fun (v : (List Way) × Int) => (⟨(mkS 23 [(0, al (eWay false) a0), (3, rf 0 0 ((v.1).length)), (4, ai (v.2))]), [], [⟨0, 5, List.map (eWay true) (v.1)⟩]⟩ : St)) (fun (v : (List Way) × Int) => I0 (v.1) (v.2)) (fun (v : (List Way) × Int) => m0 (v.1) (v.2)) ((List.replicate (a0.length : Int).toNat ({ sections := ([] : (List Int)), lies := ([] : (List Lie)), flanks := ([] : (List Lie)), over := ([] : (List Int)), near := ([] : (List Int)) } : Way)), 0) (wkL []) q16 (fun v hI => ?_)
 obtain ⟨x0, v4⟩ := v
 replace h := h x0 v4 hI
 dsimp only
 obtain ⟨q15, h⟩ := h
 refine cSeqM [] [3] ((decide (v4 < (a0.length : Int))) = true) ?_ (fun q6 => ?_)
 ·
  replace h := q15
  refine cSeqM [(11, ab (decide (v4 < (a0.length : Int))))] [3] (True) ?_ (fun q7 => ?_)
  ·
   refine rgS [] 3 ?_
   refine sLen 3 (some 10) [(9, al (eWay false) a0), (8, ai v4)] (eWay false) a0 (fun q8 => ?_)
   exact sEJ [(11, ab (decide (v4 < (a0.length : Int))))] trivial
  refine cCond1 (fun q9 => ?_) (fun q9 => ?_)
  ·
   refine cSkip ?_
   exact QJoin.normal (by simp only [q9] <;> rfl) wkJ
  ·
   replace h := h q9
   refine cExit 0 ?_
   refine QJoin.exit ?_
   refine QRound.exit ?_
   refine QBlock.here ?_
   refine QSeq.normal ?_
   refine cSeqG ⟨(mkS 23 [(2, rf 0 0 x0.length)]), [], [⟨0, 5, List.map (eWay true) x0⟩]⟩ (True) ?_ (fun q10 => ?_)
   ·
    refine rgS [] 6 ?_
    exact sEJ [(2, rf 0 0 x0.length), (22, rf 0 0 x0.length)] trivial
   exact cRet (rt1 (rf 0 0 x0.length) (SnapR3.of1 (sr_blk' (sz := 5) (by simp) rfl (cWay) h)))
 replace h := h q6
 obtain ⟨q14, h⟩ := h
 refine cSeqN [] [3] [] [⟨0, 5, List.map (eWay true) (x0.set v4.toNat (idt (nth a0 v4)))⟩] (True) ?_ (fun q11 => ?_)
 ·
  replace h := q14
  refine cBlock 1 ?_
  refine rgS [] 5 ?_
  obtain ⟨q13, h⟩ := h
  refine sIdx 5 (some 18) [(17, ai v4), (16, al (eWay false) a0), (15, ai v4), (14, rf 0 0 x0.length)] (eWay false) a0 5 q13 ?_
  obtain ⟨q12, h⟩ := h
  refine sCallV 2 (some 20) [(19, .agg (eWay false (nth a0 v4)))] [.agg (eWay false (nth a0 v4))] (laws_toWay_V (nth a0 v4) q12) (PW.cons (Snap2.agg (PW.cons sa_lst (PW.cons sa_lst (PW.cons sa_lst (PW.cons sa_lst (PW.cons sa_lst PW.nil)))))) PW.nil) ?_
  have z21_932 := h
  refine sAdr 1 (some 21) [] 0 0 5 z21_932 ?_
  refine sStBj 1 none [] (eWay true) x0 v4 0 5 0 (eWay true (idt (nth a0 v4))) 0 (idt (nth a0 v4)) (by simpa using z21_932.2) ?_
  refine sEnd [] ?_
  refine QBlock.normal ?_
  exact QJoin.normal trivial wkJ
 refine rgS [] 4 ?_
 refine sEnd [(4, ai (IntKind.i64.wrap (v4 + 1))), (13, ai (IntKind.i64.wrap (v4 + 1))), (12, ai v4)] ?_
 exact QRound.again ((x0.set v4.toNat (idt (nth a0 v4))), (IntKind.i64.wrap (v4 + 1))) h (weak_eq (s' := ⟨(mkS 23 [(0, al (eWay false) a0), (3, rf 0 0 x0.length), (4, ai (IntKind.i64.wrap (v4 + 1)))]), [], [⟨0, 5, List.map (eWay true) (x0.set v4.toNat (idt (nth a0 v4)))⟩]⟩) (wkL (n := 23) (A' := [(0, al (eWay false) a0), (3, rf 0 0 x0.length), (4, ai (IntKind.i64.wrap (v4 + 1)))]) (L' := []) []) (congrArg (fun z => (⟨(mkS 23 [(0, al (eWay false) a0), (3, rf 0 0 z), (4, ai (IntKind.i64.wrap (v4 + 1)))]), [], [⟨0, 5, List.map (eWay true) (x0.set v4.toNat (idt (nth a0 v4)))⟩]⟩ : St)) (show x0.length = (x0.set v4.toNat (idt (nth a0 v4))).length by simp)))

theorem laws_toWayS_V (a0 : (List Way)) (hp : smallWays a0) : FnV Try.prog 71 [al (eWay false) a0] (af (eWay false) (idt a0)) := laws_toWayS_walk a0 (idt a0) (fillI a0 idt ({ sections := ([] : (List Int)), lies := ([] : (List Lie)), flanks := ([] : (List Lie)), over := ([] : (List Int)), near := ([] : (List Int)) } : Way)) (fillM a0) (by
 unfold laws_toWayS_C laws_toWayS_C1
 have hp : a0.length + (a0.map wayN).sum ≤ 1048576 := hp
 refine ⟨fun hn => ⟨len0 _, by omega, by omega⟩, fun hn => fill_loop (f := idt) (φ := fun v => smallWay (nth a0 v)) hn (map_idt _) fun v _ hv => ?_⟩
 have := mem_sum wayN (nth_mem hv)
 unfold smallWay; omega)

noncomputable def laws_toBoolS_b : Code := bodyC Try.f100
def laws_toBoolS_C1 (I0 : (List Bool) → Int → Prop) (m0 : (List Bool) → Int → Nat) (a0 res : (List Bool)) : Prop :=
  I0 (List.replicate (a0.length : Int).toNat false) 0 ∧ ∀ (x0 : (List Bool)) (v4 : Int), I0 x0 v4 → (((decide (v4 < (a0.length : Int))) = false → x0.length ≤ 4611686018427387904 ∧ x0 = res) ∧ ((decide (v4 < (a0.length : Int))) = true → ((0 ≤ v4 ∧ v4.toNat < a0.length) ∧ (0 ≤ v4 ∧ v4.toNat < x0.length)) ∧ (I0 (x0.set v4.toNat (nth a0 v4)) (IntKind.i64.wrap (v4 + 1)) ∧ m0 (x0.set v4.toNat (nth a0 v4)) (IntKind.i64.wrap (v4 + 1)) < m0 x0 v4)))
def laws_toBoolS_C (a0 : (List Bool)) (res : (List Bool)) (I0 : (List Bool) → Int → Prop) (m0 : (List Bool) → Int → Nat) : Prop :=
 (a0.length ≤ 4611686018427387904 → 0 ≤ (a0.length : Int) ∧ 1 * (a0.length : Int) ≤ 140737488355328 ∧ (a0.length : Int) ≤ 4611686018427387904) ∧ (a0.length ≤ 4611686018427387904 → laws_toBoolS_C1 I0 m0 a0 res)
theorem laws_toBoolS_walk (a0 : (List Bool)) (res : (List Bool)) (I0 : (List Bool) → Int → Prop) (m0 : (List Bool) → Int → Nat) (h : laws_toBoolS_C a0 res I0 m0) : FnV Try.prog 100 [al eBool a0] (af eBool res) := by
 unfold laws_toBoolS_C at h
 refine FnS.go (fn := Try.f100) [(0, al eBool a0)] Try.func100 ?_
 show WpS _ (nv laws_toBoolS_b 1) _ ⟨mkS 22 [(0, al eBool a0)], [], []⟩
 refine cRM [] 0 [(2, an)] [] [1] ?_
 obtain ⟨q16, h⟩ := h
 refine cSeqN [(3, rf 0 0 ((List.replicate (a0.length : Int).toNat false).length))] [1] [] [⟨0, 1, List.map eBool (List.replicate (a0.length : Int).toNat false)⟩] (a0.length ≤ 4611686018427387904) ?_ (fun q2 => ?_)
 ·
  replace h := q16
  refine rgS [] 1 ?_
  refine sLen 2 (some 6) [(5, al eBool a0)] eBool a0 (fun q3 => ?_)
  replace h := h q3
  have q4 := h
  refine sMks 1 (some 7) [] eBool 1 [ab false] 0 (fun r => [⟨0, 1, r⟩]) false q4 ?_
  exact sEJ [(3, rf 0 0 ((List.replicate (a0.length : Int).toNat false).length))] q3
 replace h := h q2
 refine cSeq ?_
 refine cRM [] 2 [(4, ai 0)] [1] [2] ?_
 unfold laws_toBoolS_C1 at h
 refine cBlock 0 ?_
 obtain ⟨q15, h⟩ := h
 refine cLoop (fun (v : (List Bool) × Int) => (⟨(mkS 22 [(0, al eBool a0), (3, rf 0 0 ((v.1).length)), (4, ai (v.2))]), [], [⟨0, 1, List.map eBool (v.1)⟩]⟩ : St)) (fun (v : (List Bool) × Int) => I0 (v.1) (v.2)) (fun (v : (List Bool) × Int) => m0 (v.1) (v.2)) ((List.replicate (a0.length : Int).toNat false), 0) (wkL []) q15 (fun v hI => ?_)
 obtain ⟨x0, v4⟩ := v
 replace h := h x0 v4 hI
 dsimp only
 obtain ⟨q14, h⟩ := h
 refine cSeqM [] [3] ((decide (v4 < (a0.length : Int))) = true) ?_ (fun q6 => ?_)
 ·
  replace h := q14
  refine cSeqM [(11, ab (decide (v4 < (a0.length : Int))))] [3] (True) ?_ (fun q7 => ?_)
  ·
   refine rgS [] 3 ?_
   refine sLen 3 (some 10) [(9, al eBool a0), (8, ai v4)] eBool a0 (fun q8 => ?_)
   exact sEJ [(11, ab (decide (v4 < (a0.length : Int))))] trivial
  refine cCond1 (fun q9 => ?_) (fun q9 => ?_)
  ·
   refine cSkip ?_
   exact QJoin.normal (by simp only [q9] <;> rfl) wkJ
  ·
   replace h := h q9
   refine cExit 0 ?_
   refine QJoin.exit ?_
   refine QRound.exit ?_
   refine QBlock.here ?_
   refine QSeq.normal ?_
   refine cSeqG ⟨(mkS 22 [(2, rf 0 0 x0.length)]), [], [⟨0, 1, List.map eBool x0⟩]⟩ (True) ?_ (fun q10 => ?_)
   ·
    refine rgS [] 6 ?_
    exact sEJ [(2, rf 0 0 x0.length), (21, rf 0 0 x0.length)] trivial
   exact cRet (rt1 (rf 0 0 x0.length) (SnapR3.of1 (sr_blk' (sz := 1) (by simp) rfl (cBool) h)))
 replace h := h q6
 obtain ⟨q13, h⟩ := h
 refine cSeqN [] [3] [] [⟨0, 1, List.map eBool (x0.set v4.toNat (nth a0 v4))⟩] (True) ?_ (fun q11 => ?_)
 ·
  replace h := q13
  refine cBlock 1 ?_
  refine rgS [] 5 ?_
  obtain ⟨q12, h⟩ := h
  refine sIdx 5 (some 18) [(17, ai v4), (16, al eBool a0), (15, ai v4), (14, rf 0 0 x0.length)] eBool a0 1 q12 ?_
  have z20_932 := h
  refine sAdr 2 (some 20) [(19, ab (nth a0 v4))] 0 0 1 z20_932 ?_
  refine sStBj 1 none [] eBool x0 v4 0 1 0 [ab (nth a0 v4)] 0 (nth a0 v4) (by simpa using z20_932.2) ?_
  refine sEnd [] ?_
  refine QBlock.normal ?_
  exact QJoin.normal trivial wkJ
 refine rgS [] 4 ?_
 refine sEnd [(4, ai (IntKind.i64.wrap (v4 + 1))), (13, ai (IntKind.i64.wrap (v4 + 1))), (12, ai v4)] ?_
 exact QRound.again ((x0.set v4.toNat (nth a0 v4)), (IntKind.i64.wrap (v4 + 1))) h (weak_eq (s' := ⟨(mkS 22 [(0, al eBool a0), (3, rf 0 0 x0.length), (4, ai (IntKind.i64.wrap (v4 + 1)))]), [], [⟨0, 1, List.map eBool (x0.set v4.toNat (nth a0 v4))⟩]⟩) (wkL (n := 22) (A' := [(0, al eBool a0), (3, rf 0 0 x0.length), (4, ai (IntKind.i64.wrap (v4 + 1)))]) (L' := []) []) (congrArg (fun z => (⟨(mkS 22 [(0, al eBool a0), (3, rf 0 0 z), (4, ai (IntKind.i64.wrap (v4 + 1)))]), [], [⟨0, 1, List.map eBool (x0.set v4.toNat (nth a0 v4))⟩]⟩ : St)) (show x0.length = (x0.set v4.toNat (nth a0 v4)).length by simp)))

theorem laws_toBoolS_V (a0 : (List Bool)) (hp : small a0) : FnV Try.prog 100 [al eBool a0] (af eBool (idt a0)) := laws_toBoolS_walk a0 (idt a0) (fillI a0 (fun x => x) false) (fillM a0) (by
 unfold laws_toBoolS_C laws_toBoolS_C1
 have hp : a0.length ≤ 1048576 := hp
 exact ⟨fun hn => ⟨len0 _, by omega, by omega⟩, fun hn => fill_loop0 (f := fun x => x) hn (by simp [idt])⟩)

noncomputable def laws_toBoolSS_b : Code := bodyC Try.f72
def laws_toBoolSS_C1 (I0 : (List (List Bool)) → Int → Prop) (m0 : (List (List Bool)) → Int → Nat) (a0 res : (List (List Bool))) : Prop :=
  I0 (List.replicate (a0.length : Int).toNat ([] : (List Bool))) 0 ∧ ∀ (x0 : (List (List Bool))) (v4 : Int), I0 x0 v4 → (((decide (v4 < (a0.length : Int))) = false → x0.length ≤ 4611686018427387904 ∧ x0 = res) ∧ ((decide (v4 < (a0.length : Int))) = true → ((0 ≤ v4 ∧ v4.toNat < a0.length) ∧ ((small (nth a0 v4)) ∧ (0 ≤ v4 ∧ v4.toNat < x0.length))) ∧ (I0 (x0.set v4.toNat (idt (nth a0 v4))) (IntKind.i64.wrap (v4 + 1)) ∧ m0 (x0.set v4.toNat (idt (nth a0 v4))) (IntKind.i64.wrap (v4 + 1)) < m0 x0 v4)))
def laws_toBoolSS_C (a0 : (List (List Bool))) (res : (List (List Bool))) (I0 : (List (List Bool)) → Int → Prop) (m0 : (List (List Bool)) → Int → Nat) : Prop :=
 (a0.length ≤ 4611686018427387904 → 0 ≤ (a0.length : Int) ∧ 24 * (a0.length : Int) ≤ 140737488355328 ∧ (a0.length : Int) ≤ 4611686018427387904) ∧ (a0.length ≤ 4611686018427387904 → laws_toBoolSS_C1 I0 m0 a0 res)
theorem laws_toBoolSS_walk (a0 : (List (List Bool))) (res : (List (List Bool))) (I0 : (List (List Bool)) → Int → Prop) (m0 : (List (List Bool)) → Int → Nat) (h : laws_toBoolSS_C a0 res I0 m0) : FnV Try.prog 72 [al (eL eBool false) a0] (af (eL eBool false) res) := by
 unfold laws_toBoolSS_C at h
 refine FnS.go (fn := Try.f72) [(0, al (eL eBool false) a0)] Try.func72 ?_
 show WpS _ (nv laws_toBoolSS_b 1) _ ⟨mkS 23 [(0, al (eL eBool false) a0)], [], []⟩
 refine cRM [] 0 [(2, an)] [] [1] ?_
 obtain ⟨q17, h⟩ := h
 refine cSeqN [(3, rf 0 0 ((List.replicate (a0.length : Int).toNat ([] : (List Bool))).length))] [1] [] [⟨0, 1, List.map (eL eBool true) (List.replicate (a0.length : Int).toNat ([] : (List Bool)))⟩] (a0.length ≤ 4611686018427387904) ?_ (fun q2 => ?_)
 ·
  replace h := q17
  refine rgS [] 1 ?_
  refine sLen 2 (some 6) [(5, al (eL eBool false) a0)] (eL eBool false) a0 (fun q3 => ?_)
  replace h := h q3
  have q4 := h
  refine sMks 1 (some 7) [] (eL eBool true) 24 [.lst [] false true] 0 (fun r => [⟨0, 1, r⟩]) ([] : (List Bool)) q4 ?_
  exact sEJ [(3, rf 0 0 ((List.replicate (a0.length : Int).toNat ([] : (List Bool))).length))] q3
 replace h := h q2
 refine cSeq ?_
 refine cRM [] 2 [(4, ai 0)] [1] [2] ?_
 unfold laws_toBoolSS_C1 at h
 refine cBlock 0 ?_
 obtain ⟨q16, h⟩ := h
 refine cLoop (fun (v : (List (List Bool)) × Int) => (⟨(mkS 23 [(0, al (eL eBool false) a0), (3, rf 0 0 ((v.1).length)), (4, ai (v.2))]), [], [⟨0, 1, List.map (eL eBool true) (v.1)⟩]⟩ : St)) (fun (v : (List (List Bool)) × Int) => I0 (v.1) (v.2)) (fun (v : (List (List Bool)) × Int) => m0 (v.1) (v.2)) ((List.replicate (a0.length : Int).toNat ([] : (List Bool))), 0) (wkL []) q16 (fun v hI => ?_)
 obtain ⟨x0, v4⟩ := v
 replace h := h x0 v4 hI
 dsimp only
 obtain ⟨q15, h⟩ := h
 refine cSeqM [] [3] ((decide (v4 < (a0.length : Int))) = true) ?_ (fun q6 => ?_)
 ·
  replace h := q15
  refine cSeqM [(11, ab (decide (v4 < (a0.length : Int))))] [3] (True) ?_ (fun q7 => ?_)
  ·
   refine rgS [] 3 ?_
   refine sLen 3 (some 10) [(9, al (eL eBool false) a0), (8, ai v4)] (eL eBool false) a0 (fun q8 => ?_)
   exact sEJ [(11, ab (decide (v4 < (a0.length : Int))))] trivial
  refine cCond1 (fun q9 => ?_) (fun q9 => ?_)
  ·
   refine cSkip ?_
   exact QJoin.normal (by simp only [q9] <;> rfl) wkJ
  ·
   replace h := h q9
   refine cExit 0 ?_
   refine QJoin.exit ?_
   refine QRound.exit ?_
   refine QBlock.here ?_
   refine QSeq.normal ?_
   refine cSeqG ⟨(mkS 23 [(2, rf 0 0 x0.length)]), [], [⟨0, 1, List.map (eL eBool true) x0⟩]⟩ (True) ?_ (fun q10 => ?_)
   ·
    refine rgS [] 6 ?_
    exact sEJ [(2, rf 0 0 x0.length), (22, rf 0 0 x0.length)] trivial
   exact cRet (rt1 (rf 0 0 x0.length) (SnapR3.of1 (sr_blk' (sz := 1) (by simp) rfl (cL _) h)))
 replace h := h q6
 obtain ⟨q14, h⟩ := h
 refine cSeqN [] [3] [] [⟨0, 1, List.map (eL eBool true) (x0.set v4.toNat (idt (nth a0 v4)))⟩] (True) ?_ (fun q11 => ?_)
 ·
  replace h := q14
  refine cBlock 1 ?_
  refine rgS [] 5 ?_
  obtain ⟨q13, h⟩ := h
  refine sIdx 5 (some 18) [(17, ai v4), (16, al (eL eBool false) a0), (15, ai v4), (14, rf 0 0 x0.length)] (eL eBool false) a0 1 q13 ?_
  obtain ⟨q12, h⟩ := h
  refine sCallV 2 (some 20) [(19, al eBool (nth a0 v4))] [al eBool (nth a0 v4)] (laws_toBoolS_V (nth a0 v4) q12) (PW.cons (Snap2.of1 sa_lst) PW.nil) ?_
  have z21_932 := h
  refine sAdr 1 (some 21) [] 0 0 1 z21_932 ?_
  refine sStBj 1 none [] (eL eBool true) x0 v4 0 1 0 [af eBool (idt (nth a0 v4))] 0 (idt (nth a0 v4)) (by simpa using z21_932.2) ?_
  refine sEnd [] ?_
  refine QBlock.normal ?_
  exact QJoin.normal trivial wkJ
 refine rgS [] 4 ?_
 refine sEnd [(4, ai (IntKind.i64.wrap (v4 + 1))), (13, ai (IntKind.i64.wrap (v4 + 1))), (12, ai v4)] ?_
 exact QRound.again ((x0.set v4.toNat (idt (nth a0 v4))), (IntKind.i64.wrap (v4 + 1))) h (weak_eq (s' := ⟨(mkS 23 [(0, al (eL eBool false) a0), (3, rf 0 0 x0.length), (4, ai (IntKind.i64.wrap (v4 + 1)))]), [], [⟨0, 1, List.map (eL eBool true) (x0.set v4.toNat (idt (nth a0 v4)))⟩]⟩) (wkL (n := 23) (A' := [(0, al (eL eBool false) a0), (3, rf 0 0 x0.length), (4, ai (IntKind.i64.wrap (v4 + 1)))]) (L' := []) []) (congrArg (fun z => (⟨(mkS 23 [(0, al (eL eBool false) a0), (3, rf 0 0 z), (4, ai (IntKind.i64.wrap (v4 + 1)))]), [], [⟨0, 1, List.map (eL eBool true) (x0.set v4.toNat (idt (nth a0 v4)))⟩]⟩ : St)) (show x0.length = (x0.set v4.toNat (idt (nth a0 v4))).length by simp)))

theorem laws_toBoolSS_V (a0 : (List (List Bool))) (hp : smallBars a0) : FnV Try.prog 72 [al (eL eBool false) a0] (af (eL eBool false) (idt a0)) := laws_toBoolSS_walk a0 (idt a0) (fillI a0 idt ([] : (List Bool))) (fillM a0) (by
 unfold laws_toBoolSS_C laws_toBoolSS_C1
 have hp : a0.length + (a0.map List.length).sum ≤ 1048576 := hp
 refine ⟨fun hn => ⟨len0 _, by omega, by omega⟩, fun hn => fill_loop (f := idt) (φ := fun v => small (nth a0 v)) hn (map_idt _) fun v _ hv => ?_⟩
 have := mem_sum List.length (nth_mem hv)
 unfold small; omega)

noncomputable def laws_toPlan_b : Code := bodyC Try.f25
def laws_toPlan_C (a0 : Plan) (res : Plan) : Prop :=
 (small a0.switches) ∧ ((smallWays a0.ways) ∧ ((smallBars a0.bars) ∧ ((a0.sections = res.sections) ∧ ((idt a0.switches) = res.switches) ∧ ((idt a0.ways) = res.ways) ∧ ((idt a0.bars) = res.bars) ∧ (a0.hold = res.hold))))
theorem laws_toPlan_walk (a0 : Plan) (res : Plan) (h : laws_toPlan_C a0 res) : FnV Try.prog 25 [.agg (ePlan false a0)] (.agg (ePlan true res)) := by
 unfold laws_toPlan_C at h
 refine FnS.go (fn := Try.f25) [(0, .agg (ePlan false a0))] Try.func25 ?_
 show WpS _ (nv laws_toPlan_b 1) _ ⟨mkS 23 [(0, .agg (ePlan false a0))], [], []⟩
 refine cRN [] 0 [(2, ap 2 0), (1, ap 1 0)] [2] [] [(2, [ai 0, an, an, an, ai 0]), (1, (ePlan false a0))] [] ?_
 refine cRE [] 1 [(3, ap 3 0)] [1] [2] (fun L => (3, [ai 0, an, an, an, ai 0]) :: L) id ?_
 refine cRE [] 2 [(6, ap 3 0), (5, ai a0.sections), (4, ap 1 0)] [] [3] (fun L => ed 0 0 (ai a0.sections) L) id ?_
 obtain ⟨q14, h⟩ := h
 refine cSeqE [] [3] (fun L => ed 0 1 (af eInt (idt a0.switches)) L) id (True) ?_ (fun q4 => ?_)
 ·
  replace h := q14
  refine rgS [] 3 ?_
  have q5 := h
  refine sCallV 3 (some 9) [(8, al eInt a0.switches), (7, ap 1 1)] [al eInt a0.switches] (laws_toIntS_V a0.switches q5) (PW.cons (Snap2.of1 sa_lst) PW.nil) ?_
  exact sEJ [(10, ap 3 1)] trivial
 obtain ⟨q13, h⟩ := h
 refine cSeqE [] [3] (fun L => ed 0 2 (af (eWay false) (idt a0.ways)) L) id (True) ?_ (fun q6 => ?_)
 ·
  replace h := q13
  refine rgS [] 4 ?_
  have q7 := h
  refine sCallV 3 (some 13) [(12, al (eWay false) a0.ways), (11, ap 1 2)] [al (eWay false) a0.ways] (laws_toWayS_V a0.ways q7) (PW.cons (Snap2.of1 sa_lst) PW.nil) ?_
  exact sEJ [(14, ap 3 2)] trivial
 obtain ⟨q12, h⟩ := h
 refine cSeqE [] [3] (fun L => ed 0 3 (af (eL eBool false) (idt a0.bars)) L) id (True) ?_ (fun q8 => ?_)
 ·
  replace h := q12
  refine rgS [] 5 ?_
  have q9 := h
  refine sCallV 3 (some 17) [(16, al (eL eBool false) a0.bars), (15, ap 1 3)] [al (eL eBool false) a0.bars] (laws_toBoolSS_V a0.bars q9) (PW.cons (Snap2.of1 sa_lst) PW.nil) ?_
  exact sEJ [(18, ap 3 3)] trivial
 refine cRE [] 6 [(21, ap 3 4), (20, ai a0.hold), (19, ap 1 4)] [] [2] (fun L => ed 0 4 (ai a0.hold) L) id ?_
 refine cRE [] 7 [(22, .agg [ai a0.sections, af eInt (idt a0.switches), af (eWay false) (idt a0.ways), af (eL eBool false) (idt a0.bars), ai a0.hold])] [] [0, 1, 1] (fun L => er 1 [ai a0.sections, af eInt (idt a0.switches), af (eWay false) (idt a0.ways), af (eL eBool false) (idt a0.bars), ai a0.hold] L) id ?_
 exact cRet (rt1 (.agg [ai a0.sections, af eInt (idt a0.switches), af (eWay false) (idt a0.ways), af (eL eBool false) (idt a0.bars), ai a0.hold]) (SnapR3.agg (PW.cons (sr_int h.1) (PW.cons (sr_lst h.2.1) (PW.cons (sr_lst h.2.2.1) (PW.cons (sr_lst h.2.2.2.1) (PW.cons (sr_int h.2.2.2.2) PW.nil)))))))

theorem laws_toPlan_V (a0 : Plan) (hp : smallPlan a0) : FnV Try.prog 25 [.agg (ePlan false a0)] (.agg (ePlan true (idt a0))) := laws_toPlan_walk a0 (idt a0) (by
 have hp : a0.switches.length + waysN a0.ways + barsN a0.bars ≤ 1048576 := hp
 unfold laws_toPlan_C small smallWays smallBars
 exact ⟨by omega, by omega, by omega, rfl, rfl, rfl, rfl, rfl⟩)

noncomputable def slices_Index_int_b : Code := bodyC Try.f161
def slices_Index_int_C (a0 : (List Int)) (a1 : Int) (res : Int) (I0 : Int → Prop) (m0 : Int → Nat) : Prop :=
 a0.length ≤ 4611686018427387904 → I0 0 ∧ ∀ (v8 : Int), I0 v8 → (((decide (v8 < (a0.length : Int))) = false → (-1) = res) ∧ ((decide (v8 < (a0.length : Int))) = true → ((0 ≤ v8 ∧ v8.toNat < a0.length) ∧ ((a1 == (nth a0 v8)) = true → v8 = res)) ∧ ((!(a1 == (nth a0 v8))) = true → I0 (IntKind.i64.wrap (v8 + 1)) ∧ m0 (IntKind.i64.wrap (v8 + 1)) < m0 v8)))
theorem slices_Index_int_walk (a0 : (List Int)) (a1 : Int) (res : Int) (I0 : Int → Prop) (m0 : Int → Nat) (h : slices_Index_int_C a0 a1 res I0 m0) : FnV Try.prog 161 [al eInt a0, ai a1] (ai res) := by
 unfold slices_Index_int_C at h
 refine FnS.go (fn := Try.f161) [(0, al eInt a0), (1, ai a1)] Try.func161 ?_
 show WpS _ (nv slices_Index_int_b 1) _ ⟨mkS 19 [(0, al eInt a0), (1, ai a1)], [], []⟩
 refine cRM [] 0 [(4, ai 0)] [] [2] ?_
 refine cSeq ?_
 refine cSeqM [(7, ai (a0.length : Int)), (8, ai 0)] [2] (a0.length ≤ 4611686018427387904) ?_ (fun q2 => ?_)
 ·
  refine rgS [] 1 ?_
  refine sLen 2 (some 7) [(6, al eInt a0)] eInt a0 (fun q3 => ?_)
  exact sEJ [(8, ai 0)] q3
 replace h := h q2
 refine cBlock 0 ?_
 obtain ⟨q17, h⟩ := h
 refine cLoop (fun (v : Int) => (⟨(mkS 19 [(0, al eInt a0), (1, ai a1), (7, ai (a0.length : Int)), (8, ai v)]), [], []⟩ : St)) (fun (v : Int) => I0 v) (fun (v : Int) => m0 v) 0 (wkL []) q17 (fun v8 hI => ?_)
 replace h := h v8 hI
 refine cRM [] 2 [(9, ab (decide (v8 < (a0.length : Int))))] [1] [4] ?_
 obtain ⟨q16, h⟩ := h
 refine cSeqM [] [0, 1, 4] ((decide (v8 < (a0.length : Int))) = true) ?_ (fun q5 => ?_)
 ·
  replace h := q16
  refine cCond1 (fun q6 => ?_) (fun q6 => ?_)
  ·
   refine cSkip ?_
   exact QJoin.normal (by simp only [q6] <;> rfl) wkJ
  ·
   replace h := h q6
   refine cExit 0 ?_
   refine QJoin.exit ?_
   refine QRound.exit ?_
   refine QBlock.here ?_
   refine QSeq.normal ?_
   refine cSeqG ⟨(mkS 19 [(4, ai (-1))]), [], []⟩ (True) ?_ (fun q7 => ?_)
   ·
    refine rgS [] 7 ?_
    exact sEJ [(4, ai (-1))] trivial
   exact cRet (rt1 (ai (-1)) (SnapR3.of1 (sr_int h)))
 replace h := h q5
 obtain ⟨q15, h⟩ := h
 refine cSeqM [] [4] ((!(a1 == (nth a0 v8))) = true) ?_ (fun q8 => ?_)
 ·
  replace h := q15
  refine cBlock 1 ?_
  refine cRM [] 3 [(5, ai v8), (10, ai v8)] [1] [4] ?_
  obtain ⟨q14, h⟩ := h
  refine cSeqM [(16, ab (a1 == (nth a0 v8)))] [5] (True) ?_ (fun q10 => ?_)
  ·
   replace h := q14
   refine rgS [] 4 ?_
   have q11 := h
   refine sIdx 4 (some 14) [(13, ai v8), (12, al eInt a0), (11, ai a1)] eInt a0 1 q11 ?_
   exact sEJ [(16, ab (a1 == (nth a0 v8))), (15, ai (nth a0 v8))] trivial
  refine cCond1 (fun q12 => ?_) (fun q12 => ?_)
  ·
   replace h := h q12
   refine cRM [] 5 [(4, ai v8), (17, ai v8)] [1] [] ?_
   exact cRet (QBlock.ret (QJoin.ret (QRound.ret (QBlock.ret (QSeq.ret (rt1 (ai v8) (SnapR3.of1 (sr_int h))))))))
  ·
   refine cSkip ?_
   refine QBlock.normal ?_
   exact QJoin.normal (by simp only [q5, q12] <;> rfl) wkJ
 replace h := h q8
 refine rgS [] 6 ?_
 refine sEnd [(8, ai (IntKind.i64.wrap (v8 + 1))), (18, ai (IntKind.i64.wrap (v8 + 1)))] ?_
 exact QRound.again (IntKind.i64.wrap (v8 + 1)) h (wkL [])

theorem slices_Index_int_V (a0 : (List Int)) (a1 : Int) : FnV Try.prog 161 [al eInt a0, ai a1] (ai (idxInt a0 a1)) := slices_Index_int_walk a0 a1 (idxInt a0 a1) (upI a0.length (fun j => a1 == nth a0 j)) (upM a0.length) (by
 unfold slices_Index_int_C
 intro hn
 refine ⟨up_start (len0 _), fun v hI => ⟨fun hv => ?_, fun hv => ⟨⟨up_in hI hv, fun hp => ?_⟩, fun hp => up_step (lenI hn) hI hv (not_eq hp)⟩⟩⟩
 ·unfold idxInt; rw [up_none (q := fun x => a1 == x) hI hv]; rfl
 ·unfold idxInt; rw [up_first (q := fun x => a1 == x) hI hv hp]
  have := hI.1
  show v = (v.toNat : Int)
  omega)

noncomputable def slices_Contains_int_b : Code := bodyC Try.f130
def slices_Contains_int_C (a0 : (List Int)) (a1 : Int) (res : Bool) : Prop :=
 (decide ((idxInt a0 a1) ≥ 0)) = res
theorem slices_Contains_int_walk (a0 : (List Int)) (a1 : Int) (res : Bool) (h : slices_Contains_int_C a0 a1 res) : FnV Try.prog 130 [al eInt a0, ai a1] (ab res) := by
 unfold slices_Contains_int_C at h
 refine FnS.go (fn := Try.f130) [(0, al eInt a0), (1, ai a1)] Try.func130 ?_
 show WpS _ (nv slices_Contains_int_b 1) _ ⟨mkS 9 [(0, al eInt a0), (1, ai a1)], [], []⟩
 refine cRM [] 0 [(4, ab false)] [] [2] ?_
 refine cSeqM [(4, ab (decide ((idxInt a0 a1) ≥ 0)))] [] (True) ?_ (fun q2 => ?_)
 ·
  refine rgS [] 1 ?_
  refine sCallV 3 (some 7) [(6, ai a1), (5, al eInt a0)] [al eInt a0, ai a1] (slices_Index_int_V a0 a1) (PW.cons (Snap2.of1 sa_lst) (PW.cons (Snap2.of1 (.int _ _)) PW.nil)) ?_
  exact sEJ [(4, ab (decide ((idxInt a0 a1) ≥ 0))), (8, ab (decide ((idxInt a0 a1) ≥ 0)))] trivial
 exact cRet (rt1 (ab (decide ((idxInt a0 a1) ≥ 0))) (SnapR3.of1 (sr_bool h)))

theorem slices_Contains_int_V (a0 : (List Int)) (a1 : Int) : FnV Try.prog 130 [al eInt a0, ai a1] (ab (hasInt a0 a1)) := slices_Contains_int_walk a0 a1 (hasInt a0 a1) (by
 unfold slices_Contains_int_C
 exact idxInt_has a0 a1)

noncomputable def impl_meet_b : Code := bodyC Try.f74
def impl_meet_C (a0 : (List Int)) (a1 : (List Int)) (res : Bool) (I0 : Int → Prop) (m0 : Int → Nat) : Prop :=
 a0.length ≤ 4611686018427387904 → I0 0 ∧ ∀ (v9 : Int), I0 v9 → (((decide (v9 < (a0.length : Int))) = false → false = res) ∧ ((decide (v9 < (a0.length : Int))) = true → ((0 ≤ v9 ∧ v9.toNat < a0.length) ∧ ((hasInt a1 (nth a0 v9)) = true → true = res)) ∧ ((!(hasInt a1 (nth a0 v9))) = true → I0 (IntKind.i64.wrap (v9 + 1)) ∧ m0 (IntKind.i64.wrap (v9 + 1)) < m0 v9)))
theorem impl_meet_walk (a0 : (List Int)) (a1 : (List Int)) (res : Bool) (I0 : Int → Prop) (m0 : Int → Nat) (h : impl_meet_C a0 a1 res I0 m0) : FnV Try.prog 74 [al eInt a0, al eInt a1] (ab res) := by
 unfold impl_meet_C at h
 refine FnS.go (fn := Try.f74) [(0, al eInt a0), (1, al eInt a1)] Try.func74 ?_
 show WpS _ (nv impl_meet_b 1) _ ⟨mkS 17 [(0, al eInt a0), (1, al eInt a1)], [], []⟩
 refine cRM [] 0 [(4, ab false)] [] [2] ?_
 refine cSeq ?_
 refine cSeqM [(7, al eInt a0), (8, ai (a0.length : Int)), (9, ai 0)] [0, 1, 1] (a0.length ≤ 4611686018427387904) ?_ (fun q2 => ?_)
 ·
  refine rgS [] 1 ?_
  refine sLen 2 (some 8) [(7, al eInt a0)] eInt a0 (fun q3 => ?_)
  exact sEJ [(9, ai 0)] q3
 replace h := h q2
 refine cBlock 0 ?_
 obtain ⟨q17, h⟩ := h
 refine cLoop (fun (v : Int) => (⟨(mkS 17 [(1, al eInt a1), (7, al eInt a0), (8, ai (a0.length : Int)), (9, ai v)]), [], []⟩ : St)) (fun (v : Int) => I0 v) (fun (v : Int) => m0 v) 0 (wkL []) q17 (fun v9 hI => ?_)
 replace h := h v9 hI
 refine cRM [] 2 [(10, ab (decide (v9 < (a0.length : Int))))] [1] [4] ?_
 obtain ⟨q16, h⟩ := h
 refine cSeqM [] [0, 1, 4] ((decide (v9 < (a0.length : Int))) = true) ?_ (fun q5 => ?_)
 ·
  replace h := q16
  refine cCond1 (fun q6 => ?_) (fun q6 => ?_)
  ·
   refine cSkip ?_
   exact QJoin.normal (by simp only [q6] <;> rfl) wkJ
  ·
   replace h := h q6
   refine cExit 0 ?_
   refine QJoin.exit ?_
   refine QRound.exit ?_
   refine QBlock.here ?_
   refine QSeq.normal ?_
   refine cSeqG ⟨(mkS 17 [(4, ab false)]), [], []⟩ (True) ?_ (fun q7 => ?_)
   ·
    refine rgS [] 7 ?_
    exact sEJ [(4, ab false)] trivial
   exact cRet (rt1 (ab false) (SnapR3.of1 (sr_bool h)))
 replace h := h q5
 obtain ⟨q15, h⟩ := h
 refine cSeqM [] [4] ((!(hasInt a1 (nth a0 v9))) = true) ?_ (fun q8 => ?_)
 ·
  replace h := q15
  refine cBlock 1 ?_
  obtain ⟨q14, h⟩ := h
  refine cSeqM [(6, ai (nth a0 v9))] [4] (True) ?_ (fun q9 => ?_)
  ·
   replace h := q14
   refine rgS [] 3 ?_
   have q10 := h
   refine sIdx 1 (some 11) [] eInt a0 1 q10 ?_
   exact sEJ [(6, ai (nth a0 v9)), (12, ai (nth a0 v9))] trivial
  refine cSeqM [(15, ab (hasInt a1 (nth a0 v9)))] [0, 1, 4] (True) ?_ (fun q11 => ?_)
  ·
   refine rgS [] 4 ?_
   refine sCallV 3 (some 15) [(14, ai (nth a0 v9)), (13, al eInt a1)] [al eInt a1, ai (nth a0 v9)] (slices_Contains_int_V a1 (nth a0 v9)) (PW.cons (Snap2.of1 sa_lst) (PW.cons (Snap2.of1 (.int _ _)) PW.nil)) ?_
   exact sEJ [] trivial
  refine cCond1 (fun q12 => ?_) (fun q12 => ?_)
  ·
   replace h := h q12
   refine cRM [] 5 [(4, ab true)] [1] [] ?_
   exact cRet (QBlock.ret (QJoin.ret (QRound.ret (QBlock.ret (QSeq.ret (rt1 (ab true) (SnapR3.of1 (sr_bool h))))))))
  ·
   refine cSkip ?_
   refine QBlock.normal ?_
   exact QJoin.normal (by simp only [q5, q12] <;> rfl) wkJ
 replace h := h q8
 refine rgS [] 6 ?_
 refine sEnd [(9, ai (IntKind.i64.wrap (v9 + 1))), (16, ai (IntKind.i64.wrap (v9 + 1)))] ?_
 exact QRound.again (IntKind.i64.wrap (v9 + 1)) h (wkL [])

theorem impl_meet_V (a0 : (List Int)) (a1 : (List Int)) : FnV Try.prog 74 [al eInt a0, al eInt a1] (ab (meets a0 a1)) := impl_meet_walk a0 a1 (meets a0 a1) (upI a0.length (fun j => hasInt a1 (nth a0 j))) (upM a0.length) (by
 unfold impl_meet_C
 intro hn
 refine ⟨up_start (len0 _), fun v hI => ⟨fun hv => ?_, fun hv => ⟨⟨up_in hI hv, fun hp => ?_⟩, fun hp => up_step (lenI hn) hI hv (not_eq hp)⟩⟩⟩
 ·exact (up_nany (q := fun x => hasInt a1 x) hI hv).symm
 ·exact (up_any (q := fun x => hasInt a1 x) hI hv hp).symm)

noncomputable def slices_Clone_Lie_b : Code := bodyC Try.f158
def slices_Clone_Lie_C (a0 : (List Lie)) (res : (List Lie)) : Prop :=
 (a0 ≠ [] → (a0.length * 16 ≤ 140737488355328 ∧ a0.length ≤ 4611686018427387904) ∧ (a0 = res)) ∧ (a0 = [] → ∀ b2 : Bool, (b2 = true → [] = res) ∧ (b2 = false → (a0.length * 16 ≤ 140737488355328 ∧ a0.length ≤ 4611686018427387904) ∧ (a0 = res)))
theorem slices_Clone_Lie_walk (a0 : (List Lie)) (res : (List Lie)) (h : slices_Clone_Lie_C a0 res) : FnS Try.prog 158 [al eLie a0] [] (fun r H => r = rf 0 0 res.length ∧ H = [⟨0, 2, List.map eLie res⟩]) := by
 refine FnS.toOwn ?_
 unfold slices_Clone_Lie_C at h
 refine FnS.go (fn := Try.f158) [(0, al eLie a0)] Try.func158 ?_
 show WpS _ (nv slices_Clone_Lie_b 1) _ ⟨mkS 8 [(0, al eLie a0)], [], []⟩
 refine cRM [] 0 [(2, an)] [] [1] ?_
 refine cSeq ?_
 refine cSeq ?_
 refine rgS [] 1 ?_
 refine sNil 2 (some 4) [(3, al eLie a0)] eLie a0 (fun hx => ?_) (fun hx b2 => ?_)
 ·
  replace h := h.1 hx
  refine sEnd [] ?_
  refine QSeq.normal ?_
  refine cCond (.tmp 4) false (fun q3 => ?_) (fun q3 => ?_)
  ·
   cases q3
  ·
   refine cSkip ?_
   refine QSeq.normal ?_
   obtain ⟨q6, h⟩ := h
   refine cSeqG ⟨(mkS 8 [(2, rf 0 0 a0.length)]), [], [⟨0, 2, List.map eLie a0⟩]⟩ (True) ?_ (fun q4 => ?_)
   ·
    replace h := q6
    refine rgS [] 3 ?_
    have q5 := h
    refine sApp0 3 (some 7) [(6, al eLie a0), (5, an)] eLie a0 (refrs false (List.map eLie a0)) 0 2 16 (fun r => [⟨0, 2, r⟩]) rfl q5 ?_
    exact sEJ [(2, rf 0 0 a0.length)] trivial
   refine cRet ?_
   refine rtS (rf 0 0 a0.length) [rf 0 0 a0.length] ?_
   exact ⟨sg [some 0], own_of [some 0] rfl (by decide) ⟨rfl, (rowsOwn_eq (b := 0) (g := 0) (sz := 2) (xs := a0) (ys := res) rfl oLie h), trivial⟩, (.inr (ow_ref (by simp) rfl rfl (by have := congrArg List.length h; simpa using this)))⟩
 ·
  replace h := h.2 hx b2
  refine sEnd [] ?_
  refine QSeq.normal ?_
  refine cCond (.tmp 4) b2 (fun q7 => ?_) (fun q7 => ?_)
  ·
   replace h := h.1 q7
   refine cSeqG ⟨(mkS 8 [(2, an)]), [], []⟩ (True) ?_ (fun q8 => ?_)
   ·
    refine rgS [] 2 ?_
    exact sEJ [(2, an)] trivial
   refine cRet ?_
   refine QSeq.ret ?_
   refine rtS (an) [an] ?_
   exact ⟨sg [none], own_of [none] rfl (by decide) ⟨rfl, trivial, trivial⟩, (.inr (ow_nil (by simp) rfl rfl (by rw [← h]; rfl)))⟩
  ·
   replace h := h.2 q7
   refine cSkip ?_
   refine QSeq.normal ?_
   obtain ⟨q11, h⟩ := h
   refine cSeqG ⟨(mkS 8 [(2, rf 0 0 a0.length)]), [], [⟨0, 2, List.map eLie a0⟩]⟩ (True) ?_ (fun q9 => ?_)
   ·
    replace h := q11
    refine rgS [] 3 ?_
    have q10 := h
    refine sApp0 3 (some 7) [(6, al eLie a0), (5, an)] eLie a0 (refrs false (List.map eLie a0)) 0 2 16 (fun r => [⟨0, 2, r⟩]) rfl q10 ?_
    exact sEJ [(2, rf 0 0 a0.length)] trivial
   refine cRet ?_
   refine rtS (rf 0 0 a0.length) [rf 0 0 a0.length] ?_
   exact ⟨sg [some 0], own_of [some 0] rfl (by decide) ⟨rfl, (rowsOwn_eq (b := 0) (g := 0) (sz := 2) (xs := a0) (ys := res) rfl oLie h), trivial⟩, (.inr (ow_ref (by simp) rfl rfl (by have := congrArg List.length h; simpa using this)))⟩

theorem slices_Clone_Lie_O (a0 : (List Lie)) (hp : small a0) : FnS Try.prog 158 [al eLie a0] [] (fun r H => r = rf 0 0 ((idt a0).length) ∧ H = [⟨0, 2, List.map eLie (idt a0)⟩]) := slices_Clone_Lie_walk a0 (idt a0) (by
 have hp : a0.length ≤ 1048576 := hp
 unfold slices_Clone_Lie_C
 refine ⟨fun h => ⟨⟨by omega, by omega⟩, rfl⟩, fun h b => ⟨fun _ => ?_, fun _ => ⟨⟨by omega, by omega⟩, rfl⟩⟩⟩
 exact h.symm)

noncomputable def impl_needs_b : Code := bodyC Try.f123
def impl_needs_o1 : List Item := [iq 0, iq 1, iq 3, iq 4, ⟨2, true, false, [3, 4]⟩, ⟨5, true, false, []⟩, iq 6]
def impl_needs_o1a : List (List Nat) := [[], [0], [0, 1], [], [3], rg 0 5, rg 0 6]
def impl_needs_C (a0 : Way) (res : (List Lie)) : Prop :=
 ((small a0.lies) ∧ (((idt a0.lies).length + a0.flanks.length) * 16 ≤ 140737488355328 ∧ (idt a0.lies).length + a0.flanks.length ≤ 4611686018427387904)) ∧ (((idt a0.lies) ++ a0.flanks).length ≤ 4611686018427387904 ∧ ((idt a0.lies) ++ a0.flanks) = res)
theorem impl_needs_walk (a0 : Way) (res : (List Lie)) (h : impl_needs_C a0 res) : FnV Try.prog 123 [.agg (eWay false a0)] (af eLie res) := by
 unfold impl_needs_C at h
 refine FnS.go (fn := Try.f123) [(0, .agg (eWay false a0))] Try.func123 ?_
 show WpS _ (nv impl_needs_b 1) _ ⟨mkS 9 [(0, .agg (eWay false a0))], [], []⟩
 refine cRN [] 0 [(2, an), (1, ap 1 0)] [0, 1, 1] [] [(1, (eWay false a0))] [] ?_
 obtain ⟨q5, h⟩ := h
 refine cSeqE [(2, rf 0 1 (((idt a0.lies) ++ a0.flanks).length))] [] id (fun _ => [⟨1, 2, List.map eLie ((idt a0.lies) ++ a0.flanks)⟩]) (True) ?_ (fun q2 => ?_)
 ·
  replace h := q5
  refine rgD [] 1 impl_needs_o1 impl_needs_o1a [] ?_
  obtain ⟨q3, h⟩ := h
  refine tCallO 5 (some 5) [(7, al eLie a0.flanks), (6, ap 1 2), (4, al eLie a0.lies), (3, ap 1 1)] [al eLie a0.lies] (fun L H => floatsS Try.prog (opsN impl_needs_b 6) [3, 4] [(7, al eLie a0.flanks), (6, ap 1 2), (4, al eLie a0.lies), (3, ap 1 1), (1, ap 1 0)] L H) (rf 0 0 ((idt a0.lies).length)) [⟨0, 2, List.map eLie (idt a0.lies)⟩] (slices_Clone_Lie_O a0.lies q3) (PW.cons (Snap2.of1 sa_lst) PW.nil) (ownH_cons (fun _ => rfl) rfl) (shift_eq (shift_cons (fun _ => rfl) rfl) (by kernel_rfl)) (of_eqP (ψ := ((true = true ∧ true = true ∧ ((ap 1 2 : AV) = ap 1 2)) ∧ ((true = true ∧ true = true ∧ ((al eLie a0.flanks : AV) = al eLie a0.flanks)) ∧ True))) (by kernel_rfl) ⟨⟨rfl, rfl, rfl⟩, ⟨⟨rfl, rfl, rfl⟩, trivial⟩⟩) ?_
  have q4 := h
  refine tApp 1 (some 8) [] eLie (idt a0.lies) a0.flanks (refrs false (List.map eLie a0.flanks)) 0 0 2 16 (fun _ => True) (fun r => [⟨1, 2, r⟩]) rfl q4 trivial ?_
  exact tEJ [(2, rf 0 1 (((idt a0.lies) ++ a0.flanks).length))] trivial
 exact cRet (rt1 (rf 0 1 (((idt a0.lies) ++ a0.flanks).length)) (SnapR3.of1 (sr_blk' (sz := 2) (by simp) rfl (cLie) h)))

theorem impl_needs_V (a0 : Way) (hp : preNeeds a0) : FnV Try.prog 123 [.agg (eWay false a0)] (af eLie (needs a0)) := impl_needs_walk a0 (needs a0) (by
 obtain ⟨h1, h2⟩ := hp
 unfold impl_needs_C idt small
 exact ⟨⟨h1, by omega, by omega⟩, by rw [List.length_append]; omega, rfl⟩)

noncomputable def impl_twice_int_b : Code := bodyC Try.f129
def impl_twice_int_o4 : List Item := [iq 0, iq 1, iq 2, iq 3, iq 4, iq 5, iq 6, iq 7]
def impl_twice_int_o4a : List (List Nat) := [[], [], [0, 1], [], [], [3, 4], [3, 4, 5], rg 0 7]
def impl_twice_int_C1 (I0 : Int → Prop) (m0 : Int → Nat) (a0 : (List Int)) (res : Bool) : Prop :=
  a0.length ≤ 4611686018427387904 → I0 0 ∧ ∀ (v6 : Int), I0 v6 → (((decide (v6 < (a0.length : Int))) = false → false = res) ∧ ((decide (v6 < (a0.length : Int))) = true → (((0 ≤ v6 ∧ v6 ≤ (a0.length : Int)) ∧ (0 ≤ v6 ∧ v6.toNat < a0.length)) ∧ ((hasInt (a0.take v6.toNat) (nth a0 v6)) = true → true = res)) ∧ ((!(hasInt (a0.take v6.toNat) (nth a0 v6))) = true → I0 (IntKind.i64.wrap (v6 + 1)) ∧ m0 (IntKind.i64.wrap (v6 + 1)) < m0 v6)))
def impl_twice_int_C (a0 : (List Int)) (res : Bool) (I0 : Int → Prop) (m0 : Int → Nat) : Prop :=
 impl_twice_int_C1 I0 m0 a0 res
theorem impl_twice_int_walk (a0 : (List Int)) (res : Bool) (I0 : Int → Prop) (m0 : Int → Nat) (h : impl_twice_int_C a0 res I0 m0) : FnV Try.prog 129 [al eInt a0] (ab res) := by
 unfold impl_twice_int_C at h
 refine FnS.go (fn := Try.f129) [(0, al eInt a0)] Try.func129 ?_
 show WpS _ (nv impl_twice_int_b 1) _ ⟨mkS 18 [(0, al eInt a0)], [], []⟩
 refine cRM [] 0 [(2, ab false)] [] [1] ?_
 unfold impl_twice_int_C1 at h
 refine cSeq ?_
 refine cSeqM [(5, ai (a0.length : Int)), (6, ai 0)] [1] (a0.length ≤ 4611686018427387904) ?_ (fun q2 => ?_)
 ·
  refine rgS [] 1 ?_
  refine sLen 2 (some 5) [(4, al eInt a0)] eInt a0 (fun q3 => ?_)
  exact sEJ [(6, ai 0)] q3
 replace h := h q2
 refine cBlock 0 ?_
 obtain ⟨q18, h⟩ := h
 refine cLoop (fun (v : Int) => (⟨(mkS 18 [(0, al eInt a0), (5, ai (a0.length : Int)), (6, ai v)]), [], []⟩ : St)) (fun (v : Int) => I0 v) (fun (v : Int) => m0 v) 0 (wkL []) q18 (fun v6 hI => ?_)
 replace h := h v6 hI
 refine cRM [] 2 [(7, ab (decide (v6 < (a0.length : Int))))] [1] [3] ?_
 obtain ⟨q17, h⟩ := h
 refine cSeqM [] [0, 1, 3] ((decide (v6 < (a0.length : Int))) = true) ?_ (fun q5 => ?_)
 ·
  replace h := q17
  refine cCond1 (fun q6 => ?_) (fun q6 => ?_)
  ·
   refine cSkip ?_
   exact QJoin.normal (by simp only [q6] <;> rfl) wkJ
  ·
   replace h := h q6
   refine cExit 0 ?_
   refine QJoin.exit ?_
   refine QRound.exit ?_
   refine QBlock.here ?_
   refine QSeq.normal ?_
   refine cSeqG ⟨(mkS 18 [(2, ab false)]), [], []⟩ (True) ?_ (fun q7 => ?_)
   ·
    refine rgS [] 7 ?_
    exact sEJ [(2, ab false)] trivial
   exact cRet (rt1 (ab false) (SnapR3.of1 (sr_bool h)))
 replace h := h q5
 obtain ⟨q16, h⟩ := h
 refine cSeqM [] [3] ((!(hasInt (a0.take v6.toNat) (nth a0 v6))) = true) ?_ (fun q8 => ?_)
 ·
  replace h := q16
  refine cBlock 1 ?_
  refine cRM [] 3 [(3, ai v6), (8, ai v6)] [1] [3] ?_
  obtain ⟨q15, h⟩ := h
  refine cSeqM [(16, ab (hasInt (a0.take v6.toNat) (nth a0 v6)))] [0, 1, 3] (True) ?_ (fun q10 => ?_)
  ·
   replace h := q15
   refine rgD [] 4 impl_twice_int_o4 impl_twice_int_o4a [] ?_
   obtain ⟨q12, h⟩ := h
   refine tSlcTo 3 (some 11) [(10, ai v6), (9, al eInt a0)] eInt a0 1 false q12 ?_
   have q11 := h
   refine tIdx 3 (some 14) [(13, ai v6), (12, al eInt a0)] eInt a0 1 q11 ?_
   refine tCallV 2 (some 16) [(15, ai (nth a0 v6))] [al eInt (a0.take v6.toNat), ai (nth a0 v6)] (slices_Contains_int_V (a0.take v6.toNat) (nth a0 v6)) (PW.cons (Snap2.of1 sa_lst) (PW.cons (Snap2.of1 (.int _ _)) PW.nil)) ?_
   exact tEJ [] trivial
  refine cCond1 (fun q13 => ?_) (fun q13 => ?_)
  ·
   replace h := h q13
   refine cRM [] 5 [(2, ab true)] [1] [] ?_
   exact cRet (QBlock.ret (QJoin.ret (QRound.ret (QBlock.ret (QSeq.ret (rt1 (ab true) (SnapR3.of1 (sr_bool h))))))))
  ·
   refine cSkip ?_
   refine QBlock.normal ?_
   exact QJoin.normal (by simp only [q5, q13] <;> rfl) wkJ
 replace h := h q8
 refine rgS [] 6 ?_
 refine sEnd [(6, ai (IntKind.i64.wrap (v6 + 1))), (17, ai (IntKind.i64.wrap (v6 + 1)))] ?_
 exact QRound.again (IntKind.i64.wrap (v6 + 1)) h (wkL [])

theorem impl_twice_int_V (a0 : (List Int)) : FnV Try.prog 129 [al eInt a0] (ab (dup a0)) := impl_twice_int_walk a0 (dup a0) (upI a0.length (fun j => hasInt (a0.take j.toNat) (nth a0 j))) (upM a0.length) (by
 unfold impl_twice_int_C impl_twice_int_C1
 intro hn
 refine ⟨up_start (len0 _), fun v hI => ⟨fun hv => ?_, fun hv => ⟨⟨⟨⟨hI.1, hI.2.1⟩, up_in hI hv⟩, fun hp => ?_⟩, fun hp => up_step (lenI hn) hI hv (not_eq hp)⟩⟩⟩
 ·exact (dup_false (up_end hI hv)).symm
 ·exact (dup_true (up_in hI hv).1 (up_in hI hv).2 hp).symm)

noncomputable def laws_eqFault_b : Code := bodyC Try.f27
def laws_eqFault_C (a0 : Fault) (a1 : Fault) (res : Bool) : Prop :=
 ((a0.code != a1.code) = true → false = res) ∧ ((!(a0.code != a1.code)) = true → ((a0.pos != a1.pos) = true → false = res) ∧ ((!(a0.pos != a1.pos)) = true → true = res))
theorem laws_eqFault_walk (a0 : Fault) (a1 : Fault) (res : Bool) (h : laws_eqFault_C a0 a1 res) : FnV Try.prog 27 [.agg (eFault a0), .agg (eFault a1)] (ab res) := by
 unfold laws_eqFault_C at h
 refine FnS.go (fn := Try.f27) [(0, .agg (eFault a0)), (1, .agg (eFault a1))] Try.func27 ?_
 show WpS _ (nv laws_eqFault_b 1) _ ⟨mkS 15 [(0, .agg (eFault a0)), (1, .agg (eFault a1))], [], []⟩
 refine cRN [] 0 [(4, ab false), (3, ap 3 0), (2, ap 2 0)] [0, 1, 2] [] [(3, (eFault a1)), (2, (eFault a0))] [] ?_
 obtain ⟨q12, h⟩ := h
 refine cSeqM [] [2] ((!(a0.code != a1.code)) = true) ?_ (fun q2 => ?_)
 ·
  replace h := q12
  refine cRM [] 1 [(9, ab (a0.code != a1.code)), (8, ai a1.code), (7, ap 3 0), (6, ai a0.code), (5, ap 2 0)] [1] [2] ?_
  refine cCond1 (fun q4 => ?_) (fun q4 => ?_)
  ·
   replace h := h q4
   refine cRM [] 2 [(4, ab false)] [1] [] ?_
   exact cRet (QJoin.ret (rt1 (ab false) (SnapR3.of1 (sr_bool h))))
  ·
   refine cSkip ?_
   exact QJoin.normal (by simp only [q4] <;> rfl) wkJ
 replace h := h q2
 obtain ⟨q11, h⟩ := h
 refine cSeqM [] [] ((!(a0.pos != a1.pos)) = true) ?_ (fun q6 => ?_)
 ·
  replace h := q11
  refine cRM [] 3 [(14, ab (a0.pos != a1.pos)), (13, ai a1.pos), (12, ap 3 1), (11, ai a0.pos), (10, ap 2 1)] [1] [] ?_
  refine cCond1 (fun q8 => ?_) (fun q8 => ?_)
  ·
   replace h := h q8
   refine cRM [] 4 [(4, ab false)] [1] [] ?_
   exact cRet (QJoin.ret (rt1 (ab false) (SnapR3.of1 (sr_bool h))))
  ·
   refine cSkip ?_
   exact QJoin.normal (by simp only [q2, q8] <;> rfl) wkJ
 replace h := h q6
 refine cRM [] 5 [(4, ab true)] [1] [] ?_
 exact cRet (rt1 (ab true) (SnapR3.of1 (sr_bool h)))

theorem laws_eqFault_V (a0 : Fault) (a1 : Fault) : FnV Try.prog 27 [.agg (eFault a0), .agg (eFault a1)] (ab (eqv a0 a1)) := laws_eqFault_walk a0 a1 (eqv a0 a1) (by
 unfold laws_eqFault_C
 obtain ⟨c, p⟩ := a0
 obtain ⟨c', p'⟩ := a1
 simp [eqv]
 intros
 simp_all)

noncomputable def laws_eqIntS_b : Code := bodyC Try.f55
def laws_eqIntS_o6 : List Item := [iq 0, iq 1, iq 2, iq 3, iq 4, iq 5, iq 6, iq 7, iq 8]
def laws_eqIntS_o6a : List (List Nat) := [[], [], [0, 1], [0, 1, 2], [], [], [4, 5], [4, 5, 6], rg 0 8]
def laws_eqIntS_C1 (I0 : Int → Prop) (m0 : Int → Nat) (a0 a1 : (List Int)) (res : Bool) : Prop :=
  ((a0.length ≤ 4611686018427387904) ∧ (a1.length ≤ 4611686018427387904) → ((a0.length : Int) != (a1.length : Int)) = true → false = res) ∧ ((a0.length ≤ 4611686018427387904) ∧ (a1.length ≤ 4611686018427387904) ∧ ((!((a0.length : Int) != (a1.length : Int))) = true) → I0 0 ∧ ∀ (v5 : Int), I0 v5 → (((decide (v5 < (a0.length : Int))) = false → true = res) ∧ ((decide (v5 < (a0.length : Int))) = true → (((0 ≤ v5 ∧ v5.toNat < a0.length) ∧ (0 ≤ v5 ∧ v5.toNat < a1.length)) ∧ (((nth a0 v5) != (nth a1 v5)) = true → false = res)) ∧ ((!((nth a0 v5) != (nth a1 v5))) = true → I0 (IntKind.i64.wrap (v5 + 1)) ∧ m0 (IntKind.i64.wrap (v5 + 1)) < m0 v5))))
def laws_eqIntS_C (a0 : (List Int)) (a1 : (List Int)) (res : Bool) (I0 : Int → Prop) (m0 : Int → Nat) : Prop :=
 laws_eqIntS_C1 I0 m0 a0 a1 res
theorem laws_eqIntS_walk (a0 : (List Int)) (a1 : (List Int)) (res : Bool) (I0 : Int → Prop) (m0 : Int → Nat) (h : laws_eqIntS_C a0 a1 res I0 m0) : FnV Try.prog 55 [al eInt a0, al eInt a1] (ab res) := by
 unfold laws_eqIntS_C at h
 refine FnS.go (fn := Try.f55) [(0, al eInt a0), (1, al eInt a1)] Try.func55 ?_
 show WpS _ (nv laws_eqIntS_b 1) _ ⟨mkS 26 [(0, al eInt a0), (1, al eInt a1)], [], []⟩
 refine cRM [] 0 [(4, ab false)] [] [2] ?_
 unfold laws_eqIntS_C1 at h
 obtain ⟨q24, h⟩ := h
 refine cSeqM [] [2] ((a0.length ≤ 4611686018427387904) ∧ (a1.length ≤ 4611686018427387904) ∧ ((!((a0.length : Int) != (a1.length : Int))) = true)) ?_ (fun q2 => ?_)
 ·
  replace h := q24
  refine cSeqM [(10, ab ((a0.length : Int) != (a1.length : Int)))] [2] ((a0.length ≤ 4611686018427387904) ∧ (a1.length ≤ 4611686018427387904)) ?_ (fun q3 => ?_)
  ·
   refine rgS [] 1 ?_
   refine sLen 2 (some 7) [(6, al eInt a0)] eInt a0 (fun q4 => ?_)
   refine sLen 2 (some 9) [(8, al eInt a1)] eInt a1 (fun q5 => ?_)
   exact sEJ [(10, ab ((a0.length : Int) != (a1.length : Int)))] ⟨q4, q5⟩
  replace h := h q3
  refine cCond1 (fun q6 => ?_) (fun q6 => ?_)
  ·
   replace h := h q6
   refine cRM [] 2 [(4, ab false)] [1] [] ?_
   exact cRet (QJoin.ret (rt1 (ab false) (SnapR3.of1 (sr_bool h))))
  ·
   refine cSkip ?_
   exact QJoin.normal ⟨q3.1, q3.2, (by simp only [q6] <;> rfl)⟩ wkJ
 replace h := h q2
 refine cSeq ?_
 refine cRM [] 3 [(5, ai 0)] [1] [2] ?_
 refine cBlock 0 ?_
 obtain ⟨q23, h⟩ := h
 refine cLoop (fun (v : Int) => (⟨(mkS 26 [(0, al eInt a0), (1, al eInt a1), (5, ai v)]), [], []⟩ : St)) (fun (v : Int) => I0 v) (fun (v : Int) => m0 v) 0 (wkL []) q23 (fun v5 hI => ?_)
 replace h := h v5 hI
 obtain ⟨q22, h⟩ := h
 refine cSeqM [] [3] ((decide (v5 < (a0.length : Int))) = true) ?_ (fun q9 => ?_)
 ·
  replace h := q22
  refine cSeqM [(14, ab (decide (v5 < (a0.length : Int))))] [3] (True) ?_ (fun q10 => ?_)
  ·
   refine rgS [] 4 ?_
   refine sLen 3 (some 13) [(12, al eInt a0), (11, ai v5)] eInt a0 (fun q11 => ?_)
   exact sEJ [(14, ab (decide (v5 < (a0.length : Int))))] trivial
  refine cCond1 (fun q12 => ?_) (fun q12 => ?_)
  ·
   refine cSkip ?_
   exact QJoin.normal (by simp only [q2.2.2, q12] <;> rfl) wkJ
  ·
   replace h := h q12
   refine cExit 0 ?_
   refine QJoin.exit ?_
   refine QRound.exit ?_
   refine QBlock.here ?_
   refine QSeq.normal ?_
   refine cSeqG ⟨(mkS 26 [(4, ab true)]), [], []⟩ (True) ?_ (fun q13 => ?_)
   ·
    refine rgS [] 8 ?_
    exact sEJ [(4, ab true)] trivial
   exact cRet (rt1 (ab true) (SnapR3.of1 (sr_bool h)))
 replace h := h q9
 obtain ⟨q21, h⟩ := h
 refine cSeqM [] [3] ((!((nth a0 v5) != (nth a1 v5))) = true) ?_ (fun q14 => ?_)
 ·
  replace h := q21
  refine cBlock 1 ?_
  obtain ⟨q20, h⟩ := h
  refine cSeqM [(25, ab ((nth a0 v5) != (nth a1 v5)))] [3] (True) ?_ (fun q15 => ?_)
  ·
   replace h := q20
   refine rgD [] 6 laws_eqIntS_o6 laws_eqIntS_o6a [] ?_
   obtain ⟨q17, h⟩ := h
   refine tIdx 3 (some 19) [(18, ai v5), (17, al eInt a0)] eInt a0 1 q17 ?_
   have q16 := h
   refine tIdx 4 (some 23) [(22, ai v5), (21, al eInt a1), (20, ai (nth a0 v5))] eInt a1 1 q16 ?_
   exact tEJ [(25, ab ((nth a0 v5) != (nth a1 v5))), (24, ai (nth a1 v5))] trivial
  refine cCond1 (fun q18 => ?_) (fun q18 => ?_)
  ·
   replace h := h q18
   refine cRM [] 7 [(4, ab false)] [1] [] ?_
   exact cRet (QBlock.ret (QJoin.ret (QRound.ret (QBlock.ret (QSeq.ret (rt1 (ab false) (SnapR3.of1 (sr_bool h))))))))
  ·
   refine cSkip ?_
   refine QBlock.normal ?_
   exact QJoin.normal (by simp only [q2.2.2, q9, q18] <;> rfl) wkJ
 replace h := h q14
 refine rgS [] 5 ?_
 refine sEnd [(5, ai (IntKind.i64.wrap (v5 + 1))), (16, ai (IntKind.i64.wrap (v5 + 1))), (15, ai v5)] ?_
 exact QRound.again (IntKind.i64.wrap (v5 + 1)) h (wkL [])

theorem laws_eqIntS_V (a0 : (List Int)) (a1 : (List Int)) : FnV Try.prog 55 [al eInt a0, al eInt a1] (ab (eqv a0 a1)) := laws_eqIntS_walk a0 a1 (eqv a0 a1) (upI a0.length (fun v => nth a0 v != nth a1 v)) (upM a0.length) (by
 unfold laws_eqIntS_C laws_eqIntS_C1
 exact eq_loop (ne := fun v => nth a0 v != nth a1 v) (fun v => by simp [eqv]))

noncomputable def laws_eqLie_b : Code := bodyC Try.f169
def laws_eqLie_C (a0 : Lie) (a1 : Lie) (res : Bool) : Prop :=
 ((a0.sw != a1.sw) = true → false = res) ∧ ((!(a0.sw != a1.sw)) = true → ((a0.lie != a1.lie) = true → false = res) ∧ ((!(a0.lie != a1.lie)) = true → true = res))
theorem laws_eqLie_walk (a0 : Lie) (a1 : Lie) (res : Bool) (h : laws_eqLie_C a0 a1 res) : FnV Try.prog 169 [.agg (eLie a0), .agg (eLie a1)] (ab res) := by
 unfold laws_eqLie_C at h
 refine FnS.go (fn := Try.f169) [(0, .agg (eLie a0)), (1, .agg (eLie a1))] Try.func169 ?_
 show WpS _ (nv laws_eqLie_b 1) _ ⟨mkS 15 [(0, .agg (eLie a0)), (1, .agg (eLie a1))], [], []⟩
 refine cRN [] 0 [(4, ab false), (3, ap 3 0), (2, ap 2 0)] [0, 1, 2] [] [(3, (eLie a1)), (2, (eLie a0))] [] ?_
 obtain ⟨q12, h⟩ := h
 refine cSeqM [] [2] ((!(a0.sw != a1.sw)) = true) ?_ (fun q2 => ?_)
 ·
  replace h := q12
  refine cRM [] 1 [(9, ab (a0.sw != a1.sw)), (8, ai a1.sw), (7, ap 3 0), (6, ai a0.sw), (5, ap 2 0)] [1] [2] ?_
  refine cCond1 (fun q4 => ?_) (fun q4 => ?_)
  ·
   replace h := h q4
   refine cRM [] 2 [(4, ab false)] [1] [] ?_
   exact cRet (QJoin.ret (rt1 (ab false) (SnapR3.of1 (sr_bool h))))
  ·
   refine cSkip ?_
   exact QJoin.normal (by simp only [q4] <;> rfl) wkJ
 replace h := h q2
 obtain ⟨q11, h⟩ := h
 refine cSeqM [] [] ((!(a0.lie != a1.lie)) = true) ?_ (fun q6 => ?_)
 ·
  replace h := q11
  refine cRM [] 3 [(14, ab (a0.lie != a1.lie)), (13, ai a1.lie), (12, ap 3 1), (11, ai a0.lie), (10, ap 2 1)] [1] [] ?_
  refine cCond1 (fun q8 => ?_) (fun q8 => ?_)
  ·
   replace h := h q8
   refine cRM [] 4 [(4, ab false)] [1] [] ?_
   exact cRet (QJoin.ret (rt1 (ab false) (SnapR3.of1 (sr_bool h))))
  ·
   refine cSkip ?_
   exact QJoin.normal (by simp only [q2, q8] <;> rfl) wkJ
 replace h := h q6
 refine cRM [] 5 [(4, ab true)] [1] [] ?_
 exact cRet (rt1 (ab true) (SnapR3.of1 (sr_bool h)))

theorem laws_eqLie_V (a0 : Lie) (a1 : Lie) : FnV Try.prog 169 [.agg (eLie a0), .agg (eLie a1)] (ab (eqv a0 a1)) := laws_eqLie_walk a0 a1 (eqv a0 a1) (by
 unfold laws_eqLie_C
 obtain ⟨c, p⟩ := a0
 obtain ⟨c', p'⟩ := a1
 simp [eqv]
 intros
 simp_all)

noncomputable def laws_eqLieS_b : Code := bodyC Try.f162
def laws_eqLieS_o6 : List Item := [iq 0, iq 1, iq 2, iq 3, iq 4, iq 5, iq 6, iq 7, iq 8, iq 9]
def laws_eqLieS_o6a : List (List Nat) := [[], [], [0, 1], [0, 1, 2], [], [], [4, 5], [4, 5, 6], rg 0 8, rg 0 9]
def laws_eqLieS_C1 (I0 : Int → Prop) (m0 : Int → Nat) (a0 a1 : (List Lie)) (res : Bool) : Prop :=
  ((a0.length ≤ 4611686018427387904) ∧ (a1.length ≤ 4611686018427387904) → ((a0.length : Int) != (a1.length : Int)) = true → false = res) ∧ ((a0.length ≤ 4611686018427387904) ∧ (a1.length ≤ 4611686018427387904) ∧ ((!((a0.length : Int) != (a1.length : Int))) = true) → I0 0 ∧ ∀ (v5 : Int), I0 v5 → (((decide (v5 < (a0.length : Int))) = false → true = res) ∧ ((decide (v5 < (a0.length : Int))) = true → (((0 ≤ v5 ∧ v5.toNat < a0.length) ∧ (0 ≤ v5 ∧ v5.toNat < a1.length)) ∧ ((!(eqv (nth a0 v5) (nth a1 v5))) = true → false = res)) ∧ ((!(!(eqv (nth a0 v5) (nth a1 v5)))) = true → I0 (IntKind.i64.wrap (v5 + 1)) ∧ m0 (IntKind.i64.wrap (v5 + 1)) < m0 v5))))
def laws_eqLieS_C (a0 : (List Lie)) (a1 : (List Lie)) (res : Bool) (I0 : Int → Prop) (m0 : Int → Nat) : Prop :=
 laws_eqLieS_C1 I0 m0 a0 a1 res
theorem laws_eqLieS_walk (a0 : (List Lie)) (a1 : (List Lie)) (res : Bool) (I0 : Int → Prop) (m0 : Int → Nat) (h : laws_eqLieS_C a0 a1 res I0 m0) : FnV Try.prog 162 [al eLie a0, al eLie a1] (ab res) := by
 unfold laws_eqLieS_C at h
 refine FnS.go (fn := Try.f162) [(0, al eLie a0), (1, al eLie a1)] Try.func162 ?_
 show WpS _ (nv laws_eqLieS_b 1) _ ⟨mkS 27 [(0, al eLie a0), (1, al eLie a1)], [], []⟩
 refine cRM [] 0 [(4, ab false)] [] [2] ?_
 unfold laws_eqLieS_C1 at h
 obtain ⟨q24, h⟩ := h
 refine cSeqM [] [2] ((a0.length ≤ 4611686018427387904) ∧ (a1.length ≤ 4611686018427387904) ∧ ((!((a0.length : Int) != (a1.length : Int))) = true)) ?_ (fun q2 => ?_)
 ·
  replace h := q24
  refine cSeqM [(10, ab ((a0.length : Int) != (a1.length : Int)))] [2] ((a0.length ≤ 4611686018427387904) ∧ (a1.length ≤ 4611686018427387904)) ?_ (fun q3 => ?_)
  ·
   refine rgS [] 1 ?_
   refine sLen 2 (some 7) [(6, al eLie a0)] eLie a0 (fun q4 => ?_)
   refine sLen 2 (some 9) [(8, al eLie a1)] eLie a1 (fun q5 => ?_)
   exact sEJ [(10, ab ((a0.length : Int) != (a1.length : Int)))] ⟨q4, q5⟩
  replace h := h q3
  refine cCond1 (fun q6 => ?_) (fun q6 => ?_)
  ·
   replace h := h q6
   refine cRM [] 2 [(4, ab false)] [1] [] ?_
   exact cRet (QJoin.ret (rt1 (ab false) (SnapR3.of1 (sr_bool h))))
  ·
   refine cSkip ?_
   exact QJoin.normal ⟨q3.1, q3.2, (by simp only [q6] <;> rfl)⟩ wkJ
 replace h := h q2
 refine cSeq ?_
 refine cRM [] 3 [(5, ai 0)] [1] [2] ?_
 refine cBlock 0 ?_
 obtain ⟨q23, h⟩ := h
 refine cLoop (fun (v : Int) => (⟨(mkS 27 [(0, al eLie a0), (1, al eLie a1), (5, ai v)]), [], []⟩ : St)) (fun (v : Int) => I0 v) (fun (v : Int) => m0 v) 0 (wkL []) q23 (fun v5 hI => ?_)
 replace h := h v5 hI
 obtain ⟨q22, h⟩ := h
 refine cSeqM [] [3] ((decide (v5 < (a0.length : Int))) = true) ?_ (fun q9 => ?_)
 ·
  replace h := q22
  refine cSeqM [(14, ab (decide (v5 < (a0.length : Int))))] [3] (True) ?_ (fun q10 => ?_)
  ·
   refine rgS [] 4 ?_
   refine sLen 3 (some 13) [(12, al eLie a0), (11, ai v5)] eLie a0 (fun q11 => ?_)
   exact sEJ [(14, ab (decide (v5 < (a0.length : Int))))] trivial
  refine cCond1 (fun q12 => ?_) (fun q12 => ?_)
  ·
   refine cSkip ?_
   exact QJoin.normal (by simp only [q2.2.2, q12] <;> rfl) wkJ
  ·
   replace h := h q12
   refine cExit 0 ?_
   refine QJoin.exit ?_
   refine QRound.exit ?_
   refine QBlock.here ?_
   refine QSeq.normal ?_
   refine cSeqG ⟨(mkS 27 [(4, ab true)]), [], []⟩ (True) ?_ (fun q13 => ?_)
   ·
    refine rgS [] 8 ?_
    exact sEJ [(4, ab true)] trivial
   exact cRet (rt1 (ab true) (SnapR3.of1 (sr_bool h)))
 replace h := h q9
 obtain ⟨q21, h⟩ := h
 refine cSeqM [] [3] ((!(!(eqv (nth a0 v5) (nth a1 v5)))) = true) ?_ (fun q14 => ?_)
 ·
  replace h := q21
  refine cBlock 1 ?_
  obtain ⟨q20, h⟩ := h
  refine cSeqM [(26, ab (!(eqv (nth a0 v5) (nth a1 v5))))] [3] (True) ?_ (fun q15 => ?_)
  ·
   replace h := q20
   refine rgD [] 6 laws_eqLieS_o6 laws_eqLieS_o6a [] ?_
   obtain ⟨q17, h⟩ := h
   refine tIdx 3 (some 19) [(18, ai v5), (17, al eLie a0)] eLie a0 2 q17 ?_
   have q16 := h
   refine tIdx 4 (some 23) [(22, ai v5), (21, al eLie a1), (20, .agg (eLie (nth a0 v5)))] eLie a1 2 q16 ?_
   refine tCallV 2 (some 25) [(24, .agg (eLie (nth a1 v5)))] [.agg (eLie (nth a0 v5)), .agg (eLie (nth a1 v5))] (laws_eqLie_V (nth a0 v5) (nth a1 v5)) (PW.cons (Snap2.agg (PW.cons (.int _ _) (PW.cons (.int _ _) PW.nil))) (PW.cons (Snap2.agg (PW.cons (.int _ _) (PW.cons (.int _ _) PW.nil))) PW.nil)) ?_
   exact tEJ [(26, ab (!(eqv (nth a0 v5) (nth a1 v5))))] trivial
  refine cCond1 (fun q18 => ?_) (fun q18 => ?_)
  ·
   replace h := h q18
   refine cRM [] 7 [(4, ab false)] [1] [] ?_
   exact cRet (QBlock.ret (QJoin.ret (QRound.ret (QBlock.ret (QSeq.ret (rt1 (ab false) (SnapR3.of1 (sr_bool h))))))))
  ·
   refine cSkip ?_
   refine QBlock.normal ?_
   exact QJoin.normal (by simp only [q2.2.2, q9, q18] <;> rfl) wkJ
 replace h := h q14
 refine rgS [] 5 ?_
 refine sEnd [(5, ai (IntKind.i64.wrap (v5 + 1))), (16, ai (IntKind.i64.wrap (v5 + 1))), (15, ai v5)] ?_
 exact QRound.again (IntKind.i64.wrap (v5 + 1)) h (wkL [])

theorem laws_eqLieS_V (a0 : (List Lie)) (a1 : (List Lie)) : FnV Try.prog 162 [al eLie a0, al eLie a1] (ab (eqv a0 a1)) := laws_eqLieS_walk a0 a1 (eqv a0 a1) (upI a0.length (fun v => !(eqv (nth a0 v) (nth a1 v)))) (upM a0.length) (by
 unfold laws_eqLieS_C laws_eqLieS_C1
 exact eq_loop (ne := fun v => !(eqv (nth a0 v) (nth a1 v))) (fun v => by simp [eqv]))

noncomputable def laws_eqWay_b : Code := bodyC Try.f131
def laws_eqWay_C1 (a0 a1 : Way) (res : Bool) : Prop :=
  ((!(eqv a0.sections a1.sections)) = true → false = res) ∧ ((!(!(eqv a0.sections a1.sections))) = true → ((!(eqv a0.lies a1.lies)) = true → false = res) ∧ ((!(!(eqv a0.lies a1.lies))) = true → ((!(eqv a0.flanks a1.flanks)) = true → false = res) ∧ ((!(!(eqv a0.flanks a1.flanks))) = true → ((!(eqv a0.over a1.over)) = true → false = res) ∧ ((!(!(eqv a0.over a1.over))) = true → ((!(eqv a0.near a1.near)) = true → false = res) ∧ ((!(!(eqv a0.near a1.near))) = true → true = res)))))
def laws_eqWay_C (a0 : Way) (a1 : Way) (res : Bool) : Prop :=
 laws_eqWay_C1 a0 a1 res
theorem laws_eqWay_walk (a0 : Way) (a1 : Way) (res : Bool) (h : laws_eqWay_C a0 a1 res) : FnV Try.prog 131 [.agg (eWay false a0), .agg (eWay false a1)] (ab res) := by
 unfold laws_eqWay_C at h
 refine FnS.go (fn := Try.f131) [(0, .agg (eWay false a0)), (1, .agg (eWay false a1))] Try.func131 ?_
 show WpS _ (nv laws_eqWay_b 1) _ ⟨mkS 35 [(0, .agg (eWay false a0)), (1, .agg (eWay false a1))], [], []⟩
 refine cRN [] 0 [(4, ab false), (3, ap 3 0), (2, ap 2 0)] [0, 1, 2] [] [(3, (eWay false a1)), (2, (eWay false a0))] [] ?_
 unfold laws_eqWay_C1 at h
 obtain ⟨q27, h⟩ := h
 refine cSeqM [] [2] ((!(!(eqv a0.sections a1.sections))) = true) ?_ (fun q2 => ?_)
 ·
  replace h := q27
  refine cSeqM [(10, ab (!(eqv a0.sections a1.sections)))] [2] (True) ?_ (fun q3 => ?_)
  ·
   refine rgS [] 1 ?_
   refine sCallV 5 (some 9) [(8, al eInt a1.sections), (7, ap 3 0), (6, al eInt a0.sections), (5, ap 2 0)] [al eInt a0.sections, al eInt a1.sections] (laws_eqIntS_V a0.sections a1.sections) (PW.cons (Snap2.of1 sa_lst) (PW.cons (Snap2.of1 sa_lst) PW.nil)) ?_
   exact sEJ [(10, ab (!(eqv a0.sections a1.sections)))] trivial
  refine cCond1 (fun q4 => ?_) (fun q4 => ?_)
  ·
   replace h := h q4
   refine cRM [] 2 [(4, ab false)] [1] [] ?_
   exact cRet (QJoin.ret (rt1 (ab false) (SnapR3.of1 (sr_bool h))))
  ·
   refine cSkip ?_
   exact QJoin.normal (by simp only [q4] <;> rfl) wkJ
 replace h := h q2
 obtain ⟨q26, h⟩ := h
 refine cSeqM [] [2] ((!(!(eqv a0.lies a1.lies))) = true) ?_ (fun q6 => ?_)
 ·
  replace h := q26
  refine cSeqM [(16, ab (!(eqv a0.lies a1.lies)))] [2] (True) ?_ (fun q7 => ?_)
  ·
   refine rgS [] 3 ?_
   refine sCallV 5 (some 15) [(14, al eLie a1.lies), (13, ap 3 1), (12, al eLie a0.lies), (11, ap 2 1)] [al eLie a0.lies, al eLie a1.lies] (laws_eqLieS_V a0.lies a1.lies) (PW.cons (Snap2.of1 sa_lst) (PW.cons (Snap2.of1 sa_lst) PW.nil)) ?_
   exact sEJ [(16, ab (!(eqv a0.lies a1.lies)))] trivial
  refine cCond1 (fun q8 => ?_) (fun q8 => ?_)
  ·
   replace h := h q8
   refine cRM [] 4 [(4, ab false)] [1] [] ?_
   exact cRet (QJoin.ret (rt1 (ab false) (SnapR3.of1 (sr_bool h))))
  ·
   refine cSkip ?_
   exact QJoin.normal (by simp only [q2, q8] <;> rfl) wkJ
 replace h := h q6
 obtain ⟨q25, h⟩ := h
 refine cSeqM [] [2] ((!(!(eqv a0.flanks a1.flanks))) = true) ?_ (fun q10 => ?_)
 ·
  replace h := q25
  refine cSeqM [(22, ab (!(eqv a0.flanks a1.flanks)))] [2] (True) ?_ (fun q11 => ?_)
  ·
   refine rgS [] 5 ?_
   refine sCallV 5 (some 21) [(20, al eLie a1.flanks), (19, ap 3 2), (18, al eLie a0.flanks), (17, ap 2 2)] [al eLie a0.flanks, al eLie a1.flanks] (laws_eqLieS_V a0.flanks a1.flanks) (PW.cons (Snap2.of1 sa_lst) (PW.cons (Snap2.of1 sa_lst) PW.nil)) ?_
   exact sEJ [(22, ab (!(eqv a0.flanks a1.flanks)))] trivial
  refine cCond1 (fun q12 => ?_) (fun q12 => ?_)
  ·
   replace h := h q12
   refine cRM [] 6 [(4, ab false)] [1] [] ?_
   exact cRet (QJoin.ret (rt1 (ab false) (SnapR3.of1 (sr_bool h))))
  ·
   refine cSkip ?_
   exact QJoin.normal (by simp only [q2, q6, q12] <;> rfl) wkJ
 replace h := h q10
 obtain ⟨q24, h⟩ := h
 refine cSeqM [] [2] ((!(!(eqv a0.over a1.over))) = true) ?_ (fun q14 => ?_)
 ·
  replace h := q24
  refine cSeqM [(28, ab (!(eqv a0.over a1.over)))] [2] (True) ?_ (fun q15 => ?_)
  ·
   refine rgS [] 7 ?_
   refine sCallV 5 (some 27) [(26, al eInt a1.over), (25, ap 3 3), (24, al eInt a0.over), (23, ap 2 3)] [al eInt a0.over, al eInt a1.over] (laws_eqIntS_V a0.over a1.over) (PW.cons (Snap2.of1 sa_lst) (PW.cons (Snap2.of1 sa_lst) PW.nil)) ?_
   exact sEJ [(28, ab (!(eqv a0.over a1.over)))] trivial
  refine cCond1 (fun q16 => ?_) (fun q16 => ?_)
  ·
   replace h := h q16
   refine cRM [] 8 [(4, ab false)] [1] [] ?_
   exact cRet (QJoin.ret (rt1 (ab false) (SnapR3.of1 (sr_bool h))))
  ·
   refine cSkip ?_
   exact QJoin.normal (by simp only [q2, q6, q10, q16] <;> rfl) wkJ
 replace h := h q14
 obtain ⟨q23, h⟩ := h
 refine cSeqM [] [] ((!(!(eqv a0.near a1.near))) = true) ?_ (fun q18 => ?_)
 ·
  replace h := q23
  refine cSeqM [(34, ab (!(eqv a0.near a1.near)))] [] (True) ?_ (fun q19 => ?_)
  ·
   refine rgS [] 9 ?_
   refine sCallV 5 (some 33) [(32, al eInt a1.near), (31, ap 3 4), (30, al eInt a0.near), (29, ap 2 4)] [al eInt a0.near, al eInt a1.near] (laws_eqIntS_V a0.near a1.near) (PW.cons (Snap2.of1 sa_lst) (PW.cons (Snap2.of1 sa_lst) PW.nil)) ?_
   exact sEJ [(34, ab (!(eqv a0.near a1.near)))] trivial
  refine cCond1 (fun q20 => ?_) (fun q20 => ?_)
  ·
   replace h := h q20
   refine cRM [] 10 [(4, ab false)] [1] [] ?_
   exact cRet (QJoin.ret (rt1 (ab false) (SnapR3.of1 (sr_bool h))))
  ·
   refine cSkip ?_
   exact QJoin.normal (by simp only [q2, q6, q10, q14, q20] <;> rfl) wkJ
 replace h := h q18
 refine cRM [] 11 [(4, ab true)] [1] [] ?_
 exact cRet (rt1 (ab true) (SnapR3.of1 (sr_bool h)))

theorem laws_eqWay_V (a0 : Way) (a1 : Way) : FnV Try.prog 131 [.agg (eWay false a0), .agg (eWay false a1)] (ab (eqv a0 a1)) := laws_eqWay_walk a0 a1 (eqv a0 a1) (by
 unfold laws_eqWay_C laws_eqWay_C1
 obtain ⟨a, b, c, d, e⟩ := a0
 obtain ⟨a', b', c', d', e'⟩ := a1
 simp [eqv]
 refine ⟨fun h h1 => absurd h1 h, fun h => ⟨fun k _ k1 => absurd k1 k, ?_⟩⟩
 intros
 simp_all)

noncomputable def laws_eqWayS_b : Code := bodyC Try.f75
def laws_eqWayS_o6 : List Item := [iq 0, iq 1, iq 2, iq 3, iq 4, iq 5, iq 6, iq 7, iq 8, iq 9]
def laws_eqWayS_o6a : List (List Nat) := [[], [], [0, 1], [0, 1, 2], [], [], [4, 5], [4, 5, 6], rg 0 8, rg 0 9]
def laws_eqWayS_C1 (I0 : Int → Prop) (m0 : Int → Nat) (a0 a1 : (List Way)) (res : Bool) : Prop :=
  ((a0.length ≤ 4611686018427387904) ∧ (a1.length ≤ 4611686018427387904) → ((a0.length : Int) != (a1.length : Int)) = true → false = res) ∧ ((a0.length ≤ 4611686018427387904) ∧ (a1.length ≤ 4611686018427387904) ∧ ((!((a0.length : Int) != (a1.length : Int))) = true) → I0 0 ∧ ∀ (v5 : Int), I0 v5 → (((decide (v5 < (a0.length : Int))) = false → true = res) ∧ ((decide (v5 < (a0.length : Int))) = true → (((0 ≤ v5 ∧ v5.toNat < a0.length) ∧ (0 ≤ v5 ∧ v5.toNat < a1.length)) ∧ ((!(eqv (nth a0 v5) (nth a1 v5))) = true → false = res)) ∧ ((!(!(eqv (nth a0 v5) (nth a1 v5)))) = true → I0 (IntKind.i64.wrap (v5 + 1)) ∧ m0 (IntKind.i64.wrap (v5 + 1)) < m0 v5))))
def laws_eqWayS_C (a0 : (List Way)) (a1 : (List Way)) (res : Bool) (I0 : Int → Prop) (m0 : Int → Nat) : Prop :=
 laws_eqWayS_C1 I0 m0 a0 a1 res
theorem laws_eqWayS_walk (a0 : (List Way)) (a1 : (List Way)) (res : Bool) (I0 : Int → Prop) (m0 : Int → Nat) (h : laws_eqWayS_C a0 a1 res I0 m0) : FnV Try.prog 75 [al (eWay false) a0, al (eWay false) a1] (ab res) := by
 unfold laws_eqWayS_C at h
 refine FnS.go (fn := Try.f75) [(0, al (eWay false) a0), (1, al (eWay false) a1)] Try.func75 ?_
 show WpS _ (nv laws_eqWayS_b 1) _ ⟨mkS 27 [(0, al (eWay false) a0), (1, al (eWay false) a1)], [], []⟩
 refine cRM [] 0 [(4, ab false)] [] [2] ?_
 unfold laws_eqWayS_C1 at h
 obtain ⟨q24, h⟩ := h
 refine cSeqM [] [2] ((a0.length ≤ 4611686018427387904) ∧ (a1.length ≤ 4611686018427387904) ∧ ((!((a0.length : Int) != (a1.length : Int))) = true)) ?_ (fun q2 => ?_)
 ·
  replace h := q24
  refine cSeqM [(10, ab ((a0.length : Int) != (a1.length : Int)))] [2] ((a0.length ≤ 4611686018427387904) ∧ (a1.length ≤ 4611686018427387904)) ?_ (fun q3 => ?_)
  ·
   refine rgS [] 1 ?_
   refine sLen 2 (some 7) [(6, al (eWay false) a0)] (eWay false) a0 (fun q4 => ?_)
   refine sLen 2 (some 9) [(8, al (eWay false) a1)] (eWay false) a1 (fun q5 => ?_)
   exact sEJ [(10, ab ((a0.length : Int) != (a1.length : Int)))] ⟨q4, q5⟩
  replace h := h q3
  refine cCond1 (fun q6 => ?_) (fun q6 => ?_)
  ·
   replace h := h q6
   refine cRM [] 2 [(4, ab false)] [1] [] ?_
   exact cRet (QJoin.ret (rt1 (ab false) (SnapR3.of1 (sr_bool h))))
  ·
   refine cSkip ?_
   exact QJoin.normal ⟨q3.1, q3.2, (by simp only [q6] <;> rfl)⟩ wkJ
 replace h := h q2
 refine cSeq ?_
 refine cRM [] 3 [(5, ai 0)] [1] [2] ?_
 refine cBlock 0 ?_
 obtain ⟨q23, h⟩ := h
 refine cLoop (fun (v : Int) => (⟨(mkS 27 [(0, al (eWay false) a0), (1, al (eWay false) a1), (5, ai v)]), [], []⟩ : St)) (fun (v : Int) => I0 v) (fun (v : Int) => m0 v) 0 (wkL []) q23 (fun v5 hI => ?_)
 replace h := h v5 hI
 obtain ⟨q22, h⟩ := h
 refine cSeqM [] [3] ((decide (v5 < (a0.length : Int))) = true) ?_ (fun q9 => ?_)
 ·
  replace h := q22
  refine cSeqM [(14, ab (decide (v5 < (a0.length : Int))))] [3] (True) ?_ (fun q10 => ?_)
  ·
   refine rgS [] 4 ?_
   refine sLen 3 (some 13) [(12, al (eWay false) a0), (11, ai v5)] (eWay false) a0 (fun q11 => ?_)
   exact sEJ [(14, ab (decide (v5 < (a0.length : Int))))] trivial
  refine cCond1 (fun q12 => ?_) (fun q12 => ?_)
  ·
   refine cSkip ?_
   exact QJoin.normal (by simp only [q2.2.2, q12] <;> rfl) wkJ
  ·
   replace h := h q12
   refine cExit 0 ?_
   refine QJoin.exit ?_
   refine QRound.exit ?_
   refine QBlock.here ?_
   refine QSeq.normal ?_
   refine cSeqG ⟨(mkS 27 [(4, ab true)]), [], []⟩ (True) ?_ (fun q13 => ?_)
   ·
    refine rgS [] 8 ?_
    exact sEJ [(4, ab true)] trivial
   exact cRet (rt1 (ab true) (SnapR3.of1 (sr_bool h)))
 replace h := h q9
 obtain ⟨q21, h⟩ := h
 refine cSeqM [] [3] ((!(!(eqv (nth a0 v5) (nth a1 v5)))) = true) ?_ (fun q14 => ?_)
 ·
  replace h := q21
  refine cBlock 1 ?_
  obtain ⟨q20, h⟩ := h
  refine cSeqM [(26, ab (!(eqv (nth a0 v5) (nth a1 v5))))] [3] (True) ?_ (fun q15 => ?_)
  ·
   replace h := q20
   refine rgD [] 6 laws_eqWayS_o6 laws_eqWayS_o6a [] ?_
   obtain ⟨q17, h⟩ := h
   refine tIdx 3 (some 19) [(18, ai v5), (17, al (eWay false) a0)] (eWay false) a0 5 q17 ?_
   have q16 := h
   refine tIdx 4 (some 23) [(22, ai v5), (21, al (eWay false) a1), (20, .agg (eWay false (nth a0 v5)))] (eWay false) a1 5 q16 ?_
   refine tCallV 2 (some 25) [(24, .agg (eWay false (nth a1 v5)))] [.agg (eWay false (nth a0 v5)), .agg (eWay false (nth a1 v5))] (laws_eqWay_V (nth a0 v5) (nth a1 v5)) (PW.cons (Snap2.agg (PW.cons sa_lst (PW.cons sa_lst (PW.cons sa_lst (PW.cons sa_lst (PW.cons sa_lst PW.nil)))))) (PW.cons (Snap2.agg (PW.cons sa_lst (PW.cons sa_lst (PW.cons sa_lst (PW.cons sa_lst (PW.cons sa_lst PW.nil)))))) PW.nil)) ?_
   exact tEJ [(26, ab (!(eqv (nth a0 v5) (nth a1 v5))))] trivial
  refine cCond1 (fun q18 => ?_) (fun q18 => ?_)
  ·
   replace h := h q18
   refine cRM [] 7 [(4, ab false)] [1] [] ?_
   exact cRet (QBlock.ret (QJoin.ret (QRound.ret (QBlock.ret (QSeq.ret (rt1 (ab false) (SnapR3.of1 (sr_bool h))))))))
  ·
   refine cSkip ?_
   refine QBlock.normal ?_
   exact QJoin.normal (by simp only [q2.2.2, q9, q18] <;> rfl) wkJ
 replace h := h q14
 refine rgS [] 5 ?_
 refine sEnd [(5, ai (IntKind.i64.wrap (v5 + 1))), (16, ai (IntKind.i64.wrap (v5 + 1))), (15, ai v5)] ?_
 exact QRound.again (IntKind.i64.wrap (v5 + 1)) h (wkL [])

theorem laws_eqWayS_V (a0 : (List Way)) (a1 : (List Way)) : FnV Try.prog 75 [al (eWay false) a0, al (eWay false) a1] (ab (eqv a0 a1)) := laws_eqWayS_walk a0 a1 (eqv a0 a1) (upI a0.length (fun v => !(eqv (nth a0 v) (nth a1 v)))) (upM a0.length) (by
 unfold laws_eqWayS_C laws_eqWayS_C1
 exact eq_loop (ne := fun v => !(eqv (nth a0 v) (nth a1 v))) (fun v => by simp [eqv]))

noncomputable def laws_eqBoolS_b : Code := bodyC Try.f80
def laws_eqBoolS_o6 : List Item := [iq 0, iq 1, iq 2, iq 3, iq 4, iq 5, iq 6, iq 7, iq 8]
def laws_eqBoolS_o6a : List (List Nat) := [[], [], [0, 1], [0, 1, 2], [], [], [4, 5], [4, 5, 6], rg 0 8]
def laws_eqBoolS_C1 (I0 : Int → Prop) (m0 : Int → Nat) (a0 a1 : (List Bool)) (res : Bool) : Prop :=
  ((a0.length ≤ 4611686018427387904) ∧ (a1.length ≤ 4611686018427387904) → ((a0.length : Int) != (a1.length : Int)) = true → false = res) ∧ ((a0.length ≤ 4611686018427387904) ∧ (a1.length ≤ 4611686018427387904) ∧ ((!((a0.length : Int) != (a1.length : Int))) = true) → I0 0 ∧ ∀ (v5 : Int), I0 v5 → (((decide (v5 < (a0.length : Int))) = false → true = res) ∧ ((decide (v5 < (a0.length : Int))) = true → (((0 ≤ v5 ∧ v5.toNat < a0.length) ∧ (0 ≤ v5 ∧ v5.toNat < a1.length)) ∧ (((nth a0 v5) != (nth a1 v5)) = true → false = res)) ∧ ((!((nth a0 v5) != (nth a1 v5))) = true → I0 (IntKind.i64.wrap (v5 + 1)) ∧ m0 (IntKind.i64.wrap (v5 + 1)) < m0 v5))))
def laws_eqBoolS_C (a0 : (List Bool)) (a1 : (List Bool)) (res : Bool) (I0 : Int → Prop) (m0 : Int → Nat) : Prop :=
 laws_eqBoolS_C1 I0 m0 a0 a1 res
theorem laws_eqBoolS_walk (a0 : (List Bool)) (a1 : (List Bool)) (res : Bool) (I0 : Int → Prop) (m0 : Int → Nat) (h : laws_eqBoolS_C a0 a1 res I0 m0) : FnV Try.prog 80 [al eBool a0, al eBool a1] (ab res) := by
 unfold laws_eqBoolS_C at h
 refine FnS.go (fn := Try.f80) [(0, al eBool a0), (1, al eBool a1)] Try.func80 ?_
 show WpS _ (nv laws_eqBoolS_b 1) _ ⟨mkS 26 [(0, al eBool a0), (1, al eBool a1)], [], []⟩
 refine cRM [] 0 [(4, ab false)] [] [2] ?_
 unfold laws_eqBoolS_C1 at h
 obtain ⟨q24, h⟩ := h
 refine cSeqM [] [2] ((a0.length ≤ 4611686018427387904) ∧ (a1.length ≤ 4611686018427387904) ∧ ((!((a0.length : Int) != (a1.length : Int))) = true)) ?_ (fun q2 => ?_)
 ·
  replace h := q24
  refine cSeqM [(10, ab ((a0.length : Int) != (a1.length : Int)))] [2] ((a0.length ≤ 4611686018427387904) ∧ (a1.length ≤ 4611686018427387904)) ?_ (fun q3 => ?_)
  ·
   refine rgS [] 1 ?_
   refine sLen 2 (some 7) [(6, al eBool a0)] eBool a0 (fun q4 => ?_)
   refine sLen 2 (some 9) [(8, al eBool a1)] eBool a1 (fun q5 => ?_)
   exact sEJ [(10, ab ((a0.length : Int) != (a1.length : Int)))] ⟨q4, q5⟩
  replace h := h q3
  refine cCond1 (fun q6 => ?_) (fun q6 => ?_)
  ·
   replace h := h q6
   refine cRM [] 2 [(4, ab false)] [1] [] ?_
   exact cRet (QJoin.ret (rt1 (ab false) (SnapR3.of1 (sr_bool h))))
  ·
   refine cSkip ?_
   exact QJoin.normal ⟨q3.1, q3.2, (by simp only [q6] <;> rfl)⟩ wkJ
 replace h := h q2
 refine cSeq ?_
 refine cRM [] 3 [(5, ai 0)] [1] [2] ?_
 refine cBlock 0 ?_
 obtain ⟨q23, h⟩ := h
 refine cLoop (fun (v : Int) => (⟨(mkS 26 [(0, al eBool a0), (1, al eBool a1), (5, ai v)]), [], []⟩ : St)) (fun (v : Int) => I0 v) (fun (v : Int) => m0 v) 0 (wkL []) q23 (fun v5 hI => ?_)
 replace h := h v5 hI
 obtain ⟨q22, h⟩ := h
 refine cSeqM [] [3] ((decide (v5 < (a0.length : Int))) = true) ?_ (fun q9 => ?_)
 ·
  replace h := q22
  refine cSeqM [(14, ab (decide (v5 < (a0.length : Int))))] [3] (True) ?_ (fun q10 => ?_)
  ·
   refine rgS [] 4 ?_
   refine sLen 3 (some 13) [(12, al eBool a0), (11, ai v5)] eBool a0 (fun q11 => ?_)
   exact sEJ [(14, ab (decide (v5 < (a0.length : Int))))] trivial
  refine cCond1 (fun q12 => ?_) (fun q12 => ?_)
  ·
   refine cSkip ?_
   exact QJoin.normal (by simp only [q2.2.2, q12] <;> rfl) wkJ
  ·
   replace h := h q12
   refine cExit 0 ?_
   refine QJoin.exit ?_
   refine QRound.exit ?_
   refine QBlock.here ?_
   refine QSeq.normal ?_
   refine cSeqG ⟨(mkS 26 [(4, ab true)]), [], []⟩ (True) ?_ (fun q13 => ?_)
   ·
    refine rgS [] 8 ?_
    exact sEJ [(4, ab true)] trivial
   exact cRet (rt1 (ab true) (SnapR3.of1 (sr_bool h)))
 replace h := h q9
 obtain ⟨q21, h⟩ := h
 refine cSeqM [] [3] ((!((nth a0 v5) != (nth a1 v5))) = true) ?_ (fun q14 => ?_)
 ·
  replace h := q21
  refine cBlock 1 ?_
  obtain ⟨q20, h⟩ := h
  refine cSeqM [(25, ab ((nth a0 v5) != (nth a1 v5)))] [3] (True) ?_ (fun q15 => ?_)
  ·
   replace h := q20
   refine rgD [] 6 laws_eqBoolS_o6 laws_eqBoolS_o6a [] ?_
   obtain ⟨q17, h⟩ := h
   refine tIdx 3 (some 19) [(18, ai v5), (17, al eBool a0)] eBool a0 1 q17 ?_
   have q16 := h
   refine tIdx 4 (some 23) [(22, ai v5), (21, al eBool a1), (20, ab (nth a0 v5))] eBool a1 1 q16 ?_
   exact tEJ [(25, ab ((nth a0 v5) != (nth a1 v5))), (24, ab (nth a1 v5))] trivial
  refine cCond1 (fun q18 => ?_) (fun q18 => ?_)
  ·
   replace h := h q18
   refine cRM [] 7 [(4, ab false)] [1] [] ?_
   exact cRet (QBlock.ret (QJoin.ret (QRound.ret (QBlock.ret (QSeq.ret (rt1 (ab false) (SnapR3.of1 (sr_bool h))))))))
  ·
   refine cSkip ?_
   refine QBlock.normal ?_
   exact QJoin.normal (by simp only [q2.2.2, q9, q18] <;> rfl) wkJ
 replace h := h q14
 refine rgS [] 5 ?_
 refine sEnd [(5, ai (IntKind.i64.wrap (v5 + 1))), (16, ai (IntKind.i64.wrap (v5 + 1))), (15, ai v5)] ?_
 exact QRound.again (IntKind.i64.wrap (v5 + 1)) h (wkL [])

theorem laws_eqBoolS_V (a0 : (List Bool)) (a1 : (List Bool)) : FnV Try.prog 80 [al eBool a0, al eBool a1] (ab (eqv a0 a1)) := laws_eqBoolS_walk a0 a1 (eqv a0 a1) (upI a0.length (fun v => nth a0 v != nth a1 v)) (upM a0.length) (by
 unfold laws_eqBoolS_C laws_eqBoolS_C1
 exact eq_loop (ne := fun v => nth a0 v != nth a1 v) (fun v => by simp [eqv]))

noncomputable def laws_eqBoolSS_b : Code := bodyC Try.f76
def laws_eqBoolSS_o6 : List Item := [iq 0, iq 1, iq 2, iq 3, iq 4, iq 5, iq 6, iq 7, iq 8, iq 9]
def laws_eqBoolSS_o6a : List (List Nat) := [[], [], [0, 1], [0, 1, 2], [], [], [4, 5], [4, 5, 6], rg 0 8, rg 0 9]
def laws_eqBoolSS_C1 (I0 : Int → Prop) (m0 : Int → Nat) (a0 a1 : (List (List Bool))) (res : Bool) : Prop :=
  ((a0.length ≤ 4611686018427387904) ∧ (a1.length ≤ 4611686018427387904) → ((a0.length : Int) != (a1.length : Int)) = true → false = res) ∧ ((a0.length ≤ 4611686018427387904) ∧ (a1.length ≤ 4611686018427387904) ∧ ((!((a0.length : Int) != (a1.length : Int))) = true) → I0 0 ∧ ∀ (v5 : Int), I0 v5 → (((decide (v5 < (a0.length : Int))) = false → true = res) ∧ ((decide (v5 < (a0.length : Int))) = true → (((0 ≤ v5 ∧ v5.toNat < a0.length) ∧ (0 ≤ v5 ∧ v5.toNat < a1.length)) ∧ ((!(eqv (nth a0 v5) (nth a1 v5))) = true → false = res)) ∧ ((!(!(eqv (nth a0 v5) (nth a1 v5)))) = true → I0 (IntKind.i64.wrap (v5 + 1)) ∧ m0 (IntKind.i64.wrap (v5 + 1)) < m0 v5))))
def laws_eqBoolSS_C (a0 : (List (List Bool))) (a1 : (List (List Bool))) (res : Bool) (I0 : Int → Prop) (m0 : Int → Nat) : Prop :=
 laws_eqBoolSS_C1 I0 m0 a0 a1 res
theorem laws_eqBoolSS_walk (a0 : (List (List Bool))) (a1 : (List (List Bool))) (res : Bool) (I0 : Int → Prop) (m0 : Int → Nat) (h : laws_eqBoolSS_C a0 a1 res I0 m0) : FnV Try.prog 76 [al (eL eBool false) a0, al (eL eBool false) a1] (ab res) := by
 unfold laws_eqBoolSS_C at h
 refine FnS.go (fn := Try.f76) [(0, al (eL eBool false) a0), (1, al (eL eBool false) a1)] Try.func76 ?_
 show WpS _ (nv laws_eqBoolSS_b 1) _ ⟨mkS 27 [(0, al (eL eBool false) a0), (1, al (eL eBool false) a1)], [], []⟩
 refine cRM [] 0 [(4, ab false)] [] [2] ?_
 unfold laws_eqBoolSS_C1 at h
 obtain ⟨q24, h⟩ := h
 refine cSeqM [] [2] ((a0.length ≤ 4611686018427387904) ∧ (a1.length ≤ 4611686018427387904) ∧ ((!((a0.length : Int) != (a1.length : Int))) = true)) ?_ (fun q2 => ?_)
 ·
  replace h := q24
  refine cSeqM [(10, ab ((a0.length : Int) != (a1.length : Int)))] [2] ((a0.length ≤ 4611686018427387904) ∧ (a1.length ≤ 4611686018427387904)) ?_ (fun q3 => ?_)
  ·
   refine rgS [] 1 ?_
   refine sLen 2 (some 7) [(6, al (eL eBool false) a0)] (eL eBool false) a0 (fun q4 => ?_)
   refine sLen 2 (some 9) [(8, al (eL eBool false) a1)] (eL eBool false) a1 (fun q5 => ?_)
   exact sEJ [(10, ab ((a0.length : Int) != (a1.length : Int)))] ⟨q4, q5⟩
  replace h := h q3
  refine cCond1 (fun q6 => ?_) (fun q6 => ?_)
  ·
   replace h := h q6
   refine cRM [] 2 [(4, ab false)] [1] [] ?_
   exact cRet (QJoin.ret (rt1 (ab false) (SnapR3.of1 (sr_bool h))))
  ·
   refine cSkip ?_
   exact QJoin.normal ⟨q3.1, q3.2, (by simp only [q6] <;> rfl)⟩ wkJ
 replace h := h q2
 refine cSeq ?_
 refine cRM [] 3 [(5, ai 0)] [1] [2] ?_
 refine cBlock 0 ?_
 obtain ⟨q23, h⟩ := h
 refine cLoop (fun (v : Int) => (⟨(mkS 27 [(0, al (eL eBool false) a0), (1, al (eL eBool false) a1), (5, ai v)]), [], []⟩ : St)) (fun (v : Int) => I0 v) (fun (v : Int) => m0 v) 0 (wkL []) q23 (fun v5 hI => ?_)
 replace h := h v5 hI
 obtain ⟨q22, h⟩ := h
 refine cSeqM [] [3] ((decide (v5 < (a0.length : Int))) = true) ?_ (fun q9 => ?_)
 ·
  replace h := q22
  refine cSeqM [(14, ab (decide (v5 < (a0.length : Int))))] [3] (True) ?_ (fun q10 => ?_)
  ·
   refine rgS [] 4 ?_
   refine sLen 3 (some 13) [(12, al (eL eBool false) a0), (11, ai v5)] (eL eBool false) a0 (fun q11 => ?_)
   exact sEJ [(14, ab (decide (v5 < (a0.length : Int))))] trivial
  refine cCond1 (fun q12 => ?_) (fun q12 => ?_)
  ·
   refine cSkip ?_
   exact QJoin.normal (by simp only [q2.2.2, q12] <;> rfl) wkJ
  ·
   replace h := h q12
   refine cExit 0 ?_
   refine QJoin.exit ?_
   refine QRound.exit ?_
   refine QBlock.here ?_
   refine QSeq.normal ?_
   refine cSeqG ⟨(mkS 27 [(4, ab true)]), [], []⟩ (True) ?_ (fun q13 => ?_)
   ·
    refine rgS [] 8 ?_
    exact sEJ [(4, ab true)] trivial
   exact cRet (rt1 (ab true) (SnapR3.of1 (sr_bool h)))
 replace h := h q9
 obtain ⟨q21, h⟩ := h
 refine cSeqM [] [3] ((!(!(eqv (nth a0 v5) (nth a1 v5)))) = true) ?_ (fun q14 => ?_)
 ·
  replace h := q21
  refine cBlock 1 ?_
  obtain ⟨q20, h⟩ := h
  refine cSeqM [(26, ab (!(eqv (nth a0 v5) (nth a1 v5))))] [3] (True) ?_ (fun q15 => ?_)
  ·
   replace h := q20
   refine rgD [] 6 laws_eqBoolSS_o6 laws_eqBoolSS_o6a [] ?_
   obtain ⟨q17, h⟩ := h
   refine tIdx 3 (some 19) [(18, ai v5), (17, al (eL eBool false) a0)] (eL eBool false) a0 1 q17 ?_
   have q16 := h
   refine tIdx 4 (some 23) [(22, ai v5), (21, al (eL eBool false) a1), (20, al eBool (nth a0 v5))] (eL eBool false) a1 1 q16 ?_
   refine tCallV 2 (some 25) [(24, al eBool (nth a1 v5))] [al eBool (nth a0 v5), al eBool (nth a1 v5)] (laws_eqBoolS_V (nth a0 v5) (nth a1 v5)) (PW.cons (Snap2.of1 sa_lst) (PW.cons (Snap2.of1 sa_lst) PW.nil)) ?_
   exact tEJ [(26, ab (!(eqv (nth a0 v5) (nth a1 v5))))] trivial
  refine cCond1 (fun q18 => ?_) (fun q18 => ?_)
  ·
   replace h := h q18
   refine cRM [] 7 [(4, ab false)] [1] [] ?_
   exact cRet (QBlock.ret (QJoin.ret (QRound.ret (QBlock.ret (QSeq.ret (rt1 (ab false) (SnapR3.of1 (sr_bool h))))))))
  ·
   refine cSkip ?_
   refine QBlock.normal ?_
   exact QJoin.normal (by simp only [q2.2.2, q9, q18] <;> rfl) wkJ
 replace h := h q14
 refine rgS [] 5 ?_
 refine sEnd [(5, ai (IntKind.i64.wrap (v5 + 1))), (16, ai (IntKind.i64.wrap (v5 + 1))), (15, ai v5)] ?_
 exact QRound.again (IntKind.i64.wrap (v5 + 1)) h (wkL [])

theorem laws_eqBoolSS_V (a0 : (List (List Bool))) (a1 : (List (List Bool))) : FnV Try.prog 76 [al (eL eBool false) a0, al (eL eBool false) a1] (ab (eqv a0 a1)) := laws_eqBoolSS_walk a0 a1 (eqv a0 a1) (upI a0.length (fun v => !(eqv (nth a0 v) (nth a1 v)))) (upM a0.length) (by
 unfold laws_eqBoolSS_C laws_eqBoolSS_C1
 exact eq_loop (ne := fun v => !(eqv (nth a0 v) (nth a1 v))) (fun v => by simp [eqv]))

noncomputable def laws_eqPlan_b : Code := bodyC Try.f28
def laws_eqPlan_C1 (a0 a1 : Plan) (res : Bool) : Prop :=
  ((a0.sections != a1.sections) = true → false = res) ∧ ((!(a0.sections != a1.sections)) = true → ((!(eqv a0.switches a1.switches)) = true → false = res) ∧ ((!(!(eqv a0.switches a1.switches))) = true → ((!(eqv a0.ways a1.ways)) = true → false = res) ∧ ((!(!(eqv a0.ways a1.ways))) = true → ((!(eqv a0.bars a1.bars)) = true → false = res) ∧ ((!(!(eqv a0.bars a1.bars))) = true → ((a0.hold != a1.hold) = true → false = res) ∧ ((!(a0.hold != a1.hold)) = true → true = res)))))
def laws_eqPlan_C (a0 : Plan) (a1 : Plan) (res : Bool) : Prop :=
 laws_eqPlan_C1 a0 a1 res
theorem laws_eqPlan_walk (a0 : Plan) (a1 : Plan) (res : Bool) (h : laws_eqPlan_C a0 a1 res) : FnV Try.prog 28 [.agg (ePlan false a0), .agg (ePlan false a1)] (ab res) := by
 unfold laws_eqPlan_C at h
 refine FnS.go (fn := Try.f28) [(0, .agg (ePlan false a0)), (1, .agg (ePlan false a1))] Try.func28 ?_
 show WpS _ (nv laws_eqPlan_b 1) _ ⟨mkS 33 [(0, .agg (ePlan false a0)), (1, .agg (ePlan false a1))], [], []⟩
 refine cRN [] 0 [(4, ab false), (3, ap 3 0), (2, ap 2 0)] [0, 1, 2] [] [(3, (ePlan false a1)), (2, (ePlan false a0))] [] ?_
 unfold laws_eqPlan_C1 at h
 obtain ⟨q27, h⟩ := h
 refine cSeqM [] [2] ((!(a0.sections != a1.sections)) = true) ?_ (fun q2 => ?_)
 ·
  replace h := q27
  refine cRM [] 1 [(9, ab (a0.sections != a1.sections)), (8, ai a1.sections), (7, ap 3 0), (6, ai a0.sections), (5, ap 2 0)] [1] [2] ?_
  refine cCond1 (fun q4 => ?_) (fun q4 => ?_)
  ·
   replace h := h q4
   refine cRM [] 2 [(4, ab false)] [1] [] ?_
   exact cRet (QJoin.ret (rt1 (ab false) (SnapR3.of1 (sr_bool h))))
  ·
   refine cSkip ?_
   exact QJoin.normal (by simp only [q4] <;> rfl) wkJ
 replace h := h q2
 obtain ⟨q26, h⟩ := h
 refine cSeqM [] [2] ((!(!(eqv a0.switches a1.switches))) = true) ?_ (fun q6 => ?_)
 ·
  replace h := q26
  refine cSeqM [(15, ab (!(eqv a0.switches a1.switches)))] [2] (True) ?_ (fun q7 => ?_)
  ·
   refine rgS [] 3 ?_
   refine sCallV 5 (some 14) [(13, al eInt a1.switches), (12, ap 3 1), (11, al eInt a0.switches), (10, ap 2 1)] [al eInt a0.switches, al eInt a1.switches] (laws_eqIntS_V a0.switches a1.switches) (PW.cons (Snap2.of1 sa_lst) (PW.cons (Snap2.of1 sa_lst) PW.nil)) ?_
   exact sEJ [(15, ab (!(eqv a0.switches a1.switches)))] trivial
  refine cCond1 (fun q8 => ?_) (fun q8 => ?_)
  ·
   replace h := h q8
   refine cRM [] 4 [(4, ab false)] [1] [] ?_
   exact cRet (QJoin.ret (rt1 (ab false) (SnapR3.of1 (sr_bool h))))
  ·
   refine cSkip ?_
   exact QJoin.normal (by simp only [q2, q8] <;> rfl) wkJ
 replace h := h q6
 obtain ⟨q25, h⟩ := h
 refine cSeqM [] [2] ((!(!(eqv a0.ways a1.ways))) = true) ?_ (fun q10 => ?_)
 ·
  replace h := q25
  refine cSeqM [(21, ab (!(eqv a0.ways a1.ways)))] [2] (True) ?_ (fun q11 => ?_)
  ·
   refine rgS [] 5 ?_
   refine sCallV 5 (some 20) [(19, al (eWay false) a1.ways), (18, ap 3 2), (17, al (eWay false) a0.ways), (16, ap 2 2)] [al (eWay false) a0.ways, al (eWay false) a1.ways] (laws_eqWayS_V a0.ways a1.ways) (PW.cons (Snap2.of1 sa_lst) (PW.cons (Snap2.of1 sa_lst) PW.nil)) ?_
   exact sEJ [(21, ab (!(eqv a0.ways a1.ways)))] trivial
  refine cCond1 (fun q12 => ?_) (fun q12 => ?_)
  ·
   replace h := h q12
   refine cRM [] 6 [(4, ab false)] [1] [] ?_
   exact cRet (QJoin.ret (rt1 (ab false) (SnapR3.of1 (sr_bool h))))
  ·
   refine cSkip ?_
   exact QJoin.normal (by simp only [q2, q6, q12] <;> rfl) wkJ
 replace h := h q10
 obtain ⟨q24, h⟩ := h
 refine cSeqM [] [2] ((!(!(eqv a0.bars a1.bars))) = true) ?_ (fun q14 => ?_)
 ·
  replace h := q24
  refine cSeqM [(27, ab (!(eqv a0.bars a1.bars)))] [2] (True) ?_ (fun q15 => ?_)
  ·
   refine rgS [] 7 ?_
   refine sCallV 5 (some 26) [(25, al (eL eBool false) a1.bars), (24, ap 3 3), (23, al (eL eBool false) a0.bars), (22, ap 2 3)] [al (eL eBool false) a0.bars, al (eL eBool false) a1.bars] (laws_eqBoolSS_V a0.bars a1.bars) (PW.cons (Snap2.of1 sa_lst) (PW.cons (Snap2.of1 sa_lst) PW.nil)) ?_
   exact sEJ [(27, ab (!(eqv a0.bars a1.bars)))] trivial
  refine cCond1 (fun q16 => ?_) (fun q16 => ?_)
  ·
   replace h := h q16
   refine cRM [] 8 [(4, ab false)] [1] [] ?_
   exact cRet (QJoin.ret (rt1 (ab false) (SnapR3.of1 (sr_bool h))))
  ·
   refine cSkip ?_
   exact QJoin.normal (by simp only [q2, q6, q10, q16] <;> rfl) wkJ
 replace h := h q14
 obtain ⟨q23, h⟩ := h
 refine cSeqM [] [] ((!(a0.hold != a1.hold)) = true) ?_ (fun q18 => ?_)
 ·
  replace h := q23
  refine cRM [] 9 [(32, ab (a0.hold != a1.hold)), (31, ai a1.hold), (30, ap 3 4), (29, ai a0.hold), (28, ap 2 4)] [1] [] ?_
  refine cCond1 (fun q20 => ?_) (fun q20 => ?_)
  ·
   replace h := h q20
   refine cRM [] 10 [(4, ab false)] [1] [] ?_
   exact cRet (QJoin.ret (rt1 (ab false) (SnapR3.of1 (sr_bool h))))
  ·
   refine cSkip ?_
   exact QJoin.normal (by simp only [q2, q6, q10, q14, q20] <;> rfl) wkJ
 replace h := h q18
 refine cRM [] 11 [(4, ab true)] [1] [] ?_
 exact cRet (rt1 (ab true) (SnapR3.of1 (sr_bool h)))

theorem laws_eqPlan_V (a0 : Plan) (a1 : Plan) : FnV Try.prog 28 [.agg (ePlan false a0), .agg (ePlan false a1)] (ab (eqv a0 a1)) := laws_eqPlan_walk a0 a1 (eqv a0 a1) (by
 unfold laws_eqPlan_C laws_eqPlan_C1
 obtain ⟨a, b, c, d, e⟩ := a0
 obtain ⟨a', b', c', d', e'⟩ := a1
 simp [eqv]
 refine ⟨fun h h1 => absurd h1 h, fun h => ⟨fun k _ k1 => absurd k1 k, ?_⟩⟩
 intros
 simp_all)

end Go.Proofs.Ytglpfccgmfhkdaa.Fw
