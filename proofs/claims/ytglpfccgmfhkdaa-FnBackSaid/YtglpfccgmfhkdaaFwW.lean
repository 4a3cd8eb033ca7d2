/- The framework, part W: the order left open, the theorem. -/

import Derived.Test.YtglpfccgmfhkdaaFwV
set_option linter.unusedVariables false
namespace Go.Proofs.Ytglpfccgmfhkdaa.Fw
open Go
structure Fact (P : Program) (ops : Array Oper) (L : List (Nat × List AV)) (H : List Blk) (T : List AV) (o : Oper) (v : AV) (run : Bool) : Prop where
 want : ∀ (E : Env) (a : Act), (∀ t ∈ o.looksAt ops, V3 E (T.getD t .undef) (a.tmps.getD t undef)) → T.length = a.tmps.size → Region.wanted o (yielded ops a.tmps) = run
 yes : run = true → evQ P o (opv T) L H (fun r => r = v)
 no : run = false → v = .tup []
 put : ∀ d, o.dst = some d → d < T.length → T.getD d .undef = v
theorem looks_op {ops : Array Oper} {o : Oper} {t : Nat} (h : .tmp t ∈ o.op.operands) : t ∈ o.looksAt ops :=
 List.mem_append_left _ (List.mem_filterMap.2 ⟨.tmp t, by simpa using h, rfl⟩)
theorem looks_guard {ops : Array Oper} {o : Oper} {j t : Nat} {b : Bool} (hg : o.guard = some (j, b)) (ht : (ops[j]?).bind (·.dst) = some t) : t ∈ o.looksAt ops := by
 refine List.mem_append_right _ ?_
 rw [hg]; simp [ht]
theorem opv_agree {ops : Array Oper} {o : Oper} {T T' : List AV} (h : ∀ t ∈ o.looksAt ops, T.getD t .undef = T'.getD t .undef) : ∀ x ∈ o.op.operands, opv T x = opv T' x := fun x hx => by
 cases x with
 | tmp t => exact h t (looks_op hx)
 | _ => rfl
theorem Fact.mono {P : Program} {ops : Array Oper} {L : List (Nat × List AV)} {H : List Blk} {T T' : List AV} {o : Oper} {v : AV} {run : Bool} (h : Fact P ops L H T o v run) (hl : T'.length = T.length)
  (ha : ∀ t ∈ o.looksAt ops, T'.getD t .undef = T.getD t .undef) (hd : ∀ d, o.dst = some d → T'.getD d .undef = T.getD d .undef) : Fact P ops L H T' o v run where
 want := fun E a hs hz => h.want E a (fun t ht => by rw [← ha t ht]; exact hs t ht) (by rw [← hl]; exact hz)
 yes := fun hr => by
  rw [evQ_congr (opv_agree ha)]
  exact h.yes hr
 no := h.no
 put := fun d hd' hlt => by rw [hd d hd']; exact h.put d hd' (by rw [← hl]; exact hlt)
theorem gd_cases {P : Program} {ops : Array Oper} {lit : Bool} {o : Oper} {T : List AV} {x y : List AV → Prop} (h : gdA ops lit o T x y) :
  ∃ T' run, T'.length = T.length ∧ (∀ t, T'.getD t .undef = T.getD t .undef) ∧ (∀ (E : Env) (a : Act), (∀ t ∈ o.looksAt ops, V3 E (T.getD t .undef) (a.tmps.getD t undef)) → T.length = a.tmps.size → Region.wanted o (yielded ops a.tmps) = run) ∧ (if run = true then x T' else y T') := by
 unfold gdA at h
 cases hg : o.guard with
 | none => rw [hg] at h; exact ⟨T, true, rfl, fun _ => rfl, fun E a _ _ => by simp [Region.wanted, hg], h⟩
 | some g =>
  obtain ⟨j, want⟩ := g
  rw [hg] at h
  simp only at h
  cases hj : (ops[j]?).bind (·.dst) with
  | none => rw [hj] at h; exact h.elim
  | some t =>
   rw [hj] at h
   simp only at h
   have hlk : t ∈ o.looksAt ops := looks_guard hg hj
   have hsame : ∀ b, T.getD t .undef = .bool b → ∀ s, (T.set t (.bool b)).getD s .undef = T.getD s .undef := fun b hb s => by
    rw [getD_set]
    by_cases hs : t = s ∧ t < T.length
    ·rw [if_pos hs, ← hs.1, hb]
    ·rw [if_neg hs]
   split at h
   ·rename_i b hb
    obtain ⟨h1, h2⟩ := bway_inv h
    have hw : ∀ (E : Env) (a : Act), (∀ t ∈ o.looksAt ops, V3 E (T.getD t .undef) (a.tmps.getD t undef)) → T.length = a.tmps.size → Region.wanted o (yielded ops a.tmps) = (b == want) := fun E a hs hz => by
     have hv := hs t hlk
     rw [hb] at hv
     have he : a.tmps.getD t undef = .bool b := V3.bool_inv hv
     have hy : yielded ops a.tmps j = some b := by
      unfold yielded
      rw [hj]
      rw [Array.getD_eq_getD_getElem?] at he
      cases hq : a.tmps[t]? with
      | none => rw [hq] at he; cases he
      | some x => rw [hq] at he; have : x = .bool b := he; subst this; simp [hq]
     simp [Region.wanted, hg, hy]
    cases b with
    | true => refine ⟨_, _, by simp, hsame true hb, hw, ?_⟩; have := h1 rfl; cases want <;> exact this
    | false => refine ⟨_, _, by simp, hsame false hb, hw, ?_⟩; have := h2 rfl; cases want <;> exact this
   ·rename_i hb
    refine ⟨T, false, rfl, fun _ => rfl, fun E a hs hz => ?_, h⟩
    have hv := hs t hlk
    rw [hb] at hv
    obtain ⟨vs, he, hp⟩ := (show ∃ vs : List Value, a.tmps.getD t undef = .tuple vs.toArray ∧ PW (V2 E) [] vs from hv)
    obtain rfl := hp.nil_inv
    have hy : yielded ops a.tmps j = none := by
     unfold yielded
     rw [hj]
     rw [Array.getD_eq_getD_getElem?] at he
     cases hq : a.tmps[t]? with
     | none => simp [hq]
     | some x => rw [hq] at he; have : x = .tuple #[] := he; subst this; simp [hq]
    simp [Region.wanted, hg, hy]
   ·exact h.elim
theorem putA_length (T : List AV) (d : Option Nat) (v : AV) : (putA T d v).length = T.length := by
 cases d <;> simp [putA]
theorem putA_get {T : List AV} {d : Option Nat} {v : AV} {t : Nat} (h : d ≠ some t) : (putA T d v).getD t .undef = T.getD t .undef := by
 cases d with
 | none => rfl
 | some s =>
  show (T.set s v).getD t .undef = _
  rw [getD_set, if_neg]
  rintro ⟨rfl, _⟩; exact h rfl
theorem putA_self {T : List AV} {d : Nat} {v : AV} (h : d < T.length) : (putA T (some d) v).getD d .undef = v := by
 show (T.set d v).getD d .undef = v
 rw [getD_set, if_pos ⟨rfl, h⟩]
def Apart (ops : Array Oper) : List Item → Prop
 | [] => True
 | x :: r => (∀ t ∈ (opI ops x.i).looksAt ops, ∀ y ∈ x :: r, (opI ops y.i).dst ≠ some t) ∧ (∀ d, (opI ops x.i).dst = some d → ∀ y ∈ r, (opI ops y.i).dst ≠ some d) ∧ Apart ops r
theorem segPlan {P : Program} {esc : List Nat} {ops : Array Oper} {L : List (Nat × List AV)} {H : List Blk} {K : List AV → List (Nat × List AV) → List Blk → Prop} : ∀ (l : List Item) (T : List AV), Apart ops l → evOpsD P esc ops l T L H K →
  ∃ pre post Te, l = pre ++ post ∧ (∀ x ∈ pre, x.q = true) ∧ (∀ x r, post = x :: r → x.q = false) ∧ evOpsD P esc ops post Te L H K ∧ Te.length = T.length ∧
   (∀ t, (∀ x ∈ pre, (opI ops x.i).dst ≠ some t) → Te.getD t .undef = T.getD t .undef) ∧ ∀ x ∈ pre, ∃ v run, Fact P ops L H Te (opI ops x.i) v run
 | [], T, _, h => ⟨[], [], T, rfl, fun x hx => (by cases hx), fun x r e => (by cases e), h, rfl, fun _ _ => rfl, fun x hx => (by cases hx)⟩
 | x :: r, T, ap, h => by
  cases hq : x.q with
  | false => exact ⟨[], x :: r, T, rfl, fun x hx => (by cases hx), fun y r' e => (by cases e; exact hq), h, rfl, fun _ _ => rfl, fun x hx => (by cases hx)⟩
  | true =>
   obtain ⟨T1, run, hl1, hg1, hw, hrun⟩ := gd_cases (P := P) h
   obtain ⟨ap1, ap2, ap3⟩ := ap
   have key : ∃ v, evOpsD P esc ops r (putA T1 (opI ops x.i).dst v) L H K ∧ (run = true → evQ P (opI ops x.i) (opv T1) L H (fun r => r = v)) ∧ (run = false → v = .tup []) := by
    cases run with
    | true =>
     have hrun : (match x.q with
      | true => evQ P (opI ops x.i) (opv T1) L H fun v => evOpsD P esc ops r (putA T1 (opI ops x.i).dst v) L H K
      | false => _) := hrun
     rw [hq] at hrun
     obtain ⟨v, h1, h2⟩ := evQ_det _ hrun
     exact ⟨v, h1, fun _ => h2, fun e => by cases e⟩
    | false => exact ⟨.tup [], hrun, fun e => (by cases e), fun _ => rfl⟩
   obtain ⟨v, hv, hyes, hno⟩ := key
   obtain ⟨pre, post, Te, rfl, hpre, hpost, hev, hlen, hget, hfact⟩ := segPlan r _ ap3 hv
   have hmem : ∀ y ∈ pre, y ∈ pre ++ post := fun y hy => List.mem_append_left _ hy
   have hlook : ∀ t ∈ (opI ops x.i).looksAt ops, Te.getD t .undef = T1.getD t .undef := fun t ht => by
    rw [hget t fun y hy => ap1 t ht y (List.mem_cons_of_mem _ (hmem y hy)), putA_get (ap1 t ht x (List.mem_cons_self ..))]
   refine ⟨x :: pre, post, Te, rfl, fun y hy => ?_, hpost, hev, by rw [hlen, putA_length, hl1], fun t ht => ?_, fun y hy => ?_⟩
   ·rcases List.mem_cons.1 hy with rfl | hy
    ·exact hq
    ·exact hpre y hy
   ·rw [hget t fun y hy => ht y (List.mem_cons_of_mem _ hy), putA_get (ht x (List.mem_cons_self ..)), hg1]
   ·rcases List.mem_cons.1 hy with rfl | hy
    ·refine ⟨v, run, ⟨fun E a hs hz => hw E a (fun t ht => ?_) ?_, fun hr => ?_, hno, fun d hd hlt => ?_⟩⟩
     ·rw [← hg1 t, ← hlook t ht]; exact hs t ht
     ·rw [← hz, hlen, putA_length, hl1]
     ·rw [evQ_congr (opv_agree hlook)]; exact hyes hr
     ·rw [hget d fun y hy => ap2 d hd y (hmem y hy), hd]
      exact putA_self (by rw [hlen, putA_length] at hlt; exact hlt)
    ·exact hfact y hy
end Go.Proofs.Ytglpfccgmfhkdaa.Fw
