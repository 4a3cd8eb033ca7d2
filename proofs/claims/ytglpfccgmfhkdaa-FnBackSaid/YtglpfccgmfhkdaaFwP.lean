/- The framework, part P: one operation; the operations of a region, in the text's order. -/

import Derived.Test.YtglpfccgmfhkdaaFwO
set_option linter.unusedVariables false
namespace Go.Proofs.Ytglpfccgmfhkdaa.Fw
open Go
def callOA (P : Program) (f : FuncId) (args : List AV) (L : List (Nat × List AV)) (H : List Blk) (K : AV → List (Nat × List AV) → List Blk → Prop) : Prop :=
 args.all noTup = true ∧ ∃ args0, PW (Snap2 L H) args args0 ∧ FnS P f args0 [] fun r Hn => ownv3 r = true ∧ ownH Hn = true ∧ K (shift3 H.length r) L (H ++ Hn.map (shiftB H.length))
def callMA (P : Program) (f : FuncId) (args : List AV) (L : List (Nat × List AV)) (H : List Blk) (K : AV → List (Nat × List AV) → List Blk → Prop) : Prop :=
 args.all noTup = true ∧ args.all noLp2 = true ∧ FnS P f args H fun r H' => noLp3 r = true ∧ K r L H'
def callAny (P : Program) (f : FuncId) (args : List AV) (L : List (Nat × List AV)) (H : List Blk) (K : AV → List (Nat × List AV) → List Blk → Prop) : Prop :=
 callVA P f args L H (fun r => K r L H) ∨ callOA P f args L H K ∨ callMA P f args L H K
def evCall (P : Program) (c : Call) (ρ : Operand → AV) (L : List (Nat × List AV)) (H : List Blk) (K : AV → List (Nat × List AV) → List Blk → Prop) : Prop := match c.callee with
 | .builtin .len => evCallV P c ρ L H fun r => K r L H
 | .builtin .append => (match c.args.toList, c.argTypes.toList with
  | [s, x], [t, t2] => noTup (ρ s) = true ∧ noTup (ρ x) = true ∧ appA P t t2 (ρ s) (ρ x) L H K
  | _, _ => False)
 | .value f => calleeA (ρ f) fun g caps => callAny P g (c.args.toList.map ρ ++ caps) L H K
 | _ => False
def evOp (P : Program) (esc : List Nat) (o : Oper) (ρ : Operand → AV) (L : List (Nat × List AV)) (H : List Blk) (K : AV → List (Nat × List AV) → List Blk → Prop) : Prop := match o.op with
 | .store t a v => okp (noTup (ρ v)) (stA P t (ρ a) (ρ v) L H fun L' H' => K (.tup []) L' H')
 | .alloc e => oelim (zeroA P e) fun z => newA esc o.dst z L H K
 | .box e x => okp (noTup (ρ x)) (newA esc o.dst (cellsA (ρ x)) L H K)
 | .makeSlice t l c => mksA P t (ρ l) (ρ c) L H K
 | .buildSlice t n ps => okp (ps.toList.all fun p => noTup (ρ p.2)) (bslH P (frc esc o.dst) (scrOf esc) t n (ps.toList.map fun p => (p.1, ρ p.2)) L H K)
 | .call c => evCall P c ρ L H K
 | _ => evVal P o ρ L H fun r => K r L H
theorem V2_of_V3 {E : Env} {a : AV} {v : Value} (h : noTup a = true) (hv : V3 E a v) : V2 E a v := by
 rwa [V3_eq (noTup_ne h)] at hv
theorem callO_all {P : Program} {f : FuncId} {args : List AV} {L : List (Nat × List AV)} {H : List Blk} {E : Env} {vs : List Value} {K : AV → List (Nat × List AV) → List Blk → Prop} (hH : SimH E H) (hL : SimL E L)
  (ha : PW (V2 E) args vs) (h : callAny P f args L H K) :
  okFn P f = true ∧ Calls P f vs.toArray E.w fun e w' => ∃ v u L' H' E', e = .returned u ∧ K v L' H' ∧ E'.w = w' ∧ Step E E' ∧ SimH E' H' ∧ SimL E' L' ∧ V3 E' v u ∧ E'.mL = E.mL := by
 rcases h with ⟨hn, args0, t, hs, hfn, hK⟩ | ⟨hn, args0, hs, hfn⟩ | ⟨hn, hl, hfn⟩
 ·refine ⟨hfn.1, (callV_sound (Sub.refl L H) hH hL ha hs hfn).mono ?_⟩
  rintro e w' ⟨v, E', rfl, rfl, hq, hv⟩
  exact ⟨t, v, L, H, E', rfl, hK, rfl, hq.step, hq.simH hH, hq.simL hH hL, hv, hq.mL⟩
 ·refine ⟨hfn.1, (callO_sound (Q := fun r Hn => K (shift3 H.length r) L (H ++ Hn.map (shiftB H.length))) hH hL ha hs hfn).mono ?_⟩
  rintro e w' ⟨r, v, Hn, E', rfl, hK, rfl, hst, h1, h2, hv, hml⟩
  exact ⟨_, v, L, _, E', rfl, hK, rfl, hst, h1, h2, hv, hml⟩
 ·refine ⟨hfn.1, (callM_sound (Q := fun r H' => K r L H') hH hL ha hl hfn).mono ?_⟩
  rintro e w' ⟨r, v, H', E', rfl, hK, rfl, hst, h1, h2, hv, hml⟩
  exact ⟨_, v, L, _, E', rfl, hK, rfl, hst, h1, h2, hv, hml⟩
theorem callAny_tup {P : Program} {f : FuncId} {args : List AV} {L : List (Nat × List AV)} {H : List Blk} {K : AV → List (Nat × List AV) → List Blk → Prop} (h : callAny P f args L H K) : args.all noTup = true := by
 rcases h with ⟨hn, _⟩ | ⟨hn, _⟩ | ⟨hn, _⟩ <;> exact hn
set_option maxHeartbeats 1000000 in
theorem evOp_sound {P : Program} {esc : List Nat} {o : Oper} {a : Act} {T : List AV} {E : Env} {L : List (Nat × List AV)} {H : List Blk} {K : AV → List (Nat × List AV) → List Blk → Prop} {Q : Exit → Act → World → Prop}
  (hT : ∀ t, V3 E (T.getD t .undef) (a.tmps.getD t undef)) (hH : SimH E H) (hL : SimL E L) (h : evOp P esc o (opv T) L H K) : o.wp P a E.w (ENext E o a K) Q := by
 have fin : ∀ {s : Sem Value}, (execOp a.eval o = (do pure (Next.value (← s)))) → (∃ v L' H' E' u, K v L' H' ∧ s.run P E.w = .ok u E'.w ∧ Step E E' ∧ SimH E' H' ∧ SimL E' L' ∧ V3 E' v u ∧ ∀ t, o.dst ≠ some t → E'.mL t = E.mL t) → o.wp P a E.w (ENext E o a K) Q := by
  rintro s hs ⟨v, L', H', E', u, hK, hr, h1, h2, h3, h4, h5⟩
  unfold Oper.wp
  rw [hs]
  exact upon_v hr ⟨v, u, L', H', E', hK, rfl, h1, h2, h3, h4, rfl, h5⟩
 have qu : evVal P o (opv T) L H (fun r => K r L H) → o.wp P a E.w (ENext E o a K) Q := fun h =>
  Oper.wp_mono (fun a' w' ⟨v, u, E', hK, hw, hq, hv, ha⟩ => ⟨v, u, L, H, E', hK, hw, hq.step, hq.simH hH, hq.simL hH hL, hv, ha, fun t _ => by rw [hq.mL]⟩) (evVal_sound hT (Sub.refl L H) hH hL h)
 obtain ⟨dst, op, ty, pos, after, guard⟩ := o
 cases op with
 | store t x v =>
  obtain ⟨hn, h⟩ := okp_inv (show okp (noTup (opv T v)) (stA P t (opv T x) (opv T v) L H fun L' H' => K (.tup []) L' H') from h)
  obtain ⟨L', H', E', hK, hr, h1, h2, h3, hml⟩ := st_sound hH hL (opv_rel hT x) (V2_of_V3 hn (opv_rel hT v)) h
  unfold Oper.wp
  have : (execOp a.eval ⟨dst, .store t x v, ty, pos, after, guard⟩).run P E.w = .ok .skip E'.w := by
   simp only [execOp, Sem.run_bind, hr, Sem.run_pure, Result.andThen_ok]
  rw [this]
  exact ⟨.tup [], _, L', H', E', hK, rfl, h1, h2, h3, ⟨[], rfl, PW.nil⟩, rfl, fun t _ => by rw [hml]⟩
 | alloc e =>
  obtain ⟨z, hz, h⟩ := oelim_inv (show oelim (zeroA P e) fun z => newA esc dst z L H K from h)
  obtain ⟨i, v, q1, q2, q3, q4⟩ := zero_rel (E := E) hz
  obtain ⟨r, L', H', E', hK, hw, h1, h2, h3, h4, hml⟩ := new_sound (ty := e) hH hL q4 h
  refine fin (s := Instr.alloc e true (.tuple #[])) rfl ⟨r, L', H', E', _, hK, ?_, h1, h2, h3, h4, hml⟩
  rw [hw]
  simp [Instr.alloc, zeroValue, typeInfo, q1, q2, newVar, newRow]
 | box e x =>
  obtain ⟨hn, h⟩ := okp_inv (show okp (noTup (opv T x)) (newA esc dst (cellsA (opv T x)) L H K) from h)
  have hs : (cellsA (opv T x)).all sto1 = true := by
   unfold newA at h; split at h
   ·rename_i q; exact q
   ·exact h.elim
  obtain ⟨r, L', H', E', hK, hw, h1, h2, h3, h4, hml⟩ := new_sound (ty := e) hH hL (cells_rel (V2_of_V3 hn (opv_rel hT x)) hs) h
  refine fin (s := Instr.box e (a.eval x)) rfl ⟨r, L', H', E', _, hK, ?_, h1, h2, h3, h4, hml⟩
  rw [hw]
  simp [Instr.box, newVar, newRow]
 | makeSlice t l c =>
  obtain ⟨v, L', H', E', u, hK, hr, h1, h2, h3, h4, hml⟩ := mks_sound hH hL (opv_rel hT l) (opv_rel hT c) (show mksA P t (opv T l) (opv T c) L H K from h)
  exact fin (s := Instr.makeSlice t (a.eval l) (a.eval c)) rfl ⟨v, L', H', E', u, hK, hr, h1, h2, h3, h4, fun t _ => by rw [hml]⟩
 | buildSlice t n ps =>
  obtain ⟨hn, h⟩ := okp_inv (show okp (ps.toList.all fun p => noTup (opv T p.2)) (bslH P (frc esc dst) (scrOf esc) t n (ps.toList.map fun p => (p.1, opv T p.2)) L H K) from h)
  obtain ⟨v, u, L', H', E', hK, hr, h1, h2, h3, h4, hml⟩ := bslH_sound hH hL (parts_rel hT ps.toList fun p hp => noTup_ne (List.all_eq_true.1 hn p hp)) h
  exact fin (s := Instr.buildSlice t n (ps.toList.map fun p => (p.1, a.eval p.2)).toArray) (by rw [parts_eq]; rfl) ⟨v, L', H', E', u, hK, hr, h1, h2, h3, h4, fun t _ => by rw [hml]⟩
 | call c =>
  have h : evCall P c (opv T) L H K := h
  obtain ⟨callee, args, argTypes⟩ := c
  cases callee with
  | builtin b =>
   cases b with
   | len => exact qu h
   | append =>
    have h : (match args.toList, argTypes.toList with
     | [s, x], [t, t2] => noTup (opv T s) = true ∧ noTup (opv T x) = true ∧ appA P t t2 (opv T s) (opv T x) L H K
     | _, _ => False) := h
    split at h
    ·rename_i s x t t2 h1 h2
     obtain rfl : args = #[s, x] := by rw [← Array.toArray_toList (xs := args), h1]
     obtain rfl : argTypes = #[t, t2] := by rw [← Array.toArray_toList (xs := argTypes), h2]
     obtain ⟨n1, n2, h⟩ := h
     obtain ⟨r, u, H', E', hK, hr, q1, q2, q3, q4, hml⟩ := app_sound (ty := ty) hH hL (V2_of_V3 n1 (opv_rel hT s)) (V2_of_V3 n2 (opv_rel hT x)) h
     unfold Oper.wp
     have : (execOp a.eval ⟨dst, .call ⟨.builtin .append, #[s, x], #[t, t2]⟩, ty, pos, after, guard⟩).run P E.w = .ok (.value u) E'.w := by
      simp only [execOp, resolve, Sem.run_bind, Sem.run_pure, Result.andThen_ok, invoke, builtin]
      have e : Array.map a.eval #[s, x] = #[a.eval s, a.eval x] := by simp
      rw [e, hr]; rfl
     rw [this]
     exact ⟨r, u, L, H', E', hK, rfl, q1, q2, q3, q4, rfl, fun t _ => by rw [hml]⟩
    ·exact h.elim
   | _ => exact h.elim
  | value f =>
   have h : calleeA (opv T f) fun g caps => callAny P g (args.toList.map (opv T) ++ caps) L H K := h
   cases hf : opv T f with
   | fn g caps =>
    rw [hf] at h
    have h : callAny P g (args.toList.map (opv T) ++ caps) L H K := h
    have hn := callAny_tup h
    obtain ⟨vs, he, hcv⟩ := callee_rel hT hf
    have har : PW (V2 E) (args.toList.map (opv T) ++ caps) (args.toList.map a.eval ++ vs) :=
     PW.append (args_rel hT args.toList fun x hx => noTup_ne (List.all_eq_true.1 hn _ (by simp; exact .inl ⟨x, by simpa using hx, rfl⟩))) hcv
    obtain ⟨hok, hc⟩ := callO_all hH hL har h
    unfold Oper.wp
    rw [show execOp a.eval ⟨dst, .call ⟨.value f, args, argTypes⟩, ty, pos, after, guard⟩ = (do let d ← resolve a.eval ⟨.value f, args, argTypes⟩ ty; invoke d.target d.args) from rfl]
    rw [run_call (P := P) (ty := ty) (w := E.w) (c := ⟨.value f, args, argTypes⟩) rfl he hok]
    refine hc.mono ?_
    rintro e w' ⟨v, u, L', H', E', rfl, hK, rfl, q1, q2, q3, q4, hml⟩
    exact ⟨v, u, L', H', E', hK, rfl, q1, q2, q3, q4, rfl, fun t _ => by rw [hml]⟩
   | _ => rw [hf] at h; exact h.elim
  | _ => exact h.elim
 | _ => exact qu h
def bway (lit : Bool) (b : Bool) (x y : Prop) : Prop := match lit with
 | true => (match b with
  | true => x
  | false => y)
 | false => bcond b x y
theorem bway_inv {lit b : Bool} {x y : Prop} (h : bway lit b x y) : (b = true → x) ∧ (b = false → y) := by
 cases lit with
 | false => exact h
 | true => cases b <;> exact ⟨fun e => by cases e <;> exact h, fun e => by cases e <;> exact h⟩
def putA (T : List AV) (dst : Option Nat) (v : AV) : List AV := match dst with
 | some d => T.set d v
 | none => T
def gdA (ops : Array Oper) (lit : Bool) (o : Oper) (T : List AV) (x y : List AV → Prop) : Prop := match o.guard with
 | none => x T
 | some (j, want) => match (ops[j]?).bind (·.dst) with
  | none => False
  | some t => match T.getD t .undef with
   | .bool b => bway lit b (if want = true then x (T.set t (.bool true)) else y (T.set t (.bool true))) (if want = true then y (T.set t (.bool false)) else x (T.set t (.bool false)))
   | .tup [] => y T
   | _ => False
def pickA (lit : Bool) (o : Oper) (T : List AV) (K : AV → Prop) (els : Prop) : Prop := match o.op with
 | .pick c x y => asB (opv T c) fun z => bway lit z (K (opv T x)) (K (opv T y))
 | _ => els
def evOps (P : Program) (esc : List Nat) (ops : Array Oper) : List (Oper × Bool) → List AV → List (Nat × List AV) → List Blk → (List AV → List (Nat × List AV) → List Blk → Prop) → Prop
 | [], T, L, H, K => K T L H
 | (o, lit) :: rest, T, L, H, K => gdA ops lit o T
   (fun T => pickA lit o T (fun v => evOps P esc ops rest (putA T o.dst v) L H K) (evOp P esc o (opv T) L H fun v L' H' => evOps P esc ops rest (putA T o.dst v) L' H' K))
   (fun T => evOps P esc ops rest (putA T o.dst (.tup [])) L H K)
theorem getD_set {T : List AV} {d t : Nat} {v : AV} : (T.set d v).getD t .undef = if d = t ∧ d < T.length then v else T.getD t .undef := by
 rw [List.getD_eq_getElem?_getD, List.getD_eq_getElem?_getD, List.getElem?_set]
 by_cases h : d = t
 ·subst h
  by_cases hl : d < T.length
  ·simp [hl]
  ·simp [hl]
 ·simp [h]
theorem slots_put {E : Env} {T : List AV} {a : Act} (hT : ∀ t, V3 E (T.getD t .undef) (a.tmps.getD t undef)) (hs : T.length = a.tmps.size) {dst : Option Nat} {v : AV} {u : Value} (hv : V3 E v u) :
  (∀ t, V3 E ((putA T dst v).getD t .undef) ((a.put dst u).tmps.getD t undef)) ∧ (putA T dst v).length = (a.put dst u).tmps.size := by
 cases dst with
 | none => exact ⟨hT, hs⟩
 | some d =>
  refine ⟨fun t => ?_, by simp [putA, Act.put, hs]⟩
  show V3 E ((T.set d v).getD t .undef) ((a.tmps.setIfInBounds d u).getD t undef)
  rw [getD_set, Array.getD_eq_getD_getElem?, Array.getElem?_setIfInBounds]
  by_cases h : d = t
  ·subst h
   by_cases hl : d < T.length
   ·have hl' : d < a.tmps.size := hs ▸ hl
    simp [hl, hl']; exact hv
   ·have hl' : ¬ d < a.tmps.size := hs ▸ hl
    have := hT d
    rw [Array.getD_eq_getD_getElem?] at this
    simp [hl, hl'] at this ⊢
    exact this
  ·have := hT t
   rw [Array.getD_eq_getD_getElem?] at this
   simp [h]; exact this
theorem slots_know {E : Env} {T : List AV} {a : Act} (hT : ∀ t, V3 E (T.getD t .undef) (a.tmps.getD t undef)) {t : Nat} {b : Bool} (h : T.getD t .undef = .bool b) :
  ∀ s, V3 E ((T.set t (.bool b)).getD s .undef) (a.tmps.getD s undef) := fun s => by
 rw [getD_set]
 by_cases hs : t = s ∧ t < T.length
 ·rw [if_pos hs, ← h, hs.1]; exact hT s
 ·rw [if_neg hs]; exact hT s
theorem yielded_bool {ops : Array Oper} {a : Act} {T : List AV} {E : Env} (hT : ∀ t, V3 E (T.getD t .undef) (a.tmps.getD t undef)) {j t : Nat} {b : Bool} (hj : (ops[j]?).bind (·.dst) = some t) (h : T.getD t .undef = .bool b) (hs : T.length = a.tmps.size) :
  yielded ops a.tmps j = some b := by
 have hv := hT t
 rw [h] at hv
 have he : a.tmps.getD t undef = .bool b := V3.bool_inv hv
 unfold yielded
 rw [hj]
 rw [Array.getD_eq_getD_getElem?] at he
 cases hq : a.tmps[t]? with
 | none => rw [hq] at he; cases he
 | some x => rw [hq] at he; have : x = .bool b := he; subst this; simp [hq]
theorem yielded_tup {ops : Array Oper} {a : Act} {T : List AV} {E : Env} (hT : ∀ t, V3 E (T.getD t .undef) (a.tmps.getD t undef)) {j t : Nat} (hj : (ops[j]?).bind (·.dst) = some t) (h : T.getD t .undef = .tup []) :
  yielded ops a.tmps j = none := by
 have hv := hT t
 rw [h] at hv
 obtain ⟨vs, he, hp⟩ := (show ∃ vs : List Value, a.tmps.getD t undef = .tuple vs.toArray ∧ PW (V2 E) [] vs from hv)
 obtain rfl := hp.nil_inv
 unfold yielded
 rw [hj]
 rw [Array.getD_eq_getD_getElem?] at he
 cases hq : a.tmps[t]? with
 | none => simp [hq]
 | some x => rw [hq] at he; have : x = .tuple #[] := he; subst this; simp [hq]
theorem gd_sound {P : Program} {ops : Array Oper} {lit : Bool} {o : Oper} {a : Act} {T : List AV} {E : Env} {w : World} {x y : List AV → Prop} {R : Prop}
  (hT : ∀ t, V3 E (T.getD t .undef) (a.tmps.getD t undef)) (hs : T.length = a.tmps.size) (h : gdA ops lit o T x y)
  (yes : ∀ T', Region.wanted o (yielded ops a.tmps) = true → (∀ t, V3 E (T'.getD t .undef) (a.tmps.getD t undef)) → T'.length = a.tmps.size → x T' → R)
  (no : ∀ T', Region.wanted o (yielded ops a.tmps) = false → (∀ t, V3 E (T'.getD t .undef) (a.tmps.getD t undef)) → T'.length = a.tmps.size → y T' → R) : R := by
 unfold gdA at h
 cases hg : o.guard with
 | none => rw [hg] at h; exact yes T (by simp [Region.wanted, hg]) hT hs h
 | some g =>
  obtain ⟨j, want⟩ := g
  rw [hg] at h
  simp only at h
  cases hj : (ops[j]?).bind (·.dst) with
  | none => rw [hj] at h; exact h.elim
  | some t =>
   rw [hj] at h
   simp only at h
   split at h
   ·rename_i b hb
    have hy := yielded_bool (ops := ops) hT hj hb hs
    have hk := slots_know hT hb
    obtain ⟨h1, h2⟩ := bway_inv h
    cases b with
    | true =>
     have h := h1 rfl
     cases want with
     | true => exact yes _ (by simp [Region.wanted, hg, hy]) hk (by simpa using hs) h
     | false => exact no _ (by simp [Region.wanted, hg, hy]) hk (by simpa using hs) h
    | false =>
     have h := h2 rfl
     cases want with
     | true => exact no _ (by simp [Region.wanted, hg, hy]) hk (by simpa using hs) h
     | false => exact yes _ (by simp [Region.wanted, hg, hy]) hk (by simpa using hs) h
   ·rename_i hb
    have hy := yielded_tup (ops := ops) hT hj hb
    exact no T (by simp [Region.wanted, hg, hy]) hT hs h
   ·exact h.elim
theorem evOps_sound {P : Program} {esc : List Nat} {ops : Array Oper} {Q : Exit → St → Prop} {E0 : Env} : ∀ (l : List (Oper × Bool)) (T : List AV) (L : List (Nat × List AV)) (H : List Blk) (E : Env) (a : Act),
  Good E0 E → Sim E ⟨T, L, H⟩ a.tmps → a.defers = [] → evOps P esc ops l T L H (fun T L H => Q .normal ⟨T, L, H⟩) → wpList P ops (PostS E0 Q) (l.map (·.1)) a E.w
 | [], T, L, H, E, a, hg, hs, hd, h => ⟨rfl, ⟨T, L, H⟩, E, h, rfl, hg, hs, hd⟩
 | (o, lit) :: rest, T, L, H, E, a, hg, hs, hd, h => by
  have hT : ∀ t, V3 E (T.getD t .undef) (a.tmps.getD t undef) := hs.slots
  show if Region.wanted o (yielded ops a.tmps) then o.wp P a E.w (wpList P ops (PostS E0 Q) (rest.map (·.1))) (PostS E0 Q) ∨ _ else wpList P ops (PostS E0 Q) (rest.map (·.1)) (a.put o.dst undef) E.w
  refine gd_sound (P := P) (w := E.w) hT hs.size h (fun T' hw hT' hs' h' => ?_) (fun T' hw hT' hs' h' => ?_)
  ·rw [if_pos hw]
   refine .inl ?_
   have next : ∀ (v : AV) (u : Value) (L' : List (Nat × List AV)) (H' : List Blk) (E' : Env), Step E E' → SimH E' H' → SimL E' L' → V3 E' v u → evOps P esc ops rest (putA T' o.dst v) L' H' (fun T L H => Q .normal ⟨T, L, H⟩) →
     wpList P ops (PostS E0 Q) (rest.map (·.1)) (a.put o.dst u) E'.w := fun v u L' H' E' q1 q2 q3 q4 hK => by
    obtain ⟨r1, r2⟩ := slots_put (fun t => (hT' t).le q1.le) hs' (dst := o.dst) q4
    refine evOps_sound rest _ _ _ E' (a.put o.dst u) (hg.step q1) ⟨q2, q3, r1, r2⟩ ?_ hK
    cases o.dst <;> exact hd
   have gen : (evOp P esc o (opv T') L H fun v L' H' => evOps P esc ops rest (putA T' o.dst v) L' H' (fun T L H => Q .normal ⟨T, L, H⟩)) → o.wp P a E.w (wpList P ops (PostS E0 Q) (rest.map (·.1))) (PostS E0 Q) := fun h' =>
    Oper.wp_mono (fun a' w' ⟨v, u, L', H', E', hK, hw', q1, q2, q3, q4, ha, _⟩ => by
     subst ha; subst hw'
     exact next v u L' H' E' q1 q2 q3 q4 hK) (evOp_sound hT' hs.h hs.l h')
   unfold pickA at h'
   split at h'
   ·rename_i c x y hop
    obtain ⟨b, hb, hh⟩ := asB_inv h'
    obtain ⟨h1, h2⟩ := bway_inv hh
    have hv := opv_rel hT' c
    rw [hb] at hv
    have he : a.eval c = .bool b := V3.bool_inv hv
    unfold Oper.wp
    have hx : ∀ z, (z = if b = true then a.eval x else a.eval y) → (execOp a.eval o).run P E.w = .ok (.value z) E.w := fun z hz => by
     subst hz
     simp only [execOp, hop, he, asBool, Sem.run_bind, Sem.run_pure, Result.andThen_ok]
    cases b with
    | true => rw [hx (a.eval x) rfl]; exact next _ _ L H E (Step.refl E) hs.h hs.l (opv_rel hT' x) (h1 rfl)
    | false => rw [hx (a.eval y) rfl]; exact next _ _ L H E (Step.refl E) hs.h hs.l (opv_rel hT' y) (h2 rfl)
   ·exact gen h'
  ·rw [hw]
   show wpList P ops (PostS E0 Q) (rest.map (·.1)) (a.put o.dst undef) E.w
   obtain ⟨r1, r2⟩ := slots_put (a := a) hT' hs' (dst := o.dst) (v := .tup []) (u := undef) ⟨[], rfl, PW.nil⟩
   refine evOps_sound rest (putA T' o.dst (.tup [])) L H E (a.put o.dst undef) hg ⟨hs.h, hs.l, r1, r2⟩ ?_ h'
   cases o.dst <;> exact hd
def lits (ops : Array Oper) (ls : List Nat) : List (Oper × Bool) := ops.toList.zipIdx.map fun p => (p.1, ls.contains p.2)
theorem lits_fst (ops : Array Oper) (ls : List Nat) : (lits ops ls).map (·.1) = ops.toList := by
 unfold lits
 rw [List.map_map]
 apply List.ext_getElem?
 intro i
 simp only [List.getElem?_map, List.getElem?_zipIdx]
 cases ops.toList[i]? <;> rfl
theorem WpS.region {P : Program} {esc : List Nat} {ls : List Nat} {id : Nat} {ops : Array Oper} {Q : Exit → St → Prop} {st : St} (h : evOps P esc ops (lits ops ls) st.T st.L st.H (fun T L H => Q .normal ⟨T, L, H⟩)) : WpS P (.region id ops false) Q st := fun E0 E a g s d => by
 refine wp_region_list ?_
 have := evOps_sound (lits ops ls) st.T st.L st.H E a g s d h
 rwa [lits_fst] at this
end Go.Proofs.Ytglpfccgmfhkdaa.Fw
