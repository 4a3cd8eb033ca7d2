/- The framework, part K: the operations that leave the abstract memory alone, as one. -/

import Derived.Test.YtglpfccgmfhkdaaFwJ
set_option linter.unusedVariables false
namespace Go.Proofs.Ytglpfccgmfhkdaa.Fw
open Go
def capOk : AV → Bool
 | .agg _ | .tup _ | .fn _ _ => false
 | _ => true
def mkfA (fn : Fn) (first : Array Operand) (caps : List AV) (K : AV → Prop) : Prop := match fn with
 | .func f => if first.isEmpty = true ∧ caps.all capOk = true then K (.fn f caps) else False
 | _ => False
def noTup : AV → Bool
 | .tup _ => false
 | _ => true
def calleeA (x : AV) (K : FuncId → List AV → Prop) : Prop := match x with
 | .fn f caps => K f caps
 | _ => False
def callVA (P : Program) (f : FuncId) (args : List AV) (L : List (Nat × List AV)) (H : List Blk) (K : AV → Prop) : Prop :=
 args.all noTup = true ∧ ∃ args0 t, PW (Snap2 L H) args args0 ∧ FnV P f args0 t ∧ K t
def evCallV (P : Program) (c : Call) (ρ : Operand → AV) (L : List (Nat × List AV)) (H : List Blk) (K : AV → Prop) : Prop := match c.callee with
 | .builtin .len => (match c.args.toList, c.argTypes.toList with
  | [x], [t] => okp (lenT P t (ρ x)) (lenA (ρ x) K)
  | _, _ => False)
 | .value f => calleeA (ρ f) fun g caps => callVA P g (c.args.toList.map ρ ++ caps) L H K
 | _ => False
def evVal (P : Program) (o : Oper) (ρ : Operand → AV) (L : List (Nat × List AV)) (H : List Blk) (K : AV → Prop) : Prop := match o.op with
 | .move x => K (ρ x)
 | .assign x => K (ρ x)
 | .pick c a b => asB (ρ c) fun z => bcond z (K (ρ a)) (K (ρ b))
 | .build t ps => okp (ps.toList.all fun p => noTup (ρ p.2)) (buildA P t (ps.toList.map fun p => (p.1, ρ p.2)) K)
 | .buildSlice t n ps => okp (ps.toList.all fun p => noTup (ρ p.2)) (bslA P t n (ps.toList.map fun p => (p.1, ρ p.2)) K)
 | .load t a => ldA P t (ρ a) L H K
 | .nilCheck x => nilA (ρ x) K
 | .binOp op t x y _ => binA P op t (ρ x) (ρ y) (isNilC y) K
 | .unOp op _ x => unA op (ρ x) K
 | .convert s d x => cvtA P s d (ρ x) K
 | .makeFunc fn first caps => mkfA fn first (caps.toList.map ρ) K
 | .fieldAddr t x f => fadA P t (ρ x) f K
 | .indexAddr t x i => iadA P t (ρ x) (ρ i) H K
 | .index t x i => idxA P t (ρ x) (ρ i) K
 | .slice t x lo hi mx => (match mx with
  | none => slcA P t (ρ x) (lo.map ρ) (hi.map ρ) H K
  | some _ => False)
 | .extract x i => extA (ρ x) i K
 | .call c => evCallV P c ρ L H K
 | _ => False
theorem upon_v {P : Program} {o : Oper} {a : Act} {next : Act → World → Prop} {Q : Exit → Act → World → Prop} {s : Sem Value} {w w' : World} {u : Value} (h : s.run P w = .ok u w') (k : next (a.put o.dst u) w') :
  o.upon P a next Q ((do pure (Next.value (← s)) : Sem Next).run P w) := by
 rw [Sem.run_bind, h]; exact k
theorem parts_eq (ps : Array (Nat × Operand)) (a : Act) : (ps.toList.map fun p => (p.1, a.eval p.2)).toArray = ps.map fun (i, x) => (i, a.eval x) := by
 apply Array.ext'
 rw [Array.toList_map]
theorem parts_rel {E : Env} {a : Act} {T : List AV} (hT : ∀ t, V3 E (T.getD t .undef) (a.tmps.getD t undef)) (ps : List (Nat × Operand)) (hn : ∀ p ∈ ps, ∀ l, opv T p.2 ≠ .tup l) :
  PW (fun (x : Nat × AV) (y : Nat × Value) => x.1 = y.1 ∧ V2 E x.2 y.2) (ps.map fun p => (p.1, opv T p.2)) (ps.map fun p => (p.1, a.eval p.2)) := by
 refine ⟨by simp, fun i x y hx hy => ?_⟩
 rw [List.getElem?_map] at hx hy
 cases hp : ps[i]? with
 | none => simp [hp] at hx
 | some p =>
  simp [hp] at hx hy
  subst hx; subst hy
  refine ⟨rfl, ?_⟩
  have := opv_rel hT p.2
  rwa [V3_eq (hn p (List.mem_of_getElem? hp))] at this
theorem args_rel {E : Env} {a : Act} {T : List AV} (hT : ∀ t, V3 E (T.getD t .undef) (a.tmps.getD t undef)) (xs : List Operand) (hn : ∀ x ∈ xs, ∀ l, opv T x ≠ .tup l) :
  PW (V2 E) (xs.map (opv T)) (xs.map a.eval) := by
 refine ⟨by simp, fun i x y hx hy => ?_⟩
 rw [List.getElem?_map] at hx hy
 cases hp : xs[i]? with
 | none => simp [hp] at hx
 | some p =>
  simp [hp] at hx hy
  subst hx; subst hy
  have := opv_rel hT p
  rwa [V3_eq (hn p (List.mem_of_getElem? hp))] at this
theorem noTup_ne {a : AV} (h : noTup a = true) : ∀ l, a ≠ .tup l := by
 intro l e; subst e; cases h
theorem opt_rel {E : Env} {a : Act} {T : List AV} (hT : ∀ t, V3 E (T.getD t .undef) (a.tmps.getD t undef)) (x : Option Operand) :
  OptRel E (x.map (opv T)) (x.map a.eval) := by
 cases x with
 | none => trivial
 | some x => exact opv_rel hT x
theorem callee_rel {E : Env} {a : Act} {T : List AV} (hT : ∀ t, V3 E (T.getD t .undef) (a.tmps.getD t undef)) {f : Operand} {g : FuncId} {caps : List AV} (h : opv T f = .fn g caps) :
  ∃ vs : List Value, a.eval f = .func (.func g) #[] vs.toArray ∧ PW (V2 E) caps vs := by
 have := opv_rel hT f
 rw [h] at this
 obtain ⟨vs, e, hp⟩ := (show ∃ vs : List Value, a.eval f = .func (.func g) #[] vs.toArray ∧ PW (V0 E) caps vs from this)
 exact ⟨vs, e, hp.mono fun _ _ k => V2_of_V1 (V1_of_V0 k)⟩
theorem run_callFn {P : Program} {f : FuncId} {w : World} {args : Array Value} (h : okFn P f = true) : (callFunc f args).run P w = .ok (.enter f args) w := by
 unfold okFn at h
 cases hf : P.funcs[f]? with
 | none => simp [hf] at h
 | some fn =>
  simp [hf] at h
  obtain ⟨h1, h2⟩ := h
  simp [callFunc, hf, h1]
  cases hb : fn.body with
  | none => simp [hb] at h2
  | some c => intro hh; cases hh
theorem run_call {P : Program} {c : Call} {a : Act} {ty : TypeId} {f : Operand} {g : FuncId} {vs : List Value} {w : World} (hc : c.callee = .value f) (hf : a.eval f = .func (.func g) #[] vs.toArray) (h : okFn P g = true) :
  (do let d ← resolve a.eval c ty; invoke d.target d.args : Sem Next).run P w = .ok (.enter g ((c.args.toList.map a.eval ++ vs).toArray)) w := by
 unfold resolve
 rw [hc]
 simp only [hf, Deferred.ofValue, Sem.run_bind, Sem.run_pure, Result.andThen_ok, invoke]
 rw [run_callFn h]
 simp
def VNext (E : Env) (o : Oper) (a : Act) (K : AV → Prop) : Act → World → Prop := fun a' w' => ∃ v v' E', K v ∧ E'.w = w' ∧ Quiet E E' ∧ V3 E' v v' ∧ a' = a.put o.dst v'
set_option maxHeartbeats 4000000 in
theorem evVal_sound {P : Program} {o : Oper} {a : Act} {T : List AV} {E : Env} {L Ln : List (Nat × List AV)} {H Hn : List Blk} {K : AV → Prop} {Q : Exit → Act → World → Prop}
  (hT : ∀ t, V3 E (T.getD t .undef) (a.tmps.getD t undef)) (sub : Sub L H Ln Hn) (hH : SimH E Hn) (hL : SimL E Ln) (h : evVal P o (opv T) L H K) : o.wp P a E.w (VNext E o a K) Q := by
 have fin : ∀ {s : Sem Value}, (execOp a.eval o = (do pure (Next.value (← s)))) → (∃ r u E', K r ∧ s.run P E.w = .ok u E'.w ∧ Quiet E E' ∧ V3 E' r u) → o.wp P a E.w (VNext E o a K) Q := by
  rintro s hs ⟨r, u, E', hK, hr, hq, hv⟩
  unfold Oper.wp
  rw [hs]
  exact upon_v hr ⟨r, u, E', hK, rfl, hq, hv, rfl⟩
 have fin0 : ∀ {s : Sem Value}, (execOp a.eval o = (do pure (Next.value (← s)))) → (∃ r u, K r ∧ s.run P E.w = .ok u E.w ∧ V3 E r u) → o.wp P a E.w (VNext E o a K) Q := by
  rintro s hs ⟨r, u, hK, hr, hv⟩
  exact fin hs ⟨r, u, E, hK, hr, Quiet.refl hH, hv⟩
 have mv : ∀ x, execOp a.eval o = pure (.value (a.eval x)) → K (opv T x) → o.wp P a E.w (VNext E o a K) Q := by
  intro x hs hK
  unfold Oper.wp
  rw [hs]
  exact ⟨_, _, E, hK, rfl, Quiet.refl hH, opv_rel hT x, rfl⟩
 obtain ⟨dst, op, ty, pos, after, guard⟩ := o
 cases op with
 | move x => exact mv x rfl h
 | assign x => exact mv x rfl h
 | pick c x y =>
  obtain ⟨b, hb, h1, h2⟩ := asB_inv (show asB (opv T c) fun z => bcond z (K (opv T x)) (K (opv T y)) from h)
  have hv := opv_rel hT c
  rw [hb] at hv
  have he : a.eval c = .bool b := V3.bool_inv hv
  cases b with
  | true => exact mv x (by simp [execOp, he, asBool]) (h1 rfl)
  | false => exact mv y (by simp [execOp, he, asBool]) (h2 rfl)
 | build t ps =>
  obtain ⟨hn, h⟩ := okp_inv h
  have := build_sound (P := P) (parts_rel hT ps.toList fun p hp => noTup_ne (List.all_eq_true.1 hn p hp)) h
  exact fin0 (s := Instr.build t (ps.toList.map fun p => (p.1, a.eval p.2)).toArray) (by rw [parts_eq]; rfl) this
 | buildSlice t n ps =>
  obtain ⟨hn, h⟩ := okp_inv h
  have := bsl_sound (P := P) hH (parts_rel hT ps.toList fun p hp => noTup_ne (List.all_eq_true.1 hn p hp)) h
  exact fin (s := Instr.buildSlice t n (ps.toList.map fun p => (p.1, a.eval p.2)).toArray) (by rw [parts_eq]; rfl) this
 | load t x =>
  obtain ⟨r, u, hK, hr, hv⟩ := ld_sound sub hH hL (opv_rel hT x) h
  exact fin0 (s := Instr.loadAt t (a.eval x)) rfl ⟨r, u, hK, hr, V3_of_V2 hv⟩
 | nilCheck x =>
  have hx := opv_rel hT x
  have h : nilA (opv T x) K := h
  have key : ∀ ad, a.eval x = .pointer (some ad) → K (opv T x) → Oper.wp P ⟨dst, .nilCheck x, ty, pos, after, guard⟩ a E.w (VNext E ⟨dst, .nilCheck x, ty, pos, after, guard⟩ a K) Q := by
   intro ad he hK
   exact mv x (by simp [execOp, he]) hK
  cases hx0 : opv T x with
  | lptr s c =>
   rw [hx0] at hx h
   obtain ⟨bl, _, e⟩ := hx.lptr_inv
   exact key _ e (by rw [hx0]; exact h)
  | ptr b g r c =>
   rw [hx0] at hx h
   rcases (show V0 E (.ptr b g r c) _ from hx) with ⟨_, bl, o, e⟩ | ⟨_, bl, _, e⟩ <;> exact key _ e (by rw [hx0]; exact h)
  | rp cells c =>
   rw [hx0] at hx h
   have hx' : RV E.w E.PA E.PF (.rp cells c) (a.eval x) := hx
   generalize hv : a.eval x = v at hx'
   cases hx'; exact key _ hv (by rw [hx0]; exact h)
  | _ => rw [hx0] at h; exact h.elim
 | binOp op t x y ty2 =>
  have hyn : isNilC y = true → a.eval y = .slice none 0 0 := by
   intro hh
   unfold isNilC at hh
   split at hh
   ·rfl
   ·cases hh
  exact fin0 (s := do eqGuard op t x y (a.eval x) (a.eval y); binOp op t (a.eval x) (a.eval y)) rfl (bin_sound (opv_rel hT x) (opv_rel hT y) hyn h)
 | unOp op t x => exact fin0 (s := Op.unary op (a.eval x)) rfl (un_sound (opv_rel hT x) h)
 | convert s d x => exact fin0 (s := Go.convert s d (a.eval x)) rfl (cvt_sound (opv_rel hT x) h)
 | makeFunc fn first caps =>
  replace h : mkfA fn first (caps.toList.map (opv T)) K := h
  cases fn with
  | func f =>
   replace h : if first.isEmpty = true ∧ (caps.toList.map (opv T)).all capOk = true then K (.fn f (caps.toList.map (opv T))) else False := h
   split at h
   ·rename_i hc
    obtain ⟨h1, h2⟩ := hc
    have hf : first = #[] := by simpa using h1
    subst hf
    refine fin0 (s := Instr.makeFunc (.func f) (Array.map a.eval #[]) (caps.map a.eval)) rfl ⟨_, .func (.func f) #[] (caps.map a.eval), h, by simp [Instr.makeFunc], (caps.toList.map a.eval), by rw [← Array.toList_map, Array.toArray_toList], by simp, fun i x y hx hy => ?_⟩
    rw [List.getElem?_map] at hx hy
    cases hp : caps.toList[i]? with
    | none => simp [hp] at hx
    | some p =>
     simp [hp] at hx hy
     subst hx; subst hy
     have hv := opv_rel hT p
     have hok : capOk (opv T p) = true := List.all_eq_true.1 h2 _ (List.mem_map.2 ⟨p, List.mem_of_getElem? hp, rfl⟩)
     cases hq : opv T p <;> rw [hq] at hv hok <;> first | exact hv | cases hok
   ·exact h.elim
  | _ => exact h.elim
 | fieldAddr t x f => exact fin0 (s := Instr.fieldAt t (a.eval x) f) rfl (fad_sound (opv_rel hT x) h)
 | indexAddr t x i => exact fin0 (s := Instr.indexAt t (a.eval x) (a.eval i)) rfl (iad_sound sub hH (opv_rel hT x) (opv_rel hT i) h)
 | index t x i => exact fin0 (s := Instr.index t (a.eval x) (a.eval i)) rfl (idx_sound (opv_rel hT x) (opv_rel hT i) h)
 | slice t x lo hi mx =>
  cases mx with
  | none => exact fin0 (s := Instr.sliceAt t (a.eval x) (lo.map a.eval) (hi.map a.eval) none) rfl (slc_sound sub hH (opv_rel hT x) (opt_rel hT lo) (opt_rel hT hi) h)
  | some m => exact h.elim
 | extract x i => exact fin0 (s := Instr.extract (a.eval x) i) rfl (ext_sound (opv_rel hT x) h)
 | call c =>
  have h : evCallV P c (opv T) L H K := h
  obtain ⟨callee, args, argTypes⟩ := c
  cases callee with
  | builtin b =>
   cases b with
   | len =>
    have h : (match args.toList, argTypes.toList with
     | [x], [t] => okp (lenT P t (opv T x)) (lenA (opv T x) K)
     | _, _ => False) := h
    split at h
    ·rename_i x t h1 h2
     obtain ⟨hok1, hok2⟩ := okp_inv h
     obtain rfl : args = #[x] := by rw [← Array.toArray_toList (xs := args), h1]
     obtain rfl : argTypes = #[t] := by rw [← Array.toArray_toList (xs := argTypes), h2]
     obtain ⟨r, u, hK, hr, hv⟩ := len_sound (P := P) (ty := ty) (opv_rel hT x) hok1 hok2
     unfold Oper.wp
     have : (execOp a.eval ⟨dst, .call ⟨.builtin .len, #[x], #[t]⟩, ty, pos, after, guard⟩).run P E.w = .ok (.value u) E.w := by
      simp only [execOp, resolve, Sem.run_bind, Sem.run_pure, Result.andThen_ok, invoke, builtin]
      have e : Array.map a.eval #[x] = #[a.eval x] := by simp
      rw [e, hr]; rfl
     rw [this]
     exact ⟨r, u, E, hK, rfl, Quiet.refl hH, hv, rfl⟩
    ·exact h.elim
   | _ => exact h.elim
  | value f =>
   have h : calleeA (opv T f) fun g caps => callVA P g (args.toList.map (opv T) ++ caps) L H K := h
   cases hf : opv T f with
   | fn g caps =>
    rw [hf] at h
    obtain ⟨hn, args0, t, hs, hfn, hK⟩ := (show callVA P g (args.toList.map (opv T) ++ caps) L H K from h)
    obtain ⟨vs, he, hcv⟩ := callee_rel hT hf
    unfold Oper.wp
    rw [show execOp a.eval ⟨dst, .call ⟨.value f, args, argTypes⟩, ty, pos, after, guard⟩ = (do let d ← resolve a.eval ⟨.value f, args, argTypes⟩ ty; invoke d.target d.args) from rfl]
    rw [run_call (P := P) (ty := ty) (w := E.w) (c := ⟨.value f, args, argTypes⟩) rfl he hfn.1]
    have har : PW (V2 E) (args.toList.map (opv T) ++ caps) (args.toList.map a.eval ++ vs) :=
     PW.append (args_rel hT args.toList fun x hx => noTup_ne (List.all_eq_true.1 hn _ (by simp; exact .inl ⟨x, by simpa using hx, rfl⟩))) hcv
    refine (callV_sound sub hH hL har hs hfn).mono ?_
    rintro e w' ⟨v, E', rfl, rfl, hq, hv⟩
    exact ⟨t, v, E', hK, rfl, hq, hv, rfl⟩
   | _ => rw [hf] at h; exact h.elim
  | _ => exact h.elim
 | _ => exact h.elim
end Go.Proofs.Ytglpfccgmfhkdaa.Fw
