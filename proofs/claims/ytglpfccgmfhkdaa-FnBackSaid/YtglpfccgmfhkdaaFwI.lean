/- The framework, part I: what a call of a function does, told of abstract values; the function's own begin and end; a snapshot of what is handed over and of what comes back. -/

import Derived.Test.YtglpfccgmfhkdaaFwH
set_option linter.unusedVariables false
namespace Go.Proofs.Ytglpfccgmfhkdaa.Fw
open Go
def okFn (P : Program) (f : FuncId) : Bool := match P.funcs[f]? with
 | some fn => !(fn.name == "runtime.NumGoroutine") && fn.body.isSome
 | none => false
def FnS (P : Program) (f : FuncId) (args : List AV) (H : List Blk) (Q : AV → List Blk → Prop) : Prop :=
 okFn P f = true ∧ ∀ (E : Env) (vs : List Value), (∀ t, E.mL t = none) → SimH E H → PW (V2 E) args vs →
  Calls P f vs.toArray E.w fun e w' => ∃ r v H' E', e = .returned v ∧ Q r H' ∧ E'.w = w' ∧ (∀ t, E'.mL t = none) ∧ SimH E' H' ∧ V3 E' r v ∧ Step E E'
theorem FnS.mono {P : Program} {f : FuncId} {args : List AV} {H : List Blk} {Q Q' : AV → List Blk → Prop} (h : FnS P f args H Q) (hq : ∀ r H', Q r H' → Q' r H') : FnS P f args H Q' :=
 ⟨h.1, fun E vs a b c => (h.2 E vs a b c).mono fun e w' ⟨r, v, H', E', h1, h2, h3⟩ => ⟨r, v, H', E', h1, hq _ _ h2, h3⟩⟩
def noLp0 : AV → Bool
 | .lptr _ _ | .agg _ | .tup _ => false
 | _ => true
def noLp1 : AV → Bool
 | .fn _ caps => caps.all noLp0
 | a => noLp0 a
def noLp2 : AV → Bool
 | .agg cells => cells.all noLp1
 | a => noLp1 a
def noLp3 : AV → Bool
 | .tup l => l.all noLp2
 | a => noLp2 a
theorem V0.noL {E : Env} {a : AV} {v : Value} (h : noLp0 a = true) (hv : V0 E a v) : V0 E.noL a v := by
 cases a <;> first | exact hv | cases h
theorem V1.noL {E : Env} {a : AV} {v : Value} (h : noLp1 a = true) (hv : V1 E a v) : V1 E.noL a v := by
 by_cases hf : ∃ f caps, a = .fn f caps
 ·obtain ⟨f, caps, rfl⟩ := hf
  obtain ⟨vs, e, hp⟩ := hv
  exact ⟨vs, e, hp.1, fun i x y hx hy => (hp.2 i x y hx hy).noL (List.all_eq_true.1 (show caps.all noLp0 = true from h) x (List.mem_of_getElem? hx))⟩
 ·have h0 : noLp1 a = noLp0 a := by cases a <;> first | rfl | exact absurd ⟨_, _, rfl⟩ hf
  rw [V1_eq fun f c e => hf ⟨f, c, e⟩] at hv ⊢
  exact hv.noL (h0 ▸ h)
theorem V2.noL {E : Env} {a : AV} {v : Value} (h : noLp2 a = true) (hv : V2 E a v) : V2 E.noL a v := by
 by_cases hf : ∃ l, a = .agg l
 ·obtain ⟨l, rfl⟩ := hf
  obtain ⟨vs, e, hp⟩ := hv
  exact ⟨vs, e, hp.1, fun i x y hx hy => (hp.2 i x y hx hy).noL (List.all_eq_true.1 (show l.all noLp1 = true from h) x (List.mem_of_getElem? hx))⟩
 ·have h0 : noLp2 a = noLp1 a := by cases a <;> first | rfl | exact absurd ⟨_, rfl⟩ hf
  rw [V2_eq fun l e => hf ⟨l, e⟩] at hv ⊢
  exact hv.noL (h0 ▸ h)
theorem V3.noL {E : Env} {a : AV} {v : Value} (h : noLp3 a = true) (hv : V3 E a v) : V3 E.noL a v := by
 by_cases hf : ∃ l, a = .tup l
 ·obtain ⟨l, rfl⟩ := hf
  obtain ⟨vs, e, hp⟩ := hv
  exact ⟨vs, e, hp.1, fun i x y hx hy => (hp.2 i x y hx hy).noL (List.all_eq_true.1 (show l.all noLp2 = true from h) x (List.mem_of_getElem? hx))⟩
 ·have h0 : noLp3 a = noLp2 a := by cases a <;> first | rfl | exact absurd ⟨_, rfl⟩ hf
  rw [V3_eq fun l e => hf ⟨l, e⟩] at hv ⊢
  exact hv.noL (h0 ▸ h)
theorem SimH.noL {E : Env} {H : List Blk} (h : SimH E H) : SimH E.noL H :=
 {h with
  injL := fun t t' c hm => by cases hm
  injHL := fun b t c _ hm => by cases hm
  notL := fun c _ ⟨t, hm⟩ => by cases hm
  ltL := fun c ⟨t, hm⟩ => by cases hm }
theorem Good.toStep {E0 E : Env} (h : Good E0 E) : Step E0 E.noL :=
 ⟨⟨h.le.pa, h.le.pf, h.le.wa, h.le.wf, h.le.gen, h.le.m, fun t c hm => by rw [h.noL t] at hm; cases hm⟩, h.os, h.tape, h.output, h.size, fun c hc h1 _ => h.keep c hc h1, h.imH, (fun c ⟨t, hm⟩ => by cases hm), h.pa, h.pf⟩
def resL (P : Program) (st : St) : List ResultVar → (List AV → Prop) → Prop
 | [], K => K []
 | .tmp t :: rs, K => resL P st rs fun l => K (st.T.getD t .undef :: l)
 | .cell a t :: rs, K => ldA P t (st.T.getD a .undef) st.L st.H fun x => resL P st rs fun l => K (x :: l)
def wrapR : List AV → AV
 | [x] => x
 | l => .tup l
def resA (P : Program) (fn : Func) (st : St) (Q : AV → List Blk → Prop) : Prop := resL P st fn.results.toList fun l => l.all noLp2 = true ∧ Q (wrapR l) st.H
theorem asAddr_of {E : Env} {P : Program} {t : TypeId} {x : AV} {L : List (Nat × List AV)} {H : List Blk} {K : AV → Prop} {v : Value} (hH : SimH E H) (hL : SimL E L) (hx : V3 E x v) (h : ldA P t x L H K) :
  ∃ a v', K a ∧ (do loadVar t (← asAddr v) : Sem Value).run P E.w = .ok v' E.w ∧ V2 E a v' := by
 obtain ⟨a, v', hK, hr, hv⟩ := ld_sound (Sub.refl L H) hH hL hx h
 refine ⟨a, v', hK, ?_, hv⟩
 have : ∃ ad, v = .pointer (some ad) := by
  cases x with
  | lptr s c => obtain ⟨bl, _, rfl⟩ := hx.lptr_inv; exact ⟨_, rfl⟩
  | ptr b g r c =>
   rcases (show V0 E (.ptr b g r c) v from hx) with ⟨_, bl, o, rfl⟩ | ⟨_, bl, _, rfl⟩ <;> exact ⟨_, rfl⟩
  | rp cells c =>
   have hx' : RV E.w E.PA E.PF (.rp cells c) v := hx
   cases hx'; exact ⟨_, rfl⟩
  | _ => exact h.elim
 obtain ⟨ad, rfl⟩ := this
 simpa [Instr.loadAt, Instr.sureAddr, asAddr] using hr
theorem resL_sound {P : Program} {st : St} {E : Env} {tmps : Array Value} (hs : Sim E st tmps) {f : ResultVar → Sem Value} (f1 : ∀ t, f (.tmp t) = pure (tmps.getD t undef))
  (f2 : ∀ a t, f (.cell a t) = do loadVar t (← asAddr (tmps.getD a undef))) : ∀ (rs : List ResultVar) (K : List AV → Prop), resL P st rs K →
  ∃ l vs, K l ∧ (rs.mapM f).run P E.w = .ok vs E.w ∧ PW (V3 E) l vs
 | [], K, h => ⟨[], [], h, rfl, PW.nil⟩
 | .tmp t :: rs, K, h => by
  obtain ⟨l, vs, hK, hr, hp⟩ := resL_sound hs f1 f2 rs _ h
  exact ⟨_, _, hK, by simp only [List.mapM_cons, f1, Sem.run_bind, Sem.run_pure, Result.andThen_ok, hr], PW.cons (hs.slots t) hp⟩
 | .cell a t :: rs, K, h => by
  obtain ⟨x, v', h2, hr1, hv⟩ := asAddr_of hs.h hs.l (hs.slots a) h
  obtain ⟨l, vs, hK, hr, hp⟩ := resL_sound hs f1 f2 rs _ h2
  refine ⟨_, _, hK, ?_, PW.cons (V3_of_V2 hv) hp⟩
  simp only [List.mapM_cons, f2]
  rw [Sem.run_bind, hr1]
  simp only [Result.andThen_ok, Sem.run_bind, hr, Sem.run_pure]
theorem results_eq (fn : Func) (tmps : Array Value) : ∃ f : ResultVar → Sem Value, results fn tmps = (fn.results.mapM f >>= fun vs => pure (if h : vs.size = 1 then vs[0] else .tuple vs)) ∧ (∀ t, f (.tmp t) = pure (tmps.getD t undef)) ∧
  ∀ b t, f (.cell b t) = (asAddr (tmps.getD b undef) >>= fun a => loadVar t a) := ⟨_, rfl, fun _ => rfl, fun _ _ => rfl⟩
def QFn (P : Program) (fn : Func) (Q : AV → List Blk → Prop) (ex : Exit) (st : St) : Prop := match ex with
 | .normal | .ret => resA P fn st Q
 | _ => False
def initSt (fn : Func) (args : List AV) (H : List Blk) : St := ⟨args ++ List.replicate (fn.ntmps - args.length) .undef, [], H⟩
theorem V2_of_noLp {E : Env} {a : AV} {v : Value} (h : noLp2 a = true) (hv : V3 E a v) (ht : ∀ l, a ≠ .tup l) : V2 E.noL a v := by
 rw [V3_eq ht] at hv; exact hv.noL h
theorem FnS.of_body {P : Program} {f : FuncId} {fn : Func} {c : Code} {args : List AV} {H : List Blk} {Q : AV → List Blk → Prop} (hf : P.funcs[f]? = some fn) (hb : fn.body = some c) (hn : (fn.name == "runtime.NumGoroutine") = false)
  (h : WpS P c (QFn P fn Q) (initSt fn args H)) : FnS P f args H Q := by
 refine ⟨by simp [okFn, hf, hb, hn], ?_⟩
 intro E vs hn hH hp
 refine calls_of_wp hf hb (wp_mono (h E E { tmps := vs.toArray ++ Array.replicate (fn.ntmps - vs.toArray.size) undef, defers := [] } (Good.refl hn) ⟨hH, (fun t c hm => by rw [hn t] at hm; cases hm), fun t => ?_, ?_⟩ rfl) ?_)
 ·show V3 E ((args ++ List.replicate (fn.ntmps - args.length) AV.undef).getD t AV.undef) _
  rcases Nat.lt_or_ge t args.length with hlt | hge
  ·have h1 : args[t]? = some args[t] := List.getElem?_eq_getElem hlt
   obtain ⟨v, hv, hr⟩ := hp.get h1
   have hlt' : t < vs.length := hp.1 ▸ hlt
   have e1 : (args ++ List.replicate (fn.ntmps - args.length) AV.undef).getD t .undef = args[t] := by
    rw [List.getD_eq_getElem?_getD, List.getElem?_append_left hlt, h1]; rfl
   have e2 : (vs.toArray ++ Array.replicate (fn.ntmps - vs.toArray.size) undef).getD t undef = v := by
    rw [Array.getD_eq_getD_getElem?, Array.getElem?_append_left (by simpa using hlt')]
    simp [hv]
   rw [e1, e2]; exact V3_of_V2 hr
  ·have e1 : (args ++ List.replicate (fn.ntmps - args.length) AV.undef).getD t .undef = .undef := by
    rw [List.getD_eq_getElem?_getD, List.getElem?_append_right hge, List.getElem?_replicate]; split <;> rfl
   rw [e1]; exact V3.undef _ _
 ·simp [initSt, hp.1]
 ·rintro e a w ⟨hex, st, E', hq, hw, hg, hs, hd⟩
  have fin : resA P fn st Q → a.defers = [] ∧ ∃ v, (results fn a.tmps).run P w = .ok v w ∧ ∃ r v_1 H' E', (Ending.returned v) = .returned v_1 ∧ Q r H' ∧ E'.w = w ∧ (∀ t, E'.mL t = none) ∧ SimH E' H' ∧ V3 E' r v_1 ∧ Step E E' := by
   intro hres
   refine ⟨hd, ?_⟩
   subst hw
   have hm : ∀ f : ResultVar → Sem Value, (∀ t, f (.tmp t) = pure (a.tmps.getD t undef)) → (∀ b t, f (.cell b t) = do loadVar t (← asAddr (a.tmps.getD b undef))) → ∃ l us, (l.all noLp2 = true ∧ Q (wrapR l) st.H) ∧ (fn.results.mapM f).run P E'.w = .ok (List.toArray us) E'.w ∧ PW (V3 E') l us := by
    intro f f1 f2
    obtain ⟨l, us, h1, hr, h2⟩ := resL_sound hs f1 f2 _ _ hres
    exact ⟨l, us, h1, by rw [Array.mapM_eq_mapM_toList, Sem.run_map, hr]; rfl, h2⟩
   obtain ⟨f, hf0, hf1, hf2⟩ := results_eq fn a.tmps
   obtain ⟨l, us, ⟨hlp, hQ⟩, hr, hpw⟩ := hm f hf1 hf2
   refine ⟨if h : us.toArray.size = 1 then us.toArray[0] else .tuple us.toArray, ?_, wrapR l, _, st.H, E'.noL, rfl, hQ, rfl, fun _ => rfl, hs.h.noL, ?_, hg.toStep⟩
   ·rw [hf0, Sem.run_bind, hr]; rfl
   ·cases l with
    | nil =>
     obtain rfl := hpw.nil_inv
     exact ⟨[], rfl, PW.nil⟩
    | cons x l =>
     obtain ⟨u, us', rfl, hx, hpw'⟩ := hpw.cons_inv
     cases l with
     | nil =>
      obtain rfl := hpw'.nil_inv
      show V3 E'.noL x u
      have hnl : noLp2 x = true := by simpa using hlp
      exact hx.noL (by cases x <;> first | exact hnl | (cases hnl))
     | cons y l =>
      obtain ⟨z, us2, rfl, hy, hpw2⟩ := hpw'.cons_inv
      have hsz : ¬ (List.toArray (u :: z :: us2)).size = 1 := by simp
      rw [dif_neg hsz]
      refine ⟨_, rfl, ?_⟩
      refine ⟨hpw.1, fun i p q hpi hqi => ?_⟩
      have hv := hpw.2 i p q hpi hqi
      have hnl : noLp2 p = true := List.all_eq_true.1 hlp p (List.mem_of_getElem? hpi)
      have ht : ∀ l, p ≠ .tup l := by
       intro l e; subst e; cases hnl
      exact V2_of_noLp hnl hv ht
  cases e with
  | normal => exact fin hq
  | ret => exact fin hq
  | exit id => exact hq.elim
  | _ => cases hex
end Go.Proofs.Ytglpfccgmfhkdaa.Fw
