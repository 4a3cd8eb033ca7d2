/- The framework, part R: what is not wanted any more is forgotten; an empty slice becomes a block of its own. -/

import Derived.Test.YtglpfccgmfhkdaaFwP
set_option linter.unusedVariables false
namespace Go.Proofs.Ytglpfccgmfhkdaa.Fw
open Go
def lpf0 (ts : List Nat) : AV → Bool
 | .lptr t _ => !ts.contains t
 | _ => true
def lpf1 (ts : List Nat) : AV → Bool
 | .fn _ caps => caps.all (lpf0 ts)
 | a => lpf0 ts a
def lpf2 (ts : List Nat) : AV → Bool
 | .agg l => l.all (lpf1 ts)
 | a => lpf1 ts a
def lpf3 (ts : List Nat) : AV → Bool
 | .tup l => l.all (lpf2 ts)
 | a => lpf2 ts a
def Env.drop (E : Env) (ts : List Nat) : Env := { E with mL := fun t => if ts.contains t = true then none else E.mL t }
section
variable {E : Env} {ts : List Nat}
theorem V0.drop {a : AV} {v : Value} (h : lpf0 ts a = true) (hv : V0 E a v) : V0 (E.drop ts) a v := by
 cases a with
 | lptr t c =>
  obtain ⟨bl, hm, e⟩ := hv
  have : ts.contains t = false := by simpa [lpf0] using h
  exact ⟨bl, by show (if ts.contains t = true then none else E.mL t) = _; rw [if_neg (by rw [this]; simp)]; exact hm, e⟩
 | _ => exact hv
theorem V1.drop {a : AV} {v : Value} (h : lpf1 ts a = true) (hv : V1 E a v) : V1 (E.drop ts) a v := by
 by_cases hf : ∃ f caps, a = .fn f caps
 ·obtain ⟨f, caps, rfl⟩ := hf
  obtain ⟨vs, e, hp⟩ := hv
  exact ⟨vs, e, hp.1, fun i x y hx hy => (hp.2 i x y hx hy).drop (List.all_eq_true.1 (show caps.all (lpf0 ts) = true from h) x (List.mem_of_getElem? hx))⟩
 ·have h0 : lpf1 ts a = lpf0 ts a := by cases a <;> first | rfl | exact absurd ⟨_, _, rfl⟩ hf
  rw [V1_eq fun f c e => hf ⟨f, c, e⟩] at hv ⊢
  exact hv.drop (h0 ▸ h)
theorem V2.drop {a : AV} {v : Value} (h : lpf2 ts a = true) (hv : V2 E a v) : V2 (E.drop ts) a v := by
 by_cases hf : ∃ l, a = .agg l
 ·obtain ⟨l, rfl⟩ := hf
  obtain ⟨vs, e, hp⟩ := hv
  exact ⟨vs, e, hp.1, fun i x y hx hy => (hp.2 i x y hx hy).drop (List.all_eq_true.1 (show l.all (lpf1 ts) = true from h) x (List.mem_of_getElem? hx))⟩
 ·have h0 : lpf2 ts a = lpf1 ts a := by cases a <;> first | rfl | exact absurd ⟨_, rfl⟩ hf
  rw [V2_eq fun l e => hf ⟨l, e⟩] at hv ⊢
  exact hv.drop (h0 ▸ h)
theorem V3.drop {a : AV} {v : Value} (h : lpf3 ts a = true) (hv : V3 E a v) : V3 (E.drop ts) a v := by
 by_cases hf : ∃ l, a = .tup l
 ·obtain ⟨l, rfl⟩ := hf
  obtain ⟨vs, e, hp⟩ := hv
  exact ⟨vs, e, hp.1, fun i x y hx hy => (hp.2 i x y hx hy).drop (List.all_eq_true.1 (show l.all (lpf2 ts) = true from h) x (List.mem_of_getElem? hx))⟩
 ·have h0 : lpf3 ts a = lpf2 ts a := by cases a <;> first | rfl | exact absurd ⟨_, rfl⟩ hf
  rw [V3_eq fun l e => hf ⟨l, e⟩] at hv ⊢
  exact hv.drop (h0 ▸ h)
end
def dropL (ts : List Nat) (L : List (Nat × List AV)) : List (Nat × List AV) := match L with
 | [] => []
 | (k, c) :: L => match ts.contains k with
  | true => dropL ts L
  | false => (k, c) :: dropL ts L
theorem dropL_get {ts : List Nat} : ∀ (L : List (Nat × List AV)) (t : Nat), ts.contains t = false → getL (dropL ts L) t = getL L t
 | [], t, h => rfl
 | (k, c) :: L, t, h => by
  unfold dropL
  split
  ·rename_i hk
   have : t ≠ k := fun e => by subst e; rw [h] at hk; cases hk
   rw [dropL_get L t h]; simp [getL, this]
  ·simp only [getL]; rw [dropL_get L t h]
theorem Weak.dropL (ts : List Nat) {T : List AV} {L : List (Nat × List AV)} {H : List Blk} (h : T.all (lpf3 ts) = true) : Weak ⟨T, L, H⟩ ⟨T, dropL ts L, H⟩ := fun E0 E tmps g s => by
 have hm : ∀ t c, (E.drop ts).mL t = some c → ts.contains t = false ∧ E.mL t = some c := by
  intro t c hc
  have hc : (if ts.contains t = true then none else E.mL t) = some c := hc
  split at hc
  ·cases hc
  ·rename_i q; exact ⟨by simpa using q, hc⟩
 have hi : ∀ c, (E.drop ts).imgL c → E.imgL c := fun c ⟨t, ht⟩ => ⟨t, (hm t c ht).2⟩
 have sh : SimH E H := s.h
 refine ⟨E.drop ts, rfl, ?_, ?_, ?_, fun t => ?_, s.size⟩
 ·exact { g with
   le := { g.le with mL := fun t c hc => by rw [g.noL t] at hc; cases hc }
   imL := fun c hc => g.imL c (hi c hc) }
 ·exact { sh with
   heap := sh.heap
   injL := fun t t' c h1 h2 => sh.injL t t' c (hm t c h1).2 (hm t' c h2).2
   injHL := fun b t c h1 h2 => sh.injHL b t c h1 (hm t c h2).2
   notL := fun c hc hx => sh.notL c hc (hi c hx)
   ltL := fun c hx => sh.ltL c (hi c hx) }
 ·intro t c hc
  obtain ⟨h1, h2⟩ := hm t c hc
  obtain ⟨cells, cs, ty, q1, q2, q3⟩ := s.l t c h2
  exact ⟨cells, cs, ty, by show getL (Fw.dropL ts L) t = _; rw [dropL_get L t h1]; exact q1, q2, q3⟩
 ·show V3 (E.drop ts) (T.getD t .undef) _
  refine (s.slots t).drop ?_
  show lpf3 ts (T.getD t .undef) = true
  rw [List.getD_eq_getElem?_getD]
  cases hq : T[t]? with
  | none => rfl
  | some a => exact List.all_eq_true.1 h a (List.mem_of_getElem? hq)
def isEmp : AV → Bool
 | .lst [] true _ => true
 | _ => false
theorem emp_val {E : Env} {a : AV} {v : Value} (h : isEmp a = true) (hv : V0 E a v) : ∃ A, v = .slice A 0 0 := by
 have key : ∀ rows full fr, a = .lst rows full fr → rows = [] → full = true → ∃ A, v = .slice A 0 0 := by
  intro rows full fr e hr hf
  subst e
  have hv : RV E.w E.PA E.PF (.lst rows full fr) v := hv
  cases hv with
  | @lst _ _ PB _ _ _ A cap sz vs hPB hcap hfull hsz hcell hrel =>
   refine ⟨A, ?_⟩
   rw [hfull hf, hr]; rfl
 unfold isEmp at h
 split at h
 ·exact key _ _ _ rfl rfl rfl
 ·cases h
theorem emp_ref {E E' : Env} {a : AV} {v : Value} {b : Nat} (h : isEmp a = true) (hv : V1 E a v) (hg : E'.gen b = 0) (hm : E'.m b = some none) : V1 E' (.ref b 0 0 0 false) v := by
 have hv0 : V0 E a v := by
  rwa [V1_eq] at hv
  rintro f c rfl; cases h
 obtain ⟨A, rfl⟩ := emp_val h hv0
 exact .inr ⟨hg.symm, .inl ⟨hm, rfl, rfl, A, rfl⟩⟩
theorem Weak.adoptT (i sz : Nat) {T : List AV} {L : List (Nat × List AV)} {H : List Blk} (h : isEmp (T.getD i .undef) = true) : Weak ⟨T, L, H⟩ ⟨T.set i (.ref H.length 0 0 0 false), L, H ++ [⟨0, sz, []⟩]⟩ := fun E0 E tmps g s => by
 obtain ⟨E', hw, hst, h1, h2, h3, h4, _⟩ := nilH_sound (blk := ⟨0, sz, []⟩) s.h s.l rfl rfl
 refine ⟨E', hw, g.step hst, h1, h2, fun t => ?_, by simpa using s.size⟩
 show V3 E' ((T.set i _).getD t .undef) _
 rw [getD_set]
 split
 ·rename_i hq
  obtain ⟨rfl, _⟩ := hq
  have hv := s.slots i
  have hv1 : V1 E (T.getD i .undef) (tmps.getD i undef) := by
   have hv : V3 E (T.getD i .undef) (tmps.getD i undef) := hv
   rw [V3_eq, V2_eq] at hv
   ·exact hv
   ·intro l e; rw [e] at h; cases h
   ·intro l e; rw [e] at h; cases h
  exact V3_of_V2 (V2_of_V1 (emp_ref h hv1 h3 h4))
 ·exact (s.slots t).le hst.le
theorem Weak.adoptL (t i sz : Nat) {T : List AV} {L : List (Nat × List AV)} {H : List Blk} {cells : List AV} (hc : getL L t = some cells) (h : isEmp (cells.getD i .undef) = true) :
  Weak ⟨T, L, H⟩ ⟨T, setL L t (cells.set i (.ref H.length 0 0 0 false)), H ++ [⟨0, sz, []⟩]⟩ := fun E0 E tmps g s => by
 obtain ⟨E', hw, hst, h1, h2, h3, h4, h5, h6⟩ := nilH_sound (blk := ⟨0, sz, []⟩) s.h s.l rfl rfl
 refine ⟨E', hw, g.step hst, h1, ?_, fun t => (s.slots t).le hst.le, s.size⟩
 intro u c hm
 obtain ⟨cells', cs, ty, q1, q2, q3⟩ := h2 u c hm
 show ∃ cells0 cs ty, getL (setL L t _) u = some cells0 ∧ _
 rw [getL_setL]
 by_cases hu : u = t
 ·subst hu
  rw [if_pos rfl]
  have q1' : getL L u = some cells' := q1
  rw [hc] at q1'
  cases q1'
  refine ⟨_, cs, ty, by rw [hc]; rfl, q2, by simpa using q3.1, fun j x v hx hv => ?_⟩
  rw [List.getElem?_set] at hx
  split at hx
  ·rename_i hij
   subst hij
   split at hx
   ·rename_i hlt
    cases hx
    have hg := List.getElem?_eq_getElem hlt
    have : cells.getD i .undef = cells[i] := by rw [List.getD_eq_getElem?_getD, hg]; rfl
    have hv1 := q3.2 i _ v hg hv
    rw [this] at h
    exact emp_ref (E := E'.noL) h hv1 h3 h4
   ·cases hx
  ·exact q3.2 j x v hx hv
 ·rw [if_neg hu]
  exact ⟨cells', cs, ty, q1, q2, q3⟩
end Go.Proofs.Ytglpfccgmfhkdaa.Fw
