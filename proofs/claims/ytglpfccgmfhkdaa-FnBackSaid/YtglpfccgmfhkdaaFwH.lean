/- The framework, part H: a piece of a slice or text; a function's call: what it says of the abstract memory; snapshots of what is handed over. -/

import Derived.Test.YtglpfccgmfhkdaaFwG
set_option linter.unusedVariables false
namespace Go.Proofs.Ytglpfccgmfhkdaa.Fw
open Go
def bndA (x : Option AV) (d : Nat) (K : Nat → Prop) : Prop := match x with
 | none => K d
 | some (.int _ n) => 0 ≤ n ∧ K n.toNat
 | some _ => False
def slcA (P : Program) (t : TypeId) (x : AV) (lo hi : Option AV) (H : List Blk) (K : AV → Prop) : Prop := match x with
 | .str s => (match P.underlying t with
  | some .string => bndA lo 0 fun l => bndA hi s.size fun h => l ≤ h ∧ h ≤ s.size ∧ K (.str (s.extract l h))
  | _ => False)
 | .lst rows _ fr => oelim (elemT P t) fun e => if (P.info? e).isSome = true then
   bndA lo 0 fun l => bndA hi rows.length fun h => l ≤ h ∧ h ≤ rows.length ∧ (∀ (i : Nat) (row : List AV), rows[i]? = some row → row.length = P.cellsOf e) ∧ K (.lst ((rows.drop l).take (h - l)) false fr) else False
 | .ref b g off n _ => oelim (elemT P t) fun e => if (P.info? e).isSome = true then
   oelim H[b]? fun blk => blk.gen = g ∧ blk.sz = P.cellsOf e ∧ bndA lo 0 fun l => bndA hi n fun h => l ≤ h ∧ h ≤ n ∧ (l < h → K (.ref b g (off + l) (h - l) false)) ∧ (l = h → K (.lst [] false true)) else False
 | _ => False
def OptRel (E : Env) (x : Option AV) (v : Option Value) : Prop := match x, v with
  | none, none => True
  | some a, some u => V3 E a u
  | _, _ => False
theorem bnd_inv {x : Option AV} {d : Nat} {K : Nat → Prop} {E : Env} {v : Option Value} (hx : OptRel E x v) (h : bndA x d K) : ∃ n, K n ∧ ((v = none ∧ n = d) ∨ ∃ k, v = some (.int k n)) := by
 cases x with
 | none =>
  cases v with
  | none => exact ⟨d, h, .inl ⟨rfl, rfl⟩⟩
  | some u => exact hx.elim
 | some a =>
  cases v with
  | none => exact hx.elim
  | some u =>
   cases a with
   | int k n =>
    obtain ⟨h0, h⟩ := (show 0 ≤ n ∧ K n.toNat from h)
    obtain rfl := V3.int_inv hx
    exact ⟨n.toNat, h, .inr ⟨k, by rw [Int.toNat_of_nonneg h0]⟩⟩
   | _ => exact h.elim
theorem run_bounds {P : Program} {w : World} {isS : Bool} {len cap l h : Nat} {lo hi : Option Value} (hl : (lo = none ∧ l = 0) ∨ ∃ k, lo = some (.int k l)) (hh : (hi = none ∧ h = len) ∨ ∃ k, hi = some (.int k h))
  (h1 : l ≤ h) (h2 : h ≤ cap) : (Instr.sliceBounds isS len cap lo hi none).run P w = .ok (l, h, cap) w := by
 rcases hl with ⟨rfl, rfl⟩ | ⟨kl, rfl⟩ <;> rcases hh with ⟨rfl, rfl⟩ | ⟨kh, rfl⟩
 ·simp [Instr.sliceBounds]
 ·simp [Instr.sliceBounds, run_sliceBound (P := P) w kh (h : Int) cap _ (by omega) (by omega)]
 ·simp [Instr.sliceBounds, run_sliceBound (P := P) w kl (l : Int) _ _ (by omega) (show (l : Int) ≤ ((_ : Nat) : Int) by exact Int.ofNat_le.2 h1)]
 ·simp [Instr.sliceBounds, run_sliceBound (P := P) w kh (h : Int) cap _ (by omega) (by omega), run_sliceBound (P := P) w kl (l : Int) h _ (by omega) (by omega)]
theorem slc_sound {P : Program} {t : TypeId} {x : AV} {lo hi : Option AV} {K : AV → Prop} {E : Env} {L Ln : List (Nat × List AV)} {H Hn : List Blk} {v : Value} {vl vh : Option Value} (sub : Sub L H Ln Hn) (hH : SimH E Hn) (hx : V3 E x v)
  (hlo : OptRel E lo vl) (hhi : OptRel E hi vh)
  (h : slcA P t x lo hi H K) : ∃ r u, K r ∧ (Instr.sliceAt t v vl vh none).run P E.w = .ok u E.w ∧ V3 E r u := by
 cases x with
 | str s =>
  obtain rfl := hx.str_inv
  have h : (match P.underlying t with
   | some .string => bndA lo 0 fun l => bndA hi s.size fun h => l ≤ h ∧ h ≤ s.size ∧ K (.str (s.extract l h))
   | _ => False) := h
  split at h
  ·rename_i hu
   obtain ⟨l, h, hl⟩ := bnd_inv hlo h
   obtain ⟨q, ⟨h1, h2, hK⟩, hq⟩ := bnd_inv hhi h
   refine ⟨_, .string (s.extract l q), hK, ?_, RV.str _⟩
   rw [run_sliceAt_string E.w t _ _ _ _ hu]
   simp only [Instr.slice, Sem.run_bind, run_underlying hu, Result.andThen_ok]
   simp only [Option.isSome_none, Bool.false_eq_true, if_false]
   simp only [Sem.run_bind, run_bounds (P := P) (w := E.w) (isS := false) hl hq h1 h2, Result.andThen_ok]
   rfl
  ·exact h.elim
 | lst rows full fr =>
  obtain ⟨e, he, h⟩ := oelim_inv (show oelim (elemT P t) fun e => if (P.info? e).isSome = true then
   bndA lo 0 fun l => bndA hi rows.length fun h => l ≤ h ∧ h ≤ rows.length ∧ (∀ (i : Nat) (row : List AV), rows[i]? = some row → row.length = P.cellsOf e) ∧ K (.lst ((rows.drop l).take (h - l)) false fr) else False from h)
  have hu := elemT_spec he
  split at h
  case isFalse => exact h.elim
  case isTrue hinf =>
  obtain ⟨l, h, hl⟩ := bnd_inv hlo h
  obtain ⟨q, ⟨h1, h2, hrl, hK⟩, hq⟩ := bnd_inv hhi h
  have hx' : RV E.w E.PA E.PF (.lst rows full fr) v := hx
  cases hx' with
  | @lst _ _ PB _ _ _ A cap sz vs hPB hcap hfull hsz hcell hrel =>
   have hel : P.elem t = e := by simp [Program.elem, hu]
   have hu' : P.underlying t = some (.slice (P.elem t)) := by rw [hel]; exact hu
   have hlen : ((rows.drop l).take (q - l)).length = q - l := by simp; omega
   refine ⟨_, sliced A l q cap (P.cellsOf e), hK, ?_, ?_⟩
   ·rw [run_sliceAt_slice E.w t _ _ _ _ hu', run_slice_any E.w t A rows.length cap hu', run_bounds (P := P) (w := E.w) hl hq h1 (by omega)]
    simp only [Result.andThen_ok, hel, run_sizeOf hinf]
   ·show RV E.w E.PA E.PF _ (.slice _ (q - l) (cap - l))
    have key := RV.lst (w := E.w) (PA := E.PA) (PF := E.PF) (PB := PB) (rows := (rows.drop l).take (q - l)) (full := false) (fresh := fr) (A := if cap = l then A else A.map (·.add (l * P.cellsOf e))) (cap := cap - l) (sz := sz) (vs := fun i j => vs (l + i) j)
     hPB (by rw [hlen]; omega) (fun h => by cases h)
     (fun i row hr => by
      rw [List.getElem?_take] at hr
      split at hr
      ·rw [List.getElem?_drop] at hr; exact hsz _ _ hr
      ·cases hr)
     (fun hn => by
      rw [hlen] at hn
      obtain ⟨c, o, rfl, hc, hall⟩ := hcell (by omega)
      have hsz2 : sz = P.cellsOf e := by
       have hlt : l < rows.length := by omega
       rw [← hsz l _ (List.getElem?_eq_getElem hlt)]; exact hrl l _ (List.getElem?_eq_getElem hlt)
      refine ⟨c, o + l * P.cellsOf e, by rw [if_neg (by omega)]; simp [addr_add], hc, fun i j hi hj => ?_⟩
      rw [hlen] at hi
      have := hall (l + i) j (by omega) hj
      rw [← this, hsz2]
      congr 2
      rw [Nat.add_mul]; omega)
     (fun i j row a hr hj => by
      rw [List.getElem?_take] at hr
      split at hr
      ·rw [List.getElem?_drop] at hr; exact hrel _ _ _ _ hr hj
      ·cases hr)
    rw [hlen] at key
    exact key
 | ref b g off n full =>
  obtain ⟨e, he, h⟩ := oelim_inv (show oelim (elemT P t) fun e => if (P.info? e).isSome = true then
   oelim H[b]? fun blk => blk.gen = g ∧ blk.sz = P.cellsOf e ∧ bndA lo 0 fun l => bndA hi n fun h => l ≤ h ∧ h ≤ n ∧ (l < h → K (.ref b g (off + l) (h - l) false)) ∧ (l = h → K (.lst [] false true)) else False from h)
  have hu := elemT_spec he
  split at h
  case isFalse => exact h.elim
  case isTrue hinf =>
  obtain ⟨blk, hb, hg, hbs, h⟩ := oelim_inv h
  obtain ⟨l, h, hl⟩ := bnd_inv hlo h
  obtain ⟨q, ⟨h1, h2, hK1, hK2⟩, hq⟩ := bnd_inv hhi h
  have hb := sub.h b blk hb
  have hgen := hH.gens b blk hb
  have hel : P.elem t = e := by simp [Program.elem, hu]
  have hu' : P.underlying t = some (.slice (P.elem t)) := by rw [hel]; exact hu
  have run : ∀ A cap, n ≤ cap → (Instr.sliceAt t (.slice A n cap) vl vh none).run P E.w = .ok (sliced A l q cap (P.cellsOf e)) E.w := by
   intro A cap hc
   rw [run_sliceAt_slice E.w t _ _ _ _ hu', run_slice_any E.w t A n cap hu', run_bounds (P := P) (w := E.w) hl hq h1 (by omega)]
   simp only [Result.andThen_ok, hel, run_sizeOf hinf]
  have empty : ∀ A cap, l = q → V3 E (.lst [] false true) (sliced A l q cap (P.cellsOf e)) := by
   intro A cap hlq
   subst hlq
   show RV E.w E.PA E.PF _ (.slice _ (l - l) (cap - l))
   rw [Nat.sub_self]
   exact RV.lst (PB := fun _ => False) (sz := 0) (vs := fun _ _ => undef) (fun _ h => h.elim) ⟨Nat.zero_le _, Nat.zero_le _⟩ (fun h => by cases h) (fun i row h => by simp at h) (fun h => by simp at h) (fun i j row a h => by simp at h)
  rcases (show V0 E (.ref b g off n full) v from hx) with ⟨hh, _⟩ | ⟨hge, hh⟩
  ·omega
  ·rcases hh with ⟨_, _, rfl, A, rfl⟩ | ⟨c, cap, hm, rfl, hmc, hfl, hcp⟩
   ·have hlq : l = q := by omega
    exact ⟨_, _, hK2 hlq, run A 0 (Nat.le_refl _), empty _ _ hlq⟩
   ·rcases Nat.lt_or_ge l q with hlt | hge'
    ·refine ⟨_, _, hK1 hlt, run _ cap hmc, .inr ⟨hge, .inr ⟨c, cap - l, hm, ?_, by omega, (fun h => by cases h), by omega⟩⟩⟩
     obtain ⟨blk', cs, ty, q1, q0, _⟩ := hH.heap b c hm
     obtain rfl : blk = blk' := by rw [hb] at q1; exact Option.some.inj q1
     simp only [sliced, if_neg (show ¬ cap = l by omega), Option.map_some, addr_add, q0, hbs, Nat.add_mul]
    ·have hlq : l = q := by omega
     exact ⟨_, _, hK2 hlq, run _ cap hmc, empty _ _ hlq⟩
 | _ => exact h.elim
end Go.Proofs.Ytglpfccgmfhkdaa.Fw
