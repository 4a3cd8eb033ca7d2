/- The framework, part C: reading and writing cells; a function's begin and end. -/

import Derived.Test.YtglpfccgmfhkdaaFwB
set_option linter.unusedVariables false
namespace Go.Proofs.Ytglpfccgmfhkdaa.Fw
open Go
def oelim {α : Type} (o : Option α) (k : α → Prop) : Prop := match o with
 | some a => k a
 | none => False
theorem oelim_inv {α : Type} {o : Option α} {k : α → Prop} (h : oelim o k) : ∃ a, o = some a ∧ k a := by
 cases o with
 | none => exact h.elim
 | some a => exact ⟨a, rfl, h⟩
theorem oelim_mk {α : Type} {o : Option α} {k : α → Prop} {a : α} (h : o = some a) (hk : k a) : oelim o k := by rw [h]; exact hk
def okp (b : Bool) (x : Prop) : Prop := match b with
 | true => x
 | false => False
theorem okp_inv {b : Bool} {x : Prop} (h : okp b x) : b = true ∧ x := by
 cases b with
 | true => exact ⟨rfl, h⟩
 | false => exact h.elim
def isAggB (P : Program) (t : TypeId) : Bool := match P.underlying t with
 | some (.struct _) | some (.array _ _) => true
 | _ => false
def knownB (P : Program) (t : TypeId) : Bool := (P.underlying t).isSome
theorem run_underlying {P : Program} {t : TypeId} {w : World} {d : TypeDesc} (h : P.underlying t = some d) : (underlying t).run P w = .ok d w := by
 simp [Go.underlying, h]
theorem run_isAgg {P : Program} {t : TypeId} {w : World} (h : knownB P t = true) : (isAgg t).run P w = .ok (isAggB P t) w := by
 unfold knownB at h
 cases hd : P.underlying t with
 | none => simp [hd] at h
 | some d =>
  simp only [Go.isAgg, Sem.run_bind, run_underlying hd, Result.andThen_ok, isAggB, hd]
  cases d <;> rfl
theorem run_sizeOf {P : Program} {t : TypeId} {w : World} (h : (P.info? t).isSome = true) : (sizeOf t).run P w = .ok (P.cellsOf t) w := by
 cases hi : P.info? t with
 | none => simp [hi] at h
 | some i => simp [Go.sizeOf, typeInfo, hi, Program.cellsOf]
theorem info_of_known {P : Program} {t : TypeId} (h : knownB P t = true) : (P.info? t).isSome = true := by
 unfold knownB Program.underlying at h
 cases hi : P.info? t with
 | none => simp [hi] at h
 | some i => rfl
def takeA (P : Program) (t : TypeId) (cells : List AV) (c : Nat) (K : AV → Prop) : Prop :=
 if knownB P t = true then
  (if isAggB P t = true then (if c + P.cellsOf t ≤ cells.length then K (.agg ((cells.drop c).take (P.cellsOf t))) else False)
   else oelim cells[c]? K)
 else False
def ldA (P : Program) (t : TypeId) (x : AV) (L : List (Nat × List AV)) (H : List Blk) (K : AV → Prop) : Prop := match x with
 | .lptr s c => oelim (getL L s) fun cells => takeA P t cells c K
 | .ptr b g r c => oelim H[b]? fun blk => blk.gen = g ∧ oelim blk.rows[r]? fun row => takeA P t row c K
 | .rp cells c => takeA P t cells c K
 | _ => False
theorem addr_add (c o n : Nat) : (⟨c, o, none⟩ : Addr).add n = ⟨c, o + n, none⟩ := by
 unfold Addr.add; split
 ·subst_vars; rfl
 ·rfl
theorem take_sound {P : Program} {t : TypeId} {cells : List AV} {c bl o : Nat} {K : AV → Prop} {w : World} {R : AV → Value → Prop}
  (hc : ∀ (j : Nat) (a : AV), cells[j]? = some a → ∃ u, w.cell? ⟨bl, o + j, none⟩ = some u ∧ R a u) (h : takeA P t cells c K) :
  ∃ a v, K a ∧ (loadVar t ⟨bl, o + c, none⟩).run P w = .ok v w ∧
   ((∃ l vs, a = .agg l ∧ v = .agg (List.toArray vs) ∧ PW R l vs) ∨ R a v) := by
 unfold takeA at h
 split at h
 ·rename_i hk
  split at h
  ·rename_i ha
   split at h
   ·rename_i hl
    let n := P.cellsOf t
    have hall : ∀ j, j < n → ∃ a u, cells[c + j]? = some a ∧ w.cell? ⟨bl, o + (c + j), none⟩ = some u ∧ R a u := by
     intro j hj
     have hj' : c + j < cells.length := by show c + j < cells.length; have : n = P.cellsOf t := rfl; omega
     obtain ⟨u, h1, h2⟩ := hc (c + j) _ (List.getElem?_eq_getElem hj')
     exact ⟨_, u, List.getElem?_eq_getElem hj', h1, h2⟩
    let f : Nat → Value := fun j => (w.cell? ⟨bl, o + (c + j), none⟩).getD undef
    have hf : ∀ j, j < n → w.cell? ((⟨bl, o + c, none⟩ : Addr).add j) = some (f j) := by
     intro j hj
     obtain ⟨a, u, _, h1, _⟩ := hall j hj
     rw [addr_add, Nat.add_assoc]
     show _ = some ((w.cell? ⟨bl, o + (c + j), none⟩).getD undef)
     rw [h1]; rfl
    refine ⟨_, .agg ((List.range n).map f).toArray, h, ?_, .inl ⟨_, (List.range n).map f, rfl, rfl, ?_, ?_⟩⟩
    ·simp only [loadVar, Sem.run_bind, run_isAgg hk, Result.andThen_ok, ha, if_true, run_sizeOf (info_of_known hk)]
     rw [run_loadCells w _ n f hf]
     rfl
    ·simp only [List.length_take, List.length_drop, List.length_map, List.length_range]; show min n _ = n; have : n = P.cellsOf t := rfl; omega
    ·intro i a b hia hib
     have hi : i < n := by have := (List.getElem?_eq_some_iff.1 hib).1; simpa using this
     obtain ⟨a', u, h1, h2, h3⟩ := hall i hi
     rw [List.getElem?_take, if_pos (show i < P.cellsOf t from hi), List.getElem?_drop, h1] at hia
     cases hia
     rw [List.getElem?_map, List.getElem?_range hi] at hib
     simp only [Option.map_some, Option.some.injEq] at hib
     have : f i = u := by show (w.cell? ⟨bl, o + (c + i), none⟩).getD undef = u; rw [h2]; rfl
     rw [← hib, this]; exact h3
   ·exact h.elim
  ·rename_i ha
   obtain ⟨a, hca, hK⟩ := oelim_inv h
   obtain ⟨u, h1, h2⟩ := hc c a hca
   refine ⟨a, u, hK, ?_, .inr h2⟩
   have ha' : isAggB P t = false := by cases hx : isAggB P t <;> simp_all
   simp only [loadVar, Sem.run_bind, run_isAgg hk, Result.andThen_ok, ha']
   simp [h1]
 ·exact h.elim
theorem V1.up {E : Env} {a : AV} {v : Value} (h : V1 E.noL a v) : V1 E a v := h.le E.noL_le
theorem V1_not_agg {E : Env} {l : List AV} {v : Value} (h : V1 E (.agg l) v) : False := by
 have h' : RV E.w E.PA E.PF (.agg l) v := h
 cases h'
theorem V1_not_tup {E : Env} {l : List AV} {v : Value} (h : V1 E (.tup l) v) : False := by
 have h' : RV E.w E.PA E.PF (.tup l) v := h
 cases h'
theorem V2_of_V1 {E : Env} {a : AV} {v : Value} (h : V1 E a v) : V2 E a v := by
 by_cases hf : ∃ l, a = .agg l
 ·obtain ⟨l, rfl⟩ := hf; exact (V1_not_agg h).elim
 ·rw [V2_eq fun l e => hf ⟨l, e⟩]; exact h
theorem V2_not_tup {E : Env} {l : List AV} {v : Value} (h : V2 E (.tup l) v) : False := V1_not_tup (E := E) (l := l) (v := v) h
theorem V3_of_V2 {E : Env} {a : AV} {v : Value} (h : V2 E a v) : V3 E a v := by
 by_cases hf : ∃ l, a = .tup l
 ·obtain ⟨l, rfl⟩ := hf; exact (V2_not_tup h).elim
 ·rw [V3_eq fun l e => hf ⟨l, e⟩]; exact h
theorem V2_of_load {E : Env} {a : AV} {v : Value} (h : (∃ l vs, a = .agg l ∧ v = .agg (List.toArray vs) ∧ PW (V1 E) l vs) ∨ V1 E a v) : V2 E a v := by
 rcases h with ⟨l, vs, rfl, rfl, hp⟩ | h
 ·exact ⟨vs, rfl, hp⟩
 ·exact V2_of_V1 h
theorem V3.lptr_inv {E : Env} {t c : Nat} {v : Value} (h : V3 E (.lptr t c) v) : ∃ bl, E.mL t = some bl ∧ v = .pointer (some ⟨bl, c, none⟩) := h
theorem V3.ptr_inv {E : Env} {b g r c : Nat} {v : Value} (h : V3 E (.ptr b g r c) v) (hg : E.gen b = g) : ∃ bl, E.m b = some (some bl) ∧ v = .pointer (some ⟨bl, r * E.sz b + c, none⟩) := by
 rcases (h : V0 E (.ptr b g r c) v) with ⟨h, _⟩ | ⟨_, h⟩
 ·omega
 ·exact h
theorem cell_of {w : World} {c o : Nat} {cs : Array Value} {ty : TypeId} {fz : Nat × Nat} {u : Value} (h : w.heap[c]? = some (.cells cs ty fz)) (hu : cs[o]? = some u) : w.cell? ⟨c, o, none⟩ = some u := by
 simp [World.cell?, h, hu]
structure Sub (L : List (Nat × List AV)) (H : List Blk) (Ln : List (Nat × List AV)) (Hn : List Blk) : Prop where
 l : ∀ t c, getL L t = some c → getL Ln t = some c
 h : ∀ (b : Nat) (blk : Blk), H[b]? = some blk → Hn[b]? = some blk
theorem Sub.refl (L : List (Nat × List AV)) (H : List Blk) : Sub L H L H := ⟨fun _ _ h => h, fun _ _ h => h⟩
theorem ld_sound {P : Program} {t : TypeId} {x : AV} {L Ln : List (Nat × List AV)} {H Hn : List Blk} {K : AV → Prop} {E : Env} {v : Value}
  (sub : Sub L H Ln Hn) (hH : SimH E Hn) (hL : SimL E Ln) (hx : V3 E x v) (h : ldA P t x L H K) :
  ∃ a v', K a ∧ (Instr.loadAt t v).run P E.w = .ok v' E.w ∧ V2 E a v' := by
 cases x with
 | lptr s c =>
  obtain ⟨bl, hm, rfl⟩ := hx.lptr_inv
  obtain ⟨cells, cs, ty, hg, hw, hp⟩ := hL s bl hm
  have h' : oelim (getL L s) fun cells => takeA P t cells c K := h
  obtain ⟨cells2, hg2, h'⟩ := oelim_inv h'
  obtain rfl : cells = cells2 := by have := sub.l _ _ hg2; rw [hg] at this; exact Option.some.inj this
  obtain ⟨a, v', hK, hr, hv⟩ := take_sound (o := 0) (bl := bl) (w := E.w) (R := V1 E.noL) (fun j a hj => by
   obtain ⟨u, hu, hr⟩ := hp.get hj
   exact ⟨u, by rw [Nat.zero_add]; exact cell_of hw (by simpa using hu), hr⟩) h'
  rw [Nat.zero_add] at hr
  refine ⟨a, v', hK, ?_, (V2_of_load hv).le E.noL_le⟩
  simp only [Instr.loadAt, Instr.sureAddr, Sem.run_bind, Sem.run_pure, Result.andThen_ok, hr]
 | ptr b g r c =>
  obtain ⟨blk, hb, hg, h2⟩ := oelim_inv (show oelim H[b]? fun blk => blk.gen = g ∧ oelim blk.rows[r]? fun row => takeA P t row c K from h)
  obtain ⟨row, hrow, h3⟩ := oelim_inv h2
  replace hb := sub.h b blk hb
  have hgen := hH.gens b blk hb
  obtain ⟨bl, hm, rfl⟩ := hx.ptr_inv (hgen.trans hg)
  obtain ⟨blk', cs, ty, hb', hbs, hw, hcs, hlen, hrows⟩ := hH.heap b bl hm
  obtain rfl : blk = blk' := by rw [hb] at hb'; exact Option.some.inj hb'
  obtain ⟨a, v', hK, hr, hv⟩ := take_sound (o := r * E.sz b) (bl := bl) (w := E.w) (R := V1 E.noL) (fun j a hj => by
   obtain ⟨u, hu, hr⟩ := hrows.2 r j row a hrow hj
   exact ⟨u, cell_of hw hu, hr⟩) h3
  refine ⟨a, v', hK, ?_, (V2_of_load hv).le E.noL_le⟩
  simp only [Instr.loadAt, Instr.sureAddr, Sem.run_bind, Sem.run_pure, Result.andThen_ok, hr]
 | rp cells c =>
  have hx' : RV E.w E.PA E.PF (.rp cells c) v := hx
  cases hx' with
  | @rp _ _ _ _ bl o vs hc hcell hrel =>
   have h' : takeA P t cells c K := h
   obtain ⟨a, v', hK, hr, hv⟩ := take_sound (o := o) (bl := bl) (w := E.w) (R := RV E.w E.PA (fun _ => False)) (fun j a hj => 
    ⟨vs j, hcell j (List.getElem?_eq_some_iff.1 hj).1, hrel j a hj⟩) h'
   have up : ∀ a v, RV E.w E.PA (fun _ => False) a v → V1 E a v := fun a v hr => (hr.mono (fun _ _ => rfl) (fun _ h => h.elim) (fun _ h => h) (fun _ h => h.elim)).v1
   refine ⟨a, v', hK, ?_, V2_of_load (hv.imp (fun ⟨l, vs, h1, h2, h3⟩ => ⟨l, vs, h1, h2, h3.mono up⟩) (up _ _))⟩
   simp only [Instr.loadAt, Instr.sureAddr, Sem.run_bind, Sem.run_pure, Result.andThen_ok, hr]
 | _ => exact h.elim
end Go.Proofs.Ytglpfccgmfhkdaa.Fw
