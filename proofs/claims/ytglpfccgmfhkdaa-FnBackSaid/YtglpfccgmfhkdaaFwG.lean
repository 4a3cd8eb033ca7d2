/- The framework, part G: addresses of fields and elements, pieces, lengths, conversions. -/

import Derived.Test.YtglpfccgmfhkdaaFwF
set_option linter.unusedVariables false
namespace Go.Proofs.Ytglpfccgmfhkdaa.Fw
open Go
def fieldT (P : Program) (t : TypeId) (f : Nat) : Option Field := match P.underlying t with
 | some (.struct fs) => fs.toList[f]?
 | _ => none
theorem fieldT_spec {P : Program} {t : TypeId} {f : Nat} {fd : Field} (h : fieldT P t f = some fd) : ∃ fs, P.underlying t = some (.struct fs) ∧ fs[f]? = some fd := by
 unfold fieldT at h
 split at h
 ·rename_i fs hfs; exact ⟨fs, hfs, by simpa using h⟩
 ·cases h
def fadA (P : Program) (t : TypeId) (x : AV) (f : Nat) (K : AV → Prop) : Prop :=
 oelim (fieldT P t f) fun fd => if (P.info? fd.type).isSome = true ∧ P.cellsOf fd.type ≠ 0 then (match x with
  | .lptr s c => K (.lptr s (c + fd.offset))
  | .ptr b g r c => K (.ptr b g r (c + fd.offset))
  | .rp cells c => K (.rp cells (c + fd.offset))
  | _ => False) else False
theorem run_fieldPlace {P : Program} {fd : Field} {w : World} {c o : Nat} (hi : (P.info? fd.type).isSome = true) (hz : P.cellsOf fd.type ≠ 0) :
  (fieldPlace ⟨c, o, none⟩ fd).run P w = .ok ⟨c, o + fd.offset, none⟩ w := by
 simp [fieldPlace, run_sizeOf hi, hz, addr_add]
theorem fad_sound {P : Program} {t : TypeId} {x : AV} {f : Nat} {K : AV → Prop} {E : Env} {v : Value} (hx : V3 E x v)
  (h : fadA P t x f K) :
  ∃ r u, K r ∧ (Instr.fieldAt t v f).run P E.w = .ok u E.w ∧ V3 E r u := by
 obtain ⟨fd, hf, h⟩ := oelim_inv h
 obtain ⟨fs, hu, hfd⟩ := fieldT_spec hf
 split at h
 case isFalse => exact h.elim
 case isTrue hc =>
 obtain ⟨hi, hz⟩ := hc
 have run : ∀ bl o, (Instr.fieldAt t (.pointer (some ⟨bl, o, none⟩)) f).run P E.w = .ok (.pointer (some ⟨bl, o + fd.offset, none⟩)) E.w := by
  intro bl o
  simp [Instr.fieldAt, run_underlying hu, hfd, Instr.sureAddr, run_fieldPlace hi hz]
 cases x with
 | lptr s c =>
  obtain ⟨bl, hm, rfl⟩ := hx.lptr_inv
  exact ⟨_, _, h, run bl c, bl, hm, rfl⟩
 | ptr b g r c =>
  rcases (show V0 E (.ptr b g r c) v from hx) with ⟨hg, bl, o, rfl⟩ | ⟨hg, bl, hm, rfl⟩
  ·exact ⟨_, _, h, run bl o, .inl ⟨hg, _, _, rfl⟩⟩
  ·exact ⟨_, _, h, run bl _, .inr ⟨hg, bl, hm, by rw [Nat.add_assoc]⟩⟩
 | rp cells c =>
  have hx' : RV E.w E.PA E.PF (.rp cells c) v := hx
  cases hx' with
  | @rp _ _ _ _ bl o vs hc hcell hrel =>
   exact ⟨_, _, h, run bl _, by rw [Nat.add_assoc]; exact RV.rp hc hcell hrel⟩
 | _ => exact h.elim
def iadA (P : Program) (t : TypeId) (x i : AV) (H : List Blk) (K : AV → Prop) : Prop :=
 oelim (elemT P t) fun e => if (P.info? e).isSome = true then (match i with
  | .int _ n => (match x with
   | .lst rows _ _ => 0 ≤ n ∧ oelim rows[n.toNat]? fun row => row.length = P.cellsOf e ∧ K (.rp row 0)
   | .ref b g off m _ => oelim H[b]? fun blk => blk.gen = g ∧ blk.sz = P.cellsOf e ∧ 0 ≤ n ∧ n < m ∧ K (.ptr b g (off + n.toNat) 0)
   | _ => False)
  | _ => False) else False
theorem iad_sound {P : Program} {t : TypeId} {x i : AV} {K : AV → Prop} {E : Env} {L Ln : List (Nat × List AV)} {H Hn : List Blk} {v iv : Value} (sub : Sub L H Ln Hn) (hH : SimH E Hn) (hx : V3 E x v) (hi : V3 E i iv)
  (h : iadA P t x i H K) : ∃ r u, K r ∧ (Instr.indexAt t v iv).run P E.w = .ok u E.w ∧ V3 E r u := by
 obtain ⟨e, he, h⟩ := oelim_inv h
 have hu := elemT_spec he
 split at h
 case isFalse => exact h.elim
 case isTrue hinf =>
 cases i with
 | int k n =>
  obtain rfl := hi.int_inv
  cases x with
  | lst rows full fresh =>
   obtain ⟨h0, h⟩ := (show 0 ≤ n ∧ oelim rows[n.toNat]? fun row => row.length = P.cellsOf e ∧ K (.rp row 0) from h)
   obtain ⟨row, hr, hl, hK⟩ := oelim_inv h
   have hlt : n.toNat < rows.length := (List.getElem?_eq_some_iff.1 hr).1
   have hx' : RV E.w E.PA E.PF (.lst rows full fresh) v := hx
   cases hx' with
   | @lst _ _ PB _ _ _ A cap sz vs hPB hcap hfull hsz hcell hrel =>
    obtain ⟨c, o, rfl, hc, hall⟩ := hcell (by omega)
    have hsz' := hsz _ _ hr
    refine ⟨_, .pointer (some ⟨c, o + n.toNat * P.cellsOf e, none⟩), hK, ?_, ?_⟩
    ·simp only [Instr.indexAt, Sem.run_bind, asIntOf, Sem.run_pure, Result.andThen_ok, run_underlying hu]
     rw [if_pos ⟨h0, by omega⟩]
     simp [run_sizeOf hinf, addr_add]
    ·show RV _ _ _ _ _
     have := RV.rp (w := E.w) (PA := E.PA) (PF := E.PF) (cells := row) (col := 0) (c := c) (o := o + n.toNat * P.cellsOf e) (vs := vs n.toNat)
      (by have := hPB c hc; split at this; exact hH.pfpa c this; exact this)
      (fun j hj => by rw [Nat.add_assoc, ← hl, hsz']; exact hall n.toNat j hlt (by omega))
      (fun j a hj => (hrel n.toNat j row a hr hj).mono (fun _ _ => rfl) (fun _ h => h.elim) (fun d hd => by
       have := hPB d hd; split at this; exact hH.pfpa d this; exact this) (fun _ h => h))
     simpa using this
  | ref b g off m full =>
   obtain ⟨blk, hb, hg, hbs, h0, h1, hK⟩ := oelim_inv (show oelim H[b]? fun blk => blk.gen = g ∧ blk.sz = P.cellsOf e ∧ 0 ≤ n ∧ n < m ∧ K (.ptr b g (off + n.toNat) 0) from h)
   have hb := sub.h b blk hb
   have hgen := hH.gens b blk hb
   rcases (show V0 E (.ref b g off m full) v from hx) with ⟨hh, _⟩ | ⟨hge, hh⟩
   ·omega
   ·rcases hh with ⟨_, _, hm0, _⟩ | ⟨c, cap, hm, rfl, hmc, hfl, hcp⟩
    ·omega
    ·obtain ⟨blk', cs, ty, q1, q0, _⟩ := hH.heap b c hm
     obtain rfl : blk = blk' := by rw [hb] at q1; exact Option.some.inj q1
     refine ⟨_, .pointer (some ⟨c, (off + n.toNat) * E.sz b + 0, none⟩), hK, ?_, .inr ⟨hge, c, hm, rfl⟩⟩
     simp only [Instr.indexAt, Sem.run_bind, asIntOf, Sem.run_pure, Result.andThen_ok, run_underlying hu]
     rw [if_pos ⟨h0, h1⟩]
     simp [run_sizeOf hinf, addr_add, q0, hbs, Nat.add_mul]
  | _ => exact h.elim
 | _ => exact h.elim
def idxA (P : Program) (t : TypeId) (x i : AV) (K : AV → Prop) : Prop := match x with
 | .str s => (match i with
  | .int _ n => (match P.underlying t with
   | some .string => 0 ≤ n ∧ n < s.size ∧ K (.int .u8 ((s.data.getD n.toNat 0).toNat))
   | _ => False)
  | _ => False)
 | _ => False
theorem idx_sound {P : Program} {t : TypeId} {x i : AV} {K : AV → Prop} {E : Env} {v iv : Value} (hx : V3 E x v) (hi : V3 E i iv) (h : idxA P t x i K) :
  ∃ r u, K r ∧ (Instr.index t v iv).run P E.w = .ok u E.w ∧ V3 E r u := by
 cases x with
 | str s =>
  cases i with
  | int k n =>
   obtain rfl := hx.str_inv
   obtain rfl := hi.int_inv
   have h : (match P.underlying t with
    | some .string => 0 ≤ n ∧ n < s.size ∧ K (.int .u8 ((s.data.getD n.toNat 0).toNat))
    | _ => False) := h
   split at h
   ·rename_i hu
    obtain ⟨h0, h1, hK⟩ := h
    refine ⟨_, .int .u8 ((s.data.getD n.toNat 0).toNat), hK, ?_, RV.int _ _⟩
    have hlt : n.toNat < s.size := by omega
    have hlt' : n.toNat < s.data.size := hlt
    have : s[n.toNat]? = some (s.data.getD n.toNat 0) := by
     rw [getElem?_pos s n.toNat hlt]
     congr 1
     show s.data[n.toNat] = _
     rw [Array.getD_eq_getD_getElem?, Array.getElem?_eq_getElem hlt']; rfl
    simp only [Instr.index, Sem.run_bind, asIntOf, Sem.run_pure, Result.andThen_ok, run_underlying hu]
    rw [if_pos h0, this]
    rfl
   ·exact h.elim
  | _ => exact h.elim
 | _ => exact h.elim
def lenA (x : AV) (K : AV → Prop) : Prop := match x with
 | .lst rows _ _ => rows.length ≤ 4611686018427387904 → K (.int .i64 rows.length)
 | .str s => K (.int .i64 s.size)
 | .ref _ _ _ n _ => K (.int .i64 n)
 | _ => False
def lenT (P : Program) (t : TypeId) (x : AV) : Bool := match P.underlying t, x with
 | some .string, .str _ => true
 | some (.slice _), .lst _ _ _ => true
 | some (.slice _), .ref _ _ _ _ _ => true
 | _, _ => false
theorem len_sound {P : Program} {t ty : TypeId} {x : AV} {K : AV → Prop} {E : Env} {v : Value} (hx : V3 E x v)
  (ht : lenT P t x = true) (h : lenA x K) : ∃ r u, K r ∧ (Builtin.len_ #[t] ty #[v]).run P E.w = .ok u E.w ∧ V3 E r u := by
 unfold lenT at ht
 split at ht <;> try (cases ht; done)
 ·rename_i s hu
  obtain rfl := hx.str_inv
  exact ⟨_, _, h, by simp [Builtin.len_, run_underlying hu, goInt], RV.int _ _⟩
 ·rename_i e rows fu fr hu
  have hx' : RV E.w E.PA E.PF (.lst rows fu fr) v := hx
  cases hx' with
  | @lst _ _ PB _ _ _ A cap sz vs hPB hcap hfull hsz hcell hrel =>
   have h : rows.length ≤ 4611686018427387904 → K (.int .i64 rows.length) := h
   exact ⟨_, _, h hcap.2, by simp [Builtin.len_, run_underlying hu, goInt], RV.int _ _⟩
 ·rename_i e b g off n fu hu
  have h : K (.int .i64 n) := h
  rcases (show V0 E (.ref b g off n fu) v from hx) with ⟨_, A, cap, rfl⟩ | ⟨hge, hh⟩
  ·exact ⟨_, _, h, by simp [Builtin.len_, run_underlying hu, goInt], RV.int _ _⟩
  ·rcases hh with ⟨_, _, rfl, A, rfl⟩ | ⟨c, cap, hm, rfl, hmc, hfl, hcp⟩
   ·exact ⟨_, _, h, by simp [Builtin.len_, run_underlying hu, goInt], RV.int _ _⟩
   ·exact ⟨_, _, h, by simp [Builtin.len_, run_underlying hu, goInt], RV.int _ _⟩
def extA (x : AV) (i : Nat) (K : AV → Prop) : Prop := match x with
 | .tup l => oelim l[i]? K
 | _ => False
theorem ext_sound {P : Program} {x : AV} {i : Nat} {K : AV → Prop} {E : Env} {v : Value} (hx : V3 E x v) (h : extA x i K) :
  ∃ r u, K r ∧ (Instr.extract v i).run P E.w = .ok u E.w ∧ V3 E r u := by
 cases x with
 | tup l =>
  obtain ⟨vs, rfl, hp⟩ := hx
  obtain ⟨a, ha, hK⟩ := oelim_inv (show oelim l[i]? K from h)
  obtain ⟨u, hu, hr⟩ := hp.get ha
  refine ⟨a, u, hK, ?_, V3_of_V2 hr⟩
  simp [Instr.extract, hu]
 | _ => exact h.elim
def unA (op : UnOp) (x : AV) (K : AV → Prop) : Prop := match op, x with
 | .not, .bool b => K (.bool (!b))
 | .neg, .int k n => K (.int k (k.wrap (0 - n)))
 | _, _ => False
theorem un_sound {P : Program} {op : UnOp} {x : AV} {K : AV → Prop} {E : Env} {v : Value} (hx : V3 E x v) (h : unA op x K) :
  ∃ r u, K r ∧ (Op.unary op v).run P E.w = .ok u E.w ∧ V3 E r u := by
 unfold unA at h
 split at h
 ·obtain rfl := hx.bool_inv; exact ⟨_, _, h, rfl, RV.bool _⟩
 ·obtain rfl := hx.int_inv; exact ⟨_, _, h, rfl, RV.int _ _⟩
 ·exact h.elim
def nilA (x : AV) (K : AV → Prop) : Prop := match x with
 | .ptr _ _ _ _ | .lptr _ _ | .rp _ _ => K x
 | _ => False
def intT (P : Program) (t : TypeId) : Option IntKind := match P.underlying t with
 | some (.int k) => some k
 | _ => none
theorem intT_spec {P : Program} {t : TypeId} {k : IntKind} (h : intT P t = some k) : P.underlying t = some (.int k) := by
 unfold intT at h
 split at h
 ·cases h; assumption
 ·cases h
def cvtA (P : Program) (s d : TypeId) (x : AV) (K : AV → Prop) : Prop := match x with
 | .int _ n => oelim (intT P s) fun _ => oelim (intT P d) fun k => K (.int k (k.wrap n))
 | _ => False
theorem cvt_sound {P : Program} {s d : TypeId} {x : AV} {K : AV → Prop} {E : Env} {v : Value} (hx : V3 E x v) (h : cvtA P s d x K) :
  ∃ r u, K r ∧ (Go.convert s d v).run P E.w = .ok u E.w ∧ V3 E r u := by
 cases x with
 | int k0 n =>
  obtain ⟨k1, h1, h⟩ := oelim_inv (show oelim (intT P s) _ from h)
  obtain ⟨k2, h2, h⟩ := oelim_inv h
  obtain rfl := hx.int_inv
  refine ⟨_, _, h, ?_, RV.int _ _⟩
  simp only [Go.convert, Sem.run_bind, run_underlying (intT_spec h1), run_underlying (intT_spec h2), Result.andThen_ok]
  rfl
 | _ => exact h.elim
end Go.Proofs.Ytglpfccgmfhkdaa.Fw
