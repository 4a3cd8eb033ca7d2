/- The framework, part J: what is handed over is only read (a snapshot); what comes back is only read. -/

import Derived.Test.YtglpfccgmfhkdaaFwI
set_option linter.unusedVariables false
namespace Go.Proofs.Ytglpfccgmfhkdaa.Fw
open Go
inductive Snap1 (L : List (Nat × List AV)) (H : List Blk) : AV → AV → Prop where
 | undef (a : AV) : Snap1 L H a .undef
 | int (k : IntKind) (n : Int) : Snap1 L H (.int k n) (.int k n)
 | bool (b : Bool) : Snap1 L H (.bool b) (.bool b)
 | str (s : ByteArray) : Snap1 L H (.str s) (.str s)
 | nilp : Snap1 L H .nilp .nilp
 | niface : Snap1 L H .niface .niface
 | lst (rows : List (List AV)) (full fr fu : Bool) (hw : fu = true → full = true) : Snap1 L H (.lst rows full fr) (.lst rows fu false)
 | rp (cells : List AV) (c : Nat) : Snap1 L H (.rp cells c) (.rp cells c)
 | lptr {t c : Nat} {cells cells' : List AV} (h : getL L t = some cells) (hl : cells.length = cells'.length)
   (hr : ∀ (j : Nat) (a b : AV), cells[j]? = some a → cells'[j]? = some b → Snap1 L H a b) : Snap1 L H (.lptr t c) (.rp cells' c)
 | ptr {b g r c : Nat} {blk : Blk} {row row' : List AV} (hb : H[b]? = some blk) (hg : blk.gen = g) (hrow : blk.rows[r]? = some row) (hl : row.length = row'.length)
   (hr : ∀ (j : Nat) (a b : AV), row[j]? = some a → row'[j]? = some b → Snap1 L H a b) : Snap1 L H (.ptr b g r c) (.rp row' c)
 | ref {b g off n : Nat} {full fu : Bool} {blk : Blk} {rows' : List (List AV)} (hw : fu = true → full = true) (hb : H[b]? = some blk) (hg : blk.gen = g) (hn : rows'.length = n) (h62 : n ≤ 4611686018427387904) (ho : off + n ≤ blk.rows.length)
   (hl : ∀ (i : Nat) (row row' : List AV), blk.rows[off + i]? = some row → rows'[i]? = some row' → row.length = row'.length)
   (hr : ∀ (i j : Nat) (row row' : List AV) (a c : AV), blk.rows[off + i]? = some row → rows'[i]? = some row' → row[j]? = some a → row'[j]? = some c → Snap1 L H a c) :
   Snap1 L H (.ref b g off n full) (.lst rows' fu false)
 | fn {f : FuncId} {caps caps' : List AV} (hl : caps.length = caps'.length) (hr : ∀ (j : Nat) (a b : AV), caps[j]? = some a → caps'[j]? = some b → Snap1 L H a b) : Snap1 L H (.fn f caps) (.fn f caps')
def Snap2 (L : List (Nat × List AV)) (H : List Blk) (a b : AV) : Prop :=
 (∃ l l', a = .agg l ∧ b = .agg l' ∧ PW (Snap1 L H) l l') ∨ Snap1 L H a b
def Env.frozen (E : Env) : Env := { w := E.w, PA := fun c => E.PA c ∨ E.imgH c ∨ E.imgL c, PF := fun _ => False, m := fun _ => none, gen := fun _ => 0, sz := fun _ => 0, cp := fun _ => 0, mL := fun _ => none }
theorem frozen_sim {E : Env} {H : List Blk} (h : SimH E H) : SimH E.frozen [] where
 heap := fun b c hb => by cases hb
 gens := fun b blk hb => by simp at hb
 nilb := fun b hb => by cases hb
 fresh := fun b _ => ⟨rfl, rfl⟩
 injH := fun b b' c hb => by cases hb
 injL := fun t t' c hb => by cases hb
 injHL := fun b t c hb => by cases hb
 notH := fun c _ ⟨b, hb⟩ => by cases hb
 notL := fun c _ ⟨b, hb⟩ => by cases hb
 pfpa := fun c hc => hc.elim
 ltP := fun c hc => hc.elim (h.ltP c) fun hc => hc.elim (h.ltH c) (h.ltL c)
 ltH := fun c ⟨b, hb⟩ => by cases hb
 ltL := fun c ⟨b, hb⟩ => by cases hb
theorem V1_of_V0 {E : Env} {a : AV} {v : Value} (h : V0 E a v) : V1 E a v := by
 by_cases hf : ∃ f caps, a = .fn f caps
 ·obtain ⟨f, caps, rfl⟩ := hf
  exact RV.v1 h
 ·rw [V1_eq fun f c e => hf ⟨f, c, e⟩]; exact h
theorem snap1_sound {L Ln : List (Nat × List AV)} {H Hn : List Blk} {E : Env} (sub : Sub L H Ln Hn) (hH : SimH E Hn) (hL : SimL E Ln) {a b : AV} (h : Snap1 L H a b) :
  ∀ {v : Value}, V1 E a v → RV E.w (fun c => E.PA c ∨ E.imgH c ∨ E.imgL c) (fun _ => False) b v := by
 induction h with
 | undef a => intro v _; exact .undef v
 | int k n => intro v hv; have hv : RV E.w E.PA E.PF (.int k n) v := hv; cases hv; exact .int _ _
 | bool k => intro v hv; have hv : RV E.w E.PA E.PF (.bool k) v := hv; cases hv; exact .bool _
 | str k => intro v hv; have hv : RV E.w E.PA E.PF (.str k) v := hv; cases hv; exact .str _
 | nilp => intro v hv; have hv : RV E.w E.PA E.PF .nilp v := hv; cases hv; exact .nilp
 | niface => intro v hv; have hv : RV E.w E.PA E.PF .niface v := hv; cases hv; exact .niface
 | lst rows full fr fu hw =>
  intro v hv
  have hv : RV E.w E.PA E.PF (.lst rows full fr) v := hv
  cases hv with
  | lst hPB hcap hfull hsz hcell hrel =>
   exact .lst (fun c hc => by
    have := hPB c hc
    simp only [Bool.false_eq_true, if_false]
    split at this
    ·exact .inl (hH.pfpa c this)
    ·exact .inl this) hcap (fun h => hfull (hw h)) hsz hcell hrel
 | rp cells c =>
  intro v hv
  have hv : RV E.w E.PA E.PF (.rp cells c) v := hv
  cases hv with
  | rp hc hcell hrel => exact .rp (.inl hc) hcell fun j a hj => (hrel j a hj).mono (fun _ _ => rfl) (fun _ h => h.elim) (fun c hc => .inl hc) (fun _ h => h)
 | @lptr t c cells cells' hg hl hr ih =>
  intro v hv
  obtain ⟨bl, hm, rfl⟩ := (show ∃ bl, E.mL t = some bl ∧ v = .pointer (some ⟨bl, c, none⟩) from hv)
  obtain ⟨cells2, cs, ty, hg2, hw, hp⟩ := hL t bl hm
  obtain rfl : cells = cells2 := by have := sub.l _ _ hg; rw [hg2] at this; exact (Option.some.inj this).symm
  have key := RV.rp (w := E.w) (PA := fun c => E.PA c ∨ E.imgH c ∨ E.imgL c) (PF := fun _ => False) (cells := cells') (col := c) (c := bl) (o := 0) (vs := fun j => (cs[j]?).getD undef)
   (.inr (.inr ⟨t, hm⟩))
   (fun j hj => by
    have hlt : j < cs.size := by have := hp.1; simp at this; omega
    rw [Nat.zero_add]
    rw [cell_of hw (Array.getElem?_eq_getElem hlt)]
    simp [Array.getElem?_eq_getElem hlt])
   (fun j b hj => by
    have hlt : j < cells.length := by have := (List.getElem?_eq_some_iff.1 hj).1; omega
    obtain ⟨u, hu, hru⟩ := hp.get (List.getElem?_eq_getElem hlt)
    have : (cs[j]?).getD undef = u := by rw [Array.getElem?_toList] at hu; rw [hu]; rfl
    rw [this]
    exact ih j _ b (List.getElem?_eq_getElem hlt) hj hru.up)
  rw [Nat.zero_add] at key
  exact key
 | @ptr b g r c blk row row' hb hg hrow hl hr ih =>
  intro v hv
  have hb := sub.h b blk hb
  have hgen := hH.gens b blk hb
  obtain ⟨bl, hm, rfl⟩ := V3.ptr_inv (E := E) (v := v) (show V3 E (.ptr b g r c) v from hv) (hgen.trans hg)
  obtain ⟨blk', cs, ty, q1, q0, hw, hcs, hlen, hrows⟩ := hH.heap b bl hm
  obtain rfl : blk = blk' := by rw [hb] at q1; exact Option.some.inj q1
  exact RV.rp (vs := fun j => (cs[r * E.sz b + j]?).getD undef) (.inr (.inl ⟨b, hm⟩))
   (fun j hj => by
    have hlt : j < row.length := by omega
    obtain ⟨u, hu, _⟩ := hrows.2 r j row _ hrow (List.getElem?_eq_getElem hlt)
    rw [cell_of hw hu, hu]; rfl)
   (fun j b2 hj => by
    have hlt : j < row.length := by have := (List.getElem?_eq_some_iff.1 hj).1; omega
    obtain ⟨u, hu, hru⟩ := hrows.2 r j row _ hrow (List.getElem?_eq_getElem hlt)
    rw [hu]
    exact ih j _ b2 (List.getElem?_eq_getElem hlt) hj hru.up)
 | @ref b g off n full fu blk rows' hw0 hb hg hn h62 ho hl hr ih =>
  intro v hv
  have hb := sub.h b blk hb
  have hgen := hH.gens b blk hb
  rcases (show V0 E (.ref b g off n full) v from hv) with ⟨hh, _⟩ | ⟨hge, hh⟩
  ·omega
  ·rcases hh with ⟨_, _, hn0, A, rfl⟩ | ⟨c, cap, hm, rfl, hmc, hfl, hcp⟩
   ·subst hn0
    obtain rfl : rows' = [] := List.eq_nil_of_length_eq_zero hn
    exact RV.lst (rows := []) (PB := fun _ => False) (sz := 0) (vs := fun _ _ => undef) (fun _ h => h.elim) ⟨Nat.le_refl _, Nat.zero_le _⟩ (fun _ => rfl) (fun i row h => by simp at h) (fun h => by simp at h) (fun i j row a h => by simp at h)
   ·obtain ⟨blk', cs, ty, q1, q0, hw, hcs, hlen, hrows⟩ := hH.heap b c hm
    obtain rfl : blk = blk' := by rw [hb] at q1; exact Option.some.inj q1
    subst hn
    have hrow : ∀ i, i < rows'.length → ∃ row, blk.rows[off + i]? = some row := fun i hi => ⟨_, List.getElem?_eq_getElem (by omega)⟩
    refine RV.lst (PB := fun c => E.PA c ∨ E.imgH c ∨ E.imgL c) (sz := E.sz b) (vs := fun i j => (cs[(off + i) * E.sz b + j]?).getD undef) (fun c hc => by simpa using hc) ⟨hmc, h62⟩ (fun h => hfl (hw0 h))
     (fun i row' hr' => ?_) (fun hpos => ⟨c, off * E.sz b, rfl, .inr (.inl ⟨b, hm⟩), fun i j hi hj => ?_⟩) (fun i j row' a hr' hj => ?_)
    ·obtain ⟨row, hrw⟩ := hrow i (List.getElem?_eq_some_iff.1 hr').1
     rw [← hl i row row' hrw hr']; exact hrows.1 _ row hrw
    ·obtain ⟨row, hrw⟩ := hrow i hi
     have hlt : j < row.length := by rw [hrows.1 _ row hrw]; exact hj
     obtain ⟨u, hu, _⟩ := hrows.2 (off + i) j row _ hrw (List.getElem?_eq_getElem hlt)
     rw [show off * E.sz b + (i * E.sz b + j) = (off + i) * E.sz b + j by rw [Nat.add_mul]; omega, cell_of hw hu, hu]; rfl
    ·obtain ⟨row, hrw⟩ := hrow i (List.getElem?_eq_some_iff.1 hr').1
     have hlt : j < row.length := by rw [hl i row row' hrw hr']; exact (List.getElem?_eq_some_iff.1 hj).1
     obtain ⟨u, hu, hru⟩ := hrows.2 (off + i) j row _ hrw (List.getElem?_eq_getElem hlt)
     rw [hu]
     exact ih i j row row' _ a hrw hr' (List.getElem?_eq_getElem hlt) hj hru.up
 | @fn f caps caps' hl hr ih =>
  intro v hv
  obtain ⟨vs, rfl, hp⟩ := (show ∃ vs : List Value, v = .func (.func f) #[] vs.toArray ∧ PW (V0 E) caps vs from hv)
  exact .fn (hl ▸ hp.1) fun i b u hb hu => by
   have hlt : i < caps.length := by have := (List.getElem?_eq_some_iff.1 hb).1; omega
   exact ih i _ b (List.getElem?_eq_getElem hlt) hb (V1_of_V0 (hp.2 i _ u (List.getElem?_eq_getElem hlt) hu))
theorem snap2_sound {L Ln : List (Nat × List AV)} {H Hn : List Blk} {E : Env} (sub : Sub L H Ln Hn) (hH : SimH E Hn) (hL : SimL E Ln) {a b : AV} (h : Snap2 L H a b) {v : Value} (hv : V2 E a v) : V2 E.frozen b v := by
 rcases h with ⟨l, l', rfl, rfl, hp⟩ | h
 ·obtain ⟨vs, rfl, hq⟩ := hv
  refine ⟨vs, rfl, hp.1 ▸ hq.1, fun i x u hx hu => ?_⟩
  have hlt : i < l.length := by have := (List.getElem?_eq_some_iff.1 hx).1; have := hp.1; omega
  have hl := List.getElem?_eq_getElem hlt
  exact RV.v1 (E := E.frozen) (snap1_sound sub hH hL (hp.2 i _ x hl hx) (hq.2 i _ u hl hu))
 ·by_cases hf : ∃ l, a = .agg l
  ·obtain ⟨l, rfl⟩ := hf
   cases h with
   | undef => exact RV.undef v
  ·rw [V2_eq fun l e => hf ⟨l, e⟩] at hv
   exact V2_of_V1 (RV.v1 (E := E.frozen) (snap1_sound sub hH hL h hv))
inductive SnapR1 (H : List Blk) : AV → AV → Prop where
 | int (k : IntKind) (n : Int) : SnapR1 H (.int k n) (.int k n)
 | bool (b : Bool) : SnapR1 H (.bool b) (.bool b)
 | str (s : ByteArray) : SnapR1 H (.str s) (.str s)
 | nilp : SnapR1 H .nilp .nilp
 | niface : SnapR1 H .niface .niface
 | lst (rows : List (List AV)) (full fu : Bool) (hw : fu = true → full = true) : SnapR1 H (.lst rows full true) (.lst rows fu true)
 | lste (full fr fu : Bool) (hw : fu = true → full = true) : SnapR1 H (.lst [] full fr) (.lst [] fu true)
 | ref {b g off n : Nat} {full fu : Bool} {blk : Blk} {rows' : List (List AV)} (hw : fu = true → full = true) (cs : Nat → Nat → AV) (hb : H[b]? = some blk) (hg : blk.gen = g) (hn : rows'.length = n) (h62 : n ≤ 4611686018427387904) (ho : off + n ≤ blk.rows.length)
   (hl : ∀ (i : Nat) (row row' : List AV), blk.rows[off + i]? = some row → rows'[i]? = some row' → row.length = row'.length)
   (hr : ∀ (i j : Nat) (row : List AV) (a : AV), i < n → blk.rows[off + i]? = some row → row[j]? = some a → SnapR1 H a (cs i j))
   (hc : ∀ (i j : Nat) (row' : List AV) (c : AV), rows'[i]? = some row' → row'[j]? = some c → c = unfr (cs i j)) :
   SnapR1 H (.ref b g off n full) (.lst rows' fu true)
def SnapR2 (H : List Blk) (a b : AV) : Prop := (∃ l l', a = .agg l ∧ b = .agg l' ∧ PW (SnapR1 H) l l') ∨ SnapR1 H a b
def SnapR3 (H : List Blk) (a b : AV) : Prop := (∃ l l', a = .tup l ∧ b = .tup l' ∧ PW (SnapR2 H) l l') ∨ SnapR2 H a b
theorem snapR1_byv {H : List Blk} {a b : AV} (h : SnapR1 H a b) : byv0 b = true := by cases h <;> rfl
theorem snapR1_sound {H : List Blk} {E : Env} (hH : SimH E H) {a b : AV} (h : SnapR1 H a b) :
  ∀ {v : Value}, V1 E a v → RV E.w (fun c => E.PF c ∨ E.imgH c) (fun c => E.PF c ∨ E.imgH c) b v := by
 induction h with
 | int k n => intro v hv; have hv : RV E.w E.PA E.PF (.int k n) v := hv; cases hv; exact .int _ _
 | bool k => intro v hv; have hv : RV E.w E.PA E.PF (.bool k) v := hv; cases hv; exact .bool _
 | str k => intro v hv; have hv : RV E.w E.PA E.PF (.str k) v := hv; cases hv; exact .str _
 | nilp => intro v hv; have hv : RV E.w E.PA E.PF .nilp v := hv; cases hv; exact .nilp
 | niface => intro v hv; have hv : RV E.w E.PA E.PF .niface v := hv; cases hv; exact .niface
 | lst rows full fu hw =>
  intro v hv
  have hv : RV E.w E.PA E.PF (.lst rows full true) v := hv
  cases hv with
  | lst hPB hcap hfull hsz hcell hrel => exact .lst (fun c hc => by have := hPB c hc; simp at this ⊢; exact .inl this) hcap (fun h => hfull (hw h)) hsz hcell hrel
 | lste full fr fu hw =>
  intro v hv
  have hv : RV E.w E.PA E.PF (.lst [] full fr) v := hv
  cases hv with
  | lst hPB hcap hfull hsz hcell hrel => exact RV.lst (rows := []) (PB := fun _ => False) (sz := 0) (vs := fun _ _ => undef) (fun _ h => h.elim) hcap (fun h => hfull (hw h)) (fun i row h => by simp at h) (fun h => by simp at h) (fun i j row a h => by simp at h)
 | @ref b g off n full fu blk rows' hw0 cs hb hg hn h62 ho hl hr hc ih =>
  intro v hv
  have hgen := hH.gens b blk hb
  rcases (show V0 E (.ref b g off n full) v from hv) with ⟨hh, _⟩ | ⟨hge, hh⟩
  ·omega
  ·rcases hh with ⟨_, _, hn0, A, rfl⟩ | ⟨c, cap, hm, rfl, hmc, hfl, hcp⟩
   ·subst hn0
    obtain rfl : rows' = [] := List.eq_nil_of_length_eq_zero hn
    exact RV.lst (rows := []) (PB := fun _ => False) (sz := 0) (vs := fun _ _ => undef) (fun _ h => h.elim) ⟨Nat.le_refl _, Nat.zero_le _⟩ (fun _ => rfl) (fun i row h => by simp at h) (fun h => by simp at h) (fun i j row a h => by simp at h)
   ·obtain ⟨blk', cc, ty, q1, q0, hw, hcs, hlen, hrows⟩ := hH.heap b c hm
    obtain rfl : blk = blk' := by rw [hb] at q1; exact Option.some.inj q1
    subst hn
    have hrow : ∀ i, i < rows'.length → ∃ row, blk.rows[off + i]? = some row := fun i hi => ⟨_, List.getElem?_eq_getElem (by omega)⟩
    refine RV.lst (PB := fun c => E.PF c ∨ E.imgH c) (sz := E.sz b) (vs := fun i j => (cc[(off + i) * E.sz b + j]?).getD undef) (fun c hc => by simpa using hc) ⟨hmc, h62⟩ (fun h => hfl (hw0 h))
     (fun i row' hr' => ?_) (fun hpos => ⟨c, off * E.sz b, rfl, .inr ⟨b, hm⟩, fun i j hi hj => ?_⟩) (fun i j row' a hr' hj => ?_)
    ·obtain ⟨row, hrw⟩ := hrow i (List.getElem?_eq_some_iff.1 hr').1
     rw [← hl i row row' hrw hr']; exact hrows.1 _ row hrw
    ·obtain ⟨row, hrw⟩ := hrow i hi
     have hlt : j < row.length := by rw [hrows.1 _ row hrw]; exact hj
     obtain ⟨u, hu, _⟩ := hrows.2 (off + i) j row _ hrw (List.getElem?_eq_getElem hlt)
     rw [show off * E.sz b + (i * E.sz b + j) = (off + i) * E.sz b + j by rw [Nat.add_mul]; omega, cell_of hw hu, hu]; rfl
    ·have hi := (List.getElem?_eq_some_iff.1 hr').1
     obtain ⟨row, hrw⟩ := hrow i hi
     have hlt : j < row.length := by rw [hl i row row' hrw hr']; exact (List.getElem?_eq_some_iff.1 hj).1
     obtain ⟨u, hu, hru⟩ := hrows.2 (off + i) j row _ hrw (List.getElem?_eq_getElem hlt)
     have h1 := ih i j row _ hi hrw (List.getElem?_eq_getElem hlt) hru.up
     have h2 := snapR1_byv (hr i j row _ hi hrw (List.getElem?_eq_getElem hlt))
     rw [hu, hc i j row' a hr' hj]
     exact unfr_rel h2 h1 (fun c hc => hc) (fun c hc => hc)
def FnV (P : Program) (f : FuncId) (args : List AV) (t : AV) : Prop := FnS P f args [] fun r Hn => SnapR3 Hn r t
theorem callV_sound {P : Program} {f : FuncId} {args args0 : List AV} {t : AV} {L Ln : List (Nat × List AV)} {H Hn : List Blk} {E : Env} {vs : List Value} (sub : Sub L H Ln Hn) (hH : SimH E Hn) (hL : SimL E Ln)
  (ha : PW (V2 E) args vs) (hs : PW (Snap2 L H) args args0) (h : FnV P f args0 t) :
  Calls P f vs.toArray E.w fun e w' => ∃ v E', e = .returned v ∧ E'.w = w' ∧ Quiet E E' ∧ V3 E' t v := by
 have ha0 : PW (V2 E.frozen) args0 vs := ⟨hs.1 ▸ ha.1, fun i x u hx hu => by
  have hlt : i < args.length := by have := (List.getElem?_eq_some_iff.1 hx).1; have := hs.1; omega
  have hl := List.getElem?_eq_getElem hlt
  exact snap2_sound sub hH hL (hs.2 i _ x hl hx) (ha.2 i _ u hl hu)⟩
 refine (h.2 E.frozen vs (fun _ => rfl) (frozen_sim hH) ha0).mono ?_
 rintro e w' ⟨r, v, H', E1, rfl, hr, rfl, hn, hs1, hv, hst⟩
 let N : Nat → Prop := fun c => E1.PF c ∨ E1.imgH c
 have hN : ∀ c, N c → E.w.heap.size ≤ c ∧ c < E1.w.heap.size := by
  rintro c (hc | hc)
  ·exact ⟨(hst.pf c hc).elim (fun h => h.elim) id, hs1.ltP c (hs1.pfpa c hc)⟩
  ·exact ⟨(hst.imH c hc).elim (fun ⟨b, hb⟩ => by cases hb) id, hs1.ltH c hc⟩
 have hkeep : ∀ c, c < E.w.heap.size → E1.w.heap[c]? = E.w.heap[c]? := fun c hc => hst.keep c hc (fun ⟨b, hb⟩ => by cases hb) (fun ⟨b, hb⟩ => by cases hb)
 let E' : Env := { E with w := E1.w, PA := fun c => E.PA c ∨ N c, PF := fun c => E.PF c ∨ N c }
 have hq : Quiet E E' := 
  {step := ⟨⟨fun c hc => .inl hc, fun c hc => .inl hc, fun c hc => hkeep c (hH.ltP c hc), fun c hc => hkeep c (hH.ltP c (hH.pfpa c hc)), fun _ => Nat.le_refl _, fun _ _ h _ => ⟨h, rfl, rfl⟩, fun _ _ h => h⟩,
    hst.os, hst.tape, hst.output, hst.size, fun c hc _ _ => hkeep c hc, fun _ h => .inl h, fun _ h => .inl h, fun c hc => hc.elim .inl (fun h => .inr (hN c h).1), fun c hc => hc.elim .inl (fun h => .inr (hN c h).1)⟩
   m := rfl, mL := rfl, gen := rfl, sz := rfl, cp := rfl
   keep := hkeep
   pa := fun c hc => hc.elim .inl (fun h => .inr (hN c h))
   pfpa := fun c hc => hc.elim (fun h => .inl (hH.pfpa c h)) .inr }
 have up : ∀ {b : AV} {u : Value}, RV E1.w N N b u → V1 E' b u := fun h => RV.v1 (E := E') (h.mono (fun _ _ => rfl) (fun _ _ => rfl) (fun c hc => .inr hc) (fun c hc => .inr hc))
 have r1 : ∀ {a b : AV} {u : Value}, SnapR1 H' a b → V1 E1 a u → V1 E' b u := fun ha hu => up (snapR1_sound hs1 ha hu)
 have r2 : ∀ {a b : AV} {u : Value}, SnapR2 H' a b → V2 E1 a u → V2 E' b u := by
  rintro a b u (⟨l, l', rfl, rfl, hp⟩ | h) hu
  ·obtain ⟨us, rfl, hq⟩ := hu
   refine ⟨us, rfl, hp.1 ▸ hq.1, fun i x y hx hy => ?_⟩
   have hlt : i < l.length := by have := (List.getElem?_eq_some_iff.1 hx).1; have := hp.1; omega
   have hl := List.getElem?_eq_getElem hlt
   exact r1 (hp.2 i _ x hl hx) (hq.2 i _ y hl hy)
  ·have : V1 E1 a u := by cases h <;> exact hu
   exact V2_of_V1 (r1 h this)
 have r3 : ∀ {a b : AV} {u : Value}, SnapR3 H' a b → V3 E1 a u → V3 E' b u := by
  rintro a b u (⟨l, l', rfl, rfl, hp⟩ | h) hu
  ·obtain ⟨us, rfl, hq⟩ := hu
   refine ⟨us, rfl, hp.1 ▸ hq.1, fun i x y hx hy => ?_⟩
   have hlt : i < l.length := by have := (List.getElem?_eq_some_iff.1 hx).1; have := hp.1; omega
   have hl := List.getElem?_eq_getElem hlt
   exact r2 (hp.2 i _ x hl hx) (hq.2 i _ y hl hy)
  ·have : V2 E1 a u := by
    rcases h with ⟨l, l', rfl, rfl, hp⟩ | h
    ·exact hu
    ·cases h <;> exact hu
   exact V3_of_V2 (r2 h this)
 exact ⟨v, E', rfl, rfl, hq, r3 hr hv⟩
end Go.Proofs.Ytglpfccgmfhkdaa.Fw
