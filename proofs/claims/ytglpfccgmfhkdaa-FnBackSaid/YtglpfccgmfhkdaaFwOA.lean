/- The framework, part OA: a call whose answer has blocks of its own: the blocks get the numbers that its summary tells. -/

import Derived.Test.YtglpfccgmfhkdaaFwQ
set_option linter.unusedVariables false
namespace Go.Proofs.Ytglpfccgmfhkdaa.Fw
open Go
inductive OwnC (H : List Blk) (n0 : Nat) (σ : Nat → Option Nat) : AV → AV → Prop where
 | int (k : IntKind) (n : Int) : OwnC H n0 σ (.int k n) (.int k n)
 | bool (b : Bool) : OwnC H n0 σ (.bool b) (.bool b)
 | str (s : ByteArray) : OwnC H n0 σ (.str s) (.str s)
 | nilp : OwnC H n0 σ .nilp .nilp
 | niface : OwnC H n0 σ .niface .niface
 | lst (rows : List (List AV)) (full fu fr : Bool) (hw : fu = true → full = true) : OwnC H n0 σ (.lst rows full fr) (.lst rows fu fr)
 | ref {b g n j : Nat} {full : Bool} {blk : Blk} (hj : j < n0) (hs : σ j = some b) (hb : H[b]? = some blk) (hg : blk.gen = g) : OwnC H n0 σ (.ref b g 0 n full) (.ref j 0 0 n false)
 | nil {a : AV} {j : Nat} (hj : j < n0) (hs : σ j = none) (h : isEmp a = true) : OwnC H n0 σ a (.ref j 0 0 0 false)
def Own2 (H : List Blk) (n0 : Nat) (σ : Nat → Option Nat) (a b : AV) : Prop := (∃ l l', a = .agg l ∧ b = .agg l' ∧ PW (OwnC H n0 σ) l l') ∨ OwnC H n0 σ a b
structure OwnB (H H0 : List Blk) (σ : Nat → Option Nat) : Prop where
 inj : ∀ i j b, i < H0.length → j < H0.length → σ i = some b → σ j = some b → i = j
 gen : ∀ (j : Nat) (k : Blk), H0[j]? = some k → k.gen = 0
 blk : ∀ (j b : Nat) (k : Blk), H0[j]? = some k → σ j = some b → ∃ q, H[b]? = some q ∧ q.sz = k.sz ∧ PW (PW (OwnC H H0.length σ)) q.rows k.rows
def Env.own (E : Env) (H0 : List Blk) (σ : Nat → Option Nat) : Env :=
 {w := E.w, PA := E.PA, PF := E.PF, mL := fun _ => none, gen := fun _ => 0
  m := fun j => if j < H0.length then (match σ j with
   | some b => E.m b
   | none => some none) else none
  sz := fun j => (H0[j]?.map Blk.sz).getD 0
  cp := fun j => match σ j with
   | some b => E.cp b
   | none => 0 }
section
variable {E : Env} {H H0 : List Blk} {σ : Nat → Option Nat}
theorem own_m {j b : Nat} (hj : j < H0.length) (hs : σ j = some b) : (E.own H0 σ).m j = E.m b := by
 show (if j < H0.length then _ else _) = _
 rw [if_pos hj, hs]
theorem own_none {j : Nat} (hj : j < H0.length) (hs : σ j = none) : (E.own H0 σ).m j = some none := by
 show (if j < H0.length then _ else _) = _
 rw [if_pos hj, hs]
theorem own_inv {j : Nat} {x : Option Nat} (h : (E.own H0 σ).m j = some x) : j < H0.length ∧ ((σ j = none ∧ x = none) ∨ ∃ b, σ j = some b ∧ E.m b = some x) := by
 have h : (if j < H0.length then (match σ j with
   | some b => E.m b
   | none => some none) else none) = some x := h
 split at h
 ·rename_i hj
  refine ⟨hj, ?_⟩
  cases hs : σ j with
  | none => rw [hs] at h; cases h; exact .inl ⟨rfl, rfl⟩
  | some b => rw [hs] at h; exact .inr ⟨b, rfl, h⟩
 ·cases h
theorem OwnC.v1 (hH : SimH E H) (hB : OwnB H H0 σ) {a b : AV} (h : OwnC H H0.length σ a b) {v : Value} (hv : V1 E a v) : V1 (E.own H0 σ) b v := by
 cases h with
 | int k n => exact hv
 | bool b => exact hv
 | str s => exact hv
 | nilp => exact hv
 | niface => exact hv
 | lst rows full fu fr hw =>
  have hv : RV E.w E.PA E.PF (.lst rows full fr) v := hv
  cases hv with
  | lst hPB hcap hfull hsz hcell hrel => exact RV.lst hPB hcap (fun h => hfull (hw h)) hsz hcell hrel
 | @ref b g n j full blk hj hs hb hg =>
  have hgen := hH.gens b blk hb
  have hk : H0[j]? = some H0[j] := List.getElem?_eq_getElem hj
  obtain ⟨q, hq, hsz, _⟩ := hB.blk j b _ hk hs
  rw [hb] at hq
  obtain rfl := Option.some.inj hq
  rcases (show V0 E (.ref b g 0 n full) v from hv) with ⟨hlt, _⟩ | ⟨hge, hh⟩
  ·omega
  ·refine .inr ⟨rfl, ?_⟩
   rcases hh with ⟨hm, _, hn, A, hA⟩ | ⟨c, cap, hm, e, h1, h2, h3⟩
   ·exact .inl ⟨by rw [own_m hj hs]; exact hm, rfl, hn, A, hA⟩
   ·refine .inr ⟨c, cap, by rw [own_m hj hs]; exact hm, by rw [e, Nat.zero_mul, Nat.zero_mul], h1, (fun h => by cases h), ?_⟩
    show 0 + cap ≤ (match σ j with
     | some b => E.cp b
     | none => 0)
    rw [hs]; exact h3
 | nil hj hs h => exact emp_ref (E := E) h hv rfl (own_none hj hs)
theorem own_sim (hH : SimH E H) (hL : ∀ t, E.mL t = none) (hB : OwnB H H0 σ) : SimH (E.own H0 σ) H0 := by
 have hE : E.noL = E := by
  have : E.mL = fun _ => none := funext hL
  cases E; simp only [Env.noL] at *; subst this; rfl
 have img : ∀ c, (E.own H0 σ).imgH c → E.imgH c := fun c ⟨j, hj⟩ => by
  obtain ⟨_, h | ⟨b, _, h⟩⟩ := own_inv hj
  ·cases h.2
  ·exact ⟨b, h⟩
 exact {
  heap := fun j c hm => by
   obtain ⟨hj, h | ⟨b, hs, hb⟩⟩ := own_inv hm
   ·cases h.2
   ·have hk : H0[j]? = some H0[j] := List.getElem?_eq_getElem hj
    obtain ⟨q, hq, hsz, hr⟩ := hB.blk j b _ hk hs
    obtain ⟨blk, cs, ty, q1, q0, q2, q3, q4, q5, q6⟩ := hH.heap b c hb
    rw [hq] at q1
    obtain rfl := Option.some.inj q1
    have e1 : (E.own H0 σ).sz j = E.sz b := by
     show (H0[j]?.map Blk.sz).getD 0 = _
     rw [hk, q0, hsz]; rfl
    have e2 : (E.own H0 σ).cp j = E.cp b := by
     show (match σ j with
      | some b => E.cp b
      | none => 0) = _
     rw [hs]
    refine ⟨_, cs, ty, hk, by rw [e1, q0, hsz], q2, by rw [e1, e2]; exact q3, by rw [e2, ← hr.1]; exact q4, fun i row hrow => ?_, fun i l row a hrow ha => ?_⟩
    ·have hlt := (List.getElem?_eq_some_iff.1 hrow).1
     have h1 : q.rows[i]? = some (q.rows[i]'(by rw [hr.1]; exact hlt)) := List.getElem?_eq_getElem _
     rw [e1, ← (hr.2 i _ row h1 hrow).1]; exact q5 i _ h1
    ·have hlt := (List.getElem?_eq_some_iff.1 hrow).1
     have h1 : q.rows[i]? = some (q.rows[i]'(by rw [hr.1]; exact hlt)) := List.getElem?_eq_getElem _
     have hp := hr.2 i _ row h1 hrow
     have hlt2 := (List.getElem?_eq_some_iff.1 ha).1
     have h2 := List.getElem?_eq_getElem (l := q.rows[i]'(by rw [hr.1]; exact hlt)) (i := l) (by rw [hp.1]; exact hlt2)
     obtain ⟨u, hu, hv⟩ := q6 i l _ _ h1 h2
     rw [hE] at hv
     exact ⟨u, by rw [e1]; exact hu, (hp.2 l _ a h2 ha).v1 hH hB hv⟩
  gens := fun j k hk => (hB.gen j k hk).symm
  nilb := fun j hm => by
   obtain ⟨hj, _⟩ := own_inv hm
   have hk : H0[j]? = some H0[j] := List.getElem?_eq_getElem hj
   exact ⟨_, hk, by show (H0[j]?.map Blk.sz).getD 0 = _; rw [hk]; rfl⟩
  fresh := fun j hj => ⟨by show (if j < H0.length then _ else _) = _; rw [if_neg (by omega)], rfl⟩
  injH := fun i j c h1 h2 => by
   obtain ⟨hi, h | ⟨b, hs, hb⟩⟩ := own_inv h1
   ·cases h.2
   ·obtain ⟨hj, h | ⟨b', hs', hb'⟩⟩ := own_inv h2
    ·cases h.2
    ·have := hH.injH b b' c hb hb'
     subst this
     exact hB.inj i j b hi hj hs hs'
  injL := fun t t' c h => by cases h
  injHL := fun b t c _ h => by cases h
  notH := fun c hc h => hH.notH c hc (img c h)
  notL := fun c hc ⟨t, h⟩ => by cases h
  pfpa := hH.pfpa
  ltP := hH.ltP
  ltH := fun c h => hH.ltH c (img c h)
  ltL := fun c ⟨t, h⟩ => by cases h }
end
theorem FnS.toOwn {P : Program} {f : FuncId} {args : List AV} {r0 : AV} {H0 : List Blk} (h : FnS P f args [] fun r H => ∃ σ, OwnB H H0 σ ∧ Own2 H H0.length σ r r0) : FnS P f args [] fun r H => r = r0 ∧ H = H0 := by
 refine ⟨h.1, fun E vs hn hs ha => (h.2 E vs hn hs ha).mono ?_⟩
 rintro e w' ⟨r, v, H', E', rfl, ⟨σ, hB, hO⟩, rfl, hn', hs', hv, hst⟩
 refine ⟨r0, v, H0, E'.own H0 σ, rfl, ⟨rfl, rfl⟩, rfl, fun _ => rfl, own_sim hs' hn' hB, ?_, ?_⟩
 ·rcases hO with ⟨l, l', rfl, rfl, hp⟩ | hO
  ·obtain ⟨us, rfl, hq⟩ := (show ∃ us : List Value, v = .agg us.toArray ∧ PW (V1 E') l us from hv)
   refine ⟨us, rfl, hp.1 ▸ hq.1, fun i a u ha hu => ?_⟩
   have hlt : i < l.length := by rw [hp.1]; exact (List.getElem?_eq_some_iff.1 ha).1
   have h1 := List.getElem?_eq_getElem hlt
   exact (hp.2 i _ a h1 ha).v1 hs' hB (hq.2 i _ u h1 hu)
  ·have hv1 : V1 E' r v := by
    rw [V3_eq, V2_eq] at hv
    ·exact hv
    ·rintro l rfl; cases hO with
     | nil hj hs hx => exact absurd hx Bool.false_ne_true
    ·rintro l rfl; cases hO with
     | nil hj hs hx => exact absurd hx Bool.false_ne_true
   exact V3_of_V2 (V2_of_V1 (hO.v1 hs' hB hv1))
 ·have img : ∀ c, (E'.own H0 σ).imgH c → E'.imgH c := fun c ⟨j, hj⟩ => by
   obtain ⟨_, h | ⟨b, _, h⟩⟩ := own_inv hj
   ·cases h.2
   ·exact ⟨b, h⟩
  exact {
   le := ⟨hst.le.pa, hst.le.pf, hst.le.wa, hst.le.wf, fun b => by rw [(hs.fresh b (Nat.zero_le _)).2]; exact Nat.zero_le _, (fun b x hm _ => by rw [(hs.fresh b (Nat.zero_le _)).1] at hm; cases hm), (fun t c hm => by rw [hn t] at hm; cases hm)⟩
   os := hst.os, tape := hst.tape, output := hst.output, size := hst.size, keep := hst.keep
   imH := fun c hc => hst.imH c (img c hc)
   imL := fun c ⟨t, h⟩ => by cases h
   pa := hst.pa, pf := hst.pf }
theorem OwnB.nil {H : List Blk} {σ : Nat → Option Nat} : OwnB H [] σ := ⟨fun i j b h => by simp at h, fun j k h => by simp at h, fun j b k h => by simp at h⟩
def sg (l : List (Option Nat)) (j : Nat) : Option Nat := (l[j]?).getD none
def RowsOwn (H : List Blk) (n0 : Nat) (σ : Nat → Option Nat) (k : Blk) : Option Nat → Prop
 | none => True
 | some b => ∃ q, H[b]? = some q ∧ q.sz = k.sz ∧ PW (PW (OwnC H n0 σ)) q.rows k.rows
def AllOwn (H : List Blk) (n0 : Nat) (σ : Nat → Option Nat) : List (Option Nat) → List Blk → Prop
 | [], [] => True
 | o :: l, k :: H0 => k.gen = 0 ∧ RowsOwn H n0 σ k o ∧ AllOwn H n0 σ l H0
 | _, _ => False
theorem AllOwn.get {H : List Blk} {n0 : Nat} {σ : Nat → Option Nat} : ∀ {l : List (Option Nat)} {H0 : List Blk}, AllOwn H n0 σ l H0 → ∀ (j : Nat) (k : Blk), H0[j]? = some k → ∃ o, l[j]? = some o ∧ k.gen = 0 ∧ RowsOwn H n0 σ k o
 | [], [], _, j, k, h => by simp at h
 | o :: l, q :: H0, ha, 0, k, h => by simp at h; subst h; exact ⟨o, rfl, ha.1, ha.2.1⟩
 | o :: l, q :: H0, ha, j + 1, k, h => by
  obtain ⟨x, hx, h2⟩ := AllOwn.get ha.2.2 j k (by simpa using h)
  exact ⟨x, by simpa using hx, h2⟩
theorem own_of {H H0 : List Blk} (l : List (Option Nat)) (hl : l.length = H0.length) (hd : (l.filterMap id).Nodup) (h : AllOwn H H0.length (sg l) l H0) : OwnB H H0 (sg l) where
 inj := fun i j b hi hj h1 h2 => by
  have hi' : i < l.length := by omega
  have hj' : j < l.length := by omega
  have e1 : l[i] = some b := by have : (l[i]?).getD none = some b := h1; rwa [List.getElem?_eq_getElem hi'] at this
  have e2 : l[j] = some b := by have : (l[j]?).getD none = some b := h2; rwa [List.getElem?_eq_getElem hj'] at this
  rcases Nat.lt_trichotomy i j with hlt | rfl | hgt
  ·exfalso
   have hp := List.pairwise_filterMap.1 hd
   exact (List.pairwise_iff_getElem.1 hp i j hi' hj' hlt) b (by simpa using e1) b (by simpa using e2) rfl
  ·rfl
  ·exfalso
   have hp := List.pairwise_filterMap.1 hd
   exact (List.pairwise_iff_getElem.1 hp j i hj' hi' hgt) b (by simpa using e2) b (by simpa using e1) rfl
 gen := fun j k hk => by obtain ⟨o, _, h1, _⟩ := h.get j k hk; exact h1
 blk := fun j b k hk hs => by
  obtain ⟨o, ho, _, h2⟩ := h.get j k hk
  have : o = some b := by have hs : (l[j]?).getD none = some b := hs; rw [ho] at hs; exact hs
  subst this
  exact h2
theorem rowsOwn_eq {H : List Blk} {n0 : Nat} {σ : Nat → Option Nat} {α : Type} {enc : α → List AV} {b g sz : Nat} {xs ys : List α} (hb : H[b]? = some ⟨g, sz, List.map enc xs⟩) (hc : ∀ x, PW (OwnC H n0 σ) (enc x) (enc x)) (e : xs = ys) :
  RowsOwn H n0 σ ⟨0, sz, List.map enc ys⟩ (some b) := by
 subst e
 refine ⟨_, hb, rfl, rfl, fun i r r' h1 h2 => ?_⟩
 rw [List.getElem?_map] at h1 h2
 cases hx : xs[i]? with
 | none => rw [hx] at h1; cases h1
 | some x => rw [hx] at h1 h2; cases h1; cases h2; exact hc x
section
variable {H : List Blk} {n0 : Nat} {σ : Nat → Option Nat}
theorem oBool (b : Bool) : PW (OwnC H n0 σ) (eBool b) (eBool b) := .cons (.bool _) .nil
theorem oLie (x : Lie) : PW (OwnC H n0 σ) (eLie x) (eLie x) := .cons (.int _ _) (.cons (.int _ _) .nil)
theorem oPoint (x : Point) : PW (OwnC H n0 σ) (ePoint x) (ePoint x) := .cons (.int _ _) (.cons (.int _ _) .nil)
theorem ow_int {k : IntKind} {a b : Int} (h : a = b) : OwnC H n0 σ (.int k a) (.int k b) := h ▸ .int k a
theorem ow_bool {a b : Bool} (h : a = b) : OwnC H n0 σ (.bool a) (.bool b) := h ▸ .bool a
theorem ow_ref {b g n m j sz : Nat} {full : Bool} {rows : List (List AV)} (hj : j < n0) (hs : σ j = some b) (hb : H[b]? = some ⟨g, sz, rows⟩) (hn : n = m) : OwnC H n0 σ (.ref b g 0 n full) (.ref j 0 0 m false) := hn ▸ .ref hj hs hb rfl
theorem ow_nil {a : AV} {j m : Nat} (hj : j < n0) (hs : σ j = none) (h : isEmp a = true) (hm : 0 = m) : OwnC H n0 σ a (.ref j 0 0 m false) := hm ▸ .nil hj hs h
end
theorem ownH_cons {α : Type} {enc : α → List AV} {g sz : Nat} {xs : List α} {H : List Blk} (h1 : ∀ x, (enc x).all ownv0 = true) (h2 : ownH H = true) : ownH (⟨g, sz, List.map enc xs⟩ :: H) = true := by
 show (((List.map enc xs).all fun row => row.all ownv0) && H.all fun b => b.rows.all fun row => row.all ownv0) = true
 rw [Bool.and_eq_true]
 refine ⟨?_, h2⟩
 rw [List.all_eq_true]
 intro row hr
 obtain ⟨x, _, rfl⟩ := List.mem_map.1 hr
 exact h1 x
theorem shift_cons {α : Type} {enc : α → List AV} {k g sz : Nat} {xs : List α} {H H' : List Blk} (h1 : ∀ x, (enc x).map (shift0 k) = enc x) (h2 : H.map (shiftB k) = H') : (Blk.mk g sz (List.map enc xs) :: H).map (shiftB k) = ⟨g, sz, List.map enc xs⟩ :: H' := by
 subst h2
 show (⟨g, sz, (List.map enc xs).map fun row => row.map (shift0 k)⟩ : Blk) :: _ = _
 rw [List.map_map]
 congr 2
 exact List.map_congr_left fun x _ => h1 x
theorem shift_eq {k : Nat} {H H0 H1 Hx : List Blk} (h : H0.map (shiftB k) = H1) (e : H ++ H1 = Hx) : H ++ H0.map (shiftB k) = Hx := by rw [h, e]
end Go.Proofs.Ytglpfccgmfhkdaa.Fw
