/- The framework, part M: append. -/

import Derived.Test.YtglpfccgmfhkdaaFwL
set_option linter.unusedVariables false
namespace Go.Proofs.Ytglpfccgmfhkdaa.Fw
open Go
theorem regen_sound {E : Env} {H : List Blk} {L : List (Nat × List AV)} {w' : World} {b : Nat} {x : Option Nat} {blk blk' : Blk} (hH : SimH E H) (hL : SimL E L)
  (hm : E.m b = some x) (hb : H[b]? = some blk) (hg : blk'.gen = blk.gen + 1) (hbs : blk'.sz = blk.sz)
  (ho : w'.os = E.w.os) (htp : w'.tape = E.w.tape) (hout : w'.output = E.w.output) (hsz : w'.heap.size = E.w.heap.size)
  (hw : ∀ c, x ≠ some c → w'.heap[c]? = E.w.heap[c]?)
  (hx : ∀ c, x = some c → ∃ cs ty, w'.heap[c]? = some (.cells cs ty (0, 0)) ∧ cs.size = E.cp b * E.sz b ∧ blk'.rows.length ≤ E.cp b ∧ RowsAt E (E.sz b) blk'.rows cs) :
  ∃ E', E'.w = w' ∧ Step E E' ∧ SimH E' (H.set b blk') ∧ SimL E' L ∧ E'.gen b = blk'.gen ∧ E'.m = E.m ∧ E'.sz = E.sz ∧ E'.cp = E.cp ∧ E'.mL = E.mL := by
 let E' : Env := { E with w := w', gen := fun b' => if b' = b then blk'.gen else E.gen b' }
 have hgen := hH.gens b blk hb
 have hne : ∀ c, E.PA c → x ≠ some c := fun c hc e => hH.notH c hc ⟨b, by rw [hm, e]⟩
 have hst : Step E E' := 
  {le := ⟨fun _ h => h, fun _ h => h, fun c hc => hw c (hne c hc), fun c hc => hw c (hne c (hH.pfpa c hc)), fun b' => by
     show _ ≤ (if b' = b then _ else _)
     split
     ·rename_i e; subst e; omega
     ·exact Nat.le_refl _, fun b' y hy hgy => by
     have hg' : (if b' = b then blk'.gen else E.gen b') = E.gen b' := hgy
     have hnb : b' ≠ b := fun e => by subst e; rw [if_pos rfl] at hg'; omega
     exact ⟨hy, rfl, rfl⟩, fun _ _ h => h⟩
   os := ho, tape := htp, output := hout
   size := by show E.w.heap.size ≤ w'.heap.size; rw [hsz]; exact Nat.le_refl _
   keep := fun c hc h1 _ => hw c (fun e => h1 ⟨b, by rw [hm, e]⟩)
   imH := fun _ h => .inl h
   imL := fun _ h => .inl h
   pa := fun _ h => .inl h
   pf := fun _ h => .inl h }
 have hblt : b < H.length := (List.getElem?_eq_some_iff.1 hb).1
 refine ⟨E', rfl, hst, ?_, ?_, if_pos rfl, rfl, rfl, rfl, rfl⟩
 ·exact { hH with
   heap := fun s c hs => by
    by_cases e : s = b
    ·subst e
     have hxc : x = some c := by
      have : E.m s = some (some c) := hs
      rw [hm] at this; exact Option.some.inj this
     obtain ⟨blk0, cs0, ty0, q1, q0, q⟩ := hH.heap s c (by rw [hm, hxc])
     obtain rfl : blk = blk0 := by rw [hb] at q1; exact Option.some.inj q1
     obtain ⟨cs, ty, h1, h2, h3, h4⟩ := hx c hxc
     exact ⟨blk', cs, ty, by rw [List.getElem?_set_self hblt], q0.trans hbs.symm, h1, h2, h3, h4.1, fun i j row a hr hj => by
      obtain ⟨u, hu, hr'⟩ := h4.2 i j row a hr hj; exact ⟨u, hu, hr'.le hst.le.noL⟩⟩
    ·obtain ⟨blk0, cs', ty', q1, q0, q2, q3, q4, q5, q6⟩ := hH.heap s c hs
     refine ⟨blk0, cs', ty', by rw [List.getElem?_set_ne (fun h => e h.symm)]; exact q1, q0, ?_, q3, q4, q5, fun i j row a hr hj => ?_⟩
     ·show w'.heap[c]? = _
      rw [hw c (fun h => e (hH.injH s b c hs (by rw [hm, h])))]; exact q2
     ·obtain ⟨u, hu, hr'⟩ := q6 i j row a hr hj
      exact ⟨u, hu, hr'.le hst.le.noL⟩
   gens := fun s y hs => by
    by_cases e : s = b
    ·subst e; rw [List.getElem?_set_self hblt] at hs; cases hs; exact if_pos rfl
    ·rw [List.getElem?_set_ne (fun h => e h.symm)] at hs
     show (if s = b then _ else _) = _
     rw [if_neg e]; exact hH.gens s y hs
   nilb := fun s hs => by
    obtain ⟨y, q1, q2⟩ := hH.nilb s hs
    by_cases e : s = b
    ·subst e
     obtain rfl : blk = y := by rw [hb] at q1; exact Option.some.inj q1
     exact ⟨blk', by rw [List.getElem?_set_self hblt], q2.trans hbs.symm⟩
    ·exact ⟨y, by rw [List.getElem?_set_ne (fun h => e h.symm)]; exact q1, q2⟩
   fresh := fun s hs => by
    rw [List.length_set] at hs
    have e : s ≠ b := by omega
    have := hH.fresh s hs
    exact ⟨this.1, by show (if s = b then _ else _) = _; rw [if_neg e]; exact this.2⟩
   ltP := fun c hc => Nat.lt_of_lt_of_le (hH.ltP c hc) hst.size
   ltH := fun c hc => Nat.lt_of_lt_of_le (hH.ltH c hc) hst.size
   ltL := fun c hc => Nat.lt_of_lt_of_le (hH.ltL c hc) hst.size }
 ·intro s c hs
  obtain ⟨cells', cs', ty', q1, q2, q3⟩ := hL s c hs
  refine ⟨cells', cs', ty', q1, ?_, q3.mono fun _ _ k => k.le hst.le.noL⟩
  show w'.heap[c]? = _
  rw [hw c (fun e => hH.injHL b s c (by rw [hm, e]) hs)]; exact q2
theorem nilH_sound {E : Env} {H : List Blk} {L : List (Nat × List AV)} {blk : Blk} (hH : SimH E H) (hL : SimL E L) (hg : blk.gen = 0) (hr : blk.rows = []) :
  ∃ E', E'.w = E.w ∧ Step E E' ∧ SimH E' (H ++ [blk]) ∧ SimL E' L ∧ E'.gen H.length = 0 ∧ E'.m H.length = some none ∧ (∀ b, b ≠ H.length → E'.m b = E.m b) ∧ E'.mL = E.mL := by
 have hs := hH.snoc hg
 have hn := hH.fresh H.length (Nat.le_refl _)
 let E' : Env := { E with m := fun b => if b = H.length then some none else E.m b, sz := fun b => if b = H.length then blk.sz else E.sz b }
 have hmm : ∀ b c, E'.m b = some (some c) → E.m b = some (some c) ∧ b ≠ H.length := by
  intro b c h
  have h : (if b = H.length then some none else E.m b) = some (some c) := h
  split at h
  ·cases h
  ·exact ⟨h, by assumption⟩
 have hst : Step E E' := 
  {le := ⟨fun _ h => h, fun _ h => h, fun _ _ => rfl, fun _ _ => rfl, fun _ => Nat.le_refl _, fun b x hx _ => by
     have hne : b ≠ H.length := fun e => by subst e; rw [hn.1] at hx; cases hx
     exact ⟨by show (if b = H.length then _ else _) = _; rw [if_neg hne]; exact hx, by show (if b = H.length then _ else _) = _; rw [if_neg hne], rfl⟩, fun _ _ h => h⟩
   os := rfl, tape := rfl, output := rfl, size := Nat.le_refl _
   keep := fun _ _ _ _ => rfl
   imH := fun c ⟨b, h⟩ => .inl ⟨b, (hmm b c h).1⟩
   imL := fun _ h => .inl h
   pa := fun _ h => .inl h
   pf := fun _ h => .inl h }
 refine ⟨E', rfl, hst, ?_, fun s c hm => ?_, hn.2, if_pos rfl, fun b hb => if_neg hb, rfl⟩
 ·exact { hs with
   heap := fun b c h => by
    obtain ⟨h, hne⟩ := hmm b c h
    obtain ⟨blk0, cs', ty', q1, q0, q2, q3, q4, q5, q6⟩ := hs.heap b c h
    have hsz : E'.sz b = E.sz b := if_neg hne
    exact ⟨blk0, cs', ty', q1, by rw [hsz]; exact q0, q2, by rw [hsz]; exact q3, q4, by rw [hsz]; exact q5, fun i j row a hr hj => by
     obtain ⟨u, hu, hr'⟩ := q6 i j row a hr hj
     exact ⟨u, by rw [hsz]; exact hu, hr'.le hst.le.noL⟩⟩
   nilb := fun b h => by
    by_cases e : b = H.length
    ·subst e
     exact ⟨blk, by simp, if_pos rfl⟩
    ·have h : E.m b = some none := by
      have h : (if b = H.length then some none else E.m b) = some none := h
      rwa [if_neg e] at h
     obtain ⟨y, q1, q2⟩ := hs.nilb b h
     exact ⟨y, q1, by show (if b = H.length then _ else _) = _; rw [if_neg e]; exact q2⟩
   fresh := fun b h => by
    have := hs.fresh b h
    have e : b ≠ H.length := by simp at h; omega
    exact ⟨by show (if b = H.length then _ else _) = _; rw [if_neg e]; exact this.1, this.2⟩
   injH := fun b b' c h1 h2 => hs.injH b b' c (hmm b c h1).1 (hmm b' c h2).1
   injHL := fun b t c h1 h2 => hs.injHL b t c (hmm b c h1).1 h2
   notH := fun c hc ⟨b, h⟩ => hs.notH c hc ⟨b, (hmm b c h).1⟩
   ltH := fun c ⟨b, h⟩ => hs.ltH c ⟨b, (hmm b c h).1⟩ }
 ·obtain ⟨cells', cs', ty', q1, q2, q3⟩ := hL s c hm
  exact ⟨cells', cs', ty', q1, q2, q3.mono fun _ _ k => k.le hst.le.noL⟩
def refrow (fr : Bool) (row : List AV) : List AV := match fr with
 | true => row.map refr
 | false => row
def refrs (fr : Bool) (rows : List (List AV)) : List (List AV) := match fr with
 | true => rows.map fun row => row.map refr
 | false => rows
theorem refrs_eq (fr : Bool) (rows : List (List AV)) : refrs fr rows = rows.map (refrow fr) := by
 cases fr
 ·show rows = rows.map fun row => row
  simp
 ·rfl
theorem refrow_length (fr : Bool) (row : List AV) : (refrow fr row).length = row.length := by
 cases fr <;> simp [refrow]
def rowsOf (H : List Blk) (x : AV) : Option (List (List AV)) := match x with
 | .lst rows _ fr => some (refrs fr rows)
 | .ref b g off n _ => (H[b]?).bind fun blk => if blk.gen = g ∧ off + n ≤ blk.rows.length then some ((blk.rows.drop off).take n) else none
 | .str s => some (s.data.toList.map fun c => [.int .u8 c.toNat])
 | _ => none
def rowsA (H : List Blk) (x : AV) (K : List (List AV) → Prop) : Prop := match x with
 | .lst rows _ fr => K (refrs fr rows)
 | .ref b g off n _ => oelim H[b]? fun blk => blk.gen = g ∧ off + n ≤ blk.rows.length ∧ K ((blk.rows.drop off).take n)
 | .str s => K (s.data.toList.map fun c => [.int .u8 c.toNat])
 | _ => False
theorem rowsA_inv {H : List Blk} {x : AV} {K : List (List AV) → Prop} (h : rowsA H x K) : ∃ xr, rowsOf H x = some xr ∧ K xr := by
 cases x with
 | lst rows full fr => exact ⟨_, rfl, h⟩
 | ref b g off n full =>
  obtain ⟨blk, hb, h1, h2, h3⟩ := oelim_inv (show oelim H[b]? fun blk => blk.gen = g ∧ off + n ≤ blk.rows.length ∧ K ((blk.rows.drop off).take n) from h)
  exact ⟨_, by show (H[b]?).bind _ = _; rw [hb]; show (if blk.gen = g ∧ off + n ≤ blk.rows.length then _ else _) = _; rw [if_pos ⟨h1, h2⟩], h3⟩
 | str s => exact ⟨_, rfl, h⟩
 | _ => exact h.elim
def appT (P : Program) (e t2 : TypeId) (x : AV) : Bool := match x with
 | .str _ => (match P.underlying t2 with
  | some .string => (match P.underlying e with
   | some (.int .u8) => P.cellsOf e == 1
   | _ => false)
  | _ => false)
 | _ => (match P.underlying t2 with
  | some (.slice e2) => e2 == e
  | _ => false)
def rowsOk (n : Nat) (xr : List (List AV)) : Prop := ∀ row ∈ xr, row.length = n ∧ ∀ a ∈ row, sto1 a = true
def appA (P : Program) (t t2 : TypeId) (s x : AV) (L : List (Nat × List AV)) (H : List Blk) (K : AV → List (Nat × List AV) → List Blk → Prop) : Prop :=
 oelim (elemT P t) fun e => oelim (zeroA P e) fun z => if z.length = P.cellsOf e ∧ 0 < z.length ∧ appT P e t2 x = true then rowsA H x fun xr =>
  rowsOk z.length xr ∧ (match s with
  | .lst rows full fr => full = true ∧ (∀ row ∈ rows, row.length = z.length) ∧ (rows.length + xr.length) * P.bytesOf e ≤ 140737488355328 ∧ rows.length + xr.length ≤ 4611686018427387904 ∧ (rows ≠ [] → xr ≠ []) ∧
    K (.ref H.length 0 0 (rows.length + xr.length) false) L (H ++ [⟨0, z.length, rows ++ xr⟩])
  | .ref b g off n full => off = 0 ∧ oelim H[b]? fun blk => blk.gen = g ∧ blk.sz = z.length ∧ blk.rows.length = n ∧ (n + xr.length) * P.bytesOf e ≤ 140737488355328 ∧ n + xr.length ≤ 4611686018427387904 ∧
    K (.ref b (g + 1) 0 (n + xr.length) false) L (H.set b ⟨g + 1, z.length, blk.rows ++ xr⟩)
  | _ => False)
 else False
structure XOk (P : Program) (E : Env) (t2 : TypeId) (size : Nat) (xr : List (List AV)) (xv : Value) (news : List Value) : Prop where
 len : news.length = xr.length * size
 rel : ∀ (i j : Nat) (row : List AV) (a : AV), xr[i]? = some row → row[j]? = some a → ∃ u, news[i * size + j]? = some u ∧ V1 E.noL a u ∧ u.oneCell' = true
 one : ∀ u ∈ news, u.oneCell' = true
 num : (∃ e2, P.underlying t2 = some (.slice e2)) ∨ P.underlying t2 = some .string
 lenOf : ∀ w, (Builtin.lenOf xv).run P w = .ok xr.length w
 cells : ∀ w, (w = E.w ∨ w = E.w.drew) → (Builtin.firstCells size xr.length xv).run P w = .ok news.toArray w
theorem one_of_rel {size : Nat} {xr : List (List AV)} {news : List Value} {R : AV → Value → Prop} (hok : ∀ row ∈ xr, row.length = size) (len : news.length = xr.length * size)
  (rel : ∀ (i j : Nat) (row : List AV) (a : AV), xr[i]? = some row → row[j]? = some a → ∃ u, news[i * size + j]? = some u ∧ R a u ∧ u.oneCell' = true) : ∀ u ∈ news, u.oneCell' = true := by
 intro u hu
 obtain ⟨k, hk⟩ := List.mem_iff_getElem?.1 hu
 have hkl : k < xr.length * size := by rw [← len]; exact (List.getElem?_eq_some_iff.1 hk).1
 have hpos : 0 < size := by
  rcases Nat.eq_zero_or_pos size with q | q
  ·rw [q, Nat.mul_zero] at hkl; omega
  ·exact q
 have hi : k / size < xr.length := (Nat.div_lt_iff_lt_mul hpos).2 hkl
 have hrow := List.getElem?_eq_getElem hi
 have hlen : (xr[k / size]).length = size := hok _ (List.getElem_mem hi)
 have hj : k % size < (xr[k / size]).length := by rw [hlen]; exact Nat.mod_lt _ hpos
 obtain ⟨v, h1, h2, h3⟩ := rel (k / size) (k % size) _ _ hrow (List.getElem?_eq_getElem hj)
 rw [Nat.div_add_mod' k size, hk] at h1
 cases h1; exact h3
theorem x_sound {P : Program} {e t2 : TypeId} {x : AV} {xr : List (List AV)} {E : Env} {H : List Blk} {xv : Value} {size : Nat} (hH : SimH E H) (hx : V2 E x xv) (hsz : size = P.cellsOf e) (ht : appT P e t2 x = true)
  (hr : rowsOf H x = some xr) (hok : rowsOk size xr) : ∃ news, XOk P E t2 size xr xv news := by
 have hlenrow : ∀ row ∈ xr, row.length = size := fun row h => (hok row h).1
 cases x with
 | lst rows full fr =>
  have e0 : refrs fr rows = xr := Option.some.inj hr
  have e1 : xr = rows.map (refrow fr) := by rw [← e0]; exact refrs_eq fr rows
  have hlx : xr.length = rows.length := by rw [e1, List.length_map]
  have hrl : ∀ row ∈ rows, row.length = size := fun row h => by
   rw [← refrow_length fr row]; exact hlenrow _ (by rw [e1]; exact List.mem_map_of_mem h)
  have hu : ∃ e2, P.underlying t2 = some (.slice e2) := by
   unfold appT at ht
   simp only at ht
   split at ht
   ·exact ⟨_, by assumption⟩
   ·cases ht
  obtain ⟨e2, hu⟩ := hu
  have hx' : RV E.w E.PA E.PF (.lst rows full fr) xv := hx
  cases hx' with
  | @lst _ _ PB _ _ _ A cap sz vs hPB hcap hfull hsz' hcell hrel =>
   let news : List Value := (List.range (rows.length * size)).map fun k => vs (k / size) (k % size)
   have hnl : news.length = rows.length * size := by simp [news]
   have hget : ∀ i j, i < rows.length → j < size → news[i * size + j]? = some (vs i j) := by
    intro i j hi hj
    have hk : i * size + j < rows.length * size := by
     calc i * size + j < i * size + size := by omega
      _ = (i + 1) * size := by rw [Nat.add_mul, Nat.one_mul]
      _ ≤ rows.length * size := Nat.mul_le_mul_right _ (by omega)
    show ((List.range (rows.length * size)).map _)[i * size + j]? = _
    rw [List.getElem?_map, List.getElem?_range hk]
    have h1 : (i * size + j) / size = i := by
     rw [Nat.add_comm, Nat.add_mul_div_right _ _ (by omega), Nat.div_eq_of_lt hj]; omega
    have h2 : (i * size + j) % size = j := by
     rw [Nat.add_comm, Nat.add_mul_mod_self_right, Nat.mod_eq_of_lt hj]
    simp [h1, h2]
   have rel : ∀ (i j : Nat) (row : List AV) (a : AV), xr[i]? = some row → row[j]? = some a → ∃ u, news[i * size + j]? = some u ∧ V1 E.noL a u ∧ u.oneCell' = true := by
    intro i j row a h1 h2
    have hrm := hok row (List.mem_of_getElem? h1)
    have hj : j < size := by rw [← hrm.1]; exact (List.getElem?_eq_some_iff.1 h2).1
    have hs := hrm.2 a (List.mem_of_getElem? h2)
    rw [e1, List.getElem?_map] at h1
    cases hq : rows[i]? with
    | none => rw [hq] at h1; cases h1
    | some row0 =>
     rw [hq] at h1
     have h1 : refrow fr row0 = row := Option.some.inj h1
     have hv1 : V1 E.noL a (vs i j) := by
      cases fr with
      | false =>
       have h1 : row0 = row := h1
       subst h1
       exact RV.v1 (E := E.noL) ((hrel i j row0 a hq h2).mono (fun _ _ => rfl) (fun _ h => h.elim) (fun c hc => show E.PA c by have := hPB c hc; simpa using this) (fun _ h => h.elim))
      | true =>
       have h1 : row0.map refr = row := h1
       subst h1
       rw [List.getElem?_map] at h2
       cases hq2 : row0[j]? with
       | none => rw [hq2] at h2; cases h2
       | some a0 =>
        rw [hq2] at h2
        have h2 : refr a0 = a := Option.some.inj h2
        subst h2
        exact RV.v1 (E := E.noL) (refr_rel (hrel i j row0 a0 hq hq2) (fun c hc => show E.PF c by have := hPB c hc; simpa using this) hH.pfpa)
     exact ⟨_, hget i j (List.getElem?_eq_some_iff.1 hq).1 hj, hv1, hv1.one1 hs⟩
   refine ⟨news, by rw [hlx]; exact hnl, rel, one_of_rel hlenrow (by rw [hlx]; exact hnl) rel, .inl ⟨_, hu⟩, fun w => by rw [hlx]; rfl, fun w hw => ?_⟩
   rw [hlx]
   have hcw : ∀ a, w.cell? a = E.w.cell? a := by rcases hw with rfl | rfl <;> intro a <;> rfl
   by_cases hz : rows.length = 0
   ·have hn : news = [] := List.eq_nil_of_length_eq_zero (by rw [hnl, hz, Nat.zero_mul])
    rw [hn, hz]
    cases A with
    | none => exact run_firstCells_none w size 0 _ _
    | some ad => 
     have := run_firstCells_some (P := P) w size 0 ad 0 cap [] (by simp) (fun j v h => by simp at h)
     exact this
   ·obtain ⟨c, o, rfl, hc, hall⟩ := hcell (by omega)
    refine run_firstCells_some (P := P) w size rows.length ⟨c, o, none⟩ rows.length cap news hnl (fun k v hk => ?_)
    have hkl : k < rows.length * size := by rw [← hnl]; exact (List.getElem?_eq_some_iff.1 hk).1
    have hpos : 0 < size := by
     rcases Nat.eq_zero_or_pos size with q | q
     ·rw [q, Nat.mul_zero] at hkl; omega
     ·exact q
    have hi : k / size < rows.length := (Nat.div_lt_iff_lt_mul hpos).2 hkl
    have hj : k % size < size := Nat.mod_lt _ hpos
    have hszs : sz = size := by
     have := hsz' _ _ (List.getElem?_eq_getElem hi)
     rw [← this]; exact hrl _ (List.getElem_mem hi)
    have h1 := hall (k / size) (k % size) hi (by rw [hszs]; exact hj)
    have h2 := hget (k / size) (k % size) hi hj
    rw [Nat.div_add_mod' k size] at h2
    rw [hk] at h2
    cases h2
    rw [addr_add, hcw]
    rw [hszs, Nat.div_add_mod' k size] at h1
    exact h1
 | ref b g off n full =>
  have hu : ∃ e2, P.underlying t2 = some (.slice e2) := by
   unfold appT at ht
   simp only at ht
   split at ht
   ·exact ⟨_, by assumption⟩
   ·cases ht
  obtain ⟨e2, hu⟩ := hu
  have hr : ((H[b]?).bind fun blk => if blk.gen = g ∧ off + n ≤ blk.rows.length then some ((blk.rows.drop off).take n) else none) = some xr := hr
  cases hb : H[b]? with
  | none => simp [hb] at hr
  | some blk =>
   simp only [hb, Option.bind_some] at hr
   split at hr
   case isFalse => cases hr
   case isTrue hc =>
   obtain ⟨hg, hon⟩ := hc
   cases hr
   have hgen := hH.gens b blk hb
   have hxl : ((blk.rows.drop off).take n).length = n := by simp; omega
   have hxget : ∀ i row, ((blk.rows.drop off).take n)[i]? = some row → blk.rows[off + i]? = some row := by
    intro i row h
    rw [List.getElem?_take] at h
    split at h
    ·rw [List.getElem?_drop] at h; exact h
    ·cases h
   rcases (show V0 E (.ref b g off n full) xv from hx) with ⟨hh, _⟩ | ⟨hge, hh⟩
   ·omega
   ·rcases hh with ⟨_, _, hn0, A, rfl⟩ | ⟨c, cap, hm, rfl, hmc, hfl, hcp⟩
    ·subst hn0
     refine ⟨[], by simp, fun i j row a h => by simp at h, (fun u hu => by cases hu), .inl ⟨_, hu⟩, fun w => by simp; rfl, fun w hw => ?_⟩
     rw [hxl]
     cases A with
     | none => exact run_firstCells_none w size 0 _ _
     | some ad => exact run_firstCells_some (P := P) w size 0 ad 0 0 [] (by simp) (fun j v h => by simp at h)
    ·obtain ⟨blk', cs, ty, q1, q0, hw, hcs, hcl, hrows⟩ := hH.heap b c hm
     obtain rfl : blk = blk' := by rw [hb] at q1; exact Option.some.inj q1
     by_cases hn0 : n = 0
     ·subst hn0
      refine ⟨[], by simp, fun i j row a h => by simp at h, (fun u hu => by cases hu), .inl ⟨_, hu⟩, fun w => by simp; rfl, fun w hw => ?_⟩
      rw [hxl]
      exact run_firstCells_some (P := P) w size 0 _ 0 cap [] (by simp) (fun j v h => by simp at h)
     ·have hsze : E.sz b = size := by
       have hlt : off < blk.rows.length := by omega
       have h0 : ((blk.rows.drop off).take n)[0]? = some blk.rows[off] := by
        rw [List.getElem?_take, if_pos (by omega), List.getElem?_drop, Nat.add_zero, List.getElem?_eq_getElem hlt]
       rw [← hrows.1 off _ (List.getElem?_eq_getElem hlt)]
       exact hlenrow _ (List.mem_of_getElem? h0)
      let news : List Value := (cs.toList.drop (off * size)).take (n * size)
      have hbnd : off * size + n * size ≤ cs.size := by
       rw [hcs, hsze, ← Nat.add_mul]; exact Nat.mul_le_mul_right _ (by omega)
      have hnl : news.length = n * size := by simp [news]; omega
      have hng : ∀ k, k < n * size → news[k]? = cs[off * size + k]? := by
       intro k hk
       show ((cs.toList.drop (off * size)).take (n * size))[k]? = _
       rw [List.getElem?_take, if_pos hk, List.getElem?_drop, Array.getElem?_toList]
      have rel : ∀ (i j : Nat) (row : List AV) (a : AV), ((blk.rows.drop off).take n)[i]? = some row → row[j]? = some a → ∃ u, news[i * size + j]? = some u ∧ V1 E.noL a u ∧ u.oneCell' = true := by
       intro i j row a h1 h2
       have hrm := hok row (List.mem_of_getElem? h1)
       have hj : j < size := by rw [← hrm.1]; exact (List.getElem?_eq_some_iff.1 h2).1
       have hi : i < n := by have := (List.getElem?_eq_some_iff.1 h1).1; rw [hxl] at this; exact this
       obtain ⟨u, hu1, hu2⟩ := hrows.2 (off + i) j row a (hxget i row h1) h2
       have hk : i * size + j < n * size := by
        calc i * size + j < i * size + size := by omega
         _ = (i + 1) * size := by rw [Nat.add_mul, Nat.one_mul]
         _ ≤ n * size := Nat.mul_le_mul_right _ (by omega)
       refine ⟨u, ?_, hu2, hu2.one1 (hrm.2 a (List.mem_of_getElem? h2))⟩
       rw [hng _ hk, ← hu1, hsze]
       congr 1
       rw [Nat.add_mul]; omega
      refine ⟨news, by rw [hxl]; exact hnl, rel, one_of_rel hlenrow (by rw [hxl]; exact hnl) rel, .inl ⟨_, hu⟩, fun w => by rw [hxl]; rfl, fun w hw' => ?_⟩
      have hcw : ∀ a, w.cell? a = E.w.cell? a := by rcases hw' with rfl | rfl <;> intro a <;> rfl
      rw [hxl]
      refine run_firstCells_some (P := P) w size n _ n cap news hnl (fun k v hk => ?_)
      have hkl : k < n * size := by rw [← hnl]; exact (List.getElem?_eq_some_iff.1 hk).1
      rw [hng k hkl] at hk
      rw [addr_add, hcw, hsze]
      exact cell_of hw hk
 | str s =>
  obtain rfl := V3.str_inv (V3_of_V2 hx)
  cases hr
  unfold appT at ht
  simp only at ht
  split at ht
  case h_2 => cases ht
  case h_1 hu =>
  split at ht
  case h_2 => cases ht
  case h_1 he =>
  have hs1 : size = 1 := by rw [hsz]; simpa using ht
  subst hs1
  have hsz0 : s.data.toList.length = s.size := by simp
  refine ⟨s.data.toList.map fun c => .int .u8 c.toNat, by simp, fun i j row a h1 h2 => ?_, fun u hu => ?_, .inr hu, fun w => ?_, fun w hw => ?_⟩
  ·rw [List.getElem?_map] at h1
   cases hc : s.data.toList[i]? with
   | none => rw [hc] at h1; cases h1
   | some c =>
    rw [hc] at h1
    cases h1
    have hj0 : j = 0 := by have := (List.getElem?_eq_some_iff.1 h2).1; simp at this; omega
    subst hj0
    cases h2
    exact ⟨.int .u8 c.toNat, by rw [List.getElem?_map, Nat.mul_one, Nat.add_zero, hc]; rfl, RV.int _ _, rfl⟩
  ·obtain ⟨c, _, rfl⟩ := List.mem_map.1 hu; rfl
  ·show Result.ok s.size w = _
   rw [List.length_map, hsz0]
  ·rw [List.length_map, hsz0]
   show Result.ok ((s.extract 0 s.size).data.map fun b => Value.int .u8 b.toNat) w = _
   congr 1
   apply Array.ext'
   simp
 | _ => cases hr
section
variable {P : Program} {E : Env} {t t2 ty e : TypeId} {size : Nat} {xr : List (List AV)} {xv : Value} {news : List Value}
theorem run_app_none (X : XOk P E t2 size xr xv news) (ht : P.underlying t = some (.slice e)) (hi : (P.info? e).isSome = true) (hsz : P.cellsOf e = size) {base : Option Addr} {sLen sCap : Nat} (hn : xr.length = 0) (hc : sLen ≤ sCap) :
  (Builtin.append_ #[t, t2] ty #[.slice base sLen sCap, xv]).run P E.w = .ok (.slice base sLen sCap) E.w := by
 have hl := X.lenOf E.w
 have hf := X.cells E.w (.inl rfl)
 have hnews : news = [] := List.eq_nil_of_length_eq_zero (by rw [X.len, hn, Nat.zero_mul])
 subst hnews
 rw [hn] at hl hf
 rcases X.num with ⟨e2, hu⟩ | hu <;>
  (simp [Builtin.append_, run_underlying ht, run_underlying hu, run_sizeOf hi, hsz, hl, hc, hf]
   cases base <;> simp [storeCells])
theorem run_app_in (X : XOk P E t2 size xr xv news) (ht : P.underlying t = some (.slice e)) (hi : (P.info? e).isSome = true) (hsz : P.cellsOf e = size) {g o sLen sCap : Nat} {cur : Array Value} {ce : TypeId}
  (hg : E.w.heap[g]? = some (.cells cur ce (0, 0))) (hroom : sLen + xr.length ≤ sCap) (hfit : o + sLen * size + news.length ≤ cur.size) :
  (Builtin.append_ #[t, t2] ty #[.slice (some ⟨g, o, none⟩) sLen sCap, xv]).run P E.w = .ok (.slice (some ⟨g, o, none⟩) (sLen + xr.length) sCap) (E.w.setRow g (cur.toList.take (o + sLen * size) ++ news ++ cur.toList.drop (o + sLen * size + news.length)).toArray) := by
 have hl := X.lenOf E.w
 have hf := X.cells E.w (.inl rfl)
 have hst := run_storeCells_at (P := P) g (o + sLen * size) ce news 0 cur E.w hg (by simpa using hfit) X.one
 simp only [Nat.add_zero] at hst
 rcases X.num with ⟨e2, hu⟩ | hu <;>
  simp [Builtin.append_, run_underlying ht, run_underlying hu, run_sizeOf hi, hsz, hl, hroom, hf, addr_add, hst]
theorem run_app_out (X : XOk P E t2 size xr xv news) (ht : P.underlying t = some (.slice e)) {i : TypeInfo} (hi : P.info? e = some i) (hsz : i.size = size) {z : Value} (hz : i.zero = some z) {base : Option Addr} {sLen sCap : Nat} {olds : Array Value}
  (holds : (Builtin.firstCells size sLen (.slice base sLen sCap)).run P E.w.drew = .ok olds E.w.drew) (hg : sCap < sLen + xr.length) (h63 : ((sLen + xr.length : Nat) : Int) ≤ 9223372036854775807)
  (hfit : Builtin.nextslicecap (sLen + xr.length) sCap * i.bytes ≤ 281474976710656) :
  (Builtin.append_ #[t, t2] ty #[.slice base sLen sCap, xv]).run P E.w = .ok (.slice (some ⟨E.w.heap.size, 0, none⟩) (sLen + xr.length) (grownCap E.w (sLen + xr.length) sCap e))
   (E.w.drew.alloc (.cells (olds ++ news.toArray ++ Builtin.zeroCells z.cells (grownCap E.w (sLen + xr.length) sCap e - (sLen + xr.length))) e)) := by
 have hl := X.lenOf E.w
 have hf := X.cells E.w.drew (.inr rfl)
 subst hsz
 have hn : ¬ (sLen + xr.length ≤ sCap) := by omega
 have h63' : ¬ (9223372036854775807 < ((sLen : Int) + (xr.length : Int))) := by omega
 have h48' : ¬ (281474976710656 < Builtin.nextslicecap (sLen + xr.length) sCap * i.bytes) := by omega
 rcases X.num with ⟨e2, hu⟩ | hu <;>
  simp [Builtin.append_, run_underlying ht, run_underlying hu, sizeOf, typeInfo, zeroValue, hi, hz, hl, hn, h63', h48', Question.forced, hf, holds, newRow, grownCap]
end
theorem app_sound {P : Program} {t t2 ty : TypeId} {s x : AV} {L : List (Nat × List AV)} {H : List Blk} {K : AV → List (Nat × List AV) → List Blk → Prop} {E : Env} {sv xv : Value}
  (hH : SimH E H) (hL : SimL E L) (hs : V2 E s sv) (hx : V2 E x xv) (h : appA P t t2 s x L H K) :
  ∃ r u H' E', K r L H' ∧ (Builtin.append_ #[t, t2] ty #[sv, xv]).run P E.w = .ok u E'.w ∧ Step E E' ∧ SimH E' H' ∧ SimL E' L ∧ V3 E' r u ∧ E'.mL = E.mL := by
 obtain ⟨e, he, h⟩ := oelim_inv h
 obtain ⟨z, hz, h⟩ := oelim_inv h
 have ht := elemT_spec he
 split at h
 case isFalse => exact h.elim
 case isTrue hc =>
 obtain ⟨hzl, hpos, hat⟩ := hc
 obtain ⟨xr, hxr, hok, h⟩ := rowsA_inv h
 obtain ⟨i, zv, hi, hzv, hz1, hz2⟩ := zero_rel (E := E.noL) hz
 obtain ⟨news, X⟩ := x_sound hH hx hzl hat hxr hok
 have hii : (P.info? e).isSome = true := by rw [hi]; rfl
 have hisz : i.size = z.length := by rw [hzl]; simp [Program.cellsOf, hi]
 have hib : i.bytes = P.bytesOf e := by simp [Program.bytesOf, hi]
 have hzvs : zv.cells.size = z.length := by rw [hz1]; simp
 -- the new block, where there is no room
 have out : ∀ (base : Option Addr) (rows : List (List AV)) (sCap : Nat) (olds : Array Value) (b g : Nat) (H' : List Blk), sv = .slice base rows.length sCap →
   (Builtin.firstCells z.length rows.length (.slice base rows.length sCap)).run P E.w.drew = .ok olds E.w.drew → olds.size = rows.length * z.length →
   (∀ row ∈ rows, row.length = z.length) → (∀ (i j : Nat) (row : List AV) (a : AV), rows[i]? = some row → row[j]? = some a → ∃ u, olds[i * z.length + j]? = some u ∧ V1 E.noL a u) →
   sCap < rows.length + xr.length → (rows.length + xr.length) * P.bytesOf e ≤ 140737488355328 → rows.length + xr.length ≤ 4611686018427387904 →
   H'[b]? = some ⟨g, z.length, rows ++ xr⟩ → (∀ b', b' ≠ b → H'[b']? = H[b']?) → (b < H.length → H'.length = H.length) → H.length ≤ H'.length → ((E.m b = none ∧ g = E.gen b) ∨ E.gen b < g) →
   K (.ref b g 0 (rows.length + xr.length) false) L H' → ∃ r u H' E', K r L H' ∧ (Builtin.append_ #[t, t2] ty #[sv, xv]).run P E.w = .ok u E'.w ∧ Step E E' ∧ SimH E' H' ∧ SimL E' L ∧ V3 E' r u ∧ E'.mL = E.mL := by
  intro base rows sCap olds b g H' hsv holds hos hrl horel hroom hby h62 hb' ho hlen hlen2 hgen hK
  subst hsv
  have hrun := run_app_out (ty := ty) X ht hi hisz hzv holds hroom (by omega) (growslice_fits (by omega) (by rw [hib]; exact hby))
  have hcapge := grownCap_ge E.w (rows.length + xr.length) sCap e
  let cap := grownCap E.w (rows.length + xr.length) sCap e
  let cs : Array Value := olds ++ news.toArray ++ Builtin.zeroCells zv.cells (cap - (rows.length + xr.length))
  have hcs : cs.size = cap * z.length := by
   show (olds ++ news.toArray ++ Builtin.zeroCells zv.cells (cap - (rows.length + xr.length))).size = _
   have e1 : (olds ++ news.toArray ++ Builtin.zeroCells zv.cells (cap - (rows.length + xr.length))).size = olds.size + news.length + (Builtin.zeroCells zv.cells (cap - (rows.length + xr.length))).size := by simp; omega
   rw [e1, size_zeroCells, hzvs, hos, X.len, ← Nat.add_mul, ← Nat.add_mul]
   congr 1
   have : rows.length + xr.length ≤ cap := hcapge
   omega
  have hrows : RowsAt E z.length (rows ++ xr) cs := by
   refine ⟨fun k row hr => ?_, fun k j row a hr hj => ?_⟩
   ·rcases Nat.lt_or_ge k rows.length with hlt | hge
    ·rw [List.getElem?_append_left hlt] at hr; exact hrl row (List.mem_of_getElem? hr)
    ·rw [List.getElem?_append_right hge] at hr; exact (hok row (List.mem_of_getElem? hr)).1
   ·rcases Nat.lt_or_ge k rows.length with hlt | hge
    ·rw [List.getElem?_append_left hlt] at hr
     obtain ⟨u, hu, hv⟩ := horel k j row a hr hj
     refine ⟨u, ?_, hv⟩
     have hkl := (Array.getElem?_eq_some_iff.1 hu).1
     show (olds ++ news.toArray ++ _)[k * z.length + j]? = _
     rw [Array.getElem?_append_left (by rw [Array.size_append]; omega), Array.getElem?_append_left hkl]; exact hu
    ·rw [List.getElem?_append_right hge] at hr
     obtain ⟨u, hu, hv, _⟩ := X.rel _ j row a hr hj
     refine ⟨u, ?_, hv⟩
     have hkl := (List.getElem?_eq_some_iff.1 hu).1
     have hk2 : k * z.length + j = olds.size + ((k - rows.length) * z.length + j) := by
      rw [hos, ← Nat.add_assoc, ← Nat.add_mul]; congr 2; omega
     show (olds ++ news.toArray ++ _)[k * z.length + j]? = _
     rw [hk2, Array.getElem?_append_left (by simp; omega), Array.getElem?_append_right (by omega), Nat.add_sub_cancel_left]
     simpa using hu
  obtain ⟨E', hw, hst, hsH, hsL, hg', hm', hs', hcp', _, hml⟩ := newH_sound (cap := cap) (blk := ⟨g, z.length, rows ++ xr⟩) hH hL (NewBlk.drewAlloc E.w (.cells cs e (0, 0))) hb' ho hlen hlen2 hgen hcs (by
   show (rows ++ xr).length ≤ cap
   rw [List.length_append]; exact hcapge) hrows
  refine ⟨_, _, _, E', hK, by rw [hw]; exact hrun, hst, hsH, hsL, .inr ⟨hg'.symm, .inr ⟨_, _, hm', ?_, hcapge, (fun h => by cases h), ?_⟩⟩, hml⟩
  ·rw [Nat.zero_mul]
  ·rw [hcp', Nat.zero_add]; exact Nat.le_refl _
 cases s with
 | lst rows full fr =>
  obtain ⟨hfull, hrl, hby, h62, hne, hK⟩ := h
  subst hfull
  have hs' : RV E.w E.PA E.PF (.lst rows true fr) sv := hs
  cases hs' with
  | @lst _ _ PB _ _ _ A cap sz vs hPB hcap hfull hsz hcell hrel =>
   have hcap' := hfull rfl
   subst hcap'
   by_cases hx0 : xr.length = 0
   ·have hxr0 : xr = [] := List.eq_nil_of_length_eq_zero hx0
    have hr0 : rows = [] := Classical.byContradiction fun hh => hne hh hxr0
    subst hr0; subst hxr0
    obtain ⟨E', hw, hst, hsH, hsL, hg', hm', _, hml⟩ := nilH_sound (blk := ⟨0, z.length, [] ++ []⟩) hH hL rfl rfl
    have hrun := run_app_none (ty := ty) X ht hii hzl.symm (base := A) (sLen := 0) (sCap := 0) rfl (Nat.le_refl _)
    exact ⟨_, _, _, E', hK, by rw [hw]; exact hrun, hst, hsH, hsL, .inr ⟨hg'.symm, .inl ⟨hm', rfl, rfl, A, rfl⟩⟩, hml⟩
   ·have hszr : 0 < rows.length → sz = z.length := fun hp => by
     rw [← hsz 0 _ (List.getElem?_eq_getElem hp)]; exact hrl _ (List.getElem_mem hp)
    let olds : List Value := (List.range (rows.length * z.length)).map fun k => vs (k / z.length) (k % z.length)
    have hol : olds.length = rows.length * z.length := by simp [olds]
    have hget : ∀ i j, i < rows.length → j < z.length → olds[i * z.length + j]? = some (vs i j) := by
     intro i j hi hj
     have hk : i * z.length + j < rows.length * z.length := by
      calc i * z.length + j < i * z.length + z.length := by omega
       _ = (i + 1) * z.length := by rw [Nat.add_mul, Nat.one_mul]
       _ ≤ rows.length * z.length := Nat.mul_le_mul_right _ (by omega)
     show ((List.range (rows.length * z.length)).map _)[i * z.length + j]? = _
     rw [List.getElem?_map, List.getElem?_range hk]
     have h1 : (i * z.length + j) / z.length = i := by
      rw [Nat.add_comm, Nat.add_mul_div_right _ _ (by omega), Nat.div_eq_of_lt hj]; omega
     have h2 : (i * z.length + j) % z.length = j := by
      rw [Nat.add_comm, Nat.add_mul_mod_self_right, Nat.mod_eq_of_lt hj]
     simp [h1, h2]
    refine out A rows rows.length olds.toArray H.length 0 _ rfl ?_ (by simp [hol]) hrl (fun i j row a h1 h2 => ?_) (by omega) hby h62 (by simp) (fun b' hb' => ?_) (fun hh => by omega) (by simp) (.inl ⟨(hH.fresh _ (Nat.le_refl _)).1, (hH.fresh _ (Nat.le_refl _)).2.symm⟩) hK
    ·by_cases hr0 : rows.length = 0
     ·have h0 : olds = [] := List.eq_nil_of_length_eq_zero (by rw [hol, hr0, Nat.zero_mul])
      rw [h0, hr0]
      cases A with
      | none => exact run_firstCells_none _ _ _ _ _
      | some ad => exact run_firstCells_some (P := P) _ z.length 0 ad 0 0 [] (by simp) (fun j v h => by simp at h)
     ·obtain ⟨c, o, rfl, hc, hall⟩ := hcell (by omega)
      refine run_firstCells_some (P := P) E.w.drew z.length rows.length ⟨c, o, none⟩ rows.length rows.length olds hol (fun k v hk => ?_)
      have hkl : k < rows.length * z.length := by rw [← hol]; exact (List.getElem?_eq_some_iff.1 hk).1
      have hi : k / z.length < rows.length := (Nat.div_lt_iff_lt_mul hpos).2 hkl
      have hj : k % z.length < z.length := Nat.mod_lt _ hpos
      have hss := hszr (by omega)
      have h1 := hall (k / z.length) (k % z.length) hi (by rw [hss]; exact hj)
      have h2 := hget (k / z.length) (k % z.length) hi hj
      rw [Nat.div_add_mod' k z.length] at h2
      rw [hk] at h2
      cases h2
      rw [hss, Nat.div_add_mod' k z.length] at h1
      rw [addr_add]
      exact h1
    ·have hi := (List.getElem?_eq_some_iff.1 h1).1
     have hj : j < z.length := by rw [← hrl row (List.mem_of_getElem? h1)]; exact (List.getElem?_eq_some_iff.1 h2).1
     refine ⟨vs i j, by simpa using hget i j hi hj, RV.v1 (E := E.noL) ((hrel i j row a h1 h2).mono (fun _ _ => rfl) (fun _ h => h.elim) (fun c hc => by have := hPB c hc; split at this; exact hH.pfpa c this; exact this) (fun _ h => h.elim))⟩
    ·rcases Nat.lt_or_ge b' H.length with hlt | hge
     ·rw [List.getElem?_append_left hlt]
     ·rw [List.getElem?_eq_none hge, List.getElem?_eq_none (by simp; omega)]
 | ref b g off n full =>
  replace h : off = 0 ∧ oelim H[b]? fun blk => blk.gen = g ∧ blk.sz = z.length ∧ blk.rows.length = n ∧ (n + xr.length) * P.bytesOf e ≤ 140737488355328 ∧ n + xr.length ≤ 4611686018427387904 ∧
    K (.ref b (g + 1) 0 (n + xr.length) false) L (H.set b ⟨g + 1, z.length, blk.rows ++ xr⟩) := h
  obtain ⟨ho0, hq⟩ := h
  obtain ⟨blk, hb, hg, hbs, hbl, hby, h62, hK⟩ := oelim_inv hq
  clear hq
  subst ho0
  have hgen := hH.gens b blk hb
  have hblt : b < H.length := (List.getElem?_eq_some_iff.1 hb).1
  subst hbl
  rcases (show V0 E (.ref b g 0 blk.rows.length full) sv from hs) with ⟨hh, _⟩ | ⟨hge, hh⟩
  ·omega
  ·rcases hh with ⟨hm, _, hn0, A, rfl⟩ | ⟨c, cap, hm, rfl, hmc, hfl, hcp⟩
   ·-- nothing there yet
    by_cases hx0 : xr.length = 0
    ·have hxr0 : xr = [] := List.eq_nil_of_length_eq_zero hx0
     subst hxr0
     obtain ⟨E', hw, hst, hsH, hsL, hg', hm', hsz', hcp', hml⟩ := regen_sound (w' := E.w) (x := none) (blk' := ⟨g + 1, z.length, blk.rows ++ []⟩) hH hL hm hb (by show g + 1 = _; rw [hg]) hbs.symm rfl rfl rfl rfl (fun _ _ => rfl) (fun c hc => by cases hc)
     have hrun := run_app_none (ty := ty) X ht hii hzl.symm (base := A) (sLen := 0) (sCap := 0) rfl (Nat.le_refl _)
     refine ⟨_, _, _, E', hK, by rw [hw]; exact hrun, hst, hsH, hsL, .inr ⟨hg'.symm, .inl ⟨by rw [hm']; exact hm, rfl, by simp [hn0], A, rfl⟩⟩, hml⟩
    ·have hr0 : blk.rows = [] := List.eq_nil_of_length_eq_zero hn0
     refine out A blk.rows 0 #[] b (g + 1) _ (by rw [hr0]; rfl) ?_ (by rw [hr0]; simp) (fun row hr => by rw [hr0] at hr; cases hr) (fun i j row a h1 h2 => by rw [hr0] at h1; simp at h1) (by omega) hby h62 (by rw [List.getElem?_set_self hblt]) (fun b' hb' => List.getElem?_set_ne (fun h => hb' h.symm)) (fun _ => by simp) (by simp) (.inr (by omega)) hK
     rw [hr0]
     cases A with
     | none => exact run_firstCells_none _ _ _ _ _
     | some ad => exact run_firstCells_some (P := P) _ z.length 0 ad 0 0 [] (by simp) (fun j v h => by simp at h)
   ·obtain ⟨blk', cs, ty', q1, q0, hw, hcs, hcl, hrows⟩ := hH.heap b c hm
    obtain rfl : blk = blk' := by rw [hb] at q1; exact Option.some.inj q1
    have hsz : E.sz b = z.length := by rw [q0, hbs]
    by_cases hroom : blk.rows.length + xr.length ≤ cap
    ·-- there is room
     have hcsz : cs.size = E.cp b * z.length := by rw [hcs, hsz]
     have hle : (blk.rows.length + xr.length) * z.length ≤ cs.size := by rw [hcsz]; exact Nat.mul_le_mul_right _ (by omega)
     have hle' : blk.rows.length * z.length + news.length ≤ cs.size := by rw [X.len, ← Nat.add_mul]; exact hle
     have hrun := run_app_in (ty := ty) (o := 0) X ht hii hzl.symm hw hroom (by rw [Nat.zero_add]; exact hle')
     rw [Nat.zero_add] at hrun
     let cs' : Array Value := (cs.toList.take (blk.rows.length * z.length) ++ news ++ cs.toList.drop (blk.rows.length * z.length + news.length)).toArray
     have hcs' : ∀ k, cs'[k]? = if k < blk.rows.length * z.length then cs.toList[k]? else if k < blk.rows.length * z.length + news.length then news[k - blk.rows.length * z.length]? else cs.toList[k]? := by
      intro k
      show (List.toArray _)[k]? = _
      rw [List.getElem?_toArray, splice_get (by simpa using hle')]
     obtain ⟨E', hw', hst, hsH, hsL, hg', hm', hsz', hcp', hml⟩ := regen_sound (w' := E.w.setRow c cs') (x := some c) (blk' := ⟨g + 1, z.length, blk.rows ++ xr⟩) hH hL hm hb (by show g + 1 = _; rw [hg]) hbs.symm rfl rfl rfl (by simp)
      (fun c' hc' => setRow_other _ _ _ _ (fun e => hc' (by rw [e]))) (fun c' hc' => by
       cases hc'
       refine ⟨cs', ty', setRow_heap _ _ _ _ _ _ hw, ?_, by show (blk.rows ++ xr).length ≤ _; rw [List.length_append]; omega, fun k row hr => ?_, fun k j row a hr hj => ?_⟩
       ·rw [← hcs]
        show (List.toArray _).size = _
        simp; omega
       ·have hr : (blk.rows ++ xr)[k]? = some row := hr
        rcases Nat.lt_or_ge k blk.rows.length with hlt | hge'
        ·rw [List.getElem?_append_left hlt] at hr; exact hrows.1 k row hr
        ·rw [List.getElem?_append_right hge'] at hr; rw [hsz]; exact (hok row (List.mem_of_getElem? hr)).1
       ·have hr : (blk.rows ++ xr)[k]? = some row := hr
        rcases Nat.lt_or_ge k blk.rows.length with hlt | hge'
        ·rw [List.getElem?_append_left hlt] at hr
         obtain ⟨u, hu, hv⟩ := hrows.2 k j row a hr hj
         refine ⟨u, ?_, hv⟩
         have hjl : j < z.length := by rw [← hsz, ← hrows.1 k row hr]; exact (List.getElem?_eq_some_iff.1 hj).1
         have : k * z.length + j < blk.rows.length * z.length := by
          calc k * z.length + j < k * z.length + z.length := by omega
           _ = (k + 1) * z.length := by rw [Nat.add_mul, Nat.one_mul]
           _ ≤ blk.rows.length * z.length := Nat.mul_le_mul_right _ (by omega)
         rw [hsz] at hu ⊢
         rw [hcs', if_pos this]; simpa using hu
        ·rw [List.getElem?_append_right hge'] at hr
         obtain ⟨u, hu, hv, _⟩ := X.rel _ j row a hr hj
         refine ⟨u, ?_, hv⟩
         have hkl := (List.getElem?_eq_some_iff.1 hu).1
         have hk2 : k * z.length + j = blk.rows.length * z.length + ((k - blk.rows.length) * z.length + j) := by
          rw [← Nat.add_assoc, ← Nat.add_mul]; congr 2; omega
         rw [hsz, hcs', hk2, if_neg (by omega), if_pos (by omega), Nat.add_sub_cancel_left]; exact hu)
     refine ⟨_, _, _, E', hK, by rw [hw']; rw [Nat.zero_mul]; exact hrun, hst, hsH, hsL, .inr ⟨hg'.symm, .inr ⟨c, cap, by rw [hm']; exact hm, by simp, hroom, (fun h => by cases h), by rw [hcp']; omega⟩⟩, hml⟩
    ·-- there is none
     refine out (some ⟨c, 0, none⟩) blk.rows cap (cs.toList.take (blk.rows.length * z.length)).toArray b (g + 1) _ (by rw [Nat.zero_mul]) ?_ ?_ (fun row hr => ?_) (fun i j row a h1 h2 => ?_) (by omega) hby h62 (by rw [List.getElem?_set_self hblt]) (fun b' hb' => List.getElem?_set_ne (fun h => hb' h.symm)) (fun _ => by simp) (by simp) (.inr (by omega)) hK
     ·refine run_firstCells_some (P := P) E.w.drew z.length blk.rows.length ⟨c, 0, none⟩ blk.rows.length cap _ ?_ (fun k v hk => ?_)
      ·have : blk.rows.length * z.length ≤ cs.size := by rw [hcs, hsz]; exact Nat.mul_le_mul_right _ hcl
       simp; omega
      ·rw [List.getElem?_take] at hk
       split at hk
       ·rw [addr_add, Nat.zero_add]
        exact cell_of (w := E.w) hw (by simpa using hk)
       ·cases hk
     ·have : blk.rows.length * z.length ≤ cs.size := by rw [hcs, hsz]; exact Nat.mul_le_mul_right _ hcl
      simp; omega
     ·obtain ⟨k, hk⟩ := List.mem_iff_getElem?.1 hr
      rw [← hsz]; exact hrows.1 k row hk
     ·obtain ⟨u, hu, hv⟩ := hrows.2 i j row a h1 h2
      refine ⟨u, ?_, hv⟩
      have hi := (List.getElem?_eq_some_iff.1 h1).1
      have hj : j < z.length := by rw [← hsz, ← hrows.1 i row h1]; exact (List.getElem?_eq_some_iff.1 h2).1
      have : i * z.length + j < blk.rows.length * z.length := by
       calc i * z.length + j < i * z.length + z.length := by omega
        _ = (i + 1) * z.length := by rw [Nat.add_mul, Nat.one_mul]
        _ ≤ blk.rows.length * z.length := Nat.mul_le_mul_right _ (by omega)
      rw [List.getElem?_toArray, List.getElem?_take, if_pos this, Array.getElem?_toList, ← hsz]
      exact hu
 | _ => exact h.elim
end Go.Proofs.Ytglpfccgmfhkdaa.Fw
