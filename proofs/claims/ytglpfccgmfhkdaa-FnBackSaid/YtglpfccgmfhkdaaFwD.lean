/- The framework, part D: writing cells. -/

import Derived.Test.YtglpfccgmfhkdaaFwC
set_option linter.unusedVariables false
namespace Go.Proofs.Ytglpfccgmfhkdaa.Fw
open Go
def sto0 : AV → Bool
 | .undef | .agg _ | .tup _ | .lptr _ _ | .fn _ _ => false
 | _ => true
def sto1 : AV → Bool
 | .fn _ caps => caps.all sto0
 | a => sto0 a
def cellsA : AV → List AV
 | .agg l => l
 | a => [a]
def splice (row : List AV) (c : Nat) (l : List AV) : List AV := row.take c ++ l ++ row.drop (c + l.length)
def stA (P : Program) (t : TypeId) (x v : AV) (L : List (Nat × List AV)) (H : List Blk) (K : List (Nat × List AV) → List Blk → Prop) : Prop :=
 if (P.info? t).isSome = true ∧ (cellsA v).length = P.cellsOf t ∧ (cellsA v).all sto1 = true then
  match x with
  | .lptr s c => oelim (getL L s) fun cells => if c + (cellsA v).length ≤ cells.length then K (setL L s (splice cells c (cellsA v))) H else False
  | .ptr b g r c => oelim H[b]? fun blk => blk.gen = g ∧ oelim blk.rows[r]? fun row => c + (cellsA v).length ≤ row.length ∧ K L (H.set b { blk with rows := blk.rows.set r (splice row c (cellsA v)) })
  | _ => False
 else False
theorem sto0_noL {E : Env} {a : AV} {v : Value} (h : sto0 a = true) (hv : V0 E a v) : V0 E.noL a v := by
 cases a <;> first | exact hv | cases h
theorem sto1_noL {E : Env} {a : AV} {v : Value} (h : sto1 a = true) (hv : V1 E a v) : V1 E.noL a v := by
 by_cases hf : ∃ f caps, a = .fn f caps
 ·obtain ⟨f, caps, rfl⟩ := hf
  obtain ⟨vs, e, hp⟩ := hv
  refine ⟨vs, e, hp.1, fun i x y hx hy => sto0_noL ?_ (hp.2 i x y hx hy)⟩
  have h' : caps.all sto0 = true := h
  exact List.all_eq_true.1 h' x (List.mem_of_getElem? hx)
 ·have h0 : sto1 a = sto0 a := by cases a <;> first | rfl | exact absurd ⟨_, _, rfl⟩ hf
  rw [V1_eq fun f c e => hf ⟨f, c, e⟩] at hv ⊢
  exact sto0_noL (h0 ▸ h) hv
theorem V0.one {E : Env} {a : AV} {v : Value} (h : sto0 a = true) (hv : V0 E a v) : v.oneCell' = true := by
 cases a with
 | undef => cases h
 | agg l => cases h
 | tup l => cases h
 | lptr s c => cases h
 | fn f c => cases h
 | ref b g off n full =>
  rcases hv with ⟨_, A, cap, rfl⟩ | ⟨_, ⟨_, _, _, A, rfl⟩ | ⟨c, cap, _, rfl, _⟩⟩
  ·rfl
  ·rfl
  ·rfl
 | ptr b g r c =>
  rcases hv with ⟨_, bl, o, rfl⟩ | ⟨_, bl, _, rfl⟩
  ·rfl
  ·rfl
 | _ => exact RV.one (show RV E.w E.PA E.PF _ v from hv) (by intro h; cases h)
theorem V1.one1 {E : Env} {a : AV} {v : Value} (h : sto1 a = true) (hv : V1 E a v) : v.oneCell' = true := by
 by_cases hf : ∃ f caps, a = .fn f caps
 ·obtain ⟨f, caps, rfl⟩ := hf
  obtain ⟨vs, rfl, hp⟩ := hv
  rfl
 ·have h0 : sto1 a = sto0 a := by cases a <;> first | rfl | exact absurd ⟨_, _, rfl⟩ hf
  rw [V1_eq fun f c e => hf ⟨f, c, e⟩] at hv
  exact hv.one (h0 ▸ h)
theorem Step.setRow {E : Env} {H : List Blk} (hH : SimH E H) {bl : Nat} (hb : E.imgH bl ∨ E.imgL bl) (cs : Array Value) : Step E { E with w := E.w.setRow bl cs } := by
 have hn : ∀ c, E.PA c → c ≠ bl := fun c hc e => by
  subst e
  exact hb.elim (hH.notH _ hc) (hH.notL _ hc)
 have hk : ∀ c, c ≠ bl → (E.w.setRow bl cs).heap[c]? = E.w.heap[c]? := fun c hc => setRow_other _ _ _ _ hc
 exact ⟨⟨fun _ h => h, fun _ h => h, fun c hc => hk c (hn c hc), fun c hc => hk c (hn c (hH.pfpa c hc)), fun _ => Nat.le_refl _, fun _ _ h _ => ⟨h, rfl, rfl⟩, fun _ _ h => h⟩, rfl, rfl, rfl,
  by simp, fun c _ h1 h2 => hk c (fun e => by subst e; exact hb.elim h1 h2), fun _ h => .inl h, fun _ h => .inl h, fun _ h => .inl h, fun _ h => .inl h⟩
theorem cells_rel {E : Env} {v : AV} {u : Value} (hv : V2 E v u) (hs : (cellsA v).all sto1 = true) : PW (V1 E) (cellsA v) u.cells.toList := by
 by_cases hf : ∃ l, v = .agg l
 ·obtain ⟨l, rfl⟩ := hf
  obtain ⟨vs, rfl, hp⟩ := hv
  exact hp
 ·have h0 : cellsA v = [v] := by cases v <;> first | rfl | exact absurd ⟨_, rfl⟩ hf
  rw [V2_eq fun l e => hf ⟨l, e⟩] at hv
  rw [h0] at hs ⊢
  have h1 : u.oneCell' = true := hv.one1 (by simpa using hs)
  have h2 : u.cells = #[u] := by cases u <;> first | rfl | cases h1
  rw [h2]
  exact PW.cons hv PW.nil
theorem run_storeVar {P : Program} {t : TypeId} {w : World} {bl o : Nat} {cs : Array Value} {ty : TypeId} {u : Value} (hi : (P.info? t).isSome = true) (hz : u.cells.size = P.cellsOf t)
  (hw : w.heap[bl]? = some (.cells cs ty (0, 0))) (ho : o + u.cells.size ≤ cs.size) (h1 : ∀ x ∈ u.cells.toList, x.oneCell' = true) :
  (Instr.storeAt t (.pointer (some ⟨bl, o, none⟩)) u).run P w = .ok () (w.setRow bl (cs.toList.take o ++ u.cells.toList ++ cs.toList.drop (o + u.cells.toList.length)).toArray) := by
 have := run_storeCells_at (P := P) bl o ty u.cells.toList 0 cs w hw (by simpa using ho) h1
 simp only [Nat.add_zero] at this
 simp [Instr.storeAt, Instr.sureAddr, storeVar, run_sizeOf hi, hz, this]
theorem splice_get {α : Type} {l m : List α} {c : Nat} (hc : c + m.length ≤ l.length) (j : Nat) :
  (l.take c ++ m ++ l.drop (c + m.length))[j]? = if j < c then l[j]? else if j < c + m.length then m[j - c]? else l[j]? := by
 by_cases h1 : j < c
 ·rw [if_pos h1, List.append_assoc, List.getElem?_append_left (by simp; omega), List.getElem?_take, if_pos h1]
 ·rw [if_neg h1]
  by_cases h2 : j < c + m.length
  ·rw [if_pos h2, List.getElem?_append_left (by simp; omega), List.getElem?_append_right (by simp; omega)]
   congr 1; simp; omega
  ·rw [if_neg h2, List.getElem?_append_right (by simp; omega), List.getElem?_drop]
   congr 1; simp; omega
theorem PW.splice {α β : Type} {R : α → β → Prop} {l m : List α} {l' m' : List β} (h : PW R l l') (k : PW R m m') {c : Nat} (hc : c + m.length ≤ l.length) :
  PW R (l.take c ++ m ++ l.drop (c + m.length)) (l'.take c ++ m' ++ l'.drop (c + m'.length)) := by
 have h1 := h.1
 have k1 := k.1
 refine ⟨by simp; omega, fun i a b ha hb => ?_⟩
 rw [splice_get hc] at ha
 rw [splice_get (by omega)] at hb
 rw [← k1] at hb
 split at ha
 ·rename_i hi; rw [if_pos hi] at hb; exact h.2 i a b ha hb
 ·rename_i hi; rw [if_neg hi] at hb
  split at ha
  ·rename_i hj; rw [if_pos hj] at hb; exact k.2 _ a b ha hb
  ·rename_i hj; rw [if_neg hj] at hb; exact h.2 i a b ha hb
theorem getL_setL (L : List (Nat × List AV)) (t s : Nat) (d : List AV) : getL (setL L t d) s = if s = t then (getL L t).map (fun _ => d) else getL L s := by
 induction L with
 | nil => simp [setL, getL]
 | cons x L ih =>
  obtain ⟨k, c⟩ := x
  by_cases h1 : t = k
  ·subst h1
   by_cases h2 : s = t
   ·simp [setL, getL, h2]
   ·simp [setL, getL, h2]
  ·by_cases h2 : s = k
   ·subst h2
    have : ¬ s = t := fun e => h1 e.symm
    simp [setL, getL, h1, this]
   ·simp only [setL, if_neg h1, getL, if_neg h2, ih]
theorem st_sound {P : Program} {t : TypeId} {x v : AV} {L : List (Nat × List AV)} {H : List Blk} {K : List (Nat × List AV) → List Blk → Prop} {E : Env} {xv vv : Value}
  (hH : SimH E H) (hL : SimL E L) (hx : V3 E x xv) (hv : V2 E v vv) (h : stA P t x v L H K) :
  ∃ L' H' E', K L' H' ∧ (Instr.storeAt t xv vv).run P E.w = .ok () E'.w ∧ Step E E' ∧ SimH E' H' ∧ SimL E' L' ∧ E'.mL = E.mL := by
 unfold stA at h
 split at h
 case isFalse => exact h.elim
 case isTrue hc =>
 obtain ⟨hi, hz, hs⟩ := hc
 have hcells := cells_rel hv hs
 have hn : PW (V1 E.noL) (cellsA v) vv.cells.toList := ⟨hcells.1, fun i a b ha hb => sto1_noL (List.all_eq_true.1 hs a (List.mem_of_getElem? ha)) (hcells.2 i a b ha hb)⟩
 have h1 : ∀ y ∈ vv.cells.toList, y.oneCell' = true := by
  intro y hy
  obtain ⟨i, hi⟩ := List.mem_iff_getElem?.1 hy
  have hil : i < (cellsA v).length := by rw [hcells.1]; exact (List.getElem?_eq_some_iff.1 hi).1
  exact (hcells.2 i _ y (List.getElem?_eq_getElem hil) hi).one1 (List.all_eq_true.1 hs _ (List.getElem_mem hil))
 have hsz : vv.cells.size = P.cellsOf t := by rw [← hz, hcells.1]; simp
 have hlen : vv.cells.toList.length = (cellsA v).length := hcells.1.symm
 cases x with
 | lptr s c =>
  obtain ⟨bl, hm, rfl⟩ := hx.lptr_inv
  obtain ⟨cells, cs, ty, hg, hw, hp⟩ := hL s bl hm
  have h' : oelim (getL L s) fun cells => if c + (cellsA v).length ≤ cells.length then K (setL L s (splice cells c (cellsA v))) H else False := h
  rw [hg] at h'
  have h'' : if c + (cellsA v).length ≤ cells.length then K (setL L s (splice cells c (cellsA v))) H else False := h'
  split at h''
  case isFalse => exact h''.elim
  case isTrue hle =>
  have hcsl : cells.length = cs.size := by rw [hp.1]; simp
  have hrun := run_storeVar (P := P) (t := t) (o := c) hi hsz hw (by rw [← hcsl]; have : vv.cells.size = (cellsA v).length := by rw [← hlen]; simp
                                                                     omega) h1
  have hstep := Step.setRow hH (.inr ⟨s, hm⟩) (cs.toList.take c ++ vv.cells.toList ++ cs.toList.drop (c + vv.cells.toList.length)).toArray
  have hne : ∀ b c', E.m b = some (some c') → c' ≠ bl := fun b c' hb e => by subst e; exact hH.injHL b s c' hb hm
  refine ⟨_, _, _, h'', hrun, hstep, ?_, ?_, rfl⟩
  ·exact { hH with
    heap := fun b c' hb => by
     obtain ⟨blk, cs', ty', q1, q0, q2, q3, q4, q5, q6⟩ := hH.heap b c' hb
     refine ⟨blk, cs', ty', q1, q0, ?_, q3, q4, q5, fun i j row a hr hj => ?_⟩
     ·show (E.w.setRow bl _).heap[c']? = _
      rw [setRow_other _ _ _ _ (hne b c' hb)]; exact q2
     ·obtain ⟨u, hu, hr'⟩ := q6 i j row a hr hj
      exact ⟨u, hu, hr'.le hstep.le.noL⟩
    ltP := fun c' hc => by rw [show (E.w.setRow bl _).heap.size = _ from setRow_size _ _ _]; exact hH.ltP c' hc
    ltH := fun c' hc => by rw [show (E.w.setRow bl _).heap.size = _ from setRow_size _ _ _]; exact hH.ltH c' hc
    ltL := fun c' hc => by rw [show (E.w.setRow bl _).heap.size = _ from setRow_size _ _ _]; exact hH.ltL c' hc }
  ·intro t' c' hm'
   by_cases he : t' = s
   ·subst he
    obtain rfl : c' = bl := by
     have : E.mL t' = some c' := hm'
     rw [hm] at this; exact (Option.some.inj this).symm
    refine ⟨splice cells c (cellsA v), _, ty, ?_, setRow_heap _ _ _ _ _ _ hw, ?_⟩
    ·rw [getL_setL, if_pos rfl, hg]; rfl
    ·have := PW.splice (hp.mono fun _ _ k => k.le hstep.le.noL) (hn.mono fun _ _ k => k.le hstep.le.noL) hle
     simpa [splice] using this
   ·obtain ⟨cells', cs', ty', q1, q2, q3⟩ := hL t' c' hm'
    have hne' : c' ≠ bl := fun e => by subst e; exact he (hH.injL t' s c' hm' hm)
    refine ⟨cells', cs', ty', by rw [getL_setL, if_neg he]; exact q1, ?_, q3.mono fun _ _ k => k.le hstep.le.noL⟩
    show (E.w.setRow bl _).heap[c']? = _
    rw [setRow_other _ _ _ _ hne']; exact q2
 | ptr b g r c =>
  obtain ⟨blk, hb, hg, h2⟩ := oelim_inv (show oelim H[b]? fun blk => blk.gen = g ∧ oelim blk.rows[r]? fun row => c + (cellsA v).length ≤ row.length ∧ K L (H.set b { blk with rows := blk.rows.set r (splice row c (cellsA v)) }) from h)
  obtain ⟨row, hrow, hle, hK⟩ := oelim_inv h2
  have hgen := hH.gens b blk hb
  obtain ⟨bl, hm, rfl⟩ := hx.ptr_inv (hgen.trans hg)
  obtain ⟨blk', cs, ty, hb', hbs, hw, hcs, hcl, hrows⟩ := hH.heap b bl hm
  obtain rfl : blk = blk' := by rw [hb] at hb'; exact Option.some.inj hb'
  have hrl : row.length = E.sz b := hrows.1 r row hrow
  have hrlt : r < blk.rows.length := (List.getElem?_eq_some_iff.1 hrow).1
  have hbnd : r * E.sz b + E.sz b ≤ cs.size := by
   rw [hcs]; calc r * E.sz b + E.sz b = (r + 1) * E.sz b := by rw [Nat.add_mul, Nat.one_mul]
    _ ≤ E.cp b * E.sz b := Nat.mul_le_mul_right _ (by omega)
  have hvl : vv.cells.size = (cellsA v).length := by rw [← hlen]; simp
  have hrun := run_storeVar (P := P) (t := t) (o := r * E.sz b + c) hi hsz hw (by omega) h1
  have hstep := Step.setRow hH (.inl ⟨b, hm⟩) (cs.toList.take (r * E.sz b + c) ++ vv.cells.toList ++ cs.toList.drop (r * E.sz b + c + vv.cells.toList.length)).toArray
  have hblt : b < H.length := (List.getElem?_eq_some_iff.1 hb).1
  refine ⟨_, _, _, hK, hrun, hstep, ?_, ?_, rfl⟩
  ·exact { hH with
    heap := fun b2 c' hb2 => by
     by_cases he : b2 = b
     ·subst he
      obtain rfl : c' = bl := by
       have : E.m b2 = some (some c') := hb2
       rw [hm] at this; exact (Option.some.inj (Option.some.inj this)).symm
      refine ⟨{ blk with rows := blk.rows.set r (splice row c (cellsA v)) }, _, ty, by rw [List.getElem?_set_self hblt], hbs, setRow_heap _ _ _ _ _ _ hw, ?_, by simpa using hcl, ?_, ?_⟩
      ·simp; omega
      ·intro i row' hr'
       rw [List.getElem?_set] at hr'
       split at hr'
       ·rename_i hir
        cases hr'
        simp [splice]; omega
       ·exact hrows.1 i row' hr'
      ·intro i j row' a hr' ha
       have hij : ∀ k, (cs.toList.take (r * E.sz b2 + c) ++ vv.cells.toList ++ cs.toList.drop (r * E.sz b2 + c + vv.cells.toList.length)).toArray[k]? = if k < r * E.sz b2 + c then cs.toList[k]? else if k < r * E.sz b2 + c + vv.cells.toList.length then vv.cells.toList[k - (r * E.sz b2 + c)]? else cs.toList[k]? := by
        intro k
        rw [List.getElem?_toArray, splice_get (by simp; omega)]
       rw [List.getElem?_set] at hr'
       split at hr'
       ·rename_i hir
        cases hr'
        subst hir
        have hsp := splice_get hle j
        unfold splice at ha
        rw [hsp] at ha
        split at ha
        ·rename_i hj
         obtain ⟨u, hu, hru⟩ := hrows.2 r j row a hrow ha
         refine ⟨u, ?_, hru.le hstep.le.noL⟩
         show (List.toArray _)[r * E.sz b2 + j]? = _
         rw [hij, if_pos (by omega)]; simpa using hu
        ·rename_i hj
         split at ha
         ·rename_i hj2
          obtain ⟨u, hu, hru⟩ := hn.get ha
          refine ⟨u, ?_, hru.le hstep.le.noL⟩
          show (List.toArray _)[r * E.sz b2 + j]? = _
          rw [hij, if_neg (by omega), if_pos (by omega), show r * E.sz b2 + j - (r * E.sz b2 + c) = j - c by omega]; exact hu
         ·rename_i hj2
          obtain ⟨u, hu, hru⟩ := hrows.2 r j row a hrow ha
          refine ⟨u, ?_, hru.le hstep.le.noL⟩
          show (List.toArray _)[r * E.sz b2 + j]? = _
          rw [hij, if_neg (by omega), if_neg (by omega)]; simpa using hu
       ·rename_i hir
        have hjl : j < E.sz b2 := by rw [← hrows.1 i row' hr']; exact (List.getElem?_eq_some_iff.1 ha).1
        obtain ⟨u, hu, hru⟩ := hrows.2 i j row' a hr' ha
        refine ⟨u, ?_, hru.le hstep.le.noL⟩
        show (List.toArray _)[i * E.sz b2 + j]? = _
        rw [hij]
        rcases Nat.lt_or_ge i r with hlt | hge
        ·have : i * E.sz b2 + E.sz b2 ≤ r * E.sz b2 := by
          calc i * E.sz b2 + E.sz b2 = (i + 1) * E.sz b2 := by rw [Nat.add_mul, Nat.one_mul]
           _ ≤ r * E.sz b2 := Nat.mul_le_mul_right _ (by omega)
         rw [if_pos (by omega)]; simpa using hu
        ·have : r * E.sz b2 + E.sz b2 ≤ i * E.sz b2 := by
          calc r * E.sz b2 + E.sz b2 = (r + 1) * E.sz b2 := by rw [Nat.add_mul, Nat.one_mul]
           _ ≤ i * E.sz b2 := Nat.mul_le_mul_right _ (by omega)
         rw [if_neg (by omega), if_neg (by omega)]; simpa using hu
     ·obtain ⟨blk2, cs2, ty2, q1, q0, q2, q3, q4, q5, q6⟩ := hH.heap b2 c' hb2
      have hne : c' ≠ bl := fun e => by subst e; exact he (hH.injH b2 b c' hb2 hm)
      refine ⟨blk2, cs2, ty2, by rw [List.getElem?_set_ne (fun e => he e.symm)]; exact q1, q0, ?_, q3, q4, q5, fun i j row a hr hj => ?_⟩
      ·show (E.w.setRow bl _).heap[c']? = _
       rw [setRow_other _ _ _ _ hne]; exact q2
      ·obtain ⟨u, hu, hr'⟩ := q6 i j row a hr hj
       exact ⟨u, hu, hr'.le hstep.le.noL⟩
    gens := fun b2 blk2 hb2 => by
     by_cases he : b = b2
     ·subst he
      rw [List.getElem?_set_self hblt] at hb2
      cases hb2
      exact hH.gens b blk hb
     ·rw [List.getElem?_set_ne he] at hb2
      exact hH.gens b2 blk2 hb2
    nilb := fun b2 hb2 => by
     obtain ⟨blk2, q, qs⟩ := hH.nilb b2 hb2
     by_cases he : b = b2
     ·subst he
      rw [hm] at hb2; cases hb2
     ·exact ⟨blk2, by rw [List.getElem?_set_ne he]; exact q, qs⟩
    fresh := fun b2 hb2 => hH.fresh b2 (by simpa using hb2)
    ltP := fun c' hc => by rw [show (E.w.setRow bl _).heap.size = _ from setRow_size _ _ _]; exact hH.ltP c' hc
    ltH := fun c' hc => by rw [show (E.w.setRow bl _).heap.size = _ from setRow_size _ _ _]; exact hH.ltH c' hc
    ltL := fun c' hc => by rw [show (E.w.setRow bl _).heap.size = _ from setRow_size _ _ _]; exact hH.ltL c' hc }
  ·intro t' c' hm'
   obtain ⟨cells', cs', ty', q1, q2, q3⟩ := hL t' c' hm'
   have hne' : c' ≠ bl := fun e => by subst e; exact hH.injHL b t' c' hm hm'
   refine ⟨cells', cs', ty', q1, ?_, q3.mono fun _ _ k => k.le hstep.le.noL⟩
   show (E.w.setRow bl _).heap[c']? = _
   rw [setRow_other _ _ _ _ hne']; exact q2
 | _ => exact h.elim
end Go.Proofs.Ytglpfccgmfhkdaa.Fw
