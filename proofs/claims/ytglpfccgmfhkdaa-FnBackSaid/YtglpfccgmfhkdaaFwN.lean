/- The framework, part N: variables and blocks that come to be; slices that are made; a call that answers with blocks of its own; a call that writes. -/

import Derived.Test.YtglpfccgmfhkdaaFwM
set_option linter.unusedVariables false
namespace Go.Proofs.Ytglpfccgmfhkdaa.Fw
open Go
def ENext (E : Env) (o : Oper) (a : Act) (K : AV → List (Nat × List AV) → List Blk → Prop) : Act → World → Prop := fun a' w' =>
 ∃ v u L' H' E', K v L' H' ∧ E'.w = w' ∧ Step E E' ∧ SimH E' H' ∧ SimL E' L' ∧ V3 E' v u ∧ a' = a.put o.dst u ∧ ∀ t, o.dst ≠ some t → E'.mL t = E.mL t
def boxOf : List Nat → Nat → Option Nat
 | [], _ => none
 | x :: r, t => match Nat.ble 2000000 x with
  | true => (match Nat.beq ((x - 2000000) % 1000) t with
   | true => some ((x - 2000000) / 1000)
   | false => boxOf r t)
  | false => boxOf r t
def newA (esc : List Nat) (dst : Option Nat) (cells : List AV) (L : List (Nat × List AV)) (H : List Blk) (K : AV → List (Nat × List AV) → List Blk → Prop) : Prop :=
 if cells.all sto1 = true then match dst with
  | none => False
  | some t => match boxOf esc t with
   | some j => oelim H[j]? fun blk => K (.ptr j (blk.gen + 1) 0 0) L (H.set j ⟨blk.gen + 1, cells.length, [cells]⟩)
   | none => if esc.contains t = true then K (.ptr H.length 0 0 0) L (H ++ [⟨0, cells.length, [cells]⟩]) else
    match getL L t with
    | none => K (.lptr t 0) ((t, cells) :: L) H
    | some _ => False
 else False
theorem SimL.none {E : Env} {L : List (Nat × List AV)} (h : SimL E L) {t : Nat} (hn : getL L t = none) : E.mL t = none := by
 cases hm : E.mL t with
 | none => rfl
 | some c =>
  obtain ⟨cells, cs, ty, h1, _⟩ := h t c hm
  rw [hn] at h1; cases h1
theorem sto1_noL' {E : Env} {cells : List AV} {vs : List Value} (hs : cells.all sto1 = true) (h : PW (V1 E) cells vs) : PW (V1 E.noL) cells vs :=
 ⟨h.1, fun i a v ha hv => sto1_noL (List.all_eq_true.1 hs a (List.mem_of_getElem? ha)) (h.2 i a v ha hv)⟩
theorem new_sound {E : Env} {H : List Blk} {L : List (Nat × List AV)} {esc : List Nat} {dst : Option Nat} {cells : List AV} {cs : Array Value} {ty : TypeId} {K : AV → List (Nat × List AV) → List Blk → Prop}
  (hH : SimH E H) (hL : SimL E L) (hc : PW (V1 E) cells cs.toList) (h : newA esc dst cells L H K) :
  ∃ v L' H' E', K v L' H' ∧ E'.w = E.w.alloc (.cells cs ty (0, 0)) ∧ Step E E' ∧ SimH E' H' ∧ SimL E' L' ∧ V3 E' v (.pointer (some ⟨E.w.heap.size, 0, none⟩)) ∧ ∀ s, dst ≠ some s → E'.mL s = E.mL s := by
 unfold newA at h
 split at h
 case isFalse => exact h.elim
 case isTrue hs =>
 have hc' := sto1_noL' hs hc
 cases dst with
 | none => exact h.elim
 | some t =>
  have h : match boxOf esc t with
   | some j => oelim H[j]? fun blk => K (.ptr j (blk.gen + 1) 0 0) L (H.set j ⟨blk.gen + 1, cells.length, [cells]⟩)
   | none => if esc.contains t = true then K (.ptr H.length 0 0 0) L (H ++ [⟨0, cells.length, [cells]⟩]) else (match getL L t with
    | none => K (.lptr t 0) ((t, cells) :: L) H
    | some _ => False) := h
  split at h
  ·rename_i j hbx
   obtain ⟨blk, hbj, hK⟩ := oelim_inv h
   have hjl := (List.getElem?_eq_some_iff.1 hbj).1
   have hgj := hH.gens j blk hbj
   have hlen : cs.size = cells.length := by have := hc.1; simp at this; exact this.symm
   obtain ⟨E', e1, e2, e3, e4, e5, e6, e7, e8, _, hml⟩ := newH_sound (H := H) (H' := H.set j ⟨blk.gen + 1, cells.length, [cells]⟩) (b := j) (cap := 1) (blk := ⟨blk.gen + 1, cells.length, [cells]⟩) hH hL (NewBlk.alloc E.w (.cells cs ty (0, 0)))
    (by rw [List.getElem?_set]; simp [hjl]) (fun b' hb' => by rw [List.getElem?_set, if_neg (fun e => hb' e.symm)]) (fun _ => by simp) (by simp) (.inr (by show E.gen j < blk.gen + 1; omega)) (by simp [hlen]) (by simp)
    ⟨fun i row hr => by
      cases i with
      | zero => simp at hr; subst hr; rfl
      | succ i => simp at hr,
     fun i j row a hr hj => by
      cases i with
      | zero =>
       simp at hr; subst hr
       obtain ⟨u, hu, hv⟩ := hc'.get hj
       exact ⟨u, by simpa using hu, hv⟩
      | succ i => simp at hr⟩
   refine ⟨_, _, _, E', hK, e1, e2, e3, e4, .inr ⟨e5.symm, E.w.heap.size, e6, ?_⟩, fun s _ => by rw [hml]⟩
   rw [Nat.zero_mul]
  split at h
  ·have hlen : cs.size = cells.length := by have := hc.1; simp at this; exact this.symm
   have hHx : SimH E (H ++ [⟨0, cells.length, [cells]⟩]) := hH.snoc rfl
   obtain ⟨hm0, hg0⟩ := hH.fresh H.length (Nat.le_refl _)
   obtain ⟨E', e1, e2, e3, e4, e5, e6, e7, e8, _, hml⟩ := newH_sound (H := H ++ [⟨0, cells.length, [cells]⟩]) (H' := H ++ [⟨0, cells.length, [cells]⟩]) (b := H.length) (cap := 1) (blk := ⟨0, cells.length, [cells]⟩) hHx hL (NewBlk.alloc E.w (.cells cs ty (0, 0)))
    (by simp) (fun _ _ => rfl) (fun _ => rfl) (Nat.le_refl _) (.inl ⟨hm0, hg0.symm⟩) (by simp [hlen]) (by simp)
    ⟨fun i row hr => by
      cases i with
      | zero => simp at hr; subst hr; rfl
      | succ i => simp at hr,
     fun i j row a hr hj => by
      cases i with
      | zero =>
       simp at hr; subst hr
       obtain ⟨u, hu, hv⟩ := hc'.get hj
       exact ⟨u, by simpa using hu, hv⟩
      | succ i => simp at hr⟩
   refine ⟨_, _, _, E', h, e1, e2, e3, e4, .inr ⟨e5.symm, E.w.heap.size, e6, ?_⟩, fun s _ => by rw [hml]⟩
   rw [Nat.zero_mul]
  ·cases hg : getL L t with
   | some x => rw [hg] at h; exact h.elim
   | none =>
    rw [hg] at h
    have hm := hL.none hg
    obtain ⟨E', e1, e2, e3, e4, e5, _, hml⟩ := newL_sound (L := (t, cells) :: L) (t := t) (cells := cells) hH (hL.cons hm) (NewBlk.alloc E.w (.cells cs ty (0, 0))) (by simp [getL]) hm hc'
    exact ⟨_, _, _, E', h, e1, e2, e3, e4, e5, fun s hs => hml s fun e => hs (by rw [e])⟩
def unfl : AV → AV
 | .lst rows _ fr => .lst rows false fr
 | a => a
theorem V1.unfl {E : Env} {a : AV} {v : Value} (h : V1 E a v) : V1 E (unfl a) v := by
 cases a with
 | lst rows full fr =>
  have h : RV E.w E.PA E.PF (.lst rows full fr) v := h
  cases h with
  | lst hPB hcap hfull hsz hcell hrel => exact RV.lst hPB hcap (fun h => by cases h) hsz hcell hrel
 | _ => exact h
theorem PW.unfl {E : Env} {l : List AV} {m : List Value} (h : PW (V1 E) l m) : PW (V1 E) (l.map unfl) m := by
 refine ⟨by rw [List.length_map]; exact h.1, fun i a v ha hv => ?_⟩
 rw [List.getElem?_map] at ha
 cases hl : l[i]? with
 | none => rw [hl] at ha; cases ha
 | some b => rw [hl] at ha; cases ha; exact (h.2 i b v hl hv).unfl
def mksA (P : Program) (t : TypeId) (l c : AV) (L : List (Nat × List AV)) (H : List Blk) (K : AV → List (Nat × List AV) → List Blk → Prop) : Prop :=
 oelim (elemT P t) fun e => oelim (zeroA P e) fun z => if z.length = P.cellsOf e ∧ z.all sto1 = true then match l, c with
  | .int _ l, .int _ c => 0 ≤ l ∧ l ≤ c ∧ (P.bytesOf e : Int) * c ≤ 140737488355328 ∧ c ≤ 4611686018427387904 ∧ K (.ref H.length 0 0 l.toNat false) L (H ++ [⟨0, z.length, List.replicate l.toNat (z.map unfl)⟩])
  | _, _ => False
 else False
theorem madeCells_get (z : Array Value) (n k : Nat) (hk : k < n) : (madeCells z n)[k]? = some (z[k % z.size]!) := by
 simp [madeCells, hk]
theorem mks_sound {P : Program} {E : Env} {H : List Blk} {L : List (Nat × List AV)} {t : TypeId} {l c : AV} {lv cv' : Value} {K : AV → List (Nat × List AV) → List Blk → Prop}
  (hH : SimH E H) (hL : SimL E L) (hl : V3 E l lv) (hc : V3 E c cv') (h : mksA P t l c L H K) :
  ∃ v L' H' E' u, K v L' H' ∧ (Instr.makeSlice t lv cv').run P E.w = .ok u E'.w ∧ Step E E' ∧ SimH E' H' ∧ SimL E' L' ∧ V3 E' v u ∧ E'.mL = E.mL := by
 obtain ⟨e, he, h⟩ := oelim_inv h
 obtain ⟨z, hz, h⟩ := oelim_inv h
 split at h
 case isFalse => exact h.elim
 case isTrue hb =>
 obtain ⟨hzl, hzs⟩ := hb
 cases l with
 | int kl l =>
  cases c with
  | int kc c =>
   obtain ⟨h0, h1, h2, h3, hK⟩ := (show 0 ≤ l ∧ l ≤ c ∧ (P.bytesOf e : Int) * c ≤ 140737488355328 ∧ c ≤ 4611686018427387904 ∧ K (.ref H.length 0 0 l.toNat false) L (H ++ [⟨0, z.length, List.replicate l.toNat (z.map unfl)⟩]) from h)
   obtain rfl := hl.int_inv
   obtain rfl := hc.int_inv
   obtain ⟨i, v, q1, q2, q3, q4⟩ := zero_rel (E := E) hz
   have hq := (sto1_noL' hzs q4).unfl
   have hzv : v.cells.size = z.length := by rw [q3]; simp
   have hisz : i.size = z.length := by rw [hzl]; simp [Program.cellsOf, q1]
   have hby : P.bytesOf e = i.bytes := by simp [Program.bytesOf, q1]
   have hu := elemT_spec he
   have hrun := run_make (P := P) E.w t e i v hu q1 q2 kl kc l c h0 h1 (by rw [hby] at h2; omega) (by omega)
   have hHx : SimH E (H ++ [⟨0, z.length, List.replicate l.toNat (z.map unfl)⟩]) := hH.snoc rfl
   obtain ⟨hm0, hg0⟩ := hH.fresh H.length (Nat.le_refl _)
   have hlc : l.toNat ≤ c.toNat := by omega
   obtain ⟨E', e1, e2, e3, e4, e5, e6, e7, e8, _, hml⟩ := newH_sound (H := H ++ [⟨0, z.length, List.replicate l.toNat (z.map unfl)⟩]) (H' := H ++ [⟨0, z.length, List.replicate l.toNat (z.map unfl)⟩]) (b := H.length) (cap := c.toNat) (blk := ⟨0, z.length, List.replicate l.toNat (z.map unfl)⟩) hHx hL (NewBlk.alloc E.w (.cells (madeCells v.cells (c.toNat * i.size)) e (0, 0)))
    (by simp) (fun _ _ => rfl) (fun _ => rfl) (Nat.le_refl _) (.inl ⟨hm0, hg0.symm⟩) (by rw [size_madeCells, hisz]) (by simpa using hlc)
    ⟨fun i' row hr => by
      have hr : (List.replicate l.toNat (z.map unfl))[i']? = some row := hr
      rw [List.getElem?_replicate] at hr
      split at hr
      ·cases hr; exact List.length_map ..
      ·exact absurd hr (fun h => by cases h),
     fun i' j row a hr hj => by
      have hr : (List.replicate l.toNat (z.map unfl))[i']? = some row := hr
      rw [List.getElem?_replicate] at hr
      split at hr
      ·rename_i hi
       cases hr
       have hj2 := (List.getElem?_eq_some_iff.1 hj).1
       rw [List.length_map] at hj2
       obtain ⟨u, hu, hv⟩ := hq.get hj
       refine ⟨u, ?_, hv⟩
       have hlt : i' * z.length + j < c.toNat * z.length := by
        calc i' * z.length + j < i' * z.length + z.length := by omega
         _ = (i' + 1) * z.length := by rw [Nat.add_mul, Nat.one_mul]
         _ ≤ c.toNat * z.length := Nat.mul_le_mul_right _ (by omega)
       show (madeCells v.cells (c.toNat * i.size))[i' * z.length + j]? = _
       rw [hisz, madeCells_get _ _ _ hlt, hzv, show (i' * z.length + j) % z.length = j by rw [Nat.mul_comm, Nat.mul_add_mod, Nat.mod_eq_of_lt hj2], ← hu, Array.getElem?_toList, getElem!_pos v.cells j (by omega), Array.getElem?_eq_getElem]
      ·exact absurd hr (fun h => by cases h)⟩
   refine ⟨_, _, _, E', _, hK, by rw [hrun, e1], e2, e3, e4, .inr ⟨e5.symm, .inr ⟨E.w.heap.size, c.toNat, e6, by rw [Nat.zero_mul], hlc, (fun h => by cases h), by rw [e8]; omega⟩⟩, hml⟩
  | _ => exact h.elim
 | _ => exact h.elim
def scrOf : List Nat → Option Nat
 | [] => none
 | x :: r => match Nat.ble 1000000 x with
  | true => some (x - 1000000)
  | false => scrOf r
def litB (scr : Option Nat) (fl : Bool) (n sz : Nat) (rows : List (List AV)) (L : List (Nat × List AV)) (H : List Blk) (K : AV → List (Nat × List AV) → List Blk → Prop) : Prop := match scr with
 | none => K (.ref H.length 0 0 n fl) L (H ++ [⟨0, sz, rows⟩])
 | some j => oelim H[j]? fun blk => K (.ref j (blk.gen + 1) 0 n true) L (H.set j ⟨blk.gen + 1, sz, rows⟩)
def frc (esc : List Nat) (dst : Option Nat) : Bool := match dst with
 | none => false
 | some d => esc.any fun x => Nat.beq x (500000 + d)
def bslH (P : Program) (fr : Bool) (scr : Option Nat) (t : TypeId) (n : Nat) (parts : List (Nat × AV)) (L : List (Nat × List AV)) (H : List Blk) (K : AV → List (Nat × List AV) → List Blk → Prop) : Prop :=
 oelim (elemT P t) fun e => oelim (zeroA P e) fun z => if z.length = P.cellsOf e ∧ n * z.length ≤ 1000000 ∧ n ≤ 1000000 then
  oelim (fillA (fun i => some (i * z.length, z.length)) ((List.range (n * z.length)).map fun i => z.getD (i % z.length) .undef) parts) fun cells =>
   if (bif fr then false else cells.all byv0) = true then K (.lst (chunk z.length n (cells.map unfr)) true (cells.all frs)) L H else
   if cells.all sto1 = true then litB scr (!fr) n z.length (chunk z.length n cells) L H K else False
 else False
theorem chunk_len {size n i : Nat} {cells row : List AV} (hl : cells.length = n * size) (hr : (chunk size n cells)[i]? = some row) : row.length = size := by
 unfold chunk at hr
 rw [List.getElem?_map] at hr
 cases hq : (List.range n)[i]? with
 | none => rw [hq] at hr; cases hr
 | some k =>
  have hk := (List.getElem?_eq_some_iff.1 hq).1
  have hi : k = i := by have := (List.getElem?_eq_some_iff.1 hq).2; simpa using this.symm
  rw [hq] at hr; cases hr
  simp only [List.length_take, List.length_drop]
  have hin : i < n := by simpa using hk
  rw [hl, hi]
  have : (i + 1) * size ≤ n * size := Nat.mul_le_mul_right _ hin
  rw [Nat.add_mul, Nat.one_mul] at this
  omega
theorem bslH_sound {P : Program} {fr : Bool} {scr : Option Nat} {E : Env} {H : List Blk} {L : List (Nat × List AV)} {t : TypeId} {n : Nat} {parts : List (Nat × AV)} {vparts : List (Nat × Value)} {K : AV → List (Nat × List AV) → List Blk → Prop} (hH : SimH E H) (hL : SimL E L)
  (hp : PW (fun a b => a.1 = b.1 ∧ V2 E a.2 b.2) parts vparts) (h : bslH P fr scr t n parts L H K) :
  ∃ v u L' H' E', K v L' H' ∧ (Instr.buildSlice t n vparts.toArray).run P E.w = .ok u E'.w ∧ Step E E' ∧ SimH E' H' ∧ SimL E' L' ∧ V3 E' v u ∧ E'.mL = E.mL := by
 obtain ⟨e, he, h⟩ := oelim_inv h
 obtain ⟨z, hz, h⟩ := oelim_inv h
 split at h
 case isFalse => exact h.elim
 case isTrue hb =>
 obtain ⟨cells, hf, h⟩ := oelim_inv h
 split at h
 case isTrue hby =>
  have hby : cells.all byv0 = true := by cases fr with
   | true => cases hby
   | false => exact hby
  have hv : bslA P t n parts (fun r => K r L H) := by
   refine oelim_mk he (oelim_mk hz ?_)
   rw [if_pos hb]
   refine oelim_mk hf ?_
   rw [if_pos hby]; exact h
  obtain ⟨r, u, E', hK, hr, hq, h3⟩ := bsl_sound hH hp hv
  exact ⟨r, u, L, H, E', hK, hr, hq.step, hq.simH hH, hq.simL hH hL, h3, hq.mL⟩
 case isFalse =>
 split at h
 case isFalse => exact h.elim
 case isTrue hs =>
 obtain ⟨rc, hrel, hrun, hlen⟩ := bsl_run hp he hz hb.1 hb.2 hf
 have hcl : (chunk z.length n cells).length = n := by simp [chunk]
 have hrs : rc.size = n * z.length := by have := hrel.1; simp at this; omega
 have hra : RowsAt E z.length (chunk z.length n cells) rc := ⟨fun i row hr => chunk_len hlen hr, fun i j row a hr hj => by
   obtain ⟨hi, hj2, hc⟩ := chunk_get hr hj
   obtain ⟨u, hu, hv⟩ := hrel.get hc
   exact ⟨u, by rw [Array.getElem?_toList] at hu; exact hu, hv⟩⟩
 cases scr with
 | none =>
  have hHx : SimH E (H ++ [⟨0, z.length, chunk z.length n cells⟩]) := hH.snoc rfl
  obtain ⟨hm0, hg0⟩ := hH.fresh H.length (Nat.le_refl _)
  obtain ⟨E', e1, e2, e3, e4, e5, e6, e7, e8, _, hml⟩ := newH_sound (H := H ++ [⟨0, z.length, chunk z.length n cells⟩]) (H' := H ++ [⟨0, z.length, chunk z.length n cells⟩]) (b := H.length) (cap := n) (blk := ⟨0, z.length, chunk z.length n cells⟩) hHx hL (NewBlk.alloc E.w (.cells rc e (0, 0)))
   (by simp) (fun _ _ => rfl) (fun _ => rfl) (Nat.le_refl _) (.inl ⟨hm0, hg0.symm⟩) hrs (by rw [hcl]; exact Nat.le_refl _) hra
  exact ⟨_, _, _, _, E', h, by rw [hrun, e1], e2, e3, e4, .inr ⟨e5.symm, .inr ⟨E.w.heap.size, n, e6, by rw [Nat.zero_mul], Nat.le_refl _, (fun _ => rfl), by rw [e8]; omega⟩⟩, hml⟩
 | some j =>
  obtain ⟨blk, hbj, hK⟩ := oelim_inv (show oelim H[j]? fun blk => K (.ref j (blk.gen + 1) 0 n true) L (H.set j ⟨blk.gen + 1, z.length, chunk z.length n cells⟩) from h)
  have hjl := (List.getElem?_eq_some_iff.1 hbj).1
  have hgj := hH.gens j blk hbj
  obtain ⟨E', e1, e2, e3, e4, e5, e6, e7, e8, _, hml⟩ := newH_sound (H := H) (H' := H.set j ⟨blk.gen + 1, z.length, chunk z.length n cells⟩) (b := j) (cap := n) (blk := ⟨blk.gen + 1, z.length, chunk z.length n cells⟩) hH hL (NewBlk.alloc E.w (.cells rc e (0, 0)))
   (by rw [List.getElem?_set]; simp [hjl]) (fun b' hb' => by rw [List.getElem?_set, if_neg (fun e => hb' e.symm)]) (fun _ => by simp) (by simp) (.inr (by show E.gen j < blk.gen + 1; omega)) hrs (by rw [hcl]; exact Nat.le_refl _) hra
  exact ⟨_, _, _, _, E', hK, by rw [hrun, e1], e2, e3, e4, .inr ⟨e5.symm, .inr ⟨E.w.heap.size, n, e6, by rw [Nat.zero_mul], Nat.le_refl _, (fun _ => rfl), by rw [e8]; omega⟩⟩, hml⟩
end Go.Proofs.Ytglpfccgmfhkdaa.Fw
