/- The framework, part X: a region whose order is left open: whatever order is drawn, it ends as it is told. -/

import Derived.Test.YtglpfccgmfhkdaaFwW
set_option linter.unusedVariables false
namespace Go.Proofs.Ytglpfccgmfhkdaa.Fw
open Go
def BarOk (A : Nat → List Nat) : List Item → List Item → Prop
 | _, [] => True
 | p, h :: r => (h.q = false → (∀ y ∈ r, h.i ∈ A y.i) ∧ ∀ x ∈ p, x.i ∈ A h.i ∨ x.i ∈ h.fl) ∧ BarOk A (p ++ [h]) r
theorem BarOk.at {A : Nat → List Nat} : ∀ {pre p : List Item} {h : Item} {r : List Item}, BarOk A p (pre ++ h :: r) → h.q = false → (∀ y ∈ r, h.i ∈ A y.i) ∧ ∀ x ∈ p ++ pre, x.i ∈ A h.i ∨ x.i ∈ h.fl
 | [], p, h, r, hb, hq => by
  rw [List.append_nil]; exact hb.1 hq
 | x :: pre, p, h, r, hb, hq => by
  have := BarOk.at (pre := pre) (p := p ++ [x]) hb.2 hq
  simpa using this
structure DrawOk (ops : Array Oper) (ord : List Item) (A : Nat → List Nat) : Prop where
 back : ∀ i o, ops[i]? = some o → ∀ e ∈ o.after, Region.binds .any e = true → e.on < i
 anc : ∀ i o, ops[i]? = some o → ∀ a ∈ A i, ∃ e ∈ o.after, Region.binds .any e = true ∧ (a = e.on ∨ a ∈ A e.on)
 all : ∀ i, i < ops.size → ∃ x ∈ ord, x.i = i
 lt : ∀ x ∈ ord, x.i < ops.size
 nodup : (ord.map (·.i)).Nodup
 use : ∀ x ∈ ord, ∀ t ∈ (opI ops x.i).looksAt ops, ∀ y ∈ ord, (opI ops y.i).dst = some t → y.i ∈ A x.i
 apart : Apart ops ord
 bar : BarOk A [] ord
theorem Apart.tail {ops : Array Oper} : ∀ {p r : List Item}, Apart ops (p ++ r) → Apart ops r
 | [], _, h => h
 | _ :: p, _, h => Apart.tail (p := p) h.2.2
theorem Apart.later {ops : Array Oper} : ∀ {p r : List Item}, Apart ops (p ++ r) → ∀ x ∈ p, (∀ t ∈ (opI ops x.i).looksAt ops, ∀ y ∈ r, (opI ops y.i).dst ≠ some t) ∧ ∀ d, (opI ops x.i).dst = some d → ∀ y ∈ r, (opI ops y.i).dst ≠ some d
 | [], _, _, x, hx => by cases hx
 | z :: p, r, h, x, hx => by
  rcases List.mem_cons.1 hx with rfl | hx
  ·exact ⟨fun t ht y hy => h.1 t ht y (List.mem_cons_of_mem _ (List.mem_append_right _ hy)), fun d hd y hy => h.2.1 d hd y (List.mem_append_right _ hy)⟩
  ·exact Apart.later (p := p) h.2.2 x hx
theorem Apart.inj {ops : Array Oper} : ∀ {l : List Item}, Apart ops l → ∀ x ∈ l, ∀ y ∈ l, x.i ≠ y.i → ∀ d, (opI ops x.i).dst = some d → (opI ops y.i).dst ≠ some d
 | [], _, x, hx, _, _, _, _, _ => by cases hx
 | z :: r, h, x, hx, y, hy, hne, d, hd => by
  rcases List.mem_cons.1 hx with ex | kx
  ·rcases List.mem_cons.1 hy with ey | ky
   ·exact absurd (by rw [ex, ey]) hne
   ·exact h.2.1 d (by rw [← ex]; exact hd) y ky
  ·rcases List.mem_cons.1 hy with ey | ky
   ·exact fun e => h.2.1 d (by rw [← ey]; exact e) x kx hd
   ·exact Apart.inj h.2.2 x kx y ky hne d hd
theorem opI_get {ops : Array Oper} {i : Nat} (h : i < ops.size) : ops[i]? = some (opI ops i) := by
 unfold opI
 rw [Array.getElem?_eq_getElem h, Array.getD_eq_getD_getElem?, Array.getElem?_eq_getElem h]; rfl
def Closed (ops : Array Oper) (S : Array Bool) : Prop := ∀ i o, ops[i]? = some o → S.getD i false = true → ∀ e ∈ o.after, Region.binds .any e = true → S.getD e.on false = true
theorem anc_in {ops : Array Oper} {ord : List Item} {A : Nat → List Nat} (D : DrawOk ops ord A) {S : Array Bool} (hs : S.size = ops.size) (hc : Closed ops S) : ∀ (i : Nat) o, ops[i]? = some o → (∀ e ∈ o.after, Region.binds .any e = true → S.getD e.on false = true) → ∀ a ∈ A i, S.getD a false = true := by
 intro i
 induction i using Nat.strongRecOn with
 | _ i ih =>
  intro o ho hr a ha
  obtain ⟨e, he, hb, hor⟩ := D.anc i o ho a ha
  have hon := hr e he hb
  rcases hor with rfl | hor
  ·exact hon
  ·have hlt := D.back i o ho e he hb
   have hsz : e.on < ops.size := by
    rcases Nat.lt_or_ge e.on ops.size with h | h
    ·exact h
    ·rw [Array.getD_eq_getD_getElem?, Array.getElem?_eq_none (by omega)] at hon; cases hon
   exact ih e.on hlt _ (opI_get hsz) (fun e' he' hb' => hc e.on _ (opI_get hsz) hon e' he' hb') a hor
theorem ready_mem {ops : Array Oper} {S : Array Bool} (hs : S.size = ops.size) {i : Nat} (h : i ∈ Region.ready .any ops S) : i < ops.size ∧ S.getD i false = false ∧ ∀ e ∈ (opI ops i).after, Region.binds .any e = true → S.getD e.on false = true := by
 unfold Region.ready at h
 rw [List.mem_filter, List.mem_range] at h
 obtain ⟨hlt, h⟩ := h
 rw [opI_get hlt] at h
 simp only [Option.map_some, Option.getD_some, Bool.and_eq_true, Bool.not_eq_true', Array.all_eq_true_iff_forall_mem] at h
 obtain ⟨h1, h2⟩ := h
 refine ⟨hlt, ?_, fun e he hb => ?_⟩
 ·rw [Array.getD_eq_getD_getElem?, Array.getElem?_eq_getElem (by omega)] at h1 ⊢; exact h1
 ·have := h2 e he
  rw [hb] at this; simpa using this
theorem ready_nil {ops : Array Oper} {ord : List Item} {A : Nat → List Nat} (D : DrawOk ops ord A) {S : Array Bool} (hs : S.size = ops.size) (h : Region.ready .any ops S = []) : ∀ i, i < ops.size → S.getD i false = true := by
 intro i
 induction i using Nat.strongRecOn with
 | _ i ih =>
  intro hlt
  cases hq : S.getD i false with
  | true => rfl
  | false =>
   exfalso
   have : i ∈ Region.ready .any ops S := by
    unfold Region.ready
    rw [List.mem_filter, List.mem_range]
    refine ⟨hlt, ?_⟩
    rw [opI_get hlt]
    simp only [Option.map_some, Option.getD_some, Bool.and_eq_true, Bool.not_eq_true', Array.all_eq_true_iff_forall_mem]
    refine ⟨?_, fun e he => ?_⟩
    ·rw [Array.getD_eq_getD_getElem?, Array.getElem?_eq_getElem (by omega)] at hq ⊢; exact hq
    ·cases hb : Region.binds .any e with
     | false => rfl
     | true => 
      have hl := D.back i _ (opI_get hlt) e he hb
      simpa using ih e.on hl (by omega)
   rw [h] at this; cases this
theorem countP_one {α : Type} (p p' : α → Bool) (j : α) (hp : p j = true) (hp' : p' j = false) (hk : ∀ k, k ≠ j → p k = p' k) : ∀ l : List α, l.Nodup → j ∈ l → l.countP p = l.countP p' + 1
 | [], _, h => by cases h
 | k :: l, hn, h => by
  rw [List.nodup_cons] at hn
  by_cases hkj : k = j
  ·subst hkj
   rw [List.countP_cons_of_pos hp, List.countP_cons_of_neg (by simp [hp'])]
   congr 1
   refine List.countP_congr fun x hx => ?_
   rw [hk x (fun e => hn.1 (e ▸ hx))]
  ·have hj : j ∈ l := (List.mem_cons.1 h).resolve_left fun e => hkj e.symm
   have ih := countP_one p p' j hp hp' hk l hn.2 hj
   rw [List.countP_cons, List.countP_cons, hk k hkj, ih]; omega
def left (n : Nat) (S : Array Bool) : Nat := (List.range n).countP fun j => !S.getD j false
theorem getD_set' {S : Array Bool} {i j : Nat} : (S.setIfInBounds i true).getD j false = if i = j ∧ i < S.size then true else S.getD j false := by
 rw [Array.getD_eq_getD_getElem?, Array.getD_eq_getD_getElem?, Array.getElem?_setIfInBounds]
 by_cases h : i = j
 ·subst h
  by_cases hl : i < S.size
  ·simp [hl]
  ·simp [hl]
 ·simp [h]
theorem left_set {n : Nat} {S : Array Bool} {i : Nat} (hs : S.size = n) (hi : i < n) (h : S.getD i false = false) : left n S = left n (S.setIfInBounds i true) + 1 := by
 refine countP_one _ _ i (by simp [h]) ?_ (fun k hk => ?_) _ List.nodup_range (List.mem_range.2 hi)
 ·rw [getD_set', if_pos ⟨rfl, by omega⟩]; rfl
 ·rw [getD_set', if_neg (fun e => hk e.1.symm)]
theorem left_zero {n : Nat} {S : Array Bool} (h : left n S = 0) : ∀ i, i < n → S.getD i false = true := fun i hi => by
 have := (List.countP_eq_zero.1 h) i (List.mem_range.2 hi)
 simpa using this
def hide : List Nat → List AV → List AV
 | [], T => T
 | d :: ds, T => hide ds (T.set d .undef)
theorem hide_get : ∀ (ds : List Nat) (T : List AV) (t : Nat), (t ∈ ds → (hide ds T).getD t .undef = .undef) ∧ (t ∉ ds → (hide ds T).getD t .undef = T.getD t .undef)
 | [], T, t => ⟨fun h => (by cases h), fun _ => rfl⟩
 | d :: ds, T, t => by
  obtain ⟨h1, h2⟩ := hide_get ds (T.set d .undef) t
  refine ⟨fun h => ?_, fun h => ?_⟩
  ·by_cases hd : t ∈ ds
   ·exact h1 hd
   ·have e : t = d := (List.mem_cons.1 h).resolve_right hd
    show (hide ds (T.set d .undef)).getD t .undef = .undef
    rw [h2 hd, getD_set]
    by_cases hl : d = t ∧ d < T.length
    ·rw [if_pos hl]
    ·rw [if_neg hl, List.getD_eq_getElem?_getD, List.getElem?_eq_none (by rcases Nat.lt_or_ge d T.length with q | q; exact absurd ⟨e.symm, q⟩ hl; omega)]; rfl
  ·show (hide ds (T.set d .undef)).getD t .undef = _
   rw [h2 fun hm => h (List.mem_cons_of_mem _ hm), getD_set, if_neg fun hm => h (by rw [hm.1]; exact List.mem_cons_self ..)]
section
variable {P : Program} {esc : List Nat} {ops : Array Oper} {ord : List Item} {A : Nat → List Nat} {Q : Exit → St → Prop} {E0 : Env}
structure DInv (P : Program) (esc : List Nat) (ops : Array Oper) (ord : List Item) (Q : Exit → St → Prop) (E0 : Env) (S : Array Bool) (a : Act) (w : World) (pre post : List Item) (E : Env) (T : List AV) (L : List (Nat × List AV)) (H : List Blk) : Prop where
 oe : ord = pre ++ post
 undone : ∀ x ∈ post, S.getD x.i false = false
 head : ∀ x r, post = x :: r → x.q = false
 ev : evOpsD P esc ops post T L H (fun T L H => Q .normal ⟨T, L, H⟩)
 facts : ∀ x ∈ pre, S.getD x.i false = false → x.q = true ∧ ∃ v run, Fact P ops L H T (opI ops x.i) v run
 slots : ∀ t, (∃ x ∈ pre, S.getD x.i false = false ∧ (opI ops x.i).dst = some t) ∨ V3 E (T.getD t .undef) (a.tmps.getD t undef)
 size : T.length = a.tmps.size
 h : SimH E H
 l : SimL E L
 good : Good E0 E
 al : ∀ x ∈ ord, S.getD x.i false = false → isAl (opI ops x.i) = true → x.q = true → ∀ d, (opI ops x.i).dst = some d → E.mL d = none
 def0 : a.defers = []
 w : E.w = w
theorem put_get {a : Act} {d : Option Nat} {u : Value} {t : Nat} (h : d ≠ some t) : (a.put d u).tmps.getD t undef = a.tmps.getD t undef := by
 cases d with
 | none => rfl
 | some s =>
  show (a.tmps.setIfInBounds s u).getD t undef = _
  rw [Array.getD_eq_getD_getElem?, Array.getD_eq_getD_getElem?, Array.getElem?_setIfInBounds_ne (fun e => h (by rw [e]))]
theorem put_self {a : Act} {d : Nat} {u : Value} (h : d < a.tmps.size) : (a.put (some d) u).tmps.getD d undef = u := by
 show (a.tmps.setIfInBounds d u).getD d undef = _
 rw [Array.getD_eq_getD_getElem?, Array.getElem?_setIfInBounds_self]; simp [h]
theorem put_size (a : Act) (d : Option Nat) (u : Value) : (a.put d u).tmps.size = a.tmps.size := by
 cases d <;> simp [Act.put]
theorem put_def0 {a : Act} (d : Option Nat) (u : Value) (h : a.defers = []) : (a.put d u).defers = [] := by
 cases d <;> exact h
theorem al_sound {o : Oper} {a : Act} {T : List AV} {L : List (Nat × List AV)} {H : List Blk} {v : AV} {E : Env} (hH : SimH E H) (hL : SimL E L) (ha : isAl o = true) (hn : ∀ d, o.dst = some d → E.mL d = none) (h : evQ P o (opv T) L H (fun r => r = v)) :
  ∃ t u E', V3 E' v u ∧ o.dst = some t ∧ Step E E' ∧ SimH E' H ∧ SimL E' L ∧ (∀ s, s ≠ t → E'.mL s = E.mL s) ∧ True ∧ ∀ (next : Act → World → Prop) Q, next (a.put o.dst u) E'.w → o.wp P a E.w next Q := by
 obtain ⟨dst, op, ty, pos, after, guard⟩ := o
 cases op
 all_goals try (cases ha; done)
 rename_i e
 obtain ⟨z, hz, h⟩ := oelim_inv (show alQ P e dst L (fun r => r = v) from h)
 obtain ⟨t, ht, h⟩ := oelim_inv h
 obtain ⟨c, hc, h⟩ := oelim_inv h
 obtain ⟨hs, h⟩ := okp_inv h
 obtain ⟨hq, h5⟩ := okp_inv h
 have h5 : AV.lptr t 0 = v := h5
 clear h
 subst h5
 have hq := zeqL_eq hq
 subst hq
 obtain ⟨i, zv, q1, q2, q3, q4⟩ := zero_rel (E := E) hz
 obtain ⟨E', e1, e2, e3, e4, e5, _, e6⟩ := newL_sound (ty := e) hH hL (NewBlk.alloc E.w (.cells zv.cells e (0, 0))) hc (hn t ht) (sto1_noL' hs q4)
 refine ⟨t, _, E', e5, ht, e2, e3, e4, e6, trivial, fun next Q hk => ?_⟩
 unfold Oper.wp
 rw [show execOp a.eval ⟨dst, .alloc e, ty, pos, after, guard⟩ = (do pure (Next.value (← Instr.alloc e true (.tuple #[])))) from rfl]
 refine upon_v (w' := E'.w) ?_ hk
 rw [e1]
 simp [Instr.alloc, zeroValue, typeInfo, q1, q2, newVar, newRow]
theorem draw_all (D : DrawOk ops ord A) : ∀ (fuel : Nat) (S : Array Bool) (a : Act) (w : World) (pre post : List Item) (E : Env) (T : List AV) (L : List (Nat × List AV)) (H : List Blk),
  S.size = ops.size → left ops.size S = fuel → Closed ops S → DInv P esc ops ord Q E0 S a w pre post E T L H → wpAny P .any ops (PostS E0 Q) fuel S a w := by
 have fin : ∀ (S : Array Bool) (a : Act) (w : World) (pre post : List Item) (E : Env) (T : List AV) (L : List (Nat × List AV)) (H : List Blk), (∀ i, i < ops.size → S.getD i false = true) → DInv P esc ops ord Q E0 S a w pre post E T L H → PostS E0 Q .normal a w := by
  intro S a w pre post E T L H hall I
  have hp : post = [] := by
   cases post with
   | nil => rfl
   | cons x r =>
    have h1 := I.undone x (List.mem_cons_self ..)
    rw [hall x.i (D.lt x (by rw [I.oe]; simp))] at h1; cases h1
  subst hp
  refine ⟨rfl, ⟨T, L, H⟩, E, I.ev, I.w, I.good, ⟨I.h, I.l, fun t => ?_, I.size⟩, I.def0⟩
  rcases I.slots t with ⟨x, hx, hu, _⟩ | h
  ·rw [hall x.i (D.lt x (by rw [I.oe]; simp [hx]))] at hu; cases hu
  ·exact h
 intro fuel
 induction fuel with
 | zero =>
  intro S a w pre post E T L H hs hf hc I
  have hall := left_zero hf
  refine ⟨?_, fin S a w pre post E T L H hall I⟩
  cases hr : Region.ready .any ops S with
  | nil => rfl
  | cons i l =>
   have := ready_mem hs (i := i) (by rw [hr]; exact List.mem_cons_self ..)
   rw [hall i this.1] at this; cases this.2.1
 | succ fuel ih =>
  intro S a w pre post E T L H hs hf hc I
  refine ⟨fun hr => fin S a w pre post E T L H (ready_nil D hs hr) I, fun i hi => ?_⟩
  obtain ⟨hlt, hun, hon⟩ := ready_mem hs hi
  have hanc := anc_in D hs hc i _ (opI_get hlt) hon
  have hS' : (S.setIfInBounds i true).size = ops.size := by simpa using hs
  have hf' : left ops.size (S.setIfInBounds i true) = fuel := by have := left_set hs hlt hun; omega
  have hc' : Closed ops (S.setIfInBounds i true) := by
   intro j o ho hj e he hb
   rw [getD_set'] at hj ⊢
   by_cases hij : i = j
   ·subst hij
    have : o = opI ops i := by rw [opI_get hlt] at ho; exact (Option.some.inj ho).symm
    subst this
    split
    ·rfl
    ·exact hon e he hb
   ·rw [if_neg fun q => hij q.1] at hj
    split
    ·rfl
    ·exact hc j o ho hj e he hb
  have setU : ∀ j, (S.setIfInBounds i true).getD j false = false → S.getD j false = false ∧ j ≠ i := fun j hj => by
   rw [getD_set'] at hj
   split at hj
   ·cases hj
   ·rename_i q; exact ⟨hj, fun e => q ⟨e.symm, by omega⟩⟩
  have setN : ∀ j, j ≠ i → S.getD j false = false → (S.setIfInBounds i true).getD j false = false := fun j hj h => by
   rw [getD_set', if_neg fun q => hj q.1.symm]; exact h
  obtain ⟨y, hy, hyi⟩ := D.all i hlt
  subst hyi
  have hyi : y.i = y.i := rfl
  let ds : List Nat := (pre.filter fun x => !S.getD x.i false).filterMap fun x => (opI ops x.i).dst
  have hds : ∀ t, t ∈ ds ↔ ∃ x ∈ pre, S.getD x.i false = false ∧ (opI ops x.i).dst = some t := fun t => by
   simp only [ds, List.mem_filterMap, List.mem_filter, Bool.not_eq_true']
   constructor
   ·rintro ⟨x, ⟨h1, h2⟩, h3⟩; exact ⟨x, h1, h2, h3⟩
   ·rintro ⟨x, h1, h2, h3⟩; exact ⟨x, ⟨h1, h2⟩, h3⟩
  have hT : ∀ t, V3 E ((hide ds T).getD t .undef) (a.tmps.getD t undef) := fun t => by
   by_cases h : t ∈ ds
   ·rw [(hide_get ds T t).1 h]; exact V3.undef _ _
   ·rw [(hide_get ds T t).2 h]
    exact (I.slots t).resolve_left fun q => h ((hds t).2 q)
  have hlook : ∀ t ∈ (opI ops y.i).looksAt ops, t ∉ ds := fun t ht hm => by
   obtain ⟨x, hx, hu, hd⟩ := (hds t).1 hm
   have := hanc x.i (by rw [← hyi]; rw [← hyi] at ht; exact D.use y hy t ht x (by rw [I.oe]; simp [hx]) hd)
   rw [this] at hu; cases hu
  have hsim : ∀ t ∈ (opI ops y.i).looksAt ops, V3 E (T.getD t .undef) (a.tmps.getD t undef) := fun t ht => (I.slots t).resolve_left fun q => hlook t ht ((hds t).2 q)
  have hag : ∀ t ∈ (opI ops y.i).looksAt ops, (hide ds T).getD t .undef = T.getD t .undef := fun t ht => (hide_get ds T t).2 (hlook t ht)
  have alN : ∀ E' : Env, (∀ t, (opI ops y.i).dst ≠ some t → E'.mL t = E.mL t) → ∀ x ∈ ord, (S.setIfInBounds y.i true).getD x.i false = false → isAl (opI ops x.i) = true → x.q = true → ∀ d, (opI ops x.i).dst = some d → E'.mL d = none := fun E' hml x hx hu ha hxq d hd => by
   obtain ⟨hu1, hu2⟩ := setU _ hu
   rw [hml d (D.apart.inj x hx y hy hu2 d hd)]
   exact I.al x hx hu1 ha hxq d hd
  unfold wpOp
  rw [opI_get hlt]
  simp only
  have hmem : y ∈ pre ∨ y ∈ post := by rw [I.oe] at hy; exact List.mem_append.1 hy
  rcases hmem with hyp | hyp
  ·-- one that only reads, ahead of what comes to be done
   obtain ⟨hq, v, run, F⟩ := I.facts y hyp (by rw [hyi]; exact hun)
   rw [hyi] at F
   have hw := F.want E a hsim I.size
   have next : ∀ (u : Value) (E' : Env), Step E E' → SimH E' H → SimL E' L → (∀ t, (opI ops y.i).dst ≠ some t → E'.mL t = E.mL t) → V3 E' v u → wpAny P .any ops (PostS E0 Q) fuel (S.setIfInBounds y.i true) (a.put (opI ops y.i).dst u) E'.w := fun u E' hst hsH hsL hml hv => by
    refine ih _ _ _ pre post E' T L H hS' hf' hc' ⟨I.oe, fun x hx => setN _ (fun e => ?_) (I.undone x hx), I.head, I.ev, fun x hx hu => I.facts x hx (setU _ hu).1, fun t => ?_, by rw [put_size]; exact I.size, hsH, hsL, I.good.step hst, alN E' hml, put_def0 _ _ I.def0, rfl⟩
    ·have hnd := D.nodup
     rw [I.oe, List.map_append, List.nodup_append] at hnd
     exact hnd.2.2 y.i (List.mem_map_of_mem hyp) x.i (List.mem_map_of_mem hx) (by rw [hyi, e])
    ·by_cases hd : (opI ops y.i).dst = some t
     ·right
      rw [hd]
      by_cases hl : t < T.length
      ·rw [F.put t hd hl, put_self (by rw [← I.size]; exact hl)]; exact hv
      ·rw [List.getD_eq_getElem?_getD, List.getElem?_eq_none (Nat.not_lt.1 hl)]; exact V3.undef _ _
     ·rcases I.slots t with ⟨x, hx, hu, hxd⟩ | h
      ·exact .inl ⟨x, hx, setN _ (fun e => hd (by rw [← e]; exact hxd)) hu, hxd⟩
      ·right; rw [put_get hd]; exact h.le hst.le
   cases run with
   | true =>
    rw [if_pos hw]
    refine .inl ?_
    have hev := F.yes rfl
    cases hal : isAl (opI ops y.i) with
    | true =>
     obtain ⟨t, u, E', hv, hdt, q1, q2, q3, q4, _, q6⟩ := al_sound (P := P) (a := a) I.h I.l hal (fun t ht => I.al y hy (by rw [hyi]; exact hun) hal hq t ht) hev
     rw [← I.w]
     exact q6 _ _ (next u E' q1 q2 q3 (fun s hs => q4 s fun e => hs (by rw [hdt, e])) hv)
    | false =>
    rw [evQ_not hal, ← evValD_congr (opv_agree hag)] at hev
    rw [← I.w]
    refine Oper.wp_mono (fun a' w' ⟨v', u, E', he, hw', hqt, hv, ha⟩ => ?_) (evVal_sound hT (Sub.refl L H) I.h I.l (evValD_val hev))
    subst he; subst hw'; subst ha
    exact next u E' hqt.step (hqt.simH I.h) (hqt.simL I.h I.l) (fun t _ => by rw [hqt.mL]) hv
   | false =>
    rw [if_neg (by rw [hw]; simp)]
    have hv := F.no rfl
    subst hv
    rw [← I.w]
    exact next undef E (Step.refl E) I.h I.l (fun _ _ => rfl) ⟨[], rfl, PW.nil⟩
  ·-- the next that does more
   have hpost : ∃ r, post = y :: r := by
    cases hp : post with
    | nil => rw [hp] at hyp; cases hyp
    | cons x r =>
     rw [hp] at hyp
     rcases List.mem_cons.1 hyp with rfl | hyr
     ·exact ⟨r, rfl⟩
     ·have hb := D.bar
      rw [I.oe, hp] at hb
      have := (hb.at (I.head x r hp)).1 y hyr
      rw [hyi] at this
      have h1 := hanc x.i this
      rw [I.undone x (by rw [hp]; exact List.mem_cons_self ..)] at h1; cases h1
   obtain ⟨r, hpr⟩ := hpost
   subst hpr
   have hq := I.head y r rfl
   have hev := I.ev
   obtain ⟨T1, run, hl1, hg1, hw, hrun⟩ := gd_cases (P := P) hev
   have hw := hw E a hsim I.size
   have hap := D.apart
   rw [I.oe] at hap
   have hlater := Apart.later hap
   have hbar := (show BarOk A [] (pre ++ y :: r) from I.oe ▸ D.bar).at hq
   have hnd := D.nodup
   rw [I.oe, List.map_append, List.map_cons, List.nodup_append, List.nodup_cons] at hnd
   have hpend : ∀ x ∈ pre, S.getD x.i false = false → x.i ∈ y.fl := fun x hx hu => by
    rcases hbar.2 x (by simpa using hx) with h | h
    ·rw [hyi] at h
     have := hanc x.i h
     rw [hu] at this; cases this
    ·exact h
   -- behind it
   have next : ∀ (v : AV) (u : Value) (L' : List (Nat × List AV)) (H' : List Blk) (E' : Env), Step E E' → SimH E' H' → SimL E' L' → (∀ t, (opI ops y.i).dst ≠ some t → E'.mL t = E.mL t) → V3 E' v u → evOpsD P esc ops r (putA T1 (opI ops y.i).dst v) L' H' (fun T L H => Q .normal ⟨T, L, H⟩) →
     (∀ x ∈ pre, S.getD x.i false = false → ∃ v run, Fact P ops L' H' T1 (opI ops x.i) v run) →
     wpAny P .any ops (PostS E0 Q) fuel (S.setIfInBounds y.i true) (a.put (opI ops y.i).dst u) E'.w := by
    intro v u L' H' E' hst hH hL hml hv hK hfx
    obtain ⟨pre2, post2, Te, hr2, hp2, hpo2, hev2, hlen, hget, hfact⟩ := segPlan r _ (Apart.tail (p := [y]) (Apart.tail hap)) hK
    have hr2m : ∀ z ∈ pre2, z ∈ r := fun z hz => by rw [hr2]; exact List.mem_append_left _ hz
    have hTe : ∀ t, (∀ z ∈ y :: r, (opI ops z.i).dst ≠ some t) → Te.getD t .undef = T1.getD t .undef := fun t ht => by
     rw [hget t fun z hz => ht z (List.mem_cons_of_mem _ (hr2m z hz)), putA_get (ht y (List.mem_cons_self ..))]
    refine ih _ _ _ (pre ++ y :: pre2) post2 E' Te L' H' hS' hf' hc' ⟨by rw [I.oe, hr2]; simp, fun x hx => ?_, hpo2, hev2, fun x hx hu => ?_, fun t => ?_, by rw [put_size, hlen, putA_length, hl1]; exact I.size, hH, hL, I.good.step hst, alN E' hml, put_def0 _ _ I.def0, rfl⟩
    ·have hxr : x ∈ r := by rw [hr2]; exact List.mem_append_right _ hx
     exact setN _ (fun e => hnd.2.1.1 (by rw [hyi, ← e]; exact List.mem_map_of_mem hxr)) (I.undone x (List.mem_cons_of_mem _ hxr))
    ·obtain ⟨hu1, hu2⟩ := setU _ hu
     rcases List.mem_append.1 hx with hx | hx
     ·refine ⟨(I.facts x hx hu1).1, ?_⟩
      obtain ⟨v', run', F⟩ := hfx x hx hu1
      refine ⟨v', run', F.mono (by rw [hlen, putA_length]) (fun t ht => hTe t fun z hz => (hlater x hx).1 t ht z hz) fun d hd => hTe d fun z hz => (hlater x hx).2 d hd z hz⟩
     ·rcases List.mem_cons.1 hx with rfl | hx
      ·exact absurd hyi hu2
      ·exact ⟨hp2 x hx, hfact x hx⟩
    ·by_cases hd2 : ∃ z ∈ pre2, (opI ops z.i).dst = some t
     ·obtain ⟨z, hz, hzd⟩ := hd2
      refine .inl ⟨z, by simp [hz], setN _ (fun e => hnd.2.1.1 (by rw [hyi, ← e]; exact List.mem_map_of_mem (hr2m z hz))) (I.undone z (List.mem_cons_of_mem _ (hr2m z hz))), hzd⟩
     ·have e1 := hget t fun z hz q => hd2 ⟨z, hz, q⟩
      by_cases hd : (opI ops y.i).dst = some t
      ·right
       rw [hyi] at hd e1
       rw [e1, hd]
       by_cases hl : t < T1.length
       ·rw [putA_self hl, put_self (by rw [← I.size, ← hl1]; exact hl)]; exact hv
       ·rw [List.getD_eq_getElem?_getD, List.getElem?_eq_none (by rw [putA_length]; exact Nat.not_lt.1 hl)]; exact V3.undef _ _
      ·rw [putA_get hd, hg1] at e1
       rcases I.slots t with ⟨x, hx, hu, hxd⟩ | h
       ·refine .inl ⟨x, by simp [hx], setN _ (fun e => hd (by rw [hyi, ← e]; exact hxd)) hu, hxd⟩
       ·right; rw [e1, put_get (by rw [← hyi]; exact hd)]; exact h.le hst.le
   cases run with
   | true =>
    rw [if_pos hw]
    refine .inl ?_
    have hrun : (match y.q with
     | true => _
     | false => evOp P esc (opI ops y.i) (opv T1) L H fun v L' H' => floatsOk P ops y.fl T1 L' H' ∧ evOpsD P esc ops r (putA T1 (opI ops y.i).dst v) L' H' (fun T L H => Q .normal ⟨T, L, H⟩)) := hrun
    rw [hq] at hrun
    have hrun : evOp P esc (opI ops y.i) (opv T1) L H fun v L' H' => floatsOk P ops y.fl T1 L' H' ∧ evOpsD P esc ops r (putA T1 (opI ops y.i).dst v) L' H' (fun T L H => Q .normal ⟨T, L, H⟩) := hrun
    rw [← evOp_congr (opv_agree fun t ht => (hag t ht).trans (hg1 t).symm)] at hrun
    rw [← I.w]
    refine Oper.wp_mono (fun a' w' ⟨v, u, L', H', E', ⟨hfl, hK⟩, hw', q1, q2, q3, q4, ha, hml⟩ => ?_) (evOp_sound hT I.h I.l hrun)
    subst hw'; subst ha
    refine next v u L' H' E' q1 q2 q3 hml q4 hK fun x hx hu => ?_
    obtain ⟨f1, f2, f3⟩ := floatsOk_mem hfl x.i (hpend x hx hu)
    refine ⟨_, true, ⟨fun E a hs hz => ?_, fun _ => f3, fun e => (by cases e), fun d hd hlt => ?_⟩⟩
    ·unfold Region.wanted
     cases hgd : (opI ops x.i).guard with
     | none => rfl
     | some g => rw [hgd] at f1; cases f1
    ·unfold dstV; rw [hd]
   | false =>
    rw [if_neg (by rw [hw]; simp)]
    rw [← I.w]
    refine next (.tup []) undef L H E (Step.refl E) I.h I.l (fun _ _ => rfl) ⟨[], rfl, PW.nil⟩ hrun fun x hx hu => ?_
    obtain ⟨_, v', run', F⟩ := I.facts x hx hu
    exact ⟨v', run', F.mono hl1 (fun t _ => hg1 t) fun d _ => hg1 d⟩
end
end Go.Proofs.Ytglpfccgmfhkdaa.Fw
