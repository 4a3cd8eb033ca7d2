/- The framework, part Y: the rule for a region whose order is left open; steps within it. -/

import Derived.Test.YtglpfccgmfhkdaaFwX
set_option linter.unusedVariables false
namespace Go.Proofs.Ytglpfccgmfhkdaa.Fw
open Go
def apartB (ops : Array Oper) : List Item → Bool
 | [] => true
 | x :: r => ((opI ops x.i).looksAt ops).all (fun t => (x :: r).all fun y => (opI ops y.i).dst != some t) && (match (opI ops x.i).dst with
  | some d => r.all fun y => (opI ops y.i).dst != some d
  | none => true) && apartB ops r
theorem apart_of {ops : Array Oper} : ∀ {l : List Item}, apartB ops l = true → Apart ops l
 | [], _ => trivial
 | x :: r, h => by
  simp only [apartB, Bool.and_eq_true] at h
  obtain ⟨⟨h1, h2⟩, h3⟩ := h
  refine ⟨fun t ht y hy => ?_, fun d hd y hy => ?_, apart_of h3⟩
  ·have := List.all_eq_true.1 (List.all_eq_true.1 h1 t ht) y hy
   simpa using this
  ·rw [hd] at h2
   have := List.all_eq_true.1 h2 y hy
   simpa using this
def barB (A : Nat → List Nat) : List Item → List Item → Bool
 | _, [] => true
 | p, h :: r => (h.q || (r.all (fun y => (A y.i).contains h.i) && p.all fun x => (A h.i).contains x.i || h.fl.contains x.i)) && barB A (p ++ [h]) r
theorem bar_of {A : Nat → List Nat} : ∀ {l p : List Item}, barB A p l = true → BarOk A p l
 | [], _, _ => trivial
 | h :: r, p, hb => by
  simp only [barB, Bool.and_eq_true] at hb
  refine ⟨fun hq => ?_, bar_of hb.2⟩
  have h1 := hb.1
  rw [hq, Bool.false_or, Bool.and_eq_true] at h1
  refine ⟨fun y hy => by simpa using List.all_eq_true.1 h1.1 y hy, fun x hx => ?_⟩
  have := List.all_eq_true.1 h1.2 x hx
  simpa using this
def nodupB : List Nat → Bool
 | [] => true
 | x :: r => !r.contains x && nodupB r
theorem nodup_of : ∀ {l : List Nat}, nodupB l = true → l.Nodup
 | [], _ => List.nodup_nil
 | x :: r, h => by
  simp only [nodupB, Bool.and_eq_true] at h
  rw [List.nodup_cons]
  exact ⟨by simpa using h.1, nodup_of h.2⟩
def drawB (ops : Array Oper) (ord : List Item) (A : Nat → List Nat) : Bool :=
 (List.range ops.size).all (fun i => (opI ops i).after.toList.all (fun e => !Region.binds .any e || decide (e.on < i)) && (A i).all fun a => (opI ops i).after.toList.any fun e => Region.binds .any e && (a == e.on || (A e.on).contains a)) &&
 (List.range ops.size).all (fun i => ord.any fun x => x.i == i) && ord.all (fun x => decide (x.i < ops.size)) && nodupB (ord.map (·.i)) &&
 ord.all (fun x => ((opI ops x.i).looksAt ops).all fun t => ord.all fun y => (opI ops y.i).dst != some t || (A x.i).contains y.i) && apartB ops ord && barB A [] ord
theorem draw_of {ops : Array Oper} {ord : List Item} {A : Nat → List Nat} (hA : ∀ i, ops.size ≤ i → A i = []) (h : drawB ops ord A = true) : DrawOk ops ord A := by
 simp only [drawB, Bool.and_eq_true] at h
 obtain ⟨⟨⟨⟨⟨⟨h1, h2⟩, h3⟩, h4⟩, h5⟩, h6⟩, h7⟩ := h
 have get : ∀ i o, ops[i]? = some o → i < ops.size ∧ o = opI ops i := fun i o ho => by
  have hlt : i < ops.size := by
   rcases Nat.lt_or_ge i ops.size with h | h
   ·exact h
   ·rw [Array.getElem?_eq_none h] at ho; cases ho
  rw [opI_get hlt] at ho
  exact ⟨hlt, (Option.some.inj ho).symm⟩
 refine ⟨fun i o ho e he hb => ?_, fun i o ho a ha => ?_, fun i hi => ?_, fun x hx => ?_, nodup_of h4, fun x hx t ht y hy hd => ?_, apart_of h6, bar_of h7⟩
 ·obtain ⟨hlt, rfl⟩ := get i o ho
  have := List.all_eq_true.1 h1 i (List.mem_range.2 hlt)
  rw [Bool.and_eq_true] at this
  have := List.all_eq_true.1 this.1 e (by simpa using he)
  rw [hb] at this; simpa using this
 ·obtain ⟨hlt, rfl⟩ := get i o ho
  have := List.all_eq_true.1 h1 i (List.mem_range.2 hlt)
  rw [Bool.and_eq_true] at this
  have := List.all_eq_true.1 this.2 a ha
  obtain ⟨e, he, hc⟩ := List.any_eq_true.1 this
  rw [Bool.and_eq_true] at hc
  exact ⟨e, by simpa using he, hc.1, by simpa using hc.2⟩
 ·obtain ⟨x, hx, hc⟩ := List.any_eq_true.1 (List.all_eq_true.1 h2 i (List.mem_range.2 hi))
  exact ⟨x, hx, by simpa using hc⟩
 ·simpa using List.all_eq_true.1 h3 x hx
 ·have := List.all_eq_true.1 (List.all_eq_true.1 (List.all_eq_true.1 h5 x hx) t ht) y hy
  rw [Bool.or_eq_true] at this
  rcases this with h | h
  ·rw [hd] at h; simp at h
  ·simpa using h
def ancL (As : List (List Nat)) (i : Nat) : List Nat := As.getD i []
theorem Env.drew_step (E : Env) : Step E { E with w := E.w.drew } :=
 ⟨⟨fun _ h => h, fun _ h => h, fun _ _ => rfl, fun _ _ => rfl, fun _ => Nat.le_refl _, fun _ _ h _ => ⟨h, rfl, rfl⟩, fun _ _ h => h⟩, rfl, rfl, rfl, Nat.le_refl _, fun _ _ _ _ => rfl, fun _ h => .inl h, fun _ h => .inl h, fun _ h => .inl h, fun _ h => .inl h⟩
theorem drew_simH {E : Env} {H : List Blk} (h : SimH E H) : SimH { E with w := E.w.drew } H :=
 {h with
  heap := fun b c hb => by
   obtain ⟨blk, cs, ty, q1, q0, q2, q3, q4, q5, q6⟩ := h.heap b c hb
   exact ⟨blk, cs, ty, q1, q0, q2, q3, q4, q5, fun i j row a hr hj => by obtain ⟨u, hu, hv⟩ := q6 i j row a hr hj; exact ⟨u, hu, hv.le (Env.drew_step E).le.noL⟩⟩ }
theorem left_all (n : Nat) : left n (Array.replicate n false) = n := by
 unfold left
 have : (List.range n).countP (fun j => !(Array.replicate n false).getD j false) = (List.range n).countP (fun _ => true) := by
  refine List.countP_congr fun x hx => ?_
  rw [Array.getD_eq_getD_getElem?, Array.getElem?_replicate]
  split <;> simp
 rw [this, List.countP_true, List.length_range]
def frB : List (Nat × List AV) → List (Nat × List AV) → Bool
 | [], _ => true
 | (t, _) :: r, L => (getL L t).isNone && frB r L
def alB (ops : Array Oper) (L : List (Nat × List AV)) : List Item → Bool
 | [] => true
 | x :: r => (match x.q && isAl (opI ops x.i) with
  | false => true
  | true => match (opI ops x.i).dst with
   | none => true
   | some d => (getL L d).isNone) && alB ops L r
theorem fr_simL {E : Env} {L : List (Nat × List AV)} (hL : SimL E L) : ∀ {zs : List (Nat × List AV)}, frB zs L = true → SimL E (zs ++ L)
 | [], _ => hL
 | (t, c) :: r, h => by
  simp only [frB, Bool.and_eq_true, Option.isNone_iff_eq_none] at h
  exact (fr_simL hL h.2).cons (hL.none h.1)
theorem al_of {ops : Array Oper} {E : Env} {L : List (Nat × List AV)} (hL : SimL E L) : ∀ {l : List Item}, alB ops L l = true → ∀ x ∈ l, isAl (opI ops x.i) = true → x.q = true → ∀ d, (opI ops x.i).dst = some d → E.mL d = none
 | [], _, x, hx, _, _, _, _ => by cases hx
 | y :: r, h, x, hx, ha, hq, d, hd => by
  simp only [alB, Bool.and_eq_true] at h
  rcases List.mem_cons.1 hx with rfl | hx
  ·have h1 := h.1
   rw [hq, ha] at h1
   simp only [Bool.and_self] at h1
   rw [hd] at h1
   exact hL.none (by simpa using h1)
  ·exact al_of hL h.2 x hx ha hq d hd
theorem WpS.regionD {P : Program} {esc : List Nat} {c : Code} {id : Nat} {ops : Array Oper} {Q : Exit → St → Prop} {T : List AV} {L : List (Nat × List AV)} {H : List Blk} (ord : List Item) (As : List (List Nat)) (hm : P.follows .mixedOrders = true)
  (hl : As.length = ops.size) (hd : drawB ops ord (ancL As) = true) (e : c = .region id ops true) (zs : List (Nat × List AV)) (hf : frB zs L = true) (hz : alB ops L ord = true) (h : evOpsD P esc ops ord T (zs ++ L) H (fun T L H => Q .normal ⟨T, L, H⟩)) : WpS P c Q ⟨T, L, H⟩ := by
 subst e
 intro E0 E a g s d
 have D := draw_of (fun i hi => by unfold ancL; rw [List.getD_eq_getElem?_getD, List.getElem?_eq_none (by omega)]; rfl) hd
 refine wp_region_any hm ?_
 obtain ⟨pre, post, Te, hr, hp, hpo, hev, hlen, hget, hfact⟩ := segPlan ord T D.apart h
 have hun : ∀ j, (Array.replicate ops.size false).getD j false = false := fun j => by
  rw [Array.getD_eq_getD_getElem?, Array.getElem?_replicate]; split <;> rfl
 have hst := Env.drew_step E
 have hw : (show World from { E.w with drawn := E.w.drawn + 1 }) = ({ E with w := E.w.drew } : Env).w := rfl
 refine draw_all D ops.size _ a _ pre post { E with w := E.w.drew } Te (zs ++ L) H (by simp) (left_all _) (fun i o ho hj => ?_) ⟨hr, fun x hx => hun _, hpo, hev, fun x hx _ => ⟨hp x hx, hfact x hx⟩, fun t => ?_, by rw [hlen]; exact s.size, drew_simH s.h, fr_simL ?_ hf, g.step hst, fun x hx _ ha hq d hd => al_of s.l hz x hx ha hq d hd, d, rfl⟩
 ·rw [hun] at hj; cases hj
 ·by_cases hd2 : ∃ z ∈ pre, (opI ops z.i).dst = some t
  ·obtain ⟨z, hz, hzd⟩ := hd2
   exact .inl ⟨z, hz, hun _, hzd⟩
  ·right
   rw [hget t fun z hz q => hd2 ⟨z, hz, q⟩]
   exact (s.slots t).le hst.le
 ·intro t c hm
  obtain ⟨cells, cs, ty, q1, q2, q3⟩ := s.l t c hm
  exact ⟨cells, cs, ty, q1, q2, q3.mono fun _ _ k => k.le hst.le.noL⟩
theorem of_eqP {φ ψ : Prop} (e : φ = ψ) (h : ψ) : φ := e ▸ h
def litT (ops : Array Oper) : List (Oper × Bool) := ops.toList.map fun o => (o, true)
theorem WpS.regionT {P : Program} {esc : List Nat} {c : Code} {id : Nat} {ops : Array Oper} {Q : Exit → St → Prop} {T : List AV} {L : List (Nat × List AV)} {H : List Blk} (e : c = .region id ops false)
  (h : evOps P esc ops (litT ops) T L H (fun T L H => Q .normal ⟨T, L, H⟩)) : WpS P c Q ⟨T, L, H⟩ := by
 subst e
 intro E0 E a g s d
 refine wp_region_list ?_
 have := evOps_sound (litT ops) T L H E a g s d h
 have e2 : (litT ops).map (·.1) = ops.toList := by
  unfold litT; rw [List.map_map]; exact List.map_id' _
 rwa [e2] at this
section
variable {P : Program} {esc : List Nat} {ops : Array Oper} {l l' : List Item} {T T' : List AV} {L L' : List (Nat × List AV)} {H H' : List Blk} {K : List AV → List (Nat × List AV) → List Blk → Prop}
end
end Go.Proofs.Ytglpfccgmfhkdaa.Fw
