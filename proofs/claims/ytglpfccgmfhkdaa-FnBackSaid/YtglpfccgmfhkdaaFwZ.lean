/- The framework, part Z: slots told sparsely; steps of a walk over them. -/

import Derived.Test.YtglpfccgmfhkdaaFwY
set_option linter.unusedVariables false
namespace Go.Proofs.Ytglpfccgmfhkdaa.Fw
open Go
def lk : List (Nat × AV) → Nat → AV
 | [], _ => .undef
 | (k, v) :: r, t => match Nat.beq k t with
  | true => v
  | false => lk r t
def dk : List (Nat × AV) → Nat → List (Nat × AV)
 | [], _ => []
 | (k, v) :: r, t => match Nat.beq k t with
  | true => dk r t
  | false => (k, v) :: dk r t
def ltS (n : Nat) : List (Nat × AV) → Bool
 | [] => true
 | (k, _) :: r => match Nat.blt k n with
  | true => ltS n r
  | false => false
@[irreducible] def mkS (n : Nat) (A : List (Nat × AV)) : List AV := (List.range n).map (lk A)
def putS (n : Nat) (A : List (Nat × AV)) (dst : Option Nat) (v : AV) : List (Nat × AV) := match dst with
 | none => A
 | some d => match Nat.blt d n with
  | true => (d, v) :: dk A d
  | false => A
def opS (A : List (Nat × AV)) : Operand → AV
 | .tmp t => lk A t
 | .const v => cv v
 | .func f => .fn f []
 | .global _ => .undef
theorem lk_dk (A : List (Nat × AV)) (d t : Nat) : lk (dk A d) t = if d = t then .undef else lk A t := by
 induction A with
 | nil => simp [dk, lk]
 | cons p r ih =>
  obtain ⟨k, v⟩ := p
  have hlk : lk ((k, v) :: r) t = match Nat.beq k t with
   | true => v
   | false => lk r t := rfl
  rw [hlk]
  cases h1 : Nat.beq k d with
  | true =>
   have e1 := Nat.eq_of_beq_eq_true h1
   rw [show dk ((k, v) :: r) d = dk r d by simp [dk, h1], ih]
   subst e1
   cases h2 : Nat.beq k t with
   | true => have e2 := Nat.eq_of_beq_eq_true h2; simp [e2]
   | false => rfl
  | false =>
   rw [show dk ((k, v) :: r) d = (k, v) :: dk r d by simp [dk, h1], show lk ((k, v) :: dk r d) t = match Nat.beq k t with
    | true => v
    | false => lk (dk r d) t from rfl]
   cases h2 : Nat.beq k t with
   | true =>
    have e2 := Nat.eq_of_beq_eq_true h2
    have : ¬ d = t := fun e => by subst e; subst e2; rw [Nat.beq_refl] at h1; cases h1
    simp [this]
   | false => simp only; rw [ih]
theorem lk_ge {n : Nat} : ∀ {A : List (Nat × AV)} {t : Nat}, ltS n A = true → n ≤ t → lk A t = .undef
 | [], t, _, _ => rfl
 | (k, v) :: r, t, h, ht => by
  unfold ltS at h
  split at h
  ·rename_i hk
   have hk : k < n := by rw [← Nat.blt_eq]; exact hk
   unfold lk
   cases h2 : Nat.beq k t with
   | true => have := Nat.eq_of_beq_eq_true h2; omega
   | false => exact lk_ge h ht
  ·cases h
theorem ltS_dk {n d : Nat} : ∀ {A : List (Nat × AV)}, ltS n A = true → ltS n (dk A d) = true
 | [], h => rfl
 | (k, v) :: r, h => by
  unfold ltS at h
  split at h
  ·rename_i hk
   unfold dk
   split
   ·exact ltS_dk h
   ·unfold ltS; rw [hk]; exact ltS_dk h
  ·cases h
theorem ltS_put {n : Nat} {A : List (Nat × AV)} (h : ltS n A = true) (dst : Option Nat) (v : AV) : ltS n (putS n A dst v) = true := by
 unfold putS
 split
 ·exact h
 ·split
  ·rename_i hd; unfold ltS; rw [hd]; exact ltS_dk h
  ·exact h
theorem mkS_length (n : Nat) (A : List (Nat × AV)) : (mkS n A).length = n := by unfold mkS; simp
theorem mkS_get {n : Nat} {A : List (Nat × AV)} (h : ltS n A = true) (t : Nat) : (mkS n A).getD t .undef = lk A t := by
 unfold mkS
 rw [List.getD_eq_getElem?_getD, List.getElem?_map]
 rcases Nat.lt_or_ge t n with hlt | hge
 ·rw [List.getElem?_range hlt]; rfl
 ·rw [List.getElem?_eq_none (by simpa using hge), lk_ge h hge]; rfl
theorem mkS_put {n : Nat} {A : List (Nat × AV)} (dst : Option Nat) (v : AV) : putA (mkS n A) dst v = mkS n (putS n A dst v) := by
 cases dst with
 | none => rfl
 | some d =>
  show (mkS n A).set d v = mkS n (match Nat.blt d n with
   | true => (d, v) :: dk A d
   | false => A)
  cases hd : Nat.blt d n with
  | true =>
   apply List.ext_getElem?
   intro t
   unfold mkS
   rw [List.getElem?_set]
   simp only [List.length_map, List.length_range, List.getElem?_map]
   rcases Nat.lt_or_ge t n with hlt | hge
   ·rw [List.getElem?_range hlt]
    by_cases he : d = t
    ·subst he; simp [hlt, lk]
    ·have hb : Nat.beq d t = false := by
      cases hq : Nat.beq d t with
      | true => exact absurd (Nat.eq_of_beq_eq_true hq) he
      | false => rfl
     simp [he, lk, hb, lk_dk]
   ·rw [List.getElem?_eq_none (l := List.range n) (by simpa using hge)]
    by_cases he : d = t
    ·subst he; simp [Nat.not_lt.2 hge]
    ·simp [he]
  | false =>
   have : ¬ d < n := fun h => by rw [← Nat.blt_eq, hd] at h; cases h
   exact List.set_eq_of_length_le (by rw [mkS_length]; omega)
theorem mkS_op {n : Nat} {A : List (Nat × AV)} (h : ltS n A = true) : opv (mkS n A) = opS A := by
 funext o
 cases o with
 | tmp t => exact mkS_get h t
 | _ => rfl
theorem mkS_know {n : Nat} {A : List (Nat × AV)} (h : ltS n A = true) {t : Nat} {b : Bool} (hb : lk A t = .bool b) : (mkS n A).set t (.bool b) = mkS n A := by
 apply List.ext_getElem?
 intro s
 rw [List.getElem?_set]
 by_cases he : t = s
 ·subst he
  rw [if_pos rfl]
  rcases Nat.lt_or_ge t n with hlt | hge
  ·rw [if_pos (by rw [mkS_length]; exact hlt)]
   unfold mkS
   rw [List.getElem?_map, List.getElem?_range hlt]
   show _ = some (lk A t)
   rw [hb]
  ·rw [if_neg (by rw [mkS_length]; omega), List.getElem?_eq_none (by rw [mkS_length]; omega)]
 ·rw [if_neg he]
def gdS (ops : Array Oper) (o : Oper) (A : List (Nat × AV)) (x y : Prop) : Prop := match o.guard with
 | none => x
 | some (j, want) => match (ops[j]?).bind (·.dst) with
  | none => False
  | some t => match lk A t with
   | .bool b => (match b with
    | true => (match want with
     | true => x
     | false => y)
    | false => (match want with
     | true => y
     | false => x))
   | .tup [] => y
   | _ => False
theorem gdS_eq {ops : Array Oper} {o : Oper} {n : Nat} {A : List (Nat × AV)} (h : ltS n A = true) {x y : List AV → Prop} : gdA ops true o (mkS n A) x y = gdS ops o A (x (mkS n A)) (y (mkS n A)) := by
 unfold gdA gdS
 cases o.guard with
 | none => rfl
 | some g =>
  obtain ⟨j, want⟩ := g
  simp only
  cases (ops[j]?).bind (·.dst) with
  | none => rfl
  | some t =>
   simp only
   rw [mkS_get h t]
   cases hb : lk A t with
   | bool b =>
    cases b with
    | true => simp only [bway]; rw [mkS_know h hb]; cases want <;> rfl
    | false => simp only [bway]; rw [mkS_know h hb]; cases want <;> rfl
   | tup l => cases l <;> rfl
   | _ => rfl
def evS (P : Program) (esc : List Nat) (ops : Array Oper) (n : Nat) : List Oper → List (Nat × AV) → List (Nat × List AV) → List Blk → (List (Nat × AV) → List (Nat × List AV) → List Blk → Prop) → Prop
 | [], A, L, H, K => K A L H
 | o :: rest, A, L, H, K => gdS ops o A
   (match o.op with
    | .pick c x y => asB (opS A c) fun z => (match z with
     | true => evS P esc ops n rest (putS n A o.dst (opS A x)) L H K
     | false => evS P esc ops n rest (putS n A o.dst (opS A y)) L H K)
    | _ => evOp P esc o (opS A) L H fun v L' H' => evS P esc ops n rest (putS n A o.dst v) L' H' K)
   (evS P esc ops n rest (putS n A o.dst (.tup [])) L H K)
theorem evS_eq {P : Program} {esc : List Nat} {ops : Array Oper} {n : Nat} {K : List AV → List (Nat × List AV) → List Blk → Prop} : ∀ (l : List Oper) (A : List (Nat × AV)) (L : List (Nat × List AV)) (H : List Blk), ltS n A = true →
  evOps P esc ops (l.map fun o => (o, true)) (mkS n A) L H K = evS P esc ops n l A L H fun A L H => K (mkS n A) L H
 | [], A, L, H, h => rfl
 | o :: rest, A, L, H, h => by
  show gdA ops true o (mkS n A) _ _ = _
  rw [gdS_eq h]
  show gdS ops o A _ _ = gdS ops o A _ _
  have e2 : evOps P esc ops (rest.map fun o => (o, true)) (putA (mkS n A) o.dst (.tup [])) L H K = evS P esc ops n rest (putS n A o.dst (.tup [])) L H fun A L H => K (mkS n A) L H := by
   rw [mkS_put, evS_eq rest _ _ _ (ltS_put h _ _)]
  have ep : ∀ v L H, evOps P esc ops (rest.map fun o => (o, true)) (putA (mkS n A) o.dst v) L H K = evS P esc ops n rest (putS n A o.dst v) L H fun A L H => K (mkS n A) L H := fun v L H => by
   rw [mkS_put, evS_eq rest _ _ _ (ltS_put h _ _)]
  rw [e2]
  congr 1
  unfold pickA
  rw [mkS_op h]
  cases hop : o.op <;> simp only [ep]
  case pick c x y =>
   unfold asB
   cases opS A c <;> first | rfl | (rename_i z; cases z <;> rfl)
theorem WpS.regionS {P : Program} {esc : List Nat} {c : Code} {id n : Nat} {ops : Array Oper} {Q : Exit → St → Prop} {A : List (Nat × AV)} {L : List (Nat × List AV)} {H : List Blk} (e : c = .region id ops false) (hn : ltS n A = true)
  (h : evS P esc ops n (ops.toList.drop 0) A L H (fun A L H => Q .normal ⟨mkS n A, L, H⟩)) : WpS P c Q ⟨mkS n A, L, H⟩ :=
 WpS.regionT (esc := esc) e (by unfold litT; rw [evS_eq _ _ _ _ hn]; exact h)
def dstS (o : Oper) (A : List (Nat × AV)) : AV := match o.dst with
 | some d => lk A d
 | none => .undef
def floatsS (P : Program) (ops : Array Oper) : List Nat → List (Nat × AV) → List (Nat × List AV) → List Blk → Prop
 | [], _, _, _ => True
 | i :: r, A, L, H => ((opI ops i).guard.isNone = true ∧ (opI ops i).dst.isSome = true ∧ evQ P (opI ops i) (opS A) L H (fun v => v = dstS (opI ops i) A)) ∧ floatsS P ops r A L H
def evSD (P : Program) (esc : List Nat) (ops : Array Oper) (n : Nat) : List Item → List (Nat × AV) → List (Nat × List AV) → List Blk → (List (Nat × AV) → List (Nat × List AV) → List Blk → Prop) → Prop
 | [], A, L, H, K => K A L H
 | x :: rest, A, L, H, K => gdS ops (opI ops x.i) A
   (match x.q with
    | true => evQ P (opI ops x.i) (opS A) L H fun v => evSD P esc ops n rest (putS n A (opI ops x.i).dst v) L H K
    | false => evOp P esc (opI ops x.i) (opS A) L H fun v L' H' => floatsS P ops x.fl A L' H' ∧ evSD P esc ops n rest (putS n A (opI ops x.i).dst v) L' H' K)
   (evSD P esc ops n rest (putS n A (opI ops x.i).dst (.tup [])) L H K)
theorem floatsS_eq {P : Program} {ops : Array Oper} {n : Nat} {A : List (Nat × AV)} {L : List (Nat × List AV)} {H : List Blk} (h : ltS n A = true) : ∀ l : List Nat, floatsOk P ops l (mkS n A) L H = floatsS P ops l A L H
 | [] => rfl
 | i :: r => by
  show (_ ∧ _) = (_ ∧ _)
  rw [floatsS_eq h r, mkS_op h]
  have : dstV (opI ops i) (mkS n A) = dstS (opI ops i) A := by
   unfold dstV dstS
   cases (opI ops i).dst with
   | none => rfl
   | some d => exact mkS_get h d
  rw [this]
theorem evSD_eq {P : Program} {esc : List Nat} {ops : Array Oper} {n : Nat} {K : List AV → List (Nat × List AV) → List Blk → Prop} : ∀ (l : List Item) (A : List (Nat × AV)) (L : List (Nat × List AV)) (H : List Blk), l.all (·.lit) = true → ltS n A = true →
  evOpsD P esc ops l (mkS n A) L H K = evSD P esc ops n l A L H fun A L H => K (mkS n A) L H
 | [], A, L, H, hl, h => rfl
 | x :: rest, A, L, H, hl, h => by
  simp only [List.all_cons, Bool.and_eq_true] at hl
  show gdA ops x.lit (opI ops x.i) (mkS n A) _ _ = _
  rw [hl.1, gdS_eq h]
  show gdS ops (opI ops x.i) A _ _ = gdS ops (opI ops x.i) A _ _
  have ep : ∀ v L H, evOpsD P esc ops rest (putA (mkS n A) (opI ops x.i).dst v) L H K = evSD P esc ops n rest (putS n A (opI ops x.i).dst v) L H fun A L H => K (mkS n A) L H := fun v L H => by
   rw [mkS_put, evSD_eq rest _ _ _ hl.2 (ltS_put h _ _)]
  simp only [ep, mkS_op h, floatsS_eq h]
  cases x.q <;> rfl
theorem WpS.regionSD {P : Program} {esc : List Nat} {c : Code} {id n : Nat} {ops : Array Oper} {Q : Exit → St → Prop} {A : List (Nat × AV)} {L : List (Nat × List AV)} {H : List Blk} (ord : List Item) (As : List (List Nat)) (hm : P.follows .mixedOrders = true)
  (hl : As.length = ops.size) (hd : drawB ops ord (ancL As) = true) (hlit : ord.all (·.lit) = true) (e : c = .region id ops true) (hn : ltS n A = true) (zs : List (Nat × List AV)) (hf : frB zs L = true) (hz : alB ops L ord = true) (h : evSD P esc ops n (ord.drop 0) A (zs ++ L) H (fun A L H => Q .normal ⟨mkS n A, L, H⟩)) : WpS P c Q ⟨mkS n A, L, H⟩ :=
 WpS.regionD (esc := esc) ord As hm hl hd e zs hf hz (by rw [evSD_eq _ _ _ _ hlit hn]; exact h)
theorem Weak.slots {T T' : List AV} {L : List (Nat × List AV)} {H : List Blk} (hl : T'.length = T.length) (h : ∀ t, T'.getD t .undef = T.getD t .undef ∨ T'.getD t .undef = .undef) : Weak ⟨T, L, H⟩ ⟨T', L, H⟩ := fun E0 E tmps g s =>
 ⟨E, rfl, g, s.h, s.l, fun t => by
  show V3 E (T'.getD t .undef) _
  rcases h t with e | e <;> rw [e]
  ·exact s.slots t
  ·exact V3.undef _ _, by show T'.length = _; rw [hl]; exact s.size⟩
def pickS (A : List (Nat × AV)) : List (Nat × AV) → List (Nat × AV)
 | [] => []
 | (k, _) :: r => (k, lk A k) :: pickS A r
theorem lk_pickS {A : List (Nat × AV)} : ∀ (B : List (Nat × AV)) (t : Nat), lk (pickS A B) t = lk A t ∨ lk (pickS A B) t = .undef
 | [], t => .inr rfl
 | (k, v) :: r, t => by
  show (match Nat.beq k t with
   | true => lk A k
   | false => lk (pickS A r) t) = lk A t ∨ _
  cases h : Nat.beq k t with
  | true => have := Nat.eq_of_beq_eq_true h; subst this; exact .inl rfl
  | false =>
   rcases lk_pickS r t with e | e
   ·exact .inl e
   ·right; show (match Nat.beq k t with
     | true => lk A k
     | false => lk (pickS A r) t) = _
    rw [h]; exact e
def lpS (ts : List Nat) : List (Nat × AV) → Bool
 | [] => true
 | (_, v) :: r => lpf3 ts v && lpS ts r
theorem lpS_lk {ts : List Nat} : ∀ {A : List (Nat × AV)}, lpS ts A = true → ∀ t, lpf3 ts (lk A t) = true
 | [], h, t => rfl
 | (k, v) :: r, h, t => by
  simp only [lpS, Bool.and_eq_true] at h
  unfold lk
  cases Nat.beq k t with
  | true => exact h.1
  | false => exact lpS_lk h.2 t
theorem weak_s {n : Nat} {A A' : List (Nat × AV)} {L L' : List (Nat × List AV)} {H : List Blk} (ts : List Nat) (hA : ltS n A = true) (hA' : ltS n A' = true) (hp : lpS ts A' = true) (eA : pickS A A' = A') (eL : dropL ts L = L') : Weak ⟨mkS n A, L, H⟩ ⟨mkS n A', L', H⟩ := by
 subst eL
 refine (Weak.slots (T' := mkS n A') (by rw [mkS_length, mkS_length]) fun t => ?_).trans (Weak.dropL ts ?_)
 ·rw [mkS_get hA, mkS_get hA', ← eA]; exact lk_pickS A' t
 ·rw [List.all_eq_true]
  intro a ha
  obtain ⟨t, ht⟩ := List.mem_iff_getElem?.1 ha
  have e : (mkS n A').getD t .undef = a := by rw [List.getD_eq_getElem?_getD, ht]; rfl
  rw [mkS_get hA'] at e
  rw [← e]
  exact lpS_lk hp t
theorem weak_s0 {n : Nat} {A A' : List (Nat × AV)} {L : List (Nat × List AV)} {H : List Blk} (hA : ltS n A = true) (hA' : ltS n A' = true) (eA : pickS A A' = A') : Weak ⟨mkS n A, L, H⟩ ⟨mkS n A', L, H⟩ :=
 Weak.slots (T' := mkS n A') (by rw [mkS_length, mkS_length]) fun t => by rw [mkS_get hA, mkS_get hA', ← eA]; exact lk_pickS A' t
theorem condS {n : Nat} {A : List (Nat × AV)} {o : Operand} {b : Bool} {L : List (Nat × List AV)} {H : List Blk} (hn : ltS n A = true) (h : opS A o = .bool b) : opv (St.mk (mkS n A) L H).T o = .bool b := by
 show opv (mkS n A) o = _
 rw [mkS_op hn, h]
def resLS (P : Program) (A : List (Nat × AV)) (L : List (Nat × List AV)) (H : List Blk) : List ResultVar → (List AV → Prop) → Prop
 | [], K => K []
 | .tmp t :: rs, K => resLS P A L H rs fun l => K (lk A t :: l)
 | .cell a t :: rs, K => ldA P t (lk A a) L H fun x => resLS P A L H rs fun l => K (x :: l)
theorem resLS_eq {P : Program} {n : Nat} {A : List (Nat × AV)} {L : List (Nat × List AV)} {H : List Blk} (hn : ltS n A = true) : ∀ (rs : List ResultVar) (K : List AV → Prop), resL P ⟨mkS n A, L, H⟩ rs K = resLS P A L H rs K
 | [], K => rfl
 | .tmp t :: rs, K => by
  show resL P ⟨mkS n A, L, H⟩ rs (fun l => K ((mkS n A).getD t .undef :: l)) = resLS P A L H rs fun l => K (lk A t :: l)
  rw [mkS_get hn]; exact resLS_eq hn rs _
 | .cell a t :: rs, K => by
  show ldA P t ((mkS n A).getD a .undef) L H _ = ldA P t (lk A a) L H _
  rw [mkS_get hn]
  congr 1
  funext x
  exact resLS_eq hn rs _
theorem retStepS {P : Program} {fn : Func} {n : Nat} {A : List (Nat × AV)} {L : List (Nat × List AV)} {H : List Blk} {r : AV} {Q : AV → List Blk → Prop} (hn : ltS n A = true) (l : List AV) (e : ∀ K, resLS P A L H fn.results.toList K = K l) (hr : l.all noLp2 = true) (hw : wrapR l = r) (h : Q r H) : QFn P fn Q .ret ⟨mkS n A, L, H⟩ := by
 show resA P fn ⟨mkS n A, L, H⟩ Q
 unfold resA
 rw [resLS_eq hn, e]
 exact ⟨hr, by rw [hw]; exact h⟩
end Go.Proofs.Ytglpfccgmfhkdaa.Fw
