/- The framework, part V: a region whose order is left open: told once, in one order. -/

import Derived.Test.YtglpfccgmfhkdaaFwU
set_option linter.unusedVariables false
namespace Go.Proofs.Ytglpfccgmfhkdaa.Fw
open Go
structure Item where
 i : Nat
 lit : Bool
 q : Bool
 fl : List Nat
def zeq1 : AV → AV → Bool
 | .int k n, .int k' n' => decide (k = k') && decide (n = n')
 | .bool b, .bool b' => b == b'
 | .lst [] f g, .lst [] f' g' => f == f' && g == g'
 | .nilp, .nilp => true
 | _, _ => false
def zeqL : List AV → List AV → Bool
 | [], [] => true
 | a :: l, b :: m => zeq1 a b && zeqL l m
 | _, _ => false
theorem zeq1_eq {a b : AV} (h : zeq1 a b = true) : a = b := by
 unfold zeq1 at h
 split at h
 ·simp only [Bool.and_eq_true, decide_eq_true_eq] at h; rw [h.1, h.2]
 ·rw [eq_of_beq h]
 ·simp only [Bool.and_eq_true] at h; rw [eq_of_beq h.1, eq_of_beq h.2]
 ·rfl
 ·cases h
theorem zeqL_eq : ∀ {l m : List AV}, zeqL l m = true → l = m
 | [], [], _ => rfl
 | [], _ :: _, h => by cases h
 | _ :: _, [], h => by cases h
 | a :: l, b :: m, h => by
  simp only [zeqL, Bool.and_eq_true] at h
  rw [zeq1_eq h.1, zeqL_eq h.2]
def isAl (o : Oper) : Bool := match o.op with
 | .alloc _ => true
 | _ => false
def alQ (P : Program) (e : TypeId) (dst : Option Nat) (L : List (Nat × List AV)) (K : AV → Prop) : Prop := oelim (zeroA P e) fun z => oelim dst fun t => oelim (getL L t) fun c => okp (z.all sto1) (okp (zeqL c z) (K (.lptr t 0)))
def evQ (P : Program) (o : Oper) (ρ : Operand → AV) (L : List (Nat × List AV)) (H : List Blk) (K : AV → Prop) : Prop := match o.op with
 | .alloc e => alQ P e o.dst L K
 | _ => evValD P o ρ L H K
theorem evQ_not {P : Program} {o : Oper} {ρ : Operand → AV} {L : List (Nat × List AV)} {H : List Blk} {K : AV → Prop} (h : isAl o = false) : evQ P o ρ L H K = evValD P o ρ L H K := by
 obtain ⟨dst, op, ty, pos, after, guard⟩ := o
 cases op <;> first | rfl | cases h
theorem evQ_det {P : Program} {o : Oper} {ρ : Operand → AV} {L : List (Nat × List AV)} {H : List Blk} : Det (evQ P o ρ L H) := by
 cases h : isAl o with
 | false => intro K hk; rw [evQ_not h] at hk; obtain ⟨r, h1, h2⟩ := evValD_det K hk; exact ⟨r, h1, by rw [evQ_not h]; exact h2⟩
 | true =>
  obtain ⟨dst, op, ty, pos, after, guard⟩ := o
  cases op
  case alloc e => exact Det.bind fun _ => .bind fun _ => .bind fun _ => .okp (.okp (.ret _))
  all_goals cases h
def opI (ops : Array Oper) (i : Nat) : Oper := ops.getD i default
def dstV (o : Oper) (T : List AV) : AV := match o.dst with
 | some d => T.getD d .undef
 | none => .undef
def floatsOk (P : Program) (ops : Array Oper) : List Nat → List AV → List (Nat × List AV) → List Blk → Prop
 | [], _, _, _ => True
 | i :: r, T, L, H => ((opI ops i).guard.isNone = true ∧ (opI ops i).dst.isSome = true ∧ evQ P (opI ops i) (opv T) L H (fun v => v = dstV (opI ops i) T)) ∧ floatsOk P ops r T L H
theorem floatsOk_mem {P : Program} {ops : Array Oper} {T : List AV} {L : List (Nat × List AV)} {H : List Blk} : ∀ {fl : List Nat}, floatsOk P ops fl T L H → ∀ i ∈ fl, (opI ops i).guard.isNone = true ∧ (opI ops i).dst.isSome = true ∧ evQ P (opI ops i) (opv T) L H (fun v => v = dstV (opI ops i) T)
 | [], _, i, hi => by cases hi
 | j :: r, h, i, hi => by
  rcases List.mem_cons.1 hi with rfl | hi
  ·exact h.1
  ·exact floatsOk_mem h.2 i hi
def evOpsD (P : Program) (esc : List Nat) (ops : Array Oper) : List Item → List AV → List (Nat × List AV) → List Blk → (List AV → List (Nat × List AV) → List Blk → Prop) → Prop
 | [], T, L, H, K => K T L H
 | x :: rest, T, L, H, K => gdA ops x.lit (opI ops x.i) T
   (fun T => match x.q with
    | true => evQ P (opI ops x.i) (opv T) L H fun v => evOpsD P esc ops rest (putA T (opI ops x.i).dst v) L H K
    | false => evOp P esc (opI ops x.i) (opv T) L H fun v L' H' => floatsOk P ops x.fl T L' H' ∧ evOpsD P esc ops rest (putA T (opI ops x.i).dst v) L' H' K)
   (fun T => evOpsD P esc ops rest (putA T (opI ops x.i).dst (.tup [])) L H K)
theorem evVal_congr {P : Program} {o : Oper} {ρ ρ' : Operand → AV} {L : List (Nat × List AV)} {H : List Blk} {K : AV → Prop} (h : ∀ x ∈ o.op.operands, ρ x = ρ' x) : evVal P o ρ L H K = evVal P o ρ' L H K := by
 obtain ⟨dst, op, ty, pos, after, guard⟩ := o
 have pairs : ∀ ps : Array (Nat × Operand), (∀ x ∈ ps.map (·.2), ρ x = ρ' x) → (ps.toList.map fun p => (p.1, ρ p.2)) = (ps.toList.map fun p => (p.1, ρ' p.2)) := fun ps hp =>
  List.map_congr_left fun p hm => by rw [hp p.2 (Array.mem_map.2 ⟨p, by simpa using hm, rfl⟩)]
 have alls : ∀ ps : Array (Nat × Operand), (∀ x ∈ ps.map (·.2), ρ x = ρ' x) → (ps.toList.all fun p => noTup (ρ p.2)) = (ps.toList.all fun p => noTup (ρ' p.2)) := fun ps hp => by
  rw [Bool.eq_iff_iff, List.all_eq_true, List.all_eq_true]
  constructor <;> intro q p hm
  ·rw [← hp p.2 (Array.mem_map.2 ⟨p, by simpa using hm, rfl⟩)]; exact q p hm
  ·rw [hp p.2 (Array.mem_map.2 ⟨p, by simpa using hm, rfl⟩)]; exact q p hm
 have lst : ∀ xs : Array Operand, (∀ x ∈ xs, ρ x = ρ' x) → xs.toList.map ρ = xs.toList.map ρ' := fun xs hx => List.map_congr_left fun p hm => hx p (by simpa using hm)
 cases op <;> simp only [Op.operands] at h
 case build t ps =>
  show okp _ _ = okp _ _
  rw [pairs ps fun x hx => h x (by simpa using hx), alls ps fun x hx => h x (by simpa using hx)]
 case buildSlice t n ps =>
  show okp _ _ = okp _ _
  rw [pairs ps fun x hx => h x (by simpa using hx), alls ps fun x hx => h x (by simpa using hx)]
 case makeFunc fn first caps =>
  show mkfA fn first (caps.toList.map ρ) K = mkfA fn first (caps.toList.map ρ') K
  rw [lst caps fun x hx => h x (by simp [hx])]
 case slice t x lo hi mx =>
  cases mx with
  | some m => rfl
  | none =>
   show slcA P t (ρ x) (lo.map ρ) (hi.map ρ) H K = slcA P t (ρ' x) (lo.map ρ') (hi.map ρ') H K
   cases lo <;> cases hi <;> simp_all
 case call c =>
  obtain ⟨callee, args, argTypes⟩ := c
  have ha : ∀ x ∈ args, ρ x = ρ' x := fun x hx => h x (by simp [Call.operands, hx])
  cases callee with
  | builtin b =>
   cases b with
   | len =>
    show (match args.toList, argTypes.toList with
     | [x], [t] => okp (lenT P t (ρ x)) (lenA (ρ x) K)
     | _, _ => False) = (match args.toList, argTypes.toList with
     | [x], [t] => okp (lenT P t (ρ' x)) (lenA (ρ' x) K)
     | _, _ => False)
    split
    ·rename_i x t h1 h2
     rw [ha x (by rw [← Array.mem_toList_iff, h1]; simp)]
    ·rfl
   | _ => rfl
  | value f =>
   have hf : ρ f = ρ' f := h f (by simp [Call.operands])
   show calleeA (ρ f) _ = calleeA (ρ' f) _
   rw [hf, lst args ha]
  | invoke r m => rfl
 all_goals (first | rfl | (simp only [evVal]; simp_all; done))
theorem evValD_congr {P : Program} {o : Oper} {ρ ρ' : Operand → AV} {L : List (Nat × List AV)} {H : List Blk} {K : AV → Prop} (h : ∀ x ∈ o.op.operands, ρ x = ρ' x) : evValD P o ρ L H K = evValD P o ρ' L H K := by
 have hv := fun K => evVal_congr (P := P) (L := L) (H := H) (K := K) h
 obtain ⟨dst, op, ty, pos, after, guard⟩ := o
 cases op
 case call c =>
  simp only [Op.operands] at h
  obtain ⟨callee, args, argTypes⟩ := c
  have ha : ∀ x ∈ args, ρ x = ρ' x := fun x hx => h x (by simp [Call.operands, hx])
  cases callee with
  | builtin b =>
   cases b with
   | len =>
    show (match args.toList, argTypes.toList with
     | [x], [t] => okp (lenT P t (ρ x)) (lenD (ρ x) K)
     | _, _ => False) = (match args.toList, argTypes.toList with
     | [x], [t] => okp (lenT P t (ρ' x)) (lenD (ρ' x) K)
     | _, _ => False)
    split
    ·rename_i x t h1 h2
     rw [ha x (by rw [← Array.mem_toList_iff, h1]; simp)]
    ·rfl
   | _ => rfl
  | value f => exact hv K
  | invoke r m => rfl
 case pick c x y => simp only [Op.operands] at h; simp only [evValD]; simp_all
 case binOp op t x y ty2 => simp only [Op.operands] at h; simp only [evValD]; simp_all
 all_goals exact hv K
theorem evQ_congr {P : Program} {o : Oper} {ρ ρ' : Operand → AV} {L : List (Nat × List AV)} {H : List Blk} {K : AV → Prop} (h : ∀ x ∈ o.op.operands, ρ x = ρ' x) : evQ P o ρ L H K = evQ P o ρ' L H K := by
 cases ha : isAl o with
 | false => rw [evQ_not ha, evQ_not ha]; exact evValD_congr h
 | true =>
  obtain ⟨dst, op, ty, pos, after, guard⟩ := o
  cases op
  case alloc e => rfl
  all_goals cases ha
theorem evOp_congr {P : Program} {esc : List Nat} {o : Oper} {ρ ρ' : Operand → AV} {L : List (Nat × List AV)} {H : List Blk} {K : AV → List (Nat × List AV) → List Blk → Prop} (h : ∀ x ∈ o.op.operands, ρ x = ρ' x) : evOp P esc o ρ L H K = evOp P esc o ρ' L H K := by
 have hv := fun K => evVal_congr (P := P) (L := L) (H := H) (K := K) h
 obtain ⟨dst, op, ty, pos, after, guard⟩ := o
 cases op
 case call c =>
  obtain ⟨callee, args, argTypes⟩ := c
  have h' := h
  simp only [Op.operands] at h
  have ha : ∀ x ∈ args, ρ x = ρ' x := fun x hx => h x (by simp [Call.operands, hx])
  cases callee with
  | builtin b =>
   cases b with
   | len => exact hv fun r => K r L H
   | append =>
    show (match args.toList, argTypes.toList with
     | [s, x], [t, t2] => noTup (ρ s) = true ∧ noTup (ρ x) = true ∧ appA P t t2 (ρ s) (ρ x) L H K
     | _, _ => False) = (match args.toList, argTypes.toList with
     | [s, x], [t, t2] => noTup (ρ' s) = true ∧ noTup (ρ' x) = true ∧ appA P t t2 (ρ' s) (ρ' x) L H K
     | _, _ => False)
    split
    ·rename_i s x t t2 h1 h2
     rw [ha x (by rw [← Array.mem_toList_iff, h1]; simp), ha s (by rw [← Array.mem_toList_iff, h1]; simp)]
    ·rfl
   | _ => rfl
  | value f =>
   have hf : ρ f = ρ' f := h f (by simp [Call.operands])
   show calleeA (ρ f) _ = calleeA (ρ' f) _
   rw [hf, List.map_congr_left fun p hm => ha p (by simpa using hm)]
  | invoke r m => rfl
 case alloc e => rfl
 case buildSlice t n ps =>
  simp only [Op.operands] at h
  have h : ∀ x ∈ ps.map (·.2), ρ x = ρ' x := fun x hx => h x (by simpa using hx)
  have e1 : (ps.toList.map fun p => (p.1, ρ p.2)) = (ps.toList.map fun p => (p.1, ρ' p.2)) :=
   List.map_congr_left fun p hm => by rw [h p.2 (Array.mem_map.2 ⟨p, by simpa using hm, rfl⟩)]
  have e2 : (ps.toList.all fun p => noTup (ρ p.2)) = (ps.toList.all fun p => noTup (ρ' p.2)) := by
   rw [Bool.eq_iff_iff, List.all_eq_true, List.all_eq_true]
   constructor <;> intro q p hm
   ·rw [← h p.2 (Array.mem_map.2 ⟨p, by simpa using hm, rfl⟩)]; exact q p hm
   ·rw [h p.2 (Array.mem_map.2 ⟨p, by simpa using hm, rfl⟩)]; exact q p hm
  show okp _ (bslH P (frc esc dst) (scrOf esc) t n _ L H K) = okp _ (bslH P (frc esc dst) (scrOf esc) t n _ L H K)
  rw [e1, e2]
 case store t x y => simp only [Op.operands] at h; simp only [evOp]; simp_all
 case box e x => simp only [Op.operands] at h; simp only [evOp]; simp_all
 case makeSlice t l c => simp only [Op.operands] at h; simp only [evOp]; simp_all
 all_goals exact hv fun r => K r L H
end Go.Proofs.Ytglpfccgmfhkdaa.Fw
