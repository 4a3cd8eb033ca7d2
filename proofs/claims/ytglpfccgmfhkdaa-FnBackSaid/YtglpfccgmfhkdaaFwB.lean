/- The framework, part B: a state of the abstract machine stands for a frame and a world; rules for the code between the regions. -/

import Derived.Test.YtglpfccgmfhkdaaFwA
set_option linter.unusedVariables false
namespace Go.Proofs.Ytglpfccgmfhkdaa.Fw
open Go
def getL : List (Nat × List AV) → Nat → Option (List AV)
 | [], _ => none
 | (k, c) :: l, t => if t = k then some c else getL l t
def setL : List (Nat × List AV) → Nat → List AV → List (Nat × List AV)
 | [], _, _ => []
 | (k, c) :: l, t, d => if t = k then (k, d) :: l else (k, c) :: setL l t d
def Env.imgH (E : Env) (c : Nat) : Prop := ∃ b, E.m b = some (some c)
def Env.imgL (E : Env) (c : Nat) : Prop := ∃ t, E.mL t = some c
def Env.noL (E : Env) : Env := { E with mL := fun _ => none }
theorem Env.noL_le (E : Env) : E.noL.Le E := ⟨fun _ h => h, fun _ h => h, fun _ _ => rfl, fun _ _ => rfl, fun _ => Nat.le_refl _, fun _ _ h _ => ⟨h, rfl, rfl⟩, fun _ _ h => by cases h⟩
theorem Env.Le.noL {E E' : Env} (h : E.Le E') : E.noL.Le E'.noL := ⟨h.pa, h.pf, h.wa, h.wf, h.gen, h.m, fun _ _ h => by cases h⟩
def RowsAt (E : Env) (sz : Nat) (rows : List (List AV)) (cs : Array Value) : Prop :=
 (∀ (i : Nat) (row : List AV), rows[i]? = some row → row.length = sz) ∧
 ∀ (i j : Nat) (row : List AV) (a : AV), rows[i]? = some row → row[j]? = some a → ∃ u, cs[i * sz + j]? = some u ∧ V1 E.noL a u
structure SimH (E : Env) (H : List Blk) : Prop where
 heap : ∀ b c, E.m b = some (some c) → ∃ blk cs ty, H[b]? = some blk ∧ E.sz b = blk.sz ∧ E.w.heap[c]? = some (.cells cs ty (0, 0)) ∧ cs.size = E.cp b * E.sz b ∧ blk.rows.length ≤ E.cp b ∧ RowsAt E (E.sz b) blk.rows cs
 gens : ∀ (b : Nat) (blk : Blk), H[b]? = some blk → E.gen b = blk.gen
 nilb : ∀ b, E.m b = some none → ∃ blk, H[b]? = some blk ∧ E.sz b = blk.sz
 fresh : ∀ b, H.length ≤ b → E.m b = none ∧ E.gen b = 0
 injH : ∀ b b' c, E.m b = some (some c) → E.m b' = some (some c) → b = b'
 injL : ∀ t t' c, E.mL t = some c → E.mL t' = some c → t = t'
 injHL : ∀ b t c, E.m b = some (some c) → E.mL t = some c → False
 notH : ∀ c, E.PA c → ¬ E.imgH c
 notL : ∀ c, E.PA c → ¬ E.imgL c
 pfpa : ∀ c, E.PF c → E.PA c
 ltP : ∀ c, E.PA c → c < E.w.heap.size
 ltH : ∀ c, E.imgH c → c < E.w.heap.size
 ltL : ∀ c, E.imgL c → c < E.w.heap.size
def SimL (E : Env) (L : List (Nat × List AV)) : Prop :=
 ∀ t c, E.mL t = some c → ∃ cells cs ty, getL L t = some cells ∧ E.w.heap[c]? = some (.cells cs ty (0, 0)) ∧ PW (V1 E.noL) cells cs.toList
structure Sim (E : Env) (st : St) (tmps : Array Value) : Prop where
 h : SimH E st.H
 l : SimL E st.L
 slots : ∀ t, V3 E (st.T.getD t .undef) (tmps.getD t undef)
 size : st.T.length = tmps.size
structure Step (E E' : Env) : Prop where
 le : E.Le E'
 os : E'.w.os = E.w.os
 tape : E'.w.tape = E.w.tape
 output : E'.w.output = E.w.output
 size : E.w.heap.size ≤ E'.w.heap.size
 keep : ∀ c, c < E.w.heap.size → ¬ E.imgH c → ¬ E.imgL c → E'.w.heap[c]? = E.w.heap[c]?
 imH : ∀ c, E'.imgH c → E.imgH c ∨ E.w.heap.size ≤ c
 imL : ∀ c, E'.imgL c → E.imgL c ∨ E.w.heap.size ≤ c
 pa : ∀ c, E'.PA c → E.PA c ∨ E.w.heap.size ≤ c
 pf : ∀ c, E'.PF c → E.PF c ∨ E.w.heap.size ≤ c
theorem Step.refl (E : Env) : Step E E := ⟨.refl E, rfl, rfl, rfl, Nat.le_refl _, fun _ _ _ _ => rfl, fun _ h => .inl h, fun _ h => .inl h, fun _ h => .inl h, fun _ h => .inl h⟩
theorem Step.trans {A B C : Env} (h : Step A B) (k : Step B C) : Step A C where
 le := h.le.trans k.le
 os := k.os.trans h.os
 tape := k.tape.trans h.tape
 output := k.output.trans h.output
 size := Nat.le_trans h.size k.size
 keep := fun c hc h1 h2 => by
  rw [k.keep c (Nat.lt_of_lt_of_le hc h.size) (fun x => (h.imH c x).elim h1 (fun y => absurd hc (Nat.not_lt.2 y))) (fun x => (h.imL c x).elim h2 (fun y => absurd hc (Nat.not_lt.2 y)))]
  exact h.keep c hc h1 h2
 imH := fun c x => (k.imH c x).elim (fun y => h.imH c y) (fun y => .inr (Nat.le_trans h.size y))
 imL := fun c x => (k.imL c x).elim (fun y => h.imL c y) (fun y => .inr (Nat.le_trans h.size y))
 pa := fun c x => (k.pa c x).elim (fun y => h.pa c y) (fun y => .inr (Nat.le_trans h.size y))
 pf := fun c x => (k.pf c x).elim (fun y => h.pf c y) (fun y => .inr (Nat.le_trans h.size y))
structure Good (E0 E : Env) : Prop where
 noL : ∀ t, E0.mL t = none
 le : E0.Le E
 os : E.w.os = E0.w.os
 tape : E.w.tape = E0.w.tape
 output : E.w.output = E0.w.output
 size : E0.w.heap.size ≤ E.w.heap.size
 keep : ∀ c, c < E0.w.heap.size → ¬ E0.imgH c → E.w.heap[c]? = E0.w.heap[c]?
 imH : ∀ c, E.imgH c → E0.imgH c ∨ E0.w.heap.size ≤ c
 imL : ∀ c, E.imgL c → E0.w.heap.size ≤ c
 pa : ∀ c, E.PA c → E0.PA c ∨ E0.w.heap.size ≤ c
 pf : ∀ c, E.PF c → E0.PF c ∨ E0.w.heap.size ≤ c
theorem Good.refl {E : Env} (h : ∀ t, E.mL t = none) : Good E E :=
 ⟨h, .refl E, rfl, rfl, rfl, Nat.le_refl _, fun _ _ _ => rfl, fun _ x => .inl x, (fun c ⟨t, x⟩ => by rw [h t] at x; cases x), fun _ x => .inl x, fun _ x => .inl x⟩
theorem Good.step {E0 E E' : Env} (h : Good E0 E) (k : Step E E') : Good E0 E' where
 noL := h.noL
 le := h.le.trans k.le
 os := k.os.trans h.os
 tape := k.tape.trans h.tape
 output := k.output.trans h.output
 size := Nat.le_trans h.size k.size
 keep := fun c hc h1 => by
  rw [k.keep c (Nat.lt_of_lt_of_le hc h.size) (fun x => (h.imH c x).elim h1 (fun y => absurd hc (Nat.not_lt.2 y))) (fun x => absurd hc (Nat.not_lt.2 (h.imL c x)))]
  exact h.keep c hc h1
 imH := fun c x => (k.imH c x).elim (fun y => h.imH c y) (fun y => .inr (Nat.le_trans h.size y))
 imL := fun c x => (k.imL c x).elim (fun y => h.imL c y) (fun y => Nat.le_trans h.size y)
 pa := fun c x => (k.pa c x).elim (fun y => h.pa c y) (fun y => .inr (Nat.le_trans h.size y))
 pf := fun c x => (k.pf c x).elim (fun y => h.pf c y) (fun y => .inr (Nat.le_trans h.size y))
def AtEnd (ex : Exit) : Bool := match ex with
 | .normal | .exit _ | .ret => true
 | _ => false
def PostS (E0 : Env) (Q : Exit → St → Prop) (ex : Exit) (a : Act) (w : World) : Prop :=
 AtEnd ex = true ∧ ∃ st E, Q ex st ∧ E.w = w ∧ Good E0 E ∧ Sim E st a.tmps ∧ a.defers = []
def WpS (P : Program) (c : Code) (Q : Exit → St → Prop) (st : St) : Prop :=
 ∀ (E0 E : Env) (a : Act), Good E0 E → Sim E st a.tmps → a.defers = [] → c.wp P (PostS E0 Q) a E.w
def Weak (st st' : St) : Prop := ∀ (E0 E : Env) (tmps : Array Value), Good E0 E → Sim E st tmps → ∃ E', E'.w = E.w ∧ Good E0 E' ∧ Sim E' st' tmps
theorem Weak.refl (st : St) : Weak st st := fun E0 E tmps g h => ⟨E, rfl, g, h⟩
theorem Weak.trans {a b c : St} (h : Weak a b) (k : Weak b c) : Weak a c := fun E0 E tmps g s => by
 obtain ⟨E1, e1, g1, s1⟩ := h E0 E tmps g s
 obtain ⟨E2, e2, g2, s2⟩ := k E0 E1 tmps g1 s1
 exact ⟨E2, e2.trans e1, g2, s2⟩
section
variable {P : Program} {Q Q' : Exit → St → Prop} {st : St}
theorem WpS.mono {c : Code} (h : WpS P c Q st) (hq : ∀ e s, Q e s → Q' e s) : WpS P c Q' st := fun E0 E a g s d =>
 wp_mono (h E0 E a g s d) fun e a w ⟨h1, st, E, h2, h3⟩ => ⟨h1, st, E, hq _ _ h2, h3⟩
theorem WpS.weak {c : Code} {st' : St} (h : WpS P c Q st') (k : Weak st st') : WpS P c Q st := fun E0 E a g s d => by
 obtain ⟨E1, e1, g1, s1⟩ := k E0 E a.tmps g s
 exact e1 ▸ h E0 E1 a g1 s1 d
theorem WpS.skip (h : Q .normal st) : WpS P .skip Q st := fun E0 E a g s d => wp_skip ⟨rfl, st, E, h, rfl, g, s, d⟩
theorem WpS.ret (h : Q .ret st) : WpS P .ret Q st := fun E0 E a g s d => wp_ret ⟨rfl, st, E, h, rfl, g, s, d⟩
theorem WpS.exit {id : Nat} (h : Q (.exit id) st) : WpS P (.exit id) Q st := fun E0 E a g s d => wp_exit ⟨rfl, st, E, h, rfl, g, s, d⟩
def QSeq (P : Program) (y : Code) (Q : Exit → St → Prop) (ex : Exit) (s : St) : Prop := match ex with
 | .normal => WpS P y Q s
 | ex => Q ex s
theorem WpS.seq {x y : Code} (h : WpS P x (QSeq P y Q) st) : WpS P (.seq x y) Q st := fun E0 E a g s d =>
 wp_seq (wp_mono (h E0 E a g s d) fun e a' w' ⟨h1, st', E', h2, h3, h4, h5, h6⟩ => by
  cases e with
  | normal => subst h3; exact h2 E0 E' a' h4 h5 h6
  | exit id => exact ⟨rfl, st', E', h2, h3, h4, h5, h6⟩
  | ret => exact ⟨rfl, st', E', h2, h3, h4, h5, h6⟩
  | _ => cases h1)
def QBlock (id : Nat) (Q : Exit → St → Prop) (ex : Exit) (s : St) : Prop := match ex with
 | .exit id' => if id' = id then Q .normal s else Q (.exit id') s
 | ex => Q ex s
theorem WpS.block {id : Nat} {c : Code} (h : WpS P c (QBlock id Q) st) : WpS P (.block id c) Q st := fun E0 E a g s d =>
 wp_block (wp_mono (h E0 E a g s d) fun e a' w' ⟨h1, st', E', h2, h3⟩ => by
  cases e with
  | normal => exact ⟨rfl, st', E', h2, h3⟩
  | exit id' =>
   by_cases hid : id' = id
   ·subst hid
    have h2' : (if id' = id' then Q .normal st' else Q (.exit id') st') := h2
    rw [if_pos rfl] at h2'
    show (if id' = id' then _ else _)
    rw [if_pos rfl]; exact ⟨rfl, st', E', h2', h3⟩
   ·have h2' : (if id' = id then Q .normal st' else Q (.exit id') st') := h2
    rw [if_neg hid] at h2'
    show (if id' = id then _ else _)
    rw [if_neg hid]; exact ⟨rfl, st', E', h2', h3⟩
  | ret => exact ⟨rfl, st', E', h2, h3⟩
  | _ => cases h1)
def cv : Value → AV
 | .int k n => .int k n
 | .bool b => .bool b
 | .string s => .str s
 | .slice none 0 0 => .lst [] true true
 | .pointer none => .nilp
 | .nilIface => .niface
 | _ => .undef
def opv (T : List AV) : Operand → AV
 | .tmp t => T.getD t .undef
 | .const v => cv v
 | .func f => .fn f []
 | .global _ => .undef
theorem cv_rel (E : Env) (v : Value) : V3 E (cv v) v := by
 unfold cv
 split
 ·exact RV.int _ _
 ·exact RV.bool _
 ·exact RV.str _
 ·exact RV.lst (PB := fun _ => False) (sz := 0) (vs := fun _ _ => undef) (fun _ h => h.elim) ⟨Nat.le_refl _, Nat.zero_le _⟩ (fun _ => rfl) (fun i row h => by simp at h) (fun h => by simp at h) (fun i j row a h => by simp at h)
 ·exact RV.nilp
 ·exact RV.niface
 ·exact RV.undef _
theorem opv_rel {E : Env} {T : List AV} {a : Act} (h : ∀ t, V3 E (T.getD t .undef) (a.tmps.getD t undef)) (x : Operand) : V3 E (opv T x) (a.eval x) := by
 cases x with
 | tmp t => exact h t
 | const v => exact cv_rel E v
 | global g => exact RV.undef _
 | func f => exact ⟨[], rfl, PW.nil⟩
def bcond (b : Bool) (x y : Prop) : Prop := (b = true → x) ∧ (b = false → y)
def asB (v : AV) (k : Bool → Prop) : Prop := match v with
 | .bool b => k b
 | _ => False
theorem asB_inv {v : AV} {k : Bool → Prop} (h : asB v k) : ∃ b, v = .bool b ∧ k b := by
 cases v <;> first | exact ⟨_, rfl, h⟩ | exact h.elim
theorem V3.bool_inv {E : Env} {b : Bool} {v : Value} (h : V3 E (.bool b) v) : v = .bool b := by
 have h' : RV E.w E.PA E.PF (.bool b) v := h
 cases h'; rfl
theorem V3.int_inv {E : Env} {k : IntKind} {n : Int} {v : Value} (h : V3 E (.int k n) v) : v = .int k n := by
 have h' : RV E.w E.PA E.PF (.int k n) v := h
 cases h'; rfl
theorem V3.str_inv {E : Env} {s : ByteArray} {v : Value} (h : V3 E (.str s) v) : v = .string s := by
 have h' : RV E.w E.PA E.PF (.str s) v := h
 cases h'; rfl
theorem WpS.cond {c : Operand} {x y : Code} (h : asB (opv st.T c) fun b => bcond b (WpS P x Q st) (WpS P y Q st)) : WpS P (.cond c x y) Q st := fun E0 E a g s d => by
 obtain ⟨b, hb, h1, h2⟩ := asB_inv h
 have hv := opv_rel s.slots c
 rw [hb] at hv
 have he : a.eval c = .bool b := V3.bool_inv hv
 exact wp_cond_split he (fun e => h1 e E0 E a g s d) (fun e => h2 e E0 E a g s d)
def QLoop (I : Nat → St → Prop) (n : Nat) (Q : Exit → St → Prop) (ex : Exit) (s : St) : Prop := match ex with
 | .normal => ∃ n' s', n' < n ∧ Weak s s' ∧ I n' s'
 | ex => Q ex s
theorem WpS.loop {c : Code} (I : Nat → St → Prop) (n : Nat) (h0 : I n st) (round : ∀ n s, I n s → WpS P c (QLoop I n Q) s) : WpS P (.loop c) Q st := by
 intro E0 E a g s d b k cs
 have key : ∀ n (a : Act) (E : Env) st, I n st → Good E0 E → Sim E st a.tmps → a.defers = [] →
   ∃ e a' w', PostS E0 Q e a' w' ∧ Arrives P (lone (b.at a (.code c :: .inLoop c :: k)) cs E.w) b k cs e a' w' := by
  intro n
  induction n using Nat.strongRecOn with
  | _ n ih =>
   intro a E st hI g s d
   obtain ⟨e, a₁, w₁, hq, harr⟩ := round n st hI E0 E a g s d b (.inLoop c :: k) cs
   obtain ⟨he, st1, E1, hq, hw, g1, s1, d1⟩ := hq
   cases e with
   | normal =>
    obtain ⟨n', s', hlt, hweak, hI'⟩ := hq
    obtain ⟨E2, e2, g2, s2⟩ := hweak E0 E1 a₁.tmps g1 s1
    obtain ⟨e₂, a₂, w₂, hq₂, harr₂⟩ := ih n' hlt a₁ E2 s' hI' g2 s2 d1
    rw [e2, hw] at harr₂
    exact ⟨e₂, a₂, w₂, hq₂, .of_steps (Steps.trans harr (.one step_inLoop)) harr₂⟩
   | exit id => exact ⟨_, a₁, w₁, ⟨rfl, st1, E1, hq, hw, g1, s1, d1⟩, .pass (x := .inLoop c) rfl (fun _ _ => .inl (by simp)) harr⟩
   | ret => exact ⟨_, a₁, w₁, ⟨rfl, st1, E1, hq, hw, g1, s1, d1⟩, .pass (x := .inLoop c) rfl (fun _ _ => .inl (by simp)) harr⟩
   | _ => cases he
 obtain ⟨e, a', w', hq, harr⟩ := key n a E st h0 g s d
 exact ⟨e, a', w', hq, .of_steps (.one step_loop) harr⟩
end
end Go.Proofs.Ytglpfccgmfhkdaa.Fw
