/- The framework, part A: abstract values, how they stand for Go's values in a world, and what stays as it is when the world grows. -/

import Derived.WalkKit
import Derived.KernelRfl
import Derived.Orders
set_option linter.unusedVariables false
namespace Go.Proofs.Ytglpfccgmfhkdaa.Fw
open Go
inductive AV where
 | undef
 | int (k : IntKind) (n : Int)
 | bool (b : Bool)
 | str (s : ByteArray)
 | lst (rows : List (List AV)) (full fresh : Bool)
 | ref (b g off n : Nat) (full : Bool)
 | ptr (b g row col : Nat)
 | lptr (t col : Nat)
 | rp (cells : List AV) (col : Nat)
 | nilp
 | niface
 | agg (cells : List AV)
 | tup (vs : List AV)
 | fn (f : FuncId) (caps : List AV)
 deriving Inhabited
structure Blk where
 gen : Nat
 sz : Nat
 rows : List (List AV)
 deriving Inhabited
structure St where
 T : List AV
 L : List (Nat × List AV)
 H : List Blk
def PW {α β : Type} (R : α → β → Prop) (l : List α) (m : List β) : Prop :=
 l.length = m.length ∧ ∀ (i : Nat) (a : α) (b : β), l[i]? = some a → m[i]? = some b → R a b
theorem PW.nil {α β : Type} {R : α → β → Prop} : PW R [] [] := ⟨rfl, fun i a b h => by simp at h⟩
theorem PW.cons {α β : Type} {R : α → β → Prop} {a : α} {b : β} {l : List α} {m : List β} (h : R a b) (k : PW R l m) : PW R (a :: l) (b :: m) :=
 ⟨by simp [k.1], fun i x y hx hy => by
  cases i with
  | zero => simp at hx hy; subst hx; subst hy; exact h
  | succ i => exact k.2 i x y (by simpa using hx) (by simpa using hy)⟩
theorem PW.head {α β : Type} {R : α → β → Prop} {a : α} {b : β} {l : List α} {m : List β} (h : PW R (a :: l) (b :: m)) : R a b := h.2 0 a b rfl rfl
theorem PW.tail {α β : Type} {R : α → β → Prop} {a : α} {b : β} {l : List α} {m : List β} (h : PW R (a :: l) (b :: m)) : PW R l m :=
 ⟨by simpa using h.1, fun i x y hx hy => h.2 (i + 1) x y (by simpa using hx) (by simpa using hy)⟩
theorem PW.mono {α β : Type} {R R' : α → β → Prop} {l : List α} {m : List β} (h : PW R l m) (hr : ∀ a b, R a b → R' a b) : PW R' l m :=
 ⟨h.1, fun i a b x y => hr _ _ (h.2 i a b x y)⟩
theorem PW.get {α β : Type} {R : α → β → Prop} {l : List α} {m : List β} (h : PW R l m) {i : Nat} {a : α} (ha : l[i]? = some a) : ∃ b, m[i]? = some b ∧ R a b := by
 have hi : i < l.length := (List.getElem?_eq_some_iff.1 ha).1
 have hm : i < m.length := h.1 ▸ hi
 exact ⟨m[i], List.getElem?_eq_getElem hm, h.2 i a _ ha (List.getElem?_eq_getElem hm)⟩
theorem PW.nil_inv {α β : Type} {R : α → β → Prop} {m : List β} (h : PW R [] m) : m = [] := by
 have := h.1; exact List.eq_nil_of_length_eq_zero (by simpa using this.symm)
theorem PW.cons_inv {α β : Type} {R : α → β → Prop} {a : α} {l : List α} {m : List β} (h : PW R (a :: l) m) : ∃ b m', m = b :: m' ∧ R a b ∧ PW R l m' := by
 cases m with
 | nil => have := h.1; simp at this
 | cons b m' => exact ⟨b, m', rfl, h.head, h.tail⟩
theorem PW.append {α β : Type} {R : α → β → Prop} {l l' : List α} {m m' : List β} (h : PW R l m) (k : PW R l' m') : PW R (l ++ l') (m ++ m') := by
 refine ⟨by simp [h.1, k.1], fun i a b ha hb => ?_⟩
 rcases Nat.lt_or_ge i l.length with hi | hi
 ·rw [List.getElem?_append_left hi] at ha
  rw [List.getElem?_append_left (h.1 ▸ hi)] at hb
  exact h.2 i a b ha hb
 ·rw [List.getElem?_append_right hi] at ha
  rw [List.getElem?_append_right (h.1 ▸ hi), ← h.1] at hb
  exact k.2 _ a b ha hb
theorem PW.set {α β : Type} {R : α → β → Prop} {l : List α} {m : List β} (h : PW R l m) (i : Nat) {a : α} {b : β} (hr : R a b) : PW R (l.set i a) (m.set i b) := by
 refine ⟨by simp [h.1], fun j x y hx hy => ?_⟩
 by_cases hj : i = j
 ·subst hj
  rw [List.getElem?_set_self'] at hx hy
  cases hl : l[i]? with
  | none => simp [hl] at hx
  | some a0 =>
   cases hm : m[i]? with
   | none => simp [hm] at hy
   | some b0 => simp [hl] at hx; simp [hm] at hy; subst hx; subst hy; exact hr
 ·rw [List.getElem?_set_ne hj] at hx hy
  exact h.2 j x y hx hy
inductive RV (w : World) : (Nat → Prop) → (Nat → Prop) → AV → Value → Prop where
 | undef {PA PF : Nat → Prop} (v : Value) : RV w PA PF .undef v
 | int {PA PF : Nat → Prop} (k : IntKind) (n : Int) : RV w PA PF (.int k n) (.int k n)
 | bool {PA PF : Nat → Prop} (b : Bool) : RV w PA PF (.bool b) (.bool b)
 | str {PA PF : Nat → Prop} (s : ByteArray) : RV w PA PF (.str s) (.string s)
 | lst {PA PF PB : Nat → Prop} {rows : List (List AV)} {full fresh : Bool} {A : Option Addr} {cap sz : Nat} {vs : Nat → Nat → Value}
   (hPB : ∀ c, PB c → if fresh = true then PF c else PA c)
   (hcap : rows.length ≤ cap ∧ rows.length ≤ 4611686018427387904) (hfull : full = true → cap = rows.length)
   (hsz : ∀ (i : Nat) (row : List AV), rows[i]? = some row → row.length = sz)
   (hcell : 0 < rows.length → ∃ c o, A = some ⟨c, o, none⟩ ∧ PB c ∧ ∀ i j, i < rows.length → j < sz → w.cell? ⟨c, o + (i * sz + j), none⟩ = some (vs i j))
   (hrel : ∀ (i j : Nat) (row : List AV) (a : AV), rows[i]? = some row → row[j]? = some a → RV w PB (fun _ => False) a (vs i j)) :
   RV w PA PF (.lst rows full fresh) (.slice A rows.length cap)
 | rp {PA PF : Nat → Prop} {cells : List AV} {col c o : Nat} {vs : Nat → Value} (hc : PA c)
   (hcell : ∀ j, j < cells.length → w.cell? ⟨c, o + j, none⟩ = some (vs j))
   (hrel : ∀ (j : Nat) (a : AV), cells[j]? = some a → RV w PA (fun _ => False) a (vs j)) : RV w PA PF (.rp cells col) (.pointer (some ⟨c, o + col, none⟩))
 | nilp {PA PF : Nat → Prop} : RV w PA PF .nilp (.pointer none)
 | niface {PA PF : Nat → Prop} : RV w PA PF .niface .nilIface
 | fn {PA PF : Nat → Prop} {f : FuncId} {caps : List AV} {vs : List Value} (hl : caps.length = vs.length)
   (hrel : ∀ (i : Nat) (a : AV) (v : Value), caps[i]? = some a → vs[i]? = some v → RV w PA (fun _ => False) a v) : RV w PA PF (.fn f caps) (.func (.func f) #[] vs.toArray)
theorem cell_same {w w' : World} {c o : Nat} (h : w'.heap[c]? = w.heap[c]?) : w'.cell? ⟨c, o, none⟩ = w.cell? ⟨c, o, none⟩ := by
 simp [World.cell?, h]
theorem RV.mono {w w' : World} {PA PF : Nat → Prop} {a : AV} {v : Value} (h : RV w PA PF a v) :
  ∀ {PA' PF' : Nat → Prop}, (∀ c, PA c → w'.heap[c]? = w.heap[c]?) → (∀ c, PF c → w'.heap[c]? = w.heap[c]?) → (∀ c, PA c → PA' c) → (∀ c, PF c → PF' c) → RV w' PA' PF' a v := by
 induction h with
 | undef v => intros; exact .undef v
 | int k n => intros; exact .int k n
 | bool b => intros; exact .bool b
 | str s => intros; exact .str s
 | @lst PA PF PB rows full fresh A cap sz vs hPB hcap hfull hsz hcell hrel ih =>
  intro PA' PF' hw hw2 ha hf
  have hPBw : ∀ c, PB c → w'.heap[c]? = w.heap[c]? := fun c hc => by
   have := hPB c hc
   split at this
   ·exact hw2 c this
   ·exact hw c this
  refine .lst (PB := PB) (sz := sz) (vs := vs) (fun c hc => ?_) hcap hfull hsz (fun hn => ?_) (fun i j row a hr hj => ?_)
  ·have := hPB c hc
   split
   ·rename_i h; rw [if_pos h] at this; exact hf c this
   ·rename_i h; rw [if_neg h] at this; exact ha c this
  ·obtain ⟨c, o, e, hc, hall⟩ := hcell hn
   exact ⟨c, o, e, hc, fun i j hi hj => by rw [cell_same (hPBw c hc)]; exact hall i j hi hj⟩
  ·exact ih i j row a hr hj hPBw (fun c hc => hc.elim) (fun c hc => hc) (fun c hc => hc)
 | @rp PA PF cells col c o vs hc hcell hrel ih =>
  intro PA' PF' hw hw2 ha hf
  refine .rp (ha c hc) (vs := vs) (fun j hj => ?_) (fun j a hj => ih j a hj hw (fun c hc => hc.elim) ha (fun c hc => hc))
  rw [cell_same (hw c hc)]; exact hcell j hj
 | nilp => intros; exact .nilp
 | niface => intros; exact .niface
 | fn hl hrel ih =>
  intro PA' PF' hw hw2 ha hf
  exact .fn hl (fun i a v h1 h2 => ih i a v h1 h2 hw (fun c hc => hc.elim) ha (fun c hc => hc))
theorem RV.one {w : World} {PA PF : Nat → Prop} {a : AV} {v : Value} (h : RV w PA PF a v) (hu : a ≠ .undef) : v.oneCell' = true := by
 cases h <;> first | rfl | exact absurd rfl hu
structure Env where
 w : World
 PA : Nat → Prop
 PF : Nat → Prop
 m : Nat → Option (Option Nat)
 gen : Nat → Nat
 sz : Nat → Nat
 cp : Nat → Nat
 mL : Nat → Option Nat
def V0 (E : Env) : AV → Value → Prop
 | .ref b g off n full, v => (g < E.gen b ∧ ∃ A cap, v = .slice A n cap) ∨ (g = E.gen b ∧ ((E.m b = some none ∧ off = 0 ∧ n = 0 ∧ ∃ A, v = .slice A 0 0) ∨
   ∃ c cap, E.m b = some (some c) ∧ v = .slice (some ⟨c, off * E.sz b, none⟩) n cap ∧ n ≤ cap ∧ (full = true → cap = n) ∧ off + cap ≤ E.cp b))
 | .ptr b g r c, v => (g < E.gen b ∧ ∃ bl o, v = .pointer (some ⟨bl, o, none⟩)) ∨ (g = E.gen b ∧ ∃ bl, E.m b = some (some bl) ∧ v = .pointer (some ⟨bl, r * E.sz b + c, none⟩))
 | .lptr t c, v => ∃ bl, E.mL t = some bl ∧ v = .pointer (some ⟨bl, c, none⟩)
 | a, v => RV E.w E.PA E.PF a v
def V1 (E : Env) : AV → Value → Prop
 | .fn f caps, v => ∃ vs : List Value, v = .func (.func f) #[] vs.toArray ∧ PW (V0 E) caps vs
 | a, v => V0 E a v
def V2 (E : Env) : AV → Value → Prop
 | .agg cells, v => ∃ vs : List Value, v = .agg vs.toArray ∧ PW (V1 E) cells vs
 | a, v => V1 E a v
def V3 (E : Env) : AV → Value → Prop
 | .tup l, v => ∃ vs : List Value, v = .tuple vs.toArray ∧ PW (V2 E) l vs
 | a, v => V2 E a v
structure Env.Le (E E' : Env) : Prop where
 pa : ∀ c, E.PA c → E'.PA c
 pf : ∀ c, E.PF c → E'.PF c
 wa : ∀ c, E.PA c → E'.w.heap[c]? = E.w.heap[c]?
 wf : ∀ c, E.PF c → E'.w.heap[c]? = E.w.heap[c]?
 gen : ∀ b, E.gen b ≤ E'.gen b
 m : ∀ b x, E.m b = some x → E'.gen b = E.gen b → E'.m b = some x ∧ E'.sz b = E.sz b ∧ E'.cp b = E.cp b
 mL : ∀ t c, E.mL t = some c → E'.mL t = some c
theorem Env.Le.refl (E : Env) : E.Le E := ⟨fun _ h => h, fun _ h => h, fun _ _ => rfl, fun _ _ => rfl, fun _ => Nat.le_refl _, fun _ _ h _ => ⟨h, rfl, rfl⟩, fun _ _ h => h⟩
theorem Env.Le.trans {A B C : Env} (h : A.Le B) (k : B.Le C) : A.Le C :=
 ⟨fun c x => k.pa c (h.pa c x), fun c x => k.pf c (h.pf c x), fun c x => (k.wa c (h.pa c x)).trans (h.wa c x), fun c x => (k.wf c (h.pf c x)).trans (h.wf c x),
  fun b => Nat.le_trans (h.gen b) (k.gen b), fun b x hx hg => by
   have h1 : B.gen b = A.gen b := Nat.le_antisymm (hg ▸ k.gen b) (h.gen b)
   have h2 : C.gen b = B.gen b := hg.trans h1.symm
   obtain ⟨m1, s1, c1⟩ := h.m b x hx h1
   obtain ⟨m2, s2, c2⟩ := k.m b x m1 h2
   exact ⟨m2, s2.trans s1, c2.trans c1⟩,
  fun t c x => k.mL t c (h.mL t c x)⟩
theorem V0.le {E E' : Env} (h : E.Le E') {a : AV} {v : Value} (hv : V0 E a v) : V0 E' a v := by
 have hrv : ∀ a v, RV E.w E.PA E.PF a v → RV E'.w E'.PA E'.PF a v := fun a v k => k.mono h.wa h.wf h.pa h.pf
 cases a with
 | ref b g off n full =>
  rcases hv with ⟨hv, h1⟩ | ⟨hg, hv⟩
  ·exact .inl ⟨Nat.lt_of_lt_of_le hv (h.gen b), h1⟩
  ·rcases Nat.lt_or_ge (E.gen b) (E'.gen b) with hlt | hge
   ·refine .inl ⟨hg ▸ hlt, ?_⟩
    rcases hv with ⟨hm, ho, rfl, A, rfl⟩ | ⟨c, cap, hm, rfl, h1, h2, h3⟩ <;> exact ⟨_, _, rfl⟩
   ·have he : E'.gen b = E.gen b := Nat.le_antisymm hge (h.gen b)
    refine .inr ⟨by rw [he]; exact hg, ?_⟩
    rcases hv with ⟨hm, ho, hn, A, hA⟩ | ⟨c, cap, hm, e, h1, h2, h3⟩
    ·exact .inl ⟨(h.m b _ hm he).1, ho, hn, A, hA⟩
    ·obtain ⟨m1, s1, c1⟩ := h.m b _ hm he
     exact .inr ⟨c, cap, m1, by rw [s1]; exact e, h1, h2, by rw [c1]; exact h3⟩
 | ptr b g r c =>
  rcases hv with ⟨hv, h1⟩ | ⟨hg, bl, hm, e⟩
  ·exact .inl ⟨Nat.lt_of_lt_of_le hv (h.gen b), h1⟩
  ·rcases Nat.lt_or_ge (E.gen b) (E'.gen b) with hlt | hge
   ·exact .inl ⟨hg ▸ hlt, _, _, e⟩
   ·have he : E'.gen b = E.gen b := Nat.le_antisymm hge (h.gen b)
    obtain ⟨m1, s1, c1⟩ := h.m b _ hm he
    exact .inr ⟨by rw [he]; exact hg, bl, m1, by rw [s1]; exact e⟩
 | lptr t c =>
  obtain ⟨bl, hm, e⟩ := hv
  exact ⟨bl, h.mL _ _ hm, e⟩
 | _ => exact hrv _ _ hv
theorem V1_eq {E : Env} {a : AV} {v : Value} (h : ∀ f caps, a ≠ .fn f caps) : V1 E a v = V0 E a v := by
 cases a <;> first | rfl | exact absurd rfl (h _ _)
theorem V2_eq {E : Env} {a : AV} {v : Value} (h : ∀ l, a ≠ .agg l) : V2 E a v = V1 E a v := by
 cases a <;> first | rfl | exact absurd rfl (h _)
theorem V3_eq {E : Env} {a : AV} {v : Value} (h : ∀ l, a ≠ .tup l) : V3 E a v = V2 E a v := by
 cases a <;> first | rfl | exact absurd rfl (h _)
theorem V1.le {E E' : Env} (h : E.Le E') {a : AV} {v : Value} (hv : V1 E a v) : V1 E' a v := by
 by_cases hf : ∃ f caps, a = .fn f caps
 ·obtain ⟨f, caps, rfl⟩ := hf
  obtain ⟨vs, e, hp⟩ := hv
  exact ⟨vs, e, hp.mono fun _ _ k => k.le h⟩
 ·rw [V1_eq fun f c e => hf ⟨f, c, e⟩] at hv ⊢
  exact hv.le h
theorem V2.le {E E' : Env} (h : E.Le E') {a : AV} {v : Value} (hv : V2 E a v) : V2 E' a v := by
 by_cases hf : ∃ l, a = .agg l
 ·obtain ⟨l, rfl⟩ := hf
  obtain ⟨vs, e, hp⟩ := hv
  exact ⟨vs, e, hp.mono fun _ _ k => k.le h⟩
 ·rw [V2_eq fun l e => hf ⟨l, e⟩] at hv ⊢
  exact hv.le h
theorem V3.le {E E' : Env} (h : E.Le E') {a : AV} {v : Value} (hv : V3 E a v) : V3 E' a v := by
 by_cases hf : ∃ l, a = .tup l
 ·obtain ⟨l, rfl⟩ := hf
  obtain ⟨vs, e, hp⟩ := hv
  exact ⟨vs, e, hp.mono fun _ _ k => k.le h⟩
 ·rw [V3_eq fun l e => hf ⟨l, e⟩] at hv ⊢
  exact hv.le h
theorem RV.v0 {E : Env} {a : AV} {v : Value} (h : RV E.w E.PA E.PF a v) : V0 E a v := by
 cases a <;> first | exact h | cases h
theorem RV.v1 {E : Env} {a : AV} {v : Value} (h : RV E.w E.PA E.PF a v) : V1 E a v := by
 by_cases hf : ∃ f caps, a = .fn f caps
 ·obtain ⟨f, caps, rfl⟩ := hf
  cases h with
  | fn hl hrel => exact ⟨_, rfl, hl, fun i a v h1 h2 => ((hrel i a v h1 h2).mono (fun _ _ => rfl) (fun _ h => h.elim) (fun _ h => h) (fun _ h => h.elim)).v0⟩
 ·rw [V1_eq fun f c e => hf ⟨f, c, e⟩]
  exact h.v0
theorem V1.undef (E : Env) (v : Value) : V1 E .undef v := RV.undef v
theorem V3.undef (E : Env) (v : Value) : V3 E .undef v := RV.undef v
def AV.cell1 : AV → Bool
 | .undef | .agg _ | .tup _ => false
 | _ => true
theorem V1.one {E : Env} {a : AV} {v : Value} (h : V1 E a v) (hc : a.cell1 = true) : True := trivial
end Go.Proofs.Ytglpfccgmfhkdaa.Fw
