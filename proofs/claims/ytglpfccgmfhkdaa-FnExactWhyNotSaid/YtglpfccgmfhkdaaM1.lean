/- The framework, part A: abstract values, how they stand for Go's values in a world, and what stays as it is when the world grows. -/
import Derived.WalkKit
import Derived.KernelRfl
import Derived.Orders
import Derived.Laws.StructEq
import Derived.ChangeArms
import Derived.ChangeShapes
import Derived.SizedLaws
import Derived.Below
import Derived.JoinedOf
import Derived.Test.YtglpfccgmfhkdaaProg

set_option linter.unusedVariables false
namespace Go.Proofs.Ytglpfccgmfhkdaa.Fw
open Go
inductive AV where
 | undef
 | int (k : IntKind) (n : Int)
 | bool (b : Bool)
 | str (s : ByteArray)
 | lst (rows : List (List AV)) (full fresh : Bool)
 | ref (b g off n : Nat) (full : Bool)
 | ptr (b g row col : Nat)
 | lptr (t col : Nat)
 | rp (cells : List AV) (col : Nat)
 | nilp
 | niface
 | agg (cells : List AV)
 | tup (vs : List AV)
 | fn (f : FuncId) (caps : List AV)
 deriving Inhabited
structure Blk where
 gen : Nat
 sz : Nat
 rows : List (List AV)
 deriving Inhabited
structure St where
 T : List AV
 L : List (Nat × List AV)
 H : List Blk
def PW {α β : Type} (R : α → β → Prop) (l : List α) (m : List β) : Prop :=
 l.length = m.length ∧ ∀ (i : Nat) (a : α) (b : β), l[i]? = some a → m[i]? = some b → R a b
theorem PW.nil {α β : Type} {R : α → β → Prop} : PW R [] [] := ⟨rfl, fun i a b h => by simp at h⟩
theorem PW.cons {α β : Type} {R : α → β → Prop} {a : α} {b : β} {l : List α} {m : List β} (h : R a b) (k : PW R l m) : PW R (a :: l) (b :: m) :=
 ⟨by simp [k.1], fun i x y hx hy => by
  cases i with
  | zero => simp at hx hy; subst hx; subst hy; exact h
  | succ i => exact k.2 i x y (by simpa using hx) (by simpa using hy)⟩
theorem PW.head {α β : Type} {R : α → β → Prop} {a : α} {b : β} {l : List α} {m : List β} (h : PW R (a :: l) (b :: m)) : R a b := h.2 0 a b rfl rfl
theorem PW.tail {α β : Type} {R : α → β → Prop} {a : α} {b : β} {l : List α} {m : List β} (h : PW R (a :: l) (b :: m)) : PW R l m :=
 ⟨by simpa using h.1, fun i x y hx hy => h.2 (i + 1) x y (by simpa using hx) (by simpa using hy)⟩
theorem PW.mono {α β : Type} {R R' : α → β → Prop} {l : List α} {m : List β} (h : PW R l m) (hr : ∀ a b, R a b → R' a b) : PW R' l m :=
 ⟨h.1, fun i a b x y => hr _ _ (h.2 i a b x y)⟩
theorem PW.get {α β : Type} {R : α → β → Prop} {l : List α} {m : List β} (h : PW R l m) {i : Nat} {a : α} (ha : l[i]? = some a) : ∃ b, m[i]? = some b ∧ R a b := by
 have hi : i < l.length := (List.getElem?_eq_some_iff.1 ha).1
 have hm : i < m.length := h.1 ▸ hi
 exact ⟨m[i], List.getElem?_eq_getElem hm, h.2 i a _ ha (List.getElem?_eq_getElem hm)⟩
theorem PW.nil_inv {α β : Type} {R : α → β → Prop} {m : List β} (h : PW R [] m) : m = [] := by
 have := h.1; exact List.eq_nil_of_length_eq_zero (by simpa using this.symm)
theorem PW.cons_inv {α β : Type} {R : α → β → Prop} {a : α} {l : List α} {m : List β} (h : PW R (a :: l) m) : ∃ b m', m = b :: m' ∧ R a b ∧ PW R l m' := by
 cases m with
 | nil => have := h.1; simp at this
 | cons b m' => exact ⟨b, m', rfl, h.head, h.tail⟩
theorem PW.append {α β : Type} {R : α → β → Prop} {l l' : List α} {m m' : List β} (h : PW R l m) (k : PW R l' m') : PW R (l ++ l') (m ++ m') := by
 refine ⟨by simp [h.1, k.1], fun i a b ha hb => ?_⟩
 rcases Nat.lt_or_ge i l.length with hi | hi
 ·rw [List.getElem?_append_left hi] at ha
  rw [List.getElem?_append_left (h.1 ▸ hi)] at hb
  exact h.2 i a b ha hb
 ·rw [List.getElem?_append_right hi] at ha
  rw [List.getElem?_append_right (h.1 ▸ hi), ← h.1] at hb
  exact k.2 _ a b ha hb
theorem PW.set {α β : Type} {R : α → β → Prop} {l : List α} {m : List β} (h : PW R l m) (i : Nat) {a : α} {b : β} (hr : R a b) : PW R (l.set i a) (m.set i b) := by
 refine ⟨by simp [h.1], fun j x y hx hy => ?_⟩
 by_cases hj : i = j
 ·subst hj
  rw [List.getElem?_set_self'] at hx hy
  cases hl : l[i]? with
  | none => simp [hl] at hx
  | some a0 =>
   cases hm : m[i]? with
   | none => simp [hm] at hy
   | some b0 => simp [hl] at hx; simp [hm] at hy; subst hx; subst hy; exact hr
 ·rw [List.getElem?_set_ne hj] at hx hy
  exact h.2 j x y hx hy
inductive RV (w : World) : (Nat → Prop) → (Nat → Prop) → AV → Value → Prop where
 | undef {PA PF : Nat → Prop} (v : Value) : RV w PA PF .undef v
 | int {PA PF : Nat → Prop} (k : IntKind) (n : Int) : RV w PA PF (.int k n) (.int k n)
 | bool {PA PF : Nat → Prop} (b : Bool) : RV w PA PF (.bool b) (.bool b)
 | str {PA PF : Nat → Prop} (s : ByteArray) : RV w PA PF (.str s) (.string s)
 | lst {PA PF PB : Nat → Prop} {rows : List (List AV)} {full fresh : Bool} {A : Option Addr} {cap sz : Nat} {vs : Nat → Nat → Value}
   (hPB : ∀ c, PB c → if fresh = true then PF c else PA c)
   (hcap : rows.length ≤ cap ∧ rows.length ≤ 4611686018427387904) (hfull : full = true → cap = rows.length)
   (hsz : ∀ (i : Nat) (row : List AV), rows[i]? = some row → row.length = sz)
   (hcell : 0 < rows.length → ∃ c o, A = some ⟨c, o, none⟩ ∧ PB c ∧ ∀ i j, i < rows.length → j < sz → w.cell? ⟨c, o + (i * sz + j), none⟩ = some (vs i j))
   (hrel : ∀ (i j : Nat) (row : List AV) (a : AV), rows[i]? = some row → row[j]? = some a → RV w PB (fun _ => False) a (vs i j)) :
   RV w PA PF (.lst rows full fresh) (.slice A rows.length cap)
 | rp {PA PF : Nat → Prop} {cells : List AV} {col c o : Nat} {vs : Nat → Value} (hc : PA c)
   (hcell : ∀ j, j < cells.length → w.cell? ⟨c, o + j, none⟩ = some (vs j))
   (hrel : ∀ (j : Nat) (a : AV), cells[j]? = some a → RV w PA (fun _ => False) a (vs j)) : RV w PA PF (.rp cells col) (.pointer (some ⟨c, o + col, none⟩))
 | nilp {PA PF : Nat → Prop} : RV w PA PF .nilp (.pointer none)
 | niface {PA PF : Nat → Prop} : RV w PA PF .niface .nilIface
 | fn {PA PF : Nat → Prop} {f : FuncId} {caps : List AV} {vs : List Value} (hl : caps.length = vs.length)
   (hrel : ∀ (i : Nat) (a : AV) (v : Value), caps[i]? = some a → vs[i]? = some v → RV w PA (fun _ => False) a v) : RV w PA PF (.fn f caps) (.func (.func f) #[] vs.toArray)
theorem cell_same {w w' : World} {c o : Nat} (h : w'.heap[c]? = w.heap[c]?) : w'.cell? ⟨c, o, none⟩ = w.cell? ⟨c, o, none⟩ := by
 simp [World.cell?, h]
theorem RV.mono {w w' : World} {PA PF : Nat → Prop} {a : AV} {v : Value} (h : RV w PA PF a v) :
  ∀ {PA' PF' : Nat → Prop}, (∀ c, PA c → w'.heap[c]? = w.heap[c]?) → (∀ c, PF c → w'.heap[c]? = w.heap[c]?) → (∀ c, PA c → PA' c) → (∀ c, PF c → PF' c) → RV w' PA' PF' a v := by
 induction h with
 | undef v => intros; exact .undef v
 | int k n => intros; exact .int k n
 | bool b => intros; exact .bool b
 | str s => intros; exact .str s
 | @lst PA PF PB rows full fresh A cap sz vs hPB hcap hfull hsz hcell hrel ih =>
  intro PA' PF' hw hw2 ha hf
  have hPBw : ∀ c, PB c → w'.heap[c]? = w.heap[c]? := fun c hc => by
   have := hPB c hc
   split at this
   ·exact hw2 c this
   ·exact hw c this
  refine .lst (PB := PB) (sz := sz) (vs := vs) (fun c hc => ?_) hcap hfull hsz (fun hn => ?_) (fun i j row a hr hj => ?_)
  ·have := hPB c hc
   split
   ·rename_i h; rw [if_pos h] at this; exact hf c this
   ·rename_i h; rw [if_neg h] at this; exact ha c this
  ·obtain ⟨c, o, e, hc, hall⟩ := hcell hn
   exact ⟨c, o, e, hc, fun i j hi hj => by rw [cell_same (hPBw c hc)]; exact hall i j hi hj⟩
  ·exact ih i j row a hr hj hPBw (fun c hc => hc.elim) (fun c hc => hc) (fun c hc => hc)
 | @rp PA PF cells col c o vs hc hcell hrel ih =>
  intro PA' PF' hw hw2 ha hf
  refine .rp (ha c hc) (vs := vs) (fun j hj => ?_) (fun j a hj => ih j a hj hw (fun c hc => hc.elim) ha (fun c hc => hc))
  rw [cell_same (hw c hc)]; exact hcell j hj
 | nilp => intros; exact .nilp
 | niface => intros; exact .niface
 | fn hl hrel ih =>
  intro PA' PF' hw hw2 ha hf
  exact .fn hl (fun i a v h1 h2 => ih i a v h1 h2 hw (fun c hc => hc.elim) ha (fun c hc => hc))
theorem RV.one {w : World} {PA PF : Nat → Prop} {a : AV} {v : Value} (h : RV w PA PF a v) (hu : a ≠ .undef) : v.oneCell' = true := by
 cases h <;> first | rfl | exact absurd rfl hu
structure Env where
 w : World
 PA : Nat → Prop
 PF : Nat → Prop
 m : Nat → Option (Option Nat)
 gen : Nat → Nat
 sz : Nat → Nat
 cp : Nat → Nat
 mL : Nat → Option Nat
def V0 (E : Env) : AV → Value → Prop
 | .ref b g off n full, v => (g < E.gen b ∧ ∃ A cap, v = .slice A n cap) ∨ (g = E.gen b ∧ ((E.m b = some none ∧ off = 0 ∧ n = 0 ∧ ∃ A, v = .slice A 0 0) ∨
   ∃ c cap, E.m b = some (some c) ∧ v = .slice (some ⟨c, off * E.sz b, none⟩) n cap ∧ n ≤ cap ∧ (full = true → cap = n) ∧ off + cap ≤ E.cp b))
 | .ptr b g r c, v => (g < E.gen b ∧ ∃ bl o, v = .pointer (some ⟨bl, o, none⟩)) ∨ (g = E.gen b ∧ ∃ bl, E.m b = some (some bl) ∧ v = .pointer (some ⟨bl, r * E.sz b + c, none⟩))
 | .lptr t c, v => ∃ bl, E.mL t = some bl ∧ v = .pointer (some ⟨bl, c, none⟩)
 | a, v => RV E.w E.PA E.PF a v
def V1 (E : Env) : AV → Value → Prop
 | .fn f caps, v => ∃ vs : List Value, v = .func (.func f) #[] vs.toArray ∧ PW (V0 E) caps vs
 | a, v => V0 E a v
def V2 (E : Env) : AV → Value → Prop
 | .agg cells, v => ∃ vs : List Value, v = .agg vs.toArray ∧ PW (V1 E) cells vs
 | a, v => V1 E a v
def V3 (E : Env) : AV → Value → Prop
 | .tup l, v => ∃ vs : List Value, v = .tuple vs.toArray ∧ PW (V2 E) l vs
 | a, v => V2 E a v
structure Env.Le (E E' : Env) : Prop where
 pa : ∀ c, E.PA c → E'.PA c
 pf : ∀ c, E.PF c → E'.PF c
 wa : ∀ c, E.PA c → E'.w.heap[c]? = E.w.heap[c]?
 wf : ∀ c, E.PF c → E'.w.heap[c]? = E.w.heap[c]?
 gen : ∀ b, E.gen b ≤ E'.gen b
 m : ∀ b x, E.m b = some x → E'.gen b = E.gen b → E'.m b = some x ∧ E'.sz b = E.sz b ∧ E'.cp b = E.cp b
 mL : ∀ t c, E.mL t = some c → E'.mL t = some c
theorem Env.Le.refl (E : Env) : E.Le E := ⟨fun _ h => h, fun _ h => h, fun _ _ => rfl, fun _ _ => rfl, fun _ => Nat.le_refl _, fun _ _ h _ => ⟨h, rfl, rfl⟩, fun _ _ h => h⟩
theorem Env.Le.trans {A B C : Env} (h : A.Le B) (k : B.Le C) : A.Le C :=
 ⟨fun c x => k.pa c (h.pa c x), fun c x => k.pf c (h.pf c x), fun c x => (k.wa c (h.pa c x)).trans (h.wa c x), fun c x => (k.wf c (h.pf c x)).trans (h.wf c x),
  fun b => Nat.le_trans (h.gen b) (k.gen b), fun b x hx hg => by
   have h1 : B.gen b = A.gen b := Nat.le_antisymm (hg ▸ k.gen b) (h.gen b)
   have h2 : C.gen b = B.gen b := hg.trans h1.symm
   obtain ⟨m1, s1, c1⟩ := h.m b x hx h1
   obtain ⟨m2, s2, c2⟩ := k.m b x m1 h2
   exact ⟨m2, s2.trans s1, c2.trans c1⟩,
  fun t c x => k.mL t c (h.mL t c x)⟩
theorem V0.le {E E' : Env} (h : E.Le E') {a : AV} {v : Value} (hv : V0 E a v) : V0 E' a v := by
 have hrv : ∀ a v, RV E.w E.PA E.PF a v → RV E'.w E'.PA E'.PF a v := fun a v k => k.mono h.wa h.wf h.pa h.pf
 cases a with
 | ref b g off n full =>
  rcases hv with ⟨hv, h1⟩ | ⟨hg, hv⟩
  ·exact .inl ⟨Nat.lt_of_lt_of_le hv (h.gen b), h1⟩
  ·rcases Nat.lt_or_ge (E.gen b) (E'.gen b) with hlt | hge
   ·refine .inl ⟨hg ▸ hlt, ?_⟩
    rcases hv with ⟨hm, ho, rfl, A, rfl⟩ | ⟨c, cap, hm, rfl, h1, h2, h3⟩ <;> exact ⟨_, _, rfl⟩
   ·have he : E'.gen b = E.gen b := Nat.le_antisymm hge (h.gen b)
    refine .inr ⟨by rw [he]; exact hg, ?_⟩
    rcases hv with ⟨hm, ho, hn, A, hA⟩ | ⟨c, cap, hm, e, h1, h2, h3⟩
    ·exact .inl ⟨(h.m b _ hm he).1, ho, hn, A, hA⟩
    ·obtain ⟨m1, s1, c1⟩ := h.m b _ hm he
     exact .inr ⟨c, cap, m1, by rw [s1]; exact e, h1, h2, by rw [c1]; exact h3⟩
 | ptr b g r c =>
  rcases hv with ⟨hv, h1⟩ | ⟨hg, bl, hm, e⟩
  ·exact .inl ⟨Nat.lt_of_lt_of_le hv (h.gen b), h1⟩
  ·rcases Nat.lt_or_ge (E.gen b) (E'.gen b) with hlt | hge
   ·exact .inl ⟨hg ▸ hlt, _, _, e⟩
   ·have he : E'.gen b = E.gen b := Nat.le_antisymm hge (h.gen b)
    obtain ⟨m1, s1, c1⟩ := h.m b _ hm he
    exact .inr ⟨by rw [he]; exact hg, bl, m1, by rw [s1]; exact e⟩
 | lptr t c =>
  obtain ⟨bl, hm, e⟩ := hv
  exact ⟨bl, h.mL _ _ hm, e⟩
 | _ => exact hrv _ _ hv
theorem V1_eq {E : Env} {a : AV} {v : Value} (h : ∀ f caps, a ≠ .fn f caps) : V1 E a v = V0 E a v := by
 cases a <;> first | rfl | exact absurd rfl (h _ _)
theorem V2_eq {E : Env} {a : AV} {v : Value} (h : ∀ l, a ≠ .agg l) : V2 E a v = V1 E a v := by
 cases a <;> first | rfl | exact absurd rfl (h _)
theorem V3_eq {E : Env} {a : AV} {v : Value} (h : ∀ l, a ≠ .tup l) : V3 E a v = V2 E a v := by
 cases a <;> first | rfl | exact absurd rfl (h _)
theorem V1.le {E E' : Env} (h : E.Le E') {a : AV} {v : Value} (hv : V1 E a v) : V1 E' a v := by
 by_cases hf : ∃ f caps, a = .fn f caps
 ·obtain ⟨f, caps, rfl⟩ := hf
  obtain ⟨vs, e, hp⟩ := hv
  exact ⟨vs, e, hp.mono fun _ _ k => k.le h⟩
 ·rw [V1_eq fun f c e => hf ⟨f, c, e⟩] at hv ⊢
  exact hv.le h
theorem V2.le {E E' : Env} (h : E.Le E') {a : AV} {v : Value} (hv : V2 E a v) : V2 E' a v := by
 by_cases hf : ∃ l, a = .agg l
 ·obtain ⟨l, rfl⟩ := hf
  obtain ⟨vs, e, hp⟩ := hv
  exact ⟨vs, e, hp.mono fun _ _ k => k.le h⟩
 ·rw [V2_eq fun l e => hf ⟨l, e⟩] at hv ⊢
  exact hv.le h
theorem V3.le {E E' : Env} (h : E.Le E') {a : AV} {v : Value} (hv : V3 E a v) : V3 E' a v := by
 by_cases hf : ∃ l, a = .tup l
 ·obtain ⟨l, rfl⟩ := hf
  obtain ⟨vs, e, hp⟩ := hv
  exact ⟨vs, e, hp.mono fun _ _ k => k.le h⟩
 ·rw [V3_eq fun l e => hf ⟨l, e⟩] at hv ⊢
  exact hv.le h
theorem RV.v0 {E : Env} {a : AV} {v : Value} (h : RV E.w E.PA E.PF a v) : V0 E a v := by
 cases a <;> first | exact h | cases h
theorem RV.v1 {E : Env} {a : AV} {v : Value} (h : RV E.w E.PA E.PF a v) : V1 E a v := by
 by_cases hf : ∃ f caps, a = .fn f caps
 ·obtain ⟨f, caps, rfl⟩ := hf
  cases h with
  | fn hl hrel => exact ⟨_, rfl, hl, fun i a v h1 h2 => ((hrel i a v h1 h2).mono (fun _ _ => rfl) (fun _ h => h.elim) (fun _ h => h) (fun _ h => h.elim)).v0⟩
 ·rw [V1_eq fun f c e => hf ⟨f, c, e⟩]
  exact h.v0
theorem V1.undef (E : Env) (v : Value) : V1 E .undef v := RV.undef v
theorem V3.undef (E : Env) (v : Value) : V3 E .undef v := RV.undef v
def AV.cell1 : AV → Bool
 | .undef | .agg _ | .tup _ => false
 | _ => true
theorem V1.one {E : Env} {a : AV} {v : Value} (h : V1 E a v) (hc : a.cell1 = true) : True := trivial
end Go.Proofs.Ytglpfccgmfhkdaa.Fw
/- The framework, part B: a state of the abstract machine stands for a frame and a world; rules for the code between the regions. -/

set_option linter.unusedVariables false
namespace Go.Proofs.Ytglpfccgmfhkdaa.Fw
open Go
def getL : List (Nat × List AV) → Nat → Option (List AV)
 | [], _ => none
 | (k, c) :: l, t => if t = k then some c else getL l t
def setL : List (Nat × List AV) → Nat → List AV → List (Nat × List AV)
 | [], _, _ => []
 | (k, c) :: l, t, d => if t = k then (k, d) :: l else (k, c) :: setL l t d
def Env.imgH (E : Env) (c : Nat) : Prop := ∃ b, E.m b = some (some c)
def Env.imgL (E : Env) (c : Nat) : Prop := ∃ t, E.mL t = some c
def Env.noL (E : Env) : Env := { E with mL := fun _ => none }
theorem Env.noL_le (E : Env) : E.noL.Le E := ⟨fun _ h => h, fun _ h => h, fun _ _ => rfl, fun _ _ => rfl, fun _ => Nat.le_refl _, fun _ _ h _ => ⟨h, rfl, rfl⟩, fun _ _ h => by cases h⟩
theorem Env.Le.noL {E E' : Env} (h : E.Le E') : E.noL.Le E'.noL := ⟨h.pa, h.pf, h.wa, h.wf, h.gen, h.m, fun _ _ h => by cases h⟩
def RowsAt (E : Env) (sz : Nat) (rows : List (List AV)) (cs : Array Value) : Prop :=
 (∀ (i : Nat) (row : List AV), rows[i]? = some row → row.length = sz) ∧
 ∀ (i j : Nat) (row : List AV) (a : AV), rows[i]? = some row → row[j]? = some a → ∃ u, cs[i * sz + j]? = some u ∧ V1 E.noL a u
structure SimH (E : Env) (H : List Blk) : Prop where
 heap : ∀ b c, E.m b = some (some c) → ∃ blk cs ty, H[b]? = some blk ∧ E.sz b = blk.sz ∧ E.w.heap[c]? = some (.cells cs ty (0, 0)) ∧ cs.size = E.cp b * E.sz b ∧ blk.rows.length ≤ E.cp b ∧ RowsAt E (E.sz b) blk.rows cs
 gens : ∀ (b : Nat) (blk : Blk), H[b]? = some blk → E.gen b = blk.gen
 nilb : ∀ b, E.m b = some none → ∃ blk, H[b]? = some blk ∧ E.sz b = blk.sz
 fresh : ∀ b, H.length ≤ b → E.m b = none ∧ E.gen b = 0
 injH : ∀ b b' c, E.m b = some (some c) → E.m b' = some (some c) → b = b'
 injL : ∀ t t' c, E.mL t = some c → E.mL t' = some c → t = t'
 injHL : ∀ b t c, E.m b = some (some c) → E.mL t = some c → False
 notH : ∀ c, E.PA c → ¬ E.imgH c
 notL : ∀ c, E.PA c → ¬ E.imgL c
 pfpa : ∀ c, E.PF c → E.PA c
 ltP : ∀ c, E.PA c → c < E.w.heap.size
 ltH : ∀ c, E.imgH c → c < E.w.heap.size
 ltL : ∀ c, E.imgL c → c < E.w.heap.size
def SimL (E : Env) (L : List (Nat × List AV)) : Prop :=
 ∀ t c, E.mL t = some c → ∃ cells cs ty, getL L t = some cells ∧ E.w.heap[c]? = some (.cells cs ty (0, 0)) ∧ PW (V1 E.noL) cells cs.toList
structure Sim (E : Env) (st : St) (tmps : Array Value) : Prop where
 h : SimH E st.H
 l : SimL E st.L
 slots : ∀ t, V3 E (st.T.getD t .undef) (tmps.getD t undef)
 size : st.T.length = tmps.size
structure Step (E E' : Env) : Prop where
 le : E.Le E'
 os : E'.w.os = E.w.os
 tape : E'.w.tape = E.w.tape
 output : E'.w.output = E.w.output
 size : E.w.heap.size ≤ E'.w.heap.size
 keep : ∀ c, c < E.w.heap.size → ¬ E.imgH c → ¬ E.imgL c → E'.w.heap[c]? = E.w.heap[c]?
 imH : ∀ c, E'.imgH c → E.imgH c ∨ E.w.heap.size ≤ c
 imL : ∀ c, E'.imgL c → E.imgL c ∨ E.w.heap.size ≤ c
 pa : ∀ c, E'.PA c → E.PA c ∨ E.w.heap.size ≤ c
 pf : ∀ c, E'.PF c → E.PF c ∨ E.w.heap.size ≤ c
theorem Step.refl (E : Env) : Step E E := ⟨.refl E, rfl, rfl, rfl, Nat.le_refl _, fun _ _ _ _ => rfl, fun _ h => .inl h, fun _ h => .inl h, fun _ h => .inl h, fun _ h => .inl h⟩
theorem Step.trans {A B C : Env} (h : Step A B) (k : Step B C) : Step A C where
 le := h.le.trans k.le
 os := k.os.trans h.os
 tape := k.tape.trans h.tape
 output := k.output.trans h.output
 size := Nat.le_trans h.size k.size
 keep := fun c hc h1 h2 => by
  rw [k.keep c (Nat.lt_of_lt_of_le hc h.size) (fun x => (h.imH c x).elim h1 (fun y => absurd hc (Nat.not_lt.2 y))) (fun x => (h.imL c x).elim h2 (fun y => absurd hc (Nat.not_lt.2 y)))]
  exact h.keep c hc h1 h2
 imH := fun c x => (k.imH c x).elim (fun y => h.imH c y) (fun y => .inr (Nat.le_trans h.size y))
 imL := fun c x => (k.imL c x).elim (fun y => h.imL c y) (fun y => .inr (Nat.le_trans h.size y))
 pa := fun c x => (k.pa c x).elim (fun y => h.pa c y) (fun y => .inr (Nat.le_trans h.size y))
 pf := fun c x => (k.pf c x).elim (fun y => h.pf c y) (fun y => .inr (Nat.le_trans h.size y))
structure Good (E0 E : Env) : Prop where
 noL : ∀ t, E0.mL t = none
 le : E0.Le E
 os : E.w.os = E0.w.os
 tape : E.w.tape = E0.w.tape
 output : E.w.output = E0.w.output
 size : E0.w.heap.size ≤ E.w.heap.size
 keep : ∀ c, c < E0.w.heap.size → ¬ E0.imgH c → E.w.heap[c]? = E0.w.heap[c]?
 imH : ∀ c, E.imgH c → E0.imgH c ∨ E0.w.heap.size ≤ c
 imL : ∀ c, E.imgL c → E0.w.heap.size ≤ c
 pa : ∀ c, E.PA c → E0.PA c ∨ E0.w.heap.size ≤ c
 pf : ∀ c, E.PF c → E0.PF c ∨ E0.w.heap.size ≤ c
theorem Good.refl {E : Env} (h : ∀ t, E.mL t = none) : Good E E :=
 ⟨h, .refl E, rfl, rfl, rfl, Nat.le_refl _, fun _ _ _ => rfl, fun _ x => .inl x, (fun c ⟨t, x⟩ => by rw [h t] at x; cases x), fun _ x => .inl x, fun _ x => .inl x⟩
theorem Good.step {E0 E E' : Env} (h : Good E0 E) (k : Step E E') : Good E0 E' where
 noL := h.noL
 le := h.le.trans k.le
 os := k.os.trans h.os
 tape := k.tape.trans h.tape
 output := k.output.trans h.output
 size := Nat.le_trans h.size k.size
 keep := fun c hc h1 => by
  rw [k.keep c (Nat.lt_of_lt_of_le hc h.size) (fun x => (h.imH c x).elim h1 (fun y => absurd hc (Nat.not_lt.2 y))) (fun x => absurd hc (Nat.not_lt.2 (h.imL c x)))]
  exact h.keep c hc h1
 imH := fun c x => (k.imH c x).elim (fun y => h.imH c y) (fun y => .inr (Nat.le_trans h.size y))
 imL := fun c x => (k.imL c x).elim (fun y => h.imL c y) (fun y => Nat.le_trans h.size y)
 pa := fun c x => (k.pa c x).elim (fun y => h.pa c y) (fun y => .inr (Nat.le_trans h.size y))
 pf := fun c x => (k.pf c x).elim (fun y => h.pf c y) (fun y => .inr (Nat.le_trans h.size y))
def AtEnd (ex : Exit) : Bool := match ex with
 | .normal | .exit _ | .ret => true
 | _ => false
def PostS (E0 : Env) (Q : Exit → St → Prop) (ex : Exit) (a : Act) (w : World) : Prop :=
 AtEnd ex = true ∧ ∃ st E, Q ex st ∧ E.w = w ∧ Good E0 E ∧ Sim E st a.tmps ∧ a.defers = []
def WpS (P : Program) (c : Code) (Q : Exit → St → Prop) (st : St) : Prop :=
 ∀ (E0 E : Env) (a : Act), Good E0 E → Sim E st a.tmps → a.defers = [] → c.wp P (PostS E0 Q) a E.w
def Weak (st st' : St) : Prop := ∀ (E0 E : Env) (tmps : Array Value), Good E0 E → Sim E st tmps → ∃ E', E'.w = E.w ∧ Good E0 E' ∧ Sim E' st' tmps
theorem Weak.refl (st : St) : Weak st st := fun E0 E tmps g h => ⟨E, rfl, g, h⟩
theorem Weak.trans {a b c : St} (h : Weak a b) (k : Weak b c) : Weak a c := fun E0 E tmps g s => by
 obtain ⟨E1, e1, g1, s1⟩ := h E0 E tmps g s
 obtain ⟨E2, e2, g2, s2⟩ := k E0 E1 tmps g1 s1
 exact ⟨E2, e2.trans e1, g2, s2⟩
section
variable {P : Program} {Q Q' : Exit → St → Prop} {st : St}
theorem WpS.mono {c : Code} (h : WpS P c Q st) (hq : ∀ e s, Q e s → Q' e s) : WpS P c Q' st := fun E0 E a g s d =>
 wp_mono (h E0 E a g s d) fun e a w ⟨h1, st, E, h2, h3⟩ => ⟨h1, st, E, hq _ _ h2, h3⟩
theorem WpS.weak {c : Code} {st' : St} (h : WpS P c Q st') (k : Weak st st') : WpS P c Q st := fun E0 E a g s d => by
 obtain ⟨E1, e1, g1, s1⟩ := k E0 E a.tmps g s
 exact e1 ▸ h E0 E1 a g1 s1 d
theorem WpS.skip (h : Q .normal st) : WpS P .skip Q st := fun E0 E a g s d => wp_skip ⟨rfl, st, E, h, rfl, g, s, d⟩
theorem WpS.ret (h : Q .ret st) : WpS P .ret Q st := fun E0 E a g s d => wp_ret ⟨rfl, st, E, h, rfl, g, s, d⟩
theorem WpS.exit {id : Nat} (h : Q (.exit id) st) : WpS P (.exit id) Q st := fun E0 E a g s d => wp_exit ⟨rfl, st, E, h, rfl, g, s, d⟩
def QSeq (P : Program) (y : Code) (Q : Exit → St → Prop) (ex : Exit) (s : St) : Prop := match ex with
 | .normal => WpS P y Q s
 | ex => Q ex s
theorem WpS.seq {x y : Code} (h : WpS P x (QSeq P y Q) st) : WpS P (.seq x y) Q st := fun E0 E a g s d =>
 wp_seq (wp_mono (h E0 E a g s d) fun e a' w' ⟨h1, st', E', h2, h3, h4, h5, h6⟩ => by
  cases e with
  | normal => subst h3; exact h2 E0 E' a' h4 h5 h6
  | exit id => exact ⟨rfl, st', E', h2, h3, h4, h5, h6⟩
  | ret => exact ⟨rfl, st', E', h2, h3, h4, h5, h6⟩
  | _ => cases h1)
def QBlock (id : Nat) (Q : Exit → St → Prop) (ex : Exit) (s : St) : Prop := match ex with
 | .exit id' => if id' = id then Q .normal s else Q (.exit id') s
 | ex => Q ex s
theorem WpS.block {id : Nat} {c : Code} (h : WpS P c (QBlock id Q) st) : WpS P (.block id c) Q st := fun E0 E a g s d =>
 wp_block (wp_mono (h E0 E a g s d) fun e a' w' ⟨h1, st', E', h2, h3⟩ => by
  cases e with
  | normal => exact ⟨rfl, st', E', h2, h3⟩
  | exit id' =>
   by_cases hid : id' = id
   ·subst hid
    have h2' : (if id' = id' then Q .normal st' else Q (.exit id') st') := h2
    rw [if_pos rfl] at h2'
    show (if id' = id' then _ else _)
    rw [if_pos rfl]; exact ⟨rfl, st', E', h2', h3⟩
   ·have h2' : (if id' = id then Q .normal st' else Q (.exit id') st') := h2
    rw [if_neg hid] at h2'
    show (if id' = id then _ else _)
    rw [if_neg hid]; exact ⟨rfl, st', E', h2', h3⟩
  | ret => exact ⟨rfl, st', E', h2, h3⟩
  | _ => cases h1)
def cv : Value → AV
 | .int k n => .int k n
 | .bool b => .bool b
 | .string s => .str s
 | .slice none 0 0 => .lst [] true true
 | .pointer none => .nilp
 | .nilIface => .niface
 | _ => .undef
def opv (T : List AV) : Operand → AV
 | .tmp t => T.getD t .undef
 | .const v => cv v
 | .func f => .fn f []
 | .global _ => .undef
theorem cv_rel (E : Env) (v : Value) : V3 E (cv v) v := by
 unfold cv
 split
 ·exact RV.int _ _
 ·exact RV.bool _
 ·exact RV.str _
 ·exact RV.lst (PB := fun _ => False) (sz := 0) (vs := fun _ _ => undef) (fun _ h => h.elim) ⟨Nat.le_refl _, Nat.zero_le _⟩ (fun _ => rfl) (fun i row h => by simp at h) (fun h => by simp at h) (fun i j row a h => by simp at h)
 ·exact RV.nilp
 ·exact RV.niface
 ·exact RV.undef _
theorem opv_rel {E : Env} {T : List AV} {a : Act} (h : ∀ t, V3 E (T.getD t .undef) (a.tmps.getD t undef)) (x : Operand) : V3 E (opv T x) (a.eval x) := by
 cases x with
 | tmp t => exact h t
 | const v => exact cv_rel E v
 | global g => exact RV.undef _
 | func f => exact ⟨[], rfl, PW.nil⟩
def bcond (b : Bool) (x y : Prop) : Prop := (b = true → x) ∧ (b = false → y)
def asB (v : AV) (k : Bool → Prop) : Prop := match v with
 | .bool b => k b
 | _ => False
theorem asB_inv {v : AV} {k : Bool → Prop} (h : asB v k) : ∃ b, v = .bool b ∧ k b := by
 cases v <;> first | exact ⟨_, rfl, h⟩ | exact h.elim
theorem V3.bool_inv {E : Env} {b : Bool} {v : Value} (h : V3 E (.bool b) v) : v = .bool b := by
 have h' : RV E.w E.PA E.PF (.bool b) v := h
 cases h'; rfl
theorem V3.int_inv {E : Env} {k : IntKind} {n : Int} {v : Value} (h : V3 E (.int k n) v) : v = .int k n := by
 have h' : RV E.w E.PA E.PF (.int k n) v := h
 cases h'; rfl
theorem V3.str_inv {E : Env} {s : ByteArray} {v : Value} (h : V3 E (.str s) v) : v = .string s := by
 have h' : RV E.w E.PA E.PF (.str s) v := h
 cases h'; rfl
theorem WpS.cond {c : Operand} {x y : Code} (h : asB (opv st.T c) fun b => bcond b (WpS P x Q st) (WpS P y Q st)) : WpS P (.cond c x y) Q st := fun E0 E a g s d => by
 obtain ⟨b, hb, h1, h2⟩ := asB_inv h
 have hv := opv_rel s.slots c
 rw [hb] at hv
 have he : a.eval c = .bool b := V3.bool_inv hv
 exact wp_cond_split he (fun e => h1 e E0 E a g s d) (fun e => h2 e E0 E a g s d)
def QLoop (I : Nat → St → Prop) (n : Nat) (Q : Exit → St → Prop) (ex : Exit) (s : St) : Prop := match ex with
 | .normal => ∃ n' s', n' < n ∧ Weak s s' ∧ I n' s'
 | ex => Q ex s
theorem WpS.loop {c : Code} (I : Nat → St → Prop) (n : Nat) (h0 : I n st) (round : ∀ n s, I n s → WpS P c (QLoop I n Q) s) : WpS P (.loop c) Q st := by
 intro E0 E a g s d b k cs
 have key : ∀ n (a : Act) (E : Env) st, I n st → Good E0 E → Sim E st a.tmps → a.defers = [] →
   ∃ e a' w', PostS E0 Q e a' w' ∧ Arrives P (lone (b.at a (.code c :: .inLoop c :: k)) cs E.w) b k cs e a' w' := by
  intro n
  induction n using Nat.strongRecOn with
  | _ n ih =>
   intro a E st hI g s d
   obtain ⟨e, a₁, w₁, hq, harr⟩ := round n st hI E0 E a g s d b (.inLoop c :: k) cs
   obtain ⟨he, st1, E1, hq, hw, g1, s1, d1⟩ := hq
   cases e with
   | normal =>
    obtain ⟨n', s', hlt, hweak, hI'⟩ := hq
    obtain ⟨E2, e2, g2, s2⟩ := hweak E0 E1 a₁.tmps g1 s1
    obtain ⟨e₂, a₂, w₂, hq₂, harr₂⟩ := ih n' hlt a₁ E2 s' hI' g2 s2 d1
    rw [e2, hw] at harr₂
    exact ⟨e₂, a₂, w₂, hq₂, .of_steps (Steps.trans harr (.one step_inLoop)) harr₂⟩
   | exit id => exact ⟨_, a₁, w₁, ⟨rfl, st1, E1, hq, hw, g1, s1, d1⟩, .pass (x := .inLoop c) rfl (fun _ _ => .inl (by simp)) harr⟩
   | ret => exact ⟨_, a₁, w₁, ⟨rfl, st1, E1, hq, hw, g1, s1, d1⟩, .pass (x := .inLoop c) rfl (fun _ _ => .inl (by simp)) harr⟩
   | _ => cases he
 obtain ⟨e, a', w', hq, harr⟩ := key n a E st h0 g s d
 exact ⟨e, a', w', hq, .of_steps (.one step_loop) harr⟩
end
end Go.Proofs.Ytglpfccgmfhkdaa.Fw
/- The framework, part C: reading and writing cells; a function's begin and end. -/

set_option linter.unusedVariables false
namespace Go.Proofs.Ytglpfccgmfhkdaa.Fw
open Go
def oelim {α : Type} (o : Option α) (k : α → Prop) : Prop := match o with
 | some a => k a
 | none => False
theorem oelim_inv {α : Type} {o : Option α} {k : α → Prop} (h : oelim o k) : ∃ a, o = some a ∧ k a := by
 cases o with
 | none => exact h.elim
 | some a => exact ⟨a, rfl, h⟩
theorem oelim_mk {α : Type} {o : Option α} {k : α → Prop} {a : α} (h : o = some a) (hk : k a) : oelim o k := by rw [h]; exact hk
def okp (b : Bool) (x : Prop) : Prop := match b with
 | true => x
 | false => False
theorem okp_inv {b : Bool} {x : Prop} (h : okp b x) : b = true ∧ x := by
 cases b with
 | true => exact ⟨rfl, h⟩
 | false => exact h.elim
def isAggB (P : Program) (t : TypeId) : Bool := match P.underlying t with
 | some (.struct _) | some (.array _ _) => true
 | _ => false
def knownB (P : Program) (t : TypeId) : Bool := (P.underlying t).isSome
theorem run_underlying {P : Program} {t : TypeId} {w : World} {d : TypeDesc} (h : P.underlying t = some d) : (underlying t).run P w = .ok d w := by
 simp [Go.underlying, h]
theorem run_isAgg {P : Program} {t : TypeId} {w : World} (h : knownB P t = true) : (isAgg t).run P w = .ok (isAggB P t) w := by
 unfold knownB at h
 cases hd : P.underlying t with
 | none => simp [hd] at h
 | some d =>
  simp only [Go.isAgg, Sem.run_bind, run_underlying hd, Result.andThen_ok, isAggB, hd]
  cases d <;> rfl
theorem run_sizeOf {P : Program} {t : TypeId} {w : World} (h : (P.info? t).isSome = true) : (sizeOf t).run P w = .ok (P.cellsOf t) w := by
 cases hi : P.info? t with
 | none => simp [hi] at h
 | some i => simp [Go.sizeOf, typeInfo, hi, Program.cellsOf]
theorem info_of_known {P : Program} {t : TypeId} (h : knownB P t = true) : (P.info? t).isSome = true := by
 unfold knownB Program.underlying at h
 cases hi : P.info? t with
 | none => simp [hi] at h
 | some i => rfl
def takeA (P : Program) (t : TypeId) (cells : List AV) (c : Nat) (K : AV → Prop) : Prop :=
 if knownB P t = true then
  (if isAggB P t = true then (if c + P.cellsOf t ≤ cells.length then K (.agg ((cells.drop c).take (P.cellsOf t))) else False)
   else oelim cells[c]? K)
 else False
def ldA (P : Program) (t : TypeId) (x : AV) (L : List (Nat × List AV)) (H : List Blk) (K : AV → Prop) : Prop := match x with
 | .lptr s c => oelim (getL L s) fun cells => takeA P t cells c K
 | .ptr b g r c => oelim H[b]? fun blk => blk.gen = g ∧ oelim blk.rows[r]? fun row => takeA P t row c K
 | .rp cells c => takeA P t cells c K
 | _ => False
theorem addr_add (c o n : Nat) : (⟨c, o, none⟩ : Addr).add n = ⟨c, o + n, none⟩ := by
 unfold Addr.add; split
 ·subst_vars; rfl
 ·rfl
theorem take_sound {P : Program} {t : TypeId} {cells : List AV} {c bl o : Nat} {K : AV → Prop} {w : World} {R : AV → Value → Prop}
  (hc : ∀ (j : Nat) (a : AV), cells[j]? = some a → ∃ u, w.cell? ⟨bl, o + j, none⟩ = some u ∧ R a u) (h : takeA P t cells c K) :
  ∃ a v, K a ∧ (loadVar t ⟨bl, o + c, none⟩).run P w = .ok v w ∧
   ((∃ l vs, a = .agg l ∧ v = .agg (List.toArray vs) ∧ PW R l vs) ∨ R a v) := by
 unfold takeA at h
 split at h
 ·rename_i hk
  split at h
  ·rename_i ha
   split at h
   ·rename_i hl
    let n := P.cellsOf t
    have hall : ∀ j, j < n → ∃ a u, cells[c + j]? = some a ∧ w.cell? ⟨bl, o + (c + j), none⟩ = some u ∧ R a u := by
     intro j hj
     have hj' : c + j < cells.length := by show c + j < cells.length; have : n = P.cellsOf t := rfl; omega
     obtain ⟨u, h1, h2⟩ := hc (c + j) _ (List.getElem?_eq_getElem hj')
     exact ⟨_, u, List.getElem?_eq_getElem hj', h1, h2⟩
    let f : Nat → Value := fun j => (w.cell? ⟨bl, o + (c + j), none⟩).getD undef
    have hf : ∀ j, j < n → w.cell? ((⟨bl, o + c, none⟩ : Addr).add j) = some (f j) := by
     intro j hj
     obtain ⟨a, u, _, h1, _⟩ := hall j hj
     rw [addr_add, Nat.add_assoc]
     show _ = some ((w.cell? ⟨bl, o + (c + j), none⟩).getD undef)
     rw [h1]; rfl
    refine ⟨_, .agg ((List.range n).map f).toArray, h, ?_, .inl ⟨_, (List.range n).map f, rfl, rfl, ?_, ?_⟩⟩
    ·simp only [loadVar, Sem.run_bind, run_isAgg hk, Result.andThen_ok, ha, if_true, run_sizeOf (info_of_known hk)]
     rw [run_loadCells w _ n f hf]
     rfl
    ·simp only [List.length_take, List.length_drop, List.length_map, List.length_range]; show min n _ = n; have : n = P.cellsOf t := rfl; omega
    ·intro i a b hia hib
     have hi : i < n := by have := (List.getElem?_eq_some_iff.1 hib).1; simpa using this
     obtain ⟨a', u, h1, h2, h3⟩ := hall i hi
     rw [List.getElem?_take, if_pos (show i < P.cellsOf t from hi), List.getElem?_drop, h1] at hia
     cases hia
     rw [List.getElem?_map, List.getElem?_range hi] at hib
     simp only [Option.map_some, Option.some.injEq] at hib
     have : f i = u := by show (w.cell? ⟨bl, o + (c + i), none⟩).getD undef = u; rw [h2]; rfl
     rw [← hib, this]; exact h3
   ·exact h.elim
  ·rename_i ha
   obtain ⟨a, hca, hK⟩ := oelim_inv h
   obtain ⟨u, h1, h2⟩ := hc c a hca
   refine ⟨a, u, hK, ?_, .inr h2⟩
   have ha' : isAggB P t = false := by cases hx : isAggB P t <;> simp_all
   simp only [loadVar, Sem.run_bind, run_isAgg hk, Result.andThen_ok, ha']
   simp [h1]
 ·exact h.elim
theorem V1.up {E : Env} {a : AV} {v : Value} (h : V1 E.noL a v) : V1 E a v := h.le E.noL_le
theorem V1_not_agg {E : Env} {l : List AV} {v : Value} (h : V1 E (.agg l) v) : False := by
 have h' : RV E.w E.PA E.PF (.agg l) v := h
 cases h'
theorem V1_not_tup {E : Env} {l : List AV} {v : Value} (h : V1 E (.tup l) v) : False := by
 have h' : RV E.w E.PA E.PF (.tup l) v := h
 cases h'
theorem V2_of_V1 {E : Env} {a : AV} {v : Value} (h : V1 E a v) : V2 E a v := by
 by_cases hf : ∃ l, a = .agg l
 ·obtain ⟨l, rfl⟩ := hf; exact (V1_not_agg h).elim
 ·rw [V2_eq fun l e => hf ⟨l, e⟩]; exact h
theorem V2_not_tup {E : Env} {l : List AV} {v : Value} (h : V2 E (.tup l) v) : False := V1_not_tup (E := E) (l := l) (v := v) h
theorem V3_of_V2 {E : Env} {a : AV} {v : Value} (h : V2 E a v) : V3 E a v := by
 by_cases hf : ∃ l, a = .tup l
 ·obtain ⟨l, rfl⟩ := hf; exact (V2_not_tup h).elim
 ·rw [V3_eq fun l e => hf ⟨l, e⟩]; exact h
theorem V2_of_load {E : Env} {a : AV} {v : Value} (h : (∃ l vs, a = .agg l ∧ v = .agg (List.toArray vs) ∧ PW (V1 E) l vs) ∨ V1 E a v) : V2 E a v := by
 rcases h with ⟨l, vs, rfl, rfl, hp⟩ | h
 ·exact ⟨vs, rfl, hp⟩
 ·exact V2_of_V1 h
theorem V3.lptr_inv {E : Env} {t c : Nat} {v : Value} (h : V3 E (.lptr t c) v) : ∃ bl, E.mL t = some bl ∧ v = .pointer (some ⟨bl, c, none⟩) := h
theorem V3.ptr_inv {E : Env} {b g r c : Nat} {v : Value} (h : V3 E (.ptr b g r c) v) (hg : E.gen b = g) : ∃ bl, E.m b = some (some bl) ∧ v = .pointer (some ⟨bl, r * E.sz b + c, none⟩) := by
 rcases (h : V0 E (.ptr b g r c) v) with ⟨h, _⟩ | ⟨_, h⟩
 ·omega
 ·exact h
theorem cell_of {w : World} {c o : Nat} {cs : Array Value} {ty : TypeId} {fz : Nat × Nat} {u : Value} (h : w.heap[c]? = some (.cells cs ty fz)) (hu : cs[o]? = some u) : w.cell? ⟨c, o, none⟩ = some u := by
 simp [World.cell?, h, hu]
structure Sub (L : List (Nat × List AV)) (H : List Blk) (Ln : List (Nat × List AV)) (Hn : List Blk) : Prop where
 l : ∀ t c, getL L t = some c → getL Ln t = some c
 h : ∀ (b : Nat) (blk : Blk), H[b]? = some blk → Hn[b]? = some blk
theorem Sub.refl (L : List (Nat × List AV)) (H : List Blk) : Sub L H L H := ⟨fun _ _ h => h, fun _ _ h => h⟩
theorem ld_sound {P : Program} {t : TypeId} {x : AV} {L Ln : List (Nat × List AV)} {H Hn : List Blk} {K : AV → Prop} {E : Env} {v : Value}
  (sub : Sub L H Ln Hn) (hH : SimH E Hn) (hL : SimL E Ln) (hx : V3 E x v) (h : ldA P t x L H K) :
  ∃ a v', K a ∧ (Instr.loadAt t v).run P E.w = .ok v' E.w ∧ V2 E a v' := by
 cases x with
 | lptr s c =>
  obtain ⟨bl, hm, rfl⟩ := hx.lptr_inv
  obtain ⟨cells, cs, ty, hg, hw, hp⟩ := hL s bl hm
  have h' : oelim (getL L s) fun cells => takeA P t cells c K := h
  obtain ⟨cells2, hg2, h'⟩ := oelim_inv h'
  obtain rfl : cells = cells2 := by have := sub.l _ _ hg2; rw [hg] at this; exact Option.some.inj this
  obtain ⟨a, v', hK, hr, hv⟩ := take_sound (o := 0) (bl := bl) (w := E.w) (R := V1 E.noL) (fun j a hj => by
   obtain ⟨u, hu, hr⟩ := hp.get hj
   exact ⟨u, by rw [Nat.zero_add]; exact cell_of hw (by simpa using hu), hr⟩) h'
  rw [Nat.zero_add] at hr
  refine ⟨a, v', hK, ?_, (V2_of_load hv).le E.noL_le⟩
  simp only [Instr.loadAt, Instr.sureAddr, Sem.run_bind, Sem.run_pure, Result.andThen_ok, hr]
 | ptr b g r c =>
  obtain ⟨blk, hb, hg, h2⟩ := oelim_inv (show oelim H[b]? fun blk => blk.gen = g ∧ oelim blk.rows[r]? fun row => takeA P t row c K from h)
  obtain ⟨row, hrow, h3⟩ := oelim_inv h2
  replace hb := sub.h b blk hb
  have hgen := hH.gens b blk hb
  obtain ⟨bl, hm, rfl⟩ := hx.ptr_inv (hgen.trans hg)
  obtain ⟨blk', cs, ty, hb', hbs, hw, hcs, hlen, hrows⟩ := hH.heap b bl hm
  obtain rfl : blk = blk' := by rw [hb] at hb'; exact Option.some.inj hb'
  obtain ⟨a, v', hK, hr, hv⟩ := take_sound (o := r * E.sz b) (bl := bl) (w := E.w) (R := V1 E.noL) (fun j a hj => by
   obtain ⟨u, hu, hr⟩ := hrows.2 r j row a hrow hj
   exact ⟨u, cell_of hw hu, hr⟩) h3
  refine ⟨a, v', hK, ?_, (V2_of_load hv).le E.noL_le⟩
  simp only [Instr.loadAt, Instr.sureAddr, Sem.run_bind, Sem.run_pure, Result.andThen_ok, hr]
 | rp cells c =>
  have hx' : RV E.w E.PA E.PF (.rp cells c) v := hx
  cases hx' with
  | @rp _ _ _ _ bl o vs hc hcell hrel =>
   have h' : takeA P t cells c K := h
   obtain ⟨a, v', hK, hr, hv⟩ := take_sound (o := o) (bl := bl) (w := E.w) (R := RV E.w E.PA (fun _ => False)) (fun j a hj => 
    ⟨vs j, hcell j (List.getElem?_eq_some_iff.1 hj).1, hrel j a hj⟩) h'
   have up : ∀ a v, RV E.w E.PA (fun _ => False) a v → V1 E a v := fun a v hr => (hr.mono (fun _ _ => rfl) (fun _ h => h.elim) (fun _ h => h) (fun _ h => h.elim)).v1
   refine ⟨a, v', hK, ?_, V2_of_load (hv.imp (fun ⟨l, vs, h1, h2, h3⟩ => ⟨l, vs, h1, h2, h3.mono up⟩) (up _ _))⟩
   simp only [Instr.loadAt, Instr.sureAddr, Sem.run_bind, Sem.run_pure, Result.andThen_ok, hr]
 | _ => exact h.elim
end Go.Proofs.Ytglpfccgmfhkdaa.Fw
/- The framework, part D: writing cells. -/

set_option linter.unusedVariables false
namespace Go.Proofs.Ytglpfccgmfhkdaa.Fw
open Go
def sto0 : AV → Bool
 | .undef | .agg _ | .tup _ | .lptr _ _ | .fn _ _ => false
 | _ => true
def sto1 : AV → Bool
 | .fn _ caps => caps.all sto0
 | a => sto0 a
def cellsA : AV → List AV
 | .agg l => l
 | a => [a]
def splice (row : List AV) (c : Nat) (l : List AV) : List AV := row.take c ++ l ++ row.drop (c + l.length)
def stA (P : Program) (t : TypeId) (x v : AV) (L : List (Nat × List AV)) (H : List Blk) (K : List (Nat × List AV) → List Blk → Prop) : Prop :=
 if (P.info? t).isSome = true ∧ (cellsA v).length = P.cellsOf t ∧ (cellsA v).all sto1 = true then
  match x with
  | .lptr s c => oelim (getL L s) fun cells => if c + (cellsA v).length ≤ cells.length then K (setL L s (splice cells c (cellsA v))) H else False
  | .ptr b g r c => oelim H[b]? fun blk => blk.gen = g ∧ oelim blk.rows[r]? fun row => c + (cellsA v).length ≤ row.length ∧ K L (H.set b { blk with rows := blk.rows.set r (splice row c (cellsA v)) })
  | _ => False
 else False
theorem sto0_noL {E : Env} {a : AV} {v : Value} (h : sto0 a = true) (hv : V0 E a v) : V0 E.noL a v := by
 cases a <;> first | exact hv | cases h
theorem sto1_noL {E : Env} {a : AV} {v : Value} (h : sto1 a = true) (hv : V1 E a v) : V1 E.noL a v := by
 by_cases hf : ∃ f caps, a = .fn f caps
 ·obtain ⟨f, caps, rfl⟩ := hf
  obtain ⟨vs, e, hp⟩ := hv
  refine ⟨vs, e, hp.1, fun i x y hx hy => sto0_noL ?_ (hp.2 i x y hx hy)⟩
  have h' : caps.all sto0 = true := h
  exact List.all_eq_true.1 h' x (List.mem_of_getElem? hx)
 ·have h0 : sto1 a = sto0 a := by cases a <;> first | rfl | exact absurd ⟨_, _, rfl⟩ hf
  rw [V1_eq fun f c e => hf ⟨f, c, e⟩] at hv ⊢
  exact sto0_noL (h0 ▸ h) hv
theorem V0.one {E : Env} {a : AV} {v : Value} (h : sto0 a = true) (hv : V0 E a v) : v.oneCell' = true := by
 cases a with
 | undef => cases h
 | agg l => cases h
 | tup l => cases h
 | lptr s c => cases h
 | fn f c => cases h
 | ref b g off n full =>
  rcases hv with ⟨_, A, cap, rfl⟩ | ⟨_, ⟨_, _, _, A, rfl⟩ | ⟨c, cap, _, rfl, _⟩⟩
  ·rfl
  ·rfl
  ·rfl
 | ptr b g r c =>
  rcases hv with ⟨_, bl, o, rfl⟩ | ⟨_, bl, _, rfl⟩
  ·rfl
  ·rfl
 | _ => exact RV.one (show RV E.w E.PA E.PF _ v from hv) (by intro h; cases h)
theorem V1.one1 {E : Env} {a : AV} {v : Value} (h : sto1 a = true) (hv : V1 E a v) : v.oneCell' = true := by
 by_cases hf : ∃ f caps, a = .fn f caps
 ·obtain ⟨f, caps, rfl⟩ := hf
  obtain ⟨vs, rfl, hp⟩ := hv
  rfl
 ·have h0 : sto1 a = sto0 a := by cases a <;> first | rfl | exact absurd ⟨_, _, rfl⟩ hf
  rw [V1_eq fun f c e => hf ⟨f, c, e⟩] at hv
  exact hv.one (h0 ▸ h)
theorem Step.setRow {E : Env} {H : List Blk} (hH : SimH E H) {bl : Nat} (hb : E.imgH bl ∨ E.imgL bl) (cs : Array Value) : Step E { E with w := E.w.setRow bl cs } := by
 have hn : ∀ c, E.PA c → c ≠ bl := fun c hc e => by
  subst e
  exact hb.elim (hH.notH _ hc) (hH.notL _ hc)
 have hk : ∀ c, c ≠ bl → (E.w.setRow bl cs).heap[c]? = E.w.heap[c]? := fun c hc => setRow_other _ _ _ _ hc
 exact ⟨⟨fun _ h => h, fun _ h => h, fun c hc => hk c (hn c hc), fun c hc => hk c (hn c (hH.pfpa c hc)), fun _ => Nat.le_refl _, fun _ _ h _ => ⟨h, rfl, rfl⟩, fun _ _ h => h⟩, rfl, rfl, rfl,
  by simp, fun c _ h1 h2 => hk c (fun e => by subst e; exact hb.elim h1 h2), fun _ h => .inl h, fun _ h => .inl h, fun _ h => .inl h, fun _ h => .inl h⟩
theorem cells_rel {E : Env} {v : AV} {u : Value} (hv : V2 E v u) (hs : (cellsA v).all sto1 = true) : PW (V1 E) (cellsA v) u.cells.toList := by
 by_cases hf : ∃ l, v = .agg l
 ·obtain ⟨l, rfl⟩ := hf
  obtain ⟨vs, rfl, hp⟩ := hv
  exact hp
 ·have h0 : cellsA v = [v] := by cases v <;> first | rfl | exact absurd ⟨_, rfl⟩ hf
  rw [V2_eq fun l e => hf ⟨l, e⟩] at hv
  rw [h0] at hs ⊢
  have h1 : u.oneCell' = true := hv.one1 (by simpa using hs)
  have h2 : u.cells = #[u] := by cases u <;> first | rfl | cases h1
  rw [h2]
  exact PW.cons hv PW.nil
theorem run_storeVar {P : Program} {t : TypeId} {w : World} {bl o : Nat} {cs : Array Value} {ty : TypeId} {u : Value} (hi : (P.info? t).isSome = true) (hz : u.cells.size = P.cellsOf t)
  (hw : w.heap[bl]? = some (.cells cs ty (0, 0))) (ho : o + u.cells.size ≤ cs.size) (h1 : ∀ x ∈ u.cells.toList, x.oneCell' = true) :
  (Instr.storeAt t (.pointer (some ⟨bl, o, none⟩)) u).run P w = .ok () (w.setRow bl (cs.toList.take o ++ u.cells.toList ++ cs.toList.drop (o + u.cells.toList.length)).toArray) := by
 have := run_storeCells_at (P := P) bl o ty u.cells.toList 0 cs w hw (by simpa using ho) h1
 simp only [Nat.add_zero] at this
 simp [Instr.storeAt, Instr.sureAddr, storeVar, run_sizeOf hi, hz, this]
theorem splice_get {α : Type} {l m : List α} {c : Nat} (hc : c + m.length ≤ l.length) (j : Nat) :
  (l.take c ++ m ++ l.drop (c + m.length))[j]? = if j < c then l[j]? else if j < c + m.length then m[j - c]? else l[j]? := by
 by_cases h1 : j < c
 ·rw [if_pos h1, List.append_assoc, List.getElem?_append_left (by simp; omega), List.getElem?_take, if_pos h1]
 ·rw [if_neg h1]
  by_cases h2 : j < c + m.length
  ·rw [if_pos h2, List.getElem?_append_left (by simp; omega), List.getElem?_append_right (by simp; omega)]
   congr 1; simp; omega
  ·rw [if_neg h2, List.getElem?_append_right (by simp; omega), List.getElem?_drop]
   congr 1; simp; omega
theorem PW.splice {α β : Type} {R : α → β → Prop} {l m : List α} {l' m' : List β} (h : PW R l l') (k : PW R m m') {c : Nat} (hc : c + m.length ≤ l.length) :
  PW R (l.take c ++ m ++ l.drop (c + m.length)) (l'.take c ++ m' ++ l'.drop (c + m'.length)) := by
 have h1 := h.1
 have k1 := k.1
 refine ⟨by simp; omega, fun i a b ha hb => ?_⟩
 rw [splice_get hc] at ha
 rw [splice_get (by omega)] at hb
 rw [← k1] at hb
 split at ha
 ·rename_i hi; rw [if_pos hi] at hb; exact h.2 i a b ha hb
 ·rename_i hi; rw [if_neg hi] at hb
  split at ha
  ·rename_i hj; rw [if_pos hj] at hb; exact k.2 _ a b ha hb
  ·rename_i hj; rw [if_neg hj] at hb; exact h.2 i a b ha hb
theorem getL_setL (L : List (Nat × List AV)) (t s : Nat) (d : List AV) : getL (setL L t d) s = if s = t then (getL L t).map (fun _ => d) else getL L s := by
 induction L with
 | nil => simp [setL, getL]
 | cons x L ih =>
  obtain ⟨k, c⟩ := x
  by_cases h1 : t = k
  ·subst h1
   by_cases h2 : s = t
   ·simp [setL, getL, h2]
   ·simp [setL, getL, h2]
  ·by_cases h2 : s = k
   ·subst h2
    have : ¬ s = t := fun e => h1 e.symm
    simp [setL, getL, h1, this]
   ·simp only [setL, if_neg h1, getL, if_neg h2, ih]
theorem st_sound {P : Program} {t : TypeId} {x v : AV} {L : List (Nat × List AV)} {H : List Blk} {K : List (Nat × List AV) → List Blk → Prop} {E : Env} {xv vv : Value}
  (hH : SimH E H) (hL : SimL E L) (hx : V3 E x xv) (hv : V2 E v vv) (h : stA P t x v L H K) :
  ∃ L' H' E', K L' H' ∧ (Instr.storeAt t xv vv).run P E.w = .ok () E'.w ∧ Step E E' ∧ SimH E' H' ∧ SimL E' L' ∧ E'.mL = E.mL := by
 unfold stA at h
 split at h
 case isFalse => exact h.elim
 case isTrue hc =>
 obtain ⟨hi, hz, hs⟩ := hc
 have hcells := cells_rel hv hs
 have hn : PW (V1 E.noL) (cellsA v) vv.cells.toList := ⟨hcells.1, fun i a b ha hb => sto1_noL (List.all_eq_true.1 hs a (List.mem_of_getElem? ha)) (hcells.2 i a b ha hb)⟩
 have h1 : ∀ y ∈ vv.cells.toList, y.oneCell' = true := by
  intro y hy
  obtain ⟨i, hi⟩ := List.mem_iff_getElem?.1 hy
  have hil : i < (cellsA v).length := by rw [hcells.1]; exact (List.getElem?_eq_some_iff.1 hi).1
  exact (hcells.2 i _ y (List.getElem?_eq_getElem hil) hi).one1 (List.all_eq_true.1 hs _ (List.getElem_mem hil))
 have hsz : vv.cells.size = P.cellsOf t := by rw [← hz, hcells.1]; simp
 have hlen : vv.cells.toList.length = (cellsA v).length := hcells.1.symm
 cases x with
 | lptr s c =>
  obtain ⟨bl, hm, rfl⟩ := hx.lptr_inv
  obtain ⟨cells, cs, ty, hg, hw, hp⟩ := hL s bl hm
  have h' : oelim (getL L s) fun cells => if c + (cellsA v).length ≤ cells.length then K (setL L s (splice cells c (cellsA v))) H else False := h
  rw [hg] at h'
  have h'' : if c + (cellsA v).length ≤ cells.length then K (setL L s (splice cells c (cellsA v))) H else False := h'
  split at h''
  case isFalse => exact h''.elim
  case isTrue hle =>
  have hcsl : cells.length = cs.size := by rw [hp.1]; simp
  have hrun := run_storeVar (P := P) (t := t) (o := c) hi hsz hw (by rw [← hcsl]; have : vv.cells.size = (cellsA v).length := by rw [← hlen]; simp
                                                                     omega) h1
  have hstep := Step.setRow hH (.inr ⟨s, hm⟩) (cs.toList.take c ++ vv.cells.toList ++ cs.toList.drop (c + vv.cells.toList.length)).toArray
  have hne : ∀ b c', E.m b = some (some c') → c' ≠ bl := fun b c' hb e => by subst e; exact hH.injHL b s c' hb hm
  refine ⟨_, _, _, h'', hrun, hstep, ?_, ?_, rfl⟩
  ·exact { hH with
    heap := fun b c' hb => by
     obtain ⟨blk, cs', ty', q1, q0, q2, q3, q4, q5, q6⟩ := hH.heap b c' hb
     refine ⟨blk, cs', ty', q1, q0, ?_, q3, q4, q5, fun i j row a hr hj => ?_⟩
     ·show (E.w.setRow bl _).heap[c']? = _
      rw [setRow_other _ _ _ _ (hne b c' hb)]; exact q2
     ·obtain ⟨u, hu, hr'⟩ := q6 i j row a hr hj
      exact ⟨u, hu, hr'.le hstep.le.noL⟩
    ltP := fun c' hc => by rw [show (E.w.setRow bl _).heap.size = _ from setRow_size _ _ _]; exact hH.ltP c' hc
    ltH := fun c' hc => by rw [show (E.w.setRow bl _).heap.size = _ from setRow_size _ _ _]; exact hH.ltH c' hc
    ltL := fun c' hc => by rw [show (E.w.setRow bl _).heap.size = _ from setRow_size _ _ _]; exact hH.ltL c' hc }
  ·intro t' c' hm'
   by_cases he : t' = s
   ·subst he
    obtain rfl : c' = bl := by
     have : E.mL t' = some c' := hm'
     rw [hm] at this; exact (Option.some.inj this).symm
    refine ⟨splice cells c (cellsA v), _, ty, ?_, setRow_heap _ _ _ _ _ _ hw, ?_⟩
    ·rw [getL_setL, if_pos rfl, hg]; rfl
    ·have := PW.splice (hp.mono fun _ _ k => k.le hstep.le.noL) (hn.mono fun _ _ k => k.le hstep.le.noL) hle
     simpa [splice] using this
   ·obtain ⟨cells', cs', ty', q1, q2, q3⟩ := hL t' c' hm'
    have hne' : c' ≠ bl := fun e => by subst e; exact he (hH.injL t' s c' hm' hm)
    refine ⟨cells', cs', ty', by rw [getL_setL, if_neg he]; exact q1, ?_, q3.mono fun _ _ k => k.le hstep.le.noL⟩
    show (E.w.setRow bl _).heap[c']? = _
    rw [setRow_other _ _ _ _ hne']; exact q2
 | ptr b g r c =>
  obtain ⟨blk, hb, hg, h2⟩ := oelim_inv (show oelim H[b]? fun blk => blk.gen = g ∧ oelim blk.rows[r]? fun row => c + (cellsA v).length ≤ row.length ∧ K L (H.set b { blk with rows := blk.rows.set r (splice row c (cellsA v)) }) from h)
  obtain ⟨row, hrow, hle, hK⟩ := oelim_inv h2
  have hgen := hH.gens b blk hb
  obtain ⟨bl, hm, rfl⟩ := hx.ptr_inv (hgen.trans hg)
  obtain ⟨blk', cs, ty, hb', hbs, hw, hcs, hcl, hrows⟩ := hH.heap b bl hm
  obtain rfl : blk = blk' := by rw [hb] at hb'; exact Option.some.inj hb'
  have hrl : row.length = E.sz b := hrows.1 r row hrow
  have hrlt : r < blk.rows.length := (List.getElem?_eq_some_iff.1 hrow).1
  have hbnd : r * E.sz b + E.sz b ≤ cs.size := by
   rw [hcs]; calc r * E.sz b + E.sz b = (r + 1) * E.sz b := by rw [Nat.add_mul, Nat.one_mul]
    _ ≤ E.cp b * E.sz b := Nat.mul_le_mul_right _ (by omega)
  have hvl : vv.cells.size = (cellsA v).length := by rw [← hlen]; simp
  have hrun := run_storeVar (P := P) (t := t) (o := r * E.sz b + c) hi hsz hw (by omega) h1
  have hstep := Step.setRow hH (.inl ⟨b, hm⟩) (cs.toList.take (r * E.sz b + c) ++ vv.cells.toList ++ cs.toList.drop (r * E.sz b + c + vv.cells.toList.length)).toArray
  have hblt : b < H.length := (List.getElem?_eq_some_iff.1 hb).1
  refine ⟨_, _, _, hK, hrun, hstep, ?_, ?_, rfl⟩
  ·exact { hH with
    heap := fun b2 c' hb2 => by
     by_cases he : b2 = b
     ·subst he
      obtain rfl : c' = bl := by
       have : E.m b2 = some (some c') := hb2
       rw [hm] at this; exact (Option.some.inj (Option.some.inj this)).symm
      refine ⟨{ blk with rows := blk.rows.set r (splice row c (cellsA v)) }, _, ty, by rw [List.getElem?_set_self hblt], hbs, setRow_heap _ _ _ _ _ _ hw, ?_, by simpa using hcl, ?_, ?_⟩
      ·simp; omega
      ·intro i row' hr'
       rw [List.getElem?_set] at hr'
       split at hr'
       ·rename_i hir
        cases hr'
        simp [splice]; omega
       ·exact hrows.1 i row' hr'
      ·intro i j row' a hr' ha
       have hij : ∀ k, (cs.toList.take (r * E.sz b2 + c) ++ vv.cells.toList ++ cs.toList.drop (r * E.sz b2 + c + vv.cells.toList.length)).toArray[k]? = if k < r * E.sz b2 + c then cs.toList[k]? else if k < r * E.sz b2 + c + vv.cells.toList.length then vv.cells.toList[k - (r * E.sz b2 + c)]? else cs.toList[k]? := by
        intro k
        rw [List.getElem?_toArray, splice_get (by simp; omega)]
       rw [List.getElem?_set] at hr'
       split at hr'
       ·rename_i hir
        cases hr'
        subst hir
        have hsp := splice_get hle j
        unfold splice at ha
        rw [hsp] at ha
        split at ha
        ·rename_i hj
         obtain ⟨u, hu, hru⟩ := hrows.2 r j row a hrow ha
         refine ⟨u, ?_, hru.le hstep.le.noL⟩
         show (List.toArray _)[r * E.sz b2 + j]? = _
         rw [hij, if_pos (by omega)]; simpa using hu
        ·rename_i hj
         split at ha
         ·rename_i hj2
          obtain ⟨u, hu, hru⟩ := hn.get ha
          refine ⟨u, ?_, hru.le hstep.le.noL⟩
          show (List.toArray _)[r * E.sz b2 + j]? = _
          rw [hij, if_neg (by omega), if_pos (by omega), show r * E.sz b2 + j - (r * E.sz b2 + c) = j - c by omega]; exact hu
         ·rename_i hj2
          obtain ⟨u, hu, hru⟩ := hrows.2 r j row a hrow ha
          refine ⟨u, ?_, hru.le hstep.le.noL⟩
          show (List.toArray _)[r * E.sz b2 + j]? = _
          rw [hij, if_neg (by omega), if_neg (by omega)]; simpa using hu
       ·rename_i hir
        have hjl : j < E.sz b2 := by rw [← hrows.1 i row' hr']; exact (List.getElem?_eq_some_iff.1 ha).1
        obtain ⟨u, hu, hru⟩ := hrows.2 i j row' a hr' ha
        refine ⟨u, ?_, hru.le hstep.le.noL⟩
        show (List.toArray _)[i * E.sz b2 + j]? = _
        rw [hij]
        rcases Nat.lt_or_ge i r with hlt | hge
        ·have : i * E.sz b2 + E.sz b2 ≤ r * E.sz b2 := by
          calc i * E.sz b2 + E.sz b2 = (i + 1) * E.sz b2 := by rw [Nat.add_mul, Nat.one_mul]
           _ ≤ r * E.sz b2 := Nat.mul_le_mul_right _ (by omega)
         rw [if_pos (by omega)]; simpa using hu
        ·have : r * E.sz b2 + E.sz b2 ≤ i * E.sz b2 := by
          calc r * E.sz b2 + E.sz b2 = (r + 1) * E.sz b2 := by rw [Nat.add_mul, Nat.one_mul]
           _ ≤ i * E.sz b2 := Nat.mul_le_mul_right _ (by omega)
         rw [if_neg (by omega), if_neg (by omega)]; simpa using hu
     ·obtain ⟨blk2, cs2, ty2, q1, q0, q2, q3, q4, q5, q6⟩ := hH.heap b2 c' hb2
      have hne : c' ≠ bl := fun e => by subst e; exact he (hH.injH b2 b c' hb2 hm)
      refine ⟨blk2, cs2, ty2, by rw [List.getElem?_set_ne (fun e => he e.symm)]; exact q1, q0, ?_, q3, q4, q5, fun i j row a hr hj => ?_⟩
      ·show (E.w.setRow bl _).heap[c']? = _
       rw [setRow_other _ _ _ _ hne]; exact q2
      ·obtain ⟨u, hu, hr'⟩ := q6 i j row a hr hj
       exact ⟨u, hu, hr'.le hstep.le.noL⟩
    gens := fun b2 blk2 hb2 => by
     by_cases he : b = b2
     ·subst he
      rw [List.getElem?_set_self hblt] at hb2
      cases hb2
      exact hH.gens b blk hb
     ·rw [List.getElem?_set_ne he] at hb2
      exact hH.gens b2 blk2 hb2
    nilb := fun b2 hb2 => by
     obtain ⟨blk2, q, qs⟩ := hH.nilb b2 hb2
     by_cases he : b = b2
     ·subst he
      rw [hm] at hb2; cases hb2
     ·exact ⟨blk2, by rw [List.getElem?_set_ne he]; exact q, qs⟩
    fresh := fun b2 hb2 => hH.fresh b2 (by simpa using hb2)
    ltP := fun c' hc => by rw [show (E.w.setRow bl _).heap.size = _ from setRow_size _ _ _]; exact hH.ltP c' hc
    ltH := fun c' hc => by rw [show (E.w.setRow bl _).heap.size = _ from setRow_size _ _ _]; exact hH.ltH c' hc
    ltL := fun c' hc => by rw [show (E.w.setRow bl _).heap.size = _ from setRow_size _ _ _]; exact hH.ltL c' hc }
  ·intro t' c' hm'
   obtain ⟨cells', cs', ty', q1, q2, q3⟩ := hL t' c' hm'
   have hne' : c' ≠ bl := fun e => by subst e; exact hH.injHL b t' c' hm hm'
   refine ⟨cells', cs', ty', q1, ?_, q3.mono fun _ _ k => k.le hstep.le.noL⟩
   show (E.w.setRow bl _).heap[c']? = _
   rw [setRow_other _ _ _ _ hne']; exact q2
 | _ => exact h.elim
end Go.Proofs.Ytglpfccgmfhkdaa.Fw
/- The framework, part E: operations that leave the abstract memory alone. -/

set_option linter.unusedVariables false
namespace Go.Proofs.Ytglpfccgmfhkdaa.Fw
open Go
structure Quiet (E E' : Env) : Prop where
 step : Step E E'
 m : E'.m = E.m
 mL : E'.mL = E.mL
 gen : E'.gen = E.gen
 sz : E'.sz = E.sz
 cp : E'.cp = E.cp
 keep : ∀ c, c < E.w.heap.size → E'.w.heap[c]? = E.w.heap[c]?
 pa : ∀ c, E'.PA c → E.PA c ∨ (E.w.heap.size ≤ c ∧ c < E'.w.heap.size)
 pfpa : ∀ c, E'.PF c → E'.PA c
theorem Quiet.refl {E : Env} {H : List Blk} (h : SimH E H) : Quiet E E := ⟨.refl E, rfl, rfl, rfl, rfl, rfl, fun _ _ => rfl, fun _ h => .inl h, h.pfpa⟩
theorem Quiet.simH {E E' : Env} {H : List Blk} (q : Quiet E E') (h : SimH E H) : SimH E' H where
 heap := fun b c hb => by
  rw [q.m] at hb
  obtain ⟨blk, cs, ty, q1, q0, q2, q3, q4, q5, q6⟩ := h.heap b c hb
  refine ⟨blk, cs, ty, q1, by rw [q.sz]; exact q0, ?_, by rw [q.cp, q.sz]; exact q3, by rw [q.cp]; exact q4, by rw [q.sz]; exact q5, fun i j row a hr hj => ?_⟩
  ·rw [q.keep c (h.ltH c ⟨b, hb⟩)]; exact q2
  ·obtain ⟨u, hu, hr'⟩ := q6 i j row a hr hj
   exact ⟨u, by rw [q.sz]; exact hu, hr'.le q.step.le.noL⟩
 gens := by rw [q.gen]; exact h.gens
 nilb := by rw [q.m, q.sz]; exact h.nilb
 fresh := by rw [q.m, q.gen]; exact h.fresh
 injH := by rw [q.m]; exact h.injH
 injL := by rw [q.mL]; exact h.injL
 injHL := by rw [q.m, q.mL]; exact h.injHL
 notH := fun c hc ⟨b, hb⟩ => by
  rw [q.m] at hb
  rcases q.pa c hc with hc | ⟨hc, _⟩
  ·exact h.notH c hc ⟨b, hb⟩
  ·have := h.ltH c ⟨b, hb⟩; omega
 notL := fun c hc ⟨b, hb⟩ => by
  rw [q.mL] at hb
  rcases q.pa c hc with hc | ⟨hc, _⟩
  ·exact h.notL c hc ⟨b, hb⟩
  ·have := h.ltL c ⟨b, hb⟩; omega
 pfpa := q.pfpa
 ltP := fun c hc => by
  rcases q.pa c hc with hc | ⟨_, hc⟩
  ·exact Nat.lt_of_lt_of_le (h.ltP c hc) q.step.size
  ·exact hc
 ltH := fun c ⟨b, hb⟩ => by rw [q.m] at hb; exact Nat.lt_of_lt_of_le (h.ltH c ⟨b, hb⟩) q.step.size
 ltL := fun c ⟨b, hb⟩ => by rw [q.mL] at hb; exact Nat.lt_of_lt_of_le (h.ltL c ⟨b, hb⟩) q.step.size
theorem Quiet.simL {E E' : Env} {H : List Blk} {L : List (Nat × List AV)} (q : Quiet E E') (h : SimH E H) (l : SimL E L) : SimL E' L := fun t c hm => by
 rw [q.mL] at hm
 obtain ⟨cells, cs, ty, q1, q2, q3⟩ := l t c hm
 exact ⟨cells, cs, ty, q1, by rw [q.keep c (h.ltL c ⟨t, hm⟩)]; exact q2, q3.mono fun _ _ k => k.le q.step.le.noL⟩
def binI (op : BinOp) (k : IntKind) (a b : Int) (K : AV → Prop) : Prop := match op with
 | .add => K (.int k (k.wrap (a + b)))
 | .sub => K (.int k (k.wrap (a - b)))
 | .mul => K (.int k (k.wrap (a * b)))
 | .quo => b ≠ 0 ∧ K (.int k (k.wrap (a.tdiv b)))
 | .rem => b ≠ 0 ∧ K (.int k (a.tmod b))
 | .and => K (.int k (k.wrap (BitVec.ofInt k.bits a &&& BitVec.ofInt k.bits b).toNat))
 | .eql => K (.bool (a == b))
 | .neq => K (.bool (a != b))
 | .lss => K (.bool (decide (a < b)))
 | .leq => K (.bool (decide (a ≤ b)))
 | .gtr => K (.bool (decide (a > b)))
 | .geq => K (.bool (decide (a ≥ b)))
 | _ => False
def two (P : Program) (t : TypeId) : Bool :=
 match P.underlying t with
 | some (.struct fs) => !P.stoodInHeld t && !P.eqGuardType P.depth t && (match fs.toList with
  | [f, g] => f.name != "_" && g.name != "_" && f.offset == 0 && g.offset == 1 && (P.underlying f.type matches some (.int .i64)) && (P.underlying g.type matches some (.int .i64))
  | _ => false)
 | _ => false
def binII (op : BinOp) (k : IntKind) (a : Int) (k' : IntKind) (b : Int) (K : AV → Prop) : Prop := match op with
 | .shl => 0 ≤ b ∧ K (.int k (k.wrap (a * 2 ^ (min b.toNat k.bits))))
 | .shr => 0 ≤ b ∧ K (.int k (a.fdiv (2 ^ (min b.toNat k.bits))))
 | op => if k = k' then binI op k a b K else False
def isBoolT (P : Program) (t : TypeId) : Bool := match P.underlying t with
 | some .bool => true
 | _ => false
def binBB (P : Program) (op : BinOp) (t : TypeId) (a b : Bool) (K : AV → Prop) : Prop := if isBoolT P t = true then (match op with
  | .eql => K (.bool (a == b))
  | .neq => K (.bool (a != b))
  | _ => False) else False
def binSS (op : BinOp) (a b : ByteArray) (K : AV → Prop) : Prop := match op with
  | .add => a.size + b.size ≤ 9223372036854775807 ∧ K (.str (a ++ b))
  | .eql => K (.bool (a.toList == b.toList))
  | .neq => K (.bool (!(a.toList == b.toList)))
  | _ => False
def binTwo (op : BinOp) (a b c d : Int) (K : AV → Prop) : Prop := match op with
  | .eql => K (.bool (a == c && b == d))
  | .neq => K (.bool (!(a == c && b == d)))
  | _ => False
def twoOf : List AV → Option (Int × Int)
 | [.int .i64 a, .int .i64 b] => some (a, b)
 | _ => none
def elemT (P : Program) (t : TypeId) : Option TypeId := match P.underlying t with
 | some (.slice e) => some e
 | _ => none
def isNilC : Operand → Bool
 | .const (.slice none 0 0) => true
 | _ => false
def binLL (P : Program) (op : BinOp) (t : TypeId) (rows : List (List AV)) (yn : Bool) (K : AV → Prop) : Prop :=
 if yn = true ∧ (elemT P t).isSome = true then (match op with
  | .eql => (rows ≠ [] → K (.bool false)) ∧ (rows = [] → ∀ b, K (.bool b))
  | _ => False) else False
def binA (P : Program) (op : BinOp) (t : TypeId) (x y : AV) (yn : Bool) (K : AV → Prop) : Prop := match x with
 | .int k a => (match y with
  | .int k' b => binII op k a k' b K
  | _ => False)
 | .bool a => (match y with
  | .bool b => binBB P op t a b K
  | _ => False)
 | .str a => (match y with
  | .str b => binSS op a b K
  | _ => False)
 | .agg l => (match y with
  | .agg m => if two P t = true then oelim (twoOf l) fun p => oelim (twoOf m) fun q => binTwo op p.1 p.2 q.1 q.2 K else False
  | _ => False)
 | .lst rows _ _ => binLL P op t rows yn K
 | _ => False
theorem eqGuard_int {op : BinOp} {t : TypeId} {x y : Operand} {k k' : IntKind} {a b : Int} {P : Program} {w : World} : (eqGuard op t x y (.int k a) (.int k' b)).run P w = .ok () w := by
 unfold eqGuard; cases op <;> rfl
theorem eqGuard_bool {op : BinOp} {t : TypeId} {x y : Operand} {a b : Bool} {P : Program} {w : World} : (eqGuard op t x y (.bool a) (.bool b)).run P w = .ok () w := by
 unfold eqGuard; cases op <;> rfl
theorem eqGuard_str {op : BinOp} {t : TypeId} {x y : Operand} {a b : ByteArray} {P : Program} {w : World} : (eqGuard op t x y (.string a) (.string b)).run P w = .ok () w := by
 unfold eqGuard; cases op <;> rfl
theorem eqGuard_slice {op : BinOp} {t : TypeId} {x y : Operand} {A B : Option Addr} {n m c d : Nat} {P : Program} {w : World} : (eqGuard op t x y (.slice A n c) (.slice B m d)).run P w = .ok () w := by
 unfold eqGuard; cases op <;> rfl
theorem eqGuard_agg {op : BinOp} {t : TypeId} {x y : Operand} {A B : Array Value} {P : Program} {w : World} (h : P.eqGuardType P.depth t = false) : (eqGuard op t x y (.agg A) (.agg B)).run P w = .ok () w := by
 unfold eqGuard; cases op <;> first | rfl | simp [h]
theorem run_binInt {P : Program} {w : World} {op : BinOp} {t : TypeId} {k : IntKind} {a b : Int} {K : AV → Prop} (h : binI op k a b K) :
  ∃ r u, K r ∧ (binOp op t (.int k a) (.int k b)).run P w = .ok u w ∧ ∀ E : Env, V3 E r u := by
 cases op <;> simp only [binI] at h
 case add => exact ⟨_, _, h, by simp [binOp, Op.intArith], fun E => RV.int _ _⟩
 case sub => exact ⟨_, _, h, by simp [binOp, Op.intArith], fun E => RV.int _ _⟩
 case mul => exact ⟨_, _, h, by simp [binOp, Op.intArith], fun E => RV.int _ _⟩
 case quo => exact ⟨_, _, h.2, by simp [binOp, Op.intDiv, h.1], fun E => RV.int _ _⟩
 case rem => exact ⟨_, _, h.2, by simp [binOp, Op.intDiv, h.1], fun E => RV.int _ _⟩
 case and => exact ⟨_, _, h, by simp [binOp, Op.intBits], fun E => RV.int _ _⟩
 case eql => exact ⟨_, _, h, by simp [binOp, Op.intCmp], fun E => RV.bool _⟩
 case neq => exact ⟨_, _, h, by simp [binOp, Op.intCmp], fun E => RV.bool _⟩
 case lss => exact ⟨_, _, h, by simp [binOp, Op.intCmp], fun E => RV.bool _⟩
 case leq => exact ⟨_, _, h, by simp [binOp, Op.intCmp], fun E => RV.bool _⟩
 case gtr => exact ⟨_, _, h, by simp [binOp, Op.intCmp], fun E => RV.bool _⟩
 case geq => exact ⟨_, _, h, by simp [binOp, Op.intCmp], fun E => RV.bool _⟩
theorem two_spec {P : Program} {t : TypeId} (h : two P t = true) : ∃ f g : Field, P.underlying t = some (.struct (P.fieldsOf t)) ∧ (P.fieldsOf t).toList = [f, g] ∧ P.stoodInHeld t = false ∧ P.eqGuardType P.depth t = false ∧
  f.name ≠ "_" ∧ g.name ≠ "_" ∧ f.offset = 0 ∧ g.offset = 1 ∧ P.underlying f.type = some (.int .i64) ∧ P.underlying g.type = some (.int .i64) := by
 unfold two at h
 split at h
 ·rename_i fs hfs
  have hf : P.fieldsOf t = fs := by simp [Program.fieldsOf, hfs]
  simp only [Bool.and_eq_true, Bool.not_eq_true'] at h
  obtain ⟨⟨h1, h2⟩, h3⟩ := h
  split at h3
  ·rename_i f g hl
   simp only [Bool.and_eq_true, bne_iff_ne, ne_eq, beq_iff_eq] at h3
   obtain ⟨⟨⟨⟨⟨q1, q2⟩, q3⟩, q4⟩, q5⟩, q6⟩ := h3
   refine ⟨f, g, by rw [hf]; exact hfs, by rw [hf]; exact hl, h1, h2, q1, q2, q3, q4, ?_, ?_⟩
   ·split at q5
    ·assumption
    ·cases q5
   ·split at q6
    ·assumption
    ·cases q6
  ·cases h3
 ·cases h
theorem run_two {P : Program} {t : TypeId} (h : two P t = true) (a b c d : Int) (w : World) :
  (Op.equal t (.agg #[.int .i64 a, .int .i64 b]) (.agg #[.int .i64 c, .int .i64 d])).run P w = .ok (a == c && b == d) w := by
 obtain ⟨f, g, h1, h2, h3, h4, h5, h6, h7, h8, h9, h10⟩ := two_spec h
 show (Op.equalIn (9999 + 1) t _ _).run P w = _
 rw [run_equalIn_struct w 9999 t _ _ h1 h3, h2]
 have pf : ∀ (tt : TypeId) (cs : Array Value) (o : Nat) (u : Value), P.underlying tt = some (.int .i64) → cs[o]? = some u → (part tt cs o).run P w = .ok u w := by
  intro tt cs o u hu hc
  simp [part, Go.isAgg, run_underlying hu, hc]
 simp only [Op.eqFields, if_pos h5, if_pos h6, h7, h8, Sem.run_bind]
 rw [pf f.type #[.int .i64 a, .int .i64 b] 0 (.int .i64 a) h9 rfl]
 simp only [Result.andThen_ok]
 rw [pf f.type #[.int .i64 c, .int .i64 d] 0 (.int .i64 c) h9 rfl]
 simp only [Result.andThen_ok]
 rw [show (9999 : Nat) = 9998 + 1 from rfl, run_equalIn_int w 9998 f.type .i64 .i64 a c h9]
 simp only [Result.andThen_ok]
 cases hac : (a == c)
 ·simp
 ·simp only [Bool.not_true, Bool.false_eq_true, if_false, Sem.run_bind]
  rw [pf g.type #[.int .i64 a, .int .i64 b] 1 (.int .i64 b) h10 rfl]
  simp only [Result.andThen_ok]
  rw [pf g.type #[.int .i64 c, .int .i64 d] 1 (.int .i64 d) h10 rfl]
  simp only [Result.andThen_ok]
  rw [run_equalIn_int w 9998 g.type .i64 .i64 b d h10]
  cases hbd : (b == d) <;> simp
theorem V3.two_inv {E : Env} {a b : Int} {v : Value} (h : V3 E (.agg [.int .i64 a, .int .i64 b]) v) : v = .agg #[.int .i64 a, .int .i64 b] := by
 obtain ⟨vs, rfl, hp⟩ := (h : V2 E (.agg [.int .i64 a, .int .i64 b]) v)
 obtain ⟨x, vs, rfl, hx, hp⟩ := hp.cons_inv
 obtain ⟨y, vs, rfl, hy, hp⟩ := hp.cons_inv
 obtain rfl := hp.nil_inv
 have hx' : RV E.w E.PA E.PF (.int .i64 a) x := hx
 have hy' : RV E.w E.PA E.PF (.int .i64 b) y := hy
 cases hx'; cases hy'; rfl
theorem twoOf_spec {l : List AV} {p : Int × Int} (h : twoOf l = some p) : l = [.int .i64 p.1, .int .i64 p.2] := by
 unfold twoOf at h
 split at h
 ·cases h; rfl
 ·cases h
theorem elemT_spec {P : Program} {t e : TypeId} (h : elemT P t = some e) : P.underlying t = some (.slice e) := by
 unfold elemT at h
 split at h
 ·cases h; assumption
 ·cases h
theorem bin_sound {P : Program} {op : BinOp} {t : TypeId} {X Y : Operand} {xa ya : AV} {xv yv : Value} {E : Env} {K : AV → Prop}
  {yn : Bool} (hx : V3 E xa xv) (hy : V3 E ya yv) (hyn : yn = true → yv = .slice none 0 0) (h : binA P op t xa ya yn K) :
  ∃ r u, K r ∧ (do eqGuard op t X Y xv yv; binOp op t xv yv : Sem Value).run P E.w = .ok u E.w ∧ V3 E r u := by
 cases xa with
 | int k a =>
  cases ya with
  | int k' b =>
   replace h : binII op k a k' b K := h
   obtain rfl := hx.int_inv
   obtain rfl := hy.int_inv
   cases op
   case shl =>
    obtain ⟨hb, h⟩ := h
    have hb' : ¬ b < 0 := by omega
    exact ⟨_, _, h, by simp [eqGuard_int, binOp, Op.shift, hb'], RV.int _ _⟩
   case shr =>
    obtain ⟨hb, h⟩ := h
    have hb' : ¬ b < 0 := by omega
    exact ⟨_, _, h, by simp [eqGuard_int, binOp, Op.shift, hb'], RV.int _ _⟩
   all_goals
    simp only [binII] at h
    split at h
    ·rename_i hk
     subst hk
     obtain ⟨r, u, hK, hr, hv⟩ := run_binInt (P := P) (w := E.w) (t := t) h
     exact ⟨r, u, hK, by simp only [Sem.run_bind, eqGuard_int, Result.andThen_ok, hr], hv E⟩
    ·exact h.elim
  | _ => exact h.elim
 | bool a =>
  cases ya with
  | bool b =>
   replace h : binBB P op t a b K := h
   obtain rfl := hx.bool_inv
   obtain rfl := hy.bool_inv
   unfold binBB at h
   split at h
   ·rename_i hu
    have hu' : P.underlying t = some .bool := by
     unfold isBoolT at hu
     split at hu
     ·assumption
     ·cases hu
    cases op <;> first | exact h.elim | skip
    case eql => exact ⟨_, _, h, by simp only [Sem.run_bind, eqGuard_bool, Result.andThen_ok, binOp, Op.equal]; rw [show Op.maxDepth = 9999 + 1 from rfl, run_equalIn_bool' E.w 9999 t a b hu']; rfl, RV.bool _⟩
    case neq => exact ⟨_, _, h, by simp only [Sem.run_bind, eqGuard_bool, Result.andThen_ok, binOp, Op.equal]; rw [show Op.maxDepth = 9999 + 1 from rfl, run_equalIn_bool' E.w 9999 t a b hu']; rfl, RV.bool _⟩
   ·exact h.elim
  | _ => exact h.elim
 | str a =>
  cases ya with
  | str b =>
   replace h : binSS op a b K := h
   obtain rfl := hx.str_inv
   obtain rfl := hy.str_inv
   cases op <;> first | exact h.elim | skip
   case add =>
    obtain ⟨hl, h⟩ := h
    have : ¬ ((a.size + b.size : Nat) : Int) > IntKind.i64.max := by
     have : IntKind.i64.max = 9223372036854775807 := by decide
     rw [this]; omega
    exact ⟨_, _, h, by simp only [Sem.run_bind, eqGuard_str, Result.andThen_ok, binOp, Op.stringOp]; rw [if_neg this]; rfl, RV.str _⟩
   case eql => exact ⟨_, _, h, by simp only [Sem.run_bind, eqGuard_str, Result.andThen_ok, binOp, Op.stringOp]; rfl, RV.bool _⟩
   case neq => exact ⟨_, _, h, by simp only [Sem.run_bind, eqGuard_str, Result.andThen_ok, binOp, Op.stringOp]; rfl, RV.bool _⟩
  | _ => exact h.elim
 | agg l =>
  cases ya with
  | agg m =>
   replace h : if two P t = true then oelim (twoOf l) fun p => oelim (twoOf m) fun q => binTwo op p.1 p.2 q.1 q.2 K else False := h
   split at h
   ·rename_i ht
    obtain ⟨⟨a, b⟩, hp, h⟩ := oelim_inv h
    obtain ⟨⟨c, d⟩, hq, h⟩ := oelim_inv h
    obtain rfl := twoOf_spec hp
    obtain rfl := twoOf_spec hq
    obtain rfl := hx.two_inv
    obtain rfl := hy.two_inv
    obtain ⟨f, g, h1, h2, h3, h4, _⟩ := two_spec ht
    cases op <;> first | exact h.elim | skip
    case eql => exact ⟨_, _, h, by simp only [Sem.run_bind, eqGuard_agg h4, Result.andThen_ok, binOp, run_two ht]; rfl, RV.bool _⟩
    case neq => exact ⟨_, _, h, by simp only [Sem.run_bind, eqGuard_agg h4, Result.andThen_ok, binOp, run_two ht]; rfl, RV.bool _⟩
   ·exact h.elim
  | _ => exact h.elim
 | lst rows fu fr =>
  replace h : binLL P op t rows yn K := h
  unfold binLL at h
  split at h
  ·rename_i hc
   obtain ⟨hn, he⟩ := hc
   obtain ⟨e, he⟩ := Option.isSome_iff_exists.1 he
   have hu := elemT_spec he
   obtain rfl := hyn hn
   have hx' : RV E.w E.PA E.PF (.lst rows fu fr) xv := hx
   cases hx' with
   | @lst _ _ _ _ _ _ A cap sz vs hPB hcap hfull hsz hcell hrel =>
   have hrun : (do eqGuard op t X Y (.slice A rows.length cap) (.slice none 0 0); binOp .eql t (.slice A rows.length cap) (.slice none 0 0) : Sem Value).run P E.w = .ok (.bool A.isNone) E.w := by
    simp only [Sem.run_bind, eqGuard_slice, Result.andThen_ok, binOp, Op.equal]
    rw [show Op.maxDepth = 9999 + 1 from rfl]
    generalize 9999 = d
    simp only [Op.equalIn, Sem.run_bind, run_underlying hu, Result.andThen_ok]
    cases A <;> rfl
   cases op <;> first | exact h.elim | skip
   case eql =>
    obtain ⟨h1, h2⟩ := h
    by_cases hr : rows = []
    ·exact ⟨_, _, h2 hr A.isNone, hrun, RV.bool _⟩
    ·have : 0 < rows.length := by cases rows <;> simp_all
     obtain ⟨c, o, rfl, _⟩ := hcell this
     exact ⟨_, _, h1 hr, hrun, RV.bool _⟩
  ·exact h.elim
 | _ => exact h.elim
end Go.Proofs.Ytglpfccgmfhkdaa.Fw
/- The framework, part F: structs and slices made of parts, addresses of fields and elements, pieces, lengths, conversions. -/

set_option linter.unusedVariables false
namespace Go.Proofs.Ytglpfccgmfhkdaa.Fw
open Go
theorem foldl_set (off : Nat) : ∀ (l : List Value) (k : Nat) (cells : Array Value), off + k + l.length ≤ cells.size →
  (((l.zipIdx k).foldl (fun cs (x : Value × Nat) => cs.setIfInBounds (off + x.2) x.1) cells).size = cells.size ∧
  ∀ i, ((l.zipIdx k).foldl (fun cs (x : Value × Nat) => cs.setIfInBounds (off + x.2) x.1) cells)[i]? = if i < off + k then cells[i]? else if i < off + k + l.length then l[i - (off + k)]? else cells[i]?)
 | [], k, cells, _ => ⟨rfl, fun i => by simp; omega⟩
 | v :: l, k, cells, h => by
  have h' : off + (k + 1) + l.length ≤ (cells.setIfInBounds (off + k) v).size := by simp at h ⊢; omega
  obtain ⟨h1, h2⟩ := foldl_set off l (k + 1) (cells.setIfInBounds (off + k) v) h'
  refine ⟨by simp only [List.zipIdx_cons, List.foldl_cons]; rw [h1]; simp, fun i => ?_⟩
  simp only [List.zipIdx_cons, List.foldl_cons]
  rw [h2 i]
  simp only [Array.getElem?_setIfInBounds, List.length_cons] at *
  by_cases a1 : i < off + k
  ·rw [if_pos (by omega), if_neg (by omega), if_pos a1]
  ·by_cases a2 : i = off + k
   ·subst a2
    rw [if_pos (by omega), if_pos rfl, if_pos (by omega), if_neg (by omega), if_pos (by omega)]
    simp
   ·by_cases a3 : i < off + (k + 1) + l.length
    ·rw [if_neg (by omega), if_pos a3, if_neg a1, if_pos (by omega), show i - (off + k) = (i - (off + (k + 1))) + 1 by omega]
     simp
    ·rw [if_neg (by omega), if_neg a3, if_neg (by omega), if_neg a1, if_neg (by omega)]
def fillA (pl : Nat → Option (Nat × Nat)) (cells : List AV) : List (Nat × AV) → Option (List AV)
 | [] => some cells
 | (i, v) :: rest => match pl i with
  | none => none
  | some (off, size) => if (cellsA v).length = size ∧ off + (cellsA v).length ≤ cells.length ∧ (cellsA v).all sto1 = true then fillA pl (splice cells off (cellsA v)) rest else none
theorem fill_sound {E : Env} {pl : Nat → Option (Nat × Nat)} : ∀ {parts : List (Nat × AV)} {vparts : List (Nat × Value)} {cells : List AV} {vcells : Array Value} {r : List AV},
  PW (fun a b => a.1 = b.1 ∧ V2 E a.2 b.2) parts vparts → PW (V1 E.noL) cells vcells.toList → fillA pl cells parts = some r → ∃ rc, Instr.fill pl vcells vparts = some rc ∧ PW (V1 E.noL) r rc.toList
 | [], vparts, cells, vcells, r, hp, hc, h => by
  obtain rfl := hp.nil_inv
  cases h
  exact ⟨vcells, rfl, hc⟩
 | (i, v) :: rest, vparts, cells, vcells, r, hp, hc, h => by
  obtain ⟨⟨i', u⟩, vrest, rfl, ⟨hi, hv⟩, hp'⟩ := hp.cons_inv
  simp only at hi hv
  subst hi
  unfold fillA at h
  split at h
  ·cases h
  ·rename_i off size hpl
   split at h
   ·rename_i hcond
    obtain ⟨h1, h2, h3⟩ := hcond
    have hcv := cells_rel hv h3
    have hcn : PW (V1 E.noL) (cellsA v) u.cells.toList := ⟨hcv.1, fun i a b ha hb => sto1_noL (List.all_eq_true.1 h3 a (List.mem_of_getElem? ha)) (hcv.2 i a b ha hb)⟩
    have hsz : u.cells.size = (cellsA v).length := by rw [hcv.1]; simp
    have hcl : cells.length = vcells.size := by rw [hc.1]; simp
    obtain ⟨f1, f2⟩ := foldl_set off u.cells.toList 0 vcells (by simp; omega)
    simp only [Nat.add_zero] at f1 f2
    have hnew : PW (V1 E.noL) (splice cells off (cellsA v)) ((u.cells.toList.zipIdx).foldl (fun cs (x : Value × Nat) => cs.setIfInBounds (off + x.2) x.1) vcells).toList := by
     have hs := PW.splice hc hcn h2
     refine ⟨?_, fun k a b ha hb => ?_⟩
     ·simp only [Array.length_toList]; rw [f1]; simp [splice]; omega
     ·refine hs.2 k a b ha ?_
      rw [splice_get (by simp; omega)]
      rw [Array.getElem?_toList, f2 k] at hb
      simpa using hb
    obtain ⟨rc, hr, hrel⟩ := fill_sound hp' hnew h
    refine ⟨rc, ?_, hrel⟩
    unfold Instr.fill
    rw [hpl]
    simp only
    rw [if_neg (by simp; omega)]
    rw [← Array.foldl_toList, Array.toList_zipIdx]
    exact hr
   ·cases h
def zeroA (P : Program) (t : TypeId) : Option (List AV) := ((P.info? t).bind (·.zero)).map fun z => z.cells.toList.map cv
theorem cv_v1 (E : Env) (v : Value) : V1 E (cv v) v := by
 unfold cv
 split
 ·exact RV.int _ _
 ·exact RV.bool _
 ·exact RV.str _
 ·exact RV.lst (PB := fun _ => False) (sz := 0) (vs := fun _ _ => undef) (fun _ h => h.elim) ⟨Nat.le_refl _, Nat.zero_le _⟩ (fun _ => rfl) (fun i row h => by simp at h) (fun h => by simp at h) (fun i j row a h => by simp at h)
 ·exact RV.nilp
 ·exact RV.niface
 ·exact RV.undef _
theorem zero_rel {E : Env} {P : Program} {t : TypeId} {z : List AV} (h : zeroA P t = some z) : ∃ i v, P.info? t = some i ∧ i.zero = some v ∧ z = v.cells.toList.map cv ∧ PW (V1 E) z v.cells.toList := by
 unfold zeroA at h
 cases hi : P.info? t with
 | none => simp [hi] at h
 | some i =>
  cases hz : i.zero with
  | none => simp [hi, hz] at h
  | some v =>
   simp [hi, hz] at h
   subst h
   refine ⟨i, v, rfl, hz, rfl, by simp, fun k a b ha hb => ?_⟩
   rw [List.getElem?_map, hb] at ha
   simp at ha; subst ha; exact cv_v1 E b
def placesA (P : Program) (t : TypeId) : Option (List (Nat × Nat)) := match P.underlying t with
 | some (.struct fs) => fs.toList.mapM (fun f => (P.info? f.type).map fun i => (f.offset, i.size))
 | _ => none
def buildA (P : Program) (t : TypeId) (parts : List (Nat × AV)) (K : AV → Prop) : Prop :=
 oelim (zeroA P t) fun z => oelim (placesA P t) fun pl => oelim (fillA (fun i => pl[i]?) z parts) fun cells => K (.agg cells)
theorem build_sound {P : Program} {E : Env} {t : TypeId} {parts : List (Nat × AV)} {vparts : List (Nat × Value)} {K : AV → Prop} (hp : PW (fun a b => a.1 = b.1 ∧ V2 E a.2 b.2) parts vparts) (h : buildA P t parts K) :
  ∃ r u, K r ∧ (Instr.build t vparts.toArray).run P E.w = .ok u E.w ∧ V3 E r u := by
 obtain ⟨z, hz, h⟩ := oelim_inv h
 obtain ⟨pl, hpl, h⟩ := oelim_inv h
 obtain ⟨cells, hf, h⟩ := oelim_inv h
 obtain ⟨i, v, h1, h2, h3, h4⟩ := zero_rel (E := E.noL) hz
 obtain ⟨rc, hr, hrel⟩ := fill_sound hp h4 hf
 refine ⟨_, .agg rc, h, run_build E.w t vparts.toArray rc ?_, rc.toList, by simp, hrel.mono fun _ _ k => k.up⟩
 unfold placesA at hpl
 split at hpl
 ·rename_i fs hfs
  unfold Program.built
  rw [h1, hfs]
  simp only [h2, hpl]
  simpa using hr
 ·cases hpl
def byv0 : AV → Bool
 | .int _ _ | .bool _ | .str _ | .lst _ _ _ | .nilp | .niface => true
 | _ => false
def frs : AV → Bool
 | .lst _ _ fr => fr
 | _ => true
def unfr : AV → AV
 | .lst rows _ _ => .lst rows false false
 | a => a
def refr : AV → AV
 | .lst rows full _ => .lst rows full true
 | a => a
theorem refr_rel {w : World} {PB PA PF : Nat → Prop} {a : AV} {v : Value} (h : RV w PB (fun _ => False) a v) (hb : ∀ c, PB c → PF c) (hpf : ∀ c, PF c → PA c) : RV w PA PF (refr a) v := by
 have key : (∀ rows full fr, a ≠ .lst rows full fr) → RV w PA PF (refr a) v := fun hne => by
  have e : refr a = a := by cases a <;> first | rfl | exact absurd rfl (hne _ _ _)
  rw [e]
  exact h.mono (fun _ _ => rfl) (fun _ h => h.elim) (fun c hc => hpf c (hb c hc)) (fun _ h => h.elim)
 cases a with
 | lst rows full fr =>
  cases h with
  | lst hPB hcap hfull hsz hcell hrel =>
   exact .lst (fun c hc => by
    have := hPB c hc
    rw [if_pos rfl]
    split at this
    ·exact this.elim
    ·exact hb c this) hcap hfull hsz hcell hrel
 | _ => exact key (fun _ _ _ e => by cases e)
theorem unfr_rel {w : World} {PA PF PB : Nat → Prop} {a : AV} {v : Value} (ha : byv0 a = true) (h : RV w PA PF a v) (hb : ∀ c, PA c → PB c) (hpf : ∀ c, PF c → PA c) : RV w PB (fun _ => False) (unfr a) v := by
 cases h with
 | undef => cases ha
 | int => exact .int _ _
 | bool => exact .bool _
 | str => exact .str _
 | lst hPB hcap hfull hsz hcell hrel =>
  exact .lst (fun c hc => by
   have := hPB c hc
   simp only [Bool.false_eq_true, if_false]
   split at this
   ·exact hb c (hpf c this)
   ·exact hb c this) hcap (fun h => by cases h) hsz hcell hrel
 | rp => cases ha
 | nilp => exact .nilp
 | niface => exact .niface
 | fn => cases ha
theorem unfr_fresh {w : World} {PA PF : Nat → Prop} {a : AV} {v : Value} (ha : byv0 a = true) (hf : frs a = true) (h : RV w PA PF a v) : RV w PF (fun _ => False) (unfr a) v := by
 cases h with
 | undef => cases ha
 | int => exact .int _ _
 | bool => exact .bool _
 | str => exact .str _
 | @lst _ _ PB rows full fresh A cap sz vs hPB hcap hfull hsz hcell hrel =>
  have hfr : fresh = true := hf
  subst hfr
  exact .lst (fun c hc => by simpa using hPB c hc) hcap (fun h => by cases h) hsz hcell hrel
 | rp => cases ha
 | nilp => exact .nilp
 | niface => exact .niface
 | fn => cases ha
def chunk (size n : Nat) (cells : List AV) : List (List AV) := (List.range n).map fun i => (cells.drop (i * size)).take size
def bslA (P : Program) (t : TypeId) (n : Nat) (parts : List (Nat × AV)) (K : AV → Prop) : Prop :=
 oelim (elemT P t) fun e => oelim (zeroA P e) fun z => if z.length = P.cellsOf e ∧ n * z.length ≤ 1000000 ∧ n ≤ 1000000 then
  oelim (fillA (fun i => some (i * z.length, z.length)) ((List.range (n * z.length)).map fun i => z.getD (i % z.length) .undef) parts) fun cells =>
   if cells.all byv0 = true then K (.lst (chunk z.length n (cells.map unfr)) true (cells.all frs)) else False
 else False
theorem byv0_rv {E : Env} {a : AV} {v : Value} (ha : byv0 a = true) (h : V1 E a v) : RV E.w E.PA E.PF a v := by
 cases a <;> first | exact h | cases ha
theorem chunk_get {size n i j : Nat} {cells row : List AV} {a : AV} (hr : (chunk size n cells)[i]? = some row) (hj : row[j]? = some a) : i < n ∧ j < size ∧ cells[i * size + j]? = some a := by
 unfold chunk at hr
 rw [List.getElem?_map] at hr
 cases hri : (List.range n)[i]? with
 | none => simp [hri] at hr
 | some k =>
  have hi : i < n := by have := (List.getElem?_eq_some_iff.1 hri).1; simpa using this
  rw [List.getElem?_range hi] at hri
  cases hri
  rw [List.getElem?_range hi] at hr
  simp at hr
  subst hr
  rw [List.getElem?_take] at hj
  split at hj
  ·rw [List.getElem?_drop] at hj
   exact ⟨hi, by assumption, hj⟩
  ·cases hj
theorem alloc_get (w : World) (o : Obj) (c : Nat) (h : c < w.heap.size) : (w.alloc o).heap[c]? = w.heap[c]? := Go.RowKit.Below.heap_alloc w o c h
theorem alloc_new (w : World) (o : Obj) : (w.alloc o).heap[w.heap.size]? = some o := by
 show (w.heap.push o)[w.heap.size]? = _
 simp
theorem Quiet.alloc {E : Env} {H : List Blk} (hH : SimH E H) (o : Obj) :
  Quiet E { E with w := E.w.alloc o, PA := fun c => E.PA c ∨ c = E.w.heap.size, PF := fun c => E.PF c ∨ c = E.w.heap.size } where
 step := ⟨⟨fun _ h => .inl h, fun _ h => .inl h, fun c hc => alloc_get _ _ _ (hH.ltP c hc), fun c hc => alloc_get _ _ _ (hH.ltP c (hH.pfpa c hc)), fun _ => Nat.le_refl _, fun _ _ h _ => ⟨h, rfl, rfl⟩, fun _ _ h => h⟩,
  rfl, rfl, rfl, by simp, fun c hc _ _ => alloc_get _ _ _ hc, fun _ h => .inl h, fun _ h => .inl h, fun c hc => hc.elim .inl (fun e => .inr (by omega)), fun c hc => hc.elim .inl (fun e => .inr (by omega))⟩
 m := rfl
 mL := rfl
 gen := rfl
 sz := rfl
 cp := rfl
 keep := fun c hc => alloc_get _ _ _ hc
 pa := fun c hc => hc.elim .inl (fun e => .inr (by simp; omega))
 pfpa := fun c hc => hc.elim (fun h => .inl (hH.pfpa c h)) .inr
theorem bsl_run {P : Program} {E : Env} {t : TypeId} {e : TypeId} {n : Nat} {z : List AV} {parts : List (Nat × AV)} {vparts : List (Nat × Value)} {cells : List AV} (hp : PW (fun a b => a.1 = b.1 ∧ V2 E a.2 b.2) parts vparts) (he : elemT P t = some e) (hz : zeroA P e = some z)
  (hzl : z.length = P.cellsOf e) (hbig : n * z.length ≤ 1000000 ∧ n ≤ 1000000) (hf : fillA (fun i => some (i * z.length, z.length)) ((List.range (n * z.length)).map fun i => z.getD (i % z.length) .undef) parts = some cells) :
  ∃ rc, PW (V1 E.noL) cells rc.toList ∧ (Instr.buildSlice t n vparts.toArray).run P E.w = .ok (.slice (some ⟨E.w.heap.size, 0, none⟩) n n) (E.w.alloc (.cells rc e)) ∧ cells.length = n * z.length := by
 obtain ⟨i, v, h1, h2, h3, h4⟩ := zero_rel (E := E.noL) hz
 have hzv : v.cells.size = z.length := by rw [h3]; simp
 have hisz : i.size = z.length := by rw [hzl]; simp [Program.cellsOf, h1]
 let vz : Array Value := if n * z.length = 0 then #[] else v.cells
 let base : Array Value := (Array.range (n * z.length)).map (fun i => vz[i % vz.size]!)
 have hbase : PW (V1 E.noL) ((List.range (n * z.length)).map fun i => z.getD (i % z.length) .undef) base.toList := by
  refine ⟨by simp [base], fun k a b ha hb => ?_⟩
  rw [List.getElem?_map] at ha
  have hk : k < n * z.length := by
   cases hq : (List.range (n * z.length))[k]? with
   | none => simp [hq] at ha
   | some x => have := (List.getElem?_eq_some_iff.1 hq).1; simpa using this
  rw [List.getElem?_range hk] at ha
  simp only [Option.map_some, Option.some.injEq] at ha
  have hpos : 0 < z.length := by
   rcases Nat.eq_zero_or_pos z.length with q | q
   ·rw [q, Nat.mul_zero] at hk; omega
   ·exact q
  have hlt : k % z.length < z.length := Nat.mod_lt _ hpos
  have hvz : vz = v.cells := if_neg (by omega)
  have hb' : base[k]? = some (v.cells[k % z.length]!) := by
   show ((Array.range (n * z.length)).map (fun i => vz[i % vz.size]!))[k]? = _
   rw [hvz, hzv]
   simp [hk]
  rw [Array.getElem?_toList, hb'] at hb
  simp only [Option.some.injEq] at hb
  have hvl : v.cells.toList[k % z.length]? = some (v.cells[k % z.length]!) := by
   rw [Array.getElem?_toList, Array.getElem?_eq_getElem (by omega)]
   congr 1
   exact (getElem!_pos v.cells (k % z.length) (by omega)).symm
  have hzl' : z[k % z.length]? = some a := by
   rw [← ha, List.getD_eq_getElem?_getD, List.getElem?_eq_getElem hlt]; rfl
  rw [← hb]
  exact h4.2 _ _ _ hzl' hvl
 obtain ⟨rc, hr, hrel⟩ := fill_sound hp hbase hf
 have hu := elemT_spec he
 have hrun : (Instr.buildSlice t n vparts.toArray).run P E.w = .ok (.slice (some ⟨E.w.heap.size, 0, none⟩) n n) (E.w.alloc (.cells rc e)) := by
  have hb24 : ¬ n * z.length > 2 ^ 24 := by omega
  simp only [Instr.buildSlice, Sem.run_bind, run_underlying hu, Result.andThen_ok, run_sizeOf (show (P.info? e).isSome = true by rw [h1]; rfl), ← hzl, if_neg hb24]
  have hr' : Instr.fill (fun i => some (i * z.length, z.length)) ((Array.range (n * z.length)).map (fun x => vz[x % vz.size]!)) vparts = some rc := hr
  by_cases q : n * z.length = 0
  ·have hvz : vz = #[] := if_pos q
   rw [if_pos q]
   simp only [Sem.run_bind, Sem.run_pure, Result.andThen_ok]
   rw [← hvz, hr']
   simp [newRow]
  ·have hvz : vz = v.cells := if_neg q
   rw [if_neg q]
   simp only [Sem.run_bind, Sem.run_pure, Result.andThen_ok, zeroValue, typeInfo, h1, h2, run_program]
   rw [← hvz, hr']
   simp [newRow]
 have hlen : cells.length = n * z.length := by
  have q := hrel.1
  have : ∀ (parts : List (Nat × AV)) (c r : List AV), fillA (fun i => some (i * z.length, z.length)) c parts = some r → r.length = c.length := by
   intro parts
   induction parts with
   | nil => intro c r hh; cases hh; rfl
   | cons p ps ih =>
    intro c r hh
    obtain ⟨a, b⟩ := p
    unfold fillA at hh
    split at hh
    ·cases hh
    ·split at hh
     ·rename_i hc
      rw [ih _ _ hh]; simp [splice]; omega
     ·cases hh
  rw [this _ _ _ hf]; simp
 exact ⟨rc, hrel, hrun, hlen⟩
theorem bsl_sound {P : Program} {E : Env} {H : List Blk} {t : TypeId} {n : Nat} {parts : List (Nat × AV)} {vparts : List (Nat × Value)} {K : AV → Prop} (hH : SimH E H) (hp : PW (fun a b => a.1 = b.1 ∧ V2 E a.2 b.2) parts vparts) (h : bslA P t n parts K) :
  ∃ r u E', K r ∧ (Instr.buildSlice t n vparts.toArray).run P E.w = .ok u E'.w ∧ Quiet E E' ∧ V3 E' r u := by
 obtain ⟨e, he, h⟩ := oelim_inv h
 obtain ⟨z, hz, h⟩ := oelim_inv h
 split at h
 case isFalse => exact h.elim
 case isTrue hb =>
 obtain ⟨hzl, hbig⟩ := hb
 obtain ⟨cells, hf, h⟩ := oelim_inv h
 split at h
 case isFalse => exact h.elim
 case isTrue hby =>
 obtain ⟨i, v, h1, h2, h3, h4⟩ := zero_rel (E := E.noL) hz
 have hzv : v.cells.size = z.length := by rw [h3]; simp
 have hisz : i.size = z.length := by rw [hzl]; simp [Program.cellsOf, h1]
 let vz : Array Value := if n * z.length = 0 then #[] else v.cells
 let base : Array Value := (Array.range (n * z.length)).map (fun i => vz[i % vz.size]!)
 have hbase : PW (V1 E.noL) ((List.range (n * z.length)).map fun i => z.getD (i % z.length) .undef) base.toList := by
  refine ⟨by simp [base], fun k a b ha hb => ?_⟩
  rw [List.getElem?_map] at ha
  have hk : k < n * z.length := by
   cases hq : (List.range (n * z.length))[k]? with
   | none => simp [hq] at ha
   | some x => have := (List.getElem?_eq_some_iff.1 hq).1; simpa using this
  rw [List.getElem?_range hk] at ha
  simp only [Option.map_some, Option.some.injEq] at ha
  have hpos : 0 < z.length := by
   rcases Nat.eq_zero_or_pos z.length with q | q
   ·rw [q, Nat.mul_zero] at hk; omega
   ·exact q
  have hlt : k % z.length < z.length := Nat.mod_lt _ hpos
  have hvz : vz = v.cells := if_neg (by omega)
  have hb' : base[k]? = some (v.cells[k % z.length]!) := by
   show ((Array.range (n * z.length)).map (fun i => vz[i % vz.size]!))[k]? = _
   rw [hvz, hzv]
   simp [hk]
  rw [Array.getElem?_toList, hb'] at hb
  simp only [Option.some.injEq] at hb
  have hvl : v.cells.toList[k % z.length]? = some (v.cells[k % z.length]!) := by
   rw [Array.getElem?_toList, Array.getElem?_eq_getElem (by omega)]
   congr 1
   exact (getElem!_pos v.cells (k % z.length) (by omega)).symm
  have hzl' : z[k % z.length]? = some a := by
   rw [← ha, List.getD_eq_getElem?_getD, List.getElem?_eq_getElem hlt]; rfl
  rw [← hb]
  exact h4.2 _ _ _ hzl' hvl
 obtain ⟨rc, hr, hrel⟩ := fill_sound hp hbase hf
 have hq := Quiet.alloc hH (.cells rc e)
 have hu := elemT_spec he
 have hrun : (Instr.buildSlice t n vparts.toArray).run P E.w = .ok (.slice (some ⟨E.w.heap.size, 0, none⟩) n n) (E.w.alloc (.cells rc e)) := by
  have hb24 : ¬ n * z.length > 2 ^ 24 := by omega
  simp only [Instr.buildSlice, Sem.run_bind, run_underlying hu, Result.andThen_ok, run_sizeOf (show (P.info? e).isSome = true by rw [h1]; rfl), ← hzl, if_neg hb24]
  have hr' : Instr.fill (fun i => some (i * z.length, z.length)) ((Array.range (n * z.length)).map (fun x => vz[x % vz.size]!)) vparts = some rc := hr
  by_cases q : n * z.length = 0
  ·have hvz : vz = #[] := if_pos q
   rw [if_pos q]
   simp only [Sem.run_bind, Sem.run_pure, Result.andThen_ok]
   rw [← hvz, hr']
   simp [newRow]
  ·have hvz : vz = v.cells := if_neg q
   rw [if_neg q]
   simp only [Sem.run_bind, Sem.run_pure, Result.andThen_ok, zeroValue, typeInfo, h1, h2, run_program]
   rw [← hvz, hr']
   simp [newRow]
 have hlen : cells.length = n * z.length := by
  have q := hrel.1
  have : ∀ (parts : List (Nat × AV)) (c r : List AV), fillA (fun i => some (i * z.length, z.length)) c parts = some r → r.length = c.length := by
   intro parts
   induction parts with
   | nil => intro c r hh; cases hh; rfl
   | cons p ps ih =>
    intro c r hh
    obtain ⟨a, b⟩ := p
    unfold fillA at hh
    split at hh
    ·cases hh
    ·split at hh
     ·rename_i hc
      rw [ih _ _ hh]; simp [splice]; omega
     ·cases hh
  rw [this _ _ _ hf]; simp
 refine ⟨_, _, _, h, hrun, hq, ?_⟩
 have hcl : (chunk z.length n (cells.map unfr)).length = n := by simp [chunk]
 show RV (E.w.alloc (.cells rc e)) (fun c => E.PA c ∨ c = E.w.heap.size) (fun c => E.PF c ∨ c = E.w.heap.size) _ _
 have key := RV.lst (w := E.w.alloc (.cells rc e)) (PA := fun c => E.PA c ∨ c = E.w.heap.size) (PF := fun c => E.PF c ∨ c = E.w.heap.size)
  (PB := if cells.all frs = true then (fun c => E.PF c ∨ c = E.w.heap.size) else (fun c => E.PA c ∨ c = E.w.heap.size))
  (rows := chunk z.length n (cells.map unfr)) (full := true) (fresh := cells.all frs) (A := some ⟨E.w.heap.size, 0, none⟩) (cap := n) (sz := z.length) (vs := fun i j => (rc[i * z.length + j]?).getD undef)
  (fun c hc => by split at hc <;> (rename_i q; simp only [q]; first | exact hc | simpa using hc)) (by omega) (fun _ => hcl.symm)
  (fun i row hr => by
   unfold chunk at hr
   rw [List.getElem?_map] at hr
   cases hri : (List.range n)[i]? with
   | none => simp [hri] at hr
   | some k =>
    have hi : i < n := by have := (List.getElem?_eq_some_iff.1 hri).1; simpa using this
    rw [List.getElem?_range hi] at hr
    simp at hr
    subst hr
    have : i * z.length + z.length ≤ n * z.length := by
     calc i * z.length + z.length = (i + 1) * z.length := by rw [Nat.add_mul, Nat.one_mul]
      _ ≤ n * z.length := Nat.mul_le_mul_right _ (by omega)
    simp; omega)
  (fun _ => ⟨E.w.heap.size, 0, rfl, by split <;> exact .inr rfl, fun i j hi hj => by
   rw [hcl] at hi
   have : i * z.length + z.length ≤ n * z.length := by
    calc i * z.length + z.length = (i + 1) * z.length := by rw [Nat.add_mul, Nat.one_mul]
     _ ≤ n * z.length := Nat.mul_le_mul_right _ (by omega)
   have hrs : rc.size = n * z.length := by rw [← hlen, hrel.1]; simp
   rw [Nat.zero_add]
   have hlt : i * z.length + j < rc.size := by omega
   rw [World.cell?_alloc_new]
   simp [Array.getElem?_eq_getElem hlt]⟩)
  (fun i j row a hr hj => by
   obtain ⟨hi, hjs, hc⟩ := chunk_get hr hj
   rw [List.getElem?_map] at hc
   cases hca : cells[i * z.length + j]? with
   | none => simp [hca] at hc
   | some b =>
    simp [hca] at hc
    subst hc
    obtain ⟨u, hu, hru⟩ := hrel.get hca
    have hbb : byv0 b = true := List.all_eq_true.1 hby b (List.mem_of_getElem? hca)
    have hrv := byv0_rv hbb hru.up
    have hu' : (rc[i * z.length + j]?).getD undef = u := by rw [Array.getElem?_toList] at hu; rw [hu]; rfl
    rw [hu']
    by_cases hall : cells.all frs = true
    ·have hfb : frs b = true := List.all_eq_true.1 hall b (List.mem_of_getElem? hca)
     rw [if_pos hall]
     exact (unfr_fresh hbb hfb hrv).mono (fun c hc => alloc_get _ _ _ (hH.ltP c (hH.pfpa c hc))) (fun c hc => hc.elim) (fun c hc => .inl hc) (fun c hc => hc)
    ·rw [if_neg hall]
     exact (unfr_rel hbb hrv (fun c hc => hc) hH.pfpa).mono (fun c hc => alloc_get _ _ _ (hH.ltP c hc)) (fun c hc => hc.elim) (fun c hc => .inl hc) (fun c hc => hc))
 rw [hcl] at key
 exact key
end Go.Proofs.Ytglpfccgmfhkdaa.Fw
/- The framework, part G: addresses of fields and elements, pieces, lengths, conversions. -/

set_option linter.unusedVariables false
namespace Go.Proofs.Ytglpfccgmfhkdaa.Fw
open Go
def fieldT (P : Program) (t : TypeId) (f : Nat) : Option Field := match P.underlying t with
 | some (.struct fs) => fs.toList[f]?
 | _ => none
theorem fieldT_spec {P : Program} {t : TypeId} {f : Nat} {fd : Field} (h : fieldT P t f = some fd) : ∃ fs, P.underlying t = some (.struct fs) ∧ fs[f]? = some fd := by
 unfold fieldT at h
 split at h
 ·rename_i fs hfs; exact ⟨fs, hfs, by simpa using h⟩
 ·cases h
def fadA (P : Program) (t : TypeId) (x : AV) (f : Nat) (K : AV → Prop) : Prop :=
 oelim (fieldT P t f) fun fd => if (P.info? fd.type).isSome = true ∧ P.cellsOf fd.type ≠ 0 then (match x with
  | .lptr s c => K (.lptr s (c + fd.offset))
  | .ptr b g r c => K (.ptr b g r (c + fd.offset))
  | .rp cells c => K (.rp cells (c + fd.offset))
  | _ => False) else False
theorem run_fieldPlace {P : Program} {fd : Field} {w : World} {c o : Nat} (hi : (P.info? fd.type).isSome = true) (hz : P.cellsOf fd.type ≠ 0) :
  (fieldPlace ⟨c, o, none⟩ fd).run P w = .ok ⟨c, o + fd.offset, none⟩ w := by
 simp [fieldPlace, run_sizeOf hi, hz, addr_add]
theorem fad_sound {P : Program} {t : TypeId} {x : AV} {f : Nat} {K : AV → Prop} {E : Env} {v : Value} (hx : V3 E x v)
  (h : fadA P t x f K) :
  ∃ r u, K r ∧ (Instr.fieldAt t v f).run P E.w = .ok u E.w ∧ V3 E r u := by
 obtain ⟨fd, hf, h⟩ := oelim_inv h
 obtain ⟨fs, hu, hfd⟩ := fieldT_spec hf
 split at h
 case isFalse => exact h.elim
 case isTrue hc =>
 obtain ⟨hi, hz⟩ := hc
 have run : ∀ bl o, (Instr.fieldAt t (.pointer (some ⟨bl, o, none⟩)) f).run P E.w = .ok (.pointer (some ⟨bl, o + fd.offset, none⟩)) E.w := by
  intro bl o
  simp [Instr.fieldAt, run_underlying hu, hfd, Instr.sureAddr, run_fieldPlace hi hz]
 cases x with
 | lptr s c =>
  obtain ⟨bl, hm, rfl⟩ := hx.lptr_inv
  exact ⟨_, _, h, run bl c, bl, hm, rfl⟩
 | ptr b g r c =>
  rcases (show V0 E (.ptr b g r c) v from hx) with ⟨hg, bl, o, rfl⟩ | ⟨hg, bl, hm, rfl⟩
  ·exact ⟨_, _, h, run bl o, .inl ⟨hg, _, _, rfl⟩⟩
  ·exact ⟨_, _, h, run bl _, .inr ⟨hg, bl, hm, by rw [Nat.add_assoc]⟩⟩
 | rp cells c =>
  have hx' : RV E.w E.PA E.PF (.rp cells c) v := hx
  cases hx' with
  | @rp _ _ _ _ bl o vs hc hcell hrel =>
   exact ⟨_, _, h, run bl _, by rw [Nat.add_assoc]; exact RV.rp hc hcell hrel⟩
 | _ => exact h.elim
def iadA (P : Program) (t : TypeId) (x i : AV) (H : List Blk) (K : AV → Prop) : Prop :=
 oelim (elemT P t) fun e => if (P.info? e).isSome = true then (match i with
  | .int _ n => (match x with
   | .lst rows _ _ => 0 ≤ n ∧ oelim rows[n.toNat]? fun row => row.length = P.cellsOf e ∧ K (.rp row 0)
   | .ref b g off m _ => oelim H[b]? fun blk => blk.gen = g ∧ blk.sz = P.cellsOf e ∧ 0 ≤ n ∧ n < m ∧ K (.ptr b g (off + n.toNat) 0)
   | _ => False)
  | _ => False) else False
theorem iad_sound {P : Program} {t : TypeId} {x i : AV} {K : AV → Prop} {E : Env} {L Ln : List (Nat × List AV)} {H Hn : List Blk} {v iv : Value} (sub : Sub L H Ln Hn) (hH : SimH E Hn) (hx : V3 E x v) (hi : V3 E i iv)
  (h : iadA P t x i H K) : ∃ r u, K r ∧ (Instr.indexAt t v iv).run P E.w = .ok u E.w ∧ V3 E r u := by
 obtain ⟨e, he, h⟩ := oelim_inv h
 have hu := elemT_spec he
 split at h
 case isFalse => exact h.elim
 case isTrue hinf =>
 cases i with
 | int k n =>
  obtain rfl := hi.int_inv
  cases x with
  | lst rows full fresh =>
   obtain ⟨h0, h⟩ := (show 0 ≤ n ∧ oelim rows[n.toNat]? fun row => row.length = P.cellsOf e ∧ K (.rp row 0) from h)
   obtain ⟨row, hr, hl, hK⟩ := oelim_inv h
   have hlt : n.toNat < rows.length := (List.getElem?_eq_some_iff.1 hr).1
   have hx' : RV E.w E.PA E.PF (.lst rows full fresh) v := hx
   cases hx' with
   | @lst _ _ PB _ _ _ A cap sz vs hPB hcap hfull hsz hcell hrel =>
    obtain ⟨c, o, rfl, hc, hall⟩ := hcell (by omega)
    have hsz' := hsz _ _ hr
    refine ⟨_, .pointer (some ⟨c, o + n.toNat * P.cellsOf e, none⟩), hK, ?_, ?_⟩
    ·simp only [Instr.indexAt, Sem.run_bind, asIntOf, Sem.run_pure, Result.andThen_ok, run_underlying hu]
     rw [if_pos ⟨h0, by omega⟩]
     simp [run_sizeOf hinf, addr_add]
    ·show RV _ _ _ _ _
     have := RV.rp (w := E.w) (PA := E.PA) (PF := E.PF) (cells := row) (col := 0) (c := c) (o := o + n.toNat * P.cellsOf e) (vs := vs n.toNat)
      (by have := hPB c hc; split at this; exact hH.pfpa c this; exact this)
      (fun j hj => by rw [Nat.add_assoc, ← hl, hsz']; exact hall n.toNat j hlt (by omega))
      (fun j a hj => (hrel n.toNat j row a hr hj).mono (fun _ _ => rfl) (fun _ h => h.elim) (fun d hd => by
       have := hPB d hd; split at this; exact hH.pfpa d this; exact this) (fun _ h => h))
     simpa using this
  | ref b g off m full =>
   obtain ⟨blk, hb, hg, hbs, h0, h1, hK⟩ := oelim_inv (show oelim H[b]? fun blk => blk.gen = g ∧ blk.sz = P.cellsOf e ∧ 0 ≤ n ∧ n < m ∧ K (.ptr b g (off + n.toNat) 0) from h)
   have hb := sub.h b blk hb
   have hgen := hH.gens b blk hb
   rcases (show V0 E (.ref b g off m full) v from hx) with ⟨hh, _⟩ | ⟨hge, hh⟩
   ·omega
   ·rcases hh with ⟨_, _, hm0, _⟩ | ⟨c, cap, hm, rfl, hmc, hfl, hcp⟩
    ·omega
    ·obtain ⟨blk', cs, ty, q1, q0, _⟩ := hH.heap b c hm
     obtain rfl : blk = blk' := by rw [hb] at q1; exact Option.some.inj q1
     refine ⟨_, .pointer (some ⟨c, (off + n.toNat) * E.sz b + 0, none⟩), hK, ?_, .inr ⟨hge, c, hm, rfl⟩⟩
     simp only [Instr.indexAt, Sem.run_bind, asIntOf, Sem.run_pure, Result.andThen_ok, run_underlying hu]
     rw [if_pos ⟨h0, h1⟩]
     simp [run_sizeOf hinf, addr_add, q0, hbs, Nat.add_mul]
  | _ => exact h.elim
 | _ => exact h.elim
def idxA (P : Program) (t : TypeId) (x i : AV) (K : AV → Prop) : Prop := match x with
 | .str s => (match i with
  | .int _ n => (match P.underlying t with
   | some .string => 0 ≤ n ∧ n < s.size ∧ K (.int .u8 ((s.data.getD n.toNat 0).toNat))
   | _ => False)
  | _ => False)
 | _ => False
theorem idx_sound {P : Program} {t : TypeId} {x i : AV} {K : AV → Prop} {E : Env} {v iv : Value} (hx : V3 E x v) (hi : V3 E i iv) (h : idxA P t x i K) :
  ∃ r u, K r ∧ (Instr.index t v iv).run P E.w = .ok u E.w ∧ V3 E r u := by
 cases x with
 | str s =>
  cases i with
  | int k n =>
   obtain rfl := hx.str_inv
   obtain rfl := hi.int_inv
   have h : (match P.underlying t with
    | some .string => 0 ≤ n ∧ n < s.size ∧ K (.int .u8 ((s.data.getD n.toNat 0).toNat))
    | _ => False) := h
   split at h
   ·rename_i hu
    obtain ⟨h0, h1, hK⟩ := h
    refine ⟨_, .int .u8 ((s.data.getD n.toNat 0).toNat), hK, ?_, RV.int _ _⟩
    have hlt : n.toNat < s.size := by omega
    have hlt' : n.toNat < s.data.size := hlt
    have : s[n.toNat]? = some (s.data.getD n.toNat 0) := by
     rw [getElem?_pos s n.toNat hlt]
     congr 1
     show s.data[n.toNat] = _
     rw [Array.getD_eq_getD_getElem?, Array.getElem?_eq_getElem hlt']; rfl
    simp only [Instr.index, Sem.run_bind, asIntOf, Sem.run_pure, Result.andThen_ok, run_underlying hu]
    rw [if_pos h0, this]
    rfl
   ·exact h.elim
  | _ => exact h.elim
 | _ => exact h.elim
def lenA (x : AV) (K : AV → Prop) : Prop := match x with
 | .lst rows _ _ => rows.length ≤ 4611686018427387904 → K (.int .i64 rows.length)
 | .str s => K (.int .i64 s.size)
 | .ref _ _ _ n _ => K (.int .i64 n)
 | _ => False
def lenT (P : Program) (t : TypeId) (x : AV) : Bool := match P.underlying t, x with
 | some .string, .str _ => true
 | some (.slice _), .lst _ _ _ => true
 | some (.slice _), .ref _ _ _ _ _ => true
 | _, _ => false
theorem len_sound {P : Program} {t ty : TypeId} {x : AV} {K : AV → Prop} {E : Env} {v : Value} (hx : V3 E x v)
  (ht : lenT P t x = true) (h : lenA x K) : ∃ r u, K r ∧ (Builtin.len_ #[t] ty #[v]).run P E.w = .ok u E.w ∧ V3 E r u := by
 unfold lenT at ht
 split at ht <;> try (cases ht; done)
 ·rename_i s hu
  obtain rfl := hx.str_inv
  exact ⟨_, _, h, by simp [Builtin.len_, run_underlying hu, goInt], RV.int _ _⟩
 ·rename_i e rows fu fr hu
  have hx' : RV E.w E.PA E.PF (.lst rows fu fr) v := hx
  cases hx' with
  | @lst _ _ PB _ _ _ A cap sz vs hPB hcap hfull hsz hcell hrel =>
   have h : rows.length ≤ 4611686018427387904 → K (.int .i64 rows.length) := h
   exact ⟨_, _, h hcap.2, by simp [Builtin.len_, run_underlying hu, goInt], RV.int _ _⟩
 ·rename_i e b g off n fu hu
  have h : K (.int .i64 n) := h
  rcases (show V0 E (.ref b g off n fu) v from hx) with ⟨_, A, cap, rfl⟩ | ⟨hge, hh⟩
  ·exact ⟨_, _, h, by simp [Builtin.len_, run_underlying hu, goInt], RV.int _ _⟩
  ·rcases hh with ⟨_, _, rfl, A, rfl⟩ | ⟨c, cap, hm, rfl, hmc, hfl, hcp⟩
   ·exact ⟨_, _, h, by simp [Builtin.len_, run_underlying hu, goInt], RV.int _ _⟩
   ·exact ⟨_, _, h, by simp [Builtin.len_, run_underlying hu, goInt], RV.int _ _⟩
def extA (x : AV) (i : Nat) (K : AV → Prop) : Prop := match x with
 | .tup l => oelim l[i]? K
 | _ => False
theorem ext_sound {P : Program} {x : AV} {i : Nat} {K : AV → Prop} {E : Env} {v : Value} (hx : V3 E x v) (h : extA x i K) :
  ∃ r u, K r ∧ (Instr.extract v i).run P E.w = .ok u E.w ∧ V3 E r u := by
 cases x with
 | tup l =>
  obtain ⟨vs, rfl, hp⟩ := hx
  obtain ⟨a, ha, hK⟩ := oelim_inv (show oelim l[i]? K from h)
  obtain ⟨u, hu, hr⟩ := hp.get ha
  refine ⟨a, u, hK, ?_, V3_of_V2 hr⟩
  simp [Instr.extract, hu]
 | _ => exact h.elim
def unA (op : UnOp) (x : AV) (K : AV → Prop) : Prop := match op, x with
 | .not, .bool b => K (.bool (!b))
 | .neg, .int k n => K (.int k (k.wrap (0 - n)))
 | _, _ => False
theorem un_sound {P : Program} {op : UnOp} {x : AV} {K : AV → Prop} {E : Env} {v : Value} (hx : V3 E x v) (h : unA op x K) :
  ∃ r u, K r ∧ (Op.unary op v).run P E.w = .ok u E.w ∧ V3 E r u := by
 unfold unA at h
 split at h
 ·obtain rfl := hx.bool_inv; exact ⟨_, _, h, rfl, RV.bool _⟩
 ·obtain rfl := hx.int_inv; exact ⟨_, _, h, rfl, RV.int _ _⟩
 ·exact h.elim
def nilA (x : AV) (K : AV → Prop) : Prop := match x with
 | .ptr _ _ _ _ | .lptr _ _ | .rp _ _ => K x
 | _ => False
def intT (P : Program) (t : TypeId) : Option IntKind := match P.underlying t with
 | some (.int k) => some k
 | _ => none
theorem intT_spec {P : Program} {t : TypeId} {k : IntKind} (h : intT P t = some k) : P.underlying t = some (.int k) := by
 unfold intT at h
 split at h
 ·cases h; assumption
 ·cases h
def cvtA (P : Program) (s d : TypeId) (x : AV) (K : AV → Prop) : Prop := match x with
 | .int _ n => oelim (intT P s) fun _ => oelim (intT P d) fun k => K (.int k (k.wrap n))
 | _ => False
theorem cvt_sound {P : Program} {s d : TypeId} {x : AV} {K : AV → Prop} {E : Env} {v : Value} (hx : V3 E x v) (h : cvtA P s d x K) :
  ∃ r u, K r ∧ (Go.convert s d v).run P E.w = .ok u E.w ∧ V3 E r u := by
 cases x with
 | int k0 n =>
  obtain ⟨k1, h1, h⟩ := oelim_inv (show oelim (intT P s) _ from h)
  obtain ⟨k2, h2, h⟩ := oelim_inv h
  obtain rfl := hx.int_inv
  refine ⟨_, _, h, ?_, RV.int _ _⟩
  simp only [Go.convert, Sem.run_bind, run_underlying (intT_spec h1), run_underlying (intT_spec h2), Result.andThen_ok]
  rfl
 | _ => exact h.elim
end Go.Proofs.Ytglpfccgmfhkdaa.Fw
/- The framework, part H: a piece of a slice or text; a function's call: what it says of the abstract memory; snapshots of what is handed over. -/

set_option linter.unusedVariables false
namespace Go.Proofs.Ytglpfccgmfhkdaa.Fw
open Go
def bndA (x : Option AV) (d : Nat) (K : Nat → Prop) : Prop := match x with
 | none => K d
 | some (.int _ n) => 0 ≤ n ∧ K n.toNat
 | some _ => False
def slcA (P : Program) (t : TypeId) (x : AV) (lo hi : Option AV) (H : List Blk) (K : AV → Prop) : Prop := match x with
 | .str s => (match P.underlying t with
  | some .string => bndA lo 0 fun l => bndA hi s.size fun h => l ≤ h ∧ h ≤ s.size ∧ K (.str (s.extract l h))
  | _ => False)
 | .lst rows _ fr => oelim (elemT P t) fun e => if (P.info? e).isSome = true then
   bndA lo 0 fun l => bndA hi rows.length fun h => l ≤ h ∧ h ≤ rows.length ∧ (∀ (i : Nat) (row : List AV), rows[i]? = some row → row.length = P.cellsOf e) ∧ K (.lst ((rows.drop l).take (h - l)) false fr) else False
 | .ref b g off n _ => oelim (elemT P t) fun e => if (P.info? e).isSome = true then
   oelim H[b]? fun blk => blk.gen = g ∧ blk.sz = P.cellsOf e ∧ bndA lo 0 fun l => bndA hi n fun h => l ≤ h ∧ h ≤ n ∧ (l < h → K (.ref b g (off + l) (h - l) false)) ∧ (l = h → K (.lst [] false true)) else False
 | _ => False
def OptRel (E : Env) (x : Option AV) (v : Option Value) : Prop := match x, v with
  | none, none => True
  | some a, some u => V3 E a u
  | _, _ => False
theorem bnd_inv {x : Option AV} {d : Nat} {K : Nat → Prop} {E : Env} {v : Option Value} (hx : OptRel E x v) (h : bndA x d K) : ∃ n, K n ∧ ((v = none ∧ n = d) ∨ ∃ k, v = some (.int k n)) := by
 cases x with
 | none =>
  cases v with
  | none => exact ⟨d, h, .inl ⟨rfl, rfl⟩⟩
  | some u => exact hx.elim
 | some a =>
  cases v with
  | none => exact hx.elim
  | some u =>
   cases a with
   | int k n =>
    obtain ⟨h0, h⟩ := (show 0 ≤ n ∧ K n.toNat from h)
    obtain rfl := V3.int_inv hx
    exact ⟨n.toNat, h, .inr ⟨k, by rw [Int.toNat_of_nonneg h0]⟩⟩
   | _ => exact h.elim
theorem run_bounds {P : Program} {w : World} {isS : Bool} {len cap l h : Nat} {lo hi : Option Value} (hl : (lo = none ∧ l = 0) ∨ ∃ k, lo = some (.int k l)) (hh : (hi = none ∧ h = len) ∨ ∃ k, hi = some (.int k h))
  (h1 : l ≤ h) (h2 : h ≤ cap) : (Instr.sliceBounds isS len cap lo hi none).run P w = .ok (l, h, cap) w := by
 rcases hl with ⟨rfl, rfl⟩ | ⟨kl, rfl⟩ <;> rcases hh with ⟨rfl, rfl⟩ | ⟨kh, rfl⟩
 ·simp [Instr.sliceBounds]
 ·simp [Instr.sliceBounds, run_sliceBound (P := P) w kh (h : Int) cap _ (by omega) (by omega)]
 ·simp [Instr.sliceBounds, run_sliceBound (P := P) w kl (l : Int) _ _ (by omega) (show (l : Int) ≤ ((_ : Nat) : Int) by exact Int.ofNat_le.2 h1)]
 ·simp [Instr.sliceBounds, run_sliceBound (P := P) w kh (h : Int) cap _ (by omega) (by omega), run_sliceBound (P := P) w kl (l : Int) h _ (by omega) (by omega)]
theorem slc_sound {P : Program} {t : TypeId} {x : AV} {lo hi : Option AV} {K : AV → Prop} {E : Env} {L Ln : List (Nat × List AV)} {H Hn : List Blk} {v : Value} {vl vh : Option Value} (sub : Sub L H Ln Hn) (hH : SimH E Hn) (hx : V3 E x v)
  (hlo : OptRel E lo vl) (hhi : OptRel E hi vh)
  (h : slcA P t x lo hi H K) : ∃ r u, K r ∧ (Instr.sliceAt t v vl vh none).run P E.w = .ok u E.w ∧ V3 E r u := by
 cases x with
 | str s =>
  obtain rfl := hx.str_inv
  have h : (match P.underlying t with
   | some .string => bndA lo 0 fun l => bndA hi s.size fun h => l ≤ h ∧ h ≤ s.size ∧ K (.str (s.extract l h))
   | _ => False) := h
  split at h
  ·rename_i hu
   obtain ⟨l, h, hl⟩ := bnd_inv hlo h
   obtain ⟨q, ⟨h1, h2, hK⟩, hq⟩ := bnd_inv hhi h
   refine ⟨_, .string (s.extract l q), hK, ?_, RV.str _⟩
   rw [run_sliceAt_string E.w t _ _ _ _ hu]
   simp only [Instr.slice, Sem.run_bind, run_underlying hu, Result.andThen_ok]
   simp only [Option.isSome_none, Bool.false_eq_true, if_false]
   simp only [Sem.run_bind, run_bounds (P := P) (w := E.w) (isS := false) hl hq h1 h2, Result.andThen_ok]
   rfl
  ·exact h.elim
 | lst rows full fr =>
  obtain ⟨e, he, h⟩ := oelim_inv (show oelim (elemT P t) fun e => if (P.info? e).isSome = true then
   bndA lo 0 fun l => bndA hi rows.length fun h => l ≤ h ∧ h ≤ rows.length ∧ (∀ (i : Nat) (row : List AV), rows[i]? = some row → row.length = P.cellsOf e) ∧ K (.lst ((rows.drop l).take (h - l)) false fr) else False from h)
  have hu := elemT_spec he
  split at h
  case isFalse => exact h.elim
  case isTrue hinf =>
  obtain ⟨l, h, hl⟩ := bnd_inv hlo h
  obtain ⟨q, ⟨h1, h2, hrl, hK⟩, hq⟩ := bnd_inv hhi h
  have hx' : RV E.w E.PA E.PF (.lst rows full fr) v := hx
  cases hx' with
  | @lst _ _ PB _ _ _ A cap sz vs hPB hcap hfull hsz hcell hrel =>
   have hel : P.elem t = e := by simp [Program.elem, hu]
   have hu' : P.underlying t = some (.slice (P.elem t)) := by rw [hel]; exact hu
   have hlen : ((rows.drop l).take (q - l)).length = q - l := by simp; omega
   refine ⟨_, sliced A l q cap (P.cellsOf e), hK, ?_, ?_⟩
   ·rw [run_sliceAt_slice E.w t _ _ _ _ hu', run_slice_any E.w t A rows.length cap hu', run_bounds (P := P) (w := E.w) hl hq h1 (by omega)]
    simp only [Result.andThen_ok, hel, run_sizeOf hinf]
   ·show RV E.w E.PA E.PF _ (.slice _ (q - l) (cap - l))
    have key := RV.lst (w := E.w) (PA := E.PA) (PF := E.PF) (PB := PB) (rows := (rows.drop l).take (q - l)) (full := false) (fresh := fr) (A := if cap = l then A else A.map (·.add (l * P.cellsOf e))) (cap := cap - l) (sz := sz) (vs := fun i j => vs (l + i) j)
     hPB (by rw [hlen]; omega) (fun h => by cases h)
     (fun i row hr => by
      rw [List.getElem?_take] at hr
      split at hr
      ·rw [List.getElem?_drop] at hr; exact hsz _ _ hr
      ·cases hr)
     (fun hn => by
      rw [hlen] at hn
      obtain ⟨c, o, rfl, hc, hall⟩ := hcell (by omega)
      have hsz2 : sz = P.cellsOf e := by
       have hlt : l < rows.length := by omega
       rw [← hsz l _ (List.getElem?_eq_getElem hlt)]; exact hrl l _ (List.getElem?_eq_getElem hlt)
      refine ⟨c, o + l * P.cellsOf e, by rw [if_neg (by omega)]; simp [addr_add], hc, fun i j hi hj => ?_⟩
      rw [hlen] at hi
      have := hall (l + i) j (by omega) hj
      rw [← this, hsz2]
      congr 2
      rw [Nat.add_mul]; omega)
     (fun i j row a hr hj => by
      rw [List.getElem?_take] at hr
      split at hr
      ·rw [List.getElem?_drop] at hr; exact hrel _ _ _ _ hr hj
      ·cases hr)
    rw [hlen] at key
    exact key
 | ref b g off n full =>
  obtain ⟨e, he, h⟩ := oelim_inv (show oelim (elemT P t) fun e => if (P.info? e).isSome = true then
   oelim H[b]? fun blk => blk.gen = g ∧ blk.sz = P.cellsOf e ∧ bndA lo 0 fun l => bndA hi n fun h => l ≤ h ∧ h ≤ n ∧ (l < h → K (.ref b g (off + l) (h - l) false)) ∧ (l = h → K (.lst [] false true)) else False from h)
  have hu := elemT_spec he
  split at h
  case isFalse => exact h.elim
  case isTrue hinf =>
  obtain ⟨blk, hb, hg, hbs, h⟩ := oelim_inv h
  obtain ⟨l, h, hl⟩ := bnd_inv hlo h
  obtain ⟨q, ⟨h1, h2, hK1, hK2⟩, hq⟩ := bnd_inv hhi h
  have hb := sub.h b blk hb
  have hgen := hH.gens b blk hb
  have hel : P.elem t = e := by simp [Program.elem, hu]
  have hu' : P.underlying t = some (.slice (P.elem t)) := by rw [hel]; exact hu
  have run : ∀ A cap, n ≤ cap → (Instr.sliceAt t (.slice A n cap) vl vh none).run P E.w = .ok (sliced A l q cap (P.cellsOf e)) E.w := by
   intro A cap hc
   rw [run_sliceAt_slice E.w t _ _ _ _ hu', run_slice_any E.w t A n cap hu', run_bounds (P := P) (w := E.w) hl hq h1 (by omega)]
   simp only [Result.andThen_ok, hel, run_sizeOf hinf]
  have empty : ∀ A cap, l = q → V3 E (.lst [] false true) (sliced A l q cap (P.cellsOf e)) := by
   intro A cap hlq
   subst hlq
   show RV E.w E.PA E.PF _ (.slice _ (l - l) (cap - l))
   rw [Nat.sub_self]
   exact RV.lst (PB := fun _ => False) (sz := 0) (vs := fun _ _ => undef) (fun _ h => h.elim) ⟨Nat.zero_le _, Nat.zero_le _⟩ (fun h => by cases h) (fun i row h => by simp at h) (fun h => by simp at h) (fun i j row a h => by simp at h)
  rcases (show V0 E (.ref b g off n full) v from hx) with ⟨hh, _⟩ | ⟨hge, hh⟩
  ·omega
  ·rcases hh with ⟨_, _, rfl, A, rfl⟩ | ⟨c, cap, hm, rfl, hmc, hfl, hcp⟩
   ·have hlq : l = q := by omega
    exact ⟨_, _, hK2 hlq, run A 0 (Nat.le_refl _), empty _ _ hlq⟩
   ·rcases Nat.lt_or_ge l q with hlt | hge'
    ·refine ⟨_, _, hK1 hlt, run _ cap hmc, .inr ⟨hge, .inr ⟨c, cap - l, hm, ?_, by omega, (fun h => by cases h), by omega⟩⟩⟩
     obtain ⟨blk', cs, ty, q1, q0, _⟩ := hH.heap b c hm
     obtain rfl : blk = blk' := by rw [hb] at q1; exact Option.some.inj q1
     simp only [sliced, if_neg (show ¬ cap = l by omega), Option.map_some, addr_add, q0, hbs, Nat.add_mul]
    ·have hlq : l = q := by omega
     exact ⟨_, _, hK2 hlq, run _ cap hmc, empty _ _ hlq⟩
 | _ => exact h.elim
end Go.Proofs.Ytglpfccgmfhkdaa.Fw
/- The framework, part I: what a call of a function does, told of abstract values; the function's own begin and end; a snapshot of what is handed over and of what comes back. -/

set_option linter.unusedVariables false
namespace Go.Proofs.Ytglpfccgmfhkdaa.Fw
open Go
def okFn (P : Program) (f : FuncId) : Bool := match P.funcs[f]? with
 | some fn => !(fn.name == "runtime.NumGoroutine") && fn.body.isSome
 | none => false
def FnS (P : Program) (f : FuncId) (args : List AV) (H : List Blk) (Q : AV → List Blk → Prop) : Prop :=
 okFn P f = true ∧ ∀ (E : Env) (vs : List Value), (∀ t, E.mL t = none) → SimH E H → PW (V2 E) args vs →
  Calls P f vs.toArray E.w fun e w' => ∃ r v H' E', e = .returned v ∧ Q r H' ∧ E'.w = w' ∧ (∀ t, E'.mL t = none) ∧ SimH E' H' ∧ V3 E' r v ∧ Step E E'
theorem FnS.mono {P : Program} {f : FuncId} {args : List AV} {H : List Blk} {Q Q' : AV → List Blk → Prop} (h : FnS P f args H Q) (hq : ∀ r H', Q r H' → Q' r H') : FnS P f args H Q' :=
 ⟨h.1, fun E vs a b c => (h.2 E vs a b c).mono fun e w' ⟨r, v, H', E', h1, h2, h3⟩ => ⟨r, v, H', E', h1, hq _ _ h2, h3⟩⟩
def noLp0 : AV → Bool
 | .lptr _ _ | .agg _ | .tup _ => false
 | _ => true
def noLp1 : AV → Bool
 | .fn _ caps => caps.all noLp0
 | a => noLp0 a
def noLp2 : AV → Bool
 | .agg cells => cells.all noLp1
 | a => noLp1 a
def noLp3 : AV → Bool
 | .tup l => l.all noLp2
 | a => noLp2 a
theorem V0.noL {E : Env} {a : AV} {v : Value} (h : noLp0 a = true) (hv : V0 E a v) : V0 E.noL a v := by
 cases a <;> first | exact hv | cases h
theorem V1.noL {E : Env} {a : AV} {v : Value} (h : noLp1 a = true) (hv : V1 E a v) : V1 E.noL a v := by
 by_cases hf : ∃ f caps, a = .fn f caps
 ·obtain ⟨f, caps, rfl⟩ := hf
  obtain ⟨vs, e, hp⟩ := hv
  exact ⟨vs, e, hp.1, fun i x y hx hy => (hp.2 i x y hx hy).noL (List.all_eq_true.1 (show caps.all noLp0 = true from h) x (List.mem_of_getElem? hx))⟩
 ·have h0 : noLp1 a = noLp0 a := by cases a <;> first | rfl | exact absurd ⟨_, _, rfl⟩ hf
  rw [V1_eq fun f c e => hf ⟨f, c, e⟩] at hv ⊢
  exact hv.noL (h0 ▸ h)
theorem V2.noL {E : Env} {a : AV} {v : Value} (h : noLp2 a = true) (hv : V2 E a v) : V2 E.noL a v := by
 by_cases hf : ∃ l, a = .agg l
 ·obtain ⟨l, rfl⟩ := hf
  obtain ⟨vs, e, hp⟩ := hv
  exact ⟨vs, e, hp.1, fun i x y hx hy => (hp.2 i x y hx hy).noL (List.all_eq_true.1 (show l.all noLp1 = true from h) x (List.mem_of_getElem? hx))⟩
 ·have h0 : noLp2 a = noLp1 a := by cases a <;> first | rfl | exact absurd ⟨_, rfl⟩ hf
  rw [V2_eq fun l e => hf ⟨l, e⟩] at hv ⊢
  exact hv.noL (h0 ▸ h)
theorem V3.noL {E : Env} {a : AV} {v : Value} (h : noLp3 a = true) (hv : V3 E a v) : V3 E.noL a v := by
 by_cases hf : ∃ l, a = .tup l
 ·obtain ⟨l, rfl⟩ := hf
  obtain ⟨vs, e, hp⟩ := hv
  exact ⟨vs, e, hp.1, fun i x y hx hy => (hp.2 i x y hx hy).noL (List.all_eq_true.1 (show l.all noLp2 = true from h) x (List.mem_of_getElem? hx))⟩
 ·have h0 : noLp3 a = noLp2 a := by cases a <;> first | rfl | exact absurd ⟨_, rfl⟩ hf
  rw [V3_eq fun l e => hf ⟨l, e⟩] at hv ⊢
  exact hv.noL (h0 ▸ h)
theorem SimH.noL {E : Env} {H : List Blk} (h : SimH E H) : SimH E.noL H :=
 {h with
  injL := fun t t' c hm => by cases hm
  injHL := fun b t c _ hm => by cases hm
  notL := fun c _ ⟨t, hm⟩ => by cases hm
  ltL := fun c ⟨t, hm⟩ => by cases hm }
theorem Good.toStep {E0 E : Env} (h : Good E0 E) : Step E0 E.noL :=
 ⟨⟨h.le.pa, h.le.pf, h.le.wa, h.le.wf, h.le.gen, h.le.m, fun t c hm => by rw [h.noL t] at hm; cases hm⟩, h.os, h.tape, h.output, h.size, fun c hc h1 _ => h.keep c hc h1, h.imH, (fun c ⟨t, hm⟩ => by cases hm), h.pa, h.pf⟩
def resL (P : Program) (st : St) : List ResultVar → (List AV → Prop) → Prop
 | [], K => K []
 | .tmp t :: rs, K => resL P st rs fun l => K (st.T.getD t .undef :: l)
 | .cell a t :: rs, K => ldA P t (st.T.getD a .undef) st.L st.H fun x => resL P st rs fun l => K (x :: l)
def wrapR : List AV → AV
 | [x] => x
 | l => .tup l
def resA (P : Program) (fn : Func) (st : St) (Q : AV → List Blk → Prop) : Prop := resL P st fn.results.toList fun l => l.all noLp2 = true ∧ Q (wrapR l) st.H
theorem asAddr_of {E : Env} {P : Program} {t : TypeId} {x : AV} {L : List (Nat × List AV)} {H : List Blk} {K : AV → Prop} {v : Value} (hH : SimH E H) (hL : SimL E L) (hx : V3 E x v) (h : ldA P t x L H K) :
  ∃ a v', K a ∧ (do loadVar t (← asAddr v) : Sem Value).run P E.w = .ok v' E.w ∧ V2 E a v' := by
 obtain ⟨a, v', hK, hr, hv⟩ := ld_sound (Sub.refl L H) hH hL hx h
 refine ⟨a, v', hK, ?_, hv⟩
 have : ∃ ad, v = .pointer (some ad) := by
  cases x with
  | lptr s c => obtain ⟨bl, _, rfl⟩ := hx.lptr_inv; exact ⟨_, rfl⟩
  | ptr b g r c =>
   rcases (show V0 E (.ptr b g r c) v from hx) with ⟨_, bl, o, rfl⟩ | ⟨_, bl, _, rfl⟩ <;> exact ⟨_, rfl⟩
  | rp cells c =>
   have hx' : RV E.w E.PA E.PF (.rp cells c) v := hx
   cases hx'; exact ⟨_, rfl⟩
  | _ => exact h.elim
 obtain ⟨ad, rfl⟩ := this
 simpa [Instr.loadAt, Instr.sureAddr, asAddr] using hr
theorem resL_sound {P : Program} {st : St} {E : Env} {tmps : Array Value} (hs : Sim E st tmps) {f : ResultVar → Sem Value} (f1 : ∀ t, f (.tmp t) = pure (tmps.getD t undef))
  (f2 : ∀ a t, f (.cell a t) = do loadVar t (← asAddr (tmps.getD a undef))) : ∀ (rs : List ResultVar) (K : List AV → Prop), resL P st rs K →
  ∃ l vs, K l ∧ (rs.mapM f).run P E.w = .ok vs E.w ∧ PW (V3 E) l vs
 | [], K, h => ⟨[], [], h, rfl, PW.nil⟩
 | .tmp t :: rs, K, h => by
  obtain ⟨l, vs, hK, hr, hp⟩ := resL_sound hs f1 f2 rs _ h
  exact ⟨_, _, hK, by simp only [List.mapM_cons, f1, Sem.run_bind, Sem.run_pure, Result.andThen_ok, hr], PW.cons (hs.slots t) hp⟩
 | .cell a t :: rs, K, h => by
  obtain ⟨x, v', h2, hr1, hv⟩ := asAddr_of hs.h hs.l (hs.slots a) h
  obtain ⟨l, vs, hK, hr, hp⟩ := resL_sound hs f1 f2 rs _ h2
  refine ⟨_, _, hK, ?_, PW.cons (V3_of_V2 hv) hp⟩
  simp only [List.mapM_cons, f2]
  rw [Sem.run_bind, hr1]
  simp only [Result.andThen_ok, Sem.run_bind, hr, Sem.run_pure]
theorem results_eq (fn : Func) (tmps : Array Value) : ∃ f : ResultVar → Sem Value, results fn tmps = (fn.results.mapM f >>= fun vs => pure (if h : vs.size = 1 then vs[0] else .tuple vs)) ∧ (∀ t, f (.tmp t) = pure (tmps.getD t undef)) ∧
  ∀ b t, f (.cell b t) = (asAddr (tmps.getD b undef) >>= fun a => loadVar t a) := ⟨_, rfl, fun _ => rfl, fun _ _ => rfl⟩
def QFn (P : Program) (fn : Func) (Q : AV → List Blk → Prop) (ex : Exit) (st : St) : Prop := match ex with
 | .normal | .ret => resA P fn st Q
 | _ => False
def initSt (fn : Func) (args : List AV) (H : List Blk) : St := ⟨args ++ List.replicate (fn.ntmps - args.length) .undef, [], H⟩
theorem V2_of_noLp {E : Env} {a : AV} {v : Value} (h : noLp2 a = true) (hv : V3 E a v) (ht : ∀ l, a ≠ .tup l) : V2 E.noL a v := by
 rw [V3_eq ht] at hv; exact hv.noL h
theorem FnS.of_body {P : Program} {f : FuncId} {fn : Func} {c : Code} {args : List AV} {H : List Blk} {Q : AV → List Blk → Prop} (hf : P.funcs[f]? = some fn) (hb : fn.body = some c) (hn : (fn.name == "runtime.NumGoroutine") = false)
  (h : WpS P c (QFn P fn Q) (initSt fn args H)) : FnS P f args H Q := by
 refine ⟨by simp [okFn, hf, hb, hn], ?_⟩
 intro E vs hn hH hp
 refine calls_of_wp hf hb (wp_mono (h E E { tmps := vs.toArray ++ Array.replicate (fn.ntmps - vs.toArray.size) undef, defers := [] } (Good.refl hn) ⟨hH, (fun t c hm => by rw [hn t] at hm; cases hm), fun t => ?_, ?_⟩ rfl) ?_)
 ·show V3 E ((args ++ List.replicate (fn.ntmps - args.length) AV.undef).getD t AV.undef) _
  rcases Nat.lt_or_ge t args.length with hlt | hge
  ·have h1 : args[t]? = some args[t] := List.getElem?_eq_getElem hlt
   obtain ⟨v, hv, hr⟩ := hp.get h1
   have hlt' : t < vs.length := hp.1 ▸ hlt
   have e1 : (args ++ List.replicate (fn.ntmps - args.length) AV.undef).getD t .undef = args[t] := by
    rw [List.getD_eq_getElem?_getD, List.getElem?_append_left hlt, h1]; rfl
   have e2 : (vs.toArray ++ Array.replicate (fn.ntmps - vs.toArray.size) undef).getD t undef = v := by
    rw [Array.getD_eq_getD_getElem?, Array.getElem?_append_left (by simpa using hlt')]
    simp [hv]
   rw [e1, e2]; exact V3_of_V2 hr
  ·have e1 : (args ++ List.replicate (fn.ntmps - args.length) AV.undef).getD t .undef = .undef := by
    rw [List.getD_eq_getElem?_getD, List.getElem?_append_right hge, List.getElem?_replicate]; split <;> rfl
   rw [e1]; exact V3.undef _ _
 ·simp [initSt, hp.1]
 ·rintro e a w ⟨hex, st, E', hq, hw, hg, hs, hd⟩
  have fin : resA P fn st Q → a.defers = [] ∧ ∃ v, (results fn a.tmps).run P w = .ok v w ∧ ∃ r v_1 H' E', (Ending.returned v) = .returned v_1 ∧ Q r H' ∧ E'.w = w ∧ (∀ t, E'.mL t = none) ∧ SimH E' H' ∧ V3 E' r v_1 ∧ Step E E' := by
   intro hres
   refine ⟨hd, ?_⟩
   subst hw
   have hm : ∀ f : ResultVar → Sem Value, (∀ t, f (.tmp t) = pure (a.tmps.getD t undef)) → (∀ b t, f (.cell b t) = do loadVar t (← asAddr (a.tmps.getD b undef))) → ∃ l us, (l.all noLp2 = true ∧ Q (wrapR l) st.H) ∧ (fn.results.mapM f).run P E'.w = .ok (List.toArray us) E'.w ∧ PW (V3 E') l us := by
    intro f f1 f2
    obtain ⟨l, us, h1, hr, h2⟩ := resL_sound hs f1 f2 _ _ hres
    exact ⟨l, us, h1, by rw [Array.mapM_eq_mapM_toList, Sem.run_map, hr]; rfl, h2⟩
   obtain ⟨f, hf0, hf1, hf2⟩ := results_eq fn a.tmps
   obtain ⟨l, us, ⟨hlp, hQ⟩, hr, hpw⟩ := hm f hf1 hf2
   refine ⟨if h : us.toArray.size = 1 then us.toArray[0] else .tuple us.toArray, ?_, wrapR l, _, st.H, E'.noL, rfl, hQ, rfl, fun _ => rfl, hs.h.noL, ?_, hg.toStep⟩
   ·rw [hf0, Sem.run_bind, hr]; rfl
   ·cases l with
    | nil =>
     obtain rfl := hpw.nil_inv
     exact ⟨[], rfl, PW.nil⟩
    | cons x l =>
     obtain ⟨u, us', rfl, hx, hpw'⟩ := hpw.cons_inv
     cases l with
     | nil =>
      obtain rfl := hpw'.nil_inv
      show V3 E'.noL x u
      have hnl : noLp2 x = true := by simpa using hlp
      exact hx.noL (by cases x <;> first | exact hnl | (cases hnl))
     | cons y l =>
      obtain ⟨z, us2, rfl, hy, hpw2⟩ := hpw'.cons_inv
      have hsz : ¬ (List.toArray (u :: z :: us2)).size = 1 := by simp
      rw [dif_neg hsz]
      refine ⟨_, rfl, ?_⟩
      refine ⟨hpw.1, fun i p q hpi hqi => ?_⟩
      have hv := hpw.2 i p q hpi hqi
      have hnl : noLp2 p = true := List.all_eq_true.1 hlp p (List.mem_of_getElem? hpi)
      have ht : ∀ l, p ≠ .tup l := by
       intro l e; subst e; cases hnl
      exact V2_of_noLp hnl hv ht
  cases e with
  | normal => exact fin hq
  | ret => exact fin hq
  | exit id => exact hq.elim
  | _ => cases hex
end Go.Proofs.Ytglpfccgmfhkdaa.Fw
/- The framework, part J: what is handed over is only read (a snapshot); what comes back is only read. -/

set_option linter.unusedVariables false
namespace Go.Proofs.Ytglpfccgmfhkdaa.Fw
open Go
inductive Snap1 (L : List (Nat × List AV)) (H : List Blk) : AV → AV → Prop where
 | undef (a : AV) : Snap1 L H a .undef
 | int (k : IntKind) (n : Int) : Snap1 L H (.int k n) (.int k n)
 | bool (b : Bool) : Snap1 L H (.bool b) (.bool b)
 | str (s : ByteArray) : Snap1 L H (.str s) (.str s)
 | nilp : Snap1 L H .nilp .nilp
 | niface : Snap1 L H .niface .niface
 | lst (rows : List (List AV)) (full fr fu : Bool) (hw : fu = true → full = true) : Snap1 L H (.lst rows full fr) (.lst rows fu false)
 | rp (cells : List AV) (c : Nat) : Snap1 L H (.rp cells c) (.rp cells c)
 | lptr {t c : Nat} {cells cells' : List AV} (h : getL L t = some cells) (hl : cells.length = cells'.length)
   (hr : ∀ (j : Nat) (a b : AV), cells[j]? = some a → cells'[j]? = some b → Snap1 L H a b) : Snap1 L H (.lptr t c) (.rp cells' c)
 | ptr {b g r c : Nat} {blk : Blk} {row row' : List AV} (hb : H[b]? = some blk) (hg : blk.gen = g) (hrow : blk.rows[r]? = some row) (hl : row.length = row'.length)
   (hr : ∀ (j : Nat) (a b : AV), row[j]? = some a → row'[j]? = some b → Snap1 L H a b) : Snap1 L H (.ptr b g r c) (.rp row' c)
 | ref {b g off n : Nat} {full fu : Bool} {blk : Blk} {rows' : List (List AV)} (hw : fu = true → full = true) (hb : H[b]? = some blk) (hg : blk.gen = g) (hn : rows'.length = n) (h62 : n ≤ 4611686018427387904) (ho : off + n ≤ blk.rows.length)
   (hl : ∀ (i : Nat) (row row' : List AV), blk.rows[off + i]? = some row → rows'[i]? = some row' → row.length = row'.length)
   (hr : ∀ (i j : Nat) (row row' : List AV) (a c : AV), blk.rows[off + i]? = some row → rows'[i]? = some row' → row[j]? = some a → row'[j]? = some c → Snap1 L H a c) :
   Snap1 L H (.ref b g off n full) (.lst rows' fu false)
 | fn {f : FuncId} {caps caps' : List AV} (hl : caps.length = caps'.length) (hr : ∀ (j : Nat) (a b : AV), caps[j]? = some a → caps'[j]? = some b → Snap1 L H a b) : Snap1 L H (.fn f caps) (.fn f caps')
def Snap2 (L : List (Nat × List AV)) (H : List Blk) (a b : AV) : Prop :=
 (∃ l l', a = .agg l ∧ b = .agg l' ∧ PW (Snap1 L H) l l') ∨ Snap1 L H a b
def Env.frozen (E : Env) : Env := { w := E.w, PA := fun c => E.PA c ∨ E.imgH c ∨ E.imgL c, PF := fun _ => False, m := fun _ => none, gen := fun _ => 0, sz := fun _ => 0, cp := fun _ => 0, mL := fun _ => none }
theorem frozen_sim {E : Env} {H : List Blk} (h : SimH E H) : SimH E.frozen [] where
 heap := fun b c hb => by cases hb
 gens := fun b blk hb => by simp at hb
 nilb := fun b hb => by cases hb
 fresh := fun b _ => ⟨rfl, rfl⟩
 injH := fun b b' c hb => by cases hb
 injL := fun t t' c hb => by cases hb
 injHL := fun b t c hb => by cases hb
 notH := fun c _ ⟨b, hb⟩ => by cases hb
 notL := fun c _ ⟨b, hb⟩ => by cases hb
 pfpa := fun c hc => hc.elim
 ltP := fun c hc => hc.elim (h.ltP c) fun hc => hc.elim (h.ltH c) (h.ltL c)
 ltH := fun c ⟨b, hb⟩ => by cases hb
 ltL := fun c ⟨b, hb⟩ => by cases hb
theorem V1_of_V0 {E : Env} {a : AV} {v : Value} (h : V0 E a v) : V1 E a v := by
 by_cases hf : ∃ f caps, a = .fn f caps
 ·obtain ⟨f, caps, rfl⟩ := hf
  exact RV.v1 h
 ·rw [V1_eq fun f c e => hf ⟨f, c, e⟩]; exact h
theorem snap1_sound {L Ln : List (Nat × List AV)} {H Hn : List Blk} {E : Env} (sub : Sub L H Ln Hn) (hH : SimH E Hn) (hL : SimL E Ln) {a b : AV} (h : Snap1 L H a b) :
  ∀ {v : Value}, V1 E a v → RV E.w (fun c => E.PA c ∨ E.imgH c ∨ E.imgL c) (fun _ => False) b v := by
 induction h with
 | undef a => intro v _; exact .undef v
 | int k n => intro v hv; have hv : RV E.w E.PA E.PF (.int k n) v := hv; cases hv; exact .int _ _
 | bool k => intro v hv; have hv : RV E.w E.PA E.PF (.bool k) v := hv; cases hv; exact .bool _
 | str k => intro v hv; have hv : RV E.w E.PA E.PF (.str k) v := hv; cases hv; exact .str _
 | nilp => intro v hv; have hv : RV E.w E.PA E.PF .nilp v := hv; cases hv; exact .nilp
 | niface => intro v hv; have hv : RV E.w E.PA E.PF .niface v := hv; cases hv; exact .niface
 | lst rows full fr fu hw =>
  intro v hv
  have hv : RV E.w E.PA E.PF (.lst rows full fr) v := hv
  cases hv with
  | lst hPB hcap hfull hsz hcell hrel =>
   exact .lst (fun c hc => by
    have := hPB c hc
    simp only [Bool.false_eq_true, if_false]
    split at this
    ·exact .inl (hH.pfpa c this)
    ·exact .inl this) hcap (fun h => hfull (hw h)) hsz hcell hrel
 | rp cells c =>
  intro v hv
  have hv : RV E.w E.PA E.PF (.rp cells c) v := hv
  cases hv with
  | rp hc hcell hrel => exact .rp (.inl hc) hcell fun j a hj => (hrel j a hj).mono (fun _ _ => rfl) (fun _ h => h.elim) (fun c hc => .inl hc) (fun _ h => h)
 | @lptr t c cells cells' hg hl hr ih =>
  intro v hv
  obtain ⟨bl, hm, rfl⟩ := (show ∃ bl, E.mL t = some bl ∧ v = .pointer (some ⟨bl, c, none⟩) from hv)
  obtain ⟨cells2, cs, ty, hg2, hw, hp⟩ := hL t bl hm
  obtain rfl : cells = cells2 := by have := sub.l _ _ hg; rw [hg2] at this; exact (Option.some.inj this).symm
  have key := RV.rp (w := E.w) (PA := fun c => E.PA c ∨ E.imgH c ∨ E.imgL c) (PF := fun _ => False) (cells := cells') (col := c) (c := bl) (o := 0) (vs := fun j => (cs[j]?).getD undef)
   (.inr (.inr ⟨t, hm⟩))
   (fun j hj => by
    have hlt : j < cs.size := by have := hp.1; simp at this; omega
    rw [Nat.zero_add]
    rw [cell_of hw (Array.getElem?_eq_getElem hlt)]
    simp [Array.getElem?_eq_getElem hlt])
   (fun j b hj => by
    have hlt : j < cells.length := by have := (List.getElem?_eq_some_iff.1 hj).1; omega
    obtain ⟨u, hu, hru⟩ := hp.get (List.getElem?_eq_getElem hlt)
    have : (cs[j]?).getD undef = u := by rw [Array.getElem?_toList] at hu; rw [hu]; rfl
    rw [this]
    exact ih j _ b (List.getElem?_eq_getElem hlt) hj hru.up)
  rw [Nat.zero_add] at key
  exact key
 | @ptr b g r c blk row row' hb hg hrow hl hr ih =>
  intro v hv
  have hb := sub.h b blk hb
  have hgen := hH.gens b blk hb
  obtain ⟨bl, hm, rfl⟩ := V3.ptr_inv (E := E) (v := v) (show V3 E (.ptr b g r c) v from hv) (hgen.trans hg)
  obtain ⟨blk', cs, ty, q1, q0, hw, hcs, hlen, hrows⟩ := hH.heap b bl hm
  obtain rfl : blk = blk' := by rw [hb] at q1; exact Option.some.inj q1
  exact RV.rp (vs := fun j => (cs[r * E.sz b + j]?).getD undef) (.inr (.inl ⟨b, hm⟩))
   (fun j hj => by
    have hlt : j < row.length := by omega
    obtain ⟨u, hu, _⟩ := hrows.2 r j row _ hrow (List.getElem?_eq_getElem hlt)
    rw [cell_of hw hu, hu]; rfl)
   (fun j b2 hj => by
    have hlt : j < row.length := by have := (List.getElem?_eq_some_iff.1 hj).1; omega
    obtain ⟨u, hu, hru⟩ := hrows.2 r j row _ hrow (List.getElem?_eq_getElem hlt)
    rw [hu]
    exact ih j _ b2 (List.getElem?_eq_getElem hlt) hj hru.up)
 | @ref b g off n full fu blk rows' hw0 hb hg hn h62 ho hl hr ih =>
  intro v hv
  have hb := sub.h b blk hb
  have hgen := hH.gens b blk hb
  rcases (show V0 E (.ref b g off n full) v from hv) with ⟨hh, _⟩ | ⟨hge, hh⟩
  ·omega
  ·rcases hh with ⟨_, _, hn0, A, rfl⟩ | ⟨c, cap, hm, rfl, hmc, hfl, hcp⟩
   ·subst hn0
    obtain rfl : rows' = [] := List.eq_nil_of_length_eq_zero hn
    exact RV.lst (rows := []) (PB := fun _ => False) (sz := 0) (vs := fun _ _ => undef) (fun _ h => h.elim) ⟨Nat.le_refl _, Nat.zero_le _⟩ (fun _ => rfl) (fun i row h => by simp at h) (fun h => by simp at h) (fun i j row a h => by simp at h)
   ·obtain ⟨blk', cs, ty, q1, q0, hw, hcs, hlen, hrows⟩ := hH.heap b c hm
    obtain rfl : blk = blk' := by rw [hb] at q1; exact Option.some.inj q1
    subst hn
    have hrow : ∀ i, i < rows'.length → ∃ row, blk.rows[off + i]? = some row := fun i hi => ⟨_, List.getElem?_eq_getElem (by omega)⟩
    refine RV.lst (PB := fun c => E.PA c ∨ E.imgH c ∨ E.imgL c) (sz := E.sz b) (vs := fun i j => (cs[(off + i) * E.sz b + j]?).getD undef) (fun c hc => by simpa using hc) ⟨hmc, h62⟩ (fun h => hfl (hw0 h))
     (fun i row' hr' => ?_) (fun hpos => ⟨c, off * E.sz b, rfl, .inr (.inl ⟨b, hm⟩), fun i j hi hj => ?_⟩) (fun i j row' a hr' hj => ?_)
    ·obtain ⟨row, hrw⟩ := hrow i (List.getElem?_eq_some_iff.1 hr').1
     rw [← hl i row row' hrw hr']; exact hrows.1 _ row hrw
    ·obtain ⟨row, hrw⟩ := hrow i hi
     have hlt : j < row.length := by rw [hrows.1 _ row hrw]; exact hj
     obtain ⟨u, hu, _⟩ := hrows.2 (off + i) j row _ hrw (List.getElem?_eq_getElem hlt)
     rw [show off * E.sz b + (i * E.sz b + j) = (off + i) * E.sz b + j by rw [Nat.add_mul]; omega, cell_of hw hu, hu]; rfl
    ·obtain ⟨row, hrw⟩ := hrow i (List.getElem?_eq_some_iff.1 hr').1
     have hlt : j < row.length := by rw [hl i row row' hrw hr']; exact (List.getElem?_eq_some_iff.1 hj).1
     obtain ⟨u, hu, hru⟩ := hrows.2 (off + i) j row _ hrw (List.getElem?_eq_getElem hlt)
     rw [hu]
     exact ih i j row row' _ a hrw hr' (List.getElem?_eq_getElem hlt) hj hru.up
 | @fn f caps caps' hl hr ih =>
  intro v hv
  obtain ⟨vs, rfl, hp⟩ := (show ∃ vs : List Value, v = .func (.func f) #[] vs.toArray ∧ PW (V0 E) caps vs from hv)
  exact .fn (hl ▸ hp.1) fun i b u hb hu => by
   have hlt : i < caps.length := by have := (List.getElem?_eq_some_iff.1 hb).1; omega
   exact ih i _ b (List.getElem?_eq_getElem hlt) hb (V1_of_V0 (hp.2 i _ u (List.getElem?_eq_getElem hlt) hu))
theorem snap2_sound {L Ln : List (Nat × List AV)} {H Hn : List Blk} {E : Env} (sub : Sub L H Ln Hn) (hH : SimH E Hn) (hL : SimL E Ln) {a b : AV} (h : Snap2 L H a b) {v : Value} (hv : V2 E a v) : V2 E.frozen b v := by
 rcases h with ⟨l, l', rfl, rfl, hp⟩ | h
 ·obtain ⟨vs, rfl, hq⟩ := hv
  refine ⟨vs, rfl, hp.1 ▸ hq.1, fun i x u hx hu => ?_⟩
  have hlt : i < l.length := by have := (List.getElem?_eq_some_iff.1 hx).1; have := hp.1; omega
  have hl := List.getElem?_eq_getElem hlt
  exact RV.v1 (E := E.frozen) (snap1_sound sub hH hL (hp.2 i _ x hl hx) (hq.2 i _ u hl hu))
 ·by_cases hf : ∃ l, a = .agg l
  ·obtain ⟨l, rfl⟩ := hf
   cases h with
   | undef => exact RV.undef v
  ·rw [V2_eq fun l e => hf ⟨l, e⟩] at hv
   exact V2_of_V1 (RV.v1 (E := E.frozen) (snap1_sound sub hH hL h hv))
inductive SnapR1 (H : List Blk) : AV → AV → Prop where
 | int (k : IntKind) (n : Int) : SnapR1 H (.int k n) (.int k n)
 | bool (b : Bool) : SnapR1 H (.bool b) (.bool b)
 | str (s : ByteArray) : SnapR1 H (.str s) (.str s)
 | nilp : SnapR1 H .nilp .nilp
 | niface : SnapR1 H .niface .niface
 | lst (rows : List (List AV)) (full fu : Bool) (hw : fu = true → full = true) : SnapR1 H (.lst rows full true) (.lst rows fu true)
 | lste (full fr fu : Bool) (hw : fu = true → full = true) : SnapR1 H (.lst [] full fr) (.lst [] fu true)
 | ref {b g off n : Nat} {full fu : Bool} {blk : Blk} {rows' : List (List AV)} (hw : fu = true → full = true) (cs : Nat → Nat → AV) (hb : H[b]? = some blk) (hg : blk.gen = g) (hn : rows'.length = n) (h62 : n ≤ 4611686018427387904) (ho : off + n ≤ blk.rows.length)
   (hl : ∀ (i : Nat) (row row' : List AV), blk.rows[off + i]? = some row → rows'[i]? = some row' → row.length = row'.length)
   (hr : ∀ (i j : Nat) (row : List AV) (a : AV), i < n → blk.rows[off + i]? = some row → row[j]? = some a → SnapR1 H a (cs i j))
   (hc : ∀ (i j : Nat) (row' : List AV) (c : AV), rows'[i]? = some row' → row'[j]? = some c → c = unfr (cs i j)) :
   SnapR1 H (.ref b g off n full) (.lst rows' fu true)
def SnapR2 (H : List Blk) (a b : AV) : Prop := (∃ l l', a = .agg l ∧ b = .agg l' ∧ PW (SnapR1 H) l l') ∨ SnapR1 H a b
def SnapR3 (H : List Blk) (a b : AV) : Prop := (∃ l l', a = .tup l ∧ b = .tup l' ∧ PW (SnapR2 H) l l') ∨ SnapR2 H a b
theorem snapR1_byv {H : List Blk} {a b : AV} (h : SnapR1 H a b) : byv0 b = true := by cases h <;> rfl
theorem snapR1_sound {H : List Blk} {E : Env} (hH : SimH E H) {a b : AV} (h : SnapR1 H a b) :
  ∀ {v : Value}, V1 E a v → RV E.w (fun c => E.PF c ∨ E.imgH c) (fun c => E.PF c ∨ E.imgH c) b v := by
 induction h with
 | int k n => intro v hv; have hv : RV E.w E.PA E.PF (.int k n) v := hv; cases hv; exact .int _ _
 | bool k => intro v hv; have hv : RV E.w E.PA E.PF (.bool k) v := hv; cases hv; exact .bool _
 | str k => intro v hv; have hv : RV E.w E.PA E.PF (.str k) v := hv; cases hv; exact .str _
 | nilp => intro v hv; have hv : RV E.w E.PA E.PF .nilp v := hv; cases hv; exact .nilp
 | niface => intro v hv; have hv : RV E.w E.PA E.PF .niface v := hv; cases hv; exact .niface
 | lst rows full fu hw =>
  intro v hv
  have hv : RV E.w E.PA E.PF (.lst rows full true) v := hv
  cases hv with
  | lst hPB hcap hfull hsz hcell hrel => exact .lst (fun c hc => by have := hPB c hc; simp at this ⊢; exact .inl this) hcap (fun h => hfull (hw h)) hsz hcell hrel
 | lste full fr fu hw =>
  intro v hv
  have hv : RV E.w E.PA E.PF (.lst [] full fr) v := hv
  cases hv with
  | lst hPB hcap hfull hsz hcell hrel => exact RV.lst (rows := []) (PB := fun _ => False) (sz := 0) (vs := fun _ _ => undef) (fun _ h => h.elim) hcap (fun h => hfull (hw h)) (fun i row h => by simp at h) (fun h => by simp at h) (fun i j row a h => by simp at h)
 | @ref b g off n full fu blk rows' hw0 cs hb hg hn h62 ho hl hr hc ih =>
  intro v hv
  have hgen := hH.gens b blk hb
  rcases (show V0 E (.ref b g off n full) v from hv) with ⟨hh, _⟩ | ⟨hge, hh⟩
  ·omega
  ·rcases hh with ⟨_, _, hn0, A, rfl⟩ | ⟨c, cap, hm, rfl, hmc, hfl, hcp⟩
   ·subst hn0
    obtain rfl : rows' = [] := List.eq_nil_of_length_eq_zero hn
    exact RV.lst (rows := []) (PB := fun _ => False) (sz := 0) (vs := fun _ _ => undef) (fun _ h => h.elim) ⟨Nat.le_refl _, Nat.zero_le _⟩ (fun _ => rfl) (fun i row h => by simp at h) (fun h => by simp at h) (fun i j row a h => by simp at h)
   ·obtain ⟨blk', cc, ty, q1, q0, hw, hcs, hlen, hrows⟩ := hH.heap b c hm
    obtain rfl : blk = blk' := by rw [hb] at q1; exact Option.some.inj q1
    subst hn
    have hrow : ∀ i, i < rows'.length → ∃ row, blk.rows[off + i]? = some row := fun i hi => ⟨_, List.getElem?_eq_getElem (by omega)⟩
    refine RV.lst (PB := fun c => E.PF c ∨ E.imgH c) (sz := E.sz b) (vs := fun i j => (cc[(off + i) * E.sz b + j]?).getD undef) (fun c hc => by simpa using hc) ⟨hmc, h62⟩ (fun h => hfl (hw0 h))
     (fun i row' hr' => ?_) (fun hpos => ⟨c, off * E.sz b, rfl, .inr ⟨b, hm⟩, fun i j hi hj => ?_⟩) (fun i j row' a hr' hj => ?_)
    ·obtain ⟨row, hrw⟩ := hrow i (List.getElem?_eq_some_iff.1 hr').1
     rw [← hl i row row' hrw hr']; exact hrows.1 _ row hrw
    ·obtain ⟨row, hrw⟩ := hrow i hi
     have hlt : j < row.length := by rw [hrows.1 _ row hrw]; exact hj
     obtain ⟨u, hu, _⟩ := hrows.2 (off + i) j row _ hrw (List.getElem?_eq_getElem hlt)
     rw [show off * E.sz b + (i * E.sz b + j) = (off + i) * E.sz b + j by rw [Nat.add_mul]; omega, cell_of hw hu, hu]; rfl
    ·have hi := (List.getElem?_eq_some_iff.1 hr').1
     obtain ⟨row, hrw⟩ := hrow i hi
     have hlt : j < row.length := by rw [hl i row row' hrw hr']; exact (List.getElem?_eq_some_iff.1 hj).1
     obtain ⟨u, hu, hru⟩ := hrows.2 (off + i) j row _ hrw (List.getElem?_eq_getElem hlt)
     have h1 := ih i j row _ hi hrw (List.getElem?_eq_getElem hlt) hru.up
     have h2 := snapR1_byv (hr i j row _ hi hrw (List.getElem?_eq_getElem hlt))
     rw [hu, hc i j row' a hr' hj]
     exact unfr_rel h2 h1 (fun c hc => hc) (fun c hc => hc)
def FnV (P : Program) (f : FuncId) (args : List AV) (t : AV) : Prop := FnS P f args [] fun r Hn => SnapR3 Hn r t
theorem callV_sound {P : Program} {f : FuncId} {args args0 : List AV} {t : AV} {L Ln : List (Nat × List AV)} {H Hn : List Blk} {E : Env} {vs : List Value} (sub : Sub L H Ln Hn) (hH : SimH E Hn) (hL : SimL E Ln)
  (ha : PW (V2 E) args vs) (hs : PW (Snap2 L H) args args0) (h : FnV P f args0 t) :
  Calls P f vs.toArray E.w fun e w' => ∃ v E', e = .returned v ∧ E'.w = w' ∧ Quiet E E' ∧ V3 E' t v := by
 have ha0 : PW (V2 E.frozen) args0 vs := ⟨hs.1 ▸ ha.1, fun i x u hx hu => by
  have hlt : i < args.length := by have := (List.getElem?_eq_some_iff.1 hx).1; have := hs.1; omega
  have hl := List.getElem?_eq_getElem hlt
  exact snap2_sound sub hH hL (hs.2 i _ x hl hx) (ha.2 i _ u hl hu)⟩
 refine (h.2 E.frozen vs (fun _ => rfl) (frozen_sim hH) ha0).mono ?_
 rintro e w' ⟨r, v, H', E1, rfl, hr, rfl, hn, hs1, hv, hst⟩
 let N : Nat → Prop := fun c => E1.PF c ∨ E1.imgH c
 have hN : ∀ c, N c → E.w.heap.size ≤ c ∧ c < E1.w.heap.size := by
  rintro c (hc | hc)
  ·exact ⟨(hst.pf c hc).elim (fun h => h.elim) id, hs1.ltP c (hs1.pfpa c hc)⟩
  ·exact ⟨(hst.imH c hc).elim (fun ⟨b, hb⟩ => by cases hb) id, hs1.ltH c hc⟩
 have hkeep : ∀ c, c < E.w.heap.size → E1.w.heap[c]? = E.w.heap[c]? := fun c hc => hst.keep c hc (fun ⟨b, hb⟩ => by cases hb) (fun ⟨b, hb⟩ => by cases hb)
 let E' : Env := { E with w := E1.w, PA := fun c => E.PA c ∨ N c, PF := fun c => E.PF c ∨ N c }
 have hq : Quiet E E' := 
  {step := ⟨⟨fun c hc => .inl hc, fun c hc => .inl hc, fun c hc => hkeep c (hH.ltP c hc), fun c hc => hkeep c (hH.ltP c (hH.pfpa c hc)), fun _ => Nat.le_refl _, fun _ _ h _ => ⟨h, rfl, rfl⟩, fun _ _ h => h⟩,
    hst.os, hst.tape, hst.output, hst.size, fun c hc _ _ => hkeep c hc, fun _ h => .inl h, fun _ h => .inl h, fun c hc => hc.elim .inl (fun h => .inr (hN c h).1), fun c hc => hc.elim .inl (fun h => .inr (hN c h).1)⟩
   m := rfl, mL := rfl, gen := rfl, sz := rfl, cp := rfl
   keep := hkeep
   pa := fun c hc => hc.elim .inl (fun h => .inr (hN c h))
   pfpa := fun c hc => hc.elim (fun h => .inl (hH.pfpa c h)) .inr }
 have up : ∀ {b : AV} {u : Value}, RV E1.w N N b u → V1 E' b u := fun h => RV.v1 (E := E') (h.mono (fun _ _ => rfl) (fun _ _ => rfl) (fun c hc => .inr hc) (fun c hc => .inr hc))
 have r1 : ∀ {a b : AV} {u : Value}, SnapR1 H' a b → V1 E1 a u → V1 E' b u := fun ha hu => up (snapR1_sound hs1 ha hu)
 have r2 : ∀ {a b : AV} {u : Value}, SnapR2 H' a b → V2 E1 a u → V2 E' b u := by
  rintro a b u (⟨l, l', rfl, rfl, hp⟩ | h) hu
  ·obtain ⟨us, rfl, hq⟩ := hu
   refine ⟨us, rfl, hp.1 ▸ hq.1, fun i x y hx hy => ?_⟩
   have hlt : i < l.length := by have := (List.getElem?_eq_some_iff.1 hx).1; have := hp.1; omega
   have hl := List.getElem?_eq_getElem hlt
   exact r1 (hp.2 i _ x hl hx) (hq.2 i _ y hl hy)
  ·have : V1 E1 a u := by cases h <;> exact hu
   exact V2_of_V1 (r1 h this)
 have r3 : ∀ {a b : AV} {u : Value}, SnapR3 H' a b → V3 E1 a u → V3 E' b u := by
  rintro a b u (⟨l, l', rfl, rfl, hp⟩ | h) hu
  ·obtain ⟨us, rfl, hq⟩ := hu
   refine ⟨us, rfl, hp.1 ▸ hq.1, fun i x y hx hy => ?_⟩
   have hlt : i < l.length := by have := (List.getElem?_eq_some_iff.1 hx).1; have := hp.1; omega
   have hl := List.getElem?_eq_getElem hlt
   exact r2 (hp.2 i _ x hl hx) (hq.2 i _ y hl hy)
  ·have : V2 E1 a u := by
    rcases h with ⟨l, l', rfl, rfl, hp⟩ | h
    ·exact hu
    ·cases h <;> exact hu
   exact V3_of_V2 (r2 h this)
 exact ⟨v, E', rfl, rfl, hq, r3 hr hv⟩
end Go.Proofs.Ytglpfccgmfhkdaa.Fw
/- The framework, part K: the operations that leave the abstract memory alone, as one. -/

set_option linter.unusedVariables false
namespace Go.Proofs.Ytglpfccgmfhkdaa.Fw
open Go
def capOk : AV → Bool
 | .agg _ | .tup _ | .fn _ _ => false
 | _ => true
def mkfA (fn : Fn) (first : Array Operand) (caps : List AV) (K : AV → Prop) : Prop := match fn with
 | .func f => if first.isEmpty = true ∧ caps.all capOk = true then K (.fn f caps) else False
 | _ => False
def noTup : AV → Bool
 | .tup _ => false
 | _ => true
def calleeA (x : AV) (K : FuncId → List AV → Prop) : Prop := match x with
 | .fn f caps => K f caps
 | _ => False
def callVA (P : Program) (f : FuncId) (args : List AV) (L : List (Nat × List AV)) (H : List Blk) (K : AV → Prop) : Prop :=
 args.all noTup = true ∧ ∃ args0 t, PW (Snap2 L H) args args0 ∧ FnV P f args0 t ∧ K t
def evCallV (P : Program) (c : Call) (ρ : Operand → AV) (L : List (Nat × List AV)) (H : List Blk) (K : AV → Prop) : Prop := match c.callee with
 | .builtin .len => (match c.args.toList, c.argTypes.toList with
  | [x], [t] => okp (lenT P t (ρ x)) (lenA (ρ x) K)
  | _, _ => False)
 | .value f => calleeA (ρ f) fun g caps => callVA P g (c.args.toList.map ρ ++ caps) L H K
 | _ => False
def evVal (P : Program) (o : Oper) (ρ : Operand → AV) (L : List (Nat × List AV)) (H : List Blk) (K : AV → Prop) : Prop := match o.op with
 | .move x => K (ρ x)
 | .assign x => K (ρ x)
 | .pick c a b => asB (ρ c) fun z => bcond z (K (ρ a)) (K (ρ b))
 | .build t ps => okp (ps.toList.all fun p => noTup (ρ p.2)) (buildA P t (ps.toList.map fun p => (p.1, ρ p.2)) K)
 | .buildSlice t n ps => okp (ps.toList.all fun p => noTup (ρ p.2)) (bslA P t n (ps.toList.map fun p => (p.1, ρ p.2)) K)
 | .load t a => ldA P t (ρ a) L H K
 | .nilCheck x => nilA (ρ x) K
 | .binOp op t x y _ => binA P op t (ρ x) (ρ y) (isNilC y) K
 | .unOp op _ x => unA op (ρ x) K
 | .convert s d x => cvtA P s d (ρ x) K
 | .makeFunc fn first caps => mkfA fn first (caps.toList.map ρ) K
 | .fieldAddr t x f => fadA P t (ρ x) f K
 | .indexAddr t x i => iadA P t (ρ x) (ρ i) H K
 | .index t x i => idxA P t (ρ x) (ρ i) K
 | .slice t x lo hi mx => (match mx with
  | none => slcA P t (ρ x) (lo.map ρ) (hi.map ρ) H K
  | some _ => False)
 | .extract x i => extA (ρ x) i K
 | .call c => evCallV P c ρ L H K
 | _ => False
theorem upon_v {P : Program} {o : Oper} {a : Act} {next : Act → World → Prop} {Q : Exit → Act → World → Prop} {s : Sem Value} {w w' : World} {u : Value} (h : s.run P w = .ok u w') (k : next (a.put o.dst u) w') :
  o.upon P a next Q ((do pure (Next.value (← s)) : Sem Next).run P w) := by
 rw [Sem.run_bind, h]; exact k
theorem parts_eq (ps : Array (Nat × Operand)) (a : Act) : (ps.toList.map fun p => (p.1, a.eval p.2)).toArray = ps.map fun (i, x) => (i, a.eval x) := by
 apply Array.ext'
 rw [Array.toList_map]
theorem parts_rel {E : Env} {a : Act} {T : List AV} (hT : ∀ t, V3 E (T.getD t .undef) (a.tmps.getD t undef)) (ps : List (Nat × Operand)) (hn : ∀ p ∈ ps, ∀ l, opv T p.2 ≠ .tup l) :
  PW (fun (x : Nat × AV) (y : Nat × Value) => x.1 = y.1 ∧ V2 E x.2 y.2) (ps.map fun p => (p.1, opv T p.2)) (ps.map fun p => (p.1, a.eval p.2)) := by
 refine ⟨by simp, fun i x y hx hy => ?_⟩
 rw [List.getElem?_map] at hx hy
 cases hp : ps[i]? with
 | none => simp [hp] at hx
 | some p =>
  simp [hp] at hx hy
  subst hx; subst hy
  refine ⟨rfl, ?_⟩
  have := opv_rel hT p.2
  rwa [V3_eq (hn p (List.mem_of_getElem? hp))] at this
theorem args_rel {E : Env} {a : Act} {T : List AV} (hT : ∀ t, V3 E (T.getD t .undef) (a.tmps.getD t undef)) (xs : List Operand) (hn : ∀ x ∈ xs, ∀ l, opv T x ≠ .tup l) :
  PW (V2 E) (xs.map (opv T)) (xs.map a.eval) := by
 refine ⟨by simp, fun i x y hx hy => ?_⟩
 rw [List.getElem?_map] at hx hy
 cases hp : xs[i]? with
 | none => simp [hp] at hx
 | some p =>
  simp [hp] at hx hy
  subst hx; subst hy
  have := opv_rel hT p
  rwa [V3_eq (hn p (List.mem_of_getElem? hp))] at this
theorem noTup_ne {a : AV} (h : noTup a = true) : ∀ l, a ≠ .tup l := by
 intro l e; subst e; cases h
theorem opt_rel {E : Env} {a : Act} {T : List AV} (hT : ∀ t, V3 E (T.getD t .undef) (a.tmps.getD t undef)) (x : Option Operand) :
  OptRel E (x.map (opv T)) (x.map a.eval) := by
 cases x with
 | none => trivial
 | some x => exact opv_rel hT x
theorem callee_rel {E : Env} {a : Act} {T : List AV} (hT : ∀ t, V3 E (T.getD t .undef) (a.tmps.getD t undef)) {f : Operand} {g : FuncId} {caps : List AV} (h : opv T f = .fn g caps) :
  ∃ vs : List Value, a.eval f = .func (.func g) #[] vs.toArray ∧ PW (V2 E) caps vs := by
 have := opv_rel hT f
 rw [h] at this
 obtain ⟨vs, e, hp⟩ := (show ∃ vs : List Value, a.eval f = .func (.func g) #[] vs.toArray ∧ PW (V0 E) caps vs from this)
 exact ⟨vs, e, hp.mono fun _ _ k => V2_of_V1 (V1_of_V0 k)⟩
theorem run_callFn {P : Program} {f : FuncId} {w : World} {args : Array Value} (h : okFn P f = true) : (callFunc f args).run P w = .ok (.enter f args) w := by
 unfold okFn at h
 cases hf : P.funcs[f]? with
 | none => simp [hf] at h
 | some fn =>
  simp [hf] at h
  obtain ⟨h1, h2⟩ := h
  simp [callFunc, hf, h1]
  cases hb : fn.body with
  | none => simp [hb] at h2
  | some c => intro hh; cases hh
theorem run_call {P : Program} {c : Call} {a : Act} {ty : TypeId} {f : Operand} {g : FuncId} {vs : List Value} {w : World} (hc : c.callee = .value f) (hf : a.eval f = .func (.func g) #[] vs.toArray) (h : okFn P g = true) :
  (do let d ← resolve a.eval c ty; invoke d.target d.args : Sem Next).run P w = .ok (.enter g ((c.args.toList.map a.eval ++ vs).toArray)) w := by
 unfold resolve
 rw [hc]
 simp only [hf, Deferred.ofValue, Sem.run_bind, Sem.run_pure, Result.andThen_ok, invoke]
 rw [run_callFn h]
 simp
def VNext (E : Env) (o : Oper) (a : Act) (K : AV → Prop) : Act → World → Prop := fun a' w' => ∃ v v' E', K v ∧ E'.w = w' ∧ Quiet E E' ∧ V3 E' v v' ∧ a' = a.put o.dst v'
set_option maxHeartbeats 4000000 in
theorem evVal_sound {P : Program} {o : Oper} {a : Act} {T : List AV} {E : Env} {L Ln : List (Nat × List AV)} {H Hn : List Blk} {K : AV → Prop} {Q : Exit → Act → World → Prop}
  (hT : ∀ t, V3 E (T.getD t .undef) (a.tmps.getD t undef)) (sub : Sub L H Ln Hn) (hH : SimH E Hn) (hL : SimL E Ln) (h : evVal P o (opv T) L H K) : o.wp P a E.w (VNext E o a K) Q := by
 have fin : ∀ {s : Sem Value}, (execOp a.eval o = (do pure (Next.value (← s)))) → (∃ r u E', K r ∧ s.run P E.w = .ok u E'.w ∧ Quiet E E' ∧ V3 E' r u) → o.wp P a E.w (VNext E o a K) Q := by
  rintro s hs ⟨r, u, E', hK, hr, hq, hv⟩
  unfold Oper.wp
  rw [hs]
  exact upon_v hr ⟨r, u, E', hK, rfl, hq, hv, rfl⟩
 have fin0 : ∀ {s : Sem Value}, (execOp a.eval o = (do pure (Next.value (← s)))) → (∃ r u, K r ∧ s.run P E.w = .ok u E.w ∧ V3 E r u) → o.wp P a E.w (VNext E o a K) Q := by
  rintro s hs ⟨r, u, hK, hr, hv⟩
  exact fin hs ⟨r, u, E, hK, hr, Quiet.refl hH, hv⟩
 have mv : ∀ x, execOp a.eval o = pure (.value (a.eval x)) → K (opv T x) → o.wp P a E.w (VNext E o a K) Q := by
  intro x hs hK
  unfold Oper.wp
  rw [hs]
  exact ⟨_, _, E, hK, rfl, Quiet.refl hH, opv_rel hT x, rfl⟩
 obtain ⟨dst, op, ty, pos, after, guard⟩ := o
 cases op with
 | move x => exact mv x rfl h
 | assign x => exact mv x rfl h
 | pick c x y =>
  obtain ⟨b, hb, h1, h2⟩ := asB_inv (show asB (opv T c) fun z => bcond z (K (opv T x)) (K (opv T y)) from h)
  have hv := opv_rel hT c
  rw [hb] at hv
  have he : a.eval c = .bool b := V3.bool_inv hv
  cases b with
  | true => exact mv x (by simp [execOp, he, asBool]) (h1 rfl)
  | false => exact mv y (by simp [execOp, he, asBool]) (h2 rfl)
 | build t ps =>
  obtain ⟨hn, h⟩ := okp_inv h
  have := build_sound (P := P) (parts_rel hT ps.toList fun p hp => noTup_ne (List.all_eq_true.1 hn p hp)) h
  exact fin0 (s := Instr.build t (ps.toList.map fun p => (p.1, a.eval p.2)).toArray) (by rw [parts_eq]; rfl) this
 | buildSlice t n ps =>
  obtain ⟨hn, h⟩ := okp_inv h
  have := bsl_sound (P := P) hH (parts_rel hT ps.toList fun p hp => noTup_ne (List.all_eq_true.1 hn p hp)) h
  exact fin (s := Instr.buildSlice t n (ps.toList.map fun p => (p.1, a.eval p.2)).toArray) (by rw [parts_eq]; rfl) this
 | load t x =>
  obtain ⟨r, u, hK, hr, hv⟩ := ld_sound sub hH hL (opv_rel hT x) h
  exact fin0 (s := Instr.loadAt t (a.eval x)) rfl ⟨r, u, hK, hr, V3_of_V2 hv⟩
 | nilCheck x =>
  have hx := opv_rel hT x
  have h : nilA (opv T x) K := h
  have key : ∀ ad, a.eval x = .pointer (some ad) → K (opv T x) → Oper.wp P ⟨dst, .nilCheck x, ty, pos, after, guard⟩ a E.w (VNext E ⟨dst, .nilCheck x, ty, pos, after, guard⟩ a K) Q := by
   intro ad he hK
   exact mv x (by simp [execOp, he]) hK
  cases hx0 : opv T x with
  | lptr s c =>
   rw [hx0] at hx h
   obtain ⟨bl, _, e⟩ := hx.lptr_inv
   exact key _ e (by rw [hx0]; exact h)
  | ptr b g r c =>
   rw [hx0] at hx h
   rcases (show V0 E (.ptr b g r c) _ from hx) with ⟨_, bl, o, e⟩ | ⟨_, bl, _, e⟩ <;> exact key _ e (by rw [hx0]; exact h)
  | rp cells c =>
   rw [hx0] at hx h
   have hx' : RV E.w E.PA E.PF (.rp cells c) (a.eval x) := hx
   generalize hv : a.eval x = v at hx'
   cases hx'; exact key _ hv (by rw [hx0]; exact h)
  | _ => rw [hx0] at h; exact h.elim
 | binOp op t x y ty2 =>
  have hyn : isNilC y = true → a.eval y = .slice none 0 0 := by
   intro hh
   unfold isNilC at hh
   split at hh
   ·rfl
   ·cases hh
  exact fin0 (s := do eqGuard op t x y (a.eval x) (a.eval y); binOp op t (a.eval x) (a.eval y)) rfl (bin_sound (opv_rel hT x) (opv_rel hT y) hyn h)
 | unOp op t x => exact fin0 (s := Op.unary op (a.eval x)) rfl (un_sound (opv_rel hT x) h)
 | convert s d x => exact fin0 (s := Go.convert s d (a.eval x)) rfl (cvt_sound (opv_rel hT x) h)
 | makeFunc fn first caps =>
  replace h : mkfA fn first (caps.toList.map (opv T)) K := h
  cases fn with
  | func f =>
   replace h : if first.isEmpty = true ∧ (caps.toList.map (opv T)).all capOk = true then K (.fn f (caps.toList.map (opv T))) else False := h
   split at h
   ·rename_i hc
    obtain ⟨h1, h2⟩ := hc
    have hf : first = #[] := by simpa using h1
    subst hf
    refine fin0 (s := Instr.makeFunc (.func f) (Array.map a.eval #[]) (caps.map a.eval)) rfl ⟨_, .func (.func f) #[] (caps.map a.eval), h, by simp [Instr.makeFunc], (caps.toList.map a.eval), by rw [← Array.toList_map, Array.toArray_toList], by simp, fun i x y hx hy => ?_⟩
    rw [List.getElem?_map] at hx hy
    cases hp : caps.toList[i]? with
    | none => simp [hp] at hx
    | some p =>
     simp [hp] at hx hy
     subst hx; subst hy
     have hv := opv_rel hT p
     have hok : capOk (opv T p) = true := List.all_eq_true.1 h2 _ (List.mem_map.2 ⟨p, List.mem_of_getElem? hp, rfl⟩)
     cases hq : opv T p <;> rw [hq] at hv hok <;> first | exact hv | cases hok
   ·exact h.elim
  | _ => exact h.elim
 | fieldAddr t x f => exact fin0 (s := Instr.fieldAt t (a.eval x) f) rfl (fad_sound (opv_rel hT x) h)
 | indexAddr t x i => exact fin0 (s := Instr.indexAt t (a.eval x) (a.eval i)) rfl (iad_sound sub hH (opv_rel hT x) (opv_rel hT i) h)
 | index t x i => exact fin0 (s := Instr.index t (a.eval x) (a.eval i)) rfl (idx_sound (opv_rel hT x) (opv_rel hT i) h)
 | slice t x lo hi mx =>
  cases mx with
  | none => exact fin0 (s := Instr.sliceAt t (a.eval x) (lo.map a.eval) (hi.map a.eval) none) rfl (slc_sound sub hH (opv_rel hT x) (opt_rel hT lo) (opt_rel hT hi) h)
  | some m => exact h.elim
 | extract x i => exact fin0 (s := Instr.extract (a.eval x) i) rfl (ext_sound (opv_rel hT x) h)
 | call c =>
  have h : evCallV P c (opv T) L H K := h
  obtain ⟨callee, args, argTypes⟩ := c
  cases callee with
  | builtin b =>
   cases b with
   | len =>
    have h : (match args.toList, argTypes.toList with
     | [x], [t] => okp (lenT P t (opv T x)) (lenA (opv T x) K)
     | _, _ => False) := h
    split at h
    ·rename_i x t h1 h2
     obtain ⟨hok1, hok2⟩ := okp_inv h
     obtain rfl : args = #[x] := by rw [← Array.toArray_toList (xs := args), h1]
     obtain rfl : argTypes = #[t] := by rw [← Array.toArray_toList (xs := argTypes), h2]
     obtain ⟨r, u, hK, hr, hv⟩ := len_sound (P := P) (ty := ty) (opv_rel hT x) hok1 hok2
     unfold Oper.wp
     have : (execOp a.eval ⟨dst, .call ⟨.builtin .len, #[x], #[t]⟩, ty, pos, after, guard⟩).run P E.w = .ok (.value u) E.w := by
      simp only [execOp, resolve, Sem.run_bind, Sem.run_pure, Result.andThen_ok, invoke, builtin]
      have e : Array.map a.eval #[x] = #[a.eval x] := by simp
      rw [e, hr]; rfl
     rw [this]
     exact ⟨r, u, E, hK, rfl, Quiet.refl hH, hv, rfl⟩
    ·exact h.elim
   | _ => exact h.elim
  | value f =>
   have h : calleeA (opv T f) fun g caps => callVA P g (args.toList.map (opv T) ++ caps) L H K := h
   cases hf : opv T f with
   | fn g caps =>
    rw [hf] at h
    obtain ⟨hn, args0, t, hs, hfn, hK⟩ := (show callVA P g (args.toList.map (opv T) ++ caps) L H K from h)
    obtain ⟨vs, he, hcv⟩ := callee_rel hT hf
    unfold Oper.wp
    rw [show execOp a.eval ⟨dst, .call ⟨.value f, args, argTypes⟩, ty, pos, after, guard⟩ = (do let d ← resolve a.eval ⟨.value f, args, argTypes⟩ ty; invoke d.target d.args) from rfl]
    rw [run_call (P := P) (ty := ty) (w := E.w) (c := ⟨.value f, args, argTypes⟩) rfl he hfn.1]
    have har : PW (V2 E) (args.toList.map (opv T) ++ caps) (args.toList.map a.eval ++ vs) :=
     PW.append (args_rel hT args.toList fun x hx => noTup_ne (List.all_eq_true.1 hn _ (by simp; exact .inl ⟨x, by simpa using hx, rfl⟩))) hcv
    refine (callV_sound sub hH hL har hs hfn).mono ?_
    rintro e w' ⟨v, E', rfl, rfl, hq, hv⟩
    exact ⟨t, v, E', hK, rfl, hq, hv, rfl⟩
   | _ => rw [hf] at h; exact h.elim
  | _ => exact h.elim
 | _ => exact h.elim
end Go.Proofs.Ytglpfccgmfhkdaa.Fw
/- The framework, part L: new blocks; append. -/

set_option linter.unusedVariables false
namespace Go.Proofs.Ytglpfccgmfhkdaa.Fw
open Go
theorem drew_alloc_get (w : World) (o : Obj) (c : Nat) (h : c < w.heap.size) : (w.drew.alloc o).heap[c]? = w.heap[c]? := alloc_get w.drew o c h
structure NewBlk (w w' : World) (o : Obj) : Prop where
 os : w'.os = w.os
 tape : w'.tape = w.tape
 output : w'.output = w.output
 size : w'.heap.size = w.heap.size + 1
 old : ∀ c, c < w.heap.size → w'.heap[c]? = w.heap[c]?
 new : w'.heap[w.heap.size]? = some o
theorem NewBlk.alloc (w : World) (o : Obj) : NewBlk w (w.alloc o) o := ⟨rfl, rfl, rfl, by simp, fun c hc => alloc_get w o c hc, alloc_new w o⟩
theorem NewBlk.drewAlloc (w : World) (o : Obj) : NewBlk w (w.drew.alloc o) o := ⟨rfl, rfl, rfl, by simp, fun c hc => drew_alloc_get w o c hc, alloc_new w.drew o⟩
theorem SimH.ext {E : Env} {H H' : List Blk} (h : SimH E H) (hs : ∀ (b : Nat) (blk : Blk), H[b]? = some blk → H'[b]? = some blk) (hl : H.length ≤ H'.length) (hg : ∀ (b : Nat) (blk : Blk), H.length ≤ b → H'[b]? = some blk → blk.gen = 0) : SimH E H' :=
 {h with
  heap := fun b c hb => by
   obtain ⟨blk, cs, ty, q1, q⟩ := h.heap b c hb
   exact ⟨blk, cs, ty, hs b blk q1, q⟩
  gens := fun b blk hb => by
   rcases Nat.lt_or_ge b H.length with hlt | hge
   ·have h1 := List.getElem?_eq_getElem hlt
    have h2 := hs b _ h1
    rw [hb] at h2
    cases h2
    exact h.gens b _ h1
   ·rw [(h.fresh b hge).2, hg b blk hge hb]
  nilb := fun b hb => by
   obtain ⟨blk, q1, q⟩ := h.nilb b hb
   exact ⟨blk, hs b blk q1, q⟩
  fresh := fun b hb => h.fresh b (Nat.le_trans hl hb) }
theorem SimH.snoc {E : Env} {H : List Blk} (h : SimH E H) {blk : Blk} (hg : blk.gen = 0) : SimH E (H ++ [blk]) :=
 h.ext (fun b x hb => by rw [List.getElem?_append_left (List.getElem?_eq_some_iff.1 hb).1]; exact hb) (by simp) (fun b x hb hx => by
  rw [List.getElem?_append_right hb] at hx
  have : b - H.length = 0 := by
   rcases Nat.eq_zero_or_pos (b - H.length) with q | q
   ·exact q
   ·rw [List.getElem?_eq_none (by simp; omega)] at hx; cases hx
  rw [this] at hx; cases hx; exact hg)
theorem SimL.cons {E : Env} {L : List (Nat × List AV)} (h : SimL E L) {t : Nat} {cells : List AV} (hn : E.mL t = none) : SimL E ((t, cells) :: L) := fun s c hm => by
 have : s ≠ t := fun e => by subst e; rw [hn] at hm; cases hm
 simp only [getL, if_neg this]
 exact h s c hm
theorem newL_sound {E : Env} {H : List Blk} {L : List (Nat × List AV)} {w' : World} {cs : Array Value} {ty : TypeId} {t : Nat} {cells : List AV} (hH : SimH E H) (hL : SimL E L) (hw : NewBlk E.w w' (.cells cs ty (0, 0)))
  (ht : getL L t = some cells) (hm : E.mL t = none) (hc : PW (V1 E.noL) cells cs.toList) :
  ∃ E', E'.w = w' ∧ Step E E' ∧ SimH E' H ∧ SimL E' L ∧ V3 E' (.lptr t 0) (.pointer (some ⟨E.w.heap.size, 0, none⟩)) ∧ E'.m = E.m ∧ (∀ s, s ≠ t → E'.mL s = E.mL s) := by
 let E' : Env := { E with w := w', mL := fun s => if s = t then some E.w.heap.size else E.mL s }
 have hst : Step E E' := 
  {le := ⟨fun _ h => h, fun _ h => h, fun c hc => hw.old c (hH.ltP c hc), fun c hc => hw.old c (hH.ltP c (hH.pfpa c hc)), fun _ => Nat.le_refl _, fun _ _ h _ => ⟨h, rfl, rfl⟩, fun s c h => by
    show (if s = t then _ else _) = _
    rw [if_neg (fun e => by subst e; rw [hm] at h; cases h)]; exact h⟩
   os := hw.os, tape := hw.tape, output := hw.output
   size := by show E.w.heap.size ≤ w'.heap.size; rw [hw.size]; omega
   keep := fun c hc _ _ => hw.old c hc
   imH := fun _ h => .inl h
   imL := fun c ⟨s, hs⟩ => by
    have hs : (if s = t then some E.w.heap.size else E.mL s) = some c := hs
    split at hs
    ·cases hs; exact .inr (Nat.le_refl _)
    ·exact .inl ⟨s, hs⟩
   pa := fun _ h => .inl h
   pf := fun _ h => .inl h }
 have hml : ∀ s c, E'.mL s = some c → (s = t ∧ c = E.w.heap.size) ∨ (s ≠ t ∧ E.mL s = some c) := by
  intro s c hs
  have hs : (if s = t then some E.w.heap.size else E.mL s) = some c := hs
  split at hs
  ·rename_i e; cases hs; exact .inl ⟨e, rfl⟩
  ·rename_i e; exact .inr ⟨e, hs⟩
 have hltH := hH.ltH
 have hltL := hH.ltL
 refine ⟨E', rfl, hst, ?_, ?_, ⟨E.w.heap.size, by show (if t = t then _ else _) = _; rw [if_pos rfl], rfl⟩, rfl, fun s hs => if_neg hs⟩
 ·exact {
   heap := fun b c hb => by
    obtain ⟨blk, cs', ty', q1, q0, q2, q3, q4, q5, q6⟩ := hH.heap b c hb
    refine ⟨blk, cs', ty', q1, q0, ?_, q3, q4, q5, fun i j row a hr hj => ?_⟩
    ·show w'.heap[c]? = _; rw [hw.old c (hltH c ⟨b, hb⟩)]; exact q2
    ·obtain ⟨u, hu, hr'⟩ := q6 i j row a hr hj
     exact ⟨u, hu, hr'.le hst.le.noL⟩
   gens := hH.gens
   nilb := hH.nilb
   fresh := hH.fresh
   injH := hH.injH
   injL := fun s s' c h1 h2 => by
    rcases hml s c h1 with ⟨d1, e1⟩ | ⟨_, k1⟩ <;> rcases hml s' c h2 with ⟨d2, e2⟩ | ⟨_, k2⟩
    ·rw [d1, d2]
    ·have := hltL c ⟨s', k2⟩; omega
    ·have := hltL c ⟨s, k1⟩; omega
    ·exact hH.injL s s' c k1 k2
   injHL := fun b s c h1 h2 => by
    rcases hml s c h2 with ⟨rfl, rfl⟩ | ⟨_, h2⟩
    ·have := hltH _ ⟨b, h1⟩; omega
    ·exact hH.injHL b s c h1 h2
   notH := hH.notH
   notL := fun c hc ⟨s, hs⟩ => by
    rcases hml s c hs with ⟨rfl, rfl⟩ | ⟨_, hs⟩
    ·have := hH.ltP _ hc; omega
    ·exact hH.notL c hc ⟨s, hs⟩
   pfpa := hH.pfpa
   ltP := fun c hc => Nat.lt_of_lt_of_le (hH.ltP c hc) hst.size
   ltH := fun c hc => Nat.lt_of_lt_of_le (hltH c hc) hst.size
   ltL := fun c ⟨s, hs⟩ => by
    rcases hml s c hs with ⟨rfl, rfl⟩ | ⟨_, hs⟩
    ·show _ < w'.heap.size; rw [hw.size]; omega
    ·exact Nat.lt_of_lt_of_le (hltL c ⟨s, hs⟩) hst.size }
 ·intro s c hs
  rcases hml s c hs with ⟨rfl, rfl⟩ | ⟨_, hs⟩
  ·exact ⟨cells, cs, ty, ht, hw.new, hc.mono fun _ _ k => k.le hst.le.noL⟩
  ·obtain ⟨cells', cs', ty', q1, q2, q3⟩ := hL s c hs
   exact ⟨cells', cs', ty', q1, by show w'.heap[c]? = _; rw [hw.old c (hltL c ⟨s, hs⟩)]; exact q2, q3.mono fun _ _ k => k.le hst.le.noL⟩
theorem newH_sound {E : Env} {H H' : List Blk} {L : List (Nat × List AV)} {w' : World} {cs : Array Value} {ty : TypeId} {b cap : Nat} {blk : Blk} (hH : SimH E H) (hL : SimL E L) (hw : NewBlk E.w w' (.cells cs ty (0, 0)))
  (hb : H'[b]? = some blk) (ho : ∀ b', b' ≠ b → H'[b']? = H[b']?) (hlen : b < H.length → H'.length = H.length) (hlen2 : H.length ≤ H'.length)
  (hgen : (E.m b = none ∧ blk.gen = E.gen b) ∨ E.gen b < blk.gen) (hcs : cs.size = cap * blk.sz) (hcap : blk.rows.length ≤ cap)
  (hr : RowsAt E blk.sz blk.rows cs) :
  ∃ E', E'.w = w' ∧ Step E E' ∧ SimH E' H' ∧ SimL E' L ∧ E'.gen b = blk.gen ∧ E'.m b = some (some E.w.heap.size) ∧ E'.sz b = blk.sz ∧ E'.cp b = cap ∧ (∀ b', b' ≠ b → E'.m b' = E.m b') ∧ E'.mL = E.mL := by
 let E' : Env := { E with w := w', m := fun b' => if b' = b then some (some E.w.heap.size) else E.m b', gen := fun b' => if b' = b then blk.gen else E.gen b', sz := fun b' => if b' = b then blk.sz else E.sz b', cp := fun b' => if b' = b then cap else E.cp b' }
 have hst : Step E E' := 
  {le := ⟨fun _ h => h, fun _ h => h, fun c hc => hw.old c (hH.ltP c hc), fun c hc => hw.old c (hH.ltP c (hH.pfpa c hc)), fun b' => by
     show _ ≤ (if b' = b then _ else _)
     split
     ·rename_i e; subst e; rcases hgen with ⟨_, e⟩ | e <;> omega
     ·exact Nat.le_refl _, fun b' x hx hg => by
     have hg' : (if b' = b then blk.gen else E.gen b') = E.gen b' := hg
     have hne : b' ≠ b := fun e => by
      subst e
      rw [if_pos rfl] at hg'
      rcases hgen with ⟨hn, _⟩ | e
      ·rw [hn] at hx; cases hx
      ·omega
     refine ⟨?_, ?_, ?_⟩
     ·show (if b' = b then _ else _) = _; rw [if_neg hne]; exact hx
     ·show (if b' = b then _ else _) = _; rw [if_neg hne]
     ·show (if b' = b then _ else _) = _; rw [if_neg hne], fun _ _ h => h⟩
   os := hw.os, tape := hw.tape, output := hw.output
   size := by show E.w.heap.size ≤ w'.heap.size; rw [hw.size]; omega
   keep := fun c hc _ _ => hw.old c hc
   imH := fun c ⟨s, hs⟩ => by
    have hs : (if s = b then some (some E.w.heap.size) else E.m s) = some (some c) := hs
    split at hs
    ·cases hs; exact .inr (Nat.le_refl _)
    ·exact .inl ⟨s, hs⟩
   imL := fun _ h => .inl h
   pa := fun _ h => .inl h
   pf := fun _ h => .inl h }
 have hm : ∀ s c, E'.m s = some (some c) → (s = b ∧ c = E.w.heap.size) ∨ (s ≠ b ∧ E.m s = some (some c)) := by
  intro s c hs
  have hs : (if s = b then some (some E.w.heap.size) else E.m s) = some (some c) := hs
  split at hs
  ·rename_i e; cases hs; exact .inl ⟨e, rfl⟩
  ·rename_i e; exact .inr ⟨e, hs⟩
 have hltH := hH.ltH
 have hltL := hH.ltL
 have hsz : ∀ s, s ≠ b → E'.sz s = E.sz s := fun s hs => if_neg hs
 have hcp : ∀ s, s ≠ b → E'.cp s = E.cp s := fun s hs => if_neg hs
 have hszb : E'.sz b = blk.sz := if_pos rfl
 have hcpb : E'.cp b = cap := if_pos rfl
 have hgb : E'.gen b = blk.gen := if_pos rfl
 refine ⟨E', rfl, hst, ?_, ?_, hgb, if_pos rfl, hszb, hcpb, fun b' hb' => if_neg hb', rfl⟩
 ·exact {
   heap := fun s c hs => by
    rcases hm s c hs with ⟨rfl, rfl⟩ | ⟨hne, hs⟩
    ·refine ⟨blk, cs, ty, hb, hszb, hw.new, by rw [hcpb, hszb]; exact hcs, by rw [hcpb]; exact hcap, ?_⟩
     rw [hszb]
     exact ⟨hr.1, fun i j row a h1 h2 => by obtain ⟨u, hu, hr'⟩ := hr.2 i j row a h1 h2; exact ⟨u, hu, hr'.le hst.le.noL⟩⟩
    ·obtain ⟨blk', cs', ty', q1, q0, q2, q3, q4, q5, q6⟩ := hH.heap s c hs
     refine ⟨blk', cs', ty', by rw [ho s hne]; exact q1, by rw [hsz s hne]; exact q0, ?_, by rw [hcp s hne, hsz s hne]; exact q3, by rw [hcp s hne]; exact q4, by rw [hsz s hne]; exact q5, fun i j row a hr hj => ?_⟩
     ·show w'.heap[c]? = _; rw [hw.old c (hltH c ⟨s, hs⟩)]; exact q2
     ·obtain ⟨u, hu, hr'⟩ := q6 i j row a hr hj
      exact ⟨u, by rw [hsz s hne]; exact hu, hr'.le hst.le.noL⟩
   gens := fun s x hs => by
    by_cases e : s = b
    ·subst e; rw [hb] at hs; cases hs; exact hgb
    ·rw [ho s e] at hs
     show (if s = b then _ else _) = _
     rw [if_neg e]; exact hH.gens s x hs
   nilb := fun s hs => by
    have hs : (if s = b then some (some E.w.heap.size) else E.m s) = some none := hs
    split at hs
    ·cases hs
    ·rename_i e
     obtain ⟨x, q1, q2⟩ := hH.nilb s hs
     exact ⟨x, by rw [ho s e]; exact q1, by rw [hsz s e]; exact q2⟩
   fresh := fun s hs => by
    have hlt : b < H'.length := (List.getElem?_eq_some_iff.1 hb).1
    have e : s ≠ b := by omega
    have := hH.fresh s (by omega)
    exact ⟨by show (if s = b then _ else _) = _; rw [if_neg e]; exact this.1, by show (if s = b then _ else _) = _; rw [if_neg e]; exact this.2⟩
   injH := fun s s' c h1 h2 => by
    rcases hm s c h1 with ⟨d1, e1⟩ | ⟨_, k1⟩ <;> rcases hm s' c h2 with ⟨d2, e2⟩ | ⟨_, k2⟩
    ·rw [d1, d2]
    ·have := hltH c ⟨s', k2⟩; omega
    ·have := hltH c ⟨s, k1⟩; omega
    ·exact hH.injH s s' c k1 k2
   injL := hH.injL
   injHL := fun s t c h1 h2 => by
    rcases hm s c h1 with ⟨rfl, rfl⟩ | ⟨_, h1⟩
    ·have := hltL _ ⟨t, h2⟩; omega
    ·exact hH.injHL s t c h1 h2
   notH := fun c hc ⟨s, hs⟩ => by
    rcases hm s c hs with ⟨rfl, rfl⟩ | ⟨_, hs⟩
    ·have := hH.ltP _ hc; omega
    ·exact hH.notH c hc ⟨s, hs⟩
   notL := hH.notL
   pfpa := hH.pfpa
   ltP := fun c hc => Nat.lt_of_lt_of_le (hH.ltP c hc) hst.size
   ltH := fun c ⟨s, hs⟩ => by
    rcases hm s c hs with ⟨rfl, rfl⟩ | ⟨_, hs⟩
    ·show _ < w'.heap.size; rw [hw.size]; omega
    ·exact Nat.lt_of_lt_of_le (hltH c ⟨s, hs⟩) hst.size
   ltL := fun c hc => Nat.lt_of_lt_of_le (hltL c hc) hst.size }
 ·intro s c hs
  obtain ⟨cells', cs', ty', q1, q2, q3⟩ := hL s c hs
  exact ⟨cells', cs', ty', q1, by show w'.heap[c]? = _; rw [hw.old c (hltL c ⟨s, hs⟩)]; exact q2, q3.mono fun _ _ k => k.le hst.le.noL⟩
end Go.Proofs.Ytglpfccgmfhkdaa.Fw
/- The framework, part M: append. -/

set_option linter.unusedVariables false
namespace Go.Proofs.Ytglpfccgmfhkdaa.Fw
open Go
theorem regen_sound {E : Env} {H : List Blk} {L : List (Nat × List AV)} {w' : World} {b : Nat} {x : Option Nat} {blk blk' : Blk} (hH : SimH E H) (hL : SimL E L)
  (hm : E.m b = some x) (hb : H[b]? = some blk) (hg : blk'.gen = blk.gen + 1) (hbs : blk'.sz = blk.sz)
  (ho : w'.os = E.w.os) (htp : w'.tape = E.w.tape) (hout : w'.output = E.w.output) (hsz : w'.heap.size = E.w.heap.size)
  (hw : ∀ c, x ≠ some c → w'.heap[c]? = E.w.heap[c]?)
  (hx : ∀ c, x = some c → ∃ cs ty, w'.heap[c]? = some (.cells cs ty (0, 0)) ∧ cs.size = E.cp b * E.sz b ∧ blk'.rows.length ≤ E.cp b ∧ RowsAt E (E.sz b) blk'.rows cs) :
  ∃ E', E'.w = w' ∧ Step E E' ∧ SimH E' (H.set b blk') ∧ SimL E' L ∧ E'.gen b = blk'.gen ∧ E'.m = E.m ∧ E'.sz = E.sz ∧ E'.cp = E.cp ∧ E'.mL = E.mL := by
 let E' : Env := { E with w := w', gen := fun b' => if b' = b then blk'.gen else E.gen b' }
 have hgen := hH.gens b blk hb
 have hne : ∀ c, E.PA c → x ≠ some c := fun c hc e => hH.notH c hc ⟨b, by rw [hm, e]⟩
 have hst : Step E E' := 
  {le := ⟨fun _ h => h, fun _ h => h, fun c hc => hw c (hne c hc), fun c hc => hw c (hne c (hH.pfpa c hc)), fun b' => by
     show _ ≤ (if b' = b then _ else _)
     split
     ·rename_i e; subst e; omega
     ·exact Nat.le_refl _, fun b' y hy hgy => by
     have hg' : (if b' = b then blk'.gen else E.gen b') = E.gen b' := hgy
     have hnb : b' ≠ b := fun e => by subst e; rw [if_pos rfl] at hg'; omega
     exact ⟨hy, rfl, rfl⟩, fun _ _ h => h⟩
   os := ho, tape := htp, output := hout
   size := by show E.w.heap.size ≤ w'.heap.size; rw [hsz]; exact Nat.le_refl _
   keep := fun c hc h1 _ => hw c (fun e => h1 ⟨b, by rw [hm, e]⟩)
   imH := fun _ h => .inl h
   imL := fun _ h => .inl h
   pa := fun _ h => .inl h
   pf := fun _ h => .inl h }
 have hblt : b < H.length := (List.getElem?_eq_some_iff.1 hb).1
 refine ⟨E', rfl, hst, ?_, ?_, if_pos rfl, rfl, rfl, rfl, rfl⟩
 ·exact { hH with
   heap := fun s c hs => by
    by_cases e : s = b
    ·subst e
     have hxc : x = some c := by
      have : E.m s = some (some c) := hs
      rw [hm] at this; exact Option.some.inj this
     obtain ⟨blk0, cs0, ty0, q1, q0, q⟩ := hH.heap s c (by rw [hm, hxc])
     obtain rfl : blk = blk0 := by rw [hb] at q1; exact Option.some.inj q1
     obtain ⟨cs, ty, h1, h2, h3, h4⟩ := hx c hxc
     exact ⟨blk', cs, ty, by rw [List.getElem?_set_self hblt], q0.trans hbs.symm, h1, h2, h3, h4.1, fun i j row a hr hj => by
      obtain ⟨u, hu, hr'⟩ := h4.2 i j row a hr hj; exact ⟨u, hu, hr'.le hst.le.noL⟩⟩
    ·obtain ⟨blk0, cs', ty', q1, q0, q2, q3, q4, q5, q6⟩ := hH.heap s c hs
     refine ⟨blk0, cs', ty', by rw [List.getElem?_set_ne (fun h => e h.symm)]; exact q1, q0, ?_, q3, q4, q5, fun i j row a hr hj => ?_⟩
     ·show w'.heap[c]? = _
      rw [hw c (fun h => e (hH.injH s b c hs (by rw [hm, h])))]; exact q2
     ·obtain ⟨u, hu, hr'⟩ := q6 i j row a hr hj
      exact ⟨u, hu, hr'.le hst.le.noL⟩
   gens := fun s y hs => by
    by_cases e : s = b
    ·subst e; rw [List.getElem?_set_self hblt] at hs; cases hs; exact if_pos rfl
    ·rw [List.getElem?_set_ne (fun h => e h.symm)] at hs
     show (if s = b then _ else _) = _
     rw [if_neg e]; exact hH.gens s y hs
   nilb := fun s hs => by
    obtain ⟨y, q1, q2⟩ := hH.nilb s hs
    by_cases e : s = b
    ·subst e
     obtain rfl : blk = y := by rw [hb] at q1; exact Option.some.inj q1
     exact ⟨blk', by rw [List.getElem?_set_self hblt], q2.trans hbs.symm⟩
    ·exact ⟨y, by rw [List.getElem?_set_ne (fun h => e h.symm)]; exact q1, q2⟩
   fresh := fun s hs => by
    rw [List.length_set] at hs
    have e : s ≠ b := by omega
    have := hH.fresh s hs
    exact ⟨this.1, by show (if s = b then _ else _) = _; rw [if_neg e]; exact this.2⟩
   ltP := fun c hc => Nat.lt_of_lt_of_le (hH.ltP c hc) hst.size
   ltH := fun c hc => Nat.lt_of_lt_of_le (hH.ltH c hc) hst.size
   ltL := fun c hc => Nat.lt_of_lt_of_le (hH.ltL c hc) hst.size }
 ·intro s c hs
  obtain ⟨cells', cs', ty', q1, q2, q3⟩ := hL s c hs
  refine ⟨cells', cs', ty', q1, ?_, q3.mono fun _ _ k => k.le hst.le.noL⟩
  show w'.heap[c]? = _
  rw [hw c (fun e => hH.injHL b s c (by rw [hm, e]) hs)]; exact q2
theorem nilH_sound {E : Env} {H : List Blk} {L : List (Nat × List AV)} {blk : Blk} (hH : SimH E H) (hL : SimL E L) (hg : blk.gen = 0) (hr : blk.rows = []) :
  ∃ E', E'.w = E.w ∧ Step E E' ∧ SimH E' (H ++ [blk]) ∧ SimL E' L ∧ E'.gen H.length = 0 ∧ E'.m H.length = some none ∧ (∀ b, b ≠ H.length → E'.m b = E.m b) ∧ E'.mL = E.mL := by
 have hs := hH.snoc hg
 have hn := hH.fresh H.length (Nat.le_refl _)
 let E' : Env := { E with m := fun b => if b = H.length then some none else E.m b, sz := fun b => if b = H.length then blk.sz else E.sz b }
 have hmm : ∀ b c, E'.m b = some (some c) → E.m b = some (some c) ∧ b ≠ H.length := by
  intro b c h
  have h : (if b = H.length then some none else E.m b) = some (some c) := h
  split at h
  ·cases h
  ·exact ⟨h, by assumption⟩
 have hst : Step E E' := 
  {le := ⟨fun _ h => h, fun _ h => h, fun _ _ => rfl, fun _ _ => rfl, fun _ => Nat.le_refl _, fun b x hx _ => by
     have hne : b ≠ H.length := fun e => by subst e; rw [hn.1] at hx; cases hx
     exact ⟨by show (if b = H.length then _ else _) = _; rw [if_neg hne]; exact hx, by show (if b = H.length then _ else _) = _; rw [if_neg hne], rfl⟩, fun _ _ h => h⟩
   os := rfl, tape := rfl, output := rfl, size := Nat.le_refl _
   keep := fun _ _ _ _ => rfl
   imH := fun c ⟨b, h⟩ => .inl ⟨b, (hmm b c h).1⟩
   imL := fun _ h => .inl h
   pa := fun _ h => .inl h
   pf := fun _ h => .inl h }
 refine ⟨E', rfl, hst, ?_, fun s c hm => ?_, hn.2, if_pos rfl, fun b hb => if_neg hb, rfl⟩
 ·exact { hs with
   heap := fun b c h => by
    obtain ⟨h, hne⟩ := hmm b c h
    obtain ⟨blk0, cs', ty', q1, q0, q2, q3, q4, q5, q6⟩ := hs.heap b c h
    have hsz : E'.sz b = E.sz b := if_neg hne
    exact ⟨blk0, cs', ty', q1, by rw [hsz]; exact q0, q2, by rw [hsz]; exact q3, q4, by rw [hsz]; exact q5, fun i j row a hr hj => by
     obtain ⟨u, hu, hr'⟩ := q6 i j row a hr hj
     exact ⟨u, by rw [hsz]; exact hu, hr'.le hst.le.noL⟩⟩
   nilb := fun b h => by
    by_cases e : b = H.length
    ·subst e
     exact ⟨blk, by simp, if_pos rfl⟩
    ·have h : E.m b = some none := by
      have h : (if b = H.length then some none else E.m b) = some none := h
      rwa [if_neg e] at h
     obtain ⟨y, q1, q2⟩ := hs.nilb b h
     exact ⟨y, q1, by show (if b = H.length then _ else _) = _; rw [if_neg e]; exact q2⟩
   fresh := fun b h => by
    have := hs.fresh b h
    have e : b ≠ H.length := by simp at h; omega
    exact ⟨by show (if b = H.length then _ else _) = _; rw [if_neg e]; exact this.1, this.2⟩
   injH := fun b b' c h1 h2 => hs.injH b b' c (hmm b c h1).1 (hmm b' c h2).1
   injHL := fun b t c h1 h2 => hs.injHL b t c (hmm b c h1).1 h2
   notH := fun c hc ⟨b, h⟩ => hs.notH c hc ⟨b, (hmm b c h).1⟩
   ltH := fun c ⟨b, h⟩ => hs.ltH c ⟨b, (hmm b c h).1⟩ }
 ·obtain ⟨cells', cs', ty', q1, q2, q3⟩ := hL s c hm
  exact ⟨cells', cs', ty', q1, q2, q3.mono fun _ _ k => k.le hst.le.noL⟩
def refrow (fr : Bool) (row : List AV) : List AV := match fr with
 | true => row.map refr
 | false => row
def refrs (fr : Bool) (rows : List (List AV)) : List (List AV) := match fr with
 | true => rows.map fun row => row.map refr
 | false => rows
theorem refrs_eq (fr : Bool) (rows : List (List AV)) : refrs fr rows = rows.map (refrow fr) := by
 cases fr
 ·show rows = rows.map fun row => row
  simp
 ·rfl
theorem refrow_length (fr : Bool) (row : List AV) : (refrow fr row).length = row.length := by
 cases fr <;> simp [refrow]
def rowsOf (H : List Blk) (x : AV) : Option (List (List AV)) := match x with
 | .lst rows _ fr => some (refrs fr rows)
 | .ref b g off n _ => (H[b]?).bind fun blk => if blk.gen = g ∧ off + n ≤ blk.rows.length then some ((blk.rows.drop off).take n) else none
 | .str s => some (s.data.toList.map fun c => [.int .u8 c.toNat])
 | _ => none
def rowsA (H : List Blk) (x : AV) (K : List (List AV) → Prop) : Prop := match x with
 | .lst rows _ fr => K (refrs fr rows)
 | .ref b g off n _ => oelim H[b]? fun blk => blk.gen = g ∧ off + n ≤ blk.rows.length ∧ K ((blk.rows.drop off).take n)
 | .str s => K (s.data.toList.map fun c => [.int .u8 c.toNat])
 | _ => False
theorem rowsA_inv {H : List Blk} {x : AV} {K : List (List AV) → Prop} (h : rowsA H x K) : ∃ xr, rowsOf H x = some xr ∧ K xr := by
 cases x with
 | lst rows full fr => exact ⟨_, rfl, h⟩
 | ref b g off n full =>
  obtain ⟨blk, hb, h1, h2, h3⟩ := oelim_inv (show oelim H[b]? fun blk => blk.gen = g ∧ off + n ≤ blk.rows.length ∧ K ((blk.rows.drop off).take n) from h)
  exact ⟨_, by show (H[b]?).bind _ = _; rw [hb]; show (if blk.gen = g ∧ off + n ≤ blk.rows.length then _ else _) = _; rw [if_pos ⟨h1, h2⟩], h3⟩
 | str s => exact ⟨_, rfl, h⟩
 | _ => exact h.elim
def appT (P : Program) (e t2 : TypeId) (x : AV) : Bool := match x with
 | .str _ => (match P.underlying t2 with
  | some .string => (match P.underlying e with
   | some (.int .u8) => P.cellsOf e == 1
   | _ => false)
  | _ => false)
 | _ => (match P.underlying t2 with
  | some (.slice e2) => e2 == e
  | _ => false)
def rowsOk (n : Nat) (xr : List (List AV)) : Prop := ∀ row ∈ xr, row.length = n ∧ ∀ a ∈ row, sto1 a = true
def appA (P : Program) (t t2 : TypeId) (s x : AV) (L : List (Nat × List AV)) (H : List Blk) (K : AV → List (Nat × List AV) → List Blk → Prop) : Prop :=
 oelim (elemT P t) fun e => oelim (zeroA P e) fun z => if z.length = P.cellsOf e ∧ 0 < z.length ∧ appT P e t2 x = true then rowsA H x fun xr =>
  rowsOk z.length xr ∧ (match s with
  | .lst rows full fr => full = true ∧ (∀ row ∈ rows, row.length = z.length) ∧ (rows.length + xr.length) * P.bytesOf e ≤ 140737488355328 ∧ rows.length + xr.length ≤ 4611686018427387904 ∧ (rows ≠ [] → xr ≠ []) ∧
    K (.ref H.length 0 0 (rows.length + xr.length) false) L (H ++ [⟨0, z.length, rows ++ xr⟩])
  | .ref b g off n full => off = 0 ∧ oelim H[b]? fun blk => blk.gen = g ∧ blk.sz = z.length ∧ blk.rows.length = n ∧ (n + xr.length) * P.bytesOf e ≤ 140737488355328 ∧ n + xr.length ≤ 4611686018427387904 ∧
    K (.ref b (g + 1) 0 (n + xr.length) false) L (H.set b ⟨g + 1, z.length, blk.rows ++ xr⟩)
  | _ => False)
 else False
structure XOk (P : Program) (E : Env) (t2 : TypeId) (size : Nat) (xr : List (List AV)) (xv : Value) (news : List Value) : Prop where
 len : news.length = xr.length * size
 rel : ∀ (i j : Nat) (row : List AV) (a : AV), xr[i]? = some row → row[j]? = some a → ∃ u, news[i * size + j]? = some u ∧ V1 E.noL a u ∧ u.oneCell' = true
 one : ∀ u ∈ news, u.oneCell' = true
 num : (∃ e2, P.underlying t2 = some (.slice e2)) ∨ P.underlying t2 = some .string
 lenOf : ∀ w, (Builtin.lenOf xv).run P w = .ok xr.length w
 cells : ∀ w, (w = E.w ∨ w = E.w.drew) → (Builtin.firstCells size xr.length xv).run P w = .ok news.toArray w
theorem one_of_rel {size : Nat} {xr : List (List AV)} {news : List Value} {R : AV → Value → Prop} (hok : ∀ row ∈ xr, row.length = size) (len : news.length = xr.length * size)
  (rel : ∀ (i j : Nat) (row : List AV) (a : AV), xr[i]? = some row → row[j]? = some a → ∃ u, news[i * size + j]? = some u ∧ R a u ∧ u.oneCell' = true) : ∀ u ∈ news, u.oneCell' = true := by
 intro u hu
 obtain ⟨k, hk⟩ := List.mem_iff_getElem?.1 hu
 have hkl : k < xr.length * size := by rw [← len]; exact (List.getElem?_eq_some_iff.1 hk).1
 have hpos : 0 < size := by
  rcases Nat.eq_zero_or_pos size with q | q
  ·rw [q, Nat.mul_zero] at hkl; omega
  ·exact q
 have hi : k / size < xr.length := (Nat.div_lt_iff_lt_mul hpos).2 hkl
 have hrow := List.getElem?_eq_getElem hi
 have hlen : (xr[k / size]).length = size := hok _ (List.getElem_mem hi)
 have hj : k % size < (xr[k / size]).length := by rw [hlen]; exact Nat.mod_lt _ hpos
 obtain ⟨v, h1, h2, h3⟩ := rel (k / size) (k % size) _ _ hrow (List.getElem?_eq_getElem hj)
 rw [Nat.div_add_mod' k size, hk] at h1
 cases h1; exact h3
theorem x_sound {P : Program} {e t2 : TypeId} {x : AV} {xr : List (List AV)} {E : Env} {H : List Blk} {xv : Value} {size : Nat} (hH : SimH E H) (hx : V2 E x xv) (hsz : size = P.cellsOf e) (ht : appT P e t2 x = true)
  (hr : rowsOf H x = some xr) (hok : rowsOk size xr) : ∃ news, XOk P E t2 size xr xv news := by
 have hlenrow : ∀ row ∈ xr, row.length = size := fun row h => (hok row h).1
 cases x with
 | lst rows full fr =>
  have e0 : refrs fr rows = xr := Option.some.inj hr
  have e1 : xr = rows.map (refrow fr) := by rw [← e0]; exact refrs_eq fr rows
  have hlx : xr.length = rows.length := by rw [e1, List.length_map]
  have hrl : ∀ row ∈ rows, row.length = size := fun row h => by
   rw [← refrow_length fr row]; exact hlenrow _ (by rw [e1]; exact List.mem_map_of_mem h)
  have hu : ∃ e2, P.underlying t2 = some (.slice e2) := by
   unfold appT at ht
   simp only at ht
   split at ht
   ·exact ⟨_, by assumption⟩
   ·cases ht
  obtain ⟨e2, hu⟩ := hu
  have hx' : RV E.w E.PA E.PF (.lst rows full fr) xv := hx
  cases hx' with
  | @lst _ _ PB _ _ _ A cap sz vs hPB hcap hfull hsz' hcell hrel =>
   let news : List Value := (List.range (rows.length * size)).map fun k => vs (k / size) (k % size)
   have hnl : news.length = rows.length * size := by simp [news]
   have hget : ∀ i j, i < rows.length → j < size → news[i * size + j]? = some (vs i j) := by
    intro i j hi hj
    have hk : i * size + j < rows.length * size := by
     calc i * size + j < i * size + size := by omega
      _ = (i + 1) * size := by rw [Nat.add_mul, Nat.one_mul]
      _ ≤ rows.length * size := Nat.mul_le_mul_right _ (by omega)
    show ((List.range (rows.length * size)).map _)[i * size + j]? = _
    rw [List.getElem?_map, List.getElem?_range hk]
    have h1 : (i * size + j) / size = i := by
     rw [Nat.add_comm, Nat.add_mul_div_right _ _ (by omega), Nat.div_eq_of_lt hj]; omega
    have h2 : (i * size + j) % size = j := by
     rw [Nat.add_comm, Nat.add_mul_mod_self_right, Nat.mod_eq_of_lt hj]
    simp [h1, h2]
   have rel : ∀ (i j : Nat) (row : List AV) (a : AV), xr[i]? = some row → row[j]? = some a → ∃ u, news[i * size + j]? = some u ∧ V1 E.noL a u ∧ u.oneCell' = true := by
    intro i j row a h1 h2
    have hrm := hok row (List.mem_of_getElem? h1)
    have hj : j < size := by rw [← hrm.1]; exact (List.getElem?_eq_some_iff.1 h2).1
    have hs := hrm.2 a (List.mem_of_getElem? h2)
    rw [e1, List.getElem?_map] at h1
    cases hq : rows[i]? with
    | none => rw [hq] at h1; cases h1
    | some row0 =>
     rw [hq] at h1
     have h1 : refrow fr row0 = row := Option.some.inj h1
     have hv1 : V1 E.noL a (vs i j) := by
      cases fr with
      | false =>
       have h1 : row0 = row := h1
       subst h1
       exact RV.v1 (E := E.noL) ((hrel i j row0 a hq h2).mono (fun _ _ => rfl) (fun _ h => h.elim) (fun c hc => show E.PA c by have := hPB c hc; simpa using this) (fun _ h => h.elim))
      | true =>
       have h1 : row0.map refr = row := h1
       subst h1
       rw [List.getElem?_map] at h2
       cases hq2 : row0[j]? with
       | none => rw [hq2] at h2; cases h2
       | some a0 =>
        rw [hq2] at h2
        have h2 : refr a0 = a := Option.some.inj h2
        subst h2
        exact RV.v1 (E := E.noL) (refr_rel (hrel i j row0 a0 hq hq2) (fun c hc => show E.PF c by have := hPB c hc; simpa using this) hH.pfpa)
     exact ⟨_, hget i j (List.getElem?_eq_some_iff.1 hq).1 hj, hv1, hv1.one1 hs⟩
   refine ⟨news, by rw [hlx]; exact hnl, rel, one_of_rel hlenrow (by rw [hlx]; exact hnl) rel, .inl ⟨_, hu⟩, fun w => by rw [hlx]; rfl, fun w hw => ?_⟩
   rw [hlx]
   have hcw : ∀ a, w.cell? a = E.w.cell? a := by rcases hw with rfl | rfl <;> intro a <;> rfl
   by_cases hz : rows.length = 0
   ·have hn : news = [] := List.eq_nil_of_length_eq_zero (by rw [hnl, hz, Nat.zero_mul])
    rw [hn, hz]
    cases A with
    | none => exact run_firstCells_none w size 0 _ _
    | some ad => 
     have := run_firstCells_some (P := P) w size 0 ad 0 cap [] (by simp) (fun j v h => by simp at h)
     exact this
   ·obtain ⟨c, o, rfl, hc, hall⟩ := hcell (by omega)
    refine run_firstCells_some (P := P) w size rows.length ⟨c, o, none⟩ rows.length cap news hnl (fun k v hk => ?_)
    have hkl : k < rows.length * size := by rw [← hnl]; exact (List.getElem?_eq_some_iff.1 hk).1
    have hpos : 0 < size := by
     rcases Nat.eq_zero_or_pos size with q | q
     ·rw [q, Nat.mul_zero] at hkl; omega
     ·exact q
    have hi : k / size < rows.length := (Nat.div_lt_iff_lt_mul hpos).2 hkl
    have hj : k % size < size := Nat.mod_lt _ hpos
    have hszs : sz = size := by
     have := hsz' _ _ (List.getElem?_eq_getElem hi)
     rw [← this]; exact hrl _ (List.getElem_mem hi)
    have h1 := hall (k / size) (k % size) hi (by rw [hszs]; exact hj)
    have h2 := hget (k / size) (k % size) hi hj
    rw [Nat.div_add_mod' k size] at h2
    rw [hk] at h2
    cases h2
    rw [addr_add, hcw]
    rw [hszs, Nat.div_add_mod' k size] at h1
    exact h1
 | ref b g off n full =>
  have hu : ∃ e2, P.underlying t2 = some (.slice e2) := by
   unfold appT at ht
   simp only at ht
   split at ht
   ·exact ⟨_, by assumption⟩
   ·cases ht
  obtain ⟨e2, hu⟩ := hu
  have hr : ((H[b]?).bind fun blk => if blk.gen = g ∧ off + n ≤ blk.rows.length then some ((blk.rows.drop off).take n) else none) = some xr := hr
  cases hb : H[b]? with
  | none => simp [hb] at hr
  | some blk =>
   simp only [hb, Option.bind_some] at hr
   split at hr
   case isFalse => cases hr
   case isTrue hc =>
   obtain ⟨hg, hon⟩ := hc
   cases hr
   have hgen := hH.gens b blk hb
   have hxl : ((blk.rows.drop off).take n).length = n := by simp; omega
   have hxget : ∀ i row, ((blk.rows.drop off).take n)[i]? = some row → blk.rows[off + i]? = some row := by
    intro i row h
    rw [List.getElem?_take] at h
    split at h
    ·rw [List.getElem?_drop] at h; exact h
    ·cases h
   rcases (show V0 E (.ref b g off n full) xv from hx) with ⟨hh, _⟩ | ⟨hge, hh⟩
   ·omega
   ·rcases hh with ⟨_, _, hn0, A, rfl⟩ | ⟨c, cap, hm, rfl, hmc, hfl, hcp⟩
    ·subst hn0
     refine ⟨[], by simp, fun i j row a h => by simp at h, (fun u hu => by cases hu), .inl ⟨_, hu⟩, fun w => by simp; rfl, fun w hw => ?_⟩
     rw [hxl]
     cases A with
     | none => exact run_firstCells_none w size 0 _ _
     | some ad => exact run_firstCells_some (P := P) w size 0 ad 0 0 [] (by simp) (fun j v h => by simp at h)
    ·obtain ⟨blk', cs, ty, q1, q0, hw, hcs, hcl, hrows⟩ := hH.heap b c hm
     obtain rfl : blk = blk' := by rw [hb] at q1; exact Option.some.inj q1
     by_cases hn0 : n = 0
     ·subst hn0
      refine ⟨[], by simp, fun i j row a h => by simp at h, (fun u hu => by cases hu), .inl ⟨_, hu⟩, fun w => by simp; rfl, fun w hw => ?_⟩
      rw [hxl]
      exact run_firstCells_some (P := P) w size 0 _ 0 cap [] (by simp) (fun j v h => by simp at h)
     ·have hsze : E.sz b = size := by
       have hlt : off < blk.rows.length := by omega
       have h0 : ((blk.rows.drop off).take n)[0]? = some blk.rows[off] := by
        rw [List.getElem?_take, if_pos (by omega), List.getElem?_drop, Nat.add_zero, List.getElem?_eq_getElem hlt]
       rw [← hrows.1 off _ (List.getElem?_eq_getElem hlt)]
       exact hlenrow _ (List.mem_of_getElem? h0)
      let news : List Value := (cs.toList.drop (off * size)).take (n * size)
      have hbnd : off * size + n * size ≤ cs.size := by
       rw [hcs, hsze, ← Nat.add_mul]; exact Nat.mul_le_mul_right _ (by omega)
      have hnl : news.length = n * size := by simp [news]; omega
      have hng : ∀ k, k < n * size → news[k]? = cs[off * size + k]? := by
       intro k hk
       show ((cs.toList.drop (off * size)).take (n * size))[k]? = _
       rw [List.getElem?_take, if_pos hk, List.getElem?_drop, Array.getElem?_toList]
      have rel : ∀ (i j : Nat) (row : List AV) (a : AV), ((blk.rows.drop off).take n)[i]? = some row → row[j]? = some a → ∃ u, news[i * size + j]? = some u ∧ V1 E.noL a u ∧ u.oneCell' = true := by
       intro i j row a h1 h2
       have hrm := hok row (List.mem_of_getElem? h1)
       have hj : j < size := by rw [← hrm.1]; exact (List.getElem?_eq_some_iff.1 h2).1
       have hi : i < n := by have := (List.getElem?_eq_some_iff.1 h1).1; rw [hxl] at this; exact this
       obtain ⟨u, hu1, hu2⟩ := hrows.2 (off + i) j row a (hxget i row h1) h2
       have hk : i * size + j < n * size := by
        calc i * size + j < i * size + size := by omega
         _ = (i + 1) * size := by rw [Nat.add_mul, Nat.one_mul]
         _ ≤ n * size := Nat.mul_le_mul_right _ (by omega)
       refine ⟨u, ?_, hu2, hu2.one1 (hrm.2 a (List.mem_of_getElem? h2))⟩
       rw [hng _ hk, ← hu1, hsze]
       congr 1
       rw [Nat.add_mul]; omega
      refine ⟨news, by rw [hxl]; exact hnl, rel, one_of_rel hlenrow (by rw [hxl]; exact hnl) rel, .inl ⟨_, hu⟩, fun w => by rw [hxl]; rfl, fun w hw' => ?_⟩
      have hcw : ∀ a, w.cell? a = E.w.cell? a := by rcases hw' with rfl | rfl <;> intro a <;> rfl
      rw [hxl]
      refine run_firstCells_some (P := P) w size n _ n cap news hnl (fun k v hk => ?_)
      have hkl : k < n * size := by rw [← hnl]; exact (List.getElem?_eq_some_iff.1 hk).1
      rw [hng k hkl] at hk
      rw [addr_add, hcw, hsze]
      exact cell_of hw hk
 | str s =>
  obtain rfl := V3.str_inv (V3_of_V2 hx)
  cases hr
  unfold appT at ht
  simp only at ht
  split at ht
  case h_2 => cases ht
  case h_1 hu =>
  split at ht
  case h_2 => cases ht
  case h_1 he =>
  have hs1 : size = 1 := by rw [hsz]; simpa using ht
  subst hs1
  have hsz0 : s.data.toList.length = s.size := by simp
  refine ⟨s.data.toList.map fun c => .int .u8 c.toNat, by simp, fun i j row a h1 h2 => ?_, fun u hu => ?_, .inr hu, fun w => ?_, fun w hw => ?_⟩
  ·rw [List.getElem?_map] at h1
   cases hc : s.data.toList[i]? with
   | none => rw [hc] at h1; cases h1
   | some c =>
    rw [hc] at h1
    cases h1
    have hj0 : j = 0 := by have := (List.getElem?_eq_some_iff.1 h2).1; simp at this; omega
    subst hj0
    cases h2
    exact ⟨.int .u8 c.toNat, by rw [List.getElem?_map, Nat.mul_one, Nat.add_zero, hc]; rfl, RV.int _ _, rfl⟩
  ·obtain ⟨c, _, rfl⟩ := List.mem_map.1 hu; rfl
  ·show Result.ok s.size w = _
   rw [List.length_map, hsz0]
  ·rw [List.length_map, hsz0]
   show Result.ok ((s.extract 0 s.size).data.map fun b => Value.int .u8 b.toNat) w = _
   congr 1
   apply Array.ext'
   simp
 | _ => cases hr
section
variable {P : Program} {E : Env} {t t2 ty e : TypeId} {size : Nat} {xr : List (List AV)} {xv : Value} {news : List Value}
theorem run_app_none (X : XOk P E t2 size xr xv news) (ht : P.underlying t = some (.slice e)) (hi : (P.info? e).isSome = true) (hsz : P.cellsOf e = size) {base : Option Addr} {sLen sCap : Nat} (hn : xr.length = 0) (hc : sLen ≤ sCap) :
  (Builtin.append_ #[t, t2] ty #[.slice base sLen sCap, xv]).run P E.w = .ok (.slice base sLen sCap) E.w := by
 have hl := X.lenOf E.w
 have hf := X.cells E.w (.inl rfl)
 have hnews : news = [] := List.eq_nil_of_length_eq_zero (by rw [X.len, hn, Nat.zero_mul])
 subst hnews
 rw [hn] at hl hf
 rcases X.num with ⟨e2, hu⟩ | hu <;>
  (simp [Builtin.append_, run_underlying ht, run_underlying hu, run_sizeOf hi, hsz, hl, hc, hf]
   cases base <;> simp [storeCells])
theorem run_app_in (X : XOk P E t2 size xr xv news) (ht : P.underlying t = some (.slice e)) (hi : (P.info? e).isSome = true) (hsz : P.cellsOf e = size) {g o sLen sCap : Nat} {cur : Array Value} {ce : TypeId}
  (hg : E.w.heap[g]? = some (.cells cur ce (0, 0))) (hroom : sLen + xr.length ≤ sCap) (hfit : o + sLen * size + news.length ≤ cur.size) :
  (Builtin.append_ #[t, t2] ty #[.slice (some ⟨g, o, none⟩) sLen sCap, xv]).run P E.w = .ok (.slice (some ⟨g, o, none⟩) (sLen + xr.length) sCap) (E.w.setRow g (cur.toList.take (o + sLen * size) ++ news ++ cur.toList.drop (o + sLen * size + news.length)).toArray) := by
 have hl := X.lenOf E.w
 have hf := X.cells E.w (.inl rfl)
 have hst := run_storeCells_at (P := P) g (o + sLen * size) ce news 0 cur E.w hg (by simpa using hfit) X.one
 simp only [Nat.add_zero] at hst
 rcases X.num with ⟨e2, hu⟩ | hu <;>
  simp [Builtin.append_, run_underlying ht, run_underlying hu, run_sizeOf hi, hsz, hl, hroom, hf, addr_add, hst]
theorem run_app_out (X : XOk P E t2 size xr xv news) (ht : P.underlying t = some (.slice e)) {i : TypeInfo} (hi : P.info? e = some i) (hsz : i.size = size) {z : Value} (hz : i.zero = some z) {base : Option Addr} {sLen sCap : Nat} {olds : Array Value}
  (holds : (Builtin.firstCells size sLen (.slice base sLen sCap)).run P E.w.drew = .ok olds E.w.drew) (hg : sCap < sLen + xr.length) (h63 : ((sLen + xr.length : Nat) : Int) ≤ 9223372036854775807)
  (hfit : Builtin.nextslicecap (sLen + xr.length) sCap * i.bytes ≤ 281474976710656) :
  (Builtin.append_ #[t, t2] ty #[.slice base sLen sCap, xv]).run P E.w = .ok (.slice (some ⟨E.w.heap.size, 0, none⟩) (sLen + xr.length) (grownCap E.w (sLen + xr.length) sCap e))
   (E.w.drew.alloc (.cells (olds ++ news.toArray ++ Builtin.zeroCells z.cells (grownCap E.w (sLen + xr.length) sCap e - (sLen + xr.length))) e)) := by
 have hl := X.lenOf E.w
 have hf := X.cells E.w.drew (.inr rfl)
 subst hsz
 have hn : ¬ (sLen + xr.length ≤ sCap) := by omega
 have h63' : ¬ (9223372036854775807 < ((sLen : Int) + (xr.length : Int))) := by omega
 have h48' : ¬ (281474976710656 < Builtin.nextslicecap (sLen + xr.length) sCap * i.bytes) := by omega
 rcases X.num with ⟨e2, hu⟩ | hu <;>
  simp [Builtin.append_, run_underlying ht, run_underlying hu, sizeOf, typeInfo, zeroValue, hi, hz, hl, hn, h63', h48', Question.forced, hf, holds, newRow, grownCap]
end
theorem app_sound {P : Program} {t t2 ty : TypeId} {s x : AV} {L : List (Nat × List AV)} {H : List Blk} {K : AV → List (Nat × List AV) → List Blk → Prop} {E : Env} {sv xv : Value}
  (hH : SimH E H) (hL : SimL E L) (hs : V2 E s sv) (hx : V2 E x xv) (h : appA P t t2 s x L H K) :
  ∃ r u H' E', K r L H' ∧ (Builtin.append_ #[t, t2] ty #[sv, xv]).run P E.w = .ok u E'.w ∧ Step E E' ∧ SimH E' H' ∧ SimL E' L ∧ V3 E' r u ∧ E'.mL = E.mL := by
 obtain ⟨e, he, h⟩ := oelim_inv h
 obtain ⟨z, hz, h⟩ := oelim_inv h
 have ht := elemT_spec he
 split at h
 case isFalse => exact h.elim
 case isTrue hc =>
 obtain ⟨hzl, hpos, hat⟩ := hc
 obtain ⟨xr, hxr, hok, h⟩ := rowsA_inv h
 obtain ⟨i, zv, hi, hzv, hz1, hz2⟩ := zero_rel (E := E.noL) hz
 obtain ⟨news, X⟩ := x_sound hH hx hzl hat hxr hok
 have hii : (P.info? e).isSome = true := by rw [hi]; rfl
 have hisz : i.size = z.length := by rw [hzl]; simp [Program.cellsOf, hi]
 have hib : i.bytes = P.bytesOf e := by simp [Program.bytesOf, hi]
 have hzvs : zv.cells.size = z.length := by rw [hz1]; simp
 -- the new block, where there is no room
 have out : ∀ (base : Option Addr) (rows : List (List AV)) (sCap : Nat) (olds : Array Value) (b g : Nat) (H' : List Blk), sv = .slice base rows.length sCap →
   (Builtin.firstCells z.length rows.length (.slice base rows.length sCap)).run P E.w.drew = .ok olds E.w.drew → olds.size = rows.length * z.length →
   (∀ row ∈ rows, row.length = z.length) → (∀ (i j : Nat) (row : List AV) (a : AV), rows[i]? = some row → row[j]? = some a → ∃ u, olds[i * z.length + j]? = some u ∧ V1 E.noL a u) →
   sCap < rows.length + xr.length → (rows.length + xr.length) * P.bytesOf e ≤ 140737488355328 → rows.length + xr.length ≤ 4611686018427387904 →
   H'[b]? = some ⟨g, z.length, rows ++ xr⟩ → (∀ b', b' ≠ b → H'[b']? = H[b']?) → (b < H.length → H'.length = H.length) → H.length ≤ H'.length → ((E.m b = none ∧ g = E.gen b) ∨ E.gen b < g) →
   K (.ref b g 0 (rows.length + xr.length) false) L H' → ∃ r u H' E', K r L H' ∧ (Builtin.append_ #[t, t2] ty #[sv, xv]).run P E.w = .ok u E'.w ∧ Step E E' ∧ SimH E' H' ∧ SimL E' L ∧ V3 E' r u ∧ E'.mL = E.mL := by
  intro base rows sCap olds b g H' hsv holds hos hrl horel hroom hby h62 hb' ho hlen hlen2 hgen hK
  subst hsv
  have hrun := run_app_out (ty := ty) X ht hi hisz hzv holds hroom (by omega) (growslice_fits (by omega) (by rw [hib]; exact hby))
  have hcapge := grownCap_ge E.w (rows.length + xr.length) sCap e
  let cap := grownCap E.w (rows.length + xr.length) sCap e
  let cs : Array Value := olds ++ news.toArray ++ Builtin.zeroCells zv.cells (cap - (rows.length + xr.length))
  have hcs : cs.size = cap * z.length := by
   show (olds ++ news.toArray ++ Builtin.zeroCells zv.cells (cap - (rows.length + xr.length))).size = _
   have e1 : (olds ++ news.toArray ++ Builtin.zeroCells zv.cells (cap - (rows.length + xr.length))).size = olds.size + news.length + (Builtin.zeroCells zv.cells (cap - (rows.length + xr.length))).size := by simp; omega
   rw [e1, size_zeroCells, hzvs, hos, X.len, ← Nat.add_mul, ← Nat.add_mul]
   congr 1
   have : rows.length + xr.length ≤ cap := hcapge
   omega
  have hrows : RowsAt E z.length (rows ++ xr) cs := by
   refine ⟨fun k row hr => ?_, fun k j row a hr hj => ?_⟩
   ·rcases Nat.lt_or_ge k rows.length with hlt | hge
    ·rw [List.getElem?_append_left hlt] at hr; exact hrl row (List.mem_of_getElem? hr)
    ·rw [List.getElem?_append_right hge] at hr; exact (hok row (List.mem_of_getElem? hr)).1
   ·rcases Nat.lt_or_ge k rows.length with hlt | hge
    ·rw [List.getElem?_append_left hlt] at hr
     obtain ⟨u, hu, hv⟩ := horel k j row a hr hj
     refine ⟨u, ?_, hv⟩
     have hkl := (Array.getElem?_eq_some_iff.1 hu).1
     show (olds ++ news.toArray ++ _)[k * z.length + j]? = _
     rw [Array.getElem?_append_left (by rw [Array.size_append]; omega), Array.getElem?_append_left hkl]; exact hu
    ·rw [List.getElem?_append_right hge] at hr
     obtain ⟨u, hu, hv, _⟩ := X.rel _ j row a hr hj
     refine ⟨u, ?_, hv⟩
     have hkl := (List.getElem?_eq_some_iff.1 hu).1
     have hk2 : k * z.length + j = olds.size + ((k - rows.length) * z.length + j) := by
      rw [hos, ← Nat.add_assoc, ← Nat.add_mul]; congr 2; omega
     show (olds ++ news.toArray ++ _)[k * z.length + j]? = _
     rw [hk2, Array.getElem?_append_left (by simp; omega), Array.getElem?_append_right (by omega), Nat.add_sub_cancel_left]
     simpa using hu
  obtain ⟨E', hw, hst, hsH, hsL, hg', hm', hs', hcp', _, hml⟩ := newH_sound (cap := cap) (blk := ⟨g, z.length, rows ++ xr⟩) hH hL (NewBlk.drewAlloc E.w (.cells cs e (0, 0))) hb' ho hlen hlen2 hgen hcs (by
   show (rows ++ xr).length ≤ cap
   rw [List.length_append]; exact hcapge) hrows
  refine ⟨_, _, _, E', hK, by rw [hw]; exact hrun, hst, hsH, hsL, .inr ⟨hg'.symm, .inr ⟨_, _, hm', ?_, hcapge, (fun h => by cases h), ?_⟩⟩, hml⟩
  ·rw [Nat.zero_mul]
  ·rw [hcp', Nat.zero_add]; exact Nat.le_refl _
 cases s with
 | lst rows full fr =>
  obtain ⟨hfull, hrl, hby, h62, hne, hK⟩ := h
  subst hfull
  have hs' : RV E.w E.PA E.PF (.lst rows true fr) sv := hs
  cases hs' with
  | @lst _ _ PB _ _ _ A cap sz vs hPB hcap hfull hsz hcell hrel =>
   have hcap' := hfull rfl
   subst hcap'
   by_cases hx0 : xr.length = 0
   ·have hxr0 : xr = [] := List.eq_nil_of_length_eq_zero hx0
    have hr0 : rows = [] := Classical.byContradiction fun hh => hne hh hxr0
    subst hr0; subst hxr0
    obtain ⟨E', hw, hst, hsH, hsL, hg', hm', _, hml⟩ := nilH_sound (blk := ⟨0, z.length, [] ++ []⟩) hH hL rfl rfl
    have hrun := run_app_none (ty := ty) X ht hii hzl.symm (base := A) (sLen := 0) (sCap := 0) rfl (Nat.le_refl _)
    exact ⟨_, _, _, E', hK, by rw [hw]; exact hrun, hst, hsH, hsL, .inr ⟨hg'.symm, .inl ⟨hm', rfl, rfl, A, rfl⟩⟩, hml⟩
   ·have hszr : 0 < rows.length → sz = z.length := fun hp => by
     rw [← hsz 0 _ (List.getElem?_eq_getElem hp)]; exact hrl _ (List.getElem_mem hp)
    let olds : List Value := (List.range (rows.length * z.length)).map fun k => vs (k / z.length) (k % z.length)
    have hol : olds.length = rows.length * z.length := by simp [olds]
    have hget : ∀ i j, i < rows.length → j < z.length → olds[i * z.length + j]? = some (vs i j) := by
     intro i j hi hj
     have hk : i * z.length + j < rows.length * z.length := by
      calc i * z.length + j < i * z.length + z.length := by omega
       _ = (i + 1) * z.length := by rw [Nat.add_mul, Nat.one_mul]
       _ ≤ rows.length * z.length := Nat.mul_le_mul_right _ (by omega)
     show ((List.range (rows.length * z.length)).map _)[i * z.length + j]? = _
     rw [List.getElem?_map, List.getElem?_range hk]
     have h1 : (i * z.length + j) / z.length = i := by
      rw [Nat.add_comm, Nat.add_mul_div_right _ _ (by omega), Nat.div_eq_of_lt hj]; omega
     have h2 : (i * z.length + j) % z.length = j := by
      rw [Nat.add_comm, Nat.add_mul_mod_self_right, Nat.mod_eq_of_lt hj]
     simp [h1, h2]
    refine out A rows rows.length olds.toArray H.length 0 _ rfl ?_ (by simp [hol]) hrl (fun i j row a h1 h2 => ?_) (by omega) hby h62 (by simp) (fun b' hb' => ?_) (fun hh => by omega) (by simp) (.inl ⟨(hH.fresh _ (Nat.le_refl _)).1, (hH.fresh _ (Nat.le_refl _)).2.symm⟩) hK
    ·by_cases hr0 : rows.length = 0
     ·have h0 : olds = [] := List.eq_nil_of_length_eq_zero (by rw [hol, hr0, Nat.zero_mul])
      rw [h0, hr0]
      cases A with
      | none => exact run_firstCells_none _ _ _ _ _
      | some ad => exact run_firstCells_some (P := P) _ z.length 0 ad 0 0 [] (by simp) (fun j v h => by simp at h)
     ·obtain ⟨c, o, rfl, hc, hall⟩ := hcell (by omega)
      refine run_firstCells_some (P := P) E.w.drew z.length rows.length ⟨c, o, none⟩ rows.length rows.length olds hol (fun k v hk => ?_)
      have hkl : k < rows.length * z.length := by rw [← hol]; exact (List.getElem?_eq_some_iff.1 hk).1
      have hi : k / z.length < rows.length := (Nat.div_lt_iff_lt_mul hpos).2 hkl
      have hj : k % z.length < z.length := Nat.mod_lt _ hpos
      have hss := hszr (by omega)
      have h1 := hall (k / z.length) (k % z.length) hi (by rw [hss]; exact hj)
      have h2 := hget (k / z.length) (k % z.length) hi hj
      rw [Nat.div_add_mod' k z.length] at h2
      rw [hk] at h2
      cases h2
      rw [hss, Nat.div_add_mod' k z.length] at h1
      rw [addr_add]
      exact h1
    ·have hi := (List.getElem?_eq_some_iff.1 h1).1
     have hj : j < z.length := by rw [← hrl row (List.mem_of_getElem? h1)]; exact (List.getElem?_eq_some_iff.1 h2).1
     refine ⟨vs i j, by simpa using hget i j hi hj, RV.v1 (E := E.noL) ((hrel i j row a h1 h2).mono (fun _ _ => rfl) (fun _ h => h.elim) (fun c hc => by have := hPB c hc; split at this; exact hH.pfpa c this; exact this) (fun _ h => h.elim))⟩
    ·rcases Nat.lt_or_ge b' H.length with hlt | hge
     ·rw [List.getElem?_append_left hlt]
     ·rw [List.getElem?_eq_none hge, List.getElem?_eq_none (by simp; omega)]
 | ref b g off n full =>
  replace h : off = 0 ∧ oelim H[b]? fun blk => blk.gen = g ∧ blk.sz = z.length ∧ blk.rows.length = n ∧ (n + xr.length) * P.bytesOf e ≤ 140737488355328 ∧ n + xr.length ≤ 4611686018427387904 ∧
    K (.ref b (g + 1) 0 (n + xr.length) false) L (H.set b ⟨g + 1, z.length, blk.rows ++ xr⟩) := h
  obtain ⟨ho0, hq⟩ := h
  obtain ⟨blk, hb, hg, hbs, hbl, hby, h62, hK⟩ := oelim_inv hq
  clear hq
  subst ho0
  have hgen := hH.gens b blk hb
  have hblt : b < H.length := (List.getElem?_eq_some_iff.1 hb).1
  subst hbl
  rcases (show V0 E (.ref b g 0 blk.rows.length full) sv from hs) with ⟨hh, _⟩ | ⟨hge, hh⟩
  ·omega
  ·rcases hh with ⟨hm, _, hn0, A, rfl⟩ | ⟨c, cap, hm, rfl, hmc, hfl, hcp⟩
   ·-- nothing there yet
    by_cases hx0 : xr.length = 0
    ·have hxr0 : xr = [] := List.eq_nil_of_length_eq_zero hx0
     subst hxr0
     obtain ⟨E', hw, hst, hsH, hsL, hg', hm', hsz', hcp', hml⟩ := regen_sound (w' := E.w) (x := none) (blk' := ⟨g + 1, z.length, blk.rows ++ []⟩) hH hL hm hb (by show g + 1 = _; rw [hg]) hbs.symm rfl rfl rfl rfl (fun _ _ => rfl) (fun c hc => by cases hc)
     have hrun := run_app_none (ty := ty) X ht hii hzl.symm (base := A) (sLen := 0) (sCap := 0) rfl (Nat.le_refl _)
     refine ⟨_, _, _, E', hK, by rw [hw]; exact hrun, hst, hsH, hsL, .inr ⟨hg'.symm, .inl ⟨by rw [hm']; exact hm, rfl, by simp [hn0], A, rfl⟩⟩, hml⟩
    ·have hr0 : blk.rows = [] := List.eq_nil_of_length_eq_zero hn0
     refine out A blk.rows 0 #[] b (g + 1) _ (by rw [hr0]; rfl) ?_ (by rw [hr0]; simp) (fun row hr => by rw [hr0] at hr; cases hr) (fun i j row a h1 h2 => by rw [hr0] at h1; simp at h1) (by omega) hby h62 (by rw [List.getElem?_set_self hblt]) (fun b' hb' => List.getElem?_set_ne (fun h => hb' h.symm)) (fun _ => by simp) (by simp) (.inr (by omega)) hK
     rw [hr0]
     cases A with
     | none => exact run_firstCells_none _ _ _ _ _
     | some ad => exact run_firstCells_some (P := P) _ z.length 0 ad 0 0 [] (by simp) (fun j v h => by simp at h)
   ·obtain ⟨blk', cs, ty', q1, q0, hw, hcs, hcl, hrows⟩ := hH.heap b c hm
    obtain rfl : blk = blk' := by rw [hb] at q1; exact Option.some.inj q1
    have hsz : E.sz b = z.length := by rw [q0, hbs]
    by_cases hroom : blk.rows.length + xr.length ≤ cap
    ·-- there is room
     have hcsz : cs.size = E.cp b * z.length := by rw [hcs, hsz]
     have hle : (blk.rows.length + xr.length) * z.length ≤ cs.size := by rw [hcsz]; exact Nat.mul_le_mul_right _ (by omega)
     have hle' : blk.rows.length * z.length + news.length ≤ cs.size := by rw [X.len, ← Nat.add_mul]; exact hle
     have hrun := run_app_in (ty := ty) (o := 0) X ht hii hzl.symm hw hroom (by rw [Nat.zero_add]; exact hle')
     rw [Nat.zero_add] at hrun
     let cs' : Array Value := (cs.toList.take (blk.rows.length * z.length) ++ news ++ cs.toList.drop (blk.rows.length * z.length + news.length)).toArray
     have hcs' : ∀ k, cs'[k]? = if k < blk.rows.length * z.length then cs.toList[k]? else if k < blk.rows.length * z.length + news.length then news[k - blk.rows.length * z.length]? else cs.toList[k]? := by
      intro k
      show (List.toArray _)[k]? = _
      rw [List.getElem?_toArray, splice_get (by simpa using hle')]
     obtain ⟨E', hw', hst, hsH, hsL, hg', hm', hsz', hcp', hml⟩ := regen_sound (w' := E.w.setRow c cs') (x := some c) (blk' := ⟨g + 1, z.length, blk.rows ++ xr⟩) hH hL hm hb (by show g + 1 = _; rw [hg]) hbs.symm rfl rfl rfl (by simp)
      (fun c' hc' => setRow_other _ _ _ _ (fun e => hc' (by rw [e]))) (fun c' hc' => by
       cases hc'
       refine ⟨cs', ty', setRow_heap _ _ _ _ _ _ hw, ?_, by show (blk.rows ++ xr).length ≤ _; rw [List.length_append]; omega, fun k row hr => ?_, fun k j row a hr hj => ?_⟩
       ·rw [← hcs]
        show (List.toArray _).size = _
        simp; omega
       ·have hr : (blk.rows ++ xr)[k]? = some row := hr
        rcases Nat.lt_or_ge k blk.rows.length with hlt | hge'
        ·rw [List.getElem?_append_left hlt] at hr; exact hrows.1 k row hr
        ·rw [List.getElem?_append_right hge'] at hr; rw [hsz]; exact (hok row (List.mem_of_getElem? hr)).1
       ·have hr : (blk.rows ++ xr)[k]? = some row := hr
        rcases Nat.lt_or_ge k blk.rows.length with hlt | hge'
        ·rw [List.getElem?_append_left hlt] at hr
         obtain ⟨u, hu, hv⟩ := hrows.2 k j row a hr hj
         refine ⟨u, ?_, hv⟩
         have hjl : j < z.length := by rw [← hsz, ← hrows.1 k row hr]; exact (List.getElem?_eq_some_iff.1 hj).1
         have : k * z.length + j < blk.rows.length * z.length := by
          calc k * z.length + j < k * z.length + z.length := by omega
           _ = (k + 1) * z.length := by rw [Nat.add_mul, Nat.one_mul]
           _ ≤ blk.rows.length * z.length := Nat.mul_le_mul_right _ (by omega)
         rw [hsz] at hu ⊢
         rw [hcs', if_pos this]; simpa using hu
        ·rw [List.getElem?_append_right hge'] at hr
         obtain ⟨u, hu, hv, _⟩ := X.rel _ j row a hr hj
         refine ⟨u, ?_, hv⟩
         have hkl := (List.getElem?_eq_some_iff.1 hu).1
         have hk2 : k * z.length + j = blk.rows.length * z.length + ((k - blk.rows.length) * z.length + j) := by
          rw [← Nat.add_assoc, ← Nat.add_mul]; congr 2; omega
         rw [hsz, hcs', hk2, if_neg (by omega), if_pos (by omega), Nat.add_sub_cancel_left]; exact hu)
     refine ⟨_, _, _, E', hK, by rw [hw']; rw [Nat.zero_mul]; exact hrun, hst, hsH, hsL, .inr ⟨hg'.symm, .inr ⟨c, cap, by rw [hm']; exact hm, by simp, hroom, (fun h => by cases h), by rw [hcp']; omega⟩⟩, hml⟩
    ·-- there is none
     refine out (some ⟨c, 0, none⟩) blk.rows cap (cs.toList.take (blk.rows.length * z.length)).toArray b (g + 1) _ (by rw [Nat.zero_mul]) ?_ ?_ (fun row hr => ?_) (fun i j row a h1 h2 => ?_) (by omega) hby h62 (by rw [List.getElem?_set_self hblt]) (fun b' hb' => List.getElem?_set_ne (fun h => hb' h.symm)) (fun _ => by simp) (by simp) (.inr (by omega)) hK
     ·refine run_firstCells_some (P := P) E.w.drew z.length blk.rows.length ⟨c, 0, none⟩ blk.rows.length cap _ ?_ (fun k v hk => ?_)
      ·have : blk.rows.length * z.length ≤ cs.size := by rw [hcs, hsz]; exact Nat.mul_le_mul_right _ hcl
       simp; omega
      ·rw [List.getElem?_take] at hk
       split at hk
       ·rw [addr_add, Nat.zero_add]
        exact cell_of (w := E.w) hw (by simpa using hk)
       ·cases hk
     ·have : blk.rows.length * z.length ≤ cs.size := by rw [hcs, hsz]; exact Nat.mul_le_mul_right _ hcl
      simp; omega
     ·obtain ⟨k, hk⟩ := List.mem_iff_getElem?.1 hr
      rw [← hsz]; exact hrows.1 k row hk
     ·obtain ⟨u, hu, hv⟩ := hrows.2 i j row a h1 h2
      refine ⟨u, ?_, hv⟩
      have hi := (List.getElem?_eq_some_iff.1 h1).1
      have hj : j < z.length := by rw [← hsz, ← hrows.1 i row h1]; exact (List.getElem?_eq_some_iff.1 h2).1
      have : i * z.length + j < blk.rows.length * z.length := by
       calc i * z.length + j < i * z.length + z.length := by omega
        _ = (i + 1) * z.length := by rw [Nat.add_mul, Nat.one_mul]
        _ ≤ blk.rows.length * z.length := Nat.mul_le_mul_right _ (by omega)
      rw [List.getElem?_toArray, List.getElem?_take, if_pos this, Array.getElem?_toList, ← hsz]
      exact hu
 | _ => exact h.elim
end Go.Proofs.Ytglpfccgmfhkdaa.Fw
/- The framework, part N: variables and blocks that come to be; slices that are made; a call that answers with blocks of its own; a call that writes. -/

set_option linter.unusedVariables false
namespace Go.Proofs.Ytglpfccgmfhkdaa.Fw
open Go
def ENext (E : Env) (o : Oper) (a : Act) (K : AV → List (Nat × List AV) → List Blk → Prop) : Act → World → Prop := fun a' w' =>
 ∃ v u L' H' E', K v L' H' ∧ E'.w = w' ∧ Step E E' ∧ SimH E' H' ∧ SimL E' L' ∧ V3 E' v u ∧ a' = a.put o.dst u ∧ ∀ t, o.dst ≠ some t → E'.mL t = E.mL t
def boxOf : List Nat → Nat → Option Nat
 | [], _ => none
 | x :: r, t => match Nat.ble 2000000 x with
  | true => (match Nat.beq ((x - 2000000) % 1000) t with
   | true => some ((x - 2000000) / 1000)
   | false => boxOf r t)
  | false => boxOf r t
def newA (esc : List Nat) (dst : Option Nat) (cells : List AV) (L : List (Nat × List AV)) (H : List Blk) (K : AV → List (Nat × List AV) → List Blk → Prop) : Prop :=
 if cells.all sto1 = true then match dst with
  | none => False
  | some t => match boxOf esc t with
   | some j => oelim H[j]? fun blk => K (.ptr j (blk.gen + 1) 0 0) L (H.set j ⟨blk.gen + 1, cells.length, [cells]⟩)
   | none => if esc.contains t = true then K (.ptr H.length 0 0 0) L (H ++ [⟨0, cells.length, [cells]⟩]) else
    match getL L t with
    | none => K (.lptr t 0) ((t, cells) :: L) H
    | some _ => False
 else False
theorem SimL.none {E : Env} {L : List (Nat × List AV)} (h : SimL E L) {t : Nat} (hn : getL L t = none) : E.mL t = none := by
 cases hm : E.mL t with
 | none => rfl
 | some c =>
  obtain ⟨cells, cs, ty, h1, _⟩ := h t c hm
  rw [hn] at h1; cases h1
theorem sto1_noL' {E : Env} {cells : List AV} {vs : List Value} (hs : cells.all sto1 = true) (h : PW (V1 E) cells vs) : PW (V1 E.noL) cells vs :=
 ⟨h.1, fun i a v ha hv => sto1_noL (List.all_eq_true.1 hs a (List.mem_of_getElem? ha)) (h.2 i a v ha hv)⟩
theorem new_sound {E : Env} {H : List Blk} {L : List (Nat × List AV)} {esc : List Nat} {dst : Option Nat} {cells : List AV} {cs : Array Value} {ty : TypeId} {K : AV → List (Nat × List AV) → List Blk → Prop}
  (hH : SimH E H) (hL : SimL E L) (hc : PW (V1 E) cells cs.toList) (h : newA esc dst cells L H K) :
  ∃ v L' H' E', K v L' H' ∧ E'.w = E.w.alloc (.cells cs ty (0, 0)) ∧ Step E E' ∧ SimH E' H' ∧ SimL E' L' ∧ V3 E' v (.pointer (some ⟨E.w.heap.size, 0, none⟩)) ∧ ∀ s, dst ≠ some s → E'.mL s = E.mL s := by
 unfold newA at h
 split at h
 case isFalse => exact h.elim
 case isTrue hs =>
 have hc' := sto1_noL' hs hc
 cases dst with
 | none => exact h.elim
 | some t =>
  have h : match boxOf esc t with
   | some j => oelim H[j]? fun blk => K (.ptr j (blk.gen + 1) 0 0) L (H.set j ⟨blk.gen + 1, cells.length, [cells]⟩)
   | none => if esc.contains t = true then K (.ptr H.length 0 0 0) L (H ++ [⟨0, cells.length, [cells]⟩]) else (match getL L t with
    | none => K (.lptr t 0) ((t, cells) :: L) H
    | some _ => False) := h
  split at h
  ·rename_i j hbx
   obtain ⟨blk, hbj, hK⟩ := oelim_inv h
   have hjl := (List.getElem?_eq_some_iff.1 hbj).1
   have hgj := hH.gens j blk hbj
   have hlen : cs.size = cells.length := by have := hc.1; simp at this; exact this.symm
   obtain ⟨E', e1, e2, e3, e4, e5, e6, e7, e8, _, hml⟩ := newH_sound (H := H) (H' := H.set j ⟨blk.gen + 1, cells.length, [cells]⟩) (b := j) (cap := 1) (blk := ⟨blk.gen + 1, cells.length, [cells]⟩) hH hL (NewBlk.alloc E.w (.cells cs ty (0, 0)))
    (by rw [List.getElem?_set]; simp [hjl]) (fun b' hb' => by rw [List.getElem?_set, if_neg (fun e => hb' e.symm)]) (fun _ => by simp) (by simp) (.inr (by show E.gen j < blk.gen + 1; omega)) (by simp [hlen]) (by simp)
    ⟨fun i row hr => by
      cases i with
      | zero => simp at hr; subst hr; rfl
      | succ i => simp at hr,
     fun i j row a hr hj => by
      cases i with
      | zero =>
       simp at hr; subst hr
       obtain ⟨u, hu, hv⟩ := hc'.get hj
       exact ⟨u, by simpa using hu, hv⟩
      | succ i => simp at hr⟩
   refine ⟨_, _, _, E', hK, e1, e2, e3, e4, .inr ⟨e5.symm, E.w.heap.size, e6, ?_⟩, fun s _ => by rw [hml]⟩
   rw [Nat.zero_mul]
  split at h
  ·have hlen : cs.size = cells.length := by have := hc.1; simp at this; exact this.symm
   have hHx : SimH E (H ++ [⟨0, cells.length, [cells]⟩]) := hH.snoc rfl
   obtain ⟨hm0, hg0⟩ := hH.fresh H.length (Nat.le_refl _)
   obtain ⟨E', e1, e2, e3, e4, e5, e6, e7, e8, _, hml⟩ := newH_sound (H := H ++ [⟨0, cells.length, [cells]⟩]) (H' := H ++ [⟨0, cells.length, [cells]⟩]) (b := H.length) (cap := 1) (blk := ⟨0, cells.length, [cells]⟩) hHx hL (NewBlk.alloc E.w (.cells cs ty (0, 0)))
    (by simp) (fun _ _ => rfl) (fun _ => rfl) (Nat.le_refl _) (.inl ⟨hm0, hg0.symm⟩) (by simp [hlen]) (by simp)
    ⟨fun i row hr => by
      cases i with
      | zero => simp at hr; subst hr; rfl
      | succ i => simp at hr,
     fun i j row a hr hj => by
      cases i with
      | zero =>
       simp at hr; subst hr
       obtain ⟨u, hu, hv⟩ := hc'.get hj
       exact ⟨u, by simpa using hu, hv⟩
      | succ i => simp at hr⟩
   refine ⟨_, _, _, E', h, e1, e2, e3, e4, .inr ⟨e5.symm, E.w.heap.size, e6, ?_⟩, fun s _ => by rw [hml]⟩
   rw [Nat.zero_mul]
  ·cases hg : getL L t with
   | some x => rw [hg] at h; exact h.elim
   | none =>
    rw [hg] at h
    have hm := hL.none hg
    obtain ⟨E', e1, e2, e3, e4, e5, _, hml⟩ := newL_sound (L := (t, cells) :: L) (t := t) (cells := cells) hH (hL.cons hm) (NewBlk.alloc E.w (.cells cs ty (0, 0))) (by simp [getL]) hm hc'
    exact ⟨_, _, _, E', h, e1, e2, e3, e4, e5, fun s hs => hml s fun e => hs (by rw [e])⟩
def unfl : AV → AV
 | .lst rows _ fr => .lst rows false fr
 | a => a
theorem V1.unfl {E : Env} {a : AV} {v : Value} (h : V1 E a v) : V1 E (unfl a) v := by
 cases a with
 | lst rows full fr =>
  have h : RV E.w E.PA E.PF (.lst rows full fr) v := h
  cases h with
  | lst hPB hcap hfull hsz hcell hrel => exact RV.lst hPB hcap (fun h => by cases h) hsz hcell hrel
 | _ => exact h
theorem PW.unfl {E : Env} {l : List AV} {m : List Value} (h : PW (V1 E) l m) : PW (V1 E) (l.map unfl) m := by
 refine ⟨by rw [List.length_map]; exact h.1, fun i a v ha hv => ?_⟩
 rw [List.getElem?_map] at ha
 cases hl : l[i]? with
 | none => rw [hl] at ha; cases ha
 | some b => rw [hl] at ha; cases ha; exact (h.2 i b v hl hv).unfl
def mksA (P : Program) (t : TypeId) (l c : AV) (L : List (Nat × List AV)) (H : List Blk) (K : AV → List (Nat × List AV) → List Blk → Prop) : Prop :=
 oelim (elemT P t) fun e => oelim (zeroA P e) fun z => if z.length = P.cellsOf e ∧ z.all sto1 = true then match l, c with
  | .int _ l, .int _ c => 0 ≤ l ∧ l ≤ c ∧ (P.bytesOf e : Int) * c ≤ 140737488355328 ∧ c ≤ 4611686018427387904 ∧ K (.ref H.length 0 0 l.toNat false) L (H ++ [⟨0, z.length, List.replicate l.toNat (z.map unfl)⟩])
  | _, _ => False
 else False
theorem madeCells_get (z : Array Value) (n k : Nat) (hk : k < n) : (madeCells z n)[k]? = some (z[k % z.size]!) := by
 simp [madeCells, hk]
theorem mks_sound {P : Program} {E : Env} {H : List Blk} {L : List (Nat × List AV)} {t : TypeId} {l c : AV} {lv cv' : Value} {K : AV → List (Nat × List AV) → List Blk → Prop}
  (hH : SimH E H) (hL : SimL E L) (hl : V3 E l lv) (hc : V3 E c cv') (h : mksA P t l c L H K) :
  ∃ v L' H' E' u, K v L' H' ∧ (Instr.makeSlice t lv cv').run P E.w = .ok u E'.w ∧ Step E E' ∧ SimH E' H' ∧ SimL E' L' ∧ V3 E' v u ∧ E'.mL = E.mL := by
 obtain ⟨e, he, h⟩ := oelim_inv h
 obtain ⟨z, hz, h⟩ := oelim_inv h
 split at h
 case isFalse => exact h.elim
 case isTrue hb =>
 obtain ⟨hzl, hzs⟩ := hb
 cases l with
 | int kl l =>
  cases c with
  | int kc c =>
   obtain ⟨h0, h1, h2, h3, hK⟩ := (show 0 ≤ l ∧ l ≤ c ∧ (P.bytesOf e : Int) * c ≤ 140737488355328 ∧ c ≤ 4611686018427387904 ∧ K (.ref H.length 0 0 l.toNat false) L (H ++ [⟨0, z.length, List.replicate l.toNat (z.map unfl)⟩]) from h)
   obtain rfl := hl.int_inv
   obtain rfl := hc.int_inv
   obtain ⟨i, v, q1, q2, q3, q4⟩ := zero_rel (E := E) hz
   have hq := (sto1_noL' hzs q4).unfl
   have hzv : v.cells.size = z.length := by rw [q3]; simp
   have hisz : i.size = z.length := by rw [hzl]; simp [Program.cellsOf, q1]
   have hby : P.bytesOf e = i.bytes := by simp [Program.bytesOf, q1]
   have hu := elemT_spec he
   have hrun := run_make (P := P) E.w t e i v hu q1 q2 kl kc l c h0 h1 (by rw [hby] at h2; omega) (by omega)
   have hHx : SimH E (H ++ [⟨0, z.length, List.replicate l.toNat (z.map unfl)⟩]) := hH.snoc rfl
   obtain ⟨hm0, hg0⟩ := hH.fresh H.length (Nat.le_refl _)
   have hlc : l.toNat ≤ c.toNat := by omega
   obtain ⟨E', e1, e2, e3, e4, e5, e6, e7, e8, _, hml⟩ := newH_sound (H := H ++ [⟨0, z.length, List.replicate l.toNat (z.map unfl)⟩]) (H' := H ++ [⟨0, z.length, List.replicate l.toNat (z.map unfl)⟩]) (b := H.length) (cap := c.toNat) (blk := ⟨0, z.length, List.replicate l.toNat (z.map unfl)⟩) hHx hL (NewBlk.alloc E.w (.cells (madeCells v.cells (c.toNat * i.size)) e (0, 0)))
    (by simp) (fun _ _ => rfl) (fun _ => rfl) (Nat.le_refl _) (.inl ⟨hm0, hg0.symm⟩) (by rw [size_madeCells, hisz]) (by simpa using hlc)
    ⟨fun i' row hr => by
      have hr : (List.replicate l.toNat (z.map unfl))[i']? = some row := hr
      rw [List.getElem?_replicate] at hr
      split at hr
      ·cases hr; exact List.length_map ..
      ·exact absurd hr (fun h => by cases h),
     fun i' j row a hr hj => by
      have hr : (List.replicate l.toNat (z.map unfl))[i']? = some row := hr
      rw [List.getElem?_replicate] at hr
      split at hr
      ·rename_i hi
       cases hr
       have hj2 := (List.getElem?_eq_some_iff.1 hj).1
       rw [List.length_map] at hj2
       obtain ⟨u, hu, hv⟩ := hq.get hj
       refine ⟨u, ?_, hv⟩
       have hlt : i' * z.length + j < c.toNat * z.length := by
        calc i' * z.length + j < i' * z.length + z.length := by omega
         _ = (i' + 1) * z.length := by rw [Nat.add_mul, Nat.one_mul]
         _ ≤ c.toNat * z.length := Nat.mul_le_mul_right _ (by omega)
       show (madeCells v.cells (c.toNat * i.size))[i' * z.length + j]? = _
       rw [hisz, madeCells_get _ _ _ hlt, hzv, show (i' * z.length + j) % z.length = j by rw [Nat.mul_comm, Nat.mul_add_mod, Nat.mod_eq_of_lt hj2], ← hu, Array.getElem?_toList, getElem!_pos v.cells j (by omega), Array.getElem?_eq_getElem]
      ·exact absurd hr (fun h => by cases h)⟩
   refine ⟨_, _, _, E', _, hK, by rw [hrun, e1], e2, e3, e4, .inr ⟨e5.symm, .inr ⟨E.w.heap.size, c.toNat, e6, by rw [Nat.zero_mul], hlc, (fun h => by cases h), by rw [e8]; omega⟩⟩, hml⟩
  | _ => exact h.elim
 | _ => exact h.elim
def scrOf : List Nat → Option Nat
 | [] => none
 | x :: r => match Nat.ble 1000000 x with
  | true => some (x - 1000000)
  | false => scrOf r
def litB (scr : Option Nat) (fl : Bool) (n sz : Nat) (rows : List (List AV)) (L : List (Nat × List AV)) (H : List Blk) (K : AV → List (Nat × List AV) → List Blk → Prop) : Prop := match scr with
 | none => K (.ref H.length 0 0 n fl) L (H ++ [⟨0, sz, rows⟩])
 | some j => oelim H[j]? fun blk => K (.ref j (blk.gen + 1) 0 n true) L (H.set j ⟨blk.gen + 1, sz, rows⟩)
def frc (esc : List Nat) (dst : Option Nat) : Bool := match dst with
 | none => false
 | some d => esc.any fun x => Nat.beq x (500000 + d)
def bslH (P : Program) (fr : Bool) (scr : Option Nat) (t : TypeId) (n : Nat) (parts : List (Nat × AV)) (L : List (Nat × List AV)) (H : List Blk) (K : AV → List (Nat × List AV) → List Blk → Prop) : Prop :=
 oelim (elemT P t) fun e => oelim (zeroA P e) fun z => if z.length = P.cellsOf e ∧ n * z.length ≤ 1000000 ∧ n ≤ 1000000 then
  oelim (fillA (fun i => some (i * z.length, z.length)) ((List.range (n * z.length)).map fun i => z.getD (i % z.length) .undef) parts) fun cells =>
   if (bif fr then false else cells.all byv0) = true then K (.lst (chunk z.length n (cells.map unfr)) true (cells.all frs)) L H else
   if cells.all sto1 = true then litB scr (!fr) n z.length (chunk z.length n cells) L H K else False
 else False
theorem chunk_len {size n i : Nat} {cells row : List AV} (hl : cells.length = n * size) (hr : (chunk size n cells)[i]? = some row) : row.length = size := by
 unfold chunk at hr
 rw [List.getElem?_map] at hr
 cases hq : (List.range n)[i]? with
 | none => rw [hq] at hr; cases hr
 | some k =>
  have hk := (List.getElem?_eq_some_iff.1 hq).1
  have hi : k = i := by have := (List.getElem?_eq_some_iff.1 hq).2; simpa using this.symm
  rw [hq] at hr; cases hr
  simp only [List.length_take, List.length_drop]
  have hin : i < n := by simpa using hk
  rw [hl, hi]
  have : (i + 1) * size ≤ n * size := Nat.mul_le_mul_right _ hin
  rw [Nat.add_mul, Nat.one_mul] at this
  omega
theorem bslH_sound {P : Program} {fr : Bool} {scr : Option Nat} {E : Env} {H : List Blk} {L : List (Nat × List AV)} {t : TypeId} {n : Nat} {parts : List (Nat × AV)} {vparts : List (Nat × Value)} {K : AV → List (Nat × List AV) → List Blk → Prop} (hH : SimH E H) (hL : SimL E L)
  (hp : PW (fun a b => a.1 = b.1 ∧ V2 E a.2 b.2) parts vparts) (h : bslH P fr scr t n parts L H K) :
  ∃ v u L' H' E', K v L' H' ∧ (Instr.buildSlice t n vparts.toArray).run P E.w = .ok u E'.w ∧ Step E E' ∧ SimH E' H' ∧ SimL E' L' ∧ V3 E' v u ∧ E'.mL = E.mL := by
 obtain ⟨e, he, h⟩ := oelim_inv h
 obtain ⟨z, hz, h⟩ := oelim_inv h
 split at h
 case isFalse => exact h.elim
 case isTrue hb =>
 obtain ⟨cells, hf, h⟩ := oelim_inv h
 split at h
 case isTrue hby =>
  have hby : cells.all byv0 = true := by cases fr with
   | true => cases hby
   | false => exact hby
  have hv : bslA P t n parts (fun r => K r L H) := by
   refine oelim_mk he (oelim_mk hz ?_)
   rw [if_pos hb]
   refine oelim_mk hf ?_
   rw [if_pos hby]; exact h
  obtain ⟨r, u, E', hK, hr, hq, h3⟩ := bsl_sound hH hp hv
  exact ⟨r, u, L, H, E', hK, hr, hq.step, hq.simH hH, hq.simL hH hL, h3, hq.mL⟩
 case isFalse =>
 split at h
 case isFalse => exact h.elim
 case isTrue hs =>
 obtain ⟨rc, hrel, hrun, hlen⟩ := bsl_run hp he hz hb.1 hb.2 hf
 have hcl : (chunk z.length n cells).length = n := by simp [chunk]
 have hrs : rc.size = n * z.length := by have := hrel.1; simp at this; omega
 have hra : RowsAt E z.length (chunk z.length n cells) rc := ⟨fun i row hr => chunk_len hlen hr, fun i j row a hr hj => by
   obtain ⟨hi, hj2, hc⟩ := chunk_get hr hj
   obtain ⟨u, hu, hv⟩ := hrel.get hc
   exact ⟨u, by rw [Array.getElem?_toList] at hu; exact hu, hv⟩⟩
 cases scr with
 | none =>
  have hHx : SimH E (H ++ [⟨0, z.length, chunk z.length n cells⟩]) := hH.snoc rfl
  obtain ⟨hm0, hg0⟩ := hH.fresh H.length (Nat.le_refl _)
  obtain ⟨E', e1, e2, e3, e4, e5, e6, e7, e8, _, hml⟩ := newH_sound (H := H ++ [⟨0, z.length, chunk z.length n cells⟩]) (H' := H ++ [⟨0, z.length, chunk z.length n cells⟩]) (b := H.length) (cap := n) (blk := ⟨0, z.length, chunk z.length n cells⟩) hHx hL (NewBlk.alloc E.w (.cells rc e (0, 0)))
   (by simp) (fun _ _ => rfl) (fun _ => rfl) (Nat.le_refl _) (.inl ⟨hm0, hg0.symm⟩) hrs (by rw [hcl]; exact Nat.le_refl _) hra
  exact ⟨_, _, _, _, E', h, by rw [hrun, e1], e2, e3, e4, .inr ⟨e5.symm, .inr ⟨E.w.heap.size, n, e6, by rw [Nat.zero_mul], Nat.le_refl _, (fun _ => rfl), by rw [e8]; omega⟩⟩, hml⟩
 | some j =>
  obtain ⟨blk, hbj, hK⟩ := oelim_inv (show oelim H[j]? fun blk => K (.ref j (blk.gen + 1) 0 n true) L (H.set j ⟨blk.gen + 1, z.length, chunk z.length n cells⟩) from h)
  have hjl := (List.getElem?_eq_some_iff.1 hbj).1
  have hgj := hH.gens j blk hbj
  obtain ⟨E', e1, e2, e3, e4, e5, e6, e7, e8, _, hml⟩ := newH_sound (H := H) (H' := H.set j ⟨blk.gen + 1, z.length, chunk z.length n cells⟩) (b := j) (cap := n) (blk := ⟨blk.gen + 1, z.length, chunk z.length n cells⟩) hH hL (NewBlk.alloc E.w (.cells rc e (0, 0)))
   (by rw [List.getElem?_set]; simp [hjl]) (fun b' hb' => by rw [List.getElem?_set, if_neg (fun e => hb' e.symm)]) (fun _ => by simp) (by simp) (.inr (by show E.gen j < blk.gen + 1; omega)) hrs (by rw [hcl]; exact Nat.le_refl _) hra
  exact ⟨_, _, _, _, E', hK, by rw [hrun, e1], e2, e3, e4, .inr ⟨e5.symm, .inr ⟨E.w.heap.size, n, e6, by rw [Nat.zero_mul], Nat.le_refl _, (fun _ => rfl), by rw [e8]; omega⟩⟩, hml⟩
end Go.Proofs.Ytglpfccgmfhkdaa.Fw
/- The framework, part O: a call that answers with blocks of its own; a call that writes. -/

set_option linter.unusedVariables false
namespace Go.Proofs.Ytglpfccgmfhkdaa.Fw
open Go
def ownv0 : AV → Bool
 | .lst _ _ fr => fr
 | .lptr _ _ | .rp _ _ | .agg _ | .tup _ | .fn _ _ => false
 | _ => true
def shift0 (k : Nat) : AV → AV
 | .ref b g o n f => .ref (k + b) g o n f
 | .ptr b g r c => .ptr (k + b) g r c
 | a => a
def ownv2 : AV → Bool
 | .agg l => l.all ownv0
 | a => ownv0 a
def shift2 (k : Nat) : AV → AV
 | .agg l => .agg (l.map (shift0 k))
 | a => shift0 k a
def ownv3 : AV → Bool
 | .tup l => l.all ownv2
 | a => ownv2 a
def shift3 (k : Nat) : AV → AV
 | .tup l => .tup (l.map (shift2 k))
 | a => shift2 k a
def shiftB (k : Nat) (b : Blk) : Blk := ⟨b.gen, b.sz, b.rows.map fun row => row.map (shift0 k)⟩
def ownH (H : List Blk) : Bool := H.all fun b => b.rows.all fun row => row.all ownv0
def Env.join (E E1 : Env) (n : Nat) : Env :=
 {w := E1.w, PA := fun c => E.PA c ∨ E1.PF c, PF := fun c => E.PF c ∨ E1.PF c
  m := fun b => if b < n then E.m b else E1.m (b - n), gen := fun b => if b < n then E.gen b else E1.gen (b - n)
  sz := fun b => if b < n then E.sz b else E1.sz (b - n), cp := fun b => if b < n then E.cp b else E1.cp (b - n), mL := E.mL }
section
variable {E E1 : Env} {n : Nat}
theorem join_old {b : Nat} (h : b < n) : (E.join E1 n).m b = E.m b ∧ (E.join E1 n).gen b = E.gen b ∧ (E.join E1 n).sz b = E.sz b ∧ (E.join E1 n).cp b = E.cp b := ⟨if_pos h, if_pos h, if_pos h, if_pos h⟩
theorem join_new (b : Nat) : (E.join E1 n).m (n + b) = E1.m b ∧ (E.join E1 n).gen (n + b) = E1.gen b ∧ (E.join E1 n).sz (n + b) = E1.sz b ∧ (E.join E1 n).cp (n + b) = E1.cp b := by
 have h : ¬ n + b < n := by omega
 have e : n + b - n = b := by omega
 refine ⟨?_, ?_, ?_, ?_⟩ <;> (unfold Env.join; simp only [if_neg h, e])
theorem join_rel0 {E' : Env} (hE : E' = E.join E1 n) {a : AV} {v : Value} (ho : ownv0 a = true) (hv : V1 E1 a v) : V1 E' (shift0 n a) v := by
 have hrv : ∀ {a : AV} {v : Value}, ownv0 a = true → RV E1.w E1.PA E1.PF a v → RV E'.w E'.PA E'.PF a v := by
  intro a v ho h
  subst hE
  cases h with
  | undef => exact .undef _
  | int => exact .int _ _
  | bool => exact .bool _
  | str => exact .str _
  | nilp => exact .nilp
  | niface => exact .niface
  | @lst _ _ PB rows full fresh A cap sz vs hPB hcap hfull hsz hcell hrel =>
   have hf : fresh = true := ho
   refine .lst (PB := PB) (sz := sz) (vs := vs) (fun c hc => ?_) hcap hfull hsz hcell hrel
   have := hPB c hc
   rw [if_pos hf] at this ⊢
   exact .inr this
  | rp => cases ho
  | fn => cases ho
 cases a with
 | ref b g off m full =>
  subst hE
  obtain ⟨j1, j2, j3, j4⟩ := join_new (E := E) (E1 := E1) (n := n) b
  show V0 (E.join E1 n) (.ref (n + b) g off m full) v
  rcases (show V0 E1 (.ref b g off m full) v from hv) with ⟨h, k⟩ | ⟨h, k⟩
  ·exact .inl ⟨by rw [j2]; exact h, k⟩
  ·refine .inr ⟨by rw [j2]; exact h, ?_⟩
   rw [j1, j3, j4]; exact k
 | ptr b g r c =>
  subst hE
  obtain ⟨j1, j2, j3, j4⟩ := join_new (E := E) (E1 := E1) (n := n) b
  show V0 (E.join E1 n) (.ptr (n + b) g r c) v
  rcases (show V0 E1 (.ptr b g r c) v from hv) with ⟨h, k⟩ | ⟨h, k⟩
  ·exact .inl ⟨by rw [j2]; exact h, k⟩
  ·refine .inr ⟨by rw [j2]; exact h, ?_⟩
   rw [j1, j3]; exact k
 | lptr t c => cases ho
 | fn f c => cases ho
 | agg l => cases ho
 | tup l => cases ho
 | rp l c => cases ho
 | undef => exact RV.undef _
 | int k m => exact hrv (a := .int k m) rfl hv
 | bool b => exact hrv (a := .bool b) rfl hv
 | str s => exact hrv (a := .str s) rfl hv
 | lst rows full fr => exact hrv (a := .lst rows full fr) ho hv
 | nilp => exact hrv (a := .nilp) rfl hv
 | niface => exact hrv (a := .niface) rfl hv
theorem join_rel2 {E' : Env} (hE : E' = E.join E1 n) {a : AV} {v : Value} (ho : ownv2 a = true) (hv : V2 E1 a v) : V2 E' (shift2 n a) v := by
 by_cases hf : ∃ l, a = .agg l
 ·obtain ⟨l, rfl⟩ := hf
  obtain ⟨vs, rfl, hp⟩ := hv
  refine ⟨vs, rfl, by rw [List.length_map]; exact hp.1, fun i x u hx hu => ?_⟩
  rw [List.getElem?_map] at hx
  cases hl : l[i]? with
  | none => simp [hl] at hx
  | some y =>
   simp [hl] at hx; subst hx
   exact join_rel0 hE (List.all_eq_true.1 (show l.all ownv0 = true from ho) y (List.mem_of_getElem? hl)) (hp.2 i y u hl hu)
 ·have e1 : shift2 n a = shift0 n a := by cases a <;> first | rfl | exact absurd ⟨_, rfl⟩ hf
  have e2 : ownv2 a = ownv0 a := by cases a <;> first | rfl | exact absurd ⟨_, rfl⟩ hf
  rw [V2_eq fun l e => hf ⟨l, e⟩] at hv
  rw [e1]
  exact V2_of_V1 (join_rel0 hE (e2 ▸ ho) hv)
theorem join_rel3 {E' : Env} (hE : E' = E.join E1 n) {a : AV} {v : Value} (ho : ownv3 a = true) (hv : V3 E1 a v) : V3 E' (shift3 n a) v := by
 by_cases hf : ∃ l, a = .tup l
 ·obtain ⟨l, rfl⟩ := hf
  obtain ⟨vs, rfl, hp⟩ := hv
  refine ⟨vs, rfl, by rw [List.length_map]; exact hp.1, fun i x u hx hu => ?_⟩
  rw [List.getElem?_map] at hx
  cases hl : l[i]? with
  | none => simp [hl] at hx
  | some y =>
   simp [hl] at hx; subst hx
   exact join_rel2 hE (List.all_eq_true.1 (show l.all ownv2 = true from ho) y (List.mem_of_getElem? hl)) (hp.2 i y u hl hu)
 ·have e1 : shift3 n a = shift2 n a := by cases a <;> first | rfl | exact absurd ⟨_, rfl⟩ hf
  have e2 : ownv3 a = ownv2 a := by cases a <;> first | rfl | exact absurd ⟨_, rfl⟩ hf
  rw [V3_eq fun l e => hf ⟨l, e⟩] at hv
  rw [e1]
  exact V3_of_V2 (join_rel2 hE (e2 ▸ ho) hv)
end
theorem callO_sound {P : Program} {f : FuncId} {args args0 : List AV} {L : List (Nat × List AV)} {H : List Blk} {E : Env} {vs : List Value} {Q : AV → List Blk → Prop} (hH : SimH E H) (hL : SimL E L)
  (ha : PW (V2 E) args vs) (hs : PW (Snap2 L H) args args0) (h : FnS P f args0 [] fun r Hn => ownv3 r = true ∧ ownH Hn = true ∧ Q r Hn) :
  Calls P f vs.toArray E.w fun e w' => ∃ r v Hn E', e = .returned v ∧ Q r Hn ∧ E'.w = w' ∧ Step E E' ∧ SimH E' (H ++ Hn.map (shiftB H.length)) ∧ SimL E' L ∧ V3 E' (shift3 H.length r) v ∧ E'.mL = E.mL := by
 have ha0 : PW (V2 E.frozen) args0 vs := ⟨hs.1 ▸ ha.1, fun i x u hx hu => by
  have hlt : i < args.length := by have := (List.getElem?_eq_some_iff.1 hx).1; have := hs.1; omega
  have hl := List.getElem?_eq_getElem hlt
  exact snap2_sound (Sub.refl L H) hH hL (hs.2 i _ x hl hx) (ha.2 i _ u hl hu)⟩
 refine (h.2 E.frozen vs (fun _ => rfl) (frozen_sim hH) ha0).mono ?_
 rintro e w' ⟨r, v, Hn, E1, rfl, ⟨ho, hoH, hr⟩, rfl, hn, hs1, hv, hst⟩
 have hPF : ∀ c, E1.PF c → E.w.heap.size ≤ c ∧ c < E1.w.heap.size := fun c hc => ⟨(hst.pf c hc).elim (fun h => h.elim) id, hs1.ltP c (hs1.pfpa c hc)⟩
 have hIH : ∀ c, E1.imgH c → E.w.heap.size ≤ c ∧ c < E1.w.heap.size := fun c hc => ⟨(hst.imH c hc).elim (fun ⟨b, hb⟩ => by cases hb) id, hs1.ltH c hc⟩
 have hkeep : ∀ c, c < E.w.heap.size → E1.w.heap[c]? = E.w.heap[c]? := fun c hc => hst.keep c hc (fun ⟨b, hb⟩ => by cases hb) (fun ⟨b, hb⟩ => by cases hb)
 have hltH := hH.ltH
 have hltL := hH.ltL
 generalize hE : E.join E1 H.length = E'
 have jo : ∀ b, b < H.length → E'.m b = E.m b ∧ E'.gen b = E.gen b ∧ E'.sz b = E.sz b ∧ E'.cp b = E.cp b := fun b hb => hE ▸ join_old hb
 have jn : ∀ b, E'.m (H.length + b) = E1.m b ∧ E'.gen (H.length + b) = E1.gen b ∧ E'.sz (H.length + b) = E1.sz b ∧ E'.cp (H.length + b) = E1.cp b := fun b => hE ▸ join_new b
 have jw : E'.w = E1.w := by rw [← hE]; rfl
 have jPA : ∀ c, E'.PA c ↔ E.PA c ∨ E1.PF c := fun c => by rw [← hE]; exact Iff.rfl
 have jPF : ∀ c, E'.PF c ↔ E.PF c ∨ E1.PF c := fun c => by rw [← hE]; exact Iff.rfl
 have jL : E'.mL = E.mL := by rw [← hE]; rfl
 have split : ∀ b, b < H.length ∨ ∃ k, b = H.length + k := fun b => by
  rcases Nat.lt_or_ge b H.length with h | h
  ·exact .inl h
  ·exact .inr ⟨b - H.length, by omega⟩
 have oldm : ∀ b x, E.m b = some x → b < H.length := fun b x hb => by
  rcases Nat.lt_or_ge b H.length with h | h
  ·exact h
  ·rw [(hH.fresh b h).1] at hb; cases hb
 have img : ∀ c, E'.imgH c → E.imgH c ∨ E1.imgH c := fun c ⟨b, hb⟩ => by
  rcases split b with h | ⟨k, rfl⟩
  ·exact .inl ⟨b, by rw [← (jo b h).1]; exact hb⟩
  ·exact .inr ⟨k, by rw [← (jn k).1]; exact hb⟩
 have hstep : Step E E' := 
  {le := ⟨fun c hc => (jPA c).2 (.inl hc), fun c hc => (jPF c).2 (.inl hc), fun c hc => by rw [jw]; exact hkeep c (hH.ltP c hc), fun c hc => by rw [jw]; exact hkeep c (hH.ltP c (hH.pfpa c hc)), fun b => by
     rcases split b with h | ⟨k, rfl⟩
     ·rw [(jo b h).2.1]; exact Nat.le_refl _
     ·rw [(hH.fresh (H.length + k) (by omega)).2]; exact Nat.zero_le _, fun b x hx _ => by
     have h := oldm b x hx
     exact ⟨by rw [(jo b h).1]; exact hx, (jo b h).2.2.1, (jo b h).2.2.2⟩, fun t c h => by rw [jL]; exact h⟩
   os := by rw [jw]; exact hst.os
   tape := by rw [jw]; exact hst.tape
   output := by rw [jw]; exact hst.output
   size := by rw [jw]; exact hst.size
   keep := fun c hc _ _ => by rw [jw]; exact hkeep c hc
   imH := fun c hc => (img c hc).elim .inl fun h => .inr (hIH c h).1
   imL := fun c ⟨t, ht⟩ => .inl ⟨t, by rw [← jL]; exact ht⟩
   pa := fun c hc => ((jPA c).1 hc).elim .inl fun h => .inr (hPF c h).1
   pf := fun c hc => ((jPF c).1 hc).elim .inl fun h => .inr (hPF c h).1 }
 have getO : ∀ b, b < H.length → (H ++ Hn.map (shiftB H.length))[b]? = H[b]? := fun b hb => List.getElem?_append_left hb
 have getN : ∀ k, (H ++ Hn.map (shiftB H.length))[H.length + k]? = (Hn[k]?).map (shiftB H.length) := fun k => by
  rw [List.getElem?_append_right (by omega), List.getElem?_map]; congr 2; omega
 refine ⟨r, v, Hn, E', rfl, hr, jw, hstep, ?_, ?_, join_rel3 hE.symm ho hv, jL⟩
 ·exact {
   heap := fun b c hb => by
    rcases split b with h | ⟨k, rfl⟩
    ·obtain ⟨j1, j2, j3, j4⟩ := jo b h
     rw [j1] at hb
     obtain ⟨blk, cs, ty, q1, q0, q2, q3, q4, q5, q6⟩ := hH.heap b c hb
     refine ⟨blk, cs, ty, by rw [getO b h]; exact q1, by rw [j3]; exact q0, by rw [jw, hkeep c (hltH c ⟨b, hb⟩)]; exact q2, by rw [j3, j4]; exact q3, by rw [j4]; exact q4, by rw [j3]; exact q5, fun i j row a hr hj => ?_⟩
     obtain ⟨u, hu, hrr⟩ := q6 i j row a hr hj
     exact ⟨u, by rw [j3]; exact hu, hrr.le hstep.le.noL⟩
    ·obtain ⟨j1, j2, j3, j4⟩ := jn k
     rw [j1] at hb
     obtain ⟨blk, cs, ty, q1, q0, q2, q3, q4, q5, q6⟩ := hs1.heap k c hb
     have hob : ∀ row ∈ blk.rows, ∀ a ∈ row, ownv0 a = true := fun row hr a ha =>
      List.all_eq_true.1 (List.all_eq_true.1 (List.all_eq_true.1 hoH blk (List.mem_of_getElem? q1)) row hr) a ha
     refine ⟨shiftB H.length blk, cs, ty, by rw [getN k, q1]; rfl, by rw [j3]; exact q0, by rw [jw]; exact q2, by rw [j3, j4]; exact q3, by rw [j4]; show (blk.rows.map _).length ≤ _; rw [List.length_map]; exact q4, fun i row' hr => ?_, fun i j row' a' hr hj => ?_⟩
     ·have hr : (blk.rows.map fun row => row.map (shift0 H.length))[i]? = some row' := hr
      rw [List.getElem?_map] at hr
      cases hq : blk.rows[i]? with
      | none => simp [hq] at hr
      | some row =>
       simp [hq] at hr; subst hr
       rw [List.length_map, j3]; exact q5 i row hq
     ·have hr : (blk.rows.map fun row => row.map (shift0 H.length))[i]? = some row' := hr
      rw [List.getElem?_map] at hr
      cases hq : blk.rows[i]? with
      | none => simp [hq] at hr
      | some row =>
       simp [hq] at hr; subst hr
       rw [List.getElem?_map] at hj
       cases hq2 : row[j]? with
       | none => simp [hq2] at hj
       | some a =>
        simp [hq2] at hj; subst hj
        obtain ⟨u, hu, hrr⟩ := q6 i j row a hq hq2
        refine ⟨u, by rw [j3]; exact hu, ?_⟩
        have hEn : E'.noL = E.noL.join E1.noL H.length := by rw [← hE]; rfl
        exact join_rel0 hEn (hob row (List.mem_of_getElem? hq) a (List.mem_of_getElem? hq2)) hrr
   gens := fun b blk hb => by
    rcases split b with h | ⟨k, rfl⟩
    ·rw [getO b h] at hb; rw [(jo b h).2.1]; exact hH.gens b blk hb
    ·rw [getN k] at hb
     cases hq : Hn[k]? with
     | none => simp [hq] at hb
     | some y => simp [hq] at hb; subst hb; rw [(jn k).2.1]; exact hs1.gens k y hq
   nilb := fun b hb => by
    rcases split b with h | ⟨k, rfl⟩
    ·rw [(jo b h).1] at hb
     obtain ⟨blk, q1, q2⟩ := hH.nilb b hb
     exact ⟨blk, by rw [getO b h]; exact q1, by rw [(jo b h).2.2.1]; exact q2⟩
    ·rw [(jn k).1] at hb
     obtain ⟨blk, q1, q2⟩ := hs1.nilb k hb
     exact ⟨shiftB H.length blk, by rw [getN k, q1]; rfl, by rw [(jn k).2.2.1]; exact q2⟩
   fresh := fun b hb => by
    rw [List.length_append, List.length_map] at hb
    rcases split b with h | ⟨k, rfl⟩
    ·omega
    ·rw [(jn k).1, (jn k).2.1]; exact hs1.fresh k (by omega)
   injH := fun b b' c h1 h2 => by
    rcases split b with h | ⟨k, rfl⟩ <;> rcases split b' with h' | ⟨k', rfl⟩
    ·rw [(jo b h).1] at h1; rw [(jo b' h').1] at h2; exact hH.injH b b' c h1 h2
    ·rw [(jo b h).1] at h1; rw [(jn k').1] at h2
     have := hltH c ⟨b, h1⟩; have := (hIH c ⟨k', h2⟩).1; omega
    ·rw [(jn k).1] at h1; rw [(jo b' h').1] at h2
     have := hltH c ⟨b', h2⟩; have := (hIH c ⟨k, h1⟩).1; omega
    ·rw [(jn k).1] at h1; rw [(jn k').1] at h2; rw [hs1.injH k k' c h1 h2]
   injL := fun t t' c h1 h2 => by rw [jL] at h1 h2; exact hH.injL t t' c h1 h2
   injHL := fun b t c h1 h2 => by
    rw [jL] at h2
    rcases split b with h | ⟨k, rfl⟩
    ·rw [(jo b h).1] at h1; exact hH.injHL b t c h1 h2
    ·rw [(jn k).1] at h1
     have := hltL c ⟨t, h2⟩; have := (hIH c ⟨k, h1⟩).1; omega
   notH := fun c hc hi => by
    rcases (jPA c).1 hc with h | h <;> rcases img c hi with h' | h'
    ·exact hH.notH c h h'
    ·have := hH.ltP c h; have := (hIH c h').1; omega
    ·have := hltH c h'; have := (hPF c h).1; omega
    ·exact hs1.notH c (hs1.pfpa c h) h'
   notL := fun c hc ⟨t, ht⟩ => by
    rw [jL] at ht
    rcases (jPA c).1 hc with h | h
    ·exact hH.notL c h ⟨t, ht⟩
    ·have := hltL c ⟨t, ht⟩; have := (hPF c h).1; omega
   pfpa := fun c hc => (jPA c).2 (((jPF c).1 hc).elim (fun h => .inl (hH.pfpa c h)) .inr)
   ltP := fun c hc => by
    rw [jw]
    rcases (jPA c).1 hc with h | h
    ·exact Nat.lt_of_lt_of_le (hH.ltP c h) hst.size
    ·exact (hPF c h).2
   ltH := fun c hc => by
    rw [jw]
    rcases img c hc with h | h
    ·exact Nat.lt_of_lt_of_le (hltH c h) hst.size
    ·exact (hIH c h).2
   ltL := fun c ⟨t, ht⟩ => by
    rw [jL] at ht; rw [jw]
    exact Nat.lt_of_lt_of_le (hltL c ⟨t, ht⟩) hst.size }
 ·intro t c hm
  rw [jL] at hm
  obtain ⟨cells, cs, ty, q1, q2, q3⟩ := hL t c hm
  exact ⟨cells, cs, ty, q1, by rw [jw, hkeep c (hltL c ⟨t, hm⟩)]; exact q2, q3.mono fun _ _ k => k.le hstep.le.noL⟩
theorem callM_sound {P : Program} {f : FuncId} {args : List AV} {L : List (Nat × List AV)} {H : List Blk} {E : Env} {vs : List Value} {Q : AV → List Blk → Prop} (hH : SimH E H) (hL : SimL E L)
  (ha : PW (V2 E) args vs) (hn : args.all noLp2 = true) (h : FnS P f args H fun r H' => noLp3 r = true ∧ Q r H') :
  Calls P f vs.toArray E.w fun e w' => ∃ r v H' E', e = .returned v ∧ Q r H' ∧ E'.w = w' ∧ Step E E' ∧ SimH E' H' ∧ SimL E' L ∧ V3 E' r v ∧ E'.mL = E.mL := by
 have ha0 : PW (V2 E.noL) args vs := ⟨ha.1, fun i a v h1 h2 => (ha.2 i a v h1 h2).noL (List.all_eq_true.1 hn a (List.mem_of_getElem? h1))⟩
 refine (h.2 E.noL vs (fun _ => rfl) hH.noL ha0).mono ?_
 rintro e w' ⟨r, v, H', E1, rfl, ⟨hnr, hr⟩, rfl, hn1, hs1, hv, hst⟩
 let E' : Env := { E1 with mL := E.mL }
 have hEn : E'.noL = E1.noL := rfl
 have hltL := hH.ltL
 have imH : ∀ c, E1.imgH c → E.imgH c ∨ E.w.heap.size ≤ c := hst.imH
 have hkeepL : ∀ c, E.imgL c → E1.w.heap[c]? = E.w.heap[c]? := fun c hc => hst.keep c (hltL c hc) (fun ⟨b, hb⟩ => by
  obtain ⟨t, ht⟩ := hc
  exact hH.injHL b t c hb ht) (fun ⟨b, hb⟩ => by cases hb)
 have hle : E1.noL.Le E' := Env.noL_le E'
 have hstep : Step E E' := 
  {le := ⟨hst.le.pa, hst.le.pf, hst.le.wa, hst.le.wf, hst.le.gen, hst.le.m, fun _ _ h => h⟩
   os := hst.os, tape := hst.tape, output := hst.output, size := hst.size
   keep := fun c hc h1 h2 => hst.keep c hc h1 (fun ⟨b, hb⟩ => by cases hb)
   imH := imH
   imL := fun c h => .inl h
   pa := hst.pa
   pf := hst.pf }
 refine ⟨r, v, H', E', rfl, hr, rfl, hstep, ?_, ?_, ?_, rfl⟩
 ·exact { hs1 with
   injL := hH.injL
   injHL := fun b t c h1 h2 => by
    rcases imH c ⟨b, h1⟩ with ⟨b', h⟩ | h
    ·exact hH.injHL b' t c h h2
    ·have := hltL c ⟨t, h2⟩; omega
   notL := fun c hc ⟨t, ht⟩ => by
    rcases hst.pa c hc with h | h
    ·exact hH.notL c h ⟨t, ht⟩
    ·have h : E.w.heap.size ≤ c := h
     have := hltL c ⟨t, ht⟩; omega
   ltL := fun c hc => Nat.lt_of_lt_of_le (hltL c hc) hst.size }
 ·intro t c hm
  obtain ⟨cells, cs, ty, q1, q2, q3⟩ := hL t c hm
  exact ⟨cells, cs, ty, q1, by show E1.w.heap[c]? = _; rw [hkeepL c ⟨t, hm⟩]; exact q2, q3.mono fun _ _ k => k.le hstep.le.noL⟩
 ·exact (hv.noL hnr).le hle
end Go.Proofs.Ytglpfccgmfhkdaa.Fw
/- The framework, part P: one operation; the operations of a region, in the text's order. -/

set_option linter.unusedVariables false
namespace Go.Proofs.Ytglpfccgmfhkdaa.Fw
open Go
def callOA (P : Program) (f : FuncId) (args : List AV) (L : List (Nat × List AV)) (H : List Blk) (K : AV → List (Nat × List AV) → List Blk → Prop) : Prop :=
 args.all noTup = true ∧ ∃ args0, PW (Snap2 L H) args args0 ∧ FnS P f args0 [] fun r Hn => ownv3 r = true ∧ ownH Hn = true ∧ K (shift3 H.length r) L (H ++ Hn.map (shiftB H.length))
def callMA (P : Program) (f : FuncId) (args : List AV) (L : List (Nat × List AV)) (H : List Blk) (K : AV → List (Nat × List AV) → List Blk → Prop) : Prop :=
 args.all noTup = true ∧ args.all noLp2 = true ∧ FnS P f args H fun r H' => noLp3 r = true ∧ K r L H'
def callAny (P : Program) (f : FuncId) (args : List AV) (L : List (Nat × List AV)) (H : List Blk) (K : AV → List (Nat × List AV) → List Blk → Prop) : Prop :=
 callVA P f args L H (fun r => K r L H) ∨ callOA P f args L H K ∨ callMA P f args L H K
def evCall (P : Program) (c : Call) (ρ : Operand → AV) (L : List (Nat × List AV)) (H : List Blk) (K : AV → List (Nat × List AV) → List Blk → Prop) : Prop := match c.callee with
 | .builtin .len => evCallV P c ρ L H fun r => K r L H
 | .builtin .append => (match c.args.toList, c.argTypes.toList with
  | [s, x], [t, t2] => noTup (ρ s) = true ∧ noTup (ρ x) = true ∧ appA P t t2 (ρ s) (ρ x) L H K
  | _, _ => False)
 | .value f => calleeA (ρ f) fun g caps => callAny P g (c.args.toList.map ρ ++ caps) L H K
 | _ => False
def evOp (P : Program) (esc : List Nat) (o : Oper) (ρ : Operand → AV) (L : List (Nat × List AV)) (H : List Blk) (K : AV → List (Nat × List AV) → List Blk → Prop) : Prop := match o.op with
 | .store t a v => okp (noTup (ρ v)) (stA P t (ρ a) (ρ v) L H fun L' H' => K (.tup []) L' H')
 | .alloc e => oelim (zeroA P e) fun z => newA esc o.dst z L H K
 | .box e x => okp (noTup (ρ x)) (newA esc o.dst (cellsA (ρ x)) L H K)
 | .makeSlice t l c => mksA P t (ρ l) (ρ c) L H K
 | .buildSlice t n ps => okp (ps.toList.all fun p => noTup (ρ p.2)) (bslH P (frc esc o.dst) (scrOf esc) t n (ps.toList.map fun p => (p.1, ρ p.2)) L H K)
 | .call c => evCall P c ρ L H K
 | _ => evVal P o ρ L H fun r => K r L H
theorem V2_of_V3 {E : Env} {a : AV} {v : Value} (h : noTup a = true) (hv : V3 E a v) : V2 E a v := by
 rwa [V3_eq (noTup_ne h)] at hv
theorem callO_all {P : Program} {f : FuncId} {args : List AV} {L : List (Nat × List AV)} {H : List Blk} {E : Env} {vs : List Value} {K : AV → List (Nat × List AV) → List Blk → Prop} (hH : SimH E H) (hL : SimL E L)
  (ha : PW (V2 E) args vs) (h : callAny P f args L H K) :
  okFn P f = true ∧ Calls P f vs.toArray E.w fun e w' => ∃ v u L' H' E', e = .returned u ∧ K v L' H' ∧ E'.w = w' ∧ Step E E' ∧ SimH E' H' ∧ SimL E' L' ∧ V3 E' v u ∧ E'.mL = E.mL := by
 rcases h with ⟨hn, args0, t, hs, hfn, hK⟩ | ⟨hn, args0, hs, hfn⟩ | ⟨hn, hl, hfn⟩
 ·refine ⟨hfn.1, (callV_sound (Sub.refl L H) hH hL ha hs hfn).mono ?_⟩
  rintro e w' ⟨v, E', rfl, rfl, hq, hv⟩
  exact ⟨t, v, L, H, E', rfl, hK, rfl, hq.step, hq.simH hH, hq.simL hH hL, hv, hq.mL⟩
 ·refine ⟨hfn.1, (callO_sound (Q := fun r Hn => K (shift3 H.length r) L (H ++ Hn.map (shiftB H.length))) hH hL ha hs hfn).mono ?_⟩
  rintro e w' ⟨r, v, Hn, E', rfl, hK, rfl, hst, h1, h2, hv, hml⟩
  exact ⟨_, v, L, _, E', rfl, hK, rfl, hst, h1, h2, hv, hml⟩
 ·refine ⟨hfn.1, (callM_sound (Q := fun r H' => K r L H') hH hL ha hl hfn).mono ?_⟩
  rintro e w' ⟨r, v, H', E', rfl, hK, rfl, hst, h1, h2, hv, hml⟩
  exact ⟨_, v, L, _, E', rfl, hK, rfl, hst, h1, h2, hv, hml⟩
theorem callAny_tup {P : Program} {f : FuncId} {args : List AV} {L : List (Nat × List AV)} {H : List Blk} {K : AV → List (Nat × List AV) → List Blk → Prop} (h : callAny P f args L H K) : args.all noTup = true := by
 rcases h with ⟨hn, _⟩ | ⟨hn, _⟩ | ⟨hn, _⟩ <;> exact hn
set_option maxHeartbeats 1000000 in
theorem evOp_sound {P : Program} {esc : List Nat} {o : Oper} {a : Act} {T : List AV} {E : Env} {L : List (Nat × List AV)} {H : List Blk} {K : AV → List (Nat × List AV) → List Blk → Prop} {Q : Exit → Act → World → Prop}
  (hT : ∀ t, V3 E (T.getD t .undef) (a.tmps.getD t undef)) (hH : SimH E H) (hL : SimL E L) (h : evOp P esc o (opv T) L H K) : o.wp P a E.w (ENext E o a K) Q := by
 have fin : ∀ {s : Sem Value}, (execOp a.eval o = (do pure (Next.value (← s)))) → (∃ v L' H' E' u, K v L' H' ∧ s.run P E.w = .ok u E'.w ∧ Step E E' ∧ SimH E' H' ∧ SimL E' L' ∧ V3 E' v u ∧ ∀ t, o.dst ≠ some t → E'.mL t = E.mL t) → o.wp P a E.w (ENext E o a K) Q := by
  rintro s hs ⟨v, L', H', E', u, hK, hr, h1, h2, h3, h4, h5⟩
  unfold Oper.wp
  rw [hs]
  exact upon_v hr ⟨v, u, L', H', E', hK, rfl, h1, h2, h3, h4, rfl, h5⟩
 have qu : evVal P o (opv T) L H (fun r => K r L H) → o.wp P a E.w (ENext E o a K) Q := fun h =>
  Oper.wp_mono (fun a' w' ⟨v, u, E', hK, hw, hq, hv, ha⟩ => ⟨v, u, L, H, E', hK, hw, hq.step, hq.simH hH, hq.simL hH hL, hv, ha, fun t _ => by rw [hq.mL]⟩) (evVal_sound hT (Sub.refl L H) hH hL h)
 obtain ⟨dst, op, ty, pos, after, guard⟩ := o
 cases op with
 | store t x v =>
  obtain ⟨hn, h⟩ := okp_inv (show okp (noTup (opv T v)) (stA P t (opv T x) (opv T v) L H fun L' H' => K (.tup []) L' H') from h)
  obtain ⟨L', H', E', hK, hr, h1, h2, h3, hml⟩ := st_sound hH hL (opv_rel hT x) (V2_of_V3 hn (opv_rel hT v)) h
  unfold Oper.wp
  have : (execOp a.eval ⟨dst, .store t x v, ty, pos, after, guard⟩).run P E.w = .ok .skip E'.w := by
   simp only [execOp, Sem.run_bind, hr, Sem.run_pure, Result.andThen_ok]
  rw [this]
  exact ⟨.tup [], _, L', H', E', hK, rfl, h1, h2, h3, ⟨[], rfl, PW.nil⟩, rfl, fun t _ => by rw [hml]⟩
 | alloc e =>
  obtain ⟨z, hz, h⟩ := oelim_inv (show oelim (zeroA P e) fun z => newA esc dst z L H K from h)
  obtain ⟨i, v, q1, q2, q3, q4⟩ := zero_rel (E := E) hz
  obtain ⟨r, L', H', E', hK, hw, h1, h2, h3, h4, hml⟩ := new_sound (ty := e) hH hL q4 h
  refine fin (s := Instr.alloc e true (.tuple #[])) rfl ⟨r, L', H', E', _, hK, ?_, h1, h2, h3, h4, hml⟩
  rw [hw]
  simp [Instr.alloc, zeroValue, typeInfo, q1, q2, newVar, newRow]
 | box e x =>
  obtain ⟨hn, h⟩ := okp_inv (show okp (noTup (opv T x)) (newA esc dst (cellsA (opv T x)) L H K) from h)
  have hs : (cellsA (opv T x)).all sto1 = true := by
   unfold newA at h; split at h
   ·rename_i q; exact q
   ·exact h.elim
  obtain ⟨r, L', H', E', hK, hw, h1, h2, h3, h4, hml⟩ := new_sound (ty := e) hH hL (cells_rel (V2_of_V3 hn (opv_rel hT x)) hs) h
  refine fin (s := Instr.box e (a.eval x)) rfl ⟨r, L', H', E', _, hK, ?_, h1, h2, h3, h4, hml⟩
  rw [hw]
  simp [Instr.box, newVar, newRow]
 | makeSlice t l c =>
  obtain ⟨v, L', H', E', u, hK, hr, h1, h2, h3, h4, hml⟩ := mks_sound hH hL (opv_rel hT l) (opv_rel hT c) (show mksA P t (opv T l) (opv T c) L H K from h)
  exact fin (s := Instr.makeSlice t (a.eval l) (a.eval c)) rfl ⟨v, L', H', E', u, hK, hr, h1, h2, h3, h4, fun t _ => by rw [hml]⟩
 | buildSlice t n ps =>
  obtain ⟨hn, h⟩ := okp_inv (show okp (ps.toList.all fun p => noTup (opv T p.2)) (bslH P (frc esc dst) (scrOf esc) t n (ps.toList.map fun p => (p.1, opv T p.2)) L H K) from h)
  obtain ⟨v, u, L', H', E', hK, hr, h1, h2, h3, h4, hml⟩ := bslH_sound hH hL (parts_rel hT ps.toList fun p hp => noTup_ne (List.all_eq_true.1 hn p hp)) h
  exact fin (s := Instr.buildSlice t n (ps.toList.map fun p => (p.1, a.eval p.2)).toArray) (by rw [parts_eq]; rfl) ⟨v, L', H', E', u, hK, hr, h1, h2, h3, h4, fun t _ => by rw [hml]⟩
 | call c =>
  have h : evCall P c (opv T) L H K := h
  obtain ⟨callee, args, argTypes⟩ := c
  cases callee with
  | builtin b =>
   cases b with
   | len => exact qu h
   | append =>
    have h : (match args.toList, argTypes.toList with
     | [s, x], [t, t2] => noTup (opv T s) = true ∧ noTup (opv T x) = true ∧ appA P t t2 (opv T s) (opv T x) L H K
     | _, _ => False) := h
    split at h
    ·rename_i s x t t2 h1 h2
     obtain rfl : args = #[s, x] := by rw [← Array.toArray_toList (xs := args), h1]
     obtain rfl : argTypes = #[t, t2] := by rw [← Array.toArray_toList (xs := argTypes), h2]
     obtain ⟨n1, n2, h⟩ := h
     obtain ⟨r, u, H', E', hK, hr, q1, q2, q3, q4, hml⟩ := app_sound (ty := ty) hH hL (V2_of_V3 n1 (opv_rel hT s)) (V2_of_V3 n2 (opv_rel hT x)) h
     unfold Oper.wp
     have : (execOp a.eval ⟨dst, .call ⟨.builtin .append, #[s, x], #[t, t2]⟩, ty, pos, after, guard⟩).run P E.w = .ok (.value u) E'.w := by
      simp only [execOp, resolve, Sem.run_bind, Sem.run_pure, Result.andThen_ok, invoke, builtin]
      have e : Array.map a.eval #[s, x] = #[a.eval s, a.eval x] := by simp
      rw [e, hr]; rfl
     rw [this]
     exact ⟨r, u, L, H', E', hK, rfl, q1, q2, q3, q4, rfl, fun t _ => by rw [hml]⟩
    ·exact h.elim
   | _ => exact h.elim
  | value f =>
   have h : calleeA (opv T f) fun g caps => callAny P g (args.toList.map (opv T) ++ caps) L H K := h
   cases hf : opv T f with
   | fn g caps =>
    rw [hf] at h
    have h : callAny P g (args.toList.map (opv T) ++ caps) L H K := h
    have hn := callAny_tup h
    obtain ⟨vs, he, hcv⟩ := callee_rel hT hf
    have har : PW (V2 E) (args.toList.map (opv T) ++ caps) (args.toList.map a.eval ++ vs) :=
     PW.append (args_rel hT args.toList fun x hx => noTup_ne (List.all_eq_true.1 hn _ (by simp; exact .inl ⟨x, by simpa using hx, rfl⟩))) hcv
    obtain ⟨hok, hc⟩ := callO_all hH hL har h
    unfold Oper.wp
    rw [show execOp a.eval ⟨dst, .call ⟨.value f, args, argTypes⟩, ty, pos, after, guard⟩ = (do let d ← resolve a.eval ⟨.value f, args, argTypes⟩ ty; invoke d.target d.args) from rfl]
    rw [run_call (P := P) (ty := ty) (w := E.w) (c := ⟨.value f, args, argTypes⟩) rfl he hok]
    refine hc.mono ?_
    rintro e w' ⟨v, u, L', H', E', rfl, hK, rfl, q1, q2, q3, q4, hml⟩
    exact ⟨v, u, L', H', E', hK, rfl, q1, q2, q3, q4, rfl, fun t _ => by rw [hml]⟩
   | _ => rw [hf] at h; exact h.elim
  | _ => exact h.elim
 | _ => exact qu h
def bway (lit : Bool) (b : Bool) (x y : Prop) : Prop := match lit with
 | true => (match b with
  | true => x
  | false => y)
 | false => bcond b x y
theorem bway_inv {lit b : Bool} {x y : Prop} (h : bway lit b x y) : (b = true → x) ∧ (b = false → y) := by
 cases lit with
 | false => exact h
 | true => cases b <;> exact ⟨fun e => by cases e <;> exact h, fun e => by cases e <;> exact h⟩
def putA (T : List AV) (dst : Option Nat) (v : AV) : List AV := match dst with
 | some d => T.set d v
 | none => T
def gdA (ops : Array Oper) (lit : Bool) (o : Oper) (T : List AV) (x y : List AV → Prop) : Prop := match o.guard with
 | none => x T
 | some (j, want) => match (ops[j]?).bind (·.dst) with
  | none => False
  | some t => match T.getD t .undef with
   | .bool b => bway lit b (if want = true then x (T.set t (.bool true)) else y (T.set t (.bool true))) (if want = true then y (T.set t (.bool false)) else x (T.set t (.bool false)))
   | .tup [] => y T
   | _ => False
def pickA (lit : Bool) (o : Oper) (T : List AV) (K : AV → Prop) (els : Prop) : Prop := match o.op with
 | .pick c x y => asB (opv T c) fun z => bway lit z (K (opv T x)) (K (opv T y))
 | _ => els
def evOps (P : Program) (esc : List Nat) (ops : Array Oper) : List (Oper × Bool) → List AV → List (Nat × List AV) → List Blk → (List AV → List (Nat × List AV) → List Blk → Prop) → Prop
 | [], T, L, H, K => K T L H
 | (o, lit) :: rest, T, L, H, K => gdA ops lit o T
   (fun T => pickA lit o T (fun v => evOps P esc ops rest (putA T o.dst v) L H K) (evOp P esc o (opv T) L H fun v L' H' => evOps P esc ops rest (putA T o.dst v) L' H' K))
   (fun T => evOps P esc ops rest (putA T o.dst (.tup [])) L H K)
theorem getD_set {T : List AV} {d t : Nat} {v : AV} : (T.set d v).getD t .undef = if d = t ∧ d < T.length then v else T.getD t .undef := by
 rw [List.getD_eq_getElem?_getD, List.getD_eq_getElem?_getD, List.getElem?_set]
 by_cases h : d = t
 ·subst h
  by_cases hl : d < T.length
  ·simp [hl]
  ·simp [hl]
 ·simp [h]
theorem slots_put {E : Env} {T : List AV} {a : Act} (hT : ∀ t, V3 E (T.getD t .undef) (a.tmps.getD t undef)) (hs : T.length = a.tmps.size) {dst : Option Nat} {v : AV} {u : Value} (hv : V3 E v u) :
  (∀ t, V3 E ((putA T dst v).getD t .undef) ((a.put dst u).tmps.getD t undef)) ∧ (putA T dst v).length = (a.put dst u).tmps.size := by
 cases dst with
 | none => exact ⟨hT, hs⟩
 | some d =>
  refine ⟨fun t => ?_, by simp [putA, Act.put, hs]⟩
  show V3 E ((T.set d v).getD t .undef) ((a.tmps.setIfInBounds d u).getD t undef)
  rw [getD_set, Array.getD_eq_getD_getElem?, Array.getElem?_setIfInBounds]
  by_cases h : d = t
  ·subst h
   by_cases hl : d < T.length
   ·have hl' : d < a.tmps.size := hs ▸ hl
    simp [hl, hl']; exact hv
   ·have hl' : ¬ d < a.tmps.size := hs ▸ hl
    have := hT d
    rw [Array.getD_eq_getD_getElem?] at this
    simp [hl, hl'] at this ⊢
    exact this
  ·have := hT t
   rw [Array.getD_eq_getD_getElem?] at this
   simp [h]; exact this
theorem slots_know {E : Env} {T : List AV} {a : Act} (hT : ∀ t, V3 E (T.getD t .undef) (a.tmps.getD t undef)) {t : Nat} {b : Bool} (h : T.getD t .undef = .bool b) :
  ∀ s, V3 E ((T.set t (.bool b)).getD s .undef) (a.tmps.getD s undef) := fun s => by
 rw [getD_set]
 by_cases hs : t = s ∧ t < T.length
 ·rw [if_pos hs, ← h, hs.1]; exact hT s
 ·rw [if_neg hs]; exact hT s
theorem yielded_bool {ops : Array Oper} {a : Act} {T : List AV} {E : Env} (hT : ∀ t, V3 E (T.getD t .undef) (a.tmps.getD t undef)) {j t : Nat} {b : Bool} (hj : (ops[j]?).bind (·.dst) = some t) (h : T.getD t .undef = .bool b) (hs : T.length = a.tmps.size) :
  yielded ops a.tmps j = some b := by
 have hv := hT t
 rw [h] at hv
 have he : a.tmps.getD t undef = .bool b := V3.bool_inv hv
 unfold yielded
 rw [hj]
 rw [Array.getD_eq_getD_getElem?] at he
 cases hq : a.tmps[t]? with
 | none => rw [hq] at he; cases he
 | some x => rw [hq] at he; have : x = .bool b := he; subst this; simp [hq]
theorem yielded_tup {ops : Array Oper} {a : Act} {T : List AV} {E : Env} (hT : ∀ t, V3 E (T.getD t .undef) (a.tmps.getD t undef)) {j t : Nat} (hj : (ops[j]?).bind (·.dst) = some t) (h : T.getD t .undef = .tup []) :
  yielded ops a.tmps j = none := by
 have hv := hT t
 rw [h] at hv
 obtain ⟨vs, he, hp⟩ := (show ∃ vs : List Value, a.tmps.getD t undef = .tuple vs.toArray ∧ PW (V2 E) [] vs from hv)
 obtain rfl := hp.nil_inv
 unfold yielded
 rw [hj]
 rw [Array.getD_eq_getD_getElem?] at he
 cases hq : a.tmps[t]? with
 | none => simp [hq]
 | some x => rw [hq] at he; have : x = .tuple #[] := he; subst this; simp [hq]
theorem gd_sound {P : Program} {ops : Array Oper} {lit : Bool} {o : Oper} {a : Act} {T : List AV} {E : Env} {w : World} {x y : List AV → Prop} {R : Prop}
  (hT : ∀ t, V3 E (T.getD t .undef) (a.tmps.getD t undef)) (hs : T.length = a.tmps.size) (h : gdA ops lit o T x y)
  (yes : ∀ T', Region.wanted o (yielded ops a.tmps) = true → (∀ t, V3 E (T'.getD t .undef) (a.tmps.getD t undef)) → T'.length = a.tmps.size → x T' → R)
  (no : ∀ T', Region.wanted o (yielded ops a.tmps) = false → (∀ t, V3 E (T'.getD t .undef) (a.tmps.getD t undef)) → T'.length = a.tmps.size → y T' → R) : R := by
 unfold gdA at h
 cases hg : o.guard with
 | none => rw [hg] at h; exact yes T (by simp [Region.wanted, hg]) hT hs h
 | some g =>
  obtain ⟨j, want⟩ := g
  rw [hg] at h
  simp only at h
  cases hj : (ops[j]?).bind (·.dst) with
  | none => rw [hj] at h; exact h.elim
  | some t =>
   rw [hj] at h
   simp only at h
   split at h
   ·rename_i b hb
    have hy := yielded_bool (ops := ops) hT hj hb hs
    have hk := slots_know hT hb
    obtain ⟨h1, h2⟩ := bway_inv h
    cases b with
    | true =>
     have h := h1 rfl
     cases want with
     | true => exact yes _ (by simp [Region.wanted, hg, hy]) hk (by simpa using hs) h
     | false => exact no _ (by simp [Region.wanted, hg, hy]) hk (by simpa using hs) h
    | false =>
     have h := h2 rfl
     cases want with
     | true => exact no _ (by simp [Region.wanted, hg, hy]) hk (by simpa using hs) h
     | false => exact yes _ (by simp [Region.wanted, hg, hy]) hk (by simpa using hs) h
   ·rename_i hb
    have hy := yielded_tup (ops := ops) hT hj hb
    exact no T (by simp [Region.wanted, hg, hy]) hT hs h
   ·exact h.elim
theorem evOps_sound {P : Program} {esc : List Nat} {ops : Array Oper} {Q : Exit → St → Prop} {E0 : Env} : ∀ (l : List (Oper × Bool)) (T : List AV) (L : List (Nat × List AV)) (H : List Blk) (E : Env) (a : Act),
  Good E0 E → Sim E ⟨T, L, H⟩ a.tmps → a.defers = [] → evOps P esc ops l T L H (fun T L H => Q .normal ⟨T, L, H⟩) → wpList P ops (PostS E0 Q) (l.map (·.1)) a E.w
 | [], T, L, H, E, a, hg, hs, hd, h => ⟨rfl, ⟨T, L, H⟩, E, h, rfl, hg, hs, hd⟩
 | (o, lit) :: rest, T, L, H, E, a, hg, hs, hd, h => by
  have hT : ∀ t, V3 E (T.getD t .undef) (a.tmps.getD t undef) := hs.slots
  show if Region.wanted o (yielded ops a.tmps) then o.wp P a E.w (wpList P ops (PostS E0 Q) (rest.map (·.1))) (PostS E0 Q) ∨ _ else wpList P ops (PostS E0 Q) (rest.map (·.1)) (a.put o.dst undef) E.w
  refine gd_sound (P := P) (w := E.w) hT hs.size h (fun T' hw hT' hs' h' => ?_) (fun T' hw hT' hs' h' => ?_)
  ·rw [if_pos hw]
   refine .inl ?_
   have next : ∀ (v : AV) (u : Value) (L' : List (Nat × List AV)) (H' : List Blk) (E' : Env), Step E E' → SimH E' H' → SimL E' L' → V3 E' v u → evOps P esc ops rest (putA T' o.dst v) L' H' (fun T L H => Q .normal ⟨T, L, H⟩) →
     wpList P ops (PostS E0 Q) (rest.map (·.1)) (a.put o.dst u) E'.w := fun v u L' H' E' q1 q2 q3 q4 hK => by
    obtain ⟨r1, r2⟩ := slots_put (fun t => (hT' t).le q1.le) hs' (dst := o.dst) q4
    refine evOps_sound rest _ _ _ E' (a.put o.dst u) (hg.step q1) ⟨q2, q3, r1, r2⟩ ?_ hK
    cases o.dst <;> exact hd
   have gen : (evOp P esc o (opv T') L H fun v L' H' => evOps P esc ops rest (putA T' o.dst v) L' H' (fun T L H => Q .normal ⟨T, L, H⟩)) → o.wp P a E.w (wpList P ops (PostS E0 Q) (rest.map (·.1))) (PostS E0 Q) := fun h' =>
    Oper.wp_mono (fun a' w' ⟨v, u, L', H', E', hK, hw', q1, q2, q3, q4, ha, _⟩ => by
     subst ha; subst hw'
     exact next v u L' H' E' q1 q2 q3 q4 hK) (evOp_sound hT' hs.h hs.l h')
   unfold pickA at h'
   split at h'
   ·rename_i c x y hop
    obtain ⟨b, hb, hh⟩ := asB_inv h'
    obtain ⟨h1, h2⟩ := bway_inv hh
    have hv := opv_rel hT' c
    rw [hb] at hv
    have he : a.eval c = .bool b := V3.bool_inv hv
    unfold Oper.wp
    have hx : ∀ z, (z = if b = true then a.eval x else a.eval y) → (execOp a.eval o).run P E.w = .ok (.value z) E.w := fun z hz => by
     subst hz
     simp only [execOp, hop, he, asBool, Sem.run_bind, Sem.run_pure, Result.andThen_ok]
    cases b with
    | true => rw [hx (a.eval x) rfl]; exact next _ _ L H E (Step.refl E) hs.h hs.l (opv_rel hT' x) (h1 rfl)
    | false => rw [hx (a.eval y) rfl]; exact next _ _ L H E (Step.refl E) hs.h hs.l (opv_rel hT' y) (h2 rfl)
   ·exact gen h'
  ·rw [hw]
   show wpList P ops (PostS E0 Q) (rest.map (·.1)) (a.put o.dst undef) E.w
   obtain ⟨r1, r2⟩ := slots_put (a := a) hT' hs' (dst := o.dst) (v := .tup []) (u := undef) ⟨[], rfl, PW.nil⟩
   refine evOps_sound rest (putA T' o.dst (.tup [])) L H E (a.put o.dst undef) hg ⟨hs.h, hs.l, r1, r2⟩ ?_ h'
   cases o.dst <;> exact hd
def lits (ops : Array Oper) (ls : List Nat) : List (Oper × Bool) := ops.toList.zipIdx.map fun p => (p.1, ls.contains p.2)
theorem lits_fst (ops : Array Oper) (ls : List Nat) : (lits ops ls).map (·.1) = ops.toList := by
 unfold lits
 rw [List.map_map]
 apply List.ext_getElem?
 intro i
 simp only [List.getElem?_map, List.getElem?_zipIdx]
 cases ops.toList[i]? <;> rfl
theorem WpS.region {P : Program} {esc : List Nat} {ls : List Nat} {id : Nat} {ops : Array Oper} {Q : Exit → St → Prop} {st : St} (h : evOps P esc ops (lits ops ls) st.T st.L st.H (fun T L H => Q .normal ⟨T, L, H⟩)) : WpS P (.region id ops false) Q st := fun E0 E a g s d => by
 refine wp_region_list ?_
 have := evOps_sound (lits ops ls) st.T st.L st.H E a g s d h
 rwa [lits_fst] at this
end Go.Proofs.Ytglpfccgmfhkdaa.Fw
