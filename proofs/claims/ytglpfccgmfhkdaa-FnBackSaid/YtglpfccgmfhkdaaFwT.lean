/- The framework, part T: where ways meet again; leaves of a walk. -/

import Derived.Test.YtglpfccgmfhkdaaFwS
set_option linter.unusedVariables false
namespace Go.Proofs.Ytglpfccgmfhkdaa.Fw
open Go
theorem WpS.start {P : Program} {c : Code} {Q : Exit → St → Prop} {st st' : St} (e : st = st') (h : WpS P c Q st') : WpS P c Q st := e ▸ h
def QJoin (S : St) (ψ : Prop) (Q : Exit → St → Prop) (ex : Exit) (s : St) : Prop := match ex with
 | .normal => ψ ∧ Weak s S
 | ex => Q ex s
theorem WpS.seqG {P : Program} {c x y : Code} {Q : Exit → St → Prop} {st : St} (S : St) {ψ : Prop} (e : c = .seq x y) (h : WpS P x (QJoin S ψ Q) st) (hq : ψ → WpS P y Q S) : WpS P c Q st := by
 subst e
 refine WpS.seq (WpS.mono h fun ex s hs => ?_)
 cases ex with
 | normal => exact WpS.weak (hq hs.1) hs.2
 | _ => exact hs
theorem QJoin.normal {S s : St} {ψ : Prop} {Q : Exit → St → Prop} (hp : ψ) (h : Weak s S) : QJoin S ψ Q .normal s := ⟨hp, h⟩
theorem QJoin.ret {S s : St} {ψ : Prop} {Q : Exit → St → Prop} (h : Q .ret s) : QJoin S ψ Q .ret s := h
theorem QJoin.exit {S s : St} {ψ : Prop} {Q : Exit → St → Prop} {id : Nat} (h : Q (.exit id) s) : QJoin S ψ Q (.exit id) s := h
def QRound {V : Type} (S : V → St) (I : V → Prop) (m : V → Nat) (v : V) (Q : Exit → St → Prop) (ex : Exit) (s : St) : Prop := match ex with
 | .normal => ∃ v', I v' ∧ m v' < m v ∧ Weak s (S v')
 | ex => Q ex s
theorem WpS.loopR {P : Program} {c x : Code} {Q : Exit → St → Prop} {st : St} {V : Type} (S : V → St) (I : V → Prop) (m : V → Nat) (e : c = .loop x) (v0 : V) (hs : Weak st (S v0)) (h0 : I v0)
  (round : ∀ v, I v → WpS P x (QRound S I m v Q) (S v)) : WpS P c Q st :=
 WpS.loop' S I m e v0 hs h0 fun v hv => WpS.mono (round v hv) fun ex s h => by
  cases ex <;> exact h
theorem QRound.again {V : Type} {S : V → St} {I : V → Prop} {m : V → Nat} {v : V} {Q : Exit → St → Prop} {s : St} (v' : V) (h : I v' ∧ m v' < m v) (hw : Weak s (S v')) : QRound S I m v Q .normal s := ⟨v', h.1, h.2, hw⟩
theorem QRound.ret {V : Type} {S : V → St} {I : V → Prop} {m : V → Nat} {v : V} {Q : Exit → St → Prop} {s : St} (h : Q .ret s) : QRound S I m v Q .ret s := h
theorem QRound.exit {V : Type} {S : V → St} {I : V → Prop} {m : V → Nat} {v : V} {Q : Exit → St → Prop} {s : St} {id : Nat} (h : Q (.exit id) s) : QRound S I m v Q (.exit id) s := h
@[irreducible] def nv (c : Code) (n : Nat) : Code := nav c (((List.range (Nat.log2 n)).map fun i => (n >>> i) % 2).reverse)
def opsN (c : Code) (n : Nat) : Array Oper := match nv c n with
 | .region _ ops _ => ops
 | _ => #[]
theorem weak_eq {s s' s'' : St} (h : Weak s s') (e : s' = s'') : Weak s s'' := e ▸ h
def CellsOk (H : List Blk) (c d : List AV) : Prop := c.length = d.length ∧ ∀ (j : Nat) (a b : AV), c[j]? = some a → d[j]? = some b → SnapR1 H a a ∧ b = unfr a
theorem snR1_blk {H : List Blk} {α : Type} {eT eF : α → List AV} {b : Nat} {g sz : Nat} {full : Bool} {xs : List α} (hb : H[b]? = some ⟨g, sz, List.map eT xs⟩) (hn : xs.length ≤ 4611686018427387904) (hc : ∀ x, CellsOk H (eT x) (eF x)) :
  SnapR1 H (.ref b g 0 xs.length full) (.lst (List.map eF xs) false true) := by
 refine SnapR1.ref (fun h => by cases h) (fun i j => ((xs[i]?).bind fun x => (eT x)[j]?).getD .undef) hb rfl (by rw [List.length_map]) hn (by simp) (fun i row row' h1 h2 => ?_) (fun i j row a hi h1 h2 => ?_) (fun i j row' c h1 h2 => ?_)
 ·have h1 : (List.map eT xs)[0 + i]? = some row := h1
  rw [Nat.zero_add, List.getElem?_map] at h1
  rw [List.getElem?_map] at h2
  cases hx : xs[i]? with
  | none => rw [hx] at h1; cases h1
  | some x => rw [hx] at h1 h2; cases h1; cases h2; exact (hc x).1
 ·have h1 : (List.map eT xs)[0 + i]? = some row := h1
  rw [Nat.zero_add, List.getElem?_map] at h1
  cases hx : xs[i]? with
  | none => rw [hx] at h1; cases h1
  | some x =>
   rw [hx] at h1; cases h1
   show SnapR1 H a (((some x).bind fun x => (eT x)[j]?).getD .undef)
   have hj : (eT x)[j]? = some a := h2
   have he : ((some x).bind fun x => (eT x)[j]?).getD .undef = a := by
    show ((eT x)[j]?).getD .undef = a
    rw [hj]; rfl
   rw [he]
   have hlt : j < (eF x).length := by rw [← (hc x).1]; exact (List.getElem?_eq_some_iff.1 hj).1
   exact ((hc x).2 j a _ hj (List.getElem?_eq_getElem hlt)).1
 ·rw [List.getElem?_map] at h1
  cases hx : xs[i]? with
  | none => rw [hx] at h1; cases h1
  | some x =>
   rw [hx] at h1; cases h1
   show c = unfr (((some x).bind fun x => (eT x)[j]?).getD .undef)
   have hlt : j < (eT x).length := by rw [(hc x).1]; exact (List.getElem?_eq_some_iff.1 h2).1
   have hj := List.getElem?_eq_getElem hlt
   have he : ((some x).bind fun x => (eT x)[j]?).getD .undef = (eT x)[j] := by
    show ((eT x)[j]?).getD .undef = _
    rw [hj]; rfl
   rw [he]
   exact ((hc x).2 j _ c hj h2).2
theorem CellsOk.nil {H : List Blk} : CellsOk H [] [] := ⟨rfl, fun j a b h => by simp at h⟩
theorem CellsOk.cons {H : List Blk} {a b : AV} {c d : List AV} (h1 : SnapR1 H a a) (h2 : b = unfr a) (h : CellsOk H c d) : CellsOk H (a :: c) (b :: d) :=
 ⟨by simp [h.1], fun j x y hx hy => by
  cases j with
  | zero => simp at hx hy; subst hx; subst hy; exact ⟨h1, h2⟩
  | succ j => exact h.2 j x y (by simpa using hx) (by simpa using hy)⟩
theorem cInt {H : List Blk} (n : Int) : CellsOk H (eInt n) (eInt n) := .cons (.int _ _) rfl .nil
theorem cBool {H : List Blk} (b : Bool) : CellsOk H (eBool b) (eBool b) := .cons (.bool _) rfl .nil
theorem cl {H : List Blk} (rows : List (List AV)) : SnapR1 H (.lst rows false true) (.lst rows false true) := .lst _ _ _ id
theorem cLie {H : List Blk} (x : Lie) : CellsOk H (eLie x) (eLie x) := .cons (.int _ _) rfl (.cons (.int _ _) rfl .nil)
theorem cPoint {H : List Blk} (x : Point) : CellsOk H (ePoint x) (ePoint x) := .cons (.int _ _) rfl (.cons (.int _ _) rfl .nil)
theorem cHeld {H : List Blk} (x : Held) : CellsOk H (eHeld true x) (eHeld false x) := .cons (.int _ _) rfl (.cons (.int _ _) rfl (.cons (cl _) rfl (.cons (.bool _) rfl (.cons (.int _ _) rfl .nil))))
theorem cDone {H : List Blk} (x : Done) : CellsOk H (eDone true x) (eDone false x) := .cons (.int _ _) rfl (.cons (.bool _) rfl (.cons (cl _) rfl (.cons (cl _) rfl (.cons (cl _) rfl .nil))))
theorem sr_blk {H : List Blk} {α : Type} {eT eF : α → List AV} {b g sz : Nat} {full : Bool} {xs ys : List α} (hb : H[b]? = some ⟨g, sz, List.map eT xs⟩) (hc : ∀ x, CellsOk H (eT x) (eF x)) (h : xs.length ≤ 4611686018427387904 ∧ xs = ys) :
  SnapR1 H (.ref b g 0 xs.length full) (.lst (List.map eF ys) false true) := h.2 ▸ snR1_blk hb h.1 hc
theorem sr_nil {H : List Blk} {α : Type} {e : α → List AV} {ys : List α} {full fr : Bool} (h : [] = ys) : SnapR1 H (.lst [] full fr) (.lst (List.map e ys) false true) := h ▸ .lste _ _ _ (fun h => by cases h)
theorem sr_lst {H : List Blk} {α : Type} {e : α → List AV} {xs ys : List α} {full : Bool} (h : xs = ys) : SnapR1 H (.lst (List.map e xs) full true) (.lst (List.map e ys) false true) := h ▸ .lst _ _ _ (fun h => by cases h)
theorem sr_int {H : List Blk} {k : IntKind} {a b : Int} (h : a = b) : SnapR1 H (.int k a) (.int k b) := h ▸ .int k a
theorem sr_bool {H : List Blk} {a b : Bool} (h : a = b) : SnapR1 H (.bool a) (.bool b) := h ▸ .bool a
theorem sa_lst {L : List (Nat × List AV)} {H : List Blk} {rows : List (List AV)} {full fr : Bool} : Snap1 L H (.lst rows full fr) (.lst rows false false) := .lst _ _ _ _ (fun h => by cases h)
def CellsIn (L : List (Nat × List AV)) (H : List Blk) (c d : List AV) : Prop := c.length = d.length ∧ ∀ (j : Nat) (a b : AV), c[j]? = some a → d[j]? = some b → Snap1 L H a b
theorem sa_blk {L : List (Nat × List AV)} {H : List Blk} {α : Type} {eT eF : α → List AV} {b g sz : Nat} {full : Bool} {xs : List α} (hb : H[b]? = some ⟨g, sz, List.map eT xs⟩) (hc : ∀ x, CellsIn L H (eT x) (eF x)) (hn : xs.length ≤ 4611686018427387904) :
  Snap1 L H (.ref b g 0 xs.length full) (.lst (List.map eF xs) false false) := by
 refine Snap1.ref (fun h => by cases h) hb rfl (by rw [List.length_map]) hn (by simp) (fun i row row' h1 h2 => ?_) (fun i j row row' a c h1 h2 h3 h4 => ?_)
 ·have h1 : (List.map eT xs)[0 + i]? = some row := h1
  rw [Nat.zero_add, List.getElem?_map] at h1
  rw [List.getElem?_map] at h2
  cases hx : xs[i]? with
  | none => rw [hx] at h1; cases h1
  | some x => rw [hx] at h1 h2; cases h1; cases h2; exact (hc x).1
 ·have h1 : (List.map eT xs)[0 + i]? = some row := h1
  rw [Nat.zero_add, List.getElem?_map] at h1
  rw [List.getElem?_map] at h2
  cases hx : xs[i]? with
  | none => rw [hx] at h1; cases h1
  | some x => rw [hx] at h1 h2; cases h1; cases h2; exact (hc x).2 j a c h3 h4
theorem CellsIn.nil {L : List (Nat × List AV)} {H : List Blk} : CellsIn L H [] [] := ⟨rfl, fun j a b h => by simp at h⟩
theorem CellsIn.cons {L : List (Nat × List AV)} {H : List Blk} {a b : AV} {c d : List AV} (h1 : Snap1 L H a b) (h : CellsIn L H c d) : CellsIn L H (a :: c) (b :: d) :=
 ⟨by simp [h.1], fun j x y hx hy => by
  cases j with
  | zero => simp at hx hy; subst hx; subst hy; exact h1
  | succ j => exact h.2 j x y (by simpa using hx) (by simpa using hy)⟩
section
variable {L : List (Nat × List AV)} {H : List Blk}
theorem iInt (n : Int) : CellsIn L H (eInt n) (eInt n) := .cons (.int _ _) .nil
theorem iBool (b : Bool) : CellsIn L H (eBool b) (eBool b) := .cons (.bool _) .nil
theorem iEvent (x : Event) : CellsIn L H (eEvent x) (eEvent x) := .cons (.int _ _) (.cons (.int _ _) (.cons (.int _ _) .nil))
theorem iPoint (x : Point) : CellsIn L H (ePoint x) (ePoint x) := .cons (.int _ _) (.cons (.int _ _) .nil)
end
theorem sr_row {H : List Blk} {α : Type} {enc : Bool → α → List AV} {y : α} {ys : List α} {b g sz : Nat} {full : Bool} {row : List AV} (hb : H[b]? = some ⟨g, sz, [row]⟩) (hc : PW (SnapR1 H) row (enc true y)) (hu : (enc true y).map unfr = enc false y) (h : [y] = ys) :
  SnapR1 H (.ref b g 0 1 full) (.lst (List.map (enc false) ys) false true) := by
 subst h
 refine SnapR1.ref (fun h => by cases h) (fun i j => ((enc true y)[j]?).getD .undef) hb rfl rfl (by decide) (Nat.le_refl _) (fun i row1 row' h1 h2 => ?_) (fun i j row1 a hi h1 h2 => ?_) (fun i j row' c h1 h2 => ?_)
 ·have h1 : [row][0 + i]? = some row1 := h1
  rw [Nat.zero_add] at h1
  cases i with
  | zero =>
   cases h1; cases h2
   rw [hc.1, ← hu, List.length_map]
  | succ i => cases h1
 ·have h1 : [row][0 + i]? = some row1 := h1
  rw [Nat.zero_add] at h1
  cases i with
  | zero =>
   cases h1
   obtain ⟨d, hd, hr⟩ := hc.get h2
   rw [hd]; exact hr
  | succ i => cases h1
 ·cases i with
  | zero =>
   cases h1
   rw [← hu, List.getElem?_map] at h2
   cases hd : (enc true y)[j]? with
   | none => rw [hd] at h2; cases h2
   | some d => rw [hd] at h2; cases h2; rfl
  | succ i => cases h1
end Go.Proofs.Ytglpfccgmfhkdaa.Fw
