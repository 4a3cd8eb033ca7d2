/- What the functions compute, told in plain Lean: numbers, lists, plans. -/

import Derived.Test.YtglpfccgmfhkdaaFwFam
set_option linter.unusedVariables false
namespace Go.Proofs.Ytglpfccgmfhkdaa.Fw
open Go
theorem w64 {n : Int} (h1 : -9223372036854775808 ≤ n) (h2 : n ≤ 9223372036854775807) : IntKind.i64.wrap n = n := by
 rw [IntKind.wrap_i64]; omega
def inR (x a b : Int) : Bool := decide (a ≤ x) && decide (x ≤ b)
theorem inR_true {x a b : Int} : inR x a b = true ↔ a ≤ x ∧ x ≤ b := by simp [inR]
theorem nth_eq {α : Type} [Inhabited α] {xs : List α} {i : Int} (h : i.toNat < xs.length) : nth xs i = xs[i.toNat] := by
 have := nth_some h
 rw [List.getElem?_eq_getElem h] at this
 exact (Option.some.inj this).symm
theorem nth_mem {α : Type} [Inhabited α] {xs : List α} {i : Int} (h : i.toNat < xs.length) : nth xs i ∈ xs := by rw [nth_eq h]; exact List.getElem_mem h
theorem nth_nat {α : Type} [Inhabited α] {xs : List α} {i : Nat} (h : i < xs.length) : nth xs (i : Int) = xs[i] := by rw [nth_eq (by simpa using h)]; simp
def first {α : Type} (xs : List α) (p : α → Bool) : Option Nat := xs.findIdx? p
theorem first_none {α : Type} {xs : List α} {p : α → Bool} (h : ∀ x ∈ xs, p x = false) : first xs p = none := by
 unfold first; rw [List.findIdx?_eq_none_iff]; exact h
theorem first_some {α : Type} [Inhabited α] {xs : List α} {p : α → Bool} {i : Int} (h : ∀ x ∈ xs.take i.toNat, p x = false) (hi : i.toNat < xs.length) (hp : p (nth xs i) = true) : first xs p = some i.toNat := by
 unfold first
 rw [List.findIdx?_eq_some_iff_getElem]
 refine ⟨hi, by rw [← nth_eq hi]; exact hp, fun j hj => ?_⟩
 have := h xs[j] (by rw [List.mem_take_iff_getElem]; exact ⟨j, by omega, rfl⟩)
 simp [this]
def optI (o : Option Nat) : Int := match o with
 | some i => i
 | none => -1
def idxInt (xs : List Int) (v : Int) : Int := optI (first xs (fun x => v == x))
def hasInt (xs : List Int) (v : Int) : Bool := xs.contains v
def idt {α : Type} (x : α) : α := x
def meets (a b : List Int) : Bool := a.any fun x => b.contains x
def dup (l : List Int) : Bool := !decide l.Nodup
def needs (w : Way) : List Lie := w.lies ++ w.flanks
def listOk (l : List Int) (n : Int) : Bool := decide (l.length ≤ 30) && l.all (fun x => inR x 0 (n - 1)) && decide l.Nodup
def liesIn (p : Plan) (l : List Lie) : Bool := decide (l.length ≤ 30) && l.all (fun x => inR x.sw 0 (p.switches.length - 1) && inR x.lie 1 2) && decide (l.map (·.sw)).Nodup
def wayGood (p : Plan) (w : Way) : Bool :=
 decide (w.sections ≠ []) && listOk w.sections p.sections && listOk w.over p.sections && listOk w.near p.sections && liesIn p w.lies && liesIn p w.flanks &&
 decide ((needs w).map (·.sw)).Nodup && w.lies.all (fun x => w.sections.contains (nth p.switches x.sw)) && !meets w.sections w.over
def barAt (p : Plan) (i k : Nat) : Bool := nth (nth p.bars i) k
def barBad (p : Plan) (i k : Nat) : Bool := (barAt p i k != barAt p k i) || (decide (i ≠ k) && !barAt p i k && meets (nth p.ways i).sections (nth p.ways k).sections)
def planBars (p : Plan) : Fault := if p.bars.length = p.ways.length then
  match first p.bars (fun b => decide (b.length ≠ p.ways.length)) with
  | some k => ⟨4, k⟩
  | none => match first (List.range p.ways.length) (fun i => (List.range p.ways.length).any fun k => barBad p i k) with
   | some k => ⟨5, k⟩
   | none => ⟨0, 0⟩
 else ⟨4, 0⟩
def planWays (p : Plan) : Fault := match first p.ways (fun w => !wayGood p w) with
 | some k => ⟨3, k⟩
 | none => planBars p
def planSw (p : Plan) : Fault := match first p.switches (fun s => !inR s 0 (p.sections - 1)) with
 | some k => ⟨2, k⟩
 | none => planWays p
def planOk (p : Plan) : Fault := if inR p.sections 1 60 && inR p.hold 1 300 && decide (p.switches.length ≤ 40) && decide (p.ways.length ≤ 100) then planSw p else ⟨1, 0⟩
def planGood (p : Plan) : Bool := decide (planOk p = ⟨0, 0⟩)
def evGood (p : Plan) (e : Event) : Bool :=
 if e.op = 1 ∨ e.op = 2 then inR e.tgt 0 (p.ways.length - 1) && decide (e.lie = 0)
 else if e.op = 3 ∨ e.op = 4 then inR e.tgt 0 (p.sections - 1) && decide (e.lie = 0)
 else if e.op = 5 then inR e.tgt 0 (p.switches.length - 1) && inR e.lie 0 2
 else if e.op = 6 then inR e.tgt 0 (p.switches.length - 1) && inR e.lie 1 2
 else if e.op = 7 then decide (e.tgt = 0) && decide (e.lie = 0)
 else false
def small {α : Type} (a : List α) : Prop := a.length ≤ 1048576
def yes {α : Type} (a : α) : Bool := true
def preNeeds (w : Way) : Prop := w.lies.length ≤ 1048576 ∧ w.flanks.length ≤ 1048576
end Go.Proofs.Ytglpfccgmfhkdaa.Fw
