/- Functions that write a frame that lies in the memory: what they ask, what they leave. -/

import Derived.Test.YtglpfccgmfhkdaaSpF
set_option linter.unusedVariables false
namespace Go.Proofs.Ytglpfccgmfhkdaa.Fw
open Go
def idlePreM (j : Int) (k : Bool) (o : List Bool) (q : List Point) (w : List Held) (i : List Nat) (b : List (List Bool)) : Prop := FamG w i b ∧ 0 ≤ j ∧ j < w.length
def idlePostM (j : Int) (k : Bool) (o : List Bool) (q : List Point) (w : List Held) (i : List Nat) (b : List (List Bool)) (o' : List Bool) (q' : List Point) (w' : List Held) (i' : List Nat) (b' : List (List Bool)) : Prop :=
 FamG w' i' b' ∧ view w' i' b' = (view w i b).set j.toNat (idleN (nth (view w i b) j).been.length)
def theF (k : Bool) (o : List Bool) (q : List Point) (w : List Held) (i : List Nat) (b : List (List Bool)) : Frame := ⟨k, o, q, view w i b⟩
def passPreM (s : Way) (j : Int) (k : Bool) (o : List Bool) (q : List Point) (w : List Held) (i : List Nat) (b : List (List Bool)) : Prop :=
 FamG w i b ∧ 0 ≤ j ∧ j < w.length ∧ s.sections.length ≤ 1048576 ∧ (∀ x ∈ s.sections, 0 ≤ x ∧ x < o.length) ∧ (nth (view w i b) j).been.length = s.sections.length ∧ 0 ≤ (nth (view w i b) j).gone ∧ (nth (view w i b) j).gone ≤ s.sections.length
def passPostM (s : Way) (j : Int) (k : Bool) (o : List Bool) (q : List Point) (w : List Held) (i : List Nat) (b : List (List Bool)) (o' : List Bool) (q' : List Point) (w' : List Held) (i' : List Nat) (b' : List (List Bool)) : Prop :=
 FamG w' i' b' ∧ view w' i' b' = (view w i b).set j.toNat (passH s.sections (theF k o q w i b) (nth (view w i b) j))
def setPreM (p : Plan) (k : Bool) (o : List Bool) (q : List Point) (w : List Held) (i : List Nat) (b : List (List Bool)) : Prop := FamG w i b ∧ settlePre p (theF k o q w i b)
def setPostM (p : Plan) (k : Bool) (o : List Bool) (q : List Point) (w : List Held) (i : List Nat) (b : List (List Bool)) (o' : List Bool) (q' : List Point) (w' : List Held) (i' : List Nat) (b' : List (List Bool)) : Prop :=
 FamG w' i' b' ∧ view w' i' b' = (settleF p (theF k o q w i b)).ways
def samePre (f g : Frame) : Prop := f.ways.length = g.ways.length ∧ smallF f ∧ smallF g ∧ ∀ (i : Nat) (x y : Held), f.ways[i]? = some x → g.ways[i]? = some y → x.been.length = y.been.length
def sameW (f g : Frame) : Bool := decide (f.ways = g.ways)
def heldPre (p : Plan) (f : Frame) (i : Int) : Prop := PlanIn p ∧ smallF f ∧ f.ways.length = p.ways.length ∧ 0 ≤ i ∧ i < p.ways.length
def heldOk (p : Plan) (f : Frame) (i : Int) : Bool :=
 let h := nth f.ways i
 let n := (nth p.ways i).sections.length
 inR h.state 0 4 && decide (h.been.length = n) && inR h.gone 0 ((n : Int) - 1) && (decide (h.state = 4) || (decide (h.gone = 0) && h.been.all (fun b => !b))) && (h.been.take h.gone.toNat).all (fun b => b) &&
 (if h.state = 3 then h.shown && inR h.timer 1 p.hold else decide (h.timer = 0) && (decide (h.state ≠ 0) || !h.shown) && (decide (h.state ≠ 2) || h.shown))
def barsOk (p : Plan) (f : Frame) : Bool := (List.range f.ways.length).all fun i => (List.range f.ways.length).all fun k => decide (i = k) || !barAt p i k || decide ((nth f.ways i).state = 0) || decide ((nth f.ways k).state = 0)
def frameOk (p : Plan) (f : Frame) : Bool :=
 planGood p && f.ok && decide ((f.occ.length : Int) = p.sections) && decide (f.points.length = p.switches.length) && decide (f.ways.length = p.ways.length) &&
 f.points.all (fun x => inR x.want 1 2 && inR x.lies 0 2) && (List.range f.ways.length).all (fun i => heldOk p f i) && barsOk p f && sameW f (settleF p f)
def frameSm (p : Plan) (f : Frame) : Prop := smallF f
theorem hasBool_iff {xs : List Bool} {b : Bool} : hasBool xs b = true ↔ b ∈ xs := by unfold hasBool; simp
theorem idxBool_has (xs : List Bool) (x : Bool) : (decide (idxBool xs x ≥ 0)) = hasBool xs x := by
 unfold idxBool
 cases h : first xs (fun y => x == y) with
 | none =>
  unfold first at h
  rw [List.findIdx?_eq_none_iff] at h
  have : hasBool xs x = false := by
   rw [← Bool.not_eq_true, hasBool_iff]
   intro hm
   have := h x hm
   simp at this
  rw [this]; rfl
 | some i =>
  unfold first at h
  rw [List.findIdx?_eq_some_iff_getElem] at h
  obtain ⟨hi, hx, _⟩ := h
  have : hasBool xs x = true := by
   rw [hasBool_iff]
   have hx : x = xs[i] := by simpa using hx
   rw [hx]; exact List.getElem_mem hi
  rw [this]
  show decide ((i : Int) ≥ 0) = true
  simp
def sameF (a b : Frame) : Bool := eqv a.occ b.occ && eqv a.points b.points && eqv a.ways b.ways
def eqHelds (a b : List Held) (_ : Unit) : Bool := eqv a b
def lieOff (f : Frame) (l : Lie) : Bool := ((nth f.points l.sw).want != l.lie) || ((nth f.points l.sw).lies != l.lie)
def provL (p : Plan) (f : Frame) (i : Int) : Prop := ∀ l ∈ needs (nth p.ways i), lieOff f l = false
theorem provedF_eq (p : Plan) (f : Frame) (i : Int) : provedF p f i = ((needs (nth p.ways i)).all (fun l => !lieOff f l) && !someF f (nth p.ways i).sections && !someF f (nth p.ways i).over) := by
 have hq : ∀ l : Lie, decide (nth f.points l.sw = ⟨l.lie, l.lie⟩) = !lieOff f l := fun l => by
  unfold lieOff
  rcases nth f.points l.sw with ⟨x, y⟩
  rw [Bool.eq_iff_iff]; simp
 unfold provedF
 simp only [hq]
theorem two2 {α : Type} {x y : α} {v : Int} (h0 : 0 ≤ v) (h1 : v.toNat < [x, y].length) : v = 0 ∨ v = 1 := by simp at h1; omega
theorem FamG.at' {w : List Held} {i : List Nat} {b : List (List Bool)} {j : Int} (F : FamG w i b) (h : j.toNat < w.length) : FamAt (view w i b) i j (nth (view w i b) j) w b := FamAt.start F.ok F.nd h rfl F.len
section
variable {V : List Held} {ids ids' : List Nat} {v : Int} {h x : Held} {ws ws' : List Held} {bs bs' : List (List Bool)}
theorem FamAt.G (F : FamAt V ids v h ws bs) : FamG ws ids bs := ⟨F.ok, F.nd, F.len⟩
theorem FamAt.nthv (F : FamAt V ids v h ws bs) : nth (view ws ids bs) v = h := by
 rw [nth_eq (by rw [view_len F.ok]; exact F.lt)]
 simp only [F.vw, List.getElem_set_self]
theorem FamAt.again (F : FamAt V ids v h ws bs) (G : FamG ws' ids' bs') (e : view ws' ids' bs' = (view ws ids bs).set v.toNat x) : FamAt V ids' v x ws' bs' where
 ok := G.ok
 nd := G.nd
 lt := by
  have := congrArg List.length e
  rw [view_len G.ok, List.length_set, view_len F.ok] at this
  have := F.lt; omega
 vw := by rw [e, F.vw, List.set_set]
 len := G.len
end
theorem passH_same {s : List Int} {f g : Frame} {h : Held} (e : f.occ = g.occ) : passH s f h = passH s g h := by
 have ho : occAt f = occAt g := by funext x; unfold occAt; rw [e]
 have hg : ∀ (been : List Bool) (n q : Nat), goOn s f been n q = goOn s g been n q := fun been n => by
  induction n with
  | zero => intro q; rfl
  | succ n ih => intro q; unfold goOn; rw [ho, ih]
 unfold passH
 simp only [ho, hg]
def passB (s : List Int) (f : Frame) (h : Held) : List Bool := List.zipWith (fun b x => b || occAt f x) h.been s
theorem passH_eq (s : List Int) (f : Frame) (h : Held) : passH s f h = if goOn s f (passB s f h) s.length h.gone.toNat = s.length then idleN s.length else { h with been := passB s f h, gone := goOn s f (passB s f h) s.length h.gone.toNat } := rfl
def passI0 (s : List Int) (f : Frame) (V : List Held) (ids : List Nat) (j : Int) (ws : List Held) (bs : List (List Bool)) (k : Int) : Prop :=
 upI s.length (fun _ => false) k ∧ FamAt V ids j { nth V j with been := upBeen s f (nth V j).been k.toNat } ws bs
def passI1 (s : List Int) (f : Frame) (V : List Held) (ids : List Nat) (j : Int) (bs : List (List Bool)) (ws : List Held) : Prop :=
 ∃ g, goI s f (passB s f (nth V j)) (nth V j).gone g ∧ FamAt V ids j { nth V j with been := passB s f (nth V j), gone := g } ws bs
theorem stop_go {s : List Int} {f : Frame} {been : List Bool} {g : Int} (hs : s.length ≤ 1048576) (h : decide (g < (s.length : Int)) = true) :
  ((!(nth been g)) || ((nth f.occ (nth s g)) || ((decide (g < (IntKind.i64.wrap ((s.length : Int) - 1)))) && (!(nth been (IntKind.i64.wrap (g + 1))))))) = !goCond s f been g := by
 unfold goCond
 rw [h, Bool.true_and, w64 (n := (s.length : Int) - 1) (by omega) (by omega)]
 have : (g == (s.length : Int) - 1) = !decide (g < (s.length : Int) - 1) := by
  have h : g < (s.length : Int) := by simpa using h
  rw [Bool.eq_iff_iff]; simp; omega
 rw [this]
 cases nth been g <;> cases nth f.occ (nth s g) <;> cases decide (g < (s.length : Int) - 1) <;> cases nth been (IntKind.i64.wrap (g + 1)) <;> rfl
end Go.Proofs.Ytglpfccgmfhkdaa.Fw
