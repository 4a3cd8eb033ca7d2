/- Frames: what is read of them; what becomes of them. -/

import Derived.Test.YtglpfccgmfhkdaaSpD
set_option linter.unusedVariables false
namespace Go.Proofs.Ytglpfccgmfhkdaa.Fw
open Go
def smallF (f : Frame) : Prop := f.occ.length ≤ 1048576 ∧ f.points.length ≤ 1048576 ∧ f.ways.length ≤ 1048576 ∧ ∀ h ∈ f.ways, h.been.length ≤ 1048576
structure PlanIn (p : Plan) : Prop where
 secs : 0 ≤ p.sections ∧ p.sections ≤ 60
 ways : p.ways.length ≤ 100
 sw : p.switches.length ≤ 40
 sections : ∀ w ∈ p.ways, w.sections ≠ [] ∧ w.sections.length ≤ 30 ∧ ∀ x ∈ w.sections, 0 ≤ x ∧ x < p.sections
 over : ∀ w ∈ p.ways, w.over.length ≤ 30 ∧ ∀ x ∈ w.over, 0 ≤ x ∧ x < p.sections
 near : ∀ w ∈ p.ways, w.near.length ≤ 30 ∧ ∀ x ∈ w.near, 0 ≤ x ∧ x < p.sections
 lies : ∀ w ∈ p.ways, w.lies.length ≤ 30 ∧ w.flanks.length ≤ 30 ∧ ∀ x ∈ needs w, 0 ≤ x.sw ∧ x.sw < p.switches.length
 switches : ∀ x ∈ p.switches, 0 ≤ x ∧ x < p.sections
structure FrameIn (p : Plan) (f : Frame) : Prop where
 occ : (f.occ.length : Int) = p.sections
 points : f.points.length = p.switches.length
 ways : f.ways.length = p.ways.length
 been : ∀ (i : Nat) (h : Held) (w : Way), f.ways[i]? = some h → p.ways[i]? = some w → h.been.length = w.sections.length
 gone : ∀ h ∈ f.ways, 0 ≤ h.gone ∧ h.gone ≤ h.been.length
def occAt (f : Frame) (x : Int) : Bool := nth f.occ x
def someF (f : Frame) (l : List Int) : Bool := l.any (occAt f)
def somePre (f : Frame) (l : List Int) : Prop := ∀ x ∈ l, 0 ≤ x ∧ x < f.occ.length
def provedF (p : Plan) (f : Frame) (i : Int) : Bool :=
 (needs (nth p.ways i)).all (fun l => decide (nth f.points l.sw = ⟨l.lie, l.lie⟩)) && !someF f (nth p.ways i).sections && !someF f (nth p.ways i).over
def provedPre (p : Plan) (f : Frame) (i : Int) : Prop := PlanIn p ∧ FrameIn p f ∧ 0 ≤ i ∧ i < p.ways.length
def idleN (n : Nat) : Held := ⟨0, 0, List.replicate n false, false, 0⟩
def idleH (p : Plan) (i : Int) : Held := idleN (nth p.ways i).sections.length
def idlePre (p : Plan) (i : Int) : Prop := PlanIn p ∧ 0 ≤ i ∧ i < p.ways.length
def goOn (s : List Int) (f : Frame) (been : List Bool) : Nat → Nat → Nat
 | 0, g => g
 | n + 1, g => if g < s.length ∧ been.getD g false = true ∧ occAt f (s.getD g 0) = false ∧ (g + 1 = s.length ∨ been.getD (g + 1) false = true) then goOn s f been n (g + 1) else g
def passH (s : List Int) (f : Frame) (h : Held) : Held :=
 let been := List.zipWith (fun b x => b || occAt f x) h.been s
 let g := goOn s f been s.length h.gone.toNat
 if g = s.length then idleN s.length else { h with been := been, gone := g }
def stepH (p : Plan) (f : Frame) (i : Nat) : Held :=
 let h := nth f.ways i
 let s := (nth p.ways i).sections
 if h.state = 0 then h else
 let h := if h.state ≠ 4 ∧ occAt f (nth s 0) = true then { h with state := 4, timer := 0 } else h
 let h := if h.state = 1 ∨ h.state = 2 then (if provedF p f i = true then { h with state := 2, shown := true } else { h with state := 1 }) else h
 if h.state = 4 then passH s f h else h
def settleN (p : Plan) : Nat → Frame → Frame
 | 0, f => f
 | n + 1, f => let g := settleN p n f; { g with ways := g.ways.set n (stepH p g n) }
def settleF (p : Plan) (f : Frame) : Frame := settleN p f.ways.length f
def settlePre (p : Plan) (f : Frame) : Prop := PlanIn p ∧ FrameIn p f
end Go.Proofs.Ytglpfccgmfhkdaa.Fw
