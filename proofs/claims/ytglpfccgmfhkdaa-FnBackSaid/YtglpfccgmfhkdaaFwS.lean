/- The framework, part S: the steps of a walk that a program prints; the program's own kinds of values, and the cells that stand for them. -/

import Derived.Test.YtglpfccgmfhkdaaFwR
set_option linter.unusedVariables false
namespace Go.Proofs.Ytglpfccgmfhkdaa.Fw
open Go
structure Lie where
 sw : Int
 lie : Int
 deriving Inhabited, DecidableEq
structure Way where
 sections : List Int
 lies : List Lie
 flanks : List Lie
 over : List Int
 near : List Int
 deriving Inhabited, DecidableEq
structure Plan where
 sections : Int
 switches : List Int
 ways : List Way
 bars : List (List Bool)
 hold : Int
 deriving Inhabited, DecidableEq
structure Event where
 op : Int
 tgt : Int
 lie : Int
 deriving Inhabited, DecidableEq
structure Point where
 want : Int
 lies : Int
 deriving Inhabited, DecidableEq
structure Held where
 state : Int
 gone : Int
 been : List Bool
 shown : Bool
 timer : Int
 deriving Inhabited, DecidableEq
structure Frame where
 ok : Bool
 occ : List Bool
 points : List Point
 ways : List Held
 deriving Inhabited, DecidableEq
structure Done where
 code : Int
 frame : Frame
 deriving Inhabited, DecidableEq
structure Fault where
 code : Int
 pos : Int
 deriving Inhabited, DecidableEq
structure Stays where
 ways : List Int
 sections : List Int
 points : List Int
 deriving Inhabited, DecidableEq
def eInt (n : Int) : List AV := [.int .i64 n]
def eU8 (n : UInt8) : List AV := [.int .u8 n.toNat]
def eBool (b : Bool) : List AV := [.bool b]
def eL {α : Type} (e : α → List AV) (fr : Bool) (xs : List α) : List AV := [.lst (xs.map e) false fr]
def eLie (x : Lie) : List AV := [.int .i64 x.sw, .int .i64 x.lie]
def eWay (fr : Bool) (x : Way) : List AV := [.lst (x.sections.map eInt) false fr, .lst (x.lies.map eLie) false fr, .lst (x.flanks.map eLie) false fr, .lst (x.over.map eInt) false fr, .lst (x.near.map eInt) false fr]
def ePlan (fr : Bool) (x : Plan) : List AV := [.int .i64 x.sections, .lst (x.switches.map eInt) false fr, .lst (x.ways.map (eWay false)) false fr, .lst (x.bars.map (eL eBool false)) false fr, .int .i64 x.hold]
def eEvent (x : Event) : List AV := [.int .i64 x.op, .int .i64 x.tgt, .int .i64 x.lie]
def ePoint (x : Point) : List AV := [.int .i64 x.want, .int .i64 x.lies]
def eHeld (fr : Bool) (x : Held) : List AV := [.int .i64 x.state, .int .i64 x.gone, .lst (x.been.map eBool) false fr, .bool x.shown, .int .i64 x.timer]
def eFrame (fr : Bool) (x : Frame) : List AV := [.bool x.ok, .lst (x.occ.map eBool) false fr, .lst (x.points.map ePoint) false fr, .lst (x.ways.map (eHeld false)) false fr]
def eDone (fr : Bool) (x : Done) : List AV := [.int .i64 x.code, .bool x.frame.ok, .lst (x.frame.occ.map eBool) false fr, .lst (x.frame.points.map ePoint) false fr, .lst (x.frame.ways.map (eHeld false)) false fr]
def eFault (x : Fault) : List AV := [.int .i64 x.code, .int .i64 x.pos]
def eStays (fr : Bool) (x : Stays) : List AV := [.lst (x.ways.map eInt) false fr, .lst (x.sections.map eInt) false fr, .lst (x.points.map eInt) false fr]
def nth {α : Type} [Inhabited α] (xs : List α) (i : Int) : α := xs.getD i.toNat default
theorem nth_some {α : Type} [Inhabited α] {xs : List α} {i : Int} (h : i.toNat < xs.length) : xs[i.toNat]? = some (nth xs i) := by
 unfold nth
 rw [List.getD_eq_getElem?_getD, List.getElem?_eq_getElem h]; rfl
def nav : Code → List Nat → Code
 | c, [] => c
 | .seq x y, n :: p => match n with
  | 0 => nav x p
  | _ => nav y p
 | .cond _ x y, n :: p => match n with
  | 0 => nav x p
  | _ => nav y p
 | .block _ x, _ :: p => nav x p
 | .loop x, _ :: p => nav x p
 | .scope x, _ :: p => nav x p
 | c, _ => c
def bodyC (f : Func) : Code := f.body.getD .skip
section
variable {P : Program} {esc : List Nat} {ops : Array Oper} {l l' : List (Oper × Bool)} {T T' : List AV} {L L' : List (Nat × List AV)} {H H' : List Blk} {K : List AV → List (Nat × List AV) → List Blk → Prop}
end
theorem WpS.seq' {P : Program} {c x y : Code} {Q : Exit → St → Prop} {st : St} (e : c = .seq x y) (h : WpS P x (QSeq P y Q) st) : WpS P c Q st := e ▸ WpS.seq h
theorem WpS.cond' {P : Program} {c x y : Code} {o : Operand} {Q : Exit → St → Prop} {st : St} {b : Bool} (e : c = .cond o x y) (hb : opv st.T o = .bool b) (h1 : b = true → WpS P x Q st) (h2 : b = false → WpS P y Q st) : WpS P c Q st :=
 e ▸ WpS.cond (by rw [hb]; exact ⟨h1, h2⟩)
theorem WpS.block' {P : Program} {c x : Code} {id : Nat} {Q : Exit → St → Prop} {st : St} (e : c = .block id x) (h : WpS P x (QBlock id Q) st) : WpS P c Q st := e ▸ WpS.block h
theorem WpS.skip' {P : Program} {c : Code} {Q : Exit → St → Prop} {st : St} (e : c = .skip) (h : Q .normal st) : WpS P c Q st := e ▸ WpS.skip h
theorem WpS.ret' {P : Program} {c : Code} {Q : Exit → St → Prop} {st : St} (e : c = .ret) (h : Q .ret st) : WpS P c Q st := e ▸ WpS.ret h
theorem WpS.exit' {P : Program} {c : Code} {id : Nat} {Q : Exit → St → Prop} {st : St} (e : c = .exit id) (h : Q (.exit id) st) : WpS P c Q st := e ▸ WpS.exit h
theorem WpS.loop' {P : Program} {c x : Code} {Q : Exit → St → Prop} {st : St} {V : Type} (S : V → St) (I : V → Prop) (m : V → Nat) (e : c = .loop x) (v0 : V) (hs : Weak st (S v0)) (h0 : I v0)
  (round : ∀ v, I v → WpS P x (fun ex s => match ex with
   | .normal => ∃ v', I v' ∧ m v' < m v ∧ Weak s (S v')
   | ex => Q ex s) (S v)) : WpS P c Q st := by
 subst e
 refine WpS.weak (WpS.loop (fun n s => ∃ v, I v ∧ s = S v ∧ n = m v) (m v0) ⟨v0, h0, rfl, rfl⟩ ?_) hs
 rintro n s ⟨v, hv, rfl, rfl⟩
 refine WpS.mono (round v hv) fun ex s hq => ?_
 cases ex with
 | normal =>
  obtain ⟨v', h1, h2, h3⟩ := hq
  exact ⟨m v', S v', h2, h3, v', h1, rfl, rfl⟩
 | _ => exact hq
theorem QSeq.normal {P : Program} {y : Code} {Q : Exit → St → Prop} {s : St} (h : WpS P y Q s) : QSeq P y Q .normal s := h
theorem QSeq.ret {P : Program} {y : Code} {Q : Exit → St → Prop} {s : St} (h : Q .ret s) : QSeq P y Q .ret s := h
theorem QSeq.exit {P : Program} {y : Code} {Q : Exit → St → Prop} {s : St} {id : Nat} (h : Q (.exit id) s) : QSeq P y Q (.exit id) s := h
theorem QBlock.normal {id : Nat} {Q : Exit → St → Prop} {s : St} (h : Q .normal s) : QBlock id Q .normal s := h
theorem QBlock.ret {id : Nat} {Q : Exit → St → Prop} {s : St} (h : Q .ret s) : QBlock id Q .ret s := h
theorem QBlock.here {id : Nat} {Q : Exit → St → Prop} {s : St} (h : Q .normal s) : QBlock id Q (.exit id) s := by
 show (if id = id then _ else _); rw [if_pos rfl]; exact h
theorem QBlock.there {id id' : Nat} {Q : Exit → St → Prop} {s : St} (hne : id' ≠ id) (h : Q (.exit id') s) : QBlock id Q (.exit id') s := by
 show (if id' = id then _ else _); rw [if_neg hne]; exact h
theorem Snap2.of1 {L : List (Nat × List AV)} {H : List Blk} {a b : AV} (h : Snap1 L H a b) : Snap2 L H a b := .inr h
theorem Snap2.agg {L : List (Nat × List AV)} {H : List Blk} {l l' : List AV} (h : PW (Snap1 L H) l l') : Snap2 L H (.agg l) (.agg l') := .inl ⟨l, l', rfl, rfl, h⟩
theorem SnapR3.of1 {H : List Blk} {a b : AV} (h : SnapR1 H a b) : SnapR3 H a b := .inr (.inr h)
theorem SnapR3.agg {H : List Blk} {l l' : List AV} (h : PW (SnapR1 H) l l') : SnapR3 H (.agg l) (.agg l') := .inr (.inl ⟨l, l', rfl, rfl, h⟩)
end Go.Proofs.Ytglpfccgmfhkdaa.Fw
