/- The framework, part E: operations that leave the abstract memory alone. -/

import Derived.Test.YtglpfccgmfhkdaaFwD
import Derived.Laws.StructEq
set_option linter.unusedVariables false
namespace Go.Proofs.Ytglpfccgmfhkdaa.Fw
open Go
structure Quiet (E E' : Env) : Prop where
 step : Step E E'
 m : E'.m = E.m
 mL : E'.mL = E.mL
 gen : E'.gen = E.gen
 sz : E'.sz = E.sz
 cp : E'.cp = E.cp
 keep : ∀ c, c < E.w.heap.size → E'.w.heap[c]? = E.w.heap[c]?
 pa : ∀ c, E'.PA c → E.PA c ∨ (E.w.heap.size ≤ c ∧ c < E'.w.heap.size)
 pfpa : ∀ c, E'.PF c → E'.PA c
theorem Quiet.refl {E : Env} {H : List Blk} (h : SimH E H) : Quiet E E := ⟨.refl E, rfl, rfl, rfl, rfl, rfl, fun _ _ => rfl, fun _ h => .inl h, h.pfpa⟩
theorem Quiet.simH {E E' : Env} {H : List Blk} (q : Quiet E E') (h : SimH E H) : SimH E' H where
 heap := fun b c hb => by
  rw [q.m] at hb
  obtain ⟨blk, cs, ty, q1, q0, q2, q3, q4, q5, q6⟩ := h.heap b c hb
  refine ⟨blk, cs, ty, q1, by rw [q.sz]; exact q0, ?_, by rw [q.cp, q.sz]; exact q3, by rw [q.cp]; exact q4, by rw [q.sz]; exact q5, fun i j row a hr hj => ?_⟩
  ·rw [q.keep c (h.ltH c ⟨b, hb⟩)]; exact q2
  ·obtain ⟨u, hu, hr'⟩ := q6 i j row a hr hj
   exact ⟨u, by rw [q.sz]; exact hu, hr'.le q.step.le.noL⟩
 gens := by rw [q.gen]; exact h.gens
 nilb := by rw [q.m, q.sz]; exact h.nilb
 fresh := by rw [q.m, q.gen]; exact h.fresh
 injH := by rw [q.m]; exact h.injH
 injL := by rw [q.mL]; exact h.injL
 injHL := by rw [q.m, q.mL]; exact h.injHL
 notH := fun c hc ⟨b, hb⟩ => by
  rw [q.m] at hb
  rcases q.pa c hc with hc | ⟨hc, _⟩
  ·exact h.notH c hc ⟨b, hb⟩
  ·have := h.ltH c ⟨b, hb⟩; omega
 notL := fun c hc ⟨b, hb⟩ => by
  rw [q.mL] at hb
  rcases q.pa c hc with hc | ⟨hc, _⟩
  ·exact h.notL c hc ⟨b, hb⟩
  ·have := h.ltL c ⟨b, hb⟩; omega
 pfpa := q.pfpa
 ltP := fun c hc => by
  rcases q.pa c hc with hc | ⟨_, hc⟩
  ·exact Nat.lt_of_lt_of_le (h.ltP c hc) q.step.size
  ·exact hc
 ltH := fun c ⟨b, hb⟩ => by rw [q.m] at hb; exact Nat.lt_of_lt_of_le (h.ltH c ⟨b, hb⟩) q.step.size
 ltL := fun c ⟨b, hb⟩ => by rw [q.mL] at hb; exact Nat.lt_of_lt_of_le (h.ltL c ⟨b, hb⟩) q.step.size
theorem Quiet.simL {E E' : Env} {H : List Blk} {L : List (Nat × List AV)} (q : Quiet E E') (h : SimH E H) (l : SimL E L) : SimL E' L := fun t c hm => by
 rw [q.mL] at hm
 obtain ⟨cells, cs, ty, q1, q2, q3⟩ := l t c hm
 exact ⟨cells, cs, ty, q1, by rw [q.keep c (h.ltL c ⟨t, hm⟩)]; exact q2, q3.mono fun _ _ k => k.le q.step.le.noL⟩
def binI (op : BinOp) (k : IntKind) (a b : Int) (K : AV → Prop) : Prop := match op with
 | .add => K (.int k (k.wrap (a + b)))
 | .sub => K (.int k (k.wrap (a - b)))
 | .mul => K (.int k (k.wrap (a * b)))
 | .quo => b ≠ 0 ∧ K (.int k (k.wrap (a.tdiv b)))
 | .rem => b ≠ 0 ∧ K (.int k (a.tmod b))
 | .and => K (.int k (k.wrap (BitVec.ofInt k.bits a &&& BitVec.ofInt k.bits b).toNat))
 | .eql => K (.bool (a == b))
 | .neq => K (.bool (a != b))
 | .lss => K (.bool (decide (a < b)))
 | .leq => K (.bool (decide (a ≤ b)))
 | .gtr => K (.bool (decide (a > b)))
 | .geq => K (.bool (decide (a ≥ b)))
 | _ => False
def two (P : Program) (t : TypeId) : Bool :=
 match P.underlying t with
 | some (.struct fs) => !P.stoodInHeld t && !P.eqGuardType P.depth t && (match fs.toList with
  | [f, g] => f.name != "_" && g.name != "_" && f.offset == 0 && g.offset == 1 && (P.underlying f.type matches some (.int .i64)) && (P.underlying g.type matches some (.int .i64))
  | _ => false)
 | _ => false
def binII (op : BinOp) (k : IntKind) (a : Int) (k' : IntKind) (b : Int) (K : AV → Prop) : Prop := match op with
 | .shl => 0 ≤ b ∧ K (.int k (k.wrap (a * 2 ^ (min b.toNat k.bits))))
 | .shr => 0 ≤ b ∧ K (.int k (a.fdiv (2 ^ (min b.toNat k.bits))))
 | op => if k = k' then binI op k a b K else False
def isBoolT (P : Program) (t : TypeId) : Bool := match P.underlying t with
 | some .bool => true
 | _ => false
def binBB (P : Program) (op : BinOp) (t : TypeId) (a b : Bool) (K : AV → Prop) : Prop := if isBoolT P t = true then (match op with
  | .eql => K (.bool (a == b))
  | .neq => K (.bool (a != b))
  | _ => False) else False
def binSS (op : BinOp) (a b : ByteArray) (K : AV → Prop) : Prop := match op with
  | .add => a.size + b.size ≤ 9223372036854775807 ∧ K (.str (a ++ b))
  | .eql => K (.bool (a.toList == b.toList))
  | .neq => K (.bool (!(a.toList == b.toList)))
  | _ => False
def binTwo (op : BinOp) (a b c d : Int) (K : AV → Prop) : Prop := match op with
  | .eql => K (.bool (a == c && b == d))
  | .neq => K (.bool (!(a == c && b == d)))
  | _ => False
def twoOf : List AV → Option (Int × Int)
 | [.int .i64 a, .int .i64 b] => some (a, b)
 | _ => none
def elemT (P : Program) (t : TypeId) : Option TypeId := match P.underlying t with
 | some (.slice e) => some e
 | _ => none
def isNilC : Operand → Bool
 | .const (.slice none 0 0) => true
 | _ => false
def binLL (P : Program) (op : BinOp) (t : TypeId) (rows : List (List AV)) (yn : Bool) (K : AV → Prop) : Prop :=
 if yn = true ∧ (elemT P t).isSome = true then (match op with
  | .eql => (rows ≠ [] → K (.bool false)) ∧ (rows = [] → ∀ b, K (.bool b))
  | _ => False) else False
def binA (P : Program) (op : BinOp) (t : TypeId) (x y : AV) (yn : Bool) (K : AV → Prop) : Prop := match x with
 | .int k a => (match y with
  | .int k' b => binII op k a k' b K
  | _ => False)
 | .bool a => (match y with
  | .bool b => binBB P op t a b K
  | _ => False)
 | .str a => (match y with
  | .str b => binSS op a b K
  | _ => False)
 | .agg l => (match y with
  | .agg m => if two P t = true then oelim (twoOf l) fun p => oelim (twoOf m) fun q => binTwo op p.1 p.2 q.1 q.2 K else False
  | _ => False)
 | .lst rows _ _ => binLL P op t rows yn K
 | _ => False
theorem eqGuard_int {op : BinOp} {t : TypeId} {x y : Operand} {k k' : IntKind} {a b : Int} {P : Program} {w : World} : (eqGuard op t x y (.int k a) (.int k' b)).run P w = .ok () w := by
 unfold eqGuard; cases op <;> rfl
theorem eqGuard_bool {op : BinOp} {t : TypeId} {x y : Operand} {a b : Bool} {P : Program} {w : World} : (eqGuard op t x y (.bool a) (.bool b)).run P w = .ok () w := by
 unfold eqGuard; cases op <;> rfl
theorem eqGuard_str {op : BinOp} {t : TypeId} {x y : Operand} {a b : ByteArray} {P : Program} {w : World} : (eqGuard op t x y (.string a) (.string b)).run P w = .ok () w := by
 unfold eqGuard; cases op <;> rfl
theorem eqGuard_slice {op : BinOp} {t : TypeId} {x y : Operand} {A B : Option Addr} {n m c d : Nat} {P : Program} {w : World} : (eqGuard op t x y (.slice A n c) (.slice B m d)).run P w = .ok () w := by
 unfold eqGuard; cases op <;> rfl
theorem eqGuard_agg {op : BinOp} {t : TypeId} {x y : Operand} {A B : Array Value} {P : Program} {w : World} (h : P.eqGuardType P.depth t = false) : (eqGuard op t x y (.agg A) (.agg B)).run P w = .ok () w := by
 unfold eqGuard; cases op <;> first | rfl | simp [h]
theorem run_binInt {P : Program} {w : World} {op : BinOp} {t : TypeId} {k : IntKind} {a b : Int} {K : AV → Prop} (h : binI op k a b K) :
  ∃ r u, K r ∧ (binOp op t (.int k a) (.int k b)).run P w = .ok u w ∧ ∀ E : Env, V3 E r u := by
 cases op <;> simp only [binI] at h
 case add => exact ⟨_, _, h, by simp [binOp, Op.intArith], fun E => RV.int _ _⟩
 case sub => exact ⟨_, _, h, by simp [binOp, Op.intArith], fun E => RV.int _ _⟩
 case mul => exact ⟨_, _, h, by simp [binOp, Op.intArith], fun E => RV.int _ _⟩
 case quo => exact ⟨_, _, h.2, by simp [binOp, Op.intDiv, h.1], fun E => RV.int _ _⟩
 case rem => exact ⟨_, _, h.2, by simp [binOp, Op.intDiv, h.1], fun E => RV.int _ _⟩
 case and => exact ⟨_, _, h, by simp [binOp, Op.intBits], fun E => RV.int _ _⟩
 case eql => exact ⟨_, _, h, by simp [binOp, Op.intCmp], fun E => RV.bool _⟩
 case neq => exact ⟨_, _, h, by simp [binOp, Op.intCmp], fun E => RV.bool _⟩
 case lss => exact ⟨_, _, h, by simp [binOp, Op.intCmp], fun E => RV.bool _⟩
 case leq => exact ⟨_, _, h, by simp [binOp, Op.intCmp], fun E => RV.bool _⟩
 case gtr => exact ⟨_, _, h, by simp [binOp, Op.intCmp], fun E => RV.bool _⟩
 case geq => exact ⟨_, _, h, by simp [binOp, Op.intCmp], fun E => RV.bool _⟩
theorem two_spec {P : Program} {t : TypeId} (h : two P t = true) : ∃ f g : Field, P.underlying t = some (.struct (P.fieldsOf t)) ∧ (P.fieldsOf t).toList = [f, g] ∧ P.stoodInHeld t = false ∧ P.eqGuardType P.depth t = false ∧
  f.name ≠ "_" ∧ g.name ≠ "_" ∧ f.offset = 0 ∧ g.offset = 1 ∧ P.underlying f.type = some (.int .i64) ∧ P.underlying g.type = some (.int .i64) := by
 unfold two at h
 split at h
 ·rename_i fs hfs
  have hf : P.fieldsOf t = fs := by simp [Program.fieldsOf, hfs]
  simp only [Bool.and_eq_true, Bool.not_eq_true'] at h
  obtain ⟨⟨h1, h2⟩, h3⟩ := h
  split at h3
  ·rename_i f g hl
   simp only [Bool.and_eq_true, bne_iff_ne, ne_eq, beq_iff_eq] at h3
   obtain ⟨⟨⟨⟨⟨q1, q2⟩, q3⟩, q4⟩, q5⟩, q6⟩ := h3
   refine ⟨f, g, by rw [hf]; exact hfs, by rw [hf]; exact hl, h1, h2, q1, q2, q3, q4, ?_, ?_⟩
   ·split at q5
    ·assumption
    ·cases q5
   ·split at q6
    ·assumption
    ·cases q6
  ·cases h3
 ·cases h
theorem run_two {P : Program} {t : TypeId} (h : two P t = true) (a b c d : Int) (w : World) :
  (Op.equal t (.agg #[.int .i64 a, .int .i64 b]) (.agg #[.int .i64 c, .int .i64 d])).run P w = .ok (a == c && b == d) w := by
 obtain ⟨f, g, h1, h2, h3, h4, h5, h6, h7, h8, h9, h10⟩ := two_spec h
 show (Op.equalIn (9999 + 1) t _ _).run P w = _
 rw [run_equalIn_struct w 9999 t _ _ h1 h3, h2]
 have pf : ∀ (tt : TypeId) (cs : Array Value) (o : Nat) (u : Value), P.underlying tt = some (.int .i64) → cs[o]? = some u → (part tt cs o).run P w = .ok u w := by
  intro tt cs o u hu hc
  simp [part, Go.isAgg, run_underlying hu, hc]
 simp only [Op.eqFields, if_pos h5, if_pos h6, h7, h8, Sem.run_bind]
 rw [pf f.type #[.int .i64 a, .int .i64 b] 0 (.int .i64 a) h9 rfl]
 simp only [Result.andThen_ok]
 rw [pf f.type #[.int .i64 c, .int .i64 d] 0 (.int .i64 c) h9 rfl]
 simp only [Result.andThen_ok]
 rw [show (9999 : Nat) = 9998 + 1 from rfl, run_equalIn_int w 9998 f.type .i64 .i64 a c h9]
 simp only [Result.andThen_ok]
 cases hac : (a == c)
 ·simp
 ·simp only [Bool.not_true, Bool.false_eq_true, if_false, Sem.run_bind]
  rw [pf g.type #[.int .i64 a, .int .i64 b] 1 (.int .i64 b) h10 rfl]
  simp only [Result.andThen_ok]
  rw [pf g.type #[.int .i64 c, .int .i64 d] 1 (.int .i64 d) h10 rfl]
  simp only [Result.andThen_ok]
  rw [run_equalIn_int w 9998 g.type .i64 .i64 b d h10]
  cases hbd : (b == d) <;> simp
theorem V3.two_inv {E : Env} {a b : Int} {v : Value} (h : V3 E (.agg [.int .i64 a, .int .i64 b]) v) : v = .agg #[.int .i64 a, .int .i64 b] := by
 obtain ⟨vs, rfl, hp⟩ := (h : V2 E (.agg [.int .i64 a, .int .i64 b]) v)
 obtain ⟨x, vs, rfl, hx, hp⟩ := hp.cons_inv
 obtain ⟨y, vs, rfl, hy, hp⟩ := hp.cons_inv
 obtain rfl := hp.nil_inv
 have hx' : RV E.w E.PA E.PF (.int .i64 a) x := hx
 have hy' : RV E.w E.PA E.PF (.int .i64 b) y := hy
 cases hx'; cases hy'; rfl
theorem twoOf_spec {l : List AV} {p : Int × Int} (h : twoOf l = some p) : l = [.int .i64 p.1, .int .i64 p.2] := by
 unfold twoOf at h
 split at h
 ·cases h; rfl
 ·cases h
theorem elemT_spec {P : Program} {t e : TypeId} (h : elemT P t = some e) : P.underlying t = some (.slice e) := by
 unfold elemT at h
 split at h
 ·cases h; assumption
 ·cases h
theorem bin_sound {P : Program} {op : BinOp} {t : TypeId} {X Y : Operand} {xa ya : AV} {xv yv : Value} {E : Env} {K : AV → Prop}
  {yn : Bool} (hx : V3 E xa xv) (hy : V3 E ya yv) (hyn : yn = true → yv = .slice none 0 0) (h : binA P op t xa ya yn K) :
  ∃ r u, K r ∧ (do eqGuard op t X Y xv yv; binOp op t xv yv : Sem Value).run P E.w = .ok u E.w ∧ V3 E r u := by
 cases xa with
 | int k a =>
  cases ya with
  | int k' b =>
   replace h : binII op k a k' b K := h
   obtain rfl := hx.int_inv
   obtain rfl := hy.int_inv
   cases op
   case shl =>
    obtain ⟨hb, h⟩ := h
    have hb' : ¬ b < 0 := by omega
    exact ⟨_, _, h, by simp [eqGuard_int, binOp, Op.shift, hb'], RV.int _ _⟩
   case shr =>
    obtain ⟨hb, h⟩ := h
    have hb' : ¬ b < 0 := by omega
    exact ⟨_, _, h, by simp [eqGuard_int, binOp, Op.shift, hb'], RV.int _ _⟩
   all_goals
    simp only [binII] at h
    split at h
    ·rename_i hk
     subst hk
     obtain ⟨r, u, hK, hr, hv⟩ := run_binInt (P := P) (w := E.w) (t := t) h
     exact ⟨r, u, hK, by simp only [Sem.run_bind, eqGuard_int, Result.andThen_ok, hr], hv E⟩
    ·exact h.elim
  | _ => exact h.elim
 | bool a =>
  cases ya with
  | bool b =>
   replace h : binBB P op t a b K := h
   obtain rfl := hx.bool_inv
   obtain rfl := hy.bool_inv
   unfold binBB at h
   split at h
   ·rename_i hu
    have hu' : P.underlying t = some .bool := by
     unfold isBoolT at hu
     split at hu
     ·assumption
     ·cases hu
    cases op <;> first | exact h.elim | skip
    case eql => exact ⟨_, _, h, by simp only [Sem.run_bind, eqGuard_bool, Result.andThen_ok, binOp, Op.equal]; rw [show Op.maxDepth = 9999 + 1 from rfl, run_equalIn_bool' E.w 9999 t a b hu']; rfl, RV.bool _⟩
    case neq => exact ⟨_, _, h, by simp only [Sem.run_bind, eqGuard_bool, Result.andThen_ok, binOp, Op.equal]; rw [show Op.maxDepth = 9999 + 1 from rfl, run_equalIn_bool' E.w 9999 t a b hu']; rfl, RV.bool _⟩
   ·exact h.elim
  | _ => exact h.elim
 | str a =>
  cases ya with
  | str b =>
   replace h : binSS op a b K := h
   obtain rfl := hx.str_inv
   obtain rfl := hy.str_inv
   cases op <;> first | exact h.elim | skip
   case add =>
    obtain ⟨hl, h⟩ := h
    have : ¬ ((a.size + b.size : Nat) : Int) > IntKind.i64.max := by
     have : IntKind.i64.max = 9223372036854775807 := by decide
     rw [this]; omega
    exact ⟨_, _, h, by simp only [Sem.run_bind, eqGuard_str, Result.andThen_ok, binOp, Op.stringOp]; rw [if_neg this]; rfl, RV.str _⟩
   case eql => exact ⟨_, _, h, by simp only [Sem.run_bind, eqGuard_str, Result.andThen_ok, binOp, Op.stringOp]; rfl, RV.bool _⟩
   case neq => exact ⟨_, _, h, by simp only [Sem.run_bind, eqGuard_str, Result.andThen_ok, binOp, Op.stringOp]; rfl, RV.bool _⟩
  | _ => exact h.elim
 | agg l =>
  cases ya with
  | agg m =>
   replace h : if two P t = true then oelim (twoOf l) fun p => oelim (twoOf m) fun q => binTwo op p.1 p.2 q.1 q.2 K else False := h
   split at h
   ·rename_i ht
    obtain ⟨⟨a, b⟩, hp, h⟩ := oelim_inv h
    obtain ⟨⟨c, d⟩, hq, h⟩ := oelim_inv h
    obtain rfl := twoOf_spec hp
    obtain rfl := twoOf_spec hq
    obtain rfl := hx.two_inv
    obtain rfl := hy.two_inv
    obtain ⟨f, g, h1, h2, h3, h4, _⟩ := two_spec ht
    cases op <;> first | exact h.elim | skip
    case eql => exact ⟨_, _, h, by simp only [Sem.run_bind, eqGuard_agg h4, Result.andThen_ok, binOp, run_two ht]; rfl, RV.bool _⟩
    case neq => exact ⟨_, _, h, by simp only [Sem.run_bind, eqGuard_agg h4, Result.andThen_ok, binOp, run_two ht]; rfl, RV.bool _⟩
   ·exact h.elim
  | _ => exact h.elim
 | lst rows fu fr =>
  replace h : binLL P op t rows yn K := h
  unfold binLL at h
  split at h
  ·rename_i hc
   obtain ⟨hn, he⟩ := hc
   obtain ⟨e, he⟩ := Option.isSome_iff_exists.1 he
   have hu := elemT_spec he
   obtain rfl := hyn hn
   have hx' : RV E.w E.PA E.PF (.lst rows fu fr) xv := hx
   cases hx' with
   | @lst _ _ _ _ _ _ A cap sz vs hPB hcap hfull hsz hcell hrel =>
   have hrun : (do eqGuard op t X Y (.slice A rows.length cap) (.slice none 0 0); binOp .eql t (.slice A rows.length cap) (.slice none 0 0) : Sem Value).run P E.w = .ok (.bool A.isNone) E.w := by
    simp only [Sem.run_bind, eqGuard_slice, Result.andThen_ok, binOp, Op.equal]
    rw [show Op.maxDepth = 9999 + 1 from rfl]
    generalize 9999 = d
    simp only [Op.equalIn, Sem.run_bind, run_underlying hu, Result.andThen_ok]
    cases A <;> rfl
   cases op <;> first | exact h.elim | skip
   case eql =>
    obtain ⟨h1, h2⟩ := h
    by_cases hr : rows = []
    ·exact ⟨_, _, h2 hr A.isNone, hrun, RV.bool _⟩
    ·have : 0 < rows.length := by cases rows <;> simp_all
     obtain ⟨c, o, rfl, _⟩ := hcell this
     exact ⟨_, _, h1 hr, hrun, RV.bool _⟩
  ·exact h.elim
 | _ => exact h.elim
end Go.Proofs.Ytglpfccgmfhkdaa.Fw
