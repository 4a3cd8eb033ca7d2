/- The framework, part Q: steps of a walk over sparse slots (printed by tools/fwq.py). -/

import Derived.Test.YtglpfccgmfhkdaaFwZ
set_option linter.unusedVariables false
namespace Go.Proofs.Ytglpfccgmfhkdaa.Fw
open Go
theorem evS_app {P : Program} {esc : List Nat} {ops : Array Oper} {n : Nat} {K : List (Nat × AV) → List (Nat × List AV) → List Blk → Prop} : ∀ (l1 l2 : List Oper) (A : List (Nat × AV)) (L : List (Nat × List AV)) (H : List Blk),
  evS P esc ops n (l1 ++ l2) A L H K = evS P esc ops n l1 A L H fun A L H => evS P esc ops n l2 A L H K
 | [], l2, A, L, H => rfl
 | o :: r, l2, A, L, H => by
  show evS P esc ops n (o :: (r ++ l2)) A L H K = _
  simp only [evS, evS_app r l2]
theorem evS_split {P : Program} {esc : List Nat} {ops : Array Oper} {n : Nat} {K : List (Nat × AV) → List (Nat × List AV) → List Blk → Prop} {A : List (Nat × AV)} {L : List (Nat × List AV)} {H : List Blk} (X : List Oper) (i k : Nat) :
  evS P esc ops n (X.drop i) A L H K = evS P esc ops n ((X.drop i).take k) A L H fun A L H => evS P esc ops n (X.drop (i + k)) A L H K := by
 rw [← evS_app, ← List.drop_drop, List.take_append_drop]
theorem evSD_app {P : Program} {esc : List Nat} {ops : Array Oper} {n : Nat} {K : List (Nat × AV) → List (Nat × List AV) → List Blk → Prop} : ∀ (l1 l2 : List Item) (A : List (Nat × AV)) (L : List (Nat × List AV)) (H : List Blk),
  evSD P esc ops n (l1 ++ l2) A L H K = evSD P esc ops n l1 A L H fun A L H => evSD P esc ops n l2 A L H K
 | [], l2, A, L, H => rfl
 | o :: r, l2, A, L, H => by
  show evSD P esc ops n (o :: (r ++ l2)) A L H K = _
  simp only [evSD, evSD_app r l2]
theorem evSD_split {P : Program} {esc : List Nat} {ops : Array Oper} {n : Nat} {K : List (Nat × AV) → List (Nat × List AV) → List Blk → Prop} {A : List (Nat × AV)} {L : List (Nat × List AV)} {H : List Blk} (X : List Item) (i k : Nat) :
  evSD P esc ops n (X.drop i) A L H K = evSD P esc ops n ((X.drop i).take k) A L H fun A L H => evSD P esc ops n (X.drop (i + k)) A L H K := by
 rw [← evSD_app, ← List.drop_drop, List.take_append_drop]
theorem map_set {α β : Type} (f : α → β) (xs : List α) (i : Nat) (x : α) : (List.map f xs).set i (f x) = List.map f (xs.set i x) := by
 rw [List.map_set]
theorem sr_blk' {H : List Blk} {α : Type} {eT eF : α → List AV} {b g sz n : Nat} {full : Bool} {xs ys : List α} (hn : n = xs.length) (hb : H[b]? = some ⟨g, sz, List.map eT xs⟩) (hc : ∀ x, CellsOk H (eT x) (eF x)) (h : xs.length ≤ 4611686018427387904 ∧ xs = ys) :
  SnapR1 H (.ref b g 0 n full) (.lst (List.map eF ys) false true) := hn ▸ sr_blk hb hc h
theorem sa_blk' {L : List (Nat × List AV)} {H : List Blk} {α : Type} {eT eF : α → List AV} {b g sz n : Nat} {full : Bool} {xs : List α} (h0 : n = xs.length) (hb : H[b]? = some ⟨g, sz, List.map eT xs⟩) (hc : ∀ x, CellsIn L H (eT x) (eF x)) (hn : xs.length ≤ 4611686018427387904) :
  Snap1 L H (.ref b g 0 n full) (.lst (List.map eF xs) false false) := h0 ▸ sa_blk hb hc hn
theorem sa_lptr {L : List (Nat × List AV)} {H : List Blk} {t c : Nat} {cells cells' : List AV} (h : getL L t = some cells) (hc : CellsIn L H cells cells') : Snap1 L H (.lptr t c) (.rp cells' c) := .lptr h hc.1 hc.2
theorem sa_fn {L : List (Nat × List AV)} {H : List Blk} {f : FuncId} {caps caps' : List AV} (hc : CellsIn L H caps caps') : Snap1 L H (.fn f caps) (.fn f caps') := .fn hc.1 hc.2
theorem weak_adoptS {n : Nat} {A A' : List (Nat × AV)} {L : List (Nat × List AV)} {H : List Blk} (i sz : Nat) (hA : ltS n A = true) (h : isEmp (lk A i) = true) (e : putS n A (some i) (.ref H.length 0 0 0 false) = A') : Weak ⟨mkS n A, L, H⟩ ⟨mkS n A', L, H ++ [⟨0, sz, []⟩]⟩ := by
 subst e
 have := Weak.adoptT i sz (T := mkS n A) (L := L) (H := H) (by rw [mkS_get hA]; exact h)
 rwa [show (mkS n A).set i (.ref H.length 0 0 0 false) = putA (mkS n A) (some i) (.ref H.length 0 0 0 false) from rfl, mkS_put] at this
theorem rowsOk_map {α : Type} {enc : α → List AV} {k : Nat} (h : ∀ x, (enc x).length = k ∧ (enc x).all sto1 = true) (ys : List α) : rowsOk k (List.map enc ys) := fun row hr => by
 obtain ⟨x, _, rfl⟩ := List.mem_map.1 hr
 exact ⟨(h x).1, fun a ha => List.all_eq_true.1 (h x).2 a ha⟩
theorem len_cond {α : Type} {c : Bool} {x y : List α} {n : Nat} (hx : x.length = n) (hy : y.length = n) : (bif c then x else y).length = n := by cases c <;> assumption
def apN : List (Nat × AV) → List (Nat × AV) → List (Nat × AV)
 | [], R => R
 | p :: N, R => p :: apN N R
def dkN : List (Nat × AV) → List (Nat × AV) → List (Nat × AV)
 | [], A => A
 | p :: N, A => dk (dkN N A) p.1
def putN (N A : List (Nat × AV)) : List (Nat × AV) := apN N (dkN N A)
def putD (d : Option Nat) (v : AV) (N A : List (Nat × AV)) : List (Nat × AV) := match d with
 | some d => putN ((d, v) :: N) A
 | none => putN N A
def setS : List (Nat × AV) → Nat → AV → List (Nat × AV)
 | [], _, _ => []
 | (k, u) :: r, t, v => match Nat.beq k t with
  | true => (k, v) :: r
  | false => (k, u) :: setS r t v
abbrev ai (n : Int) : AV := .int .i64 n
abbrev ab (b : Bool) : AV := .bool b
abbrev al {α : Type} (e : α → List AV) (x : List α) : AV := .lst (List.map e x) false false
abbrev an : AV := .lst [] true true
abbrev af {α : Type} (e : α → List AV) (x : List α) : AV := .lst (List.map e x) false true
abbrev rf (b g n : Nat) : AV := .ref b g 0 n false
abbrev ap (t c : Nat) : AV := .lptr t c
abbrev t0 : AV := .tup []
def tz (l : List Nat) : List (Nat × AV) := l.map fun i => (i, .tup [])
def nrm : Bool → List Nat → Bool × List Nat
 | b, 0 :: m => nrm (!b) m
 | b, m => (b, m)
def selR {α : Type} (b : Bool) (m : List Nat) : List α → List α
 | [] => []
 | x :: l => match nrm b m with
  | (true, (n + 1) :: m) => x :: selR true (n :: m) l
  | (false, (n + 1) :: m) => selR false (n :: m) l
  | _ => []
theorem selT {α : Type} {n : Nat} {m : List Nat} {x : α} {l : List α} : selR true ((n + 1) :: m) (x :: l) = x :: selR true (n :: m) l := rfl
theorem selF {α : Type} {n : Nat} {m : List Nat} {x : α} {l : List α} : selR false ((n + 1) :: m) (x :: l) = selR false (n :: m) l := rfl
theorem selt {α : Type} {m : List Nat} {l : List α} : selR true (0 :: m) l = selR false m l := by cases l <;> rfl
theorem self {α : Type} {m : List Nat} {l : List α} : selR false (0 :: m) l = selR true m l := by cases l <;> rfl
theorem sel0 {α : Type} {b : Bool} {l : List α} : selR b [] l = [] := by cases b <;> cases l <;> rfl
def hrw (j : Nat) (r : List (List AV)) : List Blk → List Blk
 | [] => []
 | b :: H => match j with
  | 0 => ⟨b.gen, b.sz, r⟩ :: H
  | j + 1 => b :: hrw j r H
def ed (i j : Nat) (a : AV) : List (Nat × List AV) → List (Nat × List AV)
 | [] => []
 | x :: L => match i with
  | 0 => (x.1, x.2.set j a) :: L
  | i + 1 => x :: ed i j a L
def er (i : Nat) (a : List AV) : List (Nat × List AV) → List (Nat × List AV)
 | [] => []
 | x :: L => match i with
  | 0 => (x.1, a) :: L
  | i + 1 => x :: er i a L
def bk (i : Nat) (b : Blk) : List Blk → List Blk
 | [] => []
 | x :: H => match i with
  | 0 => b :: H
  | i + 1 => x :: bk i b H
section
variable {i j k : Nat} {a : AV} {c l : List AV} {L : List (Nat × List AV)} {x : Nat × List AV} {b y : Blk} {H : List Blk}
theorem ed0 : ed 0 j a ((k, c) :: L) = (k, c.set j a) :: L := rfl
theorem edS : ed (i + 1) j a (x :: L) = x :: ed i j a L := rfl
theorem er0 : er 0 l ((k, c) :: L) = (k, l) :: L := rfl
theorem erS : er (i + 1) l (x :: L) = x :: er i l L := rfl
theorem bk0 : bk 0 b (y :: H) = b :: H := rfl
theorem bkS : bk (i + 1) b (y :: H) = y :: bk i b H := rfl
end
abbrev iq (i : Nat) : Item := ⟨i, true, true, []⟩
abbrev rg (a b : Nat) : List Nat := List.range' a (b - a)
def QJoinV {V : Type} (S : V → St) (J : V → Prop) (Q : Exit → St → Prop) (ex : Exit) (s : St) : Prop := match ex with
 | .normal => ∃ v, J v ∧ Weak s (S v)
 | ex => Q ex s
theorem QJoinV.normal {V : Type} {S : V → St} {J : V → Prop} {Q : Exit → St → Prop} {s : St} (v : V) (h : J v) (hw : Weak s (S v)) : QJoinV S J Q .normal s := ⟨v, h, hw⟩
theorem QJoinV.ret {V : Type} {S : V → St} {J : V → Prop} {Q : Exit → St → Prop} {s : St} (h : Q .ret s) : QJoinV S J Q .ret s := h
theorem QJoinV.exit {V : Type} {S : V → St} {J : V → Prop} {Q : Exit → St → Prop} {s : St} {id : Nat} (h : Q (.exit id) s) : QJoinV S J Q (.exit id) s := h
section
variable {P : Program} {b : Code} {k n : Nat} {Q : Exit → St → Prop} {st : St} {A A' : List (Nat × AV)} {L L' : List (Nat × List AV)} {H H' : List Blk}
theorem cSeqG (S : St) (ψ : Prop) (h : WpS P (nv b (2 * k)) (QJoin S ψ Q) st) (hq : ψ → WpS P (nv b (2 * k + 1)) Q S) (e : nv b k = .seq (nv b (2 * k)) (nv b (2 * k + 1)) := by kernel_rfl) : WpS P (nv b k) Q st := WpS.seqG S e h hq
theorem cSeqM (N : List (Nat × AV)) (m : List Nat) (ψ : Prop) (h : WpS P (nv b (2 * k)) (QJoin ⟨mkS n A', L, H⟩ ψ Q) ⟨mkS n A, L, H⟩) (hq : ψ → WpS P (nv b (2 * k + 1)) Q ⟨mkS n A', L, H⟩) (hA : apN N (selR true m A) = A' := by simp only [apN, selT, selF, selt, self, sel0]; rfl) (e : nv b k = .seq (nv b (2 * k)) (nv b (2 * k + 1)) := by kernel_rfl) : WpS P (nv b k) Q ⟨mkS n A, L, H⟩ := WpS.seqG _ e h hq
theorem cSeqN (N : List (Nat × AV)) (m : List Nat) (L' : List (Nat × List AV)) (H' : List Blk) (ψ : Prop) (h : WpS P (nv b (2 * k)) (QJoin ⟨mkS n A', L', H'⟩ ψ Q) ⟨mkS n A, L, H⟩) (hq : ψ → WpS P (nv b (2 * k + 1)) Q ⟨mkS n A', L', H'⟩) (hA : apN N (selR true m A) = A' := by simp only [apN, selT, selF, selt, self, sel0]; rfl) (e : nv b k = .seq (nv b (2 * k)) (nv b (2 * k + 1)) := by kernel_rfl) : WpS P (nv b k) Q ⟨mkS n A, L, H⟩ := WpS.seqG _ e h hq
theorem cSeqE (N : List (Nat × AV)) (m : List Nat) (fL : List (Nat × List AV) → List (Nat × List AV)) (fH : List Blk → List Blk) (ψ : Prop) (h : WpS P (nv b (2 * k)) (QJoin ⟨mkS n A', L', H'⟩ ψ Q) ⟨mkS n A, L, H⟩) (hq : ψ → WpS P (nv b (2 * k + 1)) Q ⟨mkS n A', L', H'⟩) (hL : fL L = L' := by first | (simp only [id, ed0, edS, er0, erS, List.set_cons_zero, List.set_cons_succ]; rfl) | (dsimp only; rfl) | rfl) (hH : fH H = H' := by first | (simp only [id, bk0, bkS, List.cons_append, List.nil_append]; rfl) | (dsimp only; rfl) | rfl) (hA : apN N (selR true m A) = A' := by simp only [apN, selT, selF, selt, self, sel0]; rfl) (e : nv b k = .seq (nv b (2 * k)) (nv b (2 * k + 1)) := by kernel_rfl) : WpS P (nv b k) Q ⟨mkS n A, L, H⟩ := WpS.seqG _ e h hq
theorem cBlockV {V : Type} {y : Code} (id : Nat) (S : V → St) (J : V → Prop) (h : WpS P (nv b (2 * k)) (QBlock id (QJoinV S J Q)) st) (hq : ∀ v, J v → WpS P y Q (S v)) (e : nv b k = .block id (nv b (2 * k)) := by kernel_rfl) : WpS P (nv b k) (QSeq P y Q) st :=
 WpS.block' e (h.mono fun ex s hs => by
  have key : ∀ ex s, QJoinV S J Q ex s → QSeq P y Q ex s := fun ex s hs => by
   cases ex with
   | normal => obtain ⟨v, hj, hw⟩ := hs; exact (hq v hj).weak hw
   | _ => exact hs
  cases ex with
  | exit q =>
   show if q = id then _ else _
   replace hs : if q = id then QJoinV S J Q .normal s else QJoinV S J Q (.exit q) s := hs
   split at hs
   ·rename_i hq; rw [if_pos hq]; exact key _ _ hs
   ·rename_i hq; rw [if_neg hq]; exact key _ _ hs
  | normal => exact key .normal s hs
  | goto l => exact key (.goto l) s hs
  | ret => exact key .ret s hs
  | panic c => exact key (.panic c) s hs
  | outgrown => exact key .outgrown s hs)
theorem cSeq (h : WpS P (nv b (2 * k)) (QSeq P (nv b (2 * k + 1)) Q) st) (e : nv b k = .seq (nv b (2 * k)) (nv b (2 * k + 1)) := by kernel_rfl) : WpS P (nv b k) Q st := WpS.seq' e h
theorem cCond (o : Operand) (z : Bool) (h1 : z = true → WpS P (nv b (2 * k)) Q ⟨mkS n A, L, H⟩) (h2 : z = false → WpS P (nv b (2 * k + 1)) Q ⟨mkS n A, L, H⟩) (e : nv b k = .cond o (nv b (2 * k)) (nv b (2 * k + 1)) := by kernel_rfl)
  (hn : ltS n A = true := by kernel_rfl) (ho : opS A o = .bool z := by kernel_rfl) : WpS P (nv b k) Q ⟨mkS n A, L, H⟩ := WpS.cond' e (condS hn ho) h1 h2
theorem cBlock (id : Nat) (h : WpS P (nv b (2 * k)) (QBlock id Q) st) (e : nv b k = .block id (nv b (2 * k)) := by kernel_rfl) : WpS P (nv b k) Q st := WpS.block' e h
theorem cSkip (h : Q .normal st) (e : nv b k = .skip := by kernel_rfl) : WpS P (nv b k) Q st := WpS.skip' e h
theorem cRet (h : Q .ret st) (e : nv b k = .ret := by kernel_rfl) : WpS P (nv b k) Q st := WpS.ret' e h
theorem cExit (id : Nat) (h : Q (.exit id) st) (e : nv b k = .exit id := by kernel_rfl) : WpS P (nv b k) Q st := WpS.exit' e h
theorem cLoop {V : Type} (S : V → St) (I : V → Prop) (m : V → Nat) (v0 : V) (hs : Weak st (S v0)) (h0 : I v0) (round : ∀ v, I v → WpS P (nv b (2 * k)) (QRound S I m v Q) (S v)) (e : nv b k = .loop (nv b (2 * k)) := by kernel_rfl) : WpS P (nv b k) Q st :=
 WpS.loopR S I m e v0 hs h0 round
theorem rgS (esc : List Nat) (id : Nat) (h : evS P esc (opsN b k) n ((opsN b k).toList.drop 0) A L H (fun A L H => Q .normal ⟨mkS n A, L, H⟩)) (e : nv b k = .region id (opsN b k) false := by kernel_rfl) (hn : ltS n A = true := by kernel_rfl) : WpS P (nv b k) Q ⟨mkS n A, L, H⟩ :=
 WpS.regionS (esc := esc) e hn h
theorem rgD (esc : List Nat) (id : Nat) (ord : List Item) (As : List (List Nat)) (zs : List (Nat × List AV)) (h : evSD P esc (opsN b k) n (ord.drop 0) A (zs ++ L) H (fun A L H => Q .normal ⟨mkS n A, L, H⟩)) (hm : P.follows .mixedOrders = true := by kernel_rfl) (hl : As.length = (opsN b k).size := by kernel_rfl)
  (hd : drawB (opsN b k) ord (ancL As) = true := by kernel_rfl) (hlit : ord.all (·.lit) = true := by kernel_rfl) (e : nv b k = .region id (opsN b k) true := by kernel_rfl) (hn : ltS n A = true := by kernel_rfl) (hf : frB zs L = true := by kernel_rfl) (hz : alB (opsN b k) L ord = true := by kernel_rfl) : WpS P (nv b k) Q ⟨mkS n A, L, H⟩ :=
 WpS.regionSD (esc := esc) ord As hm hl hd hlit e hn zs hf hz h
theorem cRM (esc : List Nat) (id : Nat) (Nf : List (Nat × AV)) (mN m : List Nat) (hq : WpS P (nv b (2 * k + 1)) Q ⟨mkS n A', L, H⟩) (hA : apN (selR true mN Nf) (selR true m A) = A' := by simp only [apN, selT, selF, selt, self, sel0]; rfl) (e : nv b k = .seq (nv b (2 * k)) (nv b (2 * k + 1)) := by kernel_rfl)
  (e2 : nv b (2 * k) = .region id (opsN b (2 * k)) false := by kernel_rfl) (hn : ltS n A = true := by kernel_rfl) (e3 : ∀ K, evS P esc (opsN b (2 * k)) n ((opsN b (2 * k)).toList.drop 0) A L H K = K (putN Nf A) L H := by intro K; kernel_rfl) (eA : pickS (putN Nf A) A' = A' := by kernel_rfl)
  (h1 : ltS n (putN Nf A) = true := by kernel_rfl) (h2 : ltS n A' = true := by kernel_rfl) : WpS P (nv b k) Q ⟨mkS n A, L, H⟩ :=
 WpS.seqG ⟨mkS n A', L, H⟩ (ψ := True) e (WpS.regionS (esc := esc) e2 hn (by rw [e3]; exact ⟨trivial, weak_s0 h1 h2 eA⟩)) fun _ => hq
theorem cRN (esc : List Nat) (id : Nat) (Nf : List (Nat × AV)) (mN m : List Nat) (L' : List (Nat × List AV)) (H' : List Blk) (hq : WpS P (nv b (2 * k + 1)) Q ⟨mkS n A', L', H'⟩) (hA : apN (selR true mN Nf) (selR true m A) = A' := by simp only [apN, selT, selF, selt, self, sel0]; rfl) (e : nv b k = .seq (nv b (2 * k)) (nv b (2 * k + 1)) := by kernel_rfl)
  (e2 : nv b (2 * k) = .region id (opsN b (2 * k)) false := by kernel_rfl) (hn : ltS n A = true := by kernel_rfl) (e3 : ∀ K, evS P esc (opsN b (2 * k)) n ((opsN b (2 * k)).toList.drop 0) A L H K = K (putN Nf A) L' H' := by intro K; kernel_rfl) (eA : pickS (putN Nf A) A' = A' := by kernel_rfl)
  (h1 : ltS n (putN Nf A) = true := by kernel_rfl) (h2 : ltS n A' = true := by kernel_rfl) : WpS P (nv b k) Q ⟨mkS n A, L, H⟩ :=
 WpS.seqG ⟨mkS n A', L', H'⟩ (ψ := True) e (WpS.regionS (esc := esc) e2 hn (by rw [e3]; exact ⟨trivial, weak_s0 h1 h2 eA⟩)) fun _ => hq
theorem cRE (esc : List Nat) (id : Nat) (Nf : List (Nat × AV)) (mN m : List Nat) (fL : List (Nat × List AV) → List (Nat × List AV)) (fH : List Blk → List Blk) (hq : WpS P (nv b (2 * k + 1)) Q ⟨mkS n A', L', H'⟩) (hL : fL L = L' := by first | (simp only [id, ed0, edS, er0, erS, List.set_cons_zero, List.set_cons_succ]; rfl) | (dsimp only; rfl) | rfl) (hH : fH H = H' := by first | (simp only [id, bk0, bkS, List.cons_append, List.nil_append]; rfl) | (dsimp only; rfl) | rfl) (hA : apN (selR true mN Nf) (selR true m A) = A' := by simp only [apN, selT, selF, selt, self, sel0]; rfl) (e : nv b k = .seq (nv b (2 * k)) (nv b (2 * k + 1)) := by kernel_rfl)
  (e2 : nv b (2 * k) = .region id (opsN b (2 * k)) false := by kernel_rfl) (hn : ltS n A = true := by kernel_rfl) (e3 : ∀ K, evS P esc (opsN b (2 * k)) n ((opsN b (2 * k)).toList.drop 0) A L H K = K (putN Nf A) L' H' := by intro K; kernel_rfl) (eA : pickS (putN Nf A) A' = A' := by kernel_rfl)
  (h1 : ltS n (putN Nf A) = true := by kernel_rfl) (h2 : ltS n A' = true := by kernel_rfl) : WpS P (nv b k) Q ⟨mkS n A, L, H⟩ :=
 WpS.seqG ⟨mkS n A', L', H'⟩ (ψ := True) e (WpS.regionS (esc := esc) e2 hn (by rw [e3]; exact ⟨trivial, weak_s0 h1 h2 eA⟩)) fun _ => hq
theorem cCond1 {t : Nat} {z : Bool} (h1 : z = true → WpS P (nv b (2 * k)) Q ⟨mkS n ((t, .bool z) :: A), L, H⟩) (h2 : z = false → WpS P (nv b (2 * k + 1)) Q ⟨mkS n ((t, .bool z) :: A), L, H⟩) (e : nv b k = .cond (.tmp t) (nv b (2 * k)) (nv b (2 * k + 1)) := by kernel_rfl)
  (hn : ltS n ((t, .bool z) :: A) = true := by kernel_rfl) : WpS P (nv b k) Q ⟨mkS n ((t, .bool z) :: A), L, H⟩ := cCond (.tmp t) z h1 h2 e hn (by show lk ((t, .bool z) :: A) t = _; unfold lk; rw [show Nat.beq t t = true from Nat.beq_refl t])
theorem FnS.go {f : FuncId} {fn : Func} {args : List AV} {H : List Blk} {R : AV → List Blk → Prop} (A : List (Nat × AV)) (hf : P.funcs[f]? = some fn) (h : WpS P (nv (bodyC fn) 1) (QFn P fn R) ⟨mkS fn.ntmps A, [], H⟩) (hb : fn.body = some (nv (bodyC fn) 1) := by kernel_rfl) (hn : (fn.name == "runtime.NumGoroutine") = false := by kernel_rfl)
  (hi : initSt fn args H = ⟨mkS fn.ntmps A, [], H⟩ := by kernel_rfl) : FnS P f args H R := FnS.of_body hf hb hn (hi ▸ h)
theorem rt1 {fn : Func} {R : AV → List Blk → Prop} (r : AV) (h : R r H) (hn : ltS n A = true := by kernel_rfl) (e : ∀ K, resLS P A L H fn.results.toList K = K [r] := by intro K; kernel_rfl) (hr : [r].all noLp2 = true := by kernel_rfl) : QFn P fn R .ret ⟨mkS n A, L, H⟩ := retStepS hn [r] e hr rfl h
theorem wkJ (eA : pickS A A' = A' := by kernel_rfl) (hA : ltS n A = true := by kernel_rfl) (hA' : ltS n A' = true := by kernel_rfl) : Weak ⟨mkS n A, L, H⟩ ⟨mkS n A', L, H⟩ := weak_s0 hA hA' eA
theorem wkL (ts : List Nat) (hA : ltS n A = true := by kernel_rfl) (hA' : ltS n A' = true := by kernel_rfl) (hp : lpS ts A' = true := by kernel_rfl) (eA : pickS A A' = A' := by kernel_rfl) (eL : dropL ts L = L' := by kernel_rfl) : Weak ⟨mkS n A, L, H⟩ ⟨mkS n A', L', H⟩ := weak_s ts hA hA' hp eA eL
theorem rtS {fn : Func} {R : AV → List Blk → Prop} (r : AV) (l : List AV) (h : R r H) (hn : ltS n A = true := by kernel_rfl) (e : ∀ K, resLS P A L H fn.results.toList K = K l := by intro K; kernel_rfl) (hr : l.all noLp2 = true := by kernel_rfl) (hw : wrapR l = r := by kernel_rfl) : QFn P fn R .ret ⟨mkS n A, L, H⟩ := retStepS hn l e hr hw h
end
section
variable {P : Program} {esc : List Nat} {ops : Array Oper} {n : Nat} {X : List Oper} {i0 : Nat} {A : List (Nat × AV)} {L : List (Nat × List AV)} {H : List Blk} {K : List (Nat × AV) → List (Nat × List AV) → List Blk → Prop}
theorem sEJ {A' : List (Nat × AV)} {L' : List (Nat × List AV)} {H' : List Blk} {ψ : Prop} {Q : Exit → St → Prop} (N : List (Nat × AV)) (hp : ψ) (eA : pickS (putN N A) A' = A' := by kernel_rfl) (e : ∀ K, evS P esc ops n (X.drop i0) A L H K = K (putN N A) L' H' := by intro K; kernel_rfl)
  (hA : ltS n (putN N A) = true := by kernel_rfl) (hA' : ltS n A' = true := by kernel_rfl) : evS P esc ops n (X.drop i0) A L H (fun A L H => QJoin ⟨mkS n A', L', H'⟩ ψ Q .normal ⟨mkS n A, L, H⟩) := by
 rw [e]; exact ⟨hp, weak_s0 hA hA' eA⟩
theorem sCase1 (k0 t : Nat) (b : Bool) (N : List (Nat × AV)) (h1 : b = true → evS P esc ops n (X.drop (i0 + k0)) (setS (putN ((t, .bool b) :: N) A) t (.bool true)) L H K) (h2 : b = false → evS P esc ops n (X.drop (i0 + k0)) (setS (putN ((t, .bool b) :: N) A) t (.bool false)) L H K)
  (e : ∀ K, evS P esc ops n ((X.drop i0).take k0) A L H K = K (setS (putN ((t, .bool b) :: N) A) t (.bool b)) L H := by intro K; kernel_rfl) : evS P esc ops n (X.drop i0) A L H K := by
 rw [evS_split X i0 k0, e]
 cases b with
 | true => exact h1 rfl
 | false => exact h2 rfl
theorem sEnd (N : List (Nat × AV)) (h : K (putN N A) L H) (e : ∀ K, evS P esc ops n (X.drop i0) A L H K = K (putN N A) L H := by intro K; kernel_rfl) : evS P esc ops n (X.drop i0) A L H K := by
 rw [e]; exact h
theorem sEnd' (N : List (Nat × AV)) (L' : List (Nat × List AV)) (H' : List Blk) (h : K (putN N A) L' H') (e : ∀ K, evS P esc ops n (X.drop i0) A L H K = K (putN N A) L' H' := by intro K; kernel_rfl) : evS P esc ops n (X.drop i0) A L H K := by
 rw [e]; exact h
theorem sEq (k0 : Nat) (N : List (Nat × AV)) (L' : List (Nat × List AV)) (H' : List Blk) (h : evS P esc ops n (X.drop (i0 + k0)) (putN N A) L' H' K) (e : ∀ K, evS P esc ops n ((X.drop i0).take k0) A L H K = K (putN N A) L' H' := by intro K; kernel_rfl) : evS P esc ops n (X.drop i0) A L H K := by
 rw [evS_split X i0 k0, e]; exact h
theorem sAnd (k0 : Nat) (d : Option Nat) (v : AV) (N : List (Nat × AV)) {φ : Prop} (h1 : φ) (h : evS P esc ops n (X.drop (i0 + k0)) (putD d v N A) L H K) (e : ∀ K, evS P esc ops n ((X.drop i0).take k0) A L H K = (φ ∧ K (putD d v N A) L H) := by intro K; kernel_rfl) : evS P esc ops n (X.drop i0) A L H K := by
 rw [evS_split X i0 k0, e]; exact ⟨h1, h⟩
theorem sIdx (k0 : Nat) (d : Option Nat) (N : List (Nat × AV)) {α : Type} [Inhabited α] (enc : α → List AV) (xs : List α) {i : Int} (m : Nat)
  (h0 : 0 ≤ i ∧ i.toNat < xs.length) (h : evS P esc ops n (X.drop (i0 + k0)) (putD d (.rp (enc (nth xs i)) 0) N A) L H K) (hn : ∀ x, (enc x).length = m := by exact fun _ => rfl)
  (e : ∀ K, evS P esc ops n ((X.drop i0).take k0) A L H K = (0 ≤ i ∧ oelim (List.map enc xs)[i.toNat]? fun row => row.length = m ∧ K (putD d (.rp row 0) N A) L H) := by intro K; kernel_rfl) : evS P esc ops n (X.drop i0) A L H K := by
 rw [evS_split X i0 k0, e]
 refine ⟨h0.1, oelim_mk (a := enc (nth xs i)) ?_ ⟨hn _, h⟩⟩
 rw [List.getElem?_map, nth_some h0.2]; rfl
theorem sAdr (k0 : Nat) (d : Option Nat) (N : List (Nat × AV)) (b g z : Nat) {i : Int} {m : Nat} (h0 : 0 ≤ i ∧ i.toNat < m) (h : evS P esc ops n (X.drop (i0 + k0)) (putD d (.ptr b g (0 + i.toNat) 0) N A) L H K)
  (e : ∀ K, evS P esc ops n ((X.drop i0).take k0) A L H K = (g = g ∧ z = z ∧ 0 ≤ i ∧ i < m ∧ K (putD d (.ptr b g (0 + i.toNat) 0) N A) L H) := by intro K; kernel_rfl) : evS P esc ops n (X.drop i0) A L H K := by
 rw [evS_split X i0 k0, e]; exact ⟨rfl, rfl, h0.1, by have := h0.2; omega, h⟩
theorem sCallV (k0 : Nat) (d : Option Nat) (N : List (Nat × AV)) {g : FuncId} (args : List AV) {args0 : List AV} {t : AV}
  (hf : FnV P g args0 t) (hs : PW (Snap2 L H) args args0) (h : evS P esc ops n (X.drop (i0 + k0)) (putD d t N A) L H K) (hn : args.all noTup = true := by kernel_rfl) (e : ∀ K, evS P esc ops n ((X.drop i0).take k0) A L H K = callAny P g args L H (fun v L' H' => K (putD d v N A) L' H') := by intro K; kernel_rfl) : evS P esc ops n (X.drop i0) A L H K := by
 rw [evS_split X i0 k0, e]; exact .inl ⟨hn, args0, t, hs, hf, h⟩
theorem sStB (k0 : Nat) (d : Option Nat) (N : List (Nat × AV)) {α : Type} [Inhabited α] (enc : α → List AV) (xs : List α) (i : Int) (c k g : Nat) (cells : List AV) (H' : List (List AV) → List Blk) (x' : α) (hr : i.toNat < xs.length)
  (h : evS P esc ops n (X.drop (i0 + k0)) (putD d (.tup []) N A) L (H' (List.map enc (xs.set i.toNat x'))) K) (hc : Nat.ble (c + k) (enc (nth xs i)).length = true := by kernel_rfl) (hs : splice (enc (nth xs i)) c cells = enc x' := by kernel_rfl)
  (e : ∀ K, evS P esc ops n ((X.drop i0).take k0) A L H K = (g = g ∧ oelim (List.map enc xs)[0 + i.toNat]? fun row => c + k ≤ row.length ∧ K (putD d (.tup []) N A) L (H' ((List.map enc xs).set (0 + i.toNat) (splice row c cells)))) := by intro K; kernel_rfl) : evS P esc ops n (X.drop i0) A L H K := by
 rw [evS_split X i0 k0, e]
 refine ⟨rfl, oelim_mk (a := enc (nth xs i)) ?_ ⟨Nat.le_of_ble_eq_true hc, ?_⟩⟩
 ·rw [Nat.zero_add, List.getElem?_map, nth_some hr]; rfl
 ·rw [hs, Nat.zero_add, map_set]; exact h
theorem sStBj (k0 : Nat) (d : Option Nat) (N : List (Nat × AV)) {α : Type} [Inhabited α] (enc : α → List AV) (xs : List α) (i : Int) (c k g : Nat) (cells : List AV) (j : Nat) (x' : α) (hr : i.toNat < xs.length)
  (h : evS P esc ops n (X.drop (i0 + k0)) (putD d (.tup []) N A) L (hrw j (List.map enc (xs.set i.toNat x')) H) K) (hc : Nat.ble (c + k) (enc (nth xs i)).length = true := by kernel_rfl) (hs : splice (enc (nth xs i)) c cells = enc x' := by kernel_rfl)
  (e : ∀ K, evS P esc ops n ((X.drop i0).take k0) A L H K = (g = g ∧ oelim (List.map enc xs)[0 + i.toNat]? fun row => c + k ≤ row.length ∧ K (putD d (.tup []) N A) L (hrw j ((List.map enc xs).set (0 + i.toNat) (splice row c cells)) H)) := by intro K; kernel_rfl) : evS P esc ops n (X.drop i0) A L H K := sStB k0 d N enc xs i c k g cells (fun r => hrw j r H) x' hr h hc hs e
theorem sMks (k0 : Nat) (d : Option Nat) (N : List (Nat × AV)) {α : Type} (enc : α → List AV) {i : Int} (B : Int) (z : List AV) (b : Nat) (H' : List (List AV) → List Blk) (x0 : α) (h0 : 0 ≤ i ∧ B * i ≤ 140737488355328 ∧ i ≤ 4611686018427387904)
  (h : evS P esc ops n (X.drop (i0 + k0)) (putD d (.ref b 0 0 (List.replicate i.toNat x0).length false) N A) L (H' (List.map enc (List.replicate i.toNat x0))) K) (hz : z = enc x0 := by rfl)
  (e : ∀ K, evS P esc ops n ((X.drop i0).take k0) A L H K = (0 ≤ i ∧ i ≤ i ∧ B * i ≤ 140737488355328 ∧ i ≤ 4611686018427387904 ∧ K (putD d (.ref b 0 0 i.toNat false) N A) L (H' (List.replicate i.toNat z))) := by intro K; kernel_rfl) : evS P esc ops n (X.drop i0) A L H K := by
 rw [evS_split X i0 k0, e]
 refine ⟨h0.1, Int.le_refl _, h0.2.1, h0.2.2, ?_⟩
 ·rw [hz, ← List.map_replicate]; rw [List.length_replicate] at h; exact h
theorem sApp (k0 : Nat) (d : Option Nat) (N : List (Nat × AV)) {α : Type} (enc : α → List AV) (xs ys : List α) (xr : List (List AV)) (b g s B : Nat) (H' : List (List AV) → List Blk) (hx : xr = List.map enc ys) (h0 : (xs.length + ys.length) * B ≤ 140737488355328 ∧ xs.length + ys.length ≤ 4611686018427387904)
  (h : evS P esc ops n (X.drop (i0 + k0)) (putD d (.ref b (g + 1) 0 (xs ++ ys).length false) N A) L (H' (List.map enc (xs ++ ys))) K) (hk : ∀ x, (enc x).length = s ∧ (enc x).all sto1 = true := by exact fun _ => ⟨rfl, rfl⟩)
  (e : ∀ K, evS P esc ops n ((X.drop i0).take k0) A L H K = (true = true ∧ true = true ∧ rowsOk s xr ∧ 0 = 0 ∧ g = g ∧ s = s ∧ (List.map enc xs).length = xs.length ∧ (xs.length + xr.length) * B ≤ 140737488355328 ∧ xs.length + xr.length ≤ 4611686018427387904 ∧ K (putD d (.ref b (g + 1) 0 (xs.length + xr.length) false) N A) L (H' (List.map enc xs ++ xr))) := by intro K; kernel_rfl) : evS P esc ops n (X.drop i0) A L H K := by
 rw [evS_split X i0 k0, e]
 subst hx
 refine ⟨rfl, rfl, rowsOk_map hk ys, rfl, rfl, rfl, List.length_map .., by rw [List.length_map]; exact h0.1, by rw [List.length_map]; exact h0.2, ?_⟩
 ·rw [List.length_append] at h; rw [List.length_map, ← List.map_append]; exact h
theorem sApp0 (k0 : Nat) (d : Option Nat) (N : List (Nat × AV)) {α : Type} (enc : α → List AV) (ys : List α) (xr : List (List AV)) (b s B : Nat) (H' : List (List AV) → List Blk) (hx : xr = List.map enc ys) (h0 : ys.length * B ≤ 140737488355328 ∧ ys.length ≤ 4611686018427387904)
  (h : evS P esc ops n (X.drop (i0 + k0)) (putD d (.ref b 0 0 ys.length false) N A) L (H' (List.map enc ys)) K) (hk : ∀ x, (enc x).length = s ∧ (enc x).all sto1 = true := by exact fun _ => ⟨rfl, rfl⟩)
  (e : ∀ K, evS P esc ops n ((X.drop i0).take k0) A L H K = (true = true ∧ true = true ∧ rowsOk s xr ∧ true = true ∧ (∀ row ∈ ([] : List (List AV)), row.length = s) ∧ (List.length (α := List AV) [] + xr.length) * B ≤ 140737488355328 ∧ List.length (α := List AV) [] + xr.length ≤ 4611686018427387904 ∧ (([] : List (List AV)) ≠ [] → xr ≠ []) ∧
   K (putD d (.ref b 0 0 (List.length (α := List AV) [] + xr.length) false) N A) L (H' ([] ++ xr))) := by intro K; kernel_rfl) : evS P esc ops n (X.drop i0) A L H K := by
 rw [evS_split X i0 k0, e]
 subst hx
 refine ⟨rfl, rfl, rowsOk_map hk ys, rfl, (fun row h => by cases h), by simpa using h0.1, by simpa using h0.2, (fun h => absurd rfl h), ?_⟩
 ·simpa using h
theorem sCallO (k0 : Nat) (d : Option Nat) (N : List (Nat × AV)) {g : FuncId} (args : List AV) {args0 : List AV} {r0 : AV} {H0 : List Blk} (r : AV) (Hx : List Blk)
  (hf : FnS P g args0 [] fun r H' => r = r0 ∧ H' = H0) (hs : PW (Snap2 L H) args args0) (hoH : ownH H0 = true) (eH : H ++ H0.map (shiftB H.length) = Hx) 
  (h : evS P esc ops n (X.drop (i0 + k0)) (putD d r N A) L Hx K) (hn : args.all noTup = true := by kernel_rfl) (ho : ownv3 r0 = true := by kernel_rfl) (er : shift3 H.length r0 = r := by kernel_rfl) (e : ∀ K, evS P esc ops n ((X.drop i0).take k0) A L H K = callAny P g args L H (fun v L' H' => K (putD d v N A) L' H') := by intro K; kernel_rfl) : evS P esc ops n (X.drop i0) A L H K := by
 rw [evS_split X i0 k0, e]
 subst er; subst eH
 exact .inr (.inl ⟨hn, args0, hs, hf.mono fun r1 H1 ⟨h1, h2⟩ => by subst h1; subst h2; exact ⟨ho, hoH, h⟩⟩)
theorem sLen (k0 : Nat) (d : Option Nat) (N : List (Nat × AV)) {α : Type} (enc : α → List AV) (xs : List α) (h : xs.length ≤ 4611686018427387904 → evS P esc ops n (X.drop (i0 + k0)) (putD d (.int .i64 (xs.length : Nat)) N A) L H K)
  (e : ∀ K, evS P esc ops n ((X.drop i0).take k0) A L H K = ((List.map enc xs).length ≤ 4611686018427387904 → K (putD d (.int .i64 ((List.map enc xs).length : Nat)) N A) L H) := by intro K; kernel_rfl) : evS P esc ops n (X.drop i0) A L H K := by
 rw [evS_split X i0 k0, e, List.length_map]; exact h
theorem sNil (k0 : Nat) (d : Option Nat) (N : List (Nat × AV)) {α : Type} (enc : α → List AV) (xs : List α) (h1 : xs ≠ [] → evS P esc ops n (X.drop (i0 + k0)) (putD d (.bool false) N A) L H K) (h2 : xs = [] → ∀ b, evS P esc ops n (X.drop (i0 + k0)) (putD d (.bool b) N A) L H K)
  (e : ∀ K, evS P esc ops n ((X.drop i0).take k0) A L H K = ((List.map enc xs ≠ [] → K (putD d (.bool false) N A) L H) ∧ (List.map enc xs = [] → ∀ b, K (putD d (.bool b) N A) L H)) := by intro K; kernel_rfl) : evS P esc ops n (X.drop i0) A L H K := by
 rw [evS_split X i0 k0, e]
 exact ⟨fun h => h1 fun e => h (by rw [e]; rfl), fun h => h2 (by simpa using h)⟩
end
section
variable {P : Program} {esc : List Nat} {ops : Array Oper} {n : Nat} {X : List Item} {i0 : Nat} {A : List (Nat × AV)} {L : List (Nat × List AV)} {H : List Blk} {K : List (Nat × AV) → List (Nat × List AV) → List Blk → Prop}
theorem tEJ {A' : List (Nat × AV)} {L' : List (Nat × List AV)} {H' : List Blk} {ψ : Prop} {Q : Exit → St → Prop} (N : List (Nat × AV)) (hp : ψ) (eA : pickS (putN N A) A' = A' := by kernel_rfl) (e : ∀ K, evSD P esc ops n (X.drop i0) A L H K = K (putN N A) L' H' := by intro K; kernel_rfl)
  (hA : ltS n (putN N A) = true := by kernel_rfl) (hA' : ltS n A' = true := by kernel_rfl) : evSD P esc ops n (X.drop i0) A L H (fun A L H => QJoin ⟨mkS n A', L', H'⟩ ψ Q .normal ⟨mkS n A, L, H⟩) := by
 rw [e]; exact ⟨hp, weak_s0 hA hA' eA⟩
theorem tCase1 (k0 t : Nat) (b : Bool) (N : List (Nat × AV)) (h1 : b = true → evSD P esc ops n (X.drop (i0 + k0)) (setS (putN ((t, .bool b) :: N) A) t (.bool true)) L H K) (h2 : b = false → evSD P esc ops n (X.drop (i0 + k0)) (setS (putN ((t, .bool b) :: N) A) t (.bool false)) L H K)
  (e : ∀ K, evSD P esc ops n ((X.drop i0).take k0) A L H K = K (setS (putN ((t, .bool b) :: N) A) t (.bool b)) L H := by intro K; kernel_rfl) : evSD P esc ops n (X.drop i0) A L H K := by
 rw [evSD_split X i0 k0, e]
 cases b with
 | true => exact h1 rfl
 | false => exact h2 rfl
theorem tEnd (N : List (Nat × AV)) (h : K (putN N A) L H) (e : ∀ K, evSD P esc ops n (X.drop i0) A L H K = K (putN N A) L H := by intro K; kernel_rfl) : evSD P esc ops n (X.drop i0) A L H K := by
 rw [e]; exact h
theorem tFl (k0 : Nat) (N : List (Nat × AV)) (L' : List (Nat × List AV)) (H' : List Blk) {φ : Prop} (h1 : φ) (h : evSD P esc ops n (X.drop (i0 + k0)) (putN N A) L' H' K) (e : ∀ K, evSD P esc ops n ((X.drop i0).take k0) A L H K = (φ ∧ K (putN N A) L' H') := by intro K; kernel_rfl) : evSD P esc ops n (X.drop i0) A L H K := by
 rw [evSD_split X i0 k0, e]; exact ⟨h1, h⟩
theorem tIdx (k0 : Nat) (d : Option Nat) (N : List (Nat × AV)) {α : Type} [Inhabited α] (enc : α → List AV) (xs : List α) {i : Int} (m : Nat)
  (h0 : 0 ≤ i ∧ i.toNat < xs.length) (h : evSD P esc ops n (X.drop (i0 + k0)) (putD d (.rp (enc (nth xs i)) 0) N A) L H K) (hn : ∀ x, (enc x).length = m := by exact fun _ => rfl)
  (e : ∀ K, evSD P esc ops n ((X.drop i0).take k0) A L H K = (0 ≤ i ∧ oelim (List.map enc xs)[i.toNat]? fun row => row.length = m ∧ K (putD d (.rp row 0) N A) L H) := by intro K; kernel_rfl) : evSD P esc ops n (X.drop i0) A L H K := by
 rw [evSD_split X i0 k0, e]
 refine ⟨h0.1, oelim_mk (a := enc (nth xs i)) ?_ ⟨hn _, h⟩⟩
 rw [List.getElem?_map, nth_some h0.2]; rfl
theorem tAdr (k0 : Nat) (d : Option Nat) (N : List (Nat × AV)) (b g z : Nat) {i : Int} {m : Nat} (h0 : 0 ≤ i ∧ i.toNat < m) (h : evSD P esc ops n (X.drop (i0 + k0)) (putD d (.ptr b g (0 + i.toNat) 0) N A) L H K)
  (e : ∀ K, evSD P esc ops n ((X.drop i0).take k0) A L H K = (g = g ∧ z = z ∧ 0 ≤ i ∧ i < m ∧ K (putD d (.ptr b g (0 + i.toNat) 0) N A) L H) := by intro K; kernel_rfl) : evSD P esc ops n (X.drop i0) A L H K := by
 rw [evSD_split X i0 k0, e]; exact ⟨rfl, rfl, h0.1, by have := h0.2; omega, h⟩
theorem tLdB (k0 : Nat) (d : Option Nat) (N : List (Nat × AV)) {α : Type} [Inhabited α] (enc : α → List AV) (xs : List α) (i : Int) (t : TypeId) (c g : Nat) (v : AV) (hr : i.toNat < xs.length) (h : evSD P esc ops n (X.drop (i0 + k0)) (putD d v N A) L H K)
  (e2 : ∀ K, takeA P t (enc (nth xs i)) c K = K v := by intro K; kernel_rfl)
  (e : ∀ K, evSD P esc ops n ((X.drop i0).take k0) A L H K = (g = g ∧ oelim (List.map enc xs)[0 + i.toNat]? fun row => takeA P t row c fun v => K (putD d v N A) L H) := by intro K; kernel_rfl) : evSD P esc ops n (X.drop i0) A L H K := by
 rw [evSD_split X i0 k0, e]
 refine ⟨rfl, oelim_mk (a := enc (nth xs i)) ?_ (by rw [e2]; exact h)⟩
 rw [Nat.zero_add, List.getElem?_map, nth_some hr]; rfl
theorem tCallV (k0 : Nat) (d : Option Nat) (N : List (Nat × AV)) {g : FuncId} (args : List AV) {args0 : List AV} {t : AV}
  (hf : FnV P g args0 t) (hs : PW (Snap2 L H) args args0) (h : evSD P esc ops n (X.drop (i0 + k0)) (putD d t N A) L H K) (hn : args.all noTup = true := by kernel_rfl) (e : ∀ K, evSD P esc ops n ((X.drop i0).take k0) A L H K = callVA P g args L H (fun v => K (putD d v N A) L H) := by intro K; kernel_rfl) : evSD P esc ops n (X.drop i0) A L H K := by
 rw [evSD_split X i0 k0, e]; exact ⟨hn, args0, t, hs, hf, h⟩
theorem tSlcTo (k0 : Nat) (d : Option Nat) (N : List (Nat × AV)) {α : Type} (enc : α → List AV) (xs : List α) (m : Nat) {b : Int} (fr : Bool)
  (h0 : 0 ≤ b ∧ b ≤ xs.length) (h : evSD P esc ops n (X.drop (i0 + k0)) (putD d (.lst (List.map enc (xs.take b.toNat)) false fr) N A) L H K) (hn : ∀ x, (enc x).length = m := by exact fun _ => rfl)
  (e : ∀ K, evSD P esc ops n ((X.drop i0).take k0) A L H K = (0 ≤ b ∧ 0 ≤ b.toNat ∧ b.toNat ≤ (List.map enc xs).length ∧ (∀ (i : Nat) (row : List AV), (List.map enc xs)[i]? = some row → row.length = m) ∧
   K (putD d (.lst (((List.map enc xs).drop 0).take (b.toNat - 0)) false fr) N A) L H) := by intro K; kernel_rfl) : evSD P esc ops n (X.drop i0) A L H K := by
 rw [evSD_split X i0 k0, e]
 refine ⟨h0.1, Nat.zero_le _, by rw [List.length_map]; omega, fun i row hr => ?_, ?_⟩
 ·rw [List.getElem?_map] at hr
  cases hx : xs[i]? with
  | none => rw [hx] at hr; cases hr
  | some x => rw [hx] at hr; cases hr; exact hn x
 ·rw [List.drop_zero, Nat.sub_zero, ← List.map_take]; exact h
theorem tApp (k0 : Nat) (d : Option Nat) (N : List (Nat × AV)) {α : Type} (enc : α → List AV) (xs ys : List α) (xr : List (List AV)) (b g s B : Nat) (F : List (List AV) → Prop) (H' : List (List AV) → List Blk) (hx : xr = List.map enc ys) (h0 : (xs.length + ys.length) * B ≤ 140737488355328 ∧ xs.length + ys.length ≤ 4611686018427387904)
  (hF : F ((List.map enc (xs ++ ys)))) (h : evSD P esc ops n (X.drop (i0 + k0)) (putD d (.ref b (g + 1) 0 (xs ++ ys).length false) N A) L (H' (List.map enc (xs ++ ys))) K) (hk : ∀ x, (enc x).length = s ∧ (enc x).all sto1 = true := by exact fun _ => ⟨rfl, rfl⟩)
  (e : ∀ K, evSD P esc ops n ((X.drop i0).take k0) A L H K = (true = true ∧ true = true ∧ rowsOk s xr ∧ 0 = 0 ∧ g = g ∧ s = s ∧ (List.map enc xs).length = xs.length ∧ (xs.length + xr.length) * B ≤ 140737488355328 ∧ xs.length + xr.length ≤ 4611686018427387904 ∧ F ((List.map enc xs ++ xr)) ∧ K (putD d (.ref b (g + 1) 0 (xs.length + xr.length) false) N A) L (H' (List.map enc xs ++ xr))) := by intro K; kernel_rfl) : evSD P esc ops n (X.drop i0) A L H K := by
 rw [evSD_split X i0 k0, e]
 subst hx
 refine ⟨rfl, rfl, rowsOk_map hk ys, rfl, rfl, rfl, List.length_map .., by rw [List.length_map]; exact h0.1, by rw [List.length_map]; exact h0.2, ?_, ?_⟩
 ·rw [← List.map_append]; exact hF
 ·rw [List.length_append] at h; rw [List.length_map, ← List.map_append]; exact h
theorem tCallO (k0 : Nat) (d : Option Nat) (N : List (Nat × AV)) {g : FuncId} (args : List AV) {args0 : List AV} {r0 : AV} {H0 : List Blk} (F : List (Nat × List AV) → List Blk → Prop) (r : AV) (Hx : List Blk)
  (hf : FnS P g args0 [] fun r H' => r = r0 ∧ H' = H0) (hs : PW (Snap2 L H) args args0) (hoH : ownH H0 = true) (eH : H ++ H0.map (shiftB H.length) = Hx) (hF : F L Hx) 
  (h : evSD P esc ops n (X.drop (i0 + k0)) (putD d r N A) L Hx K) (hn : args.all noTup = true := by kernel_rfl) (ho : ownv3 r0 = true := by kernel_rfl) (er : shift3 H.length r0 = r := by kernel_rfl) (e : ∀ K, evSD P esc ops n ((X.drop i0).take k0) A L H K = callAny P g args L H (fun v L' H' => F L' H' ∧ K (putD d v N A) L' H') := by intro K; kernel_rfl) : evSD P esc ops n (X.drop i0) A L H K := by
 rw [evSD_split X i0 k0, e]
 subst er; subst eH
 exact .inr (.inl ⟨hn, args0, hs, hf.mono fun r1 H1 ⟨h1, h2⟩ => by subst h1; subst h2; exact ⟨ho, hoH, hF, h⟩⟩)
theorem tLen (k0 : Nat) (d : Option Nat) (N : List (Nat × AV)) {α : Type} (enc : α → List AV) (xs : List α) (h : evSD P esc ops n (X.drop (i0 + k0)) (putD d (.int .i64 (xs.length : Nat)) N A) L H K)
  (e : ∀ K, evSD P esc ops n ((X.drop i0).take k0) A L H K = K (putD d (.int .i64 ((List.map enc xs).length : Nat)) N A) L H := by intro K; kernel_rfl) : evSD P esc ops n (X.drop i0) A L H K := by
 rw [evSD_split X i0 k0, e, List.length_map]; exact h
end
end Go.Proofs.Ytglpfccgmfhkdaa.Fw
