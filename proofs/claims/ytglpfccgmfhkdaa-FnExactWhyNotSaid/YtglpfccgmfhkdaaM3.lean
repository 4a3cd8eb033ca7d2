/- The machine, part F: regions, code, loops, functions. -/
import Derived.Test.YtglpfccgmfhkdaaM2

set_option linter.unusedVariables false
namespace Go.Proofs.Ytglpfccgmfhkdaa.Fw
open Go
def litV (b : Bool) : TV := .b (match b with
 | true => .t
 | false => .f)
theorem litV_av (b : Bool) : (litV b).av = .bool b := by cases b <;> rfl
def spl (x : BX) (s : TS) (K : Bool → TS → Tr) : Tr := match x with
 | .t => K true s
 | .f => K false s
 | x => .ife x s (K true ⟨[], s.T ++ s.B, s.vs, s.nb⟩) (K false ⟨[], s.T ++ s.B, s.vs, s.nb⟩)
def tagV (d : Nat) (v : TV) : TV := match v with
 | .b x => (match x with
  | .v p => .b (.at d p)
  | x => .b x)
 | v => v
theorem tagV_av (d : Nat) (v : TV) : (tagV d v).av = v.av := by
 unfold tagV
 split
 ·split <;> rfl
 ·rfl
def putO (n : Nat) (s : TS) (d : Option Nat) (v : TV) : TS := match d with
 | none => s
 | some d => match Nat.blt d n with
  | true => s.put d (tagV d v)
  | false => s
theorem st_congr {n : Nat} {s s' : TS} (hv : s'.vs = s.vs) (hb : s'.nb = s.nb) (h : ∀ k, (s'.get k).av = (s.get k).av ∧ (s'.get k).bk = (s.get k).bk) : s'.st n = s.st n := by
 have hc : ∀ v c m, avs (cellsV s' v c m) = avs (cellsV s v c m) := by
  intro v c m
  induction m generalizing c with
  | zero => rfl
  | succ m ih => rw [cellsV, cellsV, avs, avs, (h _).1, ih]
 unfold TS.st
 rw [hv, hb]
 simp only [(h _).1, (h _).2, hc]
theorem split_st {n : Nat} (s : TS) : TS.st n ⟨[], s.T ++ s.B, s.vs, s.nb⟩ = s.st n := st_congr rfl rfl fun k => by
 have : TS.get ⟨[], s.T ++ s.B, s.vs, s.nb⟩ k = s.get k := by
  unfold TS.get; simp only; rw [lkT_append]; rfl
 rw [this]; exact ⟨rfl, rfl⟩
theorem spl_sound {n : Nat} {x : BX} {s : TS} {K : Bool → TS → Tr} {R : Exit → TS → Prop} (h : (spl x s K).den R) : ∃ s', s'.st n = s.st n ∧ (∀ k, s'.get k = s.get k) ∧ (K x.den s').den R := by
 have key : (Tr.ife x s (K true ⟨[], s.T ++ s.B, s.vs, s.nb⟩) (K false ⟨[], s.T ++ s.B, s.vs, s.nb⟩)).den R → ∃ s', s'.st n = s.st n ∧ (∀ k, s'.get k = s.get k) ∧ (K x.den s').den R := fun h => by
  refine ⟨_, split_st s, fun k => ?_, ?_⟩
  ·unfold TS.get; simp only; rw [lkT_append]; rfl
  ·cases hx : x.den with
   | true => exact h.1 hx
   | false => exact h.2 hx
 cases x with
 | t => exact ⟨s, rfl, fun _ => rfl, h⟩
 | f => exact ⟨s, rfl, fun _ => rfl, h⟩
 | _ => exact key h
theorem kc_ne {v c d : Nat} (h : d < 1000000) : d ≠ kc v c := by unfold kc; omega
theorem kb_ne {b d : Nat} (h : d < 1000000) : d ≠ kb b := by unfold kb; omega
theorem putO_st {n : Nat} (hn : n ≤ 1000000) (s : TS) (d : Option Nat) (v : TV) : (putO n s d v).st n = ⟨putA (s.st n).T d v.av, (s.st n).L, (s.st n).H⟩ := by
 cases d with
 | none => rfl
 | some d =>
  unfold putO
  simp only
  split
  ·rename_i hd
   have hd : d < n := by rw [← Nat.blt_eq]; exact hd
   rw [← tagV_av d v]
   generalize tagV d v = v
   have hc : ∀ v' c m, cellsV (s.put d v) v' c m = cellsV s v' c m := by
    intro v' c m
    induction m generalizing c with
    | zero => rfl
    | succ m ih => rw [cellsV, cellsV, TS.get_put, if_neg (kc_ne (by omega)), ih]
   have hT : ((s.put d v).st n).T = (s.st n).T.set d v.av := by
    apply List.ext_getElem?
    intro t
    show ((List.range n).map fun t => ((s.put d v).get t).av)[t]? = (((List.range n).map fun t => (s.get t).av).set d v.av)[t]?
    rw [List.getElem?_set]
    simp only [List.getElem?_map, List.length_map, List.length_range]
    rcases Nat.lt_or_ge t n with h | h
    ·rw [List.getElem?_range h]
     simp only [Option.map_some]
     rw [TS.get_put]
     by_cases e : d = t
     ·simp [e, h]
     ·simp [e]
    ·rw [List.getElem?_eq_none (l := List.range n) (by simpa using h)]
     by_cases e : d = t
     ·omega
     ·simp [e]
   have hL : ((s.put d v).st n).L = (s.st n).L := by
    show s.vs.map _ = s.vs.map _
    simp only [hc]
   have hH : ((s.put d v).st n).H = (s.st n).H := by
    show (List.range s.nb).map _ = (List.range s.nb).map _
    simp only [TS.get_put, if_neg (kb_ne (show d < 1000000 by omega))]
   show (s.put d v).st n = ⟨(s.st n).T.set d v.av, _, _⟩
   rw [← hT, ← hL, ← hH]
  ·rename_i hd
   have hd : ¬ d < n := fun h => by rw [← Nat.blt_eq] at h; rw [h] at hd; cases hd
   show s.st n = ⟨(s.st n).T.set d v.av, _, _⟩
   rw [List.set_eq_of_length_le]
   show ((List.range n).map _).length ≤ d
   simp; omega
theorem put_same {n : Nat} {s : TS} {t : Nat} {v : TV} (ht : t < 1000000) (h : (s.get t).av = v.av) : (s.put t v).st n = s.st n := by
 have hc : ∀ v' c m, avs (cellsV (s.put t v) v' c m) = avs (cellsV s v' c m) := by
  intro v' c m
  induction m generalizing c with
  | zero => rfl
  | succ m ih => rw [cellsV, cellsV, avs, avs, TS.get_put, if_neg (kc_ne ht), ih]
 unfold TS.st
 have h1 : ∀ k, ((s.put t v).get k).av = (s.get k).av := fun k => by
  rw [TS.get_put]; split
  ·rename_i e; subst e; exact h.symm
  ·rfl
 have h2 : ∀ b, (s.put t v).get (kb b) = s.get (kb b) := fun b => by rw [TS.get_put, if_neg (kb_ne ht)]
 simp only [h1, h2, hc]; rfl
section
variable {P : Program} (cf : Cf P)
def pickT (c x y : Operand) (s : TS) (K : TV → TS → Tr) : Tr := match opT cf.n s c with
 | .b z => spl z s fun b s =>
  let s := match c with
   | .tmp t => s.put t (litV b)
   | _ => s
  foV (opT cf.n s (bif b then x else y)) fun v => K v s
 | _ => .no
def gdT (ops : Array Oper) (o : Oper) (s : TS) (run skip : TS → Tr) : Tr := match o.guard with
 | none => run s
 | some g => match (ops[g.1]?).bind (·.dst) with
  | none => .no
  | some t => match opT cf.n s (.tmp t) with
   | .b z => spl z s fun b s => bif b == g.2 then run (s.put t (litV b)) else skip (s.put t (litV b))
   | .tup c => match c with
    | [] => skip s
    | _ => .no
   | _ => .no
def stepT (kn : List Nat) (o : Oper) (s : TS) (K : TV → TS → Tr) : Tr := match o.op with
 | .pick c x y => pickT cf c x y s K
 | _ => wrT cf s kn o K
def rgT (kn : List Nat) (ops : Array Oper) : List Oper → TS → (TS → Tr) → Tr
 | [], s, K => K s
 | o :: r, s, K => gdT cf ops o s (fun s => stepT cf kn o s fun v s => rgT kn ops r (putO cf.n s o.dst v) K) (fun s => rgT kn ops r (putO cf.n s o.dst (.tup [])) K)
def flT (ops : Array Oper) (s : TS) : List Nat → Tr → Tr
 | [], k => k
 | i :: r, k => .eq ((opI ops i).guard.isNone && (opI ops i).dst.isSome) true (.eq (fun Q => evQ P (opI ops i) (fun x => (opT cf.n s x).av) (s.st cf.n).L (s.st cf.n).H Q) (fun Q => Q (match (opI ops i).dst with
  | some d => (opT cf.n s (.tmp d)).av
  | none => .undef)) (flT ops s r k))
def rgDT (ops : Array Oper) : List Item → TS → (TS → Tr) → Tr
 | [], s, K => K s
 | x :: r, s, K => gdT cf ops (opI ops x.i) s
   (fun s => match x.q with
    | true => (match isAl (opI ops x.i) with
     | true => (match (opI ops x.i).dst with
      | some d => .eq (fun Q => evQ P (opI ops x.i) (fun x => (opT cf.n s x).av) (s.st cf.n).L (s.st cf.n).H Q) (fun Q => Q (.lptr d 0)) (rgDT ops r (putO cf.n s (opI ops x.i).dst (.lp d 0)) K)
      | none => .no)
     | false => (match (opI ops x.i).op with
      | .pick c a b => pickT cf c a b s fun v s => rgDT ops r (putO cf.n s (opI ops x.i).dst v) K
      | _ => rdT cf s (opI ops x.i) fun v => rgDT ops r (putO cf.n s (opI ops x.i).dst v) K))
    | false => (match (opI ops x.i).op with
     | .pick _ _ _ => .no
     | _ => wrT cf s [] (opI ops x.i) fun v s => flT cf ops s x.fl (rgDT ops r (putO cf.n s (opI ops x.i).dst v) K)))
   (fun s => rgDT ops r (putO cf.n s (opI ops x.i).dst (.tup [])) K)
def zsT (P : Program) (ops : Array Oper) : List Item → List (Nat × List TV)
 | [] => []
 | x :: r => match x.q with
  | true => (match (opI ops x.i).op with
   | .alloc e => (match (opI ops x.i).dst with
    | some d => (d, zeroT P e) :: zsT P ops r
    | none => zsT P ops r)
   | _ => zsT P ops r)
  | false => zsT P ops r
def zsK : List (Nat × List TV) → List (Nat × TV)
 | [] => []
 | (d, c) :: r => cellsK d 0 c ++ zsK r
def drT (ops : Array Oper) (ord : List Item) (As : List (List Nat)) (s : TS) (K : TS → Tr) : Tr :=
 let zs := zsT P ops ord
 let s' := s.add (zsK zs) (zs.map (fun p => (p.1, p.2.length)) ++ s.vs) s.nb
 match bigK (zsK zs) with
 | false => .no
 | true => .eq (P.follows .mixedOrders) true (.eq As.length ops.size (.eq (drawB ops ord (ancL As)) true (.eq (ord.all (·.lit)) true (.eq (s'.st cf.n).L (zs.map (fun p => (p.1, avs p.2)) ++ (s.st cf.n).L)
  (.eq (s'.st cf.n).H (s.st cf.n).H (.eq (frB (zs.map fun p => (p.1, avs p.2)) (s.st cf.n).L) true (.eq (alB ops (s.st cf.n).L ord) true (rgDT cf ops ord s' K))))))))
end
section
variable {P : Program} {cf : Cf P} {R : Exit → TS → Prop}
theorem lookT {n t : Nat} {s : TS} {v : TV} (h : opT n s (.tmp t) = v) (hv : v ≠ .u) : t < n ∧ s.get t = v := by
 have h : (match Nat.blt t n with
  | true => s.get t
  | false => TV.u) = v := h
 split at h
 ·rename_i hb; exact ⟨by rw [← Nat.blt_eq]; exact hb, h⟩
 ·exact absurd h.symm hv
theorem set_self {T : List AV} {t : Nat} {a : AV} (h : T.getD t .undef = a) : T.set t a = T ∨ a = .undef := by
 by_cases hl : t < T.length
 ·left
  rw [List.getD_eq_getElem?_getD, List.getElem?_eq_getElem hl] at h
  have h : T[t] = a := h
  rw [← h]; exact List.set_getElem_self ..
 ·right; rw [← h, List.getD_eq_getElem?_getD, List.getElem?_eq_none (by omega)]; rfl
theorem gdT_sound (hn : cf.n ≤ 1000000) {ops : Array Oper} {o : Oper} {s : TS} {run skip : TS → Tr} {x y : List AV → Prop} (hx : ∀ s', s'.st cf.n = s.st cf.n → (run s').den R → x (s.st cf.n).T) (hy : ∀ s', s'.st cf.n = s.st cf.n → (skip s').den R → y (s.st cf.n).T)
  (h : (gdT cf ops o s run skip).den R) : gdA ops true o (s.st cf.n).T x y := by
 unfold gdT at h
 unfold gdA
 split at h
 ·rename_i hg; rw [hg]; exact hx s rfl h
 ·rename_i g hg
  obtain ⟨j, want⟩ := g
  rw [hg]
  simp only at h ⊢
  split at h
  ·exact h.elim
  ·rename_i t ht
   rw [ht]
   simp only
   have hT : (s.st cf.n).T.getD t .undef = (opT cf.n s (.tmp t)).av := by
    have := congrFun (opT_av cf.n s) (.tmp t); exact this
   split at h
   ·rename_i z hz
    rw [hz] at hT
    rw [hT]
    show bway true z.den _ _
    obtain ⟨hl, hget⟩ := lookT hz (fun e => by cases e)
    obtain ⟨s', e1, e2, h⟩ := spl_sound (n := cf.n) h
    have hsame : (s'.put t (litV z.den)).st cf.n = s.st cf.n := by
     rw [put_same (by omega) (by rw [e2, hget, litV_av]; rfl), e1]
    have hset : ∀ b, z.den = b → (s.st cf.n).T.set t (.bool b) = (s.st cf.n).T := fun b hb => by
     rcases set_self (show (s.st cf.n).T.getD t .undef = .bool b by rw [hT, ← hb]; rfl) with q | q
     ·exact q
     ·cases q
    cases hzd : z.den with
    | true =>
     rw [hzd] at h hsame
     show if want = true then _ else _
     rw [hset true hzd]
     cases want with
     | true => rw [if_pos rfl]; exact hx _ hsame h
     | false => rw [if_neg (by simp)]; exact hy _ hsame h
    | false =>
     rw [hzd] at h hsame
     show if want = true then _ else _
     rw [hset false hzd]
     cases want with
     | true => rw [if_pos rfl]; exact hy _ hsame h
     | false => rw [if_neg (by simp)]; exact hx _ hsame h
   ·rename_i c hz
    rw [hz] at hT
    split at h
    ·rw [hT]; exact hy s rfl h
    ·exact h.elim
   ·exact h.elim
theorem pickT_sound (hn : cf.n ≤ 1000000) {c x y : Operand} {s : TS} {K : TV → TS → Tr} {Kp : AV → Prop} (hK : ∀ v s', s'.st cf.n = s.st cf.n → (K v s').den R → Kp v.av) (h : (pickT cf c x y s K).den R) :
  asB (opv (s.st cf.n).T c) fun z => bway true z (Kp (opv (s.st cf.n).T x)) (Kp (opv (s.st cf.n).T y)) := by
 unfold pickT at h
 split at h
 ·rename_i z hz
  obtain ⟨s', e1, e2, h⟩ := spl_sound (n := cf.n) h
  simp only at h
  rw [foV_eq] at h
  generalize hs2 : (match c with
   | .tmp t => s'.put t (litV z.den)
   | _ => s') = s2 at h
  have e3 : s2.st cf.n = s.st cf.n := by
   rw [← hs2, ← e1]
   split
   ·rename_i t
    obtain ⟨hl, hget⟩ := lookT hz (fun e => by cases e)
    exact put_same (by omega) (by rw [e2, hget, litV_av]; rfl)
   ·rfl
  have := hK _ _ e3 h
  have ho : ∀ o, (opT cf.n s2 o).av = opv (s.st cf.n).T o := fun o => by rw [← e3, opT_av]
  rw [ho] at this
  have hc : opv (s.st cf.n).T c = .bool z.den := by
   have := congrFun (opT_av cf.n s) c
   rw [this]
   show (opT cf.n s c).av = _
   rw [hz]; rfl
  rw [hc]
  show bway true z.den _ _
  cases hzd : z.den with
  | true => rw [hzd] at this; exact this
  | false => rw [hzd] at this; exact this
 ·exact h.elim
theorem pickA_not {o : Oper} {T : List AV} {K : AV → Prop} {els : Prop} (h : ∀ c x y, o.op ≠ .pick c x y) : pickA true o T K els = els := by
 unfold pickA
 split
 ·rename_i c x y e; exact absurd e (h c x y)
 ·rfl
theorem stepT_sound (hn : cf.n ≤ 1000000) {kn : List Nat} {o : Oper} {s : TS} {K : TV → TS → Tr} {Kp : AV → List (Nat × List AV) → List Blk → Prop} (hK : WK cf s R K Kp) (h : (stepT cf kn o s K).den R) :
  pickA true o (s.st cf.n).T (fun v => Kp v (s.st cf.n).L (s.st cf.n).H) (evOp P [] o (opv (s.st cf.n).T) (s.st cf.n).L (s.st cf.n).H Kp) := by
 unfold stepT at h
 split at h
 ·rename_i c x y hop
  unfold pickA
  rw [hop]
  exact pickT_sound hn (Kp := fun v => Kp v (s.st cf.n).L (s.st cf.n).H) (fun v s' e hv => by have := hK v s' hv (by rw [e]); rwa [e] at this) h
 ·rename_i hne
  rw [pickA_not fun c x y => hne c x y]
  exact wrT_sound hn hK h
theorem rgT_sound (hn : cf.n ≤ 1000000) {kn : List Nat} {ops : Array Oper} {K : TS → Tr} {Kp : List AV → List (Nat × List AV) → List Blk → Prop} (hK : ∀ s, (K s).den R → Kp (s.st cf.n).T (s.st cf.n).L (s.st cf.n).H) : ∀ (l : List Oper) (s : TS), (rgT cf kn ops l s K).den R →
  evOps P [] ops (l.map fun o => (o, true)) (s.st cf.n).T (s.st cf.n).L (s.st cf.n).H Kp
 | [], s, h => hK s h
 | o :: r, s, h => by
  refine gdT_sound hn (fun s' e h => ?_) (fun s' e h => ?_) h
  ·rw [← e]
   have := stepT_sound hn (Kp := fun v L' H' => evOps P [] ops (r.map fun o => (o, true)) (putA (s'.st cf.n).T o.dst v) L' H' Kp) (fun v s2 hv e2 => by
    have := rgT_sound hn hK r _ hv
    rw [putO_st hn] at this
    rw [← e2]; exact this) h
   exact this
  ·have := rgT_sound hn hK r _ h
   rw [putO_st hn, e] at this
   exact this
theorem flT_sound {ops : Array Oper} {s : TS} {k : Tr} : ∀ {fl : List Nat}, (flT cf ops s fl k).den R → floatsOk P ops fl (s.st cf.n).T (s.st cf.n).L (s.st cf.n).H ∧ k.den R
 | [], h => ⟨trivial, h⟩
 | i :: r, h => by
  obtain ⟨h1, h2, h3⟩ := h
  simp only [Bool.and_eq_true] at h1
  obtain ⟨q1, q2⟩ := flT_sound h3
  refine ⟨⟨⟨h1.1, h1.2, ?_⟩, q1⟩, q2⟩
  rw [opT_av]
  have := congrFun h2 (fun v => v = dstV (opI ops i) (s.st cf.n).T)
  rw [this]
  unfold dstV
  cases (opI ops i).dst with
  | none => rfl
  | some d =>
   have := congrFun (opT_av cf.n s) (.tmp d)
   exact this.symm
theorem rgDT_sound (hn : cf.n ≤ 1000000) {ops : Array Oper} {K : TS → Tr} {Kp : List AV → List (Nat × List AV) → List Blk → Prop} (hK : ∀ s, (K s).den R → Kp (s.st cf.n).T (s.st cf.n).L (s.st cf.n).H) : ∀ (l : List Item) (s : TS), l.all (·.lit) = true → (rgDT cf ops l s K).den R →
  evOpsD P [] ops l (s.st cf.n).T (s.st cf.n).L (s.st cf.n).H Kp
 | [], s, _, h => hK s h
 | x :: r, s, hl, h => by
  simp only [List.all_cons, Bool.and_eq_true] at hl
  show gdA ops x.lit (opI ops x.i) _ _ _
  rw [hl.1]
  have next : ∀ (s' s2 : TS) (v : TV), (s2.st cf.n).T = (s'.st cf.n).T → (rgDT cf ops r (putO cf.n s2 (opI ops x.i).dst v) K).den R → evOpsD P [] ops r (putA (s'.st cf.n).T (opI ops x.i).dst v.av) (s2.st cf.n).L (s2.st cf.n).H Kp := fun s' s2 v e hv => by
   have := rgDT_sound hn hK r _ hl.2 hv
   rw [putO_st hn] at this
   rw [← e]; exact this
  refine gdT_sound hn (fun s' e h => ?_) (fun s' e h => ?_) h
  ·rw [← e]
   cases hq : x.q with
   | true =>
    rw [hq] at h
    show evQ P (opI ops x.i) (opv (s'.st cf.n).T) (s'.st cf.n).L (s'.st cf.n).H _
    cases ha : isAl (opI ops x.i) with
    | true =>
     rw [ha] at h
     simp only at h
     split at h
     ·rename_i d hd
      obtain ⟨h1, h2⟩ := h
      rw [opT_av]
      have := congrFun h1 (fun v => evOpsD P [] ops r (putA (s'.st cf.n).T (opI ops x.i).dst v) (s'.st cf.n).L (s'.st cf.n).H Kp)
      rw [← opT_av] at this ⊢
      rw [this]
      exact next s' s' (.lp d 0) rfl h2
     ·exact h.elim
    | false =>
     rw [ha] at h
     rw [evQ_not ha]
     simp only at h
     split at h
     ·rename_i c a b hop
      have := pickT_sound hn (Kp := fun v => evOpsD P [] ops r (putA (s'.st cf.n).T (opI ops x.i).dst v) (s'.st cf.n).L (s'.st cf.n).H Kp) (fun v s2 e2 hv => by
       have := next s' s2 v (by rw [e2]) hv
       rwa [e2] at this) h
      unfold evValD
      rw [hop]; exact this
     ·exact rdT_sound (Kp := fun v => evOpsD P [] ops r (putA (s'.st cf.n).T (opI ops x.i).dst v) (s'.st cf.n).L (s'.st cf.n).H Kp) (fun v hv => next s' s' v rfl hv) h
   | false =>
    rw [hq] at h
    simp only at h
    split at h
    ·exact h.elim
    ·exact wrT_sound hn (Kp := fun v L' H' => floatsOk P ops x.fl (s'.st cf.n).T L' H' ∧ evOpsD P [] ops r (putA (s'.st cf.n).T (opI ops x.i).dst v) L' H' Kp) (fun v s2 hv e2 => by
      obtain ⟨q1, q2⟩ := flT_sound hv
      rw [e2] at q1
      exact ⟨q1, next s' s2 v e2 q2⟩) h
  ·have := next s' s' (.tup []) rfl h
   rw [e] at this
   exact this
end
end Go.Proofs.Ytglpfccgmfhkdaa.Fw
/- The machine, part G: code, loops, functions. -/

set_option linter.unusedVariables false
namespace Go.Proofs.Ytglpfccgmfhkdaa.Fw
open Go
theorem dropL_none {ts : List Nat} : ∀ (L : List (Nat × List AV)) (t : Nat), ts.contains t = true → getL (dropL ts L) t = none
 | [], t, h => rfl
 | (k, c) :: L, t, h => by
  unfold dropL
  split
  ·exact dropL_none L t h
  ·rename_i hk
   have : t ≠ k := fun e => by subst e; rw [h] at hk; cases hk
   simp only [getL, if_neg this]; exact dropL_none L t h
theorem Weak.cells {T : List AV} {L L' : List (Nat × List AV)} {H : List Blk} (hL : ∀ t cells, getL L t = some cells → ∃ cells', getL L' t = some cells' ∧ cells'.length = cells.length ∧ ∀ (i : Nat) (a : AV), cells'[i]? = some a → cells[i]? = some a ∨ a = .undef) : Weak ⟨T, L, H⟩ ⟨T, L', H⟩ := fun E0 E tmps g s =>
 ⟨E, rfl, g, s.h, fun t c hm => by
  obtain ⟨cells, cs, ty, q1, q2, q3⟩ := s.l t c hm
  obtain ⟨cells', r1, r2, r3⟩ := hL t cells q1
  refine ⟨cells', cs, ty, r1, q2, by rw [r2]; exact q3.1, fun i a v ha hv => ?_⟩
  rcases r3 i a ha with q | q
  ·exact q3.2 i a v q hv
  ·subst q; exact V1.undef _ _, s.slots, s.size⟩
theorem weak_gen {T T' : List AV} {L L' : List (Nat × List AV)} {H : List Blk} (hl : T'.length = T.length) (hT : ∀ t, T'.getD t .undef = T.getD t .undef ∨ T'.getD t .undef = .undef) (ts : List Nat) (hp : T'.all (lpf3 ts) = true)
  (hL : ∀ t cells, ts.contains t = false → getL L t = some cells → ∃ cells', getL L' t = some cells' ∧ cells'.length = cells.length ∧ ∀ (i : Nat) (a : AV), cells'[i]? = some a → cells[i]? = some a ∨ a = .undef) : Weak ⟨T, L, H⟩ ⟨T', L', H⟩ := by
 refine (Weak.slots hl hT).trans ((Weak.dropL ts hp).trans (Weak.cells fun t cells h => ?_))
 cases ht : ts.contains t with
 | true => rw [dropL_none L t ht] at h; cases h
 | false => rw [dropL_get L t ht] at h; exact hL t cells ht h
theorem lkT_or (l : List (Nat × TV)) (k : Nat) (d : TV) : (∃ v, (k, v) ∈ l ∧ lkT l k d = v) ∨ lkT l k d = d := by
 induction l with
 | nil => exact .inr rfl
 | cons p r ih =>
  obtain ⟨a, w⟩ := p
  rw [lkT_cons]
  by_cases e : a = k
  ·subst e; exact .inl ⟨w, List.mem_cons_self .., if_pos rfl⟩
  ·rw [if_neg e]
   rcases ih with ⟨v, h1, h2⟩ | h
   ·exact .inl ⟨v, List.mem_cons_of_mem _ h1, h2⟩
   ·exact .inr h
theorem cellsV_length (s : TS) (v : Nat) : ∀ (c m : Nat), (cellsV s v c m).length = m
 | _, 0 => rfl
 | c, m + 1 => by rw [cellsV, List.length_cons, cellsV_length s v (c + 1) m]
theorem cellsV_get (s : TS) (v : Nat) : ∀ (m c i : Nat), (avs (cellsV s v c m))[i]? = if i < m then some (s.get (kc v (c + i))).av else none
 | 0, c, i => by simp [cellsV, avs]
 | m + 1, c, i => by
  rw [cellsV, avs]
  cases i with
  | zero => simp
  | succ i =>
   rw [List.getElem?_cons_succ, cellsV_get s v m (c + 1) i, show c + 1 + i = c + (i + 1) by omega]
   by_cases h : i < m
   ·rw [if_pos h, if_pos (by omega)]
   ·rw [if_neg h, if_neg (by omega)]
theorem st_eta (n : Nat) (s : TS) : s.st n = ⟨(s.st n).T, (s.st n).L, (s.st n).H⟩ := rfl
theorem weak_st {n : Nat} {s S : TS} (hT : ∀ t, t < n → (S.get t).av = (s.get t).av ∨ (S.get t).av = .undef) (ts : List Nat) (hp : (S.st n).T.all (lpf3 ts) = true)
  (hv : ∀ v m, ts.contains v = false → lkV s.vs v = some m → lkV S.vs v = some m ∧ ∀ c, (S.get (kc v c)).av = (s.get (kc v c)).av ∨ (S.get (kc v c)).av = .undef)
  (hb : S.nb = s.nb) (hB : ∀ b, b < s.nb → (S.get (kb b)).bk = (s.get (kb b)).bk) : Weak (s.st n) (S.st n) := by
 have hH : (S.st n).H = (s.st n).H := by
  apply List.ext_getElem?
  intro b
  rw [st_H, st_H, hb]
  by_cases h : b < s.nb
  ·rw [if_pos h, if_pos h, hB b h]
  ·rw [if_neg h, if_neg h]
 rw [st_eta n s, st_eta n S, hH]
 refine weak_gen (by show ((List.range n).map _).length = ((List.range n).map _).length; simp) (fun t => ?_) ts hp fun t cells ht h => ?_
 ·rw [st_T, st_T]
  by_cases h : t < n
  ·rw [if_pos h, if_pos h]; exact hT t h
  ·rw [if_neg h, if_neg h]; exact .inl rfl
 ·rw [st_L] at h
  cases hm : lkV s.vs t with
  | none => rw [hm] at h; cases h
  | some m =>
   rw [hm] at h
   cases h
   obtain ⟨q1, q2⟩ := hv t m ht hm
   refine ⟨avs (cellsV S t 0 m), by rw [st_L, q1]; rfl, ?_, fun i a ha => ?_⟩
   ·show (avs _).length = (avs _).length
    rw [avs_map, avs_map, List.length_map, List.length_map, cellsV_length, cellsV_length]
   ·rw [cellsV_get] at ha ⊢
    by_cases hi : i < m
    ·rw [if_pos hi] at ha ⊢
     cases ha
     rcases q2 (0 + i) with e | e
     ·left; rw [e]
     ·right; exact e
    ·rw [if_neg hi] at ha; cases ha
theorem lp_nil (l : List AV) : l.all (lpf3 []) = true := by
 have h0 : ∀ a, lpf0 [] a = true := fun a => by cases a <;> rfl
 have h1 : ∀ a, lpf1 [] a = true := fun a => by
  unfold lpf1
  split
  ·exact List.all_eq_true.2 fun x _ => h0 x
  ·exact h0 _
 have h2 : ∀ a, lpf2 [] a = true := fun a => by
  unfold lpf2
  split
  ·exact List.all_eq_true.2 fun x _ => h1 x
  ·exact h1 _
 have h3 : ∀ a, lpf3 [] a = true := fun a => by
  unfold lpf3
  split
  ·exact List.all_eq_true.2 fun x _ => h2 x
  ·exact h2 _
 exact List.all_eq_true.2 fun x _ => h3 x
theorem weak_le {n : Nat} (hn : n ≤ 1000000) {s S : TS} (h : s.Le S) : Weak (s.st n) (S.st n) := by
 have big : ∀ k, ¬ k < 1000000 → S.get k = s.get k := fun k hk => (h.get k).resolve_right fun q => hk q.1
 refine weak_st (fun t ht => ?_) [] (lp_nil _) (fun v m _ hm => ⟨by rw [h.vs]; exact hm, fun c => .inl (by rw [big _ (by unfold kc; omega)])⟩) h.nb fun b _ => by rw [big _ (by unfold kb; omega)]
 rcases h.get t with e | ⟨_, e⟩
 ·exact .inl (by rw [e])
 ·exact e
inductive An : Type 1 where
 | nil
 | br (a b : An)
 | lp (ad : List (Nat × Nat × EC)) (keep : List Nat) (kv : List (Nat × Nat)) (Vs : List EC) (rd : List Nat) (ed : HL Vs → List (Nat × TV)) (I : HL Vs → Prop) (m : HL Vs → Nat) (b : HL Vs → An)
def An.fst : An → An
 | .br a _ => a
 | a => a
def An.snd : An → An
 | .br _ b => b
 | a => a
def allH : (Vs : List EC) → (HL Vs → Tr) → Tr
 | [], F => F ()
 | e :: r, F => .all e.T fun x => allH r fun y => F (x, y)
theorem allH_den {R : Exit → TS → Prop} : ∀ {Vs : List EC} {F : HL Vs → Tr}, (allH Vs F).den R → ∀ v, (F v).den R
 | [], F, h, () => h
 | e :: r, F, h, (x, y) => allH_den (h x) y
def rd1 : (e : EC) → TV → (e.T → Tr) → Tr
 | .int, v, K => (match v with
  | .i _ m => K m
  | _ => .no)
 | .u64, v, K => (match v with
  | .i _ m => K m
  | _ => .no)
 | .bool, v, K => (match v with
  | .b x => K x.den
  | _ => .no)
 | .str, v, K => (match v with
  | .s x => K x
  | _ => .no)
 | .nat, v, K => (match v with
  | .blk g _ _ _ _ => K g
  | _ => .no)
 | .l e, v, K => (match v with
  | .l e' xs _ _ => if h : e' = e then K (castL h xs) else .no
  | .blk _ e' xs _ _ => if h : e' = e then K (castL h xs) else .no
  | .nil _ _ => K []
  | _ => .no)
 | _, _, _ => .no
def rdL (s : TS) : (Vs : List EC) → List Nat → (HL Vs → Tr) → Tr
 | [], _, K => K ()
 | e :: r, k :: ks, K => rd1 e (s.get k) fun x => rdL s r ks fun y => K (x, y)
 | _, _, _ => .no
theorem rd1_den {R : Exit → TS → Prop} {e : EC} {v : TV} {K : e.T → Tr} (h : (rd1 e v K).den R) : ∃ x, (K x).den R := by
 cases e with
 | int =>
  have h : (match v with
   | .i _ m => K m
   | _ => Tr.no).den R := h
  split at h
  ·exact ⟨_, h⟩
  ·exact h.elim
 | u64 =>
  have h : (match v with
   | .i _ m => K m
   | _ => Tr.no).den R := h
  split at h
  ·exact ⟨_, h⟩
  ·exact h.elim
 | bool =>
  have h : (match v with
   | .b x => K x.den
   | _ => Tr.no).den R := h
  split at h
  ·exact ⟨_, h⟩
  ·exact h.elim
 | str =>
  have h : (match v with
   | .s x => K x
   | _ => Tr.no).den R := h
  split at h
  ·exact ⟨_, h⟩
  ·exact h.elim
 | nat =>
  have h : (match v with
   | .blk g _ _ _ _ => K g
   | _ => Tr.no).den R := h
  split at h
  ·exact ⟨_, h⟩
  ·exact h.elim
 | l e =>
  have h : (match v with
   | .l e' xs _ _ => if h : e' = e then K (castL h xs) else Tr.no
   | .blk _ e' xs _ _ => if h : e' = e then K (castL h xs) else Tr.no
   | .nil _ _ => K []
   | _ => Tr.no).den R := h
  split at h
  ·split at h
   ·exact ⟨_, h⟩
   ·exact h.elim
  ·split at h
   ·exact ⟨_, h⟩
   ·exact h.elim
  ·exact ⟨_, h⟩
  ·exact h.elim
 | _ => exact h.elim
theorem rdL_den {R : Exit → TS → Prop} {s : TS} : ∀ {Vs : List EC} {ks : List Nat} {K : HL Vs → Tr}, (rdL s Vs ks K).den R → ∃ v, (K v).den R
 | [], _, K, h => ⟨(), h⟩
 | e :: r, k :: ks, K, h => by
  obtain ⟨x, h⟩ := rd1_den (show (rd1 e (s.get k) _).den R from h)
  obtain ⟨y, h⟩ := rdL_den h
  exact ⟨(x, y), h⟩
 | e :: r, [], K, h => h.elim
def cmp1 (s : TS) (k : Nat) (w : TV) (t : Tr) : Tr := match w with
 | .ref b g m f => (match s.get k with
  | .ref b' g' m' f' => (match s.get (kb b) with
   | .blk _ _ xs ml _ => .eq b' b (.eq f' f (.eq g' g (.eq m' ml (.eq m xs.length t))))
   | _ => .no)
  | _ => .no)
 | .blk g e xs _ _ => (match s.get k with
  | .blk g' e' xs' _ _ => if h : e' = e then .eq g' g (.eq (castL h xs') xs t) else .no
  | _ => .no)
 | .b y => (match s.get k with
  | .b x => .eq x.den y.den t
  | _ => .no)
 | w => .eq (s.get k) w t
def isBlk : TV → Bool
 | .blk _ _ _ _ _ => true
 | _ => false
theorem cmp1_den {R : Exit → TS → Prop} {s : TS} {k : Nat} {w : TV} {t : Tr} (h : (cmp1 s k w t).den R) : (w.av = (s.get k).av ∧ (isBlk w = true → w.bk = (s.get k).bk)) ∧ t.den R := by
 unfold cmp1 at h
 split at h
 ·split at h
  ·rename_i b' g' m' f' hk
   split at h
   ·rename_i g0 e0 xs ml hl hb
    obtain ⟨h1, h2, h3, h4, h5, h6⟩ := h
    subst h1; subst h2; subst h3; subst h4; subst h5
    refine ⟨⟨?_, fun q => by cases q⟩, h6⟩
    rw [hk, hl]
   ·exact h.elim
  ·exact h.elim
 ·split at h
  ·rename_i g' e' xs' m' hl' hk
   split at h
   ·rename_i he
    subst he
    obtain ⟨h1, h2, h3⟩ := h
    subst h1
    have h2 : xs' = _ := h2
    subst h2
    refine ⟨⟨?_, fun _ => ?_⟩, h3⟩ <;> rw [hk] <;> rfl
   ·exact h.elim
  ·exact h.elim
 ·split at h
  ·rename_i y _ x hk
   obtain ⟨h1, h2⟩ := h
   refine ⟨⟨?_, fun q => by cases q⟩, h2⟩
   rw [hk]; show AV.bool y.den = .bool x.den; rw [h1]
  ·exact h.elim
 ·obtain ⟨h1, h2⟩ := h
  exact ⟨⟨by rw [h1], fun _ => by rw [h1]⟩, h2⟩
def cmpL (s : TS) : List (Nat × TV) → Tr → Tr
 | [], t => t
 | (k, w) :: r, t => cmp1 s k w (cmpL s r t)
theorem cmpL_den {R : Exit → TS → Prop} {s : TS} {t : Tr} : ∀ {l : List (Nat × TV)}, (cmpL s l t).den R → (∀ k w, (k, w) ∈ l → w.av = (s.get k).av ∧ (isBlk w = true → w.bk = (s.get k).bk)) ∧ t.den R
 | [], h => ⟨(fun k w h => by cases h), h⟩
 | (k, w) :: r, h => by
  obtain ⟨h1, h2⟩ := cmp1_den h
  obtain ⟨h3, h4⟩ := cmpL_den h2
  refine ⟨fun k' w' hm => ?_, h4⟩
  rcases List.mem_cons.1 hm with e | hm
  ·cases e; exact h1
  ·exact h3 k' w' hm
def subV (vs : List (Nat × Nat)) : List (Nat × Nat) → Bool
 | [] => true
 | (v, m) :: r => (match lkV vs v with
  | some m' => Nat.beq m m'
  | none => false) && subV vs r
def allB (s : TS) : Nat → Bool
 | 0 => true
 | b + 1 => isBlk (s.get (kb b)) && allB s b
def dropV (kv : List (Nat × Nat)) : List (Nat × Nat) → List Nat
 | [] => []
 | (v, _) :: r => match (lkV kv v).isSome with
  | true => dropV kv r
  | false => v :: dropV kv r
def toHead (s S : TS) (t : Tr) : Tr :=
 .eq (subV s.vs S.vs) true (.eq (Nat.beq S.nb s.nb) true (.eq (allB S s.nb) true (.eq (S.T.all fun p => lpf3 (dropV S.vs s.vs) p.2.av) true (cmpL s S.T t))))
theorem lkV_mem : ∀ {l : List (Nat × Nat)} {v m : Nat}, lkV l v = some m → (v, m) ∈ l
 | [], _, _, h => by cases h
 | (k, m') :: r, v, m, h => by
  unfold lkV at h
  split at h
  ·rename_i hk; cases h; rw [Nat.eq_of_beq_eq_true hk]; exact List.mem_cons_self ..
  ·exact List.mem_cons_of_mem _ (lkV_mem h)
theorem dropV_not {kv : List (Nat × Nat)} : ∀ {l : List (Nat × Nat)} {v m : Nat}, (dropV kv l).contains v = false → (v, m) ∈ l → (lkV kv v).isSome = true
 | [], _, _, _, h => by cases h
 | (k, m') :: r, v, m, hd, h => by
  unfold dropV at hd
  split at hd
  ·rename_i hk
   rcases List.mem_cons.1 h with e | h
   ·cases e; exact hk
   ·exact dropV_not hd h
  ·rename_i hk
   simp only [List.contains_cons, Bool.or_eq_false_iff] at hd
   rcases List.mem_cons.1 h with e | h
   ·cases e; simp at hd
   ·exact dropV_not hd.2 h
theorem subV_spec {vs : List (Nat × Nat)} : ∀ {l : List (Nat × Nat)}, subV vs l = true → ∀ v m, (v, m) ∈ l → lkV vs v = some m
 | [], _, _, _, h => by cases h
 | (k, m') :: r, hs, v, m, h => by
  simp only [subV, Bool.and_eq_true] at hs
  rcases List.mem_cons.1 h with e | h
  ·cases e
   have h1 := hs.1
   split at h1
   ·rename_i m2 hm; rw [hm, Nat.eq_of_beq_eq_true h1]
   ·cases h1
  ·exact subV_spec hs.2 v m h
theorem allB_spec {s : TS} : ∀ {n : Nat}, allB s n = true → ∀ b, b < n → isBlk (s.get (kb b)) = true
 | 0, _, b, h => by omega
 | n + 1, hs, b, h => by
  simp only [allB, Bool.and_eq_true] at hs
  rcases Nat.lt_or_ge b n with q | q
  ·exact allB_spec hs.2 b q
  ·have : b = n := by omega
   subst this; exact hs.1
theorem toHead_sound {n : Nat} {s S : TS} {t : Tr} {R : Exit → TS → Prop} (hB : S.B = []) (h : (toHead s S t).den R) : Weak (s.st n) (S.st n) ∧ t.den R := by
 obtain ⟨h1, h2, h3, h4, h5⟩ := h
 obtain ⟨h6, h7⟩ := cmpL_den h5
 have hnb := Nat.eq_of_beq_eq_true h2
 have hget : ∀ k, (∃ v, (k, v) ∈ S.T ∧ S.get k = v) ∨ S.get k = .u := fun k => by
  unfold TS.get; rw [hB]; exact lkT_or ..
 have hav : ∀ k, (S.get k).av = (s.get k).av ∨ (S.get k).av = .undef := fun k => by
  rcases hget k with ⟨v, hm, e⟩ | e
  ·rw [e]; exact .inl (h6 k v hm).1
  ·rw [e]; exact .inr rfl
 refine ⟨weak_st (fun t _ => hav t) (dropV S.vs s.vs) ?_ (fun v m hd hm => ?_) hnb fun b hb => ?_, h7⟩
 ·rw [List.all_eq_true]
  intro a ha
  obtain ⟨k, _, rfl⟩ := List.mem_map.1 (show a ∈ (List.range n).map fun t => (S.get t).av from ha)
  rcases hget k with ⟨v, hm, e⟩ | e
  ·rw [e]; exact List.all_eq_true.1 h4 (k, v) hm
  ·rw [e]; rfl
 ·have hs := dropV_not hd (lkV_mem hm)
  cases hq : lkV S.vs v with
  | none => rw [hq] at hs; cases hs
  | some m' =>
   have := subV_spec h1 v m' (lkV_mem hq)
   rw [hm] at this
   cases this
   exact ⟨rfl, fun c => hav _⟩
 ·have hi := allB_spec h3 b hb
  rcases hget (kb b) with ⟨v, hm, e⟩ | e
  ·rw [e] at hi ⊢; exact (h6 _ v hm).2 hi
  ·rw [e] at hi; cases hi
def adT (n : Nat) : List (Nat × Nat × EC) → TS → (TS → Tr) → Tr
 | [], s, K => K s
 | p :: r, s, K =>
  let s1 := s.blkP s.nb (s.nb + 1) (.blk 0 p.2.2 [] 0 rfl)
  match p.1 with
  | 0 => .eq (isEmp (opT n s (.tmp p.2.1)).av) true (.eq (s1.st n).L (s.st n).L (adT n r (putO n s1 (some p.2.1) (.ref s.nb 0 0 false)) K))
  | v + 1 =>
   let s2 := s1.add [(kc v p.2.1, .ref s.nb 0 0 false)] s1.vs s1.nb
   match lkV s.vs v with
   | some m => .eq (isEmp ((avs (cellsV s v 0 m)).getD p.2.1 .undef)) true (.eq (s2.st n).L (setL (s.st n).L v ((avs (cellsV s v 0 m)).set p.2.1 (.ref s.nb 0 0 0 false))) (.eq (s2.st n).H (s1.st n).H (adT n r s2 K)))
   | none => .no
theorem adT_sound {n : Nat} (hn : n ≤ 1000000) {R : Exit → TS → Prop} {K : TS → Tr} : ∀ {l : List (Nat × Nat × EC)} {s : TS}, (adT n l s K).den R → ∃ s', Weak (s.st n) (s'.st n) ∧ (K s').den R
 | [], s, h => ⟨s, .refl _, h⟩
 | (p, q, e) :: r, s, h => by
  unfold adT at h
  simp only at h
  split at h
  ·obtain ⟨h1, h2, h⟩ := h
   obtain ⟨s', w, h⟩ := adT_sound hn h
   refine ⟨s', Weak.trans ?_ w, h⟩
   have hT : (opT n s (.tmp q)).av = (s.st n).T.getD q .undef := (congrFun (opT_av n s) (.tmp q)).symm
   rw [hT] at h1
   have := Weak.adoptT q e.nc (L := (s.st n).L) (H := (s.st n).H) h1
   rw [putO_st hn, blkP_T hn, h2, blkP_new]
   rw [st_nb] at this
   exact this
  ·rename_i v
   split at h
   ·rename_i m hm
    obtain ⟨h1, h2, h3, h⟩ := h
    obtain ⟨s', w, h⟩ := adT_sound hn h
    refine ⟨s', Weak.trans ?_ w, h⟩
    have := Weak.adoptL v q e.nc (T := (s.st n).T) (H := (s.st n).H) (show getL (s.st n).L v = some (avs (cellsV s v 0 m)) by rw [st_L, hm]; rfl) h1
    rw [st_nb] at this
    rw [st_eta n (TS.add _ _ _ _), h2, h3, blkP_new, add_T hn (by unfold bigK; rw [show Nat.ble 1000000 (kc v q) = true by rw [Nat.ble_eq]; unfold kc; omega]; rfl), blkP_T hn]
    exact this
   ·exact h.elim
def inK (k : Nat) : List (Nat × TV) → Bool
 | [] => false
 | p :: r => match Nat.beq p.1 k with
  | true => true
  | false => inK k r
def keepK (s : TS) (ed : List (Nat × TV)) : List Nat → List (Nat × TV)
 | [] => []
 | k :: r => match inK k ed with
  | true => keepK s ed r
  | false => (k, s.get k) :: keepK s ed r
def vK (v : Nat) : Nat → Nat → List Nat
 | _, 0 => []
 | c, m + 1 => kc v c :: vK v (c + 1) m
def kvK : List (Nat × Nat) → List Nat
 | [] => []
 | p :: r => vK p.1 0 p.2 ++ kvK r
def bsK : Nat → List Nat
 | 0 => []
 | b + 1 => kb b :: bsK b
def lp1 (keep : List Nat) (kv : List (Nat × Nat)) (k : Nat) (I : Int → Prop) (m : Int → Nat) (b : Int → An) : An := .lp [] keep kv [.int] [k] (fun v => [(k, .i .i64 v.1)]) (fun v => I v.1) (fun v => m v.1) fun v => b v.1
def Tr.exs : Tr → Bool
 | .lf ex _ => (match ex with
  | .normal => false
  | _ => true)
 | .tt | .no | .all _ _ => false
 | .p _ t | .im _ t | .eq _ _ t => t.exs
 | .ife _ _ x y | .two x y | .jn x _ _ y => (match x.exs with
  | true => true
  | false => y.exs)
def hasLoop : Code → Bool
 | .loop _ => true
 | .seq x y => hasLoop x || hasLoop y
 | .cond _ x y => hasLoop x || hasLoop y
 | .block _ x => hasLoop x
 | .scope x => hasLoop x
 | _ => false
def eqsT (qs : List (List (Nat × TV) × List (Nat × TV))) (t : Tr) : Tr := match qs with
 | [] => t
 | p :: r => .eq p.1 p.2 (eqsT r t)
theorem eqsT_den {R : Exit → TS → Prop} {t : Tr} : ∀ {qs : List (List (Nat × TV) × List (Nat × TV))}, (eqsT qs t).den R → (∀ p ∈ qs, p.1 = p.2) ∧ t.den R
 | [], h => ⟨(fun p h => by cases h), h⟩
 | p :: r, h => by
  obtain ⟨h1, h2⟩ := h
  obtain ⟨h3, h4⟩ := eqsT_den h2
  exact ⟨fun q hq => by
   rcases List.mem_cons.1 hq with rfl | hq
   ·exact h1
   ·exact h3 q hq, h4⟩
structure Kn where
 len : List Nat
 dr : List (Nat × List Item × List (List Nat))
def lkD : List (Nat × List Item × List (List Nat)) → Nat → (List Item → List (List Nat) → Tr) → Tr
 | [], _, _ => .no
 | p :: r, id, K => match Nat.beq p.1 id with
  | true => K p.2.1 p.2.2
  | false => lkD r id K
section
variable {P : Program} (cf : Cf P) (kn : Kn)
def headS (s : TS) (keep : List Nat) (kv : List (Nat × Nat)) (ed : List (Nat × TV)) : TS := ⟨ed ++ keepK s ed (keep ++ (kvK kv ++ bsK s.nb)), [], kv, s.nb⟩
def wkT : Code → TS → An → (Exit → TS → An → Tr) → Tr
 | .skip, s, a, K => K .normal s a
 | .ret, s, a, K => K .ret s a
 | .exit id, s, a, K => K (.exit id) s a
 | .region id ops draw, s, a, K => (match draw with
  | false => rgT cf kn.len ops ops.toList s fun s => K .normal s a
  | true => lkD kn.dr id fun ord As => drT cf ops ord As s fun s => K .normal s a)
 | .seq x y, s, a, K => (match hasLoop x with
  | true => wkT x s a fun ex s a => match ex with
   | .normal => wkT y s a K
   | ex => K ex s a
  | false => match (wkT x s a fun ex s _ => .lf ex s).mg with
   | .some S qs => eqsT qs (.jn ((wkT x s a fun ex s _ => .lf ex s).bind fun ex s => match ex with
    | .normal => .tt
    | ex => K ex s a.fst) (wkT x s a fun ex s _ => .lf ex s).facts (wkT x s a fun ex s _ => .lf ex s).falls (wkT y S (match (wkT x s a fun ex s _ => .lf ex s).exs with
    | true => a.snd
    | false => a) K))
   | _ => wkT x s a fun ex s a => match ex with
    | .normal => wkT y s a K
    | ex => K ex s a)
 | .cond c x y, s, a, K => (match opT cf.n s c with
  | .b z => spl z s fun b s => match b with
   | true => wkT x s a.fst K
   | false => wkT y s a.snd K
  | _ => .no)
 | .block id c, s, a, K => wkT c s a fun ex s a => match ex with
  | .exit id' => (match Nat.beq id' id with
   | true => K .normal s a
   | false => K (.exit id') s a)
  | ex => K ex s a
 | .loop c, s, a, K => (match a with
  | .lp ad keep kv Vs rd ed I m b => adT cf.n ad s fun s => rdL s Vs rd fun v0 => toHead s (headS s keep kv (ed v0)) (.p (I v0) (allH Vs fun v => .im (I v) (wkT c (headS s keep kv (ed v)) (b v) fun ex s' a => match ex with
   | .normal => rdL s' Vs rd fun v' => toHead s' (headS s keep kv (ed v')) (.p (I v' ∧ m v' < m v) .tt)
   | ex => K ex s' a)))
  | _ => .no)
 | _, _, _, _ => .no
end
section
variable {P : Program} {cf : Cf P} {kn : Kn}
theorem lkD_sound {R : Exit → TS → Prop} {l : List (Nat × List Item × List (List Nat))} {id : Nat} {K : List Item → List (List Nat) → Tr} (h : (lkD l id K).den R) : ∃ o A, (K o A).den R := by
 induction l with
 | nil => exact h.elim
 | cons p r ih =>
  unfold lkD at h
  split at h
  ·exact ⟨_, _, h⟩
  ·exact ih h
theorem drT_sound (hn : cf.n ≤ 1000000) {R : Exit → TS → Prop} {ops : Array Oper} {ord : List Item} {As : List (List Nat)} {s : TS} {K : TS → Tr} {Q : Exit → St → Prop} {id : Nat} (hK : ∀ s, (K s).den R → Q .normal (s.st cf.n)) (h : (drT cf ops ord As s K).den R) : WpS P (.region id ops true) Q (s.st cf.n) := by
 unfold drT at h
 simp only at h
 split at h
 ·exact h.elim
 ·rename_i hb
  obtain ⟨h1, h2, h3, h4, h5, h6, h7, h8, h⟩ := h
  rw [st_eta]
  refine WpS.regionD (esc := []) ord As h1 h2 h3 rfl _ h7 h8 ?_
  have := rgDT_sound hn (Kp := fun T L H => Q .normal ⟨T, L, H⟩) (fun s hs => hK s hs) ord _ h4 h
  rw [h5, h6, add_T hn hb] at this
  exact this
theorem wkT_sound (hn : cf.n ≤ 1000000) : ∀ (c : Code) {R : Exit → TS → Prop} {s : TS} {a : An} {K : Exit → TS → An → Tr} {Q : Exit → St → Prop}, (∀ ex s a, (K ex s a).den R → Q ex (s.st cf.n)) → (wkT cf kn c s a K).den R → WpS P c Q (s.st cf.n) := by
 intro c
 induction c with
 | skip => intro R s a K Q hK h; exact WpS.skip (hK _ _ _ h)
 | ret => intro R s a K Q hK h; exact WpS.ret (hK _ _ _ h)
 | exit id => intro R s a K Q hK h; exact WpS.exit (hK _ _ _ h)
 | region id ops draw =>
  intro R s a K Q hK h
  cases draw with
  | false =>
   rw [st_eta]
   refine WpS.regionT (esc := []) rfl ?_
   exact rgT_sound hn (Kp := fun T L H => Q .normal ⟨T, L, H⟩) (fun s hs => hK _ s _ hs) ops.toList s h
  | true =>
   obtain ⟨ord, As, h⟩ := lkD_sound h
   exact drT_sound hn (fun s hs => hK _ s _ hs) h
 | cond c x y ih1 ih2 =>
  intro R s a K Q hK h
  unfold wkT at h
  split at h
  ·rename_i z hz
   obtain ⟨s', e1, e2, h⟩ := spl_sound (n := cf.n) h
   rw [← e1]
   have hc : opv (s'.st cf.n).T c = .bool z.den := by
    rw [e1, congrFun (opT_av cf.n s) c]
    show (opT cf.n s c).av = _
    rw [hz]; rfl
   refine WpS.cond ?_
   rw [hc]
   refine ⟨fun hb => ?_, fun hb => ?_⟩
   ·rw [hb] at h; exact ih1 hK h
   ·rw [hb] at h; exact ih2 hK h
  ·exact h.elim
 | block id c ih =>
  intro R s a K Q hK h
  refine WpS.block (ih (K := fun ex s a => match ex with
   | .exit id' => (match Nat.beq id' id with
    | true => K .normal s a
    | false => K (.exit id') s a)
   | ex => K ex s a) (fun ex s a hs => ?_) h)
  cases ex with
  | exit id' =>
   show if id' = id then _ else _
   have hs : (match Nat.beq id' id with
    | true => K .normal s a
    | false => K (.exit id') s a).den R := hs
   split at hs
   ·rename_i hb; rw [if_pos (Nat.eq_of_beq_eq_true hb)]; exact hK _ _ _ hs
   ·rename_i hb
    rw [if_neg fun e => by subst e; rw [Nat.beq_refl] at hb; cases hb]; exact hK _ _ _ hs
  | _ => exact hK _ _ _ hs
 | seq x y ihx ihy =>
  intro R s a K Q hK h
  have cps : (wkT cf kn x s a fun ex s a => match ex with
   | .normal => wkT cf kn y s a K
   | ex => K ex s a).den R → WpS P (.seq x y) Q (s.st cf.n) := fun h => by
   refine WpS.seq (ihx (fun ex s a hs => ?_) h)
   cases ex with
   | normal => exact ihy hK hs
   | _ => exact hK _ _ _ hs
  unfold wkT at h
  split at h
  ·exact cps h
  ·split at h
   ·rename_i S qs hm
    obtain ⟨hq, h⟩ := eqsT_den h
    obtain ⟨h1, h2⟩ := h
    rw [Tr.bind_den] at h1
    have h3 := Tr.mg_sound hm hq h1
    refine WpS.seq (ihx (K := fun ex s _ => .lf ex s) (fun ex s' a' hs => ?_) h3)
    have hs : _ ∧ (ex = .normal → s'.Le S ∧ _ ∧ _) := hs
    cases ex with
    | normal =>
     obtain ⟨q1, q2, q3⟩ := hs.2 rfl
     exact WpS.weak (ihy hK (h2 (factP_of q3 q2))) (weak_le hn q1)
    | _ => exact hK _ _ _ hs.1
   ·exact cps h
 | loop c ih =>
  intro R s a K Q hK h
  unfold wkT at h
  split at h
  ·rename_i ad keep kv Vs rd ed I m b
   obtain ⟨s1, w1, h⟩ := adT_sound hn h
   obtain ⟨v0, h⟩ := rdL_den h
   obtain ⟨w2, h⟩ := toHead_sound (n := cf.n) rfl h
   obtain ⟨h0, h⟩ := h
   have hv := allH_den h
   refine WpS.loopR (fun v => (headS s1 keep kv (ed v)).st cf.n) I m rfl v0 (w1.trans w2) h0 fun v hI => ?_
   refine ih (fun ex s' a hs => ?_) (hv v hI)
   cases ex with
   | normal =>
    obtain ⟨v', hs⟩ := rdL_den hs
    obtain ⟨w3, hs⟩ := toHead_sound (n := cf.n) rfl hs
    exact ⟨v', hs.1.1, hs.1.2, w3⟩
   | _ => exact hK _ _ _ hs
  ·exact h.elim
 | _ => intro R s a K Q hK h; exact h.elim
end
end Go.Proofs.Ytglpfccgmfhkdaa.Fw
/- The machine, part H: what a function answers; functions. -/

set_option linter.unusedVariables false
namespace Go.Proofs.Ytglpfccgmfhkdaa.Fw
open Go
def parT : (e : EC) → e.T → TV
 | .ptr e, x => .rp e x 0
 | .clo f .unit, _ => .fn f []
 | .clo f e, x => .fn f [parT e x]
 | e, x => match e.isS with
  | true => .agg (cellsT false e x)
  | false => tvC false e x
theorem parT_av : ∀ (e : EC) (x : e.T), (parT e x).av = encP e x := by
 have gen : ∀ (e : EC) (x : e.T), (match e.isS with
  | true => TV.agg (cellsT false e x)
  | false => tvC false e x).av = match e.isS with
  | true => .agg (encE false e x)
  | false => encC false e x := fun e x => by
  cases e.isS with
  | true => show AV.agg (avs _) = _; rw [cellsT_av]
  | false => exact tvC_av false e x
 intro e
 induction e with
 | clo f e ih =>
  intro x
  have key : parT (.clo f e) x = .fn f [parT e x] → encP (.clo f e) x = .fn f [encP e x] → (parT (.clo f e) x).av = encP (.clo f e) x := fun h1 h2 => by
   rw [h1, h2, ← ih x]; rfl
  cases e with
  | unit => rfl
  | _ => exact key rfl rfl
 | ptr e ih => intro x; rfl
 | _ => intro x; exact gen _ x
def parTs : Nat → (es : List EC) → HL es → List (Nat × TV)
 | _, [], _ => []
 | i, e :: r, x => (i, parT e x.1) :: parTs (i + 1) r x.2
def iniT (ps : List EC) (x : HL ps) : TS := ⟨parTs 0 ps x, [], [], 0⟩
theorem parTs_get : ∀ (es : List EC) (x : HL es) (i t : Nat), (lkT (parTs i es x) t .u).av = if t < i then .undef else (encPs es x).getD (t - i) .undef
 | [], x, i, t => by
  show AV.undef = _
  split <;> simp [encPs]
 | e :: r, x, i, t => by
  rw [parTs, lkT_cons, encPs]
  by_cases h : i = t
  ·subst h
   rw [if_pos rfl, if_neg (by omega), Nat.sub_self, parT_av]; rfl
  ·rw [if_neg h, parTs_get r x.2 (i + 1) t]
   by_cases h2 : t < i
   ·rw [if_pos (by omega), if_pos h2]
   ·rw [if_neg (by omega), if_neg h2, show t - i = (t - (i + 1)) + 1 by omega]; rfl
theorem encPs_length : ∀ (es : List EC) (x : HL es), (encPs es x).length = es.length
 | [], _ => rfl
 | e :: r, x => by rw [encPs, List.length_cons, List.length_cons, encPs_length r]
theorem iniT_st {fn : Func} {ps : List EC} {x : HL ps} (h : ps.length ≤ fn.ntmps) : initSt fn (encPs ps x) [] = (iniT ps x).st fn.ntmps := by
 have hT : encPs ps x ++ List.replicate (fn.ntmps - (encPs ps x).length) AV.undef = ((iniT ps x).st fn.ntmps).T := by
  apply List.ext_getElem?
  intro t
  show _ = ((List.range fn.ntmps).map fun t => ((iniT ps x).get t).av)[t]?
  rw [List.getElem?_map]
  rcases Nat.lt_or_ge t fn.ntmps with hl | hl
  ·rw [List.getElem?_range hl]
   show _ = some (lkT (parTs 0 ps x) t .u).av
   rw [parTs_get, if_neg (by omega), Nat.sub_zero]
   rcases Nat.lt_or_ge t (encPs ps x).length with h1 | h1
   ·rw [List.getElem?_append_left h1, List.getD_eq_getElem?_getD, List.getElem?_eq_getElem h1]; rfl
   ·rw [List.getElem?_append_right h1, List.getElem?_replicate, if_pos (by omega), List.getD_eq_getElem?_getD, List.getElem?_eq_none h1]; rfl
  ·rw [List.getElem?_eq_none (l := List.range fn.ntmps) (by simpa using hl), List.getElem?_eq_none]
   ·rfl
   ·rw [List.length_append, List.length_replicate, encPs_length]; omega
 show (⟨_, [], []⟩ : St) = _
 rw [hT]; rfl
def finC (s : TS) : (e : EC) → TV → e.T → Tr → Tr
 | .int, v, r, t => (match v with
  | .i k m => if k = .i64 then .p (m = r) t else .no
  | _ => .no)
 | .u64, v, r, t => (match v with
  | .i k m => if k = .u64 then .p (m = r) t else .no
  | _ => .no)
 | .bool, v, r, t => (match v with
  | .b x => .p (x.den = r) t
  | _ => .no)
 | .str, v, r, t => (match v with
  | .s x => .p (x = r) t
  | _ => .no)
 | .l e, v, r, t => (match v with
  | .l e' xs _ fr => (match fr with
   | true => if h : e' = e then .p (castL h xs = r) t else .no
   | false => .no)
  | .nil _ _ => .p ([] = r) t
  | .ref b g m _ => blkT s b g fun e' xs m' _ => if h : e' = e then .eq e.ok1 true (.eq m' m (.p (xs.length ≤ 4611686018427387904 ∧ castL h xs = r) t)) else .no
  | _ => .no)
 | _, _, _, _ => .no
def finS (s : TS) : (es : List EC) → List TV → HL es → Tr → Tr
 | [], [], _, t => t
 | e :: r, v :: vs, x, t => finC s e v x.1 (finS s r vs x.2 t)
 | _, _, _, _ => .no
def finE (s : TS) (e : EC) (v : TV) (r : e.T) (t : Tr) : Tr := match e.isS with
 | true => (match v with
  | .agg c => finS s e.lfs c (e.un r) t
  | _ => .no)
 | false => finC s e v r t
def finL (s : TS) : (es : List EC) → List TV → HL es → Tr → Tr
 | [], [], _, t => t
 | e :: r, v :: vs, x, t => finE s e v x.1 (finL s r vs x.2 t)
 | _, _, _, _ => .no
def resG (P : Program) (n : Nat) (s : TS) : ResultVar → TV
 | .tmp t => opT n s (.tmp t)
 | .cell a t => (match opT n s (.tmp a) with
  | .lp v c => (match lkV s.vs v with
   | some m => takeG P t (cellsV s v 0 m) c
   | none => .u)
  | _ => .u)
def finT (P : Program) (n : Nat) (fn : Func) (rs : List EC) (r : HL rs) (s : TS) : Tr :=
 let vs := fn.results.toList.map (resG P n s)
 .eq (fun Q => resL P (s.st n) fn.results.toList Q) (fun Q => Q (avs vs)) (.eq ((avs vs).all noLp2) true (finL s rs vs r .tt))
section
variable {n : Nat} {s : TS} {R : Exit → TS → Prop} {t : Tr}
theorem cellsOk_enc {H : List Blk} (e : EC) (x : e.T) (h : e.ok1 = true) : CellsOk H (encE true e x) (encE false e x) := by
 cases e with
 | int => exact cInt x
 | u64 => exact .cons (.int _ _) rfl .nil
 | u8 => exact cU8 x
 | bool => exact cBool x
 | str => exact cStr x
 | lie => exact cLie x
 | way => exact cWay x
 | plan => exact .cons (.int _ _) rfl (.cons (cl _) rfl (.cons (cl _) rfl (.cons (cl _) rfl (.cons (.int _ _) rfl .nil))))
 | event => exact cEvent x
 | point => exact cPoint x
 | held => exact cHeld x
 | frame => exact .cons (.bool _) rfl (.cons (cl _) rfl (.cons (cl _) rfl (.cons (cl _) rfl .nil)))
 | done => exact cDone x
 | fault => exact .cons (.int _ _) rfl (.cons (.int _ _) rfl .nil)
 | stays => exact .cons (cl _) rfl (.cons (cl _) rfl (.cons (cl _) rfl .nil))
 | l e => exact .cons (cl _) rfl .nil
 | _ => cases h
theorem finC_sound {e : EC} {v : TV} {r : e.T} (h : (finC s e v r t).den R) : SnapR1 (s.st n).H v.av (encC true e r) ∧ t.den R := by
 cases e with
 | int =>
  have h : (match v with
   | .i k m => if k = IntKind.i64 then Tr.p (m = r) t else .no
   | _ => .no).den R := h
  split at h
  ·split at h
   ·rename_i hk; subst hk; exact ⟨sr_int h.1, h.2⟩
   ·exact h.elim
  ·exact h.elim
 | u64 =>
  have h : (match v with
   | .i k m => if k = IntKind.u64 then Tr.p (m = r) t else .no
   | _ => .no).den R := h
  split at h
  ·split at h
   ·rename_i hk; subst hk; exact ⟨sr_int h.1, h.2⟩
   ·exact h.elim
  ·exact h.elim
 | bool =>
  have h : (match v with
   | .b x => Tr.p (x.den = r) t
   | _ => .no).den R := h
  split at h
  ·exact ⟨sr_bool h.1, h.2⟩
  ·exact h.elim
 | str =>
  have h : (match v with
   | .s x => Tr.p (x = r) t
   | _ => .no).den R := h
  split at h
  ·exact ⟨sr_str h.1, h.2⟩
  ·exact h.elim
 | l e =>
  have h : (match v with
   | .l e' xs _ fr => (match fr with
    | true => if h : e' = e then Tr.p (castL h xs = r) t else .no
    | false => .no)
   | .nil _ _ => .p ([] = r) t
   | .ref b g m _ => blkT s b g fun e' xs m' _ => if h : e' = e then .eq e.ok1 true (.eq m' m (.p (xs.length ≤ 4611686018427387904 ∧ castL h xs = r) t)) else .no
   | _ => .no).den R := h
  split at h
  ·split at h
   ·split at h
    ·rename_i he; subst he; exact ⟨sr_lst (e := encE false _) h.1, h.2⟩
    ·exact h.elim
   ·exact h.elim
  ·exact ⟨sr_nil (e := encE false e) h.1, h.2⟩
  ·rename_i b g m fu
   obtain ⟨e', xs, m', hm, h, hb, hH⟩ := blkT_sound (n := n) h
   split at h
   ·rename_i he
    subst he
    obtain ⟨h0, h1, h2, h3⟩ := h
    subst h1
    subst hm
    exact ⟨sr_blk (eT := encE true e') (eF := encE false e') hH (fun x => cellsOk_enc e' x h0) h2, h3⟩
   ·exact h.elim
  ·exact h.elim
 | _ => exact h.elim
theorem finS_sound : ∀ {es : List EC} {vs : List TV} {r : HL es}, (finS s es vs r t).den R → PW (SnapR1 (s.st n).H) (avs vs) (encCs true es r) ∧ t.den R
 | [], [], _, h => ⟨PW.nil, h⟩
 | e :: r, v :: vs, x, h => by
  obtain ⟨h1, h2⟩ := finC_sound (n := n) (show (finC s e v x.1 _).den R from h)
  obtain ⟨h3, h4⟩ := finS_sound h2
  exact ⟨PW.cons h1 h3, h4⟩
 | [], _ :: _, _, h => h.elim
 | _ :: _, [], _, h => h.elim
theorem finE_sound {e : EC} {v : TV} {r : e.T} (h : (finE s e v r t).den R) : SnapR2 (s.st n).H v.av (encR e r) ∧ t.den R := by
 unfold finE at h
 unfold encR
 cases hS : e.isS with
 | true =>
  rw [hS] at h
  simp only at h
  split at h
  ·rename_i c
   obtain ⟨h1, h2⟩ := finS_sound (n := n) h
   refine ⟨.inl ⟨avs c, encE true e r, rfl, rfl, ?_⟩, h2⟩
   rw [← encCs_un]; exact h1
  ·exact h.elim
 | false =>
  rw [hS] at h
  obtain ⟨h1, h2⟩ := finC_sound (n := n) h
  exact ⟨.inr h1, h2⟩
theorem finL_sound : ∀ {es : List EC} {vs : List TV} {r : HL es}, (finL s es vs r t).den R → PW (SnapR2 (s.st n).H) (avs vs) (encRl es r) ∧ t.den R
 | [], [], _, h => ⟨PW.nil, h⟩
 | e :: r, v :: vs, x, h => by
  obtain ⟨h1, h2⟩ := finE_sound (n := n) (show (finE s e v x.1 _).den R from h)
  obtain ⟨h3, h4⟩ := finL_sound h2
  exact ⟨PW.cons h1 h3, h4⟩
 | [], _ :: _, _, h => h.elim
 | _ :: _, [], _, h => h.elim
theorem finT_sound {P : Program} {fn : Func} {rs : List EC} {r : HL rs} (h : (finT P n fn rs r s).den R) : resA P fn (s.st n) fun v H => SnapR3 H v (encRs rs r) := by
 unfold finT at h
 simp only at h
 obtain ⟨h1, h2, h3⟩ := h
 unfold resA
 rw [congrFun h1]
 refine ⟨h2, ?_⟩
 obtain ⟨h4, _⟩ := finL_sound (n := n) h3
 have key : ∀ (rs : List EC) (r : HL rs) (l : List AV), PW (SnapR2 (s.st n).H) l (encRl rs r) → SnapR3 (s.st n).H (wrapR l) (encRs rs r) := by
  intro rs r l hp
  match rs, r, l with
  | [], _, [] => exact .inl ⟨[], [], rfl, rfl, PW.nil⟩
  | [], _, _ :: _ => have := hp.1; simp [encRl] at this
  | [e], r, [] => have := hp.1; simp [encRl] at this
  | [e], r, [v] => exact .inr hp.head
  | [e], r, _ :: _ :: _ => have := hp.1; simp [encRl] at this
  | e :: e' :: rs, r, [] => have := hp.1; simp [encRl] at this
  | e :: e' :: rs, r, [v] => have := hp.1; simp [encRl] at this
  | e :: e' :: rs, r, v :: w :: l => exact .inl ⟨_, _, rfl, rfl, hp⟩
 exact key rs r _ h4
end
def topT {P : Program} (cf : Cf P) (kn : Kn) (fn : Func) (ps rs : List EC) (x : HL ps) (r : HL rs) (a : An) : Tr := wkT cf kn (bodyC fn) (iniT ps x) a fun ex s _ => match ex with
 | .normal => finT P cf.n fn rs r s
 | .ret => finT P cf.n fn rs r s
 | _ => .no
theorem FnV.run {P : Program} {f : FuncId} {fn : Func} {ps rs : List EC} {x : HL ps} {r : HL rs} (cf : Cf P) (kn : Kn) (a : An) {C : Prop} (hf : P.funcs[f]? = some fn) (h : C) (e : C = (topT cf kn fn ps rs x r a).cn.den := by kernel_rfl)
  (e2 : (topT cf kn fn ps rs x r a).lhs = (topT cf kn fn ps rs x r a).rhs := by kernel_rfl) (hb : fn.body = some (bodyC fn) := by kernel_rfl) (hm : (fn.name == "runtime.NumGoroutine") = false := by kernel_rfl)
  (hn : (Nat.beq cf.n fn.ntmps && Nat.ble cf.n 1000000 && Nat.ble ps.length cf.n) = true := by kernel_rfl) : FnV P f (encPs ps x) (encRs rs r) := by
 simp only [Bool.and_eq_true] at hn
 have h1 := Nat.eq_of_beq_eq_true hn.1.1
 have h2 := Nat.le_of_ble_eq_true hn.1.2
 have h3 := Nat.le_of_ble_eq_true hn.2
 refine FnS.of_body hf hb hm ?_
 rw [iniT_st (by rw [← h1]; exact h3), ← h1]
 refine wkT_sound h2 (bodyC fn) (R := fun _ _ => True) (K := fun ex s _ => match ex with
  | .normal => finT P cf.n fn rs r s
  | .ret => finT P cf.n fn rs r s
  | _ => .no) (fun ex s _ hs => ?_) (Tr.full (e ▸ h) e2)
 cases ex with
 | normal => exact finT_sound hs
 | ret => exact finT_sound hs
 | _ => exact hs.elim
end Go.Proofs.Ytglpfccgmfhkdaa.Fw
/- The kinds of the elements of the program's slice types. -/
namespace Go.Proofs.Ytglpfccgmfhkdaa.Fw
def ecs : List (Nat × EC) := [(23, .u8), (25, .int), (26, .way), (27, (.l .bool)), (33, .done), (35, .event), (36, .bool), (37, .point), (38, .held), (46, .way), (66, .point), (67, .held), (78, .lie), (138, .lie), (144, (.l .int)), (161, (.l .lie)), (170, .str)]
end Go.Proofs.Ytglpfccgmfhkdaa.Fw
/- The framework, part Fam: the ways of a frame lie in one block; for each of them, in which of its sections a train has been, in a block of its own (printed by tools/fwfam.py). -/

set_option linter.unusedVariables false
namespace Go.Proofs.Ytglpfccgmfhkdaa.Fw
open Go
theorem nthE {α : Type} [Inhabited α] {xs : List α} {i : Int} (h : i.toNat < xs.length) : nth xs i = xs[i.toNat] := by
 have := nth_some h
 rw [List.getElem?_eq_getElem h] at this
 exact (Option.some.inj this).symm
def fbk (b : List Bool) : Blk := ⟨0, 1, List.map eBool b⟩
def hRow (s : Nat) (h : Held) (id : Nat) : List AV := [.int .i64 h.state, .int .i64 h.gone, .ref (id + s) 0 0 h.been.length false, .bool h.shown, .int .i64 h.timer]
def hRows (s : Nat) (ws : List Held) (ids : List Nat) : List (List AV) := List.zipWith (hRow s) ws ids
def view (ws : List Held) (ids : List Nat) (bs : List (List Bool)) : List Held := List.zipWith (fun h id => { h with been := bs.getD id [] }) ws ids
structure FamOk (ws : List Held) (ids : List Nat) (bs : List (List Bool)) : Prop where
 len : ws.length = ids.length
 lt : ∀ (i id : Nat), ids[i]? = some id → id < bs.length
 been : ∀ (i id : Nat) (h : Held), ws[i]? = some h → ids[i]? = some id → h.been.length = (bs.getD id []).length
theorem hRows_get {s : Nat} {ws : List Held} {ids : List Nat} {i : Int} (hl : ws.length = ids.length) (hi : i.toNat < ws.length) : (hRows s ws ids)[i.toNat]? = some (hRow s (nth ws i) (nth ids i)) := by
 unfold hRows
 rw [List.getElem?_zipWith, nth_some hi, nth_some (by omega)]
theorem hRows_len {s : Nat} {ws : List Held} {ids : List Nat} (hl : ws.length = ids.length) : (hRows s ws ids).length = ws.length := by
 unfold hRows; rw [List.length_zipWith]; omega
theorem hRows_set {s : Nat} {ws : List Held} {ids : List Nat} {i : Nat} {h : Held} {id : Nat} (hl : ws.length = ids.length) : (hRows s ws ids).set i (hRow s h id) = hRows s (ws.set i h) (ids.set i id) := by
 apply List.ext_getElem?
 intro j
 unfold hRows
 rw [List.getElem?_set, List.getElem?_zipWith, List.getElem?_zipWith, List.getElem?_set, List.getElem?_set]
 by_cases hij : i = j
 ·subst hij
  simp only [if_true, List.length_zipWith]
  by_cases hi : i < ws.length
  ·rw [if_pos (by omega), if_pos hi, if_pos (by omega)]
  ·rw [if_neg (by omega), if_neg hi]
 ·simp only [if_neg hij]
theorem hRows_keep {s : Nat} {ws : List Held} {ids : List Nat} {i : Int} {h : Held} (hl : ws.length = ids.length) (hi : i.toNat < ws.length) : (hRows s ws ids).set i.toNat (hRow s h (nth ids i)) = hRows s (ws.set i.toNat h) ids := by
 rw [hRows_set hl]
 congr 1
 rw [nthE (by omega)]
 exact List.set_getElem_self _
theorem hRows_snoc {s : Nat} {ws : List Held} {ids : List Nat} {h : Held} {id : Nat} (hl : ws.length = ids.length) : hRows s ws ids ++ [hRow s h id] = hRows s (ws ++ [h]) (ids ++ [id]) := by
 unfold hRows
 rw [List.zipWith_append hl]; rfl
theorem fam_get {bs : List (List Bool)} {id : Nat} (h : id < bs.length) : (List.map fbk bs)[id]? = some (fbk (bs.getD id [])) := by
 rw [List.getElem?_map, List.getElem?_eq_getElem h, List.getD_eq_getElem?_getD, List.getElem?_eq_getElem h]; rfl
theorem fam_set {bs : List (List Bool)} {id : Nat} {b : List Bool} : (List.map fbk bs).set id (fbk b) = List.map fbk (bs.set id b) := by rw [List.map_set]
theorem bool_row {b : List Bool} {i : Int} (h : i.toNat < b.length) : (List.map eBool b)[i.toNat]? = some (eBool (nth b i)) := by rw [List.getElem?_map, nth_some h]; rfl
theorem bool_set {b : List Bool} {i : Nat} {x : Bool} : (List.map eBool b).set i (eBool x) = List.map eBool (b.set i x) := by rw [List.map_set]
theorem view_len {ws : List Held} {ids : List Nat} {bs : List (List Bool)} (h : FamOk ws ids bs) : (view ws ids bs).length = ws.length := by
 unfold view; rw [List.length_zipWith]; have := h.len; omega
theorem view_get {ws : List Held} {ids : List Nat} {bs : List (List Bool)} {i : Nat} {h : Held} {id : Nat} (h1 : ws[i]? = some h) (h2 : ids[i]? = some id) : (view ws ids bs)[i]? = some { h with been := bs.getD id [] } := by
 unfold view; rw [List.getElem?_zipWith, h1, h2]
theorem row_inv {s : Nat} {ws : List Held} {ids : List Nat} {i : Nat} {row : List AV} (h : (hRows s ws ids)[i]? = some row) : ∃ x id, ws[i]? = some x ∧ ids[i]? = some id ∧ row = hRow s x id := by
 unfold hRows at h
 rw [List.getElem?_zipWith] at h
 cases hx : ws[i]? with
 | none => rw [hx] at h; cases h
 | some x =>
  cases hd : ids[i]? with
  | none => rw [hx, hd] at h; cases h
  | some id => rw [hx, hd] at h; cases h; exact ⟨x, id, rfl, rfl, rfl⟩
theorem sa_fam {L : List (Nat × List AV)} {H : List Blk} {b s n : Nat} {full : Bool} {ws : List Held} {ids : List Nat} {bs : List (List Bool)} (hn : n = ws.length) (hb : H[b]? = some ⟨0, 5, hRows s ws ids⟩)
  (hf : ∀ (id : Nat) (k : Blk), (List.map fbk bs)[id]? = some k → H[id + s]? = some k) (ok : FamOk ws ids bs) (h62 : ws.length ≤ 4611686018427387904) (h63 : ∀ x ∈ bs, x.length ≤ 4611686018427387904) :
  Snap1 L H (.ref b 0 0 n full) (.lst (List.map (eHeld false) (view ws ids bs)) false false) := by
 subst hn
 refine Snap1.ref (fun h => by cases h) hb rfl (by rw [List.length_map, view_len ok]) h62 (by rw [Nat.zero_add, hRows_len ok.len]; exact Nat.le_refl _) (fun i row row' h1 h2 => ?_) (fun i j row row' a c h1 h2 h3 h4 => ?_)
 ·rw [Nat.zero_add] at h1
  obtain ⟨x, id, hx, hd, rfl⟩ := row_inv h1
  rw [List.getElem?_map, view_get hx hd] at h2
  cases h2; rfl
 ·rw [Nat.zero_add] at h1
  obtain ⟨x, id, hx, hd, rfl⟩ := row_inv h1
  rw [List.getElem?_map, view_get hx hd] at h2
  cases h2
  have hlt := ok.lt i id hd
  have key : CellsIn L H (hRow s x id) (eHeld false { x with been := bs.getD id [] }) := by
   refine .cons (.int _ _) (.cons (.int _ _) (.cons ?_ (.cons (.bool _) (.cons (.int _ _) .nil))))
   have hm : bs.getD id [] ∈ bs := by rw [List.getD_eq_getElem?_getD, List.getElem?_eq_getElem hlt]; exact List.getElem_mem hlt
   exact sa_blk' (eT := eBool) (eF := eBool) (sz := 1) (ok.been i id x hx hd) (hf id _ (fam_get hlt)) iBool (h63 _ hm)
  exact key.2 j a c h3 h4
theorem sr_fam {H : List Blk} {b g s n : Nat} {full : Bool} {ws ys : List Held} {ids : List Nat} {bs : List (List Bool)} (hn : n = ws.length) (hb : H[b]? = some ⟨g, 5, hRows s ws ids⟩)
  (hf : ∀ (id : Nat) (k : Blk), (List.map fbk bs)[id]? = some k → H[id + s]? = some k) (h : FamOk ws ids bs ∧ ws.length ≤ 4611686018427387904 ∧ (∀ x ∈ bs, x.length ≤ 4611686018427387904) ∧ view ws ids bs = ys) :
  SnapR1 H (.ref b g 0 n full) (.lst (List.map (eHeld false) ys) false true) := by
 obtain ⟨ok, h62, h63, rfl⟩ := h
 subst hn
 refine SnapR1.ref (fun h => by cases h) (fun i j => (((view ws ids bs)[i]?).bind fun x => (eHeld true x)[j]?).getD .undef) hb rfl (by rw [List.length_map, view_len ok]) h62 (by rw [Nat.zero_add, hRows_len ok.len]; exact Nat.le_refl _) (fun i row row' h1 h2 => ?_) (fun i j row a hi h1 h2 => ?_) (fun i j row' c h1 h2 => ?_)
 ·rw [Nat.zero_add] at h1
  obtain ⟨x, id, hx, hd, rfl⟩ := row_inv h1
  rw [List.getElem?_map, view_get hx hd] at h2
  cases h2; rfl
 ·rw [Nat.zero_add] at h1
  obtain ⟨x, id, hx, hd, rfl⟩ := row_inv h1
  rw [view_get hx hd]
  have hlt := ok.lt i id hd
  have hm : bs.getD id [] ∈ bs := by rw [List.getD_eq_getElem?_getD, List.getElem?_eq_getElem hlt]; exact List.getElem_mem hlt
  show SnapR1 H a (((some ({ x with been := bs.getD id [] } : Held)).bind fun x => (eHeld true x)[j]?).getD .undef)
  match j, h2 with
  | 0, h2 => cases h2; exact .int _ _
  | 1, h2 => cases h2; exact .int _ _
  | 2, h2 =>
   cases h2
   exact sr_blk' (eT := eBool) (eF := eBool) (sz := 1) (ok.been i id x hx hd) (hf id _ (fam_get hlt)) cBool ⟨h63 _ hm, rfl⟩
  | 3, h2 => cases h2; exact .bool _
  | 4, h2 => cases h2; exact .int _ _
  | j + 5, h2 => simp [hRow] at h2
 ·rw [List.getElem?_map] at h1
  cases hv : (view ws ids bs)[i]? with
  | none => rw [hv] at h1; cases h1
  | some x =>
   rw [hv] at h1; cases h1
   show c = unfr (((some x).bind fun x => (eHeld true x)[j]?).getD .undef)
   match j, h2 with
   | 0, h2 => cases h2; rfl
   | 1, h2 => cases h2; rfl
   | 2, h2 => cases h2; rfl
   | 3, h2 => cases h2; rfl
   | 4, h2 => cases h2; rfl
   | j + 5, h2 => simp [eHeld] at h2
theorem Weak.newB (sz : Nat) {T : List AV} {L : List (Nat × List AV)} {H : List Blk} : Weak ⟨T, L, H⟩ ⟨T, L, H ++ [⟨0, sz, []⟩]⟩ := fun E0 E tmps g s => by
 obtain ⟨E', hw, hst, h1, h2, _⟩ := nilH_sound (blk := ⟨0, sz, []⟩) s.h s.l rfl rfl
 exact ⟨E', hw, g.step hst, h1, h2, fun t => (s.slots t).le hst.le, s.size⟩
theorem Weak.clear (j : Nat) {g sz : Nat} {rows : List (List AV)} {T : List AV} {L : List (Nat × List AV)} {H : List Blk} (hj : H[j]? = some ⟨g, sz, rows⟩) : Weak ⟨T, L, H⟩ ⟨T, L, H.set j ⟨g, sz, []⟩⟩ := fun E0 E tmps gd s => by
 have hjl := (List.getElem?_eq_some_iff.1 hj).1
 have get : ∀ (b : Nat) (blk : Blk), (H.set j ⟨g, sz, []⟩)[b]? = some blk → (b = j ∧ blk = ⟨g, sz, []⟩) ∨ (b ≠ j ∧ H[b]? = some blk) := fun b blk h => by
  rw [List.getElem?_set] at h
  split at h
  ·rename_i e; subst e; exact .inl ⟨rfl, (Option.some.inj h).symm⟩
  ·rename_i e; exact .inr ⟨fun h => e h.symm, h⟩
 have sh : SimH E H := s.h
 refine ⟨E, rfl, gd, { sh with
  heap := fun b c hb => ?_, gens := fun b blk hb => ?_, nilb := fun b hb => ?_, fresh := fun b hb => sh.fresh b (by simpa using hb) }, s.l, s.slots, s.size⟩
 ·obtain ⟨blk, cs, ty, q1, q0, q2, q3, q4, q5⟩ := sh.heap b c hb
  by_cases e : b = j
  ·subst e
   rw [hj] at q1
   obtain rfl := Option.some.inj q1
   exact ⟨⟨g, sz, []⟩, cs, ty, by rw [List.getElem?_set]; simp [hjl], q0, q2, q3, Nat.zero_le _, fun i row h => by simp at h, fun i j row a h => by simp at h⟩
  ·exact ⟨blk, cs, ty, by rw [List.getElem?_set, if_neg (fun h => e h.symm)]; exact q1, q0, q2, q3, q4, q5⟩
 ·rcases get b blk hb with ⟨rfl, rfl⟩ | ⟨_, hb⟩
  ·exact (sh.gens b _ hj :)
  ·exact sh.gens b blk hb
 ·obtain ⟨blk, q1, q0⟩ := sh.nilb b hb
  by_cases e : b = j
  ·subst e
   rw [hj] at q1
   obtain rfl := Option.some.inj q1
   exact ⟨⟨g, sz, []⟩, by rw [List.getElem?_set]; simp [hjl], q0⟩
  ·exact ⟨blk, by rw [List.getElem?_set, if_neg (fun h => e h.symm)]; exact q1, q0⟩
theorem shiftB_zero (H : List Blk) : H.map (shiftB 0) = H := by
 have h0 : ∀ a : AV, shift0 0 a = a := fun a => by cases a <;> simp [shift0]
 have : shiftB 0 = id := by
  funext b
  obtain ⟨g, s, rows⟩ := b
  show (⟨g, s, rows.map fun row => row.map (shift0 0)⟩ : Blk) = ⟨g, s, rows⟩
  congr 1
  have : (fun row : List AV => row.map (shift0 0)) = id := by funext row; rw [show shift0 0 = id from funext h0]; simp
  rw [this]; simp
 rw [this]; simp
theorem ownH_frame {g0 g1 g2 s : Nat} {occ : List Bool} {pts : List Point} {ws : List Held} {ids : List Nat} {bs : List (List Bool)} : ownH (⟨g0, 1, List.map eBool occ⟩ :: ⟨g1, 2, List.map ePoint pts⟩ :: ⟨g2, 5, hRows s ws ids⟩ :: List.map fbk bs) = true := by
 refine ownH_cons (fun _ => rfl) (ownH_cons (fun _ => rfl) ?_)
 unfold ownH
 rw [List.all_eq_true]
 intro b hb
 rw [List.all_eq_true]
 intro row hr
 rcases List.mem_cons.1 hb with rfl | hb
 ·obtain ⟨i, hi⟩ := List.mem_iff_getElem?.1 hr
  obtain ⟨x, id, _, _, rfl⟩ := row_inv hi
  rfl
 ·obtain ⟨b, _, rfl⟩ := List.mem_map.1 hb
  obtain ⟨x, _, rfl⟩ := List.mem_map.1 hr
  rfl
def sgF (j : Nat) : Option Nat := if j < 3 then some j else some (j + 1)
theorem own_frame {r : AV} {g0 g1 g2 g3 n0 n1 n2 : Nat} {f0 f1 f2 : Bool} {R : Frame} {ok : Bool} {occ : List Bool} {pts : List Point} {ws : List Held} {ids : List Nat} {bs : List (List Bool)} {rows : List (List AV)}
  (h : ok = R.ok ∧ occ = R.occ ∧ pts = R.points ∧ ws = R.ways ∧ ids = List.range ws.length ∧ bs = ws.map Held.been) (h0 : n0 = occ.length) (h1 : n1 = pts.length) (h2 : n2 = ws.length) (hr : r = .agg [.bool ok, .ref 0 g0 0 n0 f0, .ref 1 g1 0 n1 f1, .ref 2 g2 0 n2 f2]) :
  ∃ σ, OwnB (⟨g0, 1, List.map eBool occ⟩ :: ⟨g1, 2, List.map ePoint pts⟩ :: ⟨g2, 5, hRows 4 ws ids⟩ :: ⟨g3, 5, rows⟩ :: List.map fbk bs)
    (⟨0, 1, List.map eBool R.occ⟩ :: ⟨0, 2, List.map ePoint R.points⟩ :: ⟨0, 5, hRows 3 R.ways (List.range R.ways.length)⟩ :: List.map fbk (List.map Held.been R.ways)) σ ∧
   Own2 (⟨g0, 1, List.map eBool occ⟩ :: ⟨g1, 2, List.map ePoint pts⟩ :: ⟨g2, 5, hRows 4 ws ids⟩ :: ⟨g3, 5, rows⟩ :: List.map fbk bs)
    (⟨0, 1, List.map eBool R.occ⟩ :: ⟨0, 2, List.map ePoint R.points⟩ :: ⟨0, 5, hRows 3 R.ways (List.range R.ways.length)⟩ :: List.map fbk (List.map Held.been R.ways)).length σ r
    (.agg [.bool R.ok, .ref 0 0 0 R.occ.length false, .ref 1 0 0 R.points.length false, .ref 2 0 0 R.ways.length false]) := by
 obtain ⟨rfl, rfl, rfl, rfl, rfl, rfl⟩ := h
 subst h0; subst h1; subst h2; subst hr
 have hlen : (⟨0, 1, List.map eBool R.occ⟩ :: ⟨0, 2, List.map ePoint R.points⟩ :: ⟨0, 5, hRows 3 R.ways (List.range R.ways.length)⟩ :: List.map fbk (List.map Held.been R.ways) : List Blk).length = R.ways.length + 3 := by simp
 refine ⟨sgF, ⟨fun i j b hi hj h1 h2 => ?_, fun j k hk => ?_, fun j b k hk hs => ?_⟩, .inl ⟨_, _, rfl, rfl, ?_⟩⟩
 ·unfold sgF at h1 h2
  split at h1 <;> split at h2 <;> simp at h1 h2 <;> omega
 ·match j, hk with
  | 0, hk => simp at hk; subst hk; rfl
  | 1, hk => simp at hk; subst hk; rfl
  | 2, hk => simp at hk; subst hk; rfl
  | j + 3, hk => simp at hk; obtain ⟨x, _, rfl⟩ := hk; rfl
 ·rw [hlen]
  match j, hk, hs with
  | 0, hk, hs =>
   simp at hk; subst hk
   obtain rfl : 0 = b := by simpa [sgF] using hs
   exact rowsOwn_eq (b := 0) rfl oBool rfl
  | 1, hk, hs =>
   simp at hk; subst hk
   obtain rfl : 1 = b := by simpa [sgF] using hs
   exact rowsOwn_eq (b := 1) rfl oPoint rfl
  | 2, hk, hs =>
   simp at hk; subst hk
   obtain rfl : 2 = b := by simpa [sgF] using hs
   refine ⟨_, rfl, rfl, ⟨by rw [hRows_len (by simp), hRows_len (by simp)], fun i ra rb ha hb => ?_⟩⟩
   obtain ⟨x, id, hx, hd, rfl⟩ := row_inv ha
   obtain ⟨x', id', hx', hd', rfl⟩ := row_inv hb
   rw [hx] at hx'; cases hx'
   rw [hd] at hd'; cases hd'
   have hil : i < R.ways.length := (List.getElem?_eq_some_iff.1 hx).1
   obtain rfl : i = id := by rw [List.getElem?_range hil] at hd; exact Option.some.inj hd
   refine .cons (.int _ _) (.cons (.int _ _) (.cons ?_ (.cons (.bool _) (.cons (.int _ _) .nil))))
   refine OwnC.ref (blk := fbk x.been) (by omega) (by simp [sgF]) ?_ rfl
   show (List.map fbk (List.map Held.been R.ways))[i]? = _
   rw [List.getElem?_map, List.getElem?_map, hx]; rfl
  | j + 3, hk, hs =>
   obtain rfl : j + 4 = b := by
    unfold sgF at hs
    rw [if_neg (by omega)] at hs; exact Option.some.inj hs
   have hk : (List.map fbk (List.map Held.been R.ways))[j]? = some k := by simpa using hk
   have : ∃ x, k = fbk x := by
    rw [List.getElem?_map] at hk
    cases hq : (List.map Held.been R.ways)[j]? with
    | none => rw [hq] at hk; cases hk
    | some x => rw [hq] at hk; cases hk; exact ⟨x, rfl⟩
   obtain ⟨x, rfl⟩ := this
   have hb : (⟨g0, 1, List.map eBool R.occ⟩ :: ⟨g1, 2, List.map ePoint R.points⟩ :: ⟨g2, 5, hRows 4 R.ways (List.range R.ways.length)⟩ :: ⟨g3, 5, rows⟩ :: List.map fbk (List.map Held.been R.ways) : List Blk)[j + 4]? = some ⟨0, 1, List.map eBool x⟩ := hk
   exact rowsOwn_eq (b := j + 4) hb oBool rfl
 ·rw [hlen]
  exact .cons (.bool _) (.cons (.ref (by omega) rfl rfl rfl) (.cons (.ref (by omega) rfl rfl rfl) (.cons (.ref (by omega) rfl rfl rfl) .nil)))
theorem shift_hRows {k s : Nat} {ws : List Held} {ids : List Nat} : (hRows s ws ids).map (fun row => row.map (shift0 k)) = hRows (s + k) ws ids := by
 apply List.ext_getElem?
 intro i
 unfold hRows
 rw [List.getElem?_map, List.getElem?_zipWith, List.getElem?_zipWith]
 cases ws[i]? with
 | none => rfl
 | some h =>
  cases ids[i]? with
  | none => rfl
  | some id =>
   show some [_, _, AV.ref (k + (id + s)) 0 0 h.been.length false, _, _] = some [_, _, AV.ref (id + (s + k)) 0 0 h.been.length false, _, _]
   rw [show k + (id + s) = id + (s + k) by omega]; rfl
theorem shift_fam {k : Nat} {bs : List (List Bool)} : (List.map fbk bs).map (shiftB k) = List.map fbk bs := by
 rw [List.map_map]
 refine List.map_congr_left fun b _ => ?_
 show (⟨0, 1, (List.map eBool b).map fun row => row.map (shift0 k)⟩ : Blk) = ⟨0, 1, _⟩
 rw [List.map_map]
 congr 1
theorem shift_frame {k g0 g1 g2 s : Nat} {occ : List Bool} {pts : List Point} {ws : List Held} {ids : List Nat} {bs : List (List Bool)} :
  (⟨g0, 1, List.map eBool occ⟩ :: ⟨g1, 2, List.map ePoint pts⟩ :: ⟨g2, 5, hRows s ws ids⟩ :: List.map fbk bs : List Blk).map (shiftB k) = ⟨g0, 1, List.map eBool occ⟩ :: ⟨g1, 2, List.map ePoint pts⟩ :: ⟨g2, 5, hRows (s + k) ws ids⟩ :: List.map fbk bs := by
 refine shift_cons (fun _ => rfl) (shift_cons (fun _ => rfl) ?_)
 show (⟨g2, 5, (hRows s ws ids).map fun row => row.map (shift0 k)⟩ : Blk) :: (List.map fbk bs).map (shiftB k) = _
 rw [shift_hRows, shift_fam]
structure FamG (ws : List Held) (ids : List Nat) (bs : List (List Bool)) : Prop where
 ok : FamOk ws ids bs
 nd : ∀ i j k : Nat, ids[i]? = some k → ids[j]? = some k → i = j
 len : ∀ b ∈ bs, b.length ≤ 1048576
theorem fam_snoc {bs : List (List Bool)} {b : List Bool} : List.map fbk bs ++ [⟨0, 1, List.map eBool b⟩] = List.map fbk (bs ++ [b]) := by rw [List.map_append]; rfl
section
variable {P : Program} {esc : List Nat} {ops : Array Oper} {n : Nat} {X : List Oper} {i0 : Nat} {A : List (Nat × AV)} {L : List (Nat × List AV)} {H : List Blk} {K : List (Nat × AV) → List (Nat × List AV) → List Blk → Prop}
theorem sLdR (k0 : Nat) (d : Option Nat) (N : List (Nat × AV)) (rows : List (List AV)) {row : List AV} (i : Int) (t : TypeId) (c g : Nat) (v : AV) (hrow : rows[i.toNat]? = some row) (h : evS P esc ops n (X.drop (i0 + k0)) (putD d v N A) L H K)
  (e2 : ∀ K, takeA P t row c K = K v := by intro K; kernel_rfl)
  (e : ∀ K, evS P esc ops n ((X.drop i0).take k0) A L H K = (g = g ∧ oelim rows[0 + i.toNat]? fun row => takeA P t row c fun v => K (putD d v N A) L H) := by intro K; kernel_rfl) : evS P esc ops n (X.drop i0) A L H K := by
 rw [evS_split X i0 k0, e]
 exact ⟨rfl, oelim_mk (a := row) (by rw [Nat.zero_add]; exact hrow) (by rw [e2]; exact h)⟩
theorem sStR (k0 : Nat) (d : Option Nat) (N : List (Nat × AV)) (rows : List (List AV)) {row row' : List AV} (i : Int) (c k g : Nat) (cells : List AV) (H' : List (List AV) → List Blk) (rows' : List (List AV)) (hrow : rows[i.toNat]? = some row) (hset : rows.set i.toNat row' = rows')
  (h : evS P esc ops n (X.drop (i0 + k0)) (putD d (.tup []) N A) L (H' rows') K) (hc : Nat.ble (c + k) row.length = true := by kernel_rfl) (hs : splice row c cells = row' := by kernel_rfl)
  (e : ∀ K, evS P esc ops n ((X.drop i0).take k0) A L H K = (g = g ∧ oelim rows[0 + i.toNat]? fun row => c + k ≤ row.length ∧ K (putD d (.tup []) N A) L (H' (rows.set (0 + i.toNat) (splice row c cells)))) := by intro K; kernel_rfl) : evS P esc ops n (X.drop i0) A L H K := by
 rw [evS_split X i0 k0, e]
 refine ⟨rfl, oelim_mk (a := row) (by rw [Nat.zero_add]; exact hrow) ⟨Nat.le_of_ble_eq_true hc, ?_⟩⟩
 ·rw [hs, Nat.zero_add, hset]; exact h
theorem sStRj (k0 : Nat) (d : Option Nat) (N : List (Nat × AV)) (rows : List (List AV)) {row row' : List AV} (i : Int) (c k g : Nat) (cells : List AV) (j : Nat) (rows' : List (List AV)) (hrow : rows[i.toNat]? = some row) (hset : rows.set i.toNat row' = rows')
  (h : evS P esc ops n (X.drop (i0 + k0)) (putD d (.tup []) N A) L (hrw j rows' H) K) (hc : Nat.ble (c + k) row.length = true := by kernel_rfl) (hs : splice row c cells = row' := by kernel_rfl)
  (e : ∀ K, evS P esc ops n ((X.drop i0).take k0) A L H K = (g = g ∧ oelim rows[0 + i.toNat]? fun row => c + k ≤ row.length ∧ K (putD d (.tup []) N A) L (hrw j (rows.set (0 + i.toNat) (splice row c cells)) H)) := by intro K; kernel_rfl) : evS P esc ops n (X.drop i0) A L H K := sStR k0 d N rows i c k g cells (fun r => hrw j r H) rows' hrow hset h hc hs e
theorem sAdrF (k0 : Nat) (d : Option Nat) (N : List (Nat × AV)) (bs : List (List Bool)) (id s : Nat) {i : Int} {m : Nat} (hid : id < bs.length) (h0 : 0 ≤ i ∧ i.toNat < m) (h : evS P esc ops n (X.drop (i0 + k0)) (putD d (.ptr (id + s) 0 (0 + i.toNat) 0) N A) L H K)
  (e : ∀ K, evS P esc ops n ((X.drop i0).take k0) A L H K = (oelim (List.map fbk bs)[id]? fun blk => blk.gen = 0 ∧ blk.sz = 1 ∧ 0 ≤ i ∧ i < m ∧ K (putD d (.ptr (id + s) 0 (0 + i.toNat) 0) N A) L H) := by intro K; kernel_rfl) : evS P esc ops n (X.drop i0) A L H K := by
 rw [evS_split X i0 k0, e]
 exact oelim_mk (fam_get hid) ⟨rfl, rfl, h0.1, by have := h0.2; omega, h⟩
theorem sStF (k0 : Nat) (d : Option Nat) (N : List (Nat × AV)) (bs : List (List Bool)) (id : Nat) (i : Int) (x : Bool) (H' : List Blk → List Blk) (hid : id < bs.length) (hi : i.toNat < (bs.getD id []).length)
  (h : evS P esc ops n (X.drop (i0 + k0)) (putD d (.tup []) N A) L (H' (List.map fbk (bs.set id ((bs.getD id []).set i.toNat x)))) K)
  (e : ∀ K, evS P esc ops n ((X.drop i0).take k0) A L H K = (oelim (List.map fbk bs)[id]? fun blk => blk.gen = 0 ∧ oelim blk.rows[0 + i.toNat]? fun row => 0 + 1 ≤ row.length ∧ K (putD d (.tup []) N A) L (H' ((List.map fbk bs).set id { blk with rows := blk.rows.set (0 + i.toNat) (splice row 0 [.bool x]) }))) := by intro K; kernel_rfl) : evS P esc ops n (X.drop i0) A L H K := by
 rw [evS_split X i0 k0, e]
 have key : (List.map fbk bs).set id { fbk (bs.getD id []) with rows := (fbk (bs.getD id [])).rows.set (0 + i.toNat) (splice (eBool (nth (bs.getD id []) i)) 0 [.bool x]) } = List.map fbk (bs.set id ((bs.getD id []).set i.toNat x)) := by
  rw [← fam_set]
  congr 1
  show (⟨0, 1, (List.map eBool (bs.getD id [])).set (0 + i.toNat) (eBool x)⟩ : Blk) = ⟨0, 1, _⟩
  rw [Nat.zero_add, bool_set]
 refine oelim_mk (fam_get hid) ⟨rfl, oelim_mk (a := eBool (nth (bs.getD id []) i)) (by rw [Nat.zero_add]; exact bool_row hi) ⟨Nat.le_refl _, ?_⟩⟩
 ·rw [key]; exact h
theorem sStV (k0 : Nat) (N : List (Nat × AV)) (H' : List Blk) {φ ψ : Prop} (h1 : φ) (h2 : ψ) (h : evS P esc ops n (X.drop (i0 + k0)) (putN N A) L H' K) (e : ∀ K, evS P esc ops n ((X.drop i0).take k0) A L H K = (φ ∧ ψ ∧ K (putN N A) L H') := by intro K; kernel_rfl) : evS P esc ops n (X.drop i0) A L H K := by
 rw [evS_split X i0 k0, e]; exact ⟨h1, h2, h⟩
theorem sRe (H' : List Blk) (hH : H = H') (h : evS P esc ops n (X.drop i0) A L H' K) : evS P esc ops n (X.drop i0) A L H K := by
 subst hH; exact h
theorem sCallM (k0 : Nat) (d : Option Nat) (N : List (Nat × AV)) {g : FuncId} (args : List AV) (Q : AV → List Blk → Prop) (hf : FnS P g args H Q) (hr : ∀ r H', Q r H' → noLp3 r = true) (h : ∀ r H', Q r H' → evS P esc ops n (X.drop (i0 + k0)) (putD d r N A) L H' K)
  (hn : args.all noTup = true := by kernel_rfl) (hl : args.all noLp2 = true := by kernel_rfl) (e : ∀ K, evS P esc ops n ((X.drop i0).take k0) A L H K = (callAny P g args L H (fun v L' H' => K (putD d v N A) L' H')) := by intro K; kernel_rfl) : evS P esc ops n (X.drop i0) A L H K := by
 rw [evS_split X i0 k0, e]
 exact .inr (.inr ⟨hn, hl, hf.mono fun r H' hq => ⟨hr r H' hq, h r H' hq⟩⟩)
theorem sMksF (k0 : Nat) (d : Option Nat) (N : List (Nat × AV)) {i : Int} (B : Int) (z : List AV) (m : Nat) (Hx : List Blk) (h0 : 0 ≤ i ∧ B * i ≤ 140737488355328 ∧ i ≤ 4611686018427387904) (hl : H.length = m) (hx : H ++ [⟨0, 1, List.map eBool (List.replicate i.toNat false)⟩] = Hx)
  (h : evS P esc ops n (X.drop (i0 + k0)) (putD d (.ref m 0 0 (List.replicate i.toNat false).length false) N A) L Hx K) (hz : z = eBool false := by rfl)
  (e : ∀ K, evS P esc ops n ((X.drop i0).take k0) A L H K = (0 ≤ i ∧ i ≤ i ∧ B * i ≤ 140737488355328 ∧ i ≤ 4611686018427387904 ∧ K (putD d (.ref H.length 0 0 i.toNat false) N A) L (H ++ [⟨0, 1, List.replicate i.toNat z⟩])) := by intro K; kernel_rfl) : evS P esc ops n (X.drop i0) A L H K := by
 rw [evS_split X i0 k0, e]
 subst hl; subst hx; subst hz
 rw [List.length_replicate, List.map_replicate] at h
 exact ⟨h0.1, Int.le_refl _, h0.2.1, h0.2.2, h⟩
theorem sApp0F (k0 : Nat) (d : Option Nat) (N : List (Nat × AV)) (ys : List Bool) (B : Nat) (m : Nat) (Hx : List Blk) (h0 : ys.length * B ≤ 140737488355328 ∧ ys.length ≤ 4611686018427387904) (hl : H.length = m) (hx : H ++ [⟨0, 1, List.map eBool ys⟩] = Hx)
  (h : evS P esc ops n (X.drop (i0 + k0)) (putD d (.ref m 0 0 ys.length false) N A) L Hx K)
  (e : ∀ K, evS P esc ops n ((X.drop i0).take k0) A L H K = (true = true ∧ true = true ∧ rowsOk 1 (List.map eBool ys) ∧ true = true ∧ (∀ row ∈ ([] : List (List AV)), row.length = 1) ∧ (List.length (α := List AV) [] + (List.map eBool ys).length) * B ≤ 140737488355328 ∧ List.length (α := List AV) [] + (List.map eBool ys).length ≤ 4611686018427387904 ∧ (([] : List (List AV)) ≠ [] → (List.map eBool ys) ≠ []) ∧
   K (putD d (.ref H.length 0 0 (List.length (α := List AV) [] + (List.map eBool ys).length) false) N A) L (H ++ [⟨0, 1, [] ++ (List.map eBool ys)⟩])) := by intro K; kernel_rfl) : evS P esc ops n (X.drop i0) A L H K := by
 rw [evS_split X i0 k0, e]
 subst hl; subst hx
 refine ⟨rfl, rfl, rowsOk_map (enc := eBool) (fun _ => ⟨rfl, rfl⟩) ys, rfl, (fun row h => by cases h), by simpa using h0.1, by simpa using h0.2, (fun h => absurd rfl h), ?_⟩
 simpa using h
theorem sAppW (k0 : Nat) (d : Option Nat) (N : List (Nat × AV)) (s b g q B : Nat) (ws : List Held) (ids : List Nat) (x : Held) (id : Nat) (H' : List (List AV) → List Blk) (hl : ws.length = ids.length)
  (h0 : (ws.length + 1) * B ≤ 140737488355328 ∧ ws.length + 1 ≤ 4611686018427387904) (h : evS P esc ops n (X.drop (i0 + k0)) (putD d (.ref b (g + 1) 0 (ws ++ [x]).length false) N A) L (H' (hRows s (ws ++ [x]) (ids ++ [id]))) K)
  (e : ∀ K, evS P esc ops n ((X.drop i0).take k0) A L H K = (true = true ∧ true = true ∧ (q = q ∧ 0 + 1 ≤ 1 ∧ (rowsOk 5 [hRow s x id] ∧ 0 = 0 ∧ g = g ∧ 5 = 5 ∧ (hRows s ws ids).length = ws.length ∧ (ws.length + 1) * B ≤ 140737488355328 ∧ ws.length + 1 ≤ 4611686018427387904 ∧
   K (putD d (.ref b (g + 1) 0 (ws.length + 1) false) N A) L (H' (hRows s ws ids ++ [hRow s x id]))))) := by intro K; kernel_rfl) : evS P esc ops n (X.drop i0) A L H K := by
 rw [evS_split X i0 k0, e]
 refine ⟨rfl, rfl, rfl, Nat.le_refl _, ?_, rfl, rfl, rfl, hRows_len hl, h0.1, h0.2, ?_⟩
 ·intro row hr
  rw [List.mem_singleton.1 hr]
  exact ⟨rfl, fun a ha => List.all_eq_true.1 (show (hRow s x id).all sto1 = true from rfl) a ha⟩
 ·rw [hRows_snoc hl]; rw [List.length_append] at h; exact h
end
section
variable {P : Program} {esc : List Nat} {ops : Array Oper} {n : Nat} {X : List Item} {i0 : Nat} {A : List (Nat × AV)} {L : List (Nat × List AV)} {H : List Blk} {K : List (Nat × AV) → List (Nat × List AV) → List Blk → Prop}
theorem tLdR (k0 : Nat) (d : Option Nat) (N : List (Nat × AV)) (rows : List (List AV)) {row : List AV} (i : Int) (t : TypeId) (c g : Nat) (v : AV) (hrow : rows[i.toNat]? = some row) (h : evSD P esc ops n (X.drop (i0 + k0)) (putD d v N A) L H K)
  (e2 : ∀ K, takeA P t row c K = K v := by intro K; kernel_rfl)
  (e : ∀ K, evSD P esc ops n ((X.drop i0).take k0) A L H K = (g = g ∧ oelim rows[0 + i.toNat]? fun row => takeA P t row c fun v => K (putD d v N A) L H) := by intro K; kernel_rfl) : evSD P esc ops n (X.drop i0) A L H K := by
 rw [evSD_split X i0 k0, e]
 exact ⟨rfl, oelim_mk (a := row) (by rw [Nat.zero_add]; exact hrow) (by rw [e2]; exact h)⟩
theorem tAdrF (k0 : Nat) (d : Option Nat) (N : List (Nat × AV)) (bs : List (List Bool)) (id s : Nat) {i : Int} {m : Nat} (hid : id < bs.length) (h0 : 0 ≤ i ∧ i.toNat < m) (h : evSD P esc ops n (X.drop (i0 + k0)) (putD d (.ptr (id + s) 0 (0 + i.toNat) 0) N A) L H K)
  (e : ∀ K, evSD P esc ops n ((X.drop i0).take k0) A L H K = (oelim (List.map fbk bs)[id]? fun blk => blk.gen = 0 ∧ blk.sz = 1 ∧ 0 ≤ i ∧ i < m ∧ K (putD d (.ptr (id + s) 0 (0 + i.toNat) 0) N A) L H) := by intro K; kernel_rfl) : evSD P esc ops n (X.drop i0) A L H K := by
 rw [evSD_split X i0 k0, e]
 exact oelim_mk (fam_get hid) ⟨rfl, rfl, h0.1, by have := h0.2; omega, h⟩
theorem tLdF (k0 : Nat) (d : Option Nat) (N : List (Nat × AV)) (bs : List (List Bool)) (id : Nat) (i : Int) (t : TypeId) (hid : id < bs.length) (hi : i.toNat < (bs.getD id []).length) (h : evSD P esc ops n (X.drop (i0 + k0)) (putD d (.bool (nth (bs.getD id []) i)) N A) L H K)
  (e2 : ∀ x K, takeA P t (eBool x) 0 K = K (.bool x) := by intro x K; kernel_rfl)
  (e : ∀ K, evSD P esc ops n ((X.drop i0).take k0) A L H K = (oelim (List.map fbk bs)[id]? fun blk => blk.gen = 0 ∧ oelim blk.rows[0 + i.toNat]? fun row => takeA P t row 0 fun v => K (putD d v N A) L H) := by intro K; kernel_rfl) : evSD P esc ops n (X.drop i0) A L H K := by
 rw [evSD_split X i0 k0, e]
 refine oelim_mk (fam_get hid) ⟨rfl, oelim_mk (a := eBool (nth (bs.getD id []) i)) (by rw [Nat.zero_add]; exact bool_row hi) (by rw [e2]; exact h)⟩
theorem tStF (k0 : Nat) (d : Option Nat) (N : List (Nat × AV)) (bs : List (List Bool)) (id : Nat) (i : Int) (x : Bool) (F : List Blk → Prop) (H' : List Blk → List Blk) (hid : id < bs.length) (hi : i.toNat < (bs.getD id []).length)
  (hF : F ((List.map fbk (bs.set id ((bs.getD id []).set i.toNat x))))) (h : evSD P esc ops n (X.drop (i0 + k0)) (putD d (.tup []) N A) L (H' (List.map fbk (bs.set id ((bs.getD id []).set i.toNat x)))) K)
  (e : ∀ K, evSD P esc ops n ((X.drop i0).take k0) A L H K = (oelim (List.map fbk bs)[id]? fun blk => blk.gen = 0 ∧ oelim blk.rows[0 + i.toNat]? fun row => 0 + 1 ≤ row.length ∧ F (((List.map fbk bs).set id { blk with rows := blk.rows.set (0 + i.toNat) (splice row 0 [.bool x]) })) ∧ K (putD d (.tup []) N A) L (H' ((List.map fbk bs).set id { blk with rows := blk.rows.set (0 + i.toNat) (splice row 0 [.bool x]) }))) := by intro K; kernel_rfl) : evSD P esc ops n (X.drop i0) A L H K := by
 rw [evSD_split X i0 k0, e]
 have key : (List.map fbk bs).set id { fbk (bs.getD id []) with rows := (fbk (bs.getD id [])).rows.set (0 + i.toNat) (splice (eBool (nth (bs.getD id []) i)) 0 [.bool x]) } = List.map fbk (bs.set id ((bs.getD id []).set i.toNat x)) := by
  rw [← fam_set]
  congr 1
  show (⟨0, 1, (List.map eBool (bs.getD id [])).set (0 + i.toNat) (eBool x)⟩ : Blk) = ⟨0, 1, _⟩
  rw [Nat.zero_add, bool_set]
 refine oelim_mk (fam_get hid) ⟨rfl, oelim_mk (a := eBool (nth (bs.getD id []) i)) (by rw [Nat.zero_add]; exact bool_row hi) ⟨Nat.le_refl _, ?_, ?_⟩⟩
 ·rw [key]; exact hF
 ·rw [key]; exact h
end
end Go.Proofs.Ytglpfccgmfhkdaa.Fw
/- What the functions compute, told in plain Lean: numbers, lists, plans. -/

set_option linter.unusedVariables false
namespace Go.Proofs.Ytglpfccgmfhkdaa.Fw
open Go
theorem w64 {n : Int} (h1 : -9223372036854775808 ≤ n) (h2 : n ≤ 9223372036854775807) : IntKind.i64.wrap n = n := by
 rw [IntKind.wrap_i64]; omega
def inR (x a b : Int) : Bool := decide (a ≤ x) && decide (x ≤ b)
theorem inR_true {x a b : Int} : inR x a b = true ↔ a ≤ x ∧ x ≤ b := by simp [inR]
theorem nth_eq {α : Type} [Inhabited α] {xs : List α} {i : Int} (h : i.toNat < xs.length) : nth xs i = xs[i.toNat] := by
 have := nth_some h
 rw [List.getElem?_eq_getElem h] at this
 exact (Option.some.inj this).symm
theorem nth_mem {α : Type} [Inhabited α] {xs : List α} {i : Int} (h : i.toNat < xs.length) : nth xs i ∈ xs := by rw [nth_eq h]; exact List.getElem_mem h
theorem nth_nat {α : Type} [Inhabited α] {xs : List α} {i : Nat} (h : i < xs.length) : nth xs (i : Int) = xs[i] := by rw [nth_eq (by simpa using h)]; simp
def first {α : Type} (xs : List α) (p : α → Bool) : Option Nat := xs.findIdx? p
theorem first_none {α : Type} {xs : List α} {p : α → Bool} (h : ∀ x ∈ xs, p x = false) : first xs p = none := by
 unfold first; rw [List.findIdx?_eq_none_iff]; exact h
theorem first_some {α : Type} [Inhabited α] {xs : List α} {p : α → Bool} {i : Int} (h : ∀ x ∈ xs.take i.toNat, p x = false) (hi : i.toNat < xs.length) (hp : p (nth xs i) = true) : first xs p = some i.toNat := by
 unfold first
 rw [List.findIdx?_eq_some_iff_getElem]
 refine ⟨hi, by rw [← nth_eq hi]; exact hp, fun j hj => ?_⟩
 have := h xs[j] (by rw [List.mem_take_iff_getElem]; exact ⟨j, by omega, rfl⟩)
 simp [this]
def optI (o : Option Nat) : Int := match o with
 | some i => i
 | none => -1
def idxInt (xs : List Int) (v : Int) : Int := optI (first xs (fun x => v == x))
def hasInt (xs : List Int) (v : Int) : Bool := xs.contains v
def idxBool (xs : List Bool) (v : Bool) : Int := optI (first xs (fun x => v == x))
def hasBool (xs : List Bool) (v : Bool) : Bool := xs.contains v
def idt {α : Type} (x : α) : α := x
def meets (a b : List Int) : Bool := a.any fun x => b.contains x
def dup (l : List Int) : Bool := !decide l.Nodup
def needs (w : Way) : List Lie := w.lies ++ w.flanks
def listOk (l : List Int) (n : Int) : Bool := decide (l.length ≤ 30) && l.all (fun x => inR x 0 (n - 1)) && decide l.Nodup
def liesIn (p : Plan) (l : List Lie) : Bool := decide (l.length ≤ 30) && l.all (fun x => inR x.sw 0 (p.switches.length - 1) && inR x.lie 1 2) && decide (l.map (·.sw)).Nodup
def wayGood (p : Plan) (w : Way) : Bool :=
 decide (w.sections ≠ []) && listOk w.sections p.sections && listOk w.over p.sections && listOk w.near p.sections && liesIn p w.lies && liesIn p w.flanks &&
 decide ((needs w).map (·.sw)).Nodup && w.lies.all (fun x => w.sections.contains (nth p.switches x.sw)) && !meets w.sections w.over
def barAt (p : Plan) (i k : Nat) : Bool := nth (nth p.bars i) k
def barBad (p : Plan) (i k : Nat) : Bool := (barAt p i k != barAt p k i) || (decide (i ≠ k) && !barAt p i k && meets (nth p.ways i).sections (nth p.ways k).sections)
def planBars (p : Plan) : Fault := if p.bars.length = p.ways.length then
  match first p.bars (fun b => decide (b.length ≠ p.ways.length)) with
  | some k => ⟨4, k⟩
  | none => match first (List.range p.ways.length) (fun i => (List.range p.ways.length).any fun k => barBad p i k) with
   | some k => ⟨5, k⟩
   | none => ⟨0, 0⟩
 else ⟨4, 0⟩
def planWays (p : Plan) : Fault := match first p.ways (fun w => !wayGood p w) with
 | some k => ⟨3, k⟩
 | none => planBars p
def planSw (p : Plan) : Fault := match first p.switches (fun s => !inR s 0 (p.sections - 1)) with
 | some k => ⟨2, k⟩
 | none => planWays p
def planOk (p : Plan) : Fault := if inR p.sections 1 60 && inR p.hold 1 300 && decide (p.switches.length ≤ 40) && decide (p.ways.length ≤ 100) then planSw p else ⟨1, 0⟩
def planGood (p : Plan) : Bool := decide (planOk p = ⟨0, 0⟩)
def lessN (n : Nat) (left : Int) : Int := if left < n then -1 else left - n
def wayN (w : Way) : Nat := w.sections.length + w.lies.length + w.flanks.length + w.over.length + w.near.length
def waysN (ws : List Way) : Nat := ws.length + (ws.map wayN).sum
def barsN (bs : List (List Bool)) : Nat := bs.length + (bs.map List.length).sum
def planN (p : Plan) : Nat := p.switches.length + waysN p.ways + barsN p.bars
def heldsN (ws : List Held) : Nat := ws.length + (ws.map fun h => h.been.length).sum
def frameN (f : Frame) : Nat := f.occ.length + f.points.length + heldsN f.ways
theorem lessN_lt {n : Nat} {left : Int} (h0 : 0 ≤ left) : lessN n left < 0 ↔ left < n := by unfold lessN; split <;> omega
theorem lessN_add {n m : Nat} {left : Int} (h0 : 0 ≤ left) : lessN (n + m) left = if lessN n left < 0 then -1 else lessN m (lessN n left) := by
 unfold lessN
 split <;> split <;> (try split) <;> (try split) <;> omega
def szL {α : Type} (a : List α) (left : Int) : Int := lessN a.length left
def szWay (w : Way) (left : Int) : Int := lessN (wayN w) left
def szWays (w : List Way) (left : Int) : Int := lessN (waysN w) left
def szBars (w : List (List Bool)) (left : Int) : Int := lessN (barsN w) left
def szPlan (p : Plan) (left : Int) : Int := lessN (planN p) left
def szHeld (h : Held) (left : Int) : Int := lessN h.been.length left
def szHelds (h : List Held) (left : Int) : Int := lessN (heldsN h) left
def szFrame (f : Frame) (left : Int) : Int := lessN (frameN f) left
def okL {α : Type} (a : α) (left : Int) : Prop := 0 ≤ left ∧ left ≤ 1048576
def small {α : Type} (a : List α) : Prop := a.length ≤ 1048576
def smallWay (w : Way) : Prop := wayN w ≤ 1048576
def smallWays (w : List Way) : Prop := waysN w ≤ 1048576
def smallBars (w : List (List Bool)) : Prop := barsN w ≤ 1048576
def smallPlan (p : Plan) : Prop := planN p ≤ 1048576
def eqv {α : Type} [DecidableEq α] (a b : α) : Bool := decide (a = b)
def yes {α : Type} (a : α) : Bool := true
def preN (l : List Int) (n : Int) : Prop := -9223372036854775808 < n ∧ n ≤ 9223372036854775807
def preW (p : Plan) (w : Way) : Prop := -9223372036854775808 < p.sections ∧ p.sections ≤ 9223372036854775807
def preNeeds (w : Way) : Prop := w.lies.length ≤ 1048576 ∧ w.flanks.length ≤ 1048576
def fillL {α β : Type} (a : List α) (f : α → β) (d : β) (i : Int) : List β := (a.take i.toNat).map f ++ List.replicate (a.length - i.toNat) d
theorem fill_start {α β : Type} (a : List α) (f : α → β) (d : β) : fillL a f d 0 = List.replicate a.length d := by simp [fillL]
theorem fill_length {α β : Type} {a : List α} {f : α → β} {d : β} {i : Int} (h : i ≤ a.length) : (fillL a f d i).length = a.length := by
 simp [fillL]; omega
theorem fill_step {α β : Type} [Inhabited α] {a : List α} {f : α → β} {d : β} {i : Int} (h0 : 0 ≤ i) (h : i.toNat < a.length) : (fillL a f d i).set i.toNat (f (nth a i)) = fillL a f d (i + 1) := by
 unfold fillL
 rw [show (i + 1).toNat = i.toNat + 1 by omega, List.take_succ_eq_append_getElem h, List.set_append_right _ _ (by simp; omega)]
 have : List.replicate (a.length - i.toNat) d = d :: List.replicate (a.length - (i.toNat + 1)) d := by
  rw [← List.replicate_succ]; congr 1; omega
 rw [this, nth_eq h]
 have hl : ((a.take i.toNat).map f).length = i.toNat := by simp; omega
 rw [hl]
 simp [List.map_append]
 rw [← List.map_take, ← List.map_take, List.take_succ_eq_append_getElem h, List.map_append]
 simp
theorem fill_end {α β : Type} {a : List α} {f : α → β} {d : β} {i : Int} (h : (a.length : Int) ≤ i) : fillL a f d i = a.map f := by
 unfold fillL
 rw [List.take_of_length_le (by omega), show a.length - i.toNat = 0 by omega]
 simp
end Go.Proofs.Ytglpfccgmfhkdaa.Fw
/- Loops over lists, told once: what their conditions owe. -/

set_option linter.unusedVariables false
namespace Go.Proofs.Ytglpfccgmfhkdaa.Fw
open Go
def upI (N : Int) (p : Int → Bool) (v : Int) : Prop := 0 ≤ v ∧ v ≤ N ∧ ∀ j : Int, 0 ≤ j → j < v → p j = false
def upM (N : Int) (v : Int) : Nat := (N - v).toNat
theorem up_start {N : Int} {p : Int → Bool} (h : 0 ≤ N) : upI N p 0 := ⟨Int.le_refl _, h, fun j h0 h1 => by omega⟩
theorem wrap_up {N v : Int} (hn : N ≤ 4611686018427387904) (h0 : 0 ≤ v) (hv : v < N) : IntKind.i64.wrap (v + 1) = v + 1 := w64 (by omega) (by omega)
theorem up_step {N v : Int} {p : Int → Bool} (hn : N ≤ 4611686018427387904) (h : upI N p v) (hv : decide (v < N) = true) (hp : p v = false) : upI N p (IntKind.i64.wrap (v + 1)) ∧ upM N (IntKind.i64.wrap (v + 1)) < upM N v := by
 obtain ⟨h0, h1, h2⟩ := h
 have hv : v < N := by simpa using hv
 rw [wrap_up hn h0 hv]
 refine ⟨⟨by omega, by omega, fun j j0 j1 => ?_⟩, by unfold upM; omega⟩
 rcases Int.lt_or_eq_of_le (show j ≤ v by omega) with hl | rfl
 ·exact h2 j j0 hl
 ·exact hp
theorem up_end {N v : Int} {p : Int → Bool} (h : upI N p v) (hv : decide (v < N) = false) : ∀ j : Int, 0 ≤ j → j < N → p j = false := by
 obtain ⟨h0, h1, h2⟩ := h
 have hv : ¬ v < N := by simpa using hv
 exact fun j j0 j1 => h2 j j0 (by omega)
theorem up_in {α : Type} {xs : List α} {v : Int} {p : Int → Bool} (h : upI xs.length p v) (hv : decide (v < (xs.length : Int)) = true) : 0 ≤ v ∧ v.toNat < xs.length := by
 have hv : v < (xs.length : Int) := by simpa using hv
 exact ⟨h.1, by have := h.1; omega⟩
theorem lenI {α : Type} {xs : List α} (h : xs.length ≤ 4611686018427387904) : (xs.length : Int) ≤ 4611686018427387904 := by omega
theorem len0 {α : Type} (xs : List α) : 0 ≤ (xs.length : Int) := by omega
theorem up_all {α : Type} [Inhabited α] {xs : List α} {q : α → Bool} (h : ∀ j : Int, 0 ≤ j → j < xs.length → q (nth xs j) = false) : ∀ x ∈ xs, q x = false := fun x hx => by
 obtain ⟨i, hi, rfl⟩ := List.mem_iff_getElem.1 hx
 have := h i (by omega) (by omega)
 rwa [nth_nat hi] at this
theorem up_first {α : Type} [Inhabited α] {xs : List α} {q : α → Bool} {v : Int} (h : upI xs.length (fun j => q (nth xs j)) v) (hv : decide (v < (xs.length : Int)) = true) (hp : q (nth xs v) = true) : first xs q = some v.toNat := by
 have hi := up_in h hv
 refine first_some (fun x hx => ?_) hi.2 hp
 obtain ⟨i, hi', rfl⟩ := List.mem_take_iff_getElem.1 hx
 have : q (nth xs (i : Int)) = false := h.2.2 i (by omega) (by omega)
 rwa [nth_nat (by omega)] at this
theorem up_none {α : Type} [Inhabited α] {xs : List α} {q : α → Bool} {v : Int} (h : upI xs.length (fun j => q (nth xs j)) v) (hv : decide (v < (xs.length : Int)) = false) : first xs q = none :=
 first_none (up_all (up_end h hv))
theorem up_any {α : Type} [Inhabited α] {xs : List α} {q : α → Bool} {v : Int} (h : upI xs.length (fun j => q (nth xs j)) v) (hv : decide (v < (xs.length : Int)) = true) (hp : q (nth xs v) = true) : xs.any q = true := by
 rw [List.any_eq_true]; exact ⟨_, nth_mem (up_in h hv).2, hp⟩
theorem up_nany {α : Type} [Inhabited α] {xs : List α} {q : α → Bool} {v : Int} (h : upI xs.length (fun j => q (nth xs j)) v) (hv : decide (v < (xs.length : Int)) = false) : xs.any q = false := by
 rw [List.any_eq_false]
 intro x hx
 rw [up_all (up_end h hv) x hx]; simp
theorem not_eq {b : Bool} (h : (!b) = true) : b = false := by simpa using h
theorem same_lists {α : Type} [Inhabited α] {a b : List α} (hl : a.length = b.length) (h : ∀ j : Int, 0 ≤ j → j < a.length → nth a j = nth b j) : a = b := by
 apply List.ext_getElem hl
 intro i h1 h2
 have := h i (by omega) (by omega)
 rwa [nth_nat h1, nth_nat h2] at this
theorem eq_loop {α : Type} [Inhabited α] [DecidableEq α] {a b : List α} {ne : Int → Bool} (hne : ∀ v, ne v = true ↔ nth a v ≠ nth b v) :
  ((a.length ≤ 4611686018427387904) ∧ (b.length ≤ 4611686018427387904) → ((a.length : Int) != (b.length : Int)) = true → false = eqv a b) ∧ ((a.length ≤ 4611686018427387904) ∧ (b.length ≤ 4611686018427387904) ∧ ((!((a.length : Int) != (b.length : Int))) = true) →
   upI a.length ne 0 ∧ ∀ (v : Int), upI a.length ne v → (((decide (v < (a.length : Int))) = false → true = eqv a b) ∧ ((decide (v < (a.length : Int))) = true → (((0 ≤ v ∧ v.toNat < a.length) ∧ (0 ≤ v ∧ v.toNat < b.length)) ∧ ((ne v) = true → false = eqv a b)) ∧
    ((!(ne v)) = true → upI a.length ne (IntKind.i64.wrap (v + 1)) ∧ upM a.length (IntKind.i64.wrap (v + 1)) < upM a.length v)))) := by
 refine ⟨fun _ h => ?_, fun ⟨h1, h2, h3⟩ => ?_⟩
 ·have : a ≠ b := fun e => by subst e; simp at h
  simp [eqv, this]
 ·have hl : a.length = b.length := by have : (a.length : Int) = b.length := by simpa using h3
                                      omega
  refine ⟨up_start (len0 a), fun v hI => ⟨fun hv => ?_, fun hv => ⟨⟨⟨up_in hI hv, by rw [← hl]; exact up_in hI hv⟩, fun hn => ?_⟩, fun hn => up_step (lenI h1) hI hv (not_eq hn)⟩⟩⟩
  ·have : a = b := same_lists hl fun j j0 j1 => by
    have hq := up_end hI hv j j0 j1
    by_cases he : nth a j = nth b j
    ·exact he
    ·rw [(hne j).2 he] at hq; cases hq
   simp [eqv, this]
  ·have : a ≠ b := fun e => (hne v).1 hn (by rw [e])
   simp [eqv, this]
def fillI {α β : Type} (a : List α) (f : α → β) (d : β) (x : List β) (v : Int) : Prop := 0 ≤ v ∧ v ≤ a.length ∧ x = fillL a f d v
def fillM {α β : Type} (a : List α) (x : List β) (v : Int) : Nat := (a.length - v).toNat
theorem fill_loop {α β : Type} [Inhabited α] {a : List α} {f : α → β} {d : β} {res : List β} {φ : Int → Prop} (hs : a.length ≤ 4611686018427387904) (hr : a.map f = res) (hφ : ∀ v : Int, 0 ≤ v → v.toNat < a.length → φ v) :
  fillI a f d (List.replicate (a.length : Int).toNat d) 0 ∧ ∀ (x : List β) (v : Int), fillI a f d x v → (((decide (v < (a.length : Int))) = false → x.length ≤ 4611686018427387904 ∧ x = res) ∧ ((decide (v < (a.length : Int))) = true → ((0 ≤ v ∧ v.toNat < a.length) ∧ (φ v ∧ ((0 ≤ v ∧ v.toNat < x.length) ∧ v.toNat < x.length))) ∧
   (fillI a f d (x.set v.toNat (f (nth a v))) (IntKind.i64.wrap (v + 1)) ∧ fillM a (x.set v.toNat (f (nth a v))) (IntKind.i64.wrap (v + 1)) < fillM a x v))) := by
 refine ⟨⟨Int.le_refl _, len0 a, by rw [fill_start]; simp⟩, fun x v ⟨h0, h1, hx⟩ => ⟨fun hv => ?_, fun hv => ?_⟩⟩
 ·have hv : ¬ v < (a.length : Int) := by simpa using hv
  subst hx
  exact ⟨by rw [fill_length h1]; exact hs, by rw [fill_end (by omega)]; exact hr⟩
 ·have hv : v < (a.length : Int) := by simpa using hv
  have hlt : v.toNat < a.length := by omega
  subst hx
  refine ⟨⟨⟨h0, hlt⟩, hφ v h0 hlt, ⟨h0, by rw [fill_length h1]; exact hlt⟩, by rw [fill_length h1]; exact hlt⟩, ?_⟩
  rw [wrap_up (lenI hs) h0 hv]
  exact ⟨⟨by omega, by omega, fill_step h0 hlt⟩, by unfold fillM; omega⟩
theorem fill_loop0 {α β : Type} [Inhabited α] {a : List α} {f : α → β} {d : β} {res : List β} (hs : a.length ≤ 4611686018427387904) (hr : a.map f = res) :
  fillI a f d (List.replicate (a.length : Int).toNat d) 0 ∧ ∀ (x : List β) (v : Int), fillI a f d x v → (((decide (v < (a.length : Int))) = false → x.length ≤ 4611686018427387904 ∧ x = res) ∧ ((decide (v < (a.length : Int))) = true → ((0 ≤ v ∧ v.toNat < a.length) ∧ ((0 ≤ v ∧ v.toNat < x.length) ∧ v.toNat < x.length)) ∧
   (fillI a f d (x.set v.toNat (f (nth a v))) (IntKind.i64.wrap (v + 1)) ∧ fillM a (x.set v.toNat (f (nth a v))) (IntKind.i64.wrap (v + 1)) < fillM a x v))) := by
 obtain ⟨h1, h2⟩ := fill_loop (φ := fun _ => True) (d := d) hs hr fun _ _ _ => trivial
 exact ⟨h1, fun x v hI => ⟨(h2 x v hI).1, fun hv => ⟨⟨((h2 x v hI).2 hv).1.1, ((h2 x v hI).2 hv).1.2.2⟩, ((h2 x v hI).2 hv).2⟩⟩⟩
theorem lessN_ok {n : Nat} {left : Int} (h0 : 0 ≤ left) (h1 : left ≤ 1048576) (h : ¬ lessN n left < 0) : 0 ≤ lessN n left ∧ lessN n left ≤ 1048576 := by
 refine ⟨by omega, ?_⟩
 unfold lessN at h ⊢
 split <;> omega
theorem lessN_minus {n m : Nat} {left : Int} (h0 : 0 ≤ left) (h : lessN n left < 0) : lessN (n + m) left = -1 := by
 rw [lessN_add h0, if_pos h]
theorem lessN_plus {n m : Nat} {left : Int} (h0 : 0 ≤ left) (h : ¬ lessN n left < 0) : lessN m (lessN n left) = lessN (n + m) left := by
 rw [lessN_add h0, if_neg h]
theorem wrap_len {α : Type} {xs : List α} {left : Int} (hn : xs.length ≤ 4611686018427387904) (h : 0 ≤ left ∧ left ≤ 1048576) : IntKind.i64.wrap (left - (xs.length : Int)) = left - xs.length := w64 (by omega) (by omega)
theorem sz_len {α : Type} {a : List α} {left : Int} (hp : 0 ≤ left ∧ left ≤ 1048576) (hn : a.length ≤ 4611686018427387904) :
  ((decide ((IntKind.i64.wrap (left - (a.length : Int))) < 0)) = true → (-1) = szL a left) ∧ ((!(decide ((IntKind.i64.wrap (left - (a.length : Int))) < 0))) = true → (IntKind.i64.wrap (left - (a.length : Int))) = szL a left) := by
 rw [wrap_len hn hp]
 unfold szL lessN
 constructor <;> intro h <;> split <;> simp_all <;> omega
def sumI {α : Type} (a : List α) (f : α → Nat) (left0 : Int) (left v : Int) : Prop := 0 ≤ v ∧ v ≤ a.length ∧ 0 ≤ left ∧ left ≤ 1048576 ∧ left = lessN (a.length + ((a.take v.toNat).map f).sum) left0
def sumM {α : Type} (a : List α) (left v : Int) : Nat := (a.length - v).toNat
theorem sum_loop {α : Type} [Inhabited α] {a : List α} {f : α → Nat} {g : α → Int → Int} {left : Int} (hg : ∀ x l, g x l = lessN (f x) l) (hp : 0 ≤ left ∧ left ≤ 1048576) (hn : a.length ≤ 4611686018427387904) :
  ((decide ((IntKind.i64.wrap (left - (a.length : Int))) < 0)) = true → (-1) = lessN (a.length + (a.map f).sum) left) ∧ ((!(decide ((IntKind.i64.wrap (left - (a.length : Int))) < 0))) = true →
   sumI a f left (IntKind.i64.wrap (left - (a.length : Int))) 0 ∧ ∀ (w : Int) (v : Int), sumI a f left w v → (((decide (v < (a.length : Int))) = false → w = lessN (a.length + (a.map f).sum) left) ∧ ((decide (v < (a.length : Int))) = true →
    (((0 ≤ v ∧ v.toNat < a.length) ∧ (okL (nth a v) w)) ∧ ((decide ((g (nth a v) w) < 0)) = true → (-1) = lessN (a.length + (a.map f).sum) left)) ∧ ((!(decide ((g (nth a v) w) < 0))) = true → sumI a f left (g (nth a v) w) (IntKind.i64.wrap (v + 1)) ∧ sumM a (g (nth a v) w) (IntKind.i64.wrap (v + 1)) < sumM a w v)))) := by
 rw [wrap_len hn hp]
 refine ⟨fun h => ?_, fun h => ⟨⟨Int.le_refl _, len0 a, ?_⟩, fun w v ⟨v0, v1, w0, w1, hw⟩ => ⟨fun hv => ?_, fun hv => ?_⟩⟩⟩
 ·have h : left - a.length < 0 := by simpa using h
  unfold lessN; rw [if_pos (by omega)]
 ·have h : ¬ left - a.length < 0 := by simpa using h
  refine ⟨by omega, by omega, ?_⟩
  simp only [Int.toNat_zero, List.take_zero, List.map_nil, List.sum_nil, Nat.add_zero]
  unfold lessN; rw [if_neg (by omega)]
 ·have hv : ¬ v < (a.length : Int) := by simpa using hv
  rw [hw, List.take_of_length_le (by omega)]
 ·have hv : v < (a.length : Int) := by simpa using hv
  have hlt : v.toNat < a.length := by omega
  have hs : ((a.take (v + 1).toNat).map f).sum = ((a.take v.toNat).map f).sum + f (nth a v) := by
   rw [show (v + 1).toNat = v.toNat + 1 by omega, List.take_succ_eq_append_getElem hlt, List.map_append, List.sum_append, nth_eq hlt]; simp
  have hnn : ¬ lessN (a.length + ((a.take v.toNat).map f).sum) left < 0 := by omega
  have hstep : g (nth a v) w = lessN (a.length + ((a.take (v + 1).toNat).map f).sum) left := by
   rw [hg, hw, lessN_plus hp.1 hnn, hs, Nat.add_assoc]
  refine ⟨⟨⟨⟨v0, hlt⟩, w0, w1⟩, fun h => ?_⟩, fun h => ?_⟩
  ·have h : g (nth a v) w < 0 := by simpa using h
   rw [hstep] at h
   have hd : (a.map f).sum = ((a.take (v + 1).toNat).map f).sum + ((a.drop (v + 1).toNat).map f).sum := by
    rw [← List.sum_append, ← List.map_append, List.take_append_drop]
   rw [hd, ← Nat.add_assoc, lessN_minus hp.1 h]
  ·have h : ¬ g (nth a v) w < 0 := by simpa using h
   rw [wrap_up (lenI hn) v0 hv]
   have := lessN_ok hp.1 hp.2 (hstep ▸ h)
   refine ⟨⟨by omega, by omega, by rw [hstep]; exact this.1, by rw [hstep]; exact this.2, hstep⟩, by unfold sumM; omega⟩
theorem sz_step {n m T : Nat} {left : Int} {R : Prop} (hp : 0 ≤ left ∧ left ≤ 1048576) (hT : T = n + m) (h : ¬ lessN n left < 0 → 0 ≤ lessN n left ∧ lessN n left ≤ 1048576 → R) :
  ((decide (lessN n left < 0)) = true → (-1) = lessN T left) ∧ ((!(decide (lessN n left < 0))) = true → R) := by
 refine ⟨fun hd => ?_, fun hd => ?_⟩
 ·have hd : lessN n left < 0 := by simpa using hd
  rw [hT, lessN_minus hp.1 hd]
 ·have hd : ¬ lessN n left < 0 := by simpa using hd
  exact h hd (lessN_ok hp.1 hp.2 hd)
theorem map_idt {α : Type} (l : List α) : l.map idt = idt l := by
 show l.map (fun x => x) = l
 simp
theorem mem_sum {α : Type} (f : α → Nat) {x : α} : ∀ {l : List α}, x ∈ l → f x ≤ (l.map f).sum
 | [], h => by cases h
 | y :: l, h => by
  rw [List.map_cons, List.sum_cons]
  rcases List.mem_cons.1 h with rfl | h
  ·omega
  ·have := mem_sum f h; omega
theorem has_iff {xs : List Int} {x : Int} : hasInt xs x = true ↔ x ∈ xs := by unfold hasInt; simp
theorem has_true {xs : List Int} {x k : Int} (hk : k.toNat < xs.length) (h : (x == nth xs k) = true) : hasInt xs x = true := by
 rw [has_iff, show x = nth xs k by simpa using h]; exact nth_mem hk
theorem has_false {xs : List Int} {x : Int} (h : ∀ j : Int, 0 ≤ j → j < xs.length → (x == nth xs j) = false) : hasInt xs x = false := by
 rw [← Bool.not_eq_true, has_iff]
 intro hm
 have := up_all (q := fun y => x == y) h x hm
 simp at this
theorem idxInt_has (xs : List Int) (x : Int) : (decide (idxInt xs x ≥ 0)) = hasInt xs x := by
 unfold idxInt
 cases h : first xs (fun y => x == y) with
 | none =>
  unfold first at h
  rw [List.findIdx?_eq_none_iff] at h
  have : hasInt xs x = false := by
   rw [← Bool.not_eq_true, has_iff]
   intro hm
   have := h x hm
   simp at this
  rw [this]; rfl
 | some i =>
  unfold first at h
  rw [List.findIdx?_eq_some_iff_getElem] at h
  obtain ⟨hi, hp, _⟩ := h
  have : hasInt xs x = true := by rw [has_iff, show x = xs[i] by simpa using hp]; exact List.getElem_mem hi
  rw [this]
  show decide ((i : Int) ≥ 0) = true
  simp
theorem dup_true {xs : List Int} {v : Int} (h0 : 0 ≤ v) (hv : v.toNat < xs.length) (h : hasInt (xs.take v.toNat) (nth xs v) = true) : dup xs = true := by
 rw [has_iff] at h
 unfold dup
 simp only [Bool.not_eq_true', decide_eq_false_iff_not]
 intro hn
 obtain ⟨i, hi, he⟩ := List.mem_take_iff_getElem.1 h
 rw [nth_eq hv] at he
 exact (List.pairwise_iff_getElem.1 hn) i v.toNat (by omega) hv (by omega) he
theorem dup_false {xs : List Int} (h : ∀ j : Int, 0 ≤ j → j < xs.length → hasInt (xs.take j.toNat) (nth xs j) = false) : dup xs = false := by
 unfold dup
 simp only [Bool.not_eq_false', decide_eq_true_eq]
 unfold List.Nodup
 rw [List.pairwise_iff_getElem]
 intro i j hi hj hlt he
 have := h j (by omega) (by omega)
 rw [← Bool.not_eq_true, has_iff, nth_nat hj] at this
 exact this (by rw [List.mem_take_iff_getElem]; exact ⟨i, by omega, he⟩)
end Go.Proofs.Ytglpfccgmfhkdaa.Fw
/- What a plan's checks come to. -/

set_option linter.unusedVariables false
namespace Go.Proofs.Ytglpfccgmfhkdaa.Fw
open Go
theorem rng_eq (x n : Int) : (decide (x < 0) || decide (x ≥ n)) = !inR x 0 (n - 1) := by
 rw [Bool.eq_iff_iff]
 simp [inR]
 omega
theorem nat_le {α : Type} {l : List α} (k : Nat) : decide ((l.length : Int) ≤ (k : Int)) = decide (l.length ≤ k) := decide_eq_decide.2 (by omega)
theorem nodup_ofI {α : Type} [Inhabited α] {β : Type} [DecidableEq β] {l : List α} {f : α → β} (h : ∀ i j : Int, 0 ≤ i → i < j → j < l.length → f (nth l i) ≠ f (nth l j)) : (l.map f).Nodup := by
 unfold List.Nodup
 rw [List.pairwise_iff_getElem]
 intro i j hi hj hlt
 simp only [List.length_map] at hi hj
 rw [List.getElem_map, List.getElem_map]
 have := h i j (by omega) (by omega) (by omega)
 rwa [nth_nat hi, nth_nat hj] at this
theorem nodup_no {α : Type} [Inhabited α] {β : Type} [DecidableEq β] {l : List α} {f : α → β} {i j : Int} (h0 : 0 ≤ i) (h1 : i < j) (h2 : j < l.length) (he : f (nth l i) = f (nth l j)) : ¬ (l.map f).Nodup := by
 intro hn
 have := (List.pairwise_iff_getElem.1 hn) i.toNat j.toNat (by simp; omega) (by simp; omega) (by omega)
 rw [List.getElem_map, List.getElem_map, ← nth_eq (by omega), ← nth_eq (by omega)] at this
 exact this he
theorem map_id' {α : Type} (l : List α) : l.map (fun x => x) = l := by simp
theorem listOk_iff {l : List Int} {n : Int} : listOk l n = true ↔ l.length ≤ 30 ∧ (∀ x ∈ l, inR x 0 (n - 1) = true) ∧ l.Nodup := by
 unfold listOk; simp [and_assoc]
theorem listOk_end {l : List Int} {n : Int} (h : ∀ j : Int, 0 ≤ j → j < l.length → (!inR (nth l j) 0 (n - 1) || hasInt (l.take j.toNat) (nth l j)) = false) : listOk l n = decide (l.length ≤ 30) := by
 have h1 : ∀ x ∈ l, inR x 0 (n - 1) = true := fun x hx => by
  have := up_all (q := fun x => !inR x 0 (n - 1)) (fun j j0 j1 => (Bool.or_eq_false_iff.1 (h j j0 j1)).1) x hx
  simpa using this
 have h2 : dup l = false := dup_false fun j j0 j1 => (Bool.or_eq_false_iff.1 (h j j0 j1)).2
 have h2 : l.Nodup := by unfold dup at h2; simpa using h2
 rw [Bool.eq_iff_iff, listOk_iff]
 simp only [decide_eq_true_eq]
 exact ⟨fun h => h.1, fun h => ⟨h, h1, h2⟩⟩
theorem listOk_r {l : List Int} {n : Int} {v : Int} (hv : v.toNat < l.length) (h : (!inR (nth l v) 0 (n - 1)) = true) : listOk l n = false := by
 rw [← Bool.not_eq_true, listOk_iff]
 intro hh
 have := hh.2.1 _ (nth_mem hv)
 simp [this] at h
theorem listOk_d {l : List Int} {n : Int} {i j : Int} (h0 : 0 ≤ i) (h1 : i < j) (h2 : j < l.length) (he : (nth l i == nth l j) = true) : listOk l n = false := by
 rw [← Bool.not_eq_true, listOk_iff]
 intro hh
 have := nodup_no (f := fun x => x) h0 h1 h2 (by simpa using he)
 rw [map_id'] at this
 exact this hh.2.2
theorem has_take {l : List Int} {v : Int} (h0 : 0 ≤ v) (hv : v < l.length) (h : ∀ j : Int, 0 ≤ j → j < v → (nth l j == nth l v) = false) : hasInt (l.take v.toNat) (nth l v) = false := by
 rw [← Bool.not_eq_true, has_iff]
 intro hm
 obtain ⟨i, hi, he⟩ := List.mem_take_iff_getElem.1 hm
 have := h i (by omega) (by omega)
 rw [nth_nat (by omega), he] at this
 simp at this
theorem liesIn_iff {p : Plan} {l : List Lie} : liesIn p l = true ↔ l.length ≤ 30 ∧ (∀ x ∈ l, (inR x.sw 0 (p.switches.length - 1) && inR x.lie 1 2) = true) ∧ (l.map (·.sw)).Nodup := by
 unfold liesIn; simp [and_assoc]
def lieBad (p : Plan) (x : Lie) : Bool := (!inR x.sw 0 (p.switches.length - 1)) || (!inR x.lie 1 2)
theorem lieBad_eq (p : Plan) (x : Lie) : lieBad p x = !(inR x.sw 0 (p.switches.length - 1) && inR x.lie 1 2) := by unfold lieBad; rw [Bool.not_and]
def lieDup (l : List Lie) (j : Int) : Bool := (l.take j.toNat).any fun y => y.sw == (nth l j).sw
theorem liesIn_end {p : Plan} {l : List Lie} (h : ∀ j : Int, 0 ≤ j → j < l.length → (lieBad p (nth l j) || lieDup l j) = false) : liesIn p l = decide (l.length ≤ 30) := by
 have h1 : ∀ x ∈ l, (inR x.sw 0 (p.switches.length - 1) && inR x.lie 1 2) = true := fun x hx => by
  have := up_all (q := lieBad p) (fun j j0 j1 => (Bool.or_eq_false_iff.1 (h j j0 j1)).1) x hx
  rw [lieBad_eq] at this
  simpa using this
 have h2 : (l.map (·.sw)).Nodup   := nodup_ofI fun i j h0 h1 hj => by
  have := (Bool.or_eq_false_iff.1 (h j (by omega) hj)).2
  unfold lieDup at this
  rw [List.any_eq_false] at this
  have := this (nth l i) (by rw [nth_eq (by omega)]; exact List.mem_take_iff_getElem.2 ⟨i.toNat, by omega, rfl⟩)
  simpa using this
 rw [Bool.eq_iff_iff, liesIn_iff]
 simp only [decide_eq_true_eq]
 exact ⟨fun h => h.1, fun h => ⟨h, h1, h2⟩⟩
theorem liesIn_r {p : Plan} {l : List Lie} {v : Int} (hv : v.toNat < l.length) (h : lieBad p (nth l v) = true) : liesIn p l = false := by
 rw [← Bool.not_eq_true, liesIn_iff]
 intro hh
 rw [lieBad_eq, hh.2.1 _ (nth_mem hv)] at h
 cases h
theorem liesIn_d {p : Plan} {l : List Lie} {i j : Int} (h0 : 0 ≤ i) (h1 : i < j) (h2 : j < l.length) (he : ((nth l i).sw == (nth l j).sw) = true) : liesIn p l = false := by
 rw [← Bool.not_eq_true, liesIn_iff]
 exact fun hh => nodup_no (f := fun x : Lie => x.sw) h0 h1 h2 (by simpa using he) hh.2.2
theorem lieDup_no {l : List Lie} {v : Int} (h0 : 0 ≤ v) (hv : v < l.length) (h : ∀ j : Int, 0 ≤ j → j < v → ((nth l j).sw == (nth l v).sw) = false) : lieDup l v = false := by
 unfold lieDup
 rw [List.any_eq_false]
 intro y hy
 obtain ⟨i, hi, rfl⟩ := List.mem_take_iff_getElem.1 hy
 have := h i (by omega) (by omega)
 rw [nth_nat (by omega)] at this
 rw [this]; simp
theorem meets_comm (a b : List Int) : meets a b = meets b a := by
 unfold meets
 rw [Bool.eq_iff_iff]
 simp only [List.any_eq_true, List.contains_iff_mem]
 exact ⟨fun ⟨x, h1, h2⟩ => ⟨x, h2, h1⟩, fun ⟨x, h1, h2⟩ => ⟨x, h2, h1⟩⟩
theorem meets_one (x : Int) (b : List Int) : meets [x] b = b.contains x := by unfold meets; simp
theorem wayGood_iff {p : Plan} {w : Way} : wayGood p w = true ↔ w.sections ≠ [] ∧ listOk w.sections p.sections = true ∧ listOk w.over p.sections = true ∧ listOk w.near p.sections = true ∧ liesIn p w.lies = true ∧ liesIn p w.flanks = true ∧
  ((needs w).map (·.sw)).Nodup ∧ (∀ x ∈ w.lies, w.sections.contains (nth p.switches x.sw) = true) ∧ meets w.sections w.over = false := by
 unfold wayGood; simp [and_assoc]
theorem needs_nodup {w : Way} : ((needs w).map (·.sw)).Nodup ↔ (w.lies.map (·.sw)).Nodup ∧ (w.flanks.map (·.sw)).Nodup ∧ ∀ x ∈ w.lies, ∀ y ∈ w.flanks, x.sw ≠ y.sw := by
 unfold needs
 rw [List.map_append, List.nodup_append]
 simp only [List.mem_map]
 constructor
 ·rintro ⟨h1, h2, h3⟩; exact ⟨h1, h2, fun x hx y hy => h3 _ ⟨x, hx, rfl⟩ _ ⟨y, hy, rfl⟩⟩
 ·rintro ⟨h1, h2, h3⟩
  refine ⟨h1, h2, ?_⟩
  rintro a ⟨x, hx, rfl⟩ b ⟨y, hy, rfl⟩
  exact h3 x hx y hy
def planBase (p : Plan) : Bool := inR p.sections 1 60 && inR p.hold 1 300 && decide (p.switches.length ≤ 40) && decide (p.ways.length ≤ 100)
theorem planOk_1 {p : Plan} (h : planBase p = false) : planOk p = ⟨1, 0⟩ := by
 unfold planOk; unfold planBase at h; rw [if_neg (by rw [h]; simp)]
theorem planOk_s {p : Plan} (h : planBase p = true) : planOk p = planSw p := by
 unfold planOk; unfold planBase at h; rw [if_pos h]
theorem planOk_2 {p : Plan} {k : Nat} (hb : planBase p = true) (h : first p.switches (fun s => !inR s 0 (p.sections - 1)) = some k) : planOk p = ⟨2, k⟩ := by rw [planOk_s hb]; unfold planSw; rw [h]
theorem planOk_w {p : Plan} (hb : planBase p = true) (h : first p.switches (fun s => !inR s 0 (p.sections - 1)) = none) : planOk p = planWays p := by rw [planOk_s hb]; unfold planSw; rw [h]
theorem planOk_3 {p : Plan} {k : Nat} (hb : planBase p = true) (h : first p.switches (fun s => !inR s 0 (p.sections - 1)) = none) (hw : first p.ways (fun w => !wayGood p w) = some k) : planOk p = ⟨3, k⟩ := by rw [planOk_w hb h]; unfold planWays; rw [hw]
theorem planOk_b {p : Plan} (hb : planBase p = true) (h : first p.switches (fun s => !inR s 0 (p.sections - 1)) = none) (hw : first p.ways (fun w => !wayGood p w) = none) : planOk p = planBars p := by rw [planOk_w hb h]; unfold planWays; rw [hw]
theorem planBars_l {p : Plan} (h : p.bars.length ≠ p.ways.length) : planBars p = ⟨4, 0⟩ := by unfold planBars; rw [if_neg h]
theorem planBars_4 {p : Plan} {k : Nat} (h : p.bars.length = p.ways.length) (hb : first p.bars (fun b => decide (b.length ≠ p.ways.length)) = some k) : planBars p = ⟨4, k⟩ := by unfold planBars; rw [if_pos h, hb]
theorem planBars_5 {p : Plan} {k : Nat} (h : p.bars.length = p.ways.length) (hb : first p.bars (fun b => decide (b.length ≠ p.ways.length)) = none) (hq : first (List.range p.ways.length) (fun i => (List.range p.ways.length).any fun k => barBad p i k) = some k) : planBars p = ⟨5, k⟩ := by
 unfold planBars; rw [if_pos h, hb]; simp only; rw [hq]
theorem planBars_0 {p : Plan} (h : p.bars.length = p.ways.length) (hb : first p.bars (fun b => decide (b.length ≠ p.ways.length)) = none) (hq : first (List.range p.ways.length) (fun i => (List.range p.ways.length).any fun k => barBad p i k) = none) : planBars p = ⟨0, 0⟩ := by
 unfold planBars; rw [if_pos h, hb]; simp only; rw [hq]
theorem planBase_iff {p : Plan} : planBase p = true ↔ (1 ≤ p.sections ∧ p.sections ≤ 60) ∧ (1 ≤ p.hold ∧ p.hold ≤ 300) ∧ p.switches.length ≤ 40 ∧ p.ways.length ≤ 100 := by
 unfold planBase inR; simp [and_assoc]
theorem first_range_some {n : Nat} {q : Nat → Bool} {v : Int} (h0 : 0 ≤ v) (hv : v < n) (h : ∀ j : Int, 0 ≤ j → j < v → q j.toNat = false) (hq : q v.toNat = true) : first (List.range n) q = some v.toNat := by
 unfold first
 rw [List.findIdx?_eq_some_iff_getElem]
 refine ⟨by simp; omega, by simpa using hq, fun j hj => ?_⟩
 have := h j (by omega) (by omega)
 simpa using this
theorem first_range_none {n : Nat} {q : Nat → Bool} (h : ∀ j : Int, 0 ≤ j → j < n → q j.toNat = false) : first (List.range n) q = none := by
 unfold first
 rw [List.findIdx?_eq_none_iff]
 intro x hx
 have := h x (by omega) (by have := List.mem_range.1 hx; omega)
 simpa using this
theorem any_range {n : Nat} {q : Nat → Bool} {v : Int} (h0 : 0 ≤ v) (hv : v < n) (h : q v.toNat = true) : (List.range n).any q = true := by
 rw [List.any_eq_true]; exact ⟨v.toNat, List.mem_range.2 (by omega), h⟩
theorem nany_range {n : Nat} {q : Nat → Bool} (h : ∀ j : Int, 0 ≤ j → j < n → q j.toNat = false) : (List.range n).any q = false := by
 rw [List.any_eq_false]
 intro x hx
 have := h x (by omega) (by have := List.mem_range.1 hx; omega)
 simp only [Int.toNat_natCast] at this
 rw [this]; simp
theorem nth_toNat {α : Type} [Inhabited α] {xs : List α} {i : Int} (h : 0 ≤ i) : nth xs (i.toNat : Int) = nth xs i := by rw [Int.toNat_of_nonneg h]
theorem lieBad_cond (p : Plan) (x : Lie) : ((decide (x.sw < 0)) || ((decide (x.sw ≥ (p.switches.length : Int))) || ((x.lie != 1) && (x.lie != 2)))) = lieBad p x := by
 unfold lieBad
 rw [← rng_eq, Bool.or_assoc]
 congr 2
 rw [Bool.eq_iff_iff]
 simp [inR]
 omega
def needBad (p : Plan) (w : Way) (j : Int) : Bool := lieBad p (nth (needs w) j) || (decide (j < (w.lies.length : Int)) && !(hasInt w.sections (nth p.switches (nth (needs w) j).sw)))
theorem needs_left {w : Way} {j : Int} (h0 : 0 ≤ j) (h : j < w.lies.length) : nth (needs w) j = nth w.lies j := by
 rw [nth_eq (xs := w.lies) (by omega), nth_eq (by unfold needs; rw [List.length_append]; omega)]
 unfold needs
 rw [List.getElem_append_left]
theorem good_lists {p : Plan} {w : Way} (h : wayGood p w = true) : ∀ l ∈ [w.sections, w.over, w.near], listOk l p.sections = true := by
 obtain ⟨-, h1, h2, h3, -⟩ := wayGood_iff.1 h
 intro l hl
 simp only [List.mem_cons, List.not_mem_nil, or_false] at hl
 rcases hl with rfl | rfl | rfl
 ·exact h1
 ·exact h2
 ·exact h3
theorem good_needs {p : Plan} {w : Way} (h : wayGood p w = true) {j : Int} (h0 : 0 ≤ j) (hj : j.toNat < (needs w).length) : needBad p w j = false := by
 obtain ⟨-, -, -, -, h4, h5, -, h6, -⟩ := wayGood_iff.1 h
 have hm := nth_mem hj
 have hb : lieBad p (nth (needs w) j) = false := by
  rw [lieBad_eq]
  unfold needs at hm ⊢
  rcases List.mem_append.1 hm with hm | hm
  ·rw [(liesIn_iff.1 h4).2.1 _ hm]; rfl
  ·rw [(liesIn_iff.1 h5).2.1 _ hm]; rfl
 unfold needBad
 rw [hb, Bool.false_or]
 by_cases hl : j < (w.lies.length : Int)
 ·rw [needs_left h0 hl]
  have : hasInt w.sections (nth p.switches (nth w.lies j).sw) = true := h6 _ (nth_mem (by omega))
  rw [this]; simp
 ·simp [hl]
theorem good_all {p : Plan} {w : Way} (h1 : w.sections ≠ []) (hl : ∀ l ∈ [w.sections, w.over, w.near], listOk l p.sections = true) (h3 : w.lies.length ≤ 30) (h4 : w.flanks.length ≤ 30)
  (hn : ∀ j : Int, 0 ≤ j → j < (needs w).length → needBad p w j = false) : ((!(dup ((needs w).map (·.sw)))) && (!(meets w.sections w.over))) = wayGood p w := by
 have hb : ∀ x ∈ needs w, (inR x.sw 0 (p.switches.length - 1) && inR x.lie 1 2) = true := fun x hx => by
  have := up_all (q := lieBad p) (fun j j0 j1 => by have := hn j j0 j1; unfold needBad at this; exact (Bool.or_eq_false_iff.1 this).1) x hx
  rw [lieBad_eq] at this
  simpa using this
 have hc : ∀ x ∈ w.lies, w.sections.contains (nth p.switches x.sw) = true := fun x hx => by
  have := up_all (q := fun x => !(hasInt w.sections (nth p.switches x.sw))) (fun j j0 j1 => by
   have := hn j j0 (by unfold needs; rw [List.length_append]; omega)
   unfold needBad at this
   have := (Bool.or_eq_false_iff.1 this).2
   rw [needs_left j0 j1] at this
   simpa [j1] using this) x hx
  simp only [Bool.not_eq_false'] at this
  exact this
 rw [Bool.eq_iff_iff, wayGood_iff]
 simp only [Bool.and_eq_true, Bool.not_eq_true', dup, Bool.not_eq_false', decide_eq_true_eq]
 constructor
 ·rintro ⟨hd, hm⟩
  have hd' := needs_nodup.1 hd
  exact ⟨h1, hl _ (by simp), hl _ (by simp), hl _ (by simp), liesIn_iff.2 ⟨h3, fun x hx => hb x (by unfold needs; exact List.mem_append_left _ hx), hd'.1⟩, liesIn_iff.2 ⟨h4, fun x hx => hb x (by unfold needs; exact List.mem_append_right _ hx), hd'.2.1⟩, hd, hc, hm⟩
 ·rintro ⟨-, -, -, -, -, -, hd, -, hm⟩
  exact ⟨hd, hm⟩
theorem bars_bad {p : Plan} {i k : Int} (h0 : 0 ≤ i) (h1 : 0 ≤ k) : (((nth (nth p.bars i) k) != (nth (nth p.bars k) i)) || ((i != k) && ((!(nth (nth p.bars i) k)) && (meets ((nth p.ways i).sections) ((nth p.ways k).sections))))) = barBad p i.toNat k.toNat := by
 unfold barBad barAt
 rw [Int.toNat_of_nonneg h0, Int.toNat_of_nonneg h1]
 have : (i != k) = decide (i.toNat ≠ k.toNat) := by
  rw [Bool.eq_iff_iff]; simp; omega
 rw [this, Bool.and_assoc]
end Go.Proofs.Ytglpfccgmfhkdaa.Fw
/- What an event's check comes to; what a plan's check says of its numbers. -/

set_option linter.unusedVariables false
namespace Go.Proofs.Ytglpfccgmfhkdaa.Fw
open Go
theorem planOk_code (p : Plan) : ((planOk p).code == 0) = planGood p := by
 have key : (planOk p).code = 0 → (planOk p).pos = 0 := by
  unfold planOk planSw planWays planBars
  split
  ·split
   ·intro h; cases h
   ·split
    ·intro h; cases h
    ·split
     ·split
      ·intro h; cases h
      ·split
       ·intro h; cases h
       ·intro _; rfl
     ·intro h; cases h
  ·intro h; cases h
 unfold planGood
 rw [Bool.eq_iff_iff]
 simp only [beq_iff_eq, decide_eq_true_eq]
 constructor
 ·intro h
  have := key h
  cases hq : planOk p with
  | mk c q => rw [hq] at h this; simp at h this; rw [h, this]
 ·intro h; rw [h]
theorem planOk_both (p : Plan) : ((planOk p).code == 0 && (planOk p).pos == 0) = planGood p := by
 unfold planGood
 rw [Bool.eq_iff_iff]
 simp only [Bool.and_eq_true, beq_iff_eq, decide_eq_true_eq]
 constructor
 ·rintro ⟨h1, h2⟩
  cases hq : planOk p with
  | mk c q => rw [hq] at h1 h2; simp at h1 h2; rw [h1, h2]
 ·intro h; rw [h]; exact ⟨rfl, rfl⟩
theorem planGood_base {p : Plan} (h : planGood p = true) : planBase p = true := by
 cases hb : planBase p with
 | true => rfl
 | false => unfold planGood at h; rw [planOk_1 hb] at h; simp at h
theorem small_of {p : Plan} (h : (!decide (szPlan p 1048576 < 0)) = true) : smallPlan p := by
 have h : ¬ lessN (planN p) 1048576 < 0 := by
  unfold szPlan at h
  simp only [Bool.not_eq_true', decide_eq_false_iff_not] at h
  exact h
 rw [lessN_lt (by omega)] at h
 unfold smallPlan
 omega
end Go.Proofs.Ytglpfccgmfhkdaa.Fw
/- Frames: what is read of them; what becomes of them. -/

set_option linter.unusedVariables false
namespace Go.Proofs.Ytglpfccgmfhkdaa.Fw
open Go
def smallF (f : Frame) : Prop := f.occ.length ≤ 1048576 ∧ f.points.length ≤ 1048576 ∧ f.ways.length ≤ 1048576 ∧ ∀ h ∈ f.ways, h.been.length ≤ 1048576
structure PlanIn (p : Plan) : Prop where
 secs : 0 ≤ p.sections ∧ p.sections ≤ 60
 ways : p.ways.length ≤ 100
 sw : p.switches.length ≤ 40
 sections : ∀ w ∈ p.ways, w.sections ≠ [] ∧ w.sections.length ≤ 30 ∧ ∀ x ∈ w.sections, 0 ≤ x ∧ x < p.sections
 over : ∀ w ∈ p.ways, w.over.length ≤ 30 ∧ ∀ x ∈ w.over, 0 ≤ x ∧ x < p.sections
 near : ∀ w ∈ p.ways, w.near.length ≤ 30 ∧ ∀ x ∈ w.near, 0 ≤ x ∧ x < p.sections
 lies : ∀ w ∈ p.ways, w.lies.length ≤ 30 ∧ w.flanks.length ≤ 30 ∧ ∀ x ∈ needs w, 0 ≤ x.sw ∧ x.sw < p.switches.length
 switches : ∀ x ∈ p.switches, 0 ≤ x ∧ x < p.sections
structure FrameIn (p : Plan) (f : Frame) : Prop where
 occ : (f.occ.length : Int) = p.sections
 points : f.points.length = p.switches.length
 ways : f.ways.length = p.ways.length
 been : ∀ (i : Nat) (h : Held) (w : Way), f.ways[i]? = some h → p.ways[i]? = some w → h.been.length = w.sections.length
 gone : ∀ h ∈ f.ways, 0 ≤ h.gone ∧ h.gone ≤ h.been.length
def occAt (f : Frame) (x : Int) : Bool := nth f.occ x
def someF (f : Frame) (l : List Int) : Bool := l.any (occAt f)
def somePre (f : Frame) (l : List Int) : Prop := ∀ x ∈ l, 0 ≤ x ∧ x < f.occ.length
def provedF (p : Plan) (f : Frame) (i : Int) : Bool :=
 (needs (nth p.ways i)).all (fun l => decide (nth f.points l.sw = ⟨l.lie, l.lie⟩)) && !someF f (nth p.ways i).sections && !someF f (nth p.ways i).over
def provedPre (p : Plan) (f : Frame) (i : Int) : Prop := PlanIn p ∧ FrameIn p f ∧ 0 ≤ i ∧ i < p.ways.length
def idleN (n : Nat) : Held := ⟨0, 0, List.replicate n false, false, 0⟩
def idleH (p : Plan) (i : Int) : Held := idleN (nth p.ways i).sections.length
def idlePre (p : Plan) (i : Int) : Prop := PlanIn p ∧ 0 ≤ i ∧ i < p.ways.length
def goOn (s : List Int) (f : Frame) (been : List Bool) : Nat → Nat → Nat
 | 0, g => g
 | n + 1, g => if g < s.length ∧ been.getD g false = true ∧ occAt f (s.getD g 0) = false ∧ (g + 1 = s.length ∨ been.getD (g + 1) false = true) then goOn s f been n (g + 1) else g
def passH (s : List Int) (f : Frame) (h : Held) : Held :=
 let been := List.zipWith (fun b x => b || occAt f x) h.been s
 let g := goOn s f been s.length h.gone.toNat
 if g = s.length then idleN s.length else { h with been := been, gone := g }
def stepH (p : Plan) (f : Frame) (i : Nat) : Held :=
 let h := nth f.ways i
 let s := (nth p.ways i).sections
 if h.state = 0 then h else
 let h := if h.state ≠ 4 ∧ occAt f (nth s 0) = true then { h with state := 4, timer := 0 } else h
 let h := if h.state = 1 ∨ h.state = 2 then (if provedF p f i = true then { h with state := 2, shown := true } else { h with state := 1 }) else h
 if h.state = 4 then passH s f h else h
def settleN (p : Plan) : Nat → Frame → Frame
 | 0, f => f
 | n + 1, f => let g := settleN p n f; { g with ways := g.ways.set n (stepH p g n) }
def settleF (p : Plan) (f : Frame) : Frame := settleN p f.ways.length f
def settlePre (p : Plan) (f : Frame) : Prop := PlanIn p ∧ FrameIn p f
end Go.Proofs.Ytglpfccgmfhkdaa.Fw
/- How ways are settled, one after the other: the ways lie in one block, in which of their sections a train has been in blocks of their own. -/

set_option linter.unusedVariables false
namespace Go.Proofs.Ytglpfccgmfhkdaa.Fw
open Go
structure FamAt (V : List Held) (ids : List Nat) (v : Int) (h : Held) (ws : List Held) (bs : List (List Bool)) : Prop where
 ok : FamOk ws ids bs
 nd : ∀ i j k : Nat, ids[i]? = some k → ids[j]? = some k → i = j
 lt : v.toNat < ws.length
 vw : view ws ids bs = V.set v.toNat h
 len : ∀ b ∈ bs, b.length ≤ 1048576
section
variable {V : List Held} {ids : List Nat} {v : Int} {h : Held} {ws : List Held} {bs : List (List Bool)}
theorem FamAt.ll (F : FamAt V ids v h ws bs) : ws.length = ids.length ∧ v.toNat < ws.length := ⟨F.ok.len, F.lt⟩
theorem FamAt.vlen (F : FamAt V ids v h ws bs) : V.length = ws.length := by
 have := congrArg List.length F.vw
 rw [view_len F.ok, List.length_set] at this; exact this.symm
theorem FamAt.id (F : FamAt V ids v h ws bs) : ids[v.toNat]? = some (nth ids v) := nth_some (by rw [← F.ok.len]; exact F.lt)
theorem FamAt.idlt (F : FamAt V ids v h ws bs) : nth ids v < bs.length := F.ok.lt _ _ F.id
theorem FamAt.row (F : FamAt V ids v h ws bs) : h = { nth ws v with been := bs.getD (nth ids v) [] } := by
 have h1 := view_get (bs := bs) (nth_some F.lt) F.id
 rw [F.vw, List.getElem?_set_self (by rw [F.vlen]; exact F.lt)] at h1
 exact Option.some.inj h1
theorem FamAt.state (F : FamAt V ids v h ws bs) : (nth ws v).state = h.state := by rw [F.row]
theorem FamAt.gone (F : FamAt V ids v h ws bs) : (nth ws v).gone = h.gone := by rw [F.row]
theorem FamAt.shown (F : FamAt V ids v h ws bs) : (nth ws v).shown = h.shown := by rw [F.row]
theorem FamAt.timer (F : FamAt V ids v h ws bs) : (nth ws v).timer = h.timer := by rw [F.row]
theorem FamAt.been (F : FamAt V ids v h ws bs) : bs.getD (nth ids v) [] = h.been := by rw [F.row]
theorem FamAt.blen (F : FamAt V ids v h ws bs) : (nth ws v).been.length = h.been.length := by
 rw [← F.been]; exact F.ok.been _ _ _ (nth_some F.lt) F.id
theorem FamAt.start (ok : FamOk ws ids bs) (nd : ∀ i j k : Nat, ids[i]? = some k → ids[j]? = some k → i = j) (lt : v.toNat < ws.length) (vw : view ws ids bs = V) (len : ∀ b ∈ bs, b.length ≤ 1048576) : FamAt V ids v (nth V v) ws bs := by
 have hl : v.toNat < V.length := by rw [← vw, view_len ok]; exact lt
 exact ⟨ok, nd, lt, by rw [vw, nth_eq hl]; exact (List.set_getElem_self _).symm, len⟩
theorem FamAt.setW (F : FamAt V ids v h ws bs) (x : Held) (hx : x.been.length = h.been.length) : FamAt V ids v { x with been := h.been } (ws.set v.toNat x) bs where
 ok := ⟨by rw [List.length_set]; exact F.ok.len, F.ok.lt, fun i id y h1 h2 => by
  rw [List.getElem?_set] at h1
  split at h1
  ·rename_i e; subst e
   rw [if_pos F.lt] at h1; cases h1
   rw [F.id] at h2; cases h2
   rw [hx, F.been]
  ·exact F.ok.been i id y h1 h2⟩
 nd := F.nd
 lt := by rw [List.length_set]; exact F.lt
 vw := by
  apply List.ext_getElem?
  intro j
  have hj := congrArg (·[j]?) F.vw
  simp only [view, List.getElem?_zipWith, List.getElem?_set] at hj ⊢
  by_cases e : v.toNat = j
  ·subst e
   have hv := F.vlen
   have := F.lt
   rw [if_pos rfl, if_pos rfl, if_pos this, if_pos (by omega), F.id]
   show some _ = some _
   rw [F.been]
  ·rw [if_neg e] at hj ⊢
   rw [if_neg e]; exact hj
 len := F.len
theorem FamAt.setState (F : FamAt V ids v h ws bs) (x : Int) : FamAt V ids v { h with state := x } (ws.set v.toNat ({ state := x, gone := (nth ws v).gone, been := (nth ws v).been, shown := (nth ws v).shown, timer := (nth ws v).timer } : Held)) bs := by
 have := F.setW ({ state := x, gone := (nth ws v).gone, been := (nth ws v).been, shown := (nth ws v).shown, timer := (nth ws v).timer } : Held) F.blen
 simpa only [F.gone, F.shown, F.timer] using this
theorem FamAt.setGone (F : FamAt V ids v h ws bs) (x : Int) : FamAt V ids v { h with gone := x } (ws.set v.toNat ({ state := (nth ws v).state, gone := x, been := (nth ws v).been, shown := (nth ws v).shown, timer := (nth ws v).timer } : Held)) bs := by
 have := F.setW ({ state := (nth ws v).state, gone := x, been := (nth ws v).been, shown := (nth ws v).shown, timer := (nth ws v).timer } : Held) F.blen
 simpa only [F.state, F.shown, F.timer] using this
theorem FamAt.setShown (F : FamAt V ids v h ws bs) (x : Bool) : FamAt V ids v { h with shown := x } (ws.set v.toNat ({ state := (nth ws v).state, gone := (nth ws v).gone, been := (nth ws v).been, shown := x, timer := (nth ws v).timer } : Held)) bs := by
 have := F.setW ({ state := (nth ws v).state, gone := (nth ws v).gone, been := (nth ws v).been, shown := x, timer := (nth ws v).timer } : Held) F.blen
 simpa only [F.state, F.gone, F.timer] using this
theorem FamAt.setTimer (F : FamAt V ids v h ws bs) (x : Int) : FamAt V ids v { h with timer := x } (ws.set v.toNat ({ state := (nth ws v).state, gone := (nth ws v).gone, been := (nth ws v).been, shown := (nth ws v).shown, timer := x } : Held)) bs := by
 have := F.setW ({ state := (nth ws v).state, gone := (nth ws v).gone, been := (nth ws v).been, shown := (nth ws v).shown, timer := x } : Held) F.blen
 simpa only [F.state, F.gone, F.shown] using this
theorem FamAt.setB (F : FamAt V ids v h ws bs) (b : List Bool) (hb : b.length = h.been.length) : FamAt V ids v { h with been := b } ws (bs.set (nth ids v) b) where
 ok := ⟨F.ok.len, fun i id hi => by rw [List.length_set]; exact F.ok.lt i id hi, fun i id y h1 h2 => by
  rw [F.ok.been i id y h1 h2, List.getD_eq_getElem?_getD, List.getD_eq_getElem?_getD, List.getElem?_set]
  split
  ·rename_i e; subst e
   rw [if_pos F.idlt, ← List.getD_eq_getElem?_getD, F.been]; exact hb.symm
  ·rfl⟩
 nd := F.nd
 lt := F.lt
 vw := by
  apply List.ext_getElem?
  intro j
  have hj := congrArg (·[j]?) F.vw
  simp only [view, List.getElem?_zipWith, List.getElem?_set] at hj ⊢
  by_cases e : v.toNat = j
  ·subst e
   have hv := F.vlen
   have := F.lt
   rw [if_pos rfl, if_pos (by omega), F.id, nth_some F.lt]
   simp only [List.getD_eq_getElem?_getD, List.getElem?_set, if_pos F.idlt]
   rw [F.row]; simp
  ·rw [if_neg e] at hj ⊢
   rw [← hj]
   cases h1 : ws[j]? with
   | none => rfl
   | some y =>
    cases h2 : ids[j]? with
    | none => rfl
    | some id =>
     have hne : nth ids v ≠ id := fun hid => by
      have h3 := F.id
      rw [hid] at h3
      exact e (F.nd _ _ _ h3 h2)
     simp only [List.getD_eq_getElem?_getD, List.getElem?_set, if_neg hne]
 len := fun x hx => by
  rcases List.mem_or_eq_of_mem_set hx with hx | rfl
  ·exact F.len x hx
  ·rw [hb, ← F.been, List.getD_eq_getElem?_getD, List.getElem?_eq_getElem F.idlt]; exact F.len _ (List.getElem_mem F.idlt)
theorem FamAt.new (F : FamAt V ids v h ws bs) (x : Held) (hx : x.been.length ≤ 1048576) : FamAt V (ids.set v.toNat bs.length) v x (ws.set v.toNat x) (bs ++ [x.been]) where
 ok := ⟨by rw [List.length_set, List.length_set]; exact F.ok.len, fun i id hi => by
   rw [List.getElem?_set] at hi
   rw [List.length_append, List.length_singleton]
   split at hi
   ·split at hi
    ·cases hi; omega
    ·cases hi
   ·have := F.ok.lt i id hi; omega, fun i id y h1 h2 => by
   rw [List.getElem?_set] at h1 h2
   split at h1
   ·rename_i e; subst e
    have := F.ok.len
    have := F.lt
    rw [if_pos F.lt] at h1; rw [if_pos rfl, if_pos (by omega)] at h2
    cases h1; cases h2; simp
   ·rename_i e
    rw [if_neg e] at h2
    rw [F.ok.been i id y h1 h2, List.getD_eq_getElem?_getD, List.getD_eq_getElem?_getD, List.getElem?_append_left (F.ok.lt i id h2)]⟩
 nd := fun i j k hi hj => by
  rw [List.getElem?_set] at hi hj
  have hlt : ∀ q, ids[q]? ≠ some bs.length := fun q hq => by have := F.ok.lt q _ hq; omega
  split at hi
  ·rename_i e; subst e
   split at hi
   ·cases hi
    split at hj
    ·rename_i e; exact e
    ·exact absurd hj (hlt j)
   ·cases hi
  ·split at hj
   ·rename_i e; subst e
    split at hj
    ·cases hj; exact absurd hi (hlt i)
    ·cases hj
   ·exact F.nd i j k hi hj
 lt := by rw [List.length_set]; exact F.lt
 vw := by
  apply List.ext_getElem?
  intro j
  have hj := congrArg (·[j]?) F.vw
  simp only [view, List.getElem?_zipWith, List.getElem?_set] at hj ⊢
  by_cases e : v.toNat = j
  ·subst e
   have hv := F.vlen
   have := F.lt
   have := F.ok.len
   rw [if_pos rfl, if_pos rfl, if_pos rfl, if_pos F.lt, if_pos (by omega), if_pos (by omega)]
   simp
  ·rw [if_neg e] at hj ⊢
   rw [if_neg e, if_neg e, ← hj]
   cases h1 : ws[j]? with
   | none => rfl
   | some y =>
    cases h2 : ids[j]? with
    | none => rfl
    | some id =>
     simp only
     rw [List.getD_eq_getElem?_getD, List.getD_eq_getElem?_getD, List.getElem?_append_left (F.ok.lt j id h2)]
 len := fun b hb => by
  rcases List.mem_append.1 hb with hb | hb
  ·exact F.len b hb
  ·rw [List.mem_singleton.1 hb]; exact hx
end
theorem fam_range (ws : List Held) : FamOk ws (List.range ws.length) (ws.map Held.been) ∧ (∀ i j k : Nat, (List.range ws.length)[i]? = some k → (List.range ws.length)[j]? = some k → i = j) ∧ view ws (List.range ws.length) (ws.map Held.been) = ws := by
 refine ⟨⟨by simp, fun i id h => ?_, fun i id h h1 h2 => ?_⟩, fun i j k h1 h2 => ?_, ?_⟩
 ·obtain ⟨hi, rfl⟩ := List.getElem?_eq_some_iff.1 h
  simpa using hi
 ·obtain ⟨hi, rfl⟩ := List.getElem?_eq_some_iff.1 h2
  simp [h1]
 ·obtain ⟨hi, rfl⟩ := List.getElem?_eq_some_iff.1 h1
  obtain ⟨hj, e⟩ := List.getElem?_eq_some_iff.1 h2
  simpa using e.symm
 ·apply List.ext_getElem?
  intro j
  unfold view
  rw [List.getElem?_zipWith]
  rcases Nat.lt_or_ge j ws.length with hj | hj
  ·rw [List.getElem?_range hj, List.getElem?_eq_getElem hj]
   simp [hj]
  ·rw [List.getElem?_eq_none hj]
theorem settleN_same (p : Plan) (f : Frame) : ∀ n, (settleN p n f).ok = f.ok ∧ (settleN p n f).occ = f.occ ∧ (settleN p n f).points = f.points
 | 0 => ⟨rfl, rfl, rfl⟩
 | n + 1 => settleN_same p f n
theorem goOn_le {s : List Int} {f : Frame} {been : List Bool} : ∀ (n g : Nat), g ≤ s.length → g ≤ goOn s f been n g ∧ goOn s f been n g ≤ s.length
 | 0, g, h => ⟨Nat.le_refl _, h⟩
 | n + 1, g, h => by
  unfold goOn
  split
  ·rename_i hc
   have := goOn_le (f := f) (been := been) n (g + 1) hc.1
   exact ⟨by omega, this.2⟩
  ·exact ⟨Nat.le_refl _, h⟩
theorem passH_ok {s : List Int} {f : Frame} {h : Held} (hb : h.been.length = s.length) (hg : 0 ≤ h.gone ∧ h.gone ≤ h.been.length) : (passH s f h).been.length = s.length ∧ 0 ≤ (passH s f h).gone ∧ (passH s f h).gone ≤ (passH s f h).been.length := by
 unfold passH
 simp only
 have hl : (List.zipWith (fun b x => b || occAt f x) h.been s).length = s.length := by rw [List.length_zipWith]; omega
 have hh := (goOn_le (s := s) (f := f) (been := List.zipWith (fun b x => b || occAt f x) h.been s) s.length h.gone.toNat (by omega)).2
 split
 ·simp [idleN]
 ·exact ⟨hl, Int.natCast_nonneg _, by simp only; rw [hl]; omega⟩
theorem stepH_ok {p : Plan} {f : Frame} {i : Nat} (hb : (nth f.ways i).been.length = (nth p.ways i).sections.length) (hg : 0 ≤ (nth f.ways i).gone ∧ (nth f.ways i).gone ≤ (nth f.ways i).been.length) :
  (stepH p f i).been.length = (nth p.ways i).sections.length ∧ 0 ≤ (stepH p f i).gone ∧ (stepH p f i).gone ≤ (stepH p f i).been.length := by
 unfold stepH
 simp only
 split
 ·exact ⟨hb, hg⟩
 ·have h1 : ∀ (c : Prop) [Decidable c] (x y : Held), x.been = y.been → x.gone = y.gone → (if c then x else y).been = y.been ∧ (if c then x else y).gone = y.gone := fun c _ x y e1 e2 => by
   split
   ·exact ⟨e1, e2⟩
   ·exact ⟨rfl, rfl⟩
  generalize hA : (if (nth f.ways i).state ≠ 4 ∧ occAt f (nth (nth p.ways i).sections 0) = true then { nth f.ways i with state := 4, timer := 0 } else nth f.ways i) = A
  have hA' : A.been = (nth f.ways i).been ∧ A.gone = (nth f.ways i).gone := by rw [← hA]; exact h1 _ _ _ rfl rfl
  generalize hB : (if A.state = 1 ∨ A.state = 2 then (if provedF p f i = true then { A with state := 2, shown := true } else { A with state := 1 }) else A) = B
  have hB' : B.been = (nth f.ways i).been ∧ B.gone = (nth f.ways i).gone := by
   rw [← hB, ← hA'.1, ← hA'.2]
   exact h1 _ _ _ (by split <;> rfl) (by split <;> rfl)
  have e1 : B.been.length = (nth p.ways i).sections.length := by rw [hB'.1]; exact hb
  have e2 : 0 ≤ B.gone ∧ B.gone ≤ B.been.length := by rw [hB'.1, hB'.2]; exact hg
  split
  ·exact passH_ok e1 e2
  ·exact ⟨e1, e2⟩
theorem settleN_in {p : Plan} {f : Frame} (h : FrameIn p f) : ∀ n, FrameIn p (settleN p n f)
 | 0 => h
 | n + 1 => by
  have ih := settleN_in h n
  show FrameIn p { settleN p n f with ways := (settleN p n f).ways.set n (stepH p (settleN p n f) n) }
  have key : n < (settleN p n f).ways.length → (stepH p (settleN p n f) n).been.length = (nth p.ways n).sections.length ∧ 0 ≤ (stepH p (settleN p n f) n).gone ∧ (stepH p (settleN p n f) n).gone ≤ (stepH p (settleN p n f) n).been.length := fun hn => by
   have hw := ih.ways
   have h1 : (settleN p n f).ways[n]? = some (nth (settleN p n f).ways n) := by rw [nth_nat hn]; exact List.getElem?_eq_getElem hn
   have h2 : p.ways[n]? = some (nth p.ways n) := by rw [nth_nat (by omega)]; exact List.getElem?_eq_getElem (by omega)
   exact stepH_ok (ih.been n _ _ h1 h2) (ih.gone _ (List.mem_of_getElem? h1))
  refine ⟨ih.occ, ih.points, by rw [List.length_set]; exact ih.ways, fun i x w h1 h2 => ?_, fun x hx => ?_⟩
  ·replace h1 : ((settleN p n f).ways.set n (stepH p (settleN p n f) n))[i]? = some x := h1
   rw [List.getElem?_set] at h1
   split at h1
   ·rename_i e; subst e
    split at h1
    ·rename_i hn
     cases h1
     have hw := ih.ways
     rw [(key hn).1, nth_nat (by omega)]
     rw [List.getElem?_eq_getElem (by omega)] at h2
     cases h2; rfl
    ·cases h1
   ·exact ih.been i x w h1 h2
  ·rcases List.mem_or_eq_of_mem_set hx with hx | rfl
   ·exact ih.gone x hx
   ·by_cases hn : n < (settleN p n f).ways.length
    ·exact (key hn).2
    ·rw [List.set_eq_of_length_le (by omega)] at hx
     exact ih.gone _ hx
theorem settleN_len (p : Plan) (f : Frame) : ∀ n, (settleN p n f).ways.length = f.ways.length
 | 0 => rfl
 | n + 1 => by show ((settleN p n f).ways.set n _).length = _; rw [List.length_set]; exact settleN_len p f n
theorem provedF_same {p : Plan} {f g : Frame} {i : Int} (h1 : f.occ = g.occ) (h2 : f.points = g.points) : provedF p f i = provedF p g i := by
 unfold provedF someF occAt
 rw [h1, h2]
def upBeen (s : List Int) (f : Frame) (b : List Bool) (v : Nat) : List Bool := List.zipWith (fun b x => b || occAt f x) (b.take v) (s.take v) ++ b.drop v
theorem upBeen_len {s : List Int} {f : Frame} {b : List Bool} {v : Nat} (hl : b.length = s.length) (hv : v ≤ s.length) : (upBeen s f b v).length = b.length := by
 unfold upBeen
 rw [List.length_append, List.length_zipWith, List.length_take, List.length_take, List.length_drop]; omega
theorem upBeen_0 (s : List Int) (f : Frame) (b : List Bool) : upBeen s f b 0 = b := by simp [upBeen]
theorem upBeen_end {s : List Int} {f : Frame} {b : List Bool} {v : Nat} (hl : b.length = s.length) (hv : s.length ≤ v) : upBeen s f b v = List.zipWith (fun b x => b || occAt f x) b s := by
 unfold upBeen
 rw [List.take_of_length_le (by omega), List.take_of_length_le hv, List.drop_of_length_le (by omega), List.append_nil]
theorem upBeen_at {s : List Int} {f : Frame} {b : List Bool} {v : Nat} (hl : b.length = s.length) (hv : v < s.length) : nth (upBeen s f b v) v = b[v] := by
 rw [nth_nat (by rw [upBeen_len hl (by omega)]; omega)]
 unfold upBeen
 rw [List.getElem_append_right (by rw [List.length_zipWith, List.length_take, List.length_take]; omega)]
 simp only [List.length_zipWith, List.length_take, List.getElem_drop]
 congr 1; omega
theorem upBeen_step {s : List Int} {f : Frame} {b : List Bool} {v : Nat} (hl : b.length = s.length) (hv : v < s.length) : (upBeen s f b v).set v (b[v] || occAt f s[v]) = upBeen s f b (v + 1) := by
 unfold upBeen
 have hlen : (List.zipWith (fun b x => b || occAt f x) (b.take v) (s.take v)).length = v := by rw [List.length_zipWith, List.length_take, List.length_take]; omega
 rw [List.set_append_right _ _ (by omega), hlen, Nat.sub_self, List.take_succ_eq_append_getElem (by omega), List.take_succ_eq_append_getElem hv, List.zipWith_append (by rw [List.length_take, List.length_take]; omega), List.append_assoc]
 congr 1
 rw [List.drop_eq_getElem_cons (by omega : v < b.length)]
 rfl
def goCond (s : List Int) (f : Frame) (been : List Bool) (g : Int) : Bool :=
 decide (g < (s.length : Int)) && (nth been g && ((!(nth f.occ (nth s g))) && ((g == IntKind.i64.wrap ((s.length : Int) - 1)) || nth been (IntKind.i64.wrap (g + 1)))))
theorem goCond_iff {s : List Int} {f : Frame} {been : List Bool} {g : Nat} (hs : s.length ≤ 1048576) (hg : g ≤ s.length) :
  goCond s f been g = true ↔ g < s.length ∧ been.getD g false = true ∧ occAt f (s.getD g 0) = false ∧ (g + 1 = s.length ∨ been.getD (g + 1) false = true) := by
 unfold goCond
 rw [w64 (by omega) (by omega), w64 (by omega) (by omega)]
 have e1 : nth been (g : Int) = been.getD g false := rfl
 have e2 : nth been ((g : Int) + 1) = been.getD (g + 1) false := rfl
 have e3 : nth s (g : Int) = s.getD g 0 := rfl
 rw [e1, e2, e3]
 simp only [Bool.and_eq_true, Bool.or_eq_true, decide_eq_true_eq, Bool.not_eq_true', beq_iff_eq]
 constructor
 ·rintro ⟨h1, h2, h3, h4⟩; exact ⟨by omega, h2, h3, h4.imp (fun h => by omega) _root_.id⟩
 ·rintro ⟨h1, h2, h3, h4⟩; exact ⟨by omega, h2, h3, h4.imp (fun h => by omega) _root_.id⟩
def goI (s : List Int) (f : Frame) (been : List Bool) (g0 g : Int) : Prop := 0 ≤ g ∧ g ≤ s.length ∧ goOn s f been s.length g0.toNat = goOn s f been (s.length - g.toNat) g.toNat
theorem goOn_stop {s : List Int} {f : Frame} {been : List Bool} {n g : Nat} (h : ¬ (g < s.length ∧ been.getD g false = true ∧ occAt f (s.getD g 0) = false ∧ (g + 1 = s.length ∨ been.getD (g + 1) false = true))) : goOn s f been n g = g := by
 cases n with
 | zero => rfl
 | succ n => unfold goOn; rw [if_neg h]
theorem goOn_fuel {s : List Int} {f : Frame} {been : List Bool} : ∀ (n m g : Nat), s.length ≤ n + g → s.length ≤ m + g → goOn s f been n g = goOn s f been m g
 | 0, m, g, h1, h2 => by
  rw [goOn_stop (n := m) fun h => by omega]; rfl
 | n + 1, 0, g, h1, h2 => by rw [goOn_stop (n := n + 1) fun h => by omega]; rfl
 | n + 1, m + 1, g, h1, h2 => by
  unfold goOn
  split
  ·exact goOn_fuel n m (g + 1) (by omega) (by omega)
  ·rfl
theorem goI_start {s : List Int} {f : Frame} {been : List Bool} {g : Int} (h0 : 0 ≤ g) (h1 : g ≤ s.length) : goI s f been g g := ⟨h0, h1, goOn_fuel _ _ _ (by omega) (by omega)⟩
theorem goI_step {s : List Int} {f : Frame} {been : List Bool} {g0 g : Int} (hs : s.length ≤ 1048576) (h : goI s f been g0 g) (hc : goCond s f been g = true) : goI s f been g0 (IntKind.i64.wrap (g + 1)) ∧ g < s.length := by
 obtain ⟨h0, h1, h2⟩ := h
 obtain ⟨k, rfl⟩ := Int.eq_ofNat_of_zero_le h0
 have hc := (goCond_iff hs (by omega)).1 hc
 rw [w64 (by omega) (by omega)]
 refine ⟨⟨by omega, by omega, ?_⟩, by omega⟩
 rw [h2]
 simp only [Int.toNat_natCast]
 rw [show ((k : Int) + 1).toNat = k + 1 by omega, show s.length - k = (s.length - (k + 1)) + 1 by omega]
 conv => lhs; unfold goOn
 rw [if_pos hc]
theorem goI_end {s : List Int} {f : Frame} {been : List Bool} {g0 g : Int} (hs : s.length ≤ 1048576) (h : goI s f been g0 g) (hc : goCond s f been g = false) : (goOn s f been s.length g0.toNat : Int) = g := by
 obtain ⟨h0, h1, h2⟩ := h
 obtain ⟨k, rfl⟩ := Int.eq_ofNat_of_zero_le h0
 rw [h2]
 simp only [Int.toNat_natCast]
 rw [goOn_stop fun hh => by rw [(goCond_iff hs (by omega)).2 hh] at hc; cases hc]
def setI (p : Plan) (f : Frame) (bs : List (List Bool)) (ids : List Nat) (v : Int) (ws : List Held) : Prop :=
 upI f.ways.length (fun _ => false) v ∧ FamOk ws ids bs ∧ (∀ i j k : Nat, ids[i]? = some k → ids[j]? = some k → i = j) ∧ view ws ids bs = (settleN p v.toNat f).ways ∧ ∀ b ∈ bs, b.length ≤ 1048576
def atN (p : Plan) (f : Frame) (v : Int) : Frame := settleN p v.toNat f
def secs (p : Plan) (v : Int) : List Int := (nth p.ways v).sections
def preA (p : Plan) (f : Frame) (v : Int) : Held :=
 let G := atN p f v
 let h := nth G.ways v
 if h.state ≠ 4 ∧ occAt G (nth (secs p v) 0) = true then { h with state := 4, timer := 0 } else h
def preH (p : Plan) (f : Frame) (v : Int) : Held :=
 let h := preA p f v
 if h.state = 1 ∨ h.state = 2 then (if provedF p (atN p f v) v = true then { h with state := 2, shown := true } else { h with state := 1 }) else h
def beenN (p : Plan) (f : Frame) (v : Int) : List Bool := List.zipWith (fun b x => b || occAt (atN p f v) x) (preH p f v).been (secs p v)
theorem stepH_eq {p : Plan} {f : Frame} {v : Int} (h0 : 0 ≤ v) : stepH p (atN p f v) v.toNat = if (nth (atN p f v).ways v).state = 0 then nth (atN p f v).ways v else if (preH p f v).state = 4 then passH (secs p v) (atN p f v) (preH p f v) else preH p f v := by
 unfold stepH preH preA secs
 rw [nth_toNat h0, nth_toNat h0, Int.toNat_of_nonneg h0]
theorem preA_been {p : Plan} {f : Frame} {v : Int} : (preA p f v).been = (nth (atN p f v).ways v).been ∧ (preA p f v).gone = (nth (atN p f v).ways v).gone := by
 unfold preA; simp only; split <;> exact ⟨rfl, rfl⟩
theorem preH_been {p : Plan} {f : Frame} {v : Int} : (preH p f v).been = (nth (atN p f v).ways v).been ∧ (preH p f v).gone = (nth (atN p f v).ways v).gone := by
 rw [← preA_been.1, ← preA_been.2]
 unfold preH; simp only; split
 ·split <;> exact ⟨rfl, rfl⟩
 ·exact ⟨rfl, rfl⟩
theorem set_next {p : Plan} {f : Frame} {v : Int} {h : Held} {ws : List Held} {ids : List Nat} {bs : List (List Bool)} (hn : (f.ways.length : Int) ≤ 4611686018427387904) (hI : upI f.ways.length (fun _ => false) v) (hv : decide (v < (f.ways.length : Int)) = true)
  (F : FamAt (atN p f v).ways ids v h ws bs) (hh : h = stepH p (atN p f v) v.toNat) : setI p f bs ids (IntKind.i64.wrap (v + 1)) ws ∧ upM f.ways.length (IntKind.i64.wrap (v + 1)) < upM f.ways.length v := by
 have hst := up_step hn hI hv rfl
 refine ⟨⟨hst.1, F.ok, F.nd, ?_, F.len⟩, hst.2⟩
 have h0 := hI.1
 have hv : v < (f.ways.length : Int) := by simpa using hv
 rw [wrap_up hn h0 hv, show (v + 1).toNat = v.toNat + 1 by omega, F.vw, hh]
 rfl
end Go.Proofs.Ytglpfccgmfhkdaa.Fw
/- Functions that write a frame that lies in the memory: what they ask, what they leave. -/

set_option linter.unusedVariables false
namespace Go.Proofs.Ytglpfccgmfhkdaa.Fw
open Go
def idlePreM (j : Int) (k : Bool) (o : List Bool) (q : List Point) (w : List Held) (i : List Nat) (b : List (List Bool)) : Prop := FamG w i b ∧ 0 ≤ j ∧ j < w.length
def idlePostM (j : Int) (k : Bool) (o : List Bool) (q : List Point) (w : List Held) (i : List Nat) (b : List (List Bool)) (o' : List Bool) (q' : List Point) (w' : List Held) (i' : List Nat) (b' : List (List Bool)) : Prop :=
 FamG w' i' b' ∧ view w' i' b' = (view w i b).set j.toNat (idleN (nth (view w i b) j).been.length)
def theF (k : Bool) (o : List Bool) (q : List Point) (w : List Held) (i : List Nat) (b : List (List Bool)) : Frame := ⟨k, o, q, view w i b⟩
def passPreM (s : Way) (j : Int) (k : Bool) (o : List Bool) (q : List Point) (w : List Held) (i : List Nat) (b : List (List Bool)) : Prop :=
 FamG w i b ∧ 0 ≤ j ∧ j < w.length ∧ s.sections.length ≤ 1048576 ∧ (∀ x ∈ s.sections, 0 ≤ x ∧ x < o.length) ∧ (nth (view w i b) j).been.length = s.sections.length ∧ 0 ≤ (nth (view w i b) j).gone ∧ (nth (view w i b) j).gone ≤ s.sections.length
def passPostM (s : Way) (j : Int) (k : Bool) (o : List Bool) (q : List Point) (w : List Held) (i : List Nat) (b : List (List Bool)) (o' : List Bool) (q' : List Point) (w' : List Held) (i' : List Nat) (b' : List (List Bool)) : Prop :=
 FamG w' i' b' ∧ view w' i' b' = (view w i b).set j.toNat (passH s.sections (theF k o q w i b) (nth (view w i b) j))
def setPreM (p : Plan) (k : Bool) (o : List Bool) (q : List Point) (w : List Held) (i : List Nat) (b : List (List Bool)) : Prop := FamG w i b ∧ settlePre p (theF k o q w i b)
def setPostM (p : Plan) (k : Bool) (o : List Bool) (q : List Point) (w : List Held) (i : List Nat) (b : List (List Bool)) (o' : List Bool) (q' : List Point) (w' : List Held) (i' : List Nat) (b' : List (List Bool)) : Prop :=
 FamG w' i' b' ∧ view w' i' b' = (settleF p (theF k o q w i b)).ways
def samePre (f g : Frame) : Prop := f.ways.length = g.ways.length ∧ smallF f ∧ smallF g ∧ ∀ (i : Nat) (x y : Held), f.ways[i]? = some x → g.ways[i]? = some y → x.been.length = y.been.length
def sameW (f g : Frame) : Bool := decide (f.ways = g.ways)
def heldPre (p : Plan) (f : Frame) (i : Int) : Prop := PlanIn p ∧ smallF f ∧ f.ways.length = p.ways.length ∧ 0 ≤ i ∧ i < p.ways.length
def heldOk (p : Plan) (f : Frame) (i : Int) : Bool :=
 let h := nth f.ways i
 let n := (nth p.ways i).sections.length
 inR h.state 0 4 && decide (h.been.length = n) && inR h.gone 0 ((n : Int) - 1) && (decide (h.state = 4) || (decide (h.gone = 0) && h.been.all (fun b => !b))) && (h.been.take h.gone.toNat).all (fun b => b) &&
 (if h.state = 3 then h.shown && inR h.timer 1 p.hold else decide (h.timer = 0) && (decide (h.state ≠ 0) || !h.shown) && (decide (h.state ≠ 2) || h.shown))
def barsOk (p : Plan) (f : Frame) : Bool := (List.range f.ways.length).all fun i => (List.range f.ways.length).all fun k => decide (i = k) || !barAt p i k || decide ((nth f.ways i).state = 0) || decide ((nth f.ways k).state = 0)
def frameOk (p : Plan) (f : Frame) : Bool :=
 planGood p && f.ok && decide ((f.occ.length : Int) = p.sections) && decide (f.points.length = p.switches.length) && decide (f.ways.length = p.ways.length) &&
 f.points.all (fun x => inR x.want 1 2 && inR x.lies 0 2) && (List.range f.ways.length).all (fun i => heldOk p f i) && barsOk p f && sameW f (settleF p f)
def frameSm (p : Plan) (f : Frame) : Prop := smallF f
theorem hasBool_iff {xs : List Bool} {b : Bool} : hasBool xs b = true ↔ b ∈ xs := by unfold hasBool; simp
theorem idxBool_has (xs : List Bool) (x : Bool) : (decide (idxBool xs x ≥ 0)) = hasBool xs x := by
 unfold idxBool
 cases h : first xs (fun y => x == y) with
 | none =>
  unfold first at h
  rw [List.findIdx?_eq_none_iff] at h
  have : hasBool xs x = false := by
   rw [← Bool.not_eq_true, hasBool_iff]
   intro hm
   have := h x hm
   simp at this
  rw [this]; rfl
 | some i =>
  unfold first at h
  rw [List.findIdx?_eq_some_iff_getElem] at h
  obtain ⟨hi, hx, _⟩ := h
  have : hasBool xs x = true := by
   rw [hasBool_iff]
   have hx : x = xs[i] := by simpa using hx
   rw [hx]; exact List.getElem_mem hi
  rw [this]
  show decide ((i : Int) ≥ 0) = true
  simp
def sameF (a b : Frame) : Bool := eqv a.occ b.occ && eqv a.points b.points && eqv a.ways b.ways
def eqHelds (a b : List Held) (_ : Unit) : Bool := eqv a b
def lieOff (f : Frame) (l : Lie) : Bool := ((nth f.points l.sw).want != l.lie) || ((nth f.points l.sw).lies != l.lie)
def provL (p : Plan) (f : Frame) (i : Int) : Prop := ∀ l ∈ needs (nth p.ways i), lieOff f l = false
theorem provedF_eq (p : Plan) (f : Frame) (i : Int) : provedF p f i = ((needs (nth p.ways i)).all (fun l => !lieOff f l) && !someF f (nth p.ways i).sections && !someF f (nth p.ways i).over) := by
 have hq : ∀ l : Lie, decide (nth f.points l.sw = ⟨l.lie, l.lie⟩) = !lieOff f l := fun l => by
  unfold lieOff
  rcases nth f.points l.sw with ⟨x, y⟩
  rw [Bool.eq_iff_iff]; simp
 unfold provedF
 simp only [hq]
theorem two2 {α : Type} {x y : α} {v : Int} (h0 : 0 ≤ v) (h1 : v.toNat < [x, y].length) : v = 0 ∨ v = 1 := by simp at h1; omega
theorem FamG.at' {w : List Held} {i : List Nat} {b : List (List Bool)} {j : Int} (F : FamG w i b) (h : j.toNat < w.length) : FamAt (view w i b) i j (nth (view w i b) j) w b := FamAt.start F.ok F.nd h rfl F.len
section
variable {V : List Held} {ids ids' : List Nat} {v : Int} {h x : Held} {ws ws' : List Held} {bs bs' : List (List Bool)}
theorem FamAt.G (F : FamAt V ids v h ws bs) : FamG ws ids bs := ⟨F.ok, F.nd, F.len⟩
theorem FamAt.nthv (F : FamAt V ids v h ws bs) : nth (view ws ids bs) v = h := by
 rw [nth_eq (by rw [view_len F.ok]; exact F.lt)]
 simp only [F.vw, List.getElem_set_self]
theorem FamAt.again (F : FamAt V ids v h ws bs) (G : FamG ws' ids' bs') (e : view ws' ids' bs' = (view ws ids bs).set v.toNat x) : FamAt V ids' v x ws' bs' where
 ok := G.ok
 nd := G.nd
 lt := by
  have := congrArg List.length e
  rw [view_len G.ok, List.length_set, view_len F.ok] at this
  have := F.lt; omega
 vw := by rw [e, F.vw, List.set_set]
 len := G.len
end
theorem passH_same {s : List Int} {f g : Frame} {h : Held} (e : f.occ = g.occ) : passH s f h = passH s g h := by
 have ho : occAt f = occAt g := by funext x; unfold occAt; rw [e]
 have hg : ∀ (been : List Bool) (n q : Nat), goOn s f been n q = goOn s g been n q := fun been n => by
  induction n with
  | zero => intro q; rfl
  | succ n ih => intro q; unfold goOn; rw [ho, ih]
 unfold passH
 simp only [ho, hg]
def passB (s : List Int) (f : Frame) (h : Held) : List Bool := List.zipWith (fun b x => b || occAt f x) h.been s
theorem passH_eq (s : List Int) (f : Frame) (h : Held) : passH s f h = if goOn s f (passB s f h) s.length h.gone.toNat = s.length then idleN s.length else { h with been := passB s f h, gone := goOn s f (passB s f h) s.length h.gone.toNat } := rfl
def passI0 (s : List Int) (f : Frame) (V : List Held) (ids : List Nat) (j : Int) (ws : List Held) (bs : List (List Bool)) (k : Int) : Prop :=
 upI s.length (fun _ => false) k ∧ FamAt V ids j { nth V j with been := upBeen s f (nth V j).been k.toNat } ws bs
def passI1 (s : List Int) (f : Frame) (V : List Held) (ids : List Nat) (j : Int) (bs : List (List Bool)) (ws : List Held) : Prop :=
 ∃ g, goI s f (passB s f (nth V j)) (nth V j).gone g ∧ FamAt V ids j { nth V j with been := passB s f (nth V j), gone := g } ws bs
theorem stop_go {s : List Int} {f : Frame} {been : List Bool} {g : Int} (hs : s.length ≤ 1048576) (h : decide (g < (s.length : Int)) = true) :
  ((!(nth been g)) || ((nth f.occ (nth s g)) || ((decide (g < (IntKind.i64.wrap ((s.length : Int) - 1)))) && (!(nth been (IntKind.i64.wrap (g + 1))))))) = !goCond s f been g := by
 unfold goCond
 rw [h, Bool.true_and, w64 (n := (s.length : Int) - 1) (by omega) (by omega)]
 have : (g == (s.length : Int) - 1) = !decide (g < (s.length : Int) - 1) := by
  have h : g < (s.length : Int) := by simpa using h
  rw [Bool.eq_iff_iff]; simp; omega
 rw [this]
 cases nth been g <;> cases nth f.occ (nth s g) <;> cases decide (g < (s.length : Int) - 1) <;> cases nth been (IntKind.i64.wrap (g + 1)) <;> rfl
end Go.Proofs.Ytglpfccgmfhkdaa.Fw
/- What a right plan is, what a right frame is, told part by part. -/

set_option linter.unusedVariables false
namespace Go.Proofs.Ytglpfccgmfhkdaa.Fw
open Go
theorem first_none' {α : Type} {xs : List α} {q : α → Bool} (h : first xs q = none) : ∀ x ∈ xs, q x = false := by
 unfold first at h; rwa [List.findIdx?_eq_none_iff] at h
theorem planGood_parts {p : Plan} (h : planGood p = true) : planBase p = true ∧ (∀ s ∈ p.switches, inR s 0 (p.sections - 1) = true) ∧ (∀ w ∈ p.ways, wayGood p w = true) ∧ p.bars.length = p.ways.length ∧
  (∀ b ∈ p.bars, b.length = p.ways.length) ∧ ∀ i k : Nat, i < p.ways.length → k < p.ways.length → barBad p i k = false := by
 have hb := planGood_base h
 have h0 : planOk p = ⟨0, 0⟩ := by simpa [planGood] using h
 rw [planOk_s hb] at h0
 unfold planSw at h0
 split at h0
 ·cases h0
 rename_i h1
 unfold planWays at h0
 split at h0
 ·cases h0
 rename_i h2
 unfold planBars at h0
 split at h0
 ·rename_i h3
  split at h0
  ·cases h0
  rename_i h4
  split at h0
  ·cases h0
  rename_i h5
  refine ⟨hb, fun s hs => by simpa using first_none' h1 s hs, fun w hw => by simpa using first_none' h2 w hw, h3, fun b hq => by simpa using first_none' h4 b hq, fun i k hi hk => ?_⟩
  have := first_none' h5 i (List.mem_range.2 hi)
  rw [List.any_eq_false] at this
  simpa using this k (List.mem_range.2 hk)
 ·cases h0
def bar (p : Plan) (i k : Int) : Bool := nth (nth p.bars i) k
structure PlanBars (p : Plan) : Prop where
 len : p.bars.length = p.ways.length
 row : ∀ i : Int, 0 ≤ i → i < p.ways.length → (nth p.bars i).length = p.ways.length
 sym : ∀ i k : Int, 0 ≤ i → i < p.ways.length → 0 ≤ k → k < p.ways.length → bar p i k = bar p k i
 meet : ∀ i k : Int, 0 ≤ i → i < p.ways.length → 0 ≤ k → k < p.ways.length → i ≠ k → meets (nth p.ways i).sections (nth p.ways k).sections = true → bar p i k = true
theorem inR_lt {x n : Int} (h : inR x 0 (n - 1) = true) : 0 ≤ x ∧ x < n := by have := inR_true.1 h; omega
theorem listOk_in {l : List Int} {n : Int} (h : listOk l n = true) : l.length ≤ 30 ∧ ∀ x ∈ l, 0 ≤ x ∧ x < n := by
 have := listOk_iff.1 h
 exact ⟨this.1, fun x hx => inR_lt (this.2.1 x hx)⟩
theorem planGood_in {p : Plan} (h : planGood p = true) : PlanIn p := by
 obtain ⟨h1, h2, h3, h4, h5, h6⟩ := planGood_parts h
 have hb := planBase_iff.1 h1
 have hw : ∀ w ∈ p.ways, _ := fun w hw => wayGood_iff.1 (h3 w hw)
 refine ⟨by omega, hb.2.2.2, hb.2.2.1, fun w m => ⟨(hw w m).1, listOk_in (hw w m).2.1⟩, fun w m => listOk_in (hw w m).2.2.1, fun w m => listOk_in (hw w m).2.2.2.1, fun w m => ?_, fun x hx => inR_lt (h2 x hx)⟩
 have hl := liesIn_iff.1 (hw w m).2.2.2.2.1
 have hf := liesIn_iff.1 (hw w m).2.2.2.2.2.1
 refine ⟨hl.1, hf.1, fun x hx => ?_⟩
 rcases List.mem_append.1 hx with hx | hx
 ·have := hl.2.1 x hx
  rw [Bool.and_eq_true] at this; exact inR_lt this.1
 ·have := hf.2.1 x hx
  rw [Bool.and_eq_true] at this; exact inR_lt this.1
theorem planGood_bars {p : Plan} (h : planGood p = true) : PlanBars p := by
 obtain ⟨h1, h2, h3, h4, h5, h6⟩ := planGood_parts h
 have key : ∀ i k : Int, 0 ≤ i → i < p.ways.length → 0 ≤ k → k < p.ways.length → bar p i k = bar p k i ∧ (i ≠ k → meets (nth p.ways i).sections (nth p.ways k).sections = true → bar p i k = true) := fun i k i0 i1 k0 k1 => by
  have := h6 i.toNat k.toNat (by omega) (by omega)
  unfold barBad barAt at this
  rw [nth_toNat i0, nth_toNat k0, nth_toNat i0, nth_toNat k0, nth_toNat i0, nth_toNat k0] at this
  rw [Bool.or_eq_false_iff] at this
  refine ⟨by unfold bar; simpa using this.1, fun hne hm => ?_⟩
  have h2 := this.2
  rw [hm, Bool.and_true] at h2
  have hd : decide (i.toNat ≠ k.toNat) = true := by simpa using (show i.toNat ≠ k.toNat by omega)
  rw [hd] at h2
  unfold bar
  simpa using h2
 exact ⟨h4, fun i i0 i1 => h5 _ (nth_mem (by omega)), fun i k i0 i1 k0 k1 => (key i k i0 i1 k0 k1).1, fun i k i0 i1 k0 k1 => (key i k i0 i1 k0 k1).2⟩
def heldB1 (p : Plan) (f : Frame) (i : Int) : Bool := !((decide ((nth f.ways i).state < 0)) || ((decide ((nth f.ways i).state > 4)) || ((((nth f.ways i).been.length : Int) != ((nth p.ways i).sections.length : Int)) || ((decide ((nth f.ways i).gone < 0)) || (decide ((nth f.ways i).gone ≥ ((nth p.ways i).sections.length : Int)))))))
def heldB2 (f : Frame) (i : Int) : Bool := bif ((nth f.ways i).state != 4) then (!(((nth f.ways i).gone != 0) || (hasBool (nth f.ways i).been true))) else (!(hasBool ((nth f.ways i).been.take (nth f.ways i).gone.toNat) false))
def heldB3 (p : Plan) (f : Frame) (i : Int) : Bool := bif ((nth f.ways i).state == 3) then (!((decide ((nth f.ways i).timer < 1)) || (decide ((nth f.ways i).timer > p.hold)))) else (!((nth f.ways i).timer != 0))
def heldB4 (f : Frame) (i : Int) : Bool := bif ((nth f.ways i).state == 0) then (!(nth f.ways i).shown) else (!(bif ((nth f.ways i).state == 2) then ((nth f.ways i).state == 2) else ((nth f.ways i).state == 3)) || (!(!(nth f.ways i).shown)))
theorem heldOk_parts (p : Plan) (f : Frame) (i : Int) : heldOk p f i = (heldB1 p f i && (heldB2 f i && (heldB3 p f i && heldB4 f i))) := by
 unfold heldOk heldB1 heldB2 heldB3 heldB4
 simp only
 generalize nth f.ways i = h
 generalize (nth p.ways i).sections.length = n
 rcases h with ⟨s, g, b, d, t⟩
 have e1 : b.all (fun x => !x) = !hasBool b true := by
  cases h : hasBool b true with
  | true =>
   rw [List.all_eq_false.2 ⟨true, hasBool_iff.1 h, by simp⟩]; rfl
  | false =>
   rw [List.all_eq_true.2 fun x hx => by
    cases x with
    | false => rfl
    | true => rw [hasBool_iff.2 hx] at h; cases h]; rfl
 have e2 : (b.take g.toNat).all (fun x => x) = !hasBool (b.take g.toNat) false := by
  cases h : hasBool (b.take g.toNat) false with
  | true =>
   rw [List.all_eq_false.2 ⟨false, hasBool_iff.1 h, by simp⟩]; rfl
  | false =>
   rw [List.all_eq_true.2 fun x hx => by
    cases x with
    | true => rfl
    | false => rw [hasBool_iff.2 hx] at h; cases h]; rfl
 simp only
 rw [e1, e2]
 have r1 : inR s 0 4 = !((decide (s < 0)) || (decide (s > 4))) := by unfold inR; rw [Bool.eq_iff_iff]; simp
 have r2 : decide (b.length = n) = !((b.length : Int) != (n : Int)) := by rw [Bool.eq_iff_iff]; simp; omega
 have r3 : inR g 0 ((n : Int) - 1) = !((decide (g < 0)) || (decide (g ≥ (n : Int)))) := by unfold inR; rw [Bool.eq_iff_iff]; simp; omega
 have r4 : inR t 1 p.hold = !((decide (t < 1)) || (decide (t > p.hold))) := by unfold inR; rw [Bool.eq_iff_iff]; simp
 rw [r1, r2, r3, r4]
 generalize hasBool b true = B
 have hg : g = 0 → hasBool (b.take g.toNat) false = false := fun h => by subst h; rfl
 generalize hasBool (b.take g.toNat) false = C at hg
 generalize (decide (s < 0)) = x1
 generalize (decide (s > 4)) = x2
 generalize ((b.length : Int) != (n : Int)) = x3
 generalize (decide (g < 0)) = x4
 generalize (decide (g ≥ (n : Int))) = x5
 generalize (decide (t < 1)) = x6
 generalize (decide (t > p.hold)) = x7
 have hs : s = 0 ∨ s = 2 ∨ s = 3 ∨ s = 4 ∨ (s ≠ 0 ∧ s ≠ 2 ∧ s ≠ 3 ∧ s ≠ 4) := by omega
 have hd : decide (t = 0) = !(t != 0) := by rw [Bool.eq_iff_iff]; simp
 have hd2 : decide (g = 0) = !(g != 0) := by rw [Bool.eq_iff_iff]; simp
 rw [hd, hd2]
 cases hgz : (g != 0) with
 | false =>
  have : C = false := hg (by simpa using hgz)
  subst this
  generalize (t != 0) = x8
  rcases hs with rfl | rfl | rfl | rfl | ⟨h0, h2, h3, h4⟩
  ·cases B <;> cases d <;> simp [Bool.and_assoc]
  ·cases B <;> cases d <;> simp [Bool.and_assoc]
  ·cases B <;> cases d <;> simp [Bool.and_assoc]
  ·cases B <;> cases d <;> simp [Bool.and_assoc]
  ·have z0 : (s == 0) = false := by simpa using h0
   have z2 : (s == 2) = false := by simpa using h2
   have z3 : (s == 3) = false := by simpa using h3
   have z4 : (s != 4) = true := by simpa using h4
   rw [z0, z2, z3, z4]
   simp only [h0, h2, h3, h4, if_false, decide_false, decide_true, ne_eq, not_false_eq_true]
   cases B <;> cases d <;> simp [Bool.and_assoc]
 | true =>
  clear hg hgz
  generalize (t != 0) = x8
  rcases hs with rfl | rfl | rfl | rfl | ⟨h0, h2, h3, h4⟩
  ·cases B <;> cases C <;> cases d <;> simp [Bool.and_assoc]
  ·cases B <;> cases C <;> cases d <;> simp [Bool.and_assoc]
  ·cases B <;> cases C <;> cases d <;> simp [Bool.and_assoc]
  ·cases B <;> cases C <;> cases d <;> simp [Bool.and_assoc]
  ·have z0 : (s == 0) = false := by simpa using h0
   have z2 : (s == 2) = false := by simpa using h2
   have z3 : (s == 3) = false := by simpa using h3
   have z4 : (s != 4) = true := by simpa using h4
   rw [z0, z2, z3, z4]
   simp only [h0, h2, h3, h4, if_false, decide_false, decide_true, ne_eq, not_false_eq_true]
   cases B <;> cases C <;> cases d <;> simp [Bool.and_assoc]
def ptOk (x : Point) : Bool := inR x.want 1 2 && inR x.lies 0 2
def barHit (p : Plan) (f : Frame) (i k : Int) : Bool := (i != k) && (bar p i k && (((nth f.ways i).state != 0) && ((nth f.ways k).state != 0)))
def frBase (p : Plan) (f : Frame) : Bool := !((!(planGood p)) || ((!f.ok) || (((f.occ.length : Int) != p.sections) || (((f.points.length : Int) != (p.switches.length : Int)) || ((f.ways.length : Int) != (p.ways.length : Int))))))
theorem frBase_iff {p : Plan} {f : Frame} : frBase p f = true ↔ planGood p = true ∧ f.ok = true ∧ (f.occ.length : Int) = p.sections ∧ f.points.length = p.switches.length ∧ f.ways.length = p.ways.length := by
 unfold frBase
 simp only [Bool.not_eq_true', Bool.or_eq_false_iff, Bool.not_eq_false', bne_eq_false_iff_eq]
 constructor
 ·rintro ⟨a, b, c, d, e⟩; exact ⟨a, b, c, by omega, by omega⟩
 ·rintro ⟨a, b, c, d, e⟩; exact ⟨a, b, c, by omega, by omega⟩
theorem bars_iff {p : Plan} {f : Frame} : barsOk p f = true ↔ ∀ i k : Int, 0 ≤ i → i < f.ways.length → 0 ≤ k → k < f.ways.length → barHit p f i k = false := by
 unfold barsOk
 rw [List.all_eq_true]
 have key : ∀ i k : Nat, (decide (i = k) || !barAt p i k || decide ((nth f.ways i).state = 0) || decide ((nth f.ways k).state = 0)) = !barHit p f i k := fun i k => by
  unfold barHit bar barAt
  have e1 : decide (i = k) = !((i : Int) != (k : Int)) := by rw [Bool.eq_iff_iff]; simp; omega
  have e2 : ∀ x : Int, decide (x = 0) = !(x != 0) := fun x => by rw [Bool.eq_iff_iff]; simp
  rw [e1, e2, e2]
  cases ((i : Int) != (k : Int)) <;> cases nth (nth p.bars (i : Int)) (k : Int) <;> cases ((nth f.ways (i : Int)).state != 0) <;> cases ((nth f.ways (k : Int)).state != 0) <;> rfl
 constructor
 ·intro h i k i0 i1 k0 k1
  have h1 := h i.toNat (List.mem_range.2 (by omega))
  rw [List.all_eq_true] at h1
  have h2 := h1 k.toNat (List.mem_range.2 (by omega))
  rw [key, Int.toNat_of_nonneg i0, Int.toNat_of_nonneg k0] at h2
  simpa using h2
 ·intro h i hi
  rw [List.all_eq_true]
  intro k hk
  rw [key, h i k (by omega) (by have := List.mem_range.1 hi; omega) (by omega) (by have := List.mem_range.1 hk; omega)]; rfl
theorem frameOk_iff {p : Plan} {f : Frame} : frameOk p f = true ↔ frBase p f = true ∧ (∀ x ∈ f.points, ptOk x = true) ∧ (∀ i : Int, 0 ≤ i → i < f.ways.length → heldOk p f i = true) ∧
  (∀ i k : Int, 0 ≤ i → i < f.ways.length → 0 ≤ k → k < f.ways.length → barHit p f i k = false) ∧ f.ways = (settleF p f).ways := by
 unfold frameOk sameW
 rw [frBase_iff, ← bars_iff]
 simp only [Bool.and_eq_true, decide_eq_true_eq, List.all_eq_true, List.mem_range]
 constructor
 ·rintro ⟨⟨⟨⟨⟨⟨⟨⟨a, b⟩, c⟩, d⟩, e⟩, g⟩, h⟩, i⟩, j⟩
  refine ⟨⟨a, b, c, d, e⟩, fun x hx => by unfold ptOk; rw [Bool.and_eq_true]; exact g x hx, fun q q0 q1 => ?_, i, j⟩
  have := h q.toNat (by omega)
  rwa [Int.toNat_of_nonneg q0] at this
 ·rintro ⟨⟨a, b, c, d, e⟩, g, h, i, j⟩
  exact ⟨⟨⟨⟨⟨⟨⟨⟨a, b⟩, c⟩, d⟩, e⟩, fun x hx => by have := g x hx; unfold ptOk at this; rwa [Bool.and_eq_true] at this⟩, fun q hq => h q (by omega) (by omega)⟩, i⟩, j⟩
theorem frame_in {p : Plan} {f : Frame} (hb : frBase p f = true) (hh : ∀ i : Int, 0 ≤ i → i < f.ways.length → heldB1 p f i = true) : FrameIn p f := by
 obtain ⟨h1, h2, h3, h4, h5⟩ := frBase_iff.1 hb
 have key : ∀ i : Nat, i < f.ways.length → ((nth f.ways i).been.length : Int) = ((nth p.ways i).sections.length : Int) ∧ 0 ≤ (nth f.ways i).gone ∧ (nth f.ways i).gone < ((nth p.ways i).sections.length : Int) := fun i hi => by
  have := hh i (by omega) (by omega)
  unfold heldB1 at this
  simp only [Bool.not_eq_true', Bool.or_eq_false_iff, bne_eq_false_iff_eq, decide_eq_false_iff_not] at this
  exact ⟨this.2.2.1, by omega, by omega⟩
 refine ⟨h3, h4, h5, fun i h w e1 e2 => ?_, fun h hm => ?_⟩
 ·have hi := (List.getElem?_eq_some_iff.1 e1).1
  have hj := (List.getElem?_eq_some_iff.1 e2).1
  have := (key i hi).1
  rw [nth_nat hi, nth_nat hj, (List.getElem?_eq_some_iff.1 e1).2, (List.getElem?_eq_some_iff.1 e2).2] at this
  omega
 ·obtain ⟨i, hi, rfl⟩ := List.mem_iff_getElem.1 hm
  have := key i hi
  rw [nth_nat hi] at this
  omega
theorem barHit_sym {p : Plan} {f : Frame} {i k : Int} (hB : PlanBars p) (hl : f.ways.length = p.ways.length) (i0 : 0 ≤ i) (i1 : i < f.ways.length) (k0 : 0 ≤ k) (k1 : k < f.ways.length) : barHit p f i k = barHit p f k i := by
 unfold barHit
 rw [hB.sym i k i0 (by omega) k0 (by omega), show (i != k) = (k != i) by rw [Bool.eq_iff_iff]; simp; omega, Bool.and_comm ((nth f.ways i).state != 0)]
def rowHit (p : Plan) (f : Frame) (n : Nat) (i : Int) : Bool := (List.range n).any fun k => barHit p f i k
theorem ptBad (x : Point) : (bif (x.want != 1) then ((x.want != 2) || ((decide (x.lies < 0)) || (decide (x.lies > 2)))) else ((decide (x.lies < 0)) || (decide (x.lies > 2)))) = !ptOk x := by
 unfold ptOk inR
 by_cases h : x.want = 1
 ·rw [h, Bool.eq_iff_iff]; simp
 ·have : (x.want != 1) = true := by simpa using h
  rw [this, Bool.eq_iff_iff]; simp; omega
def smallH (h : Held) : Prop := h.been.length ≤ 1048576
def smallHs (w : List Held) : Prop := heldsN w ≤ 1048576
def smallFr (f : Frame) : Prop := frameN f ≤ 1048576
theorem left_of {n : Nat} {left : Int} (h0 : 0 ≤ left ∧ left ≤ 1048576) (h : (!decide (lessN n left < 0)) = true) : n ≤ 1048576 ∧ 0 ≤ lessN n left ∧ lessN n left ≤ 1048576 := by
 have h : ¬ lessN n left < 0 := by simpa using h
 have h2 := h
 rw [lessN_lt h0.1] at h2
 unfold lessN at h ⊢
 rw [if_neg h2] at h ⊢
 omega
theorem smallFr_F {f : Frame} (h : smallFr f) : smallF f := by
 have h : f.occ.length + f.points.length + (f.ways.length + (f.ways.map fun h => h.been.length).sum) ≤ 1048576 := h
 refine ⟨by omega, by omega, by omega, fun x hx => ?_⟩
 have := mem_sum (fun h : Held => h.been.length) hx
 omega
end Go.Proofs.Ytglpfccgmfhkdaa.Fw
/- Walks and summaries of functions, printed by a program of mine (tools/mk2.py), with the proofs of what they owe. -/

set_option linter.unusedVariables false
set_option maxRecDepth 100000
set_option maxHeartbeats 4000000
set_option linter.unusedSimpArgs false
namespace Go.Proofs.Ytglpfccgmfhkdaa.Fw
open Go
attribute [local irreducible] evS evSD WpS Weak Oper.looksAt
def laws_szIntS_C (a0 : (List Int)) (a1 : Int) (res : Int) : Prop :=
 a0.length ≤ 4611686018427387904 → ((decide ((IntKind.i64.wrap (a1 - (a0.length : Int))) < 0)) = true → (-1) = res) ∧ ((!(decide ((IntKind.i64.wrap (a1 - (a0.length : Int))) < 0))) = true → (IntKind.i64.wrap (a1 - (a0.length : Int))) = res)
theorem laws_szIntS_V (a0 : (List Int)) (a1 : Int) (hp : okL a0 a1) : FnV Try.prog 64 [al eInt a0, ai a1] (ai (szL a0 a1)) := (fun (h : laws_szIntS_C a0 a1 (szL a0 a1)) => FnV.run (ps := [(.l .int), .int]) (rs := [.int]) (x := (a0, a1, ())) (r := ((szL a0 a1), ())) ⟨12, ecs, []⟩ ⟨[], []⟩ .nil Try.func64 h) (by
 unfold laws_szIntS_C
 exact fun hn => sz_len hp hn)
def laws_szIntS_c : Ctr Try.prog := ⟨64, [(.l .int), .int], [.int], some fun x => okL x.1 x.2.1, fun x => ((szL x.1 x.2.1), ()), fun x h => laws_szIntS_V x.1 x.2.1 h⟩
def laws_szLieS_C (a0 : (List Lie)) (a1 : Int) (res : Int) : Prop :=
 a0.length ≤ 4611686018427387904 → ((decide ((IntKind.i64.wrap (a1 - (a0.length : Int))) < 0)) = true → (-1) = res) ∧ ((!(decide ((IntKind.i64.wrap (a1 - (a0.length : Int))) < 0))) = true → (IntKind.i64.wrap (a1 - (a0.length : Int))) = res)
theorem laws_szLieS_V (a0 : (List Lie)) (a1 : Int) (hp : okL a0 a1) : FnV Try.prog 159 [al eLie a0, ai a1] (ai (szL a0 a1)) := (fun (h : laws_szLieS_C a0 a1 (szL a0 a1)) => FnV.run (ps := [(.l .lie), .int]) (rs := [.int]) (x := (a0, a1, ())) (r := ((szL a0 a1), ())) ⟨12, ecs, []⟩ ⟨[], []⟩ .nil Try.func159 h) (by
 unfold laws_szLieS_C
 exact fun hn => sz_len hp hn)
def laws_szLieS_c : Ctr Try.prog := ⟨159, [(.l .lie), .int], [.int], some fun x => okL x.1 x.2.1, fun x => ((szL x.1 x.2.1), ()), fun x h => laws_szLieS_V x.1 x.2.1 h⟩
def laws_szWay_C1 (a0 : Way) (a1 res : Int) : Prop :=
  ((decide ((szL a0.over (szL a0.flanks (szL a0.lies (szL a0.sections a1)))) < 0)) = true → (-1) = res) ∧ ((!(decide ((szL a0.over (szL a0.flanks (szL a0.lies (szL a0.sections a1)))) < 0))) = true → (okL a0.near (szL a0.over (szL a0.flanks (szL a0.lies (szL a0.sections a1))))) ∧ (((decide ((szL a0.near (szL a0.over (szL a0.flanks (szL a0.lies (szL a0.sections a1))))) < 0)) = true → (-1) = res) ∧ ((!(decide ((szL a0.near (szL a0.over (szL a0.flanks (szL a0.lies (szL a0.sections a1))))) < 0))) = true → (szL a0.near (szL a0.over (szL a0.flanks (szL a0.lies (szL a0.sections a1))))) = res)))
def laws_szWay_C2 (a0 : Way) (a1 res : Int) : Prop :=
  ((decide ((szL a0.lies (szL a0.sections a1)) < 0)) = true → (-1) = res) ∧ ((!(decide ((szL a0.lies (szL a0.sections a1)) < 0))) = true → (okL a0.flanks (szL a0.lies (szL a0.sections a1))) ∧ (((decide ((szL a0.flanks (szL a0.lies (szL a0.sections a1))) < 0)) = true → (-1) = res) ∧ ((!(decide ((szL a0.flanks (szL a0.lies (szL a0.sections a1))) < 0))) = true → (okL a0.over (szL a0.flanks (szL a0.lies (szL a0.sections a1)))) ∧ (laws_szWay_C1 a0 a1 res))))
def laws_szWay_C (a0 : Way) (a1 : Int) (res : Int) : Prop :=
 (okL a0.sections a1) ∧ (((decide ((szL a0.sections a1) < 0)) = true → (-1) = res) ∧ ((!(decide ((szL a0.sections a1) < 0))) = true → (okL a0.lies (szL a0.sections a1)) ∧ (laws_szWay_C2 a0 a1 res)))
theorem laws_szWay_V (a0 : Way) (a1 : Int) (hp : okL a0 a1) : FnV Try.prog 125 [.agg (eWay false a0), ai a1] (ai (szWay a0 a1)) := (fun (h : laws_szWay_C a0 a1 (szWay a0 a1)) => FnV.run (ps := [.way, .int]) (rs := [.int]) (x := (a0, a1, ())) (r := ((szWay a0 a1), ())) ⟨36, ecs, [laws_szIntS_c, laws_szLieS_c]⟩ ⟨[], []⟩ .nil Try.func125 h) (by
 unfold laws_szWay_C laws_szWay_C2 laws_szWay_C1 szWay wayN szL
 have hp : 0 ≤ a1 ∧ a1 ≤ 1048576 := hp
 refine ⟨hp, sz_step (m := a0.lies.length + a0.flanks.length + a0.over.length + a0.near.length) hp (by omega) fun c k => ⟨k, ?_⟩⟩
 rw [lessN_plus hp.1 c]
 refine sz_step (m := a0.flanks.length + a0.over.length + a0.near.length) hp (by omega) fun c k => ⟨k, ?_⟩
 rw [lessN_plus hp.1 c]
 refine sz_step (m := a0.over.length + a0.near.length) hp (by omega) fun c k => ⟨k, ?_⟩
 rw [lessN_plus hp.1 c]
 refine sz_step (m := a0.near.length) hp (by omega) fun c k => ⟨k, ?_⟩
 rw [lessN_plus hp.1 c]
 exact sz_step (m := 0) hp (by omega) fun c k => rfl)
def laws_szWay_c : Ctr Try.prog := ⟨125, [.way, .int], [.int], some fun x => okL x.1 x.2.1, fun x => ((szWay x.1 x.2.1), ()), fun x h => laws_szWay_V x.1 x.2.1 h⟩
def laws_szWayS_C1 (I0 : Int → Int → Prop) (m0 : Int → Int → Nat) (a0 : (List Way)) (a1 res : Int) : Prop :=
  I0 (IntKind.i64.wrap (a1 - (a0.length : Int))) 0 ∧ ∀ (v1 : Int) (v5 : Int), I0 v1 v5 → (((decide (v5 < (a0.length : Int))) = false → v1 = res) ∧ ((decide (v5 < (a0.length : Int))) = true → (((0 ≤ v5 ∧ v5.toNat < a0.length) ∧ (okL (nth a0 v5) v1)) ∧ ((decide ((szWay (nth a0 v5) v1) < 0)) = true → (-1) = res)) ∧ ((!(decide ((szWay (nth a0 v5) v1) < 0))) = true → I0 (szWay (nth a0 v5) v1) (IntKind.i64.wrap (v5 + 1)) ∧ m0 (szWay (nth a0 v5) v1) (IntKind.i64.wrap (v5 + 1)) < m0 v1 v5)))
def laws_szWayS_C (a0 : (List Way)) (a1 : Int) (res : Int) (I0 : Int → Int → Prop) (m0 : Int → Int → Nat) : Prop :=
 a0.length ≤ 4611686018427387904 → ((decide ((IntKind.i64.wrap (a1 - (a0.length : Int))) < 0)) = true → (-1) = res) ∧ ((!(decide ((IntKind.i64.wrap (a1 - (a0.length : Int))) < 0))) = true → laws_szWayS_C1 I0 m0 a0 a1 res)
theorem laws_szWayS_V (a0 : (List Way)) (a1 : Int) (hp : okL a0 a1) : FnV Try.prog 65 [al (eWay false) a0, ai a1] (ai (szWays a0 a1)) := (fun (I0 : Int → Int → Prop) (m0 : Int → Int → Nat) (h : laws_szWayS_C a0 a1 (szWays a0 a1) I0 m0) => FnV.run (ps := [(.l .way), .int]) (rs := [.int]) (x := (a0, a1, ())) (r := ((szWays a0 a1), ())) ⟨27, ecs, [laws_szWay_c]⟩ ⟨[14], []⟩ (.lp [] [0] [] [.int, .int] [1, 5] (fun w0 => [(1, .i .i64 w0.1), (5, .i .i64 w0.2.1)]) (fun w0 => I0 w0.1 w0.2.1) (fun w0 => m0 w0.1 w0.2.1) fun _ => .nil) Try.func65 h) (sumI a0 wayN a1) (sumM a0) (by
 unfold laws_szWayS_C laws_szWayS_C1
 exact fun hn => sum_loop (g := szWay) (fun _ _ => rfl) hp hn)
def laws_szWayS_c : Ctr Try.prog := ⟨65, [(.l .way), .int], [.int], some fun x => okL x.1 x.2.1, fun x => ((szWays x.1 x.2.1), ()), fun x h => laws_szWayS_V x.1 x.2.1 h⟩
def laws_szBoolS_C (a0 : (List Bool)) (a1 : Int) (res : Int) : Prop :=
 a0.length ≤ 4611686018427387904 → ((decide ((IntKind.i64.wrap (a1 - (a0.length : Int))) < 0)) = true → (-1) = res) ∧ ((!(decide ((IntKind.i64.wrap (a1 - (a0.length : Int))) < 0))) = true → (IntKind.i64.wrap (a1 - (a0.length : Int))) = res)
theorem laws_szBoolS_V (a0 : (List Bool)) (a1 : Int) (hp : okL a0 a1) : FnV Try.prog 94 [al eBool a0, ai a1] (ai (szL a0 a1)) := (fun (h : laws_szBoolS_C a0 a1 (szL a0 a1)) => FnV.run (ps := [(.l .bool), .int]) (rs := [.int]) (x := (a0, a1, ())) (r := ((szL a0 a1), ())) ⟨12, ecs, []⟩ ⟨[], []⟩ .nil Try.func94 h) (by
 unfold laws_szBoolS_C
 exact fun hn => sz_len hp hn)
def laws_szBoolS_c : Ctr Try.prog := ⟨94, [(.l .bool), .int], [.int], some fun x => okL x.1 x.2.1, fun x => ((szL x.1 x.2.1), ()), fun x h => laws_szBoolS_V x.1 x.2.1 h⟩
def laws_szBoolSS_C1 (I0 : Int → Int → Prop) (m0 : Int → Int → Nat) (a0 : (List (List Bool))) (a1 res : Int) : Prop :=
  I0 (IntKind.i64.wrap (a1 - (a0.length : Int))) 0 ∧ ∀ (v1 : Int) (v5 : Int), I0 v1 v5 → (((decide (v5 < (a0.length : Int))) = false → v1 = res) ∧ ((decide (v5 < (a0.length : Int))) = true → (((0 ≤ v5 ∧ v5.toNat < a0.length) ∧ (okL (nth a0 v5) v1)) ∧ ((decide ((szL (nth a0 v5) v1) < 0)) = true → (-1) = res)) ∧ ((!(decide ((szL (nth a0 v5) v1) < 0))) = true → I0 (szL (nth a0 v5) v1) (IntKind.i64.wrap (v5 + 1)) ∧ m0 (szL (nth a0 v5) v1) (IntKind.i64.wrap (v5 + 1)) < m0 v1 v5)))
def laws_szBoolSS_C (a0 : (List (List Bool))) (a1 : Int) (res : Int) (I0 : Int → Int → Prop) (m0 : Int → Int → Nat) : Prop :=
 a0.length ≤ 4611686018427387904 → ((decide ((IntKind.i64.wrap (a1 - (a0.length : Int))) < 0)) = true → (-1) = res) ∧ ((!(decide ((IntKind.i64.wrap (a1 - (a0.length : Int))) < 0))) = true → laws_szBoolSS_C1 I0 m0 a0 a1 res)
theorem laws_szBoolSS_V (a0 : (List (List Bool))) (a1 : Int) (hp : okL a0 a1) : FnV Try.prog 66 [al (eL eBool false) a0, ai a1] (ai (szBars a0 a1)) := (fun (I0 : Int → Int → Prop) (m0 : Int → Int → Nat) (h : laws_szBoolSS_C a0 a1 (szBars a0 a1) I0 m0) => FnV.run (ps := [(.l (.l .bool)), .int]) (rs := [.int]) (x := (a0, a1, ())) (r := ((szBars a0 a1), ())) ⟨27, ecs, [laws_szBoolS_c]⟩ ⟨[14], []⟩ (.lp [] [0] [] [.int, .int] [1, 5] (fun w0 => [(1, .i .i64 w0.1), (5, .i .i64 w0.2.1)]) (fun w0 => I0 w0.1 w0.2.1) (fun w0 => m0 w0.1 w0.2.1) fun _ => .nil) Try.func66 h) (sumI a0 List.length a1) (sumM a0) (by
 unfold laws_szBoolSS_C laws_szBoolSS_C1
 exact fun hn => sum_loop (g := szL) (fun _ _ => rfl) hp hn)
def laws_szBoolSS_c : Ctr Try.prog := ⟨66, [(.l (.l .bool)), .int], [.int], some fun x => okL x.1 x.2.1, fun x => ((szBars x.1 x.2.1), ()), fun x h => laws_szBoolSS_V x.1 x.2.1 h⟩
def laws_szPlan_C1 (a0 : Plan) (a1 res : Int) : Prop :=
  ((decide ((szWays a0.ways (szL a0.switches a1)) < 0)) = true → (-1) = res) ∧ ((!(decide ((szWays a0.ways (szL a0.switches a1)) < 0))) = true → (okL a0.bars (szWays a0.ways (szL a0.switches a1))) ∧ (((decide ((szBars a0.bars (szWays a0.ways (szL a0.switches a1))) < 0)) = true → (-1) = res) ∧ ((!(decide ((szBars a0.bars (szWays a0.ways (szL a0.switches a1))) < 0))) = true → (szBars a0.bars (szWays a0.ways (szL a0.switches a1))) = res)))
def laws_szPlan_C (a0 : Plan) (a1 : Int) (res : Int) : Prop :=
 (okL a0.switches a1) ∧ (((decide ((szL a0.switches a1) < 0)) = true → (-1) = res) ∧ ((!(decide ((szL a0.switches a1) < 0))) = true → (okL a0.ways (szL a0.switches a1)) ∧ (laws_szPlan_C1 a0 a1 res)))
theorem laws_szPlan_V (a0 : Plan) (a1 : Int) (hp : okL a0 a1) : FnV Try.prog 23 [.agg (ePlan false a0), ai a1] (ai (szPlan a0 a1)) := (fun (h : laws_szPlan_C a0 a1 (szPlan a0 a1)) => FnV.run (ps := [.plan, .int]) (rs := [.int]) (x := (a0, a1, ())) (r := ((szPlan a0 a1), ())) ⟨24, ecs, [laws_szIntS_c, laws_szWayS_c, laws_szBoolSS_c]⟩ ⟨[], []⟩ .nil Try.func23 h) (by
 unfold laws_szPlan_C laws_szPlan_C1 szPlan planN szL szWays szBars
 have hp : 0 ≤ a1 ∧ a1 ≤ 1048576 := hp
 refine ⟨hp, sz_step (m := waysN a0.ways + barsN a0.bars) hp (by omega) fun c k => ⟨k, ?_⟩⟩
 rw [lessN_plus hp.1 c]
 refine sz_step (m := barsN a0.bars) hp (by omega) fun c k => ⟨k, ?_⟩
 rw [lessN_plus hp.1 c]
 exact sz_step (m := 0) hp (by omega) fun c k => rfl)
def laws_szPlan_c : Ctr Try.prog := ⟨23, [.plan, .int], [.int], some fun x => okL x.1 x.2.1, fun x => ((szPlan x.1 x.2.1), ()), fun x h => laws_szPlan_V x.1 x.2.1 h⟩
def spec_l1in_C (a0 : Int) (a1 : Int) (a2 : Int) (res : Bool) : Prop :=
 ((decide (a0 ≥ a1)) && (decide (a0 ≤ a2))) = res
theorem spec_l1in_V (a0 : Int) (a1 : Int) (a2 : Int) : FnV Try.prog 67 [ai a0, ai a1, ai a2] (ab (inR a0 a1 a2)) := (fun (h : spec_l1in_C a0 a1 a2 (inR a0 a1 a2)) => FnV.run (ps := [.int, .int, .int]) (rs := [.bool]) (x := (a0, a1, a2, ())) (r := ((inR a0 a1 a2), ())) ⟨15, ecs, []⟩ ⟨[], []⟩ .nil Try.func67 h) (by
 rfl)
def spec_l1in_c : Ctr Try.prog := ⟨67, [.int, .int, .int], [.bool], none, fun x => ((inR x.1 x.2.1 x.2.2.1), ()), fun x h => spec_l1in_V x.1 x.2.1 x.2.2.1⟩
def spec_l1meet_C1 (I0 : Int → Prop) (m0 : Int → Nat) (I1 : Int → Int → Prop) (m1 : Int → Int → Nat) (a0 a1 : (List Int)) (res : Bool) (v11 : Int) : Prop :=
  I1 v11 0 ∧ ∀ (v17 : Int), I1 v11 v17 → (((decide (v17 < (a1.length : Int))) = false → I0 (IntKind.i64.wrap (v11 + 1)) ∧ m0 (IntKind.i64.wrap (v11 + 1)) < m0 v11) ∧ ((decide (v17 < (a1.length : Int))) = true → ((0 ≤ v17 ∧ v17.toNat < a1.length) ∧ (((nth a0 v11) == (nth a1 v17)) = true → true = res)) ∧ ((!((nth a0 v11) == (nth a1 v17))) = true → I1 v11 (IntKind.i64.wrap (v17 + 1)) ∧ m1 v11 (IntKind.i64.wrap (v17 + 1)) < m1 v11 v17)))
def spec_l1meet_C (a0 : (List Int)) (a1 : (List Int)) (res : Bool) (I0 : Int → Prop) (m0 : Int → Nat) (I1 : Int → Int → Prop) (m1 : Int → Int → Nat) : Prop :=
 a0.length ≤ 4611686018427387904 → I0 0 ∧ ∀ (v11 : Int), I0 v11 → (((decide (v11 < (a0.length : Int))) = false → false = res) ∧ ((decide (v11 < (a0.length : Int))) = true → (0 ≤ v11 ∧ v11.toNat < a0.length) ∧ (a1.length ≤ 4611686018427387904 → spec_l1meet_C1 I0 m0 I1 m1 a0 a1 res v11)))
theorem spec_l1meet_V (a0 : (List Int)) (a1 : (List Int)) : FnV Try.prog 69 [al eInt a0, al eInt a1] (ab (meets a0 a1)) := (fun (I0 : Int → Prop) (m0 : Int → Nat) (I1 : Int → Int → Prop) (m1 : Int → Int → Nat) (h : spec_l1meet_C a0 a1 (meets a0 a1) I0 m0 I1 m1) => FnV.run (ps := [(.l .int), (.l .int)]) (rs := [.bool]) (x := (a0, a1, ())) (r := ((meets a0 a1), ())) ⟨26, ecs, []⟩ ⟨[], []⟩ (lp1 [1, 9, 10] [] 11 I0 m0 fun w0 => (lp1 [1, 6, 9, 10, 11, 15, 16] [] 17 (I1 w0) (m1 w0) fun _ => .nil)) Try.func69 h) (upI a0.length (fun j => hasInt a1 (nth a0 j))) (upM a0.length) (fun v => upI a1.length (fun k => nth a0 v == nth a1 k)) (fun v => upM a1.length) (by
 unfold spec_l1meet_C spec_l1meet_C1
 intro hn
 refine ⟨up_start (len0 _), fun v hI => ⟨fun hv => ?_, fun hv => ⟨up_in hI hv, fun hm => ⟨up_start (len0 _), fun k hK => ⟨fun hk => ?_, fun hk => ⟨⟨up_in hK hk, fun hp => ?_⟩, fun hp => up_step (lenI hm) hK hk (not_eq hp)⟩⟩⟩⟩⟩⟩
 ·exact (up_nany (q := fun x => hasInt a1 x) hI hv).symm
 ·exact up_step (lenI hn) hI hv (has_false (up_end hK hk))
 ·exact (up_any (q := fun x => hasInt a1 x) hI hv (has_true (up_in hK hk).2 hp)).symm)
def spec_l1meet_c : Ctr Try.prog := ⟨69, [(.l .int), (.l .int)], [.bool], none, fun x => ((meets x.1 x.2.1), ()), fun x h => spec_l1meet_V x.1 x.2.1⟩
def laws_toIntS_C1 (I0 : (List Int) → Int → Prop) (m0 : (List Int) → Int → Nat) (a0 res : (List Int)) : Prop :=
  I0 (List.replicate (a0.length : Int).toNat (0 : Int)) 0 ∧ ∀ (x0 : (List Int)) (v4 : Int), I0 x0 v4 → (((decide (v4 < (a0.length : Int))) = false → x0.length ≤ 4611686018427387904 ∧ x0 = res) ∧ ((decide (v4 < (a0.length : Int))) = true → ((0 ≤ v4 ∧ v4.toNat < a0.length) ∧ ((0 ≤ v4 ∧ v4.toNat < x0.length) ∧ (v4.toNat < x0.length))) ∧ (I0 (x0.set v4.toNat (nth a0 v4)) (IntKind.i64.wrap (v4 + 1)) ∧ m0 (x0.set v4.toNat (nth a0 v4)) (IntKind.i64.wrap (v4 + 1)) < m0 x0 v4)))
def laws_toIntS_C (a0 : (List Int)) (res : (List Int)) (I0 : (List Int) → Int → Prop) (m0 : (List Int) → Int → Nat) : Prop :=
 (a0.length ≤ 4611686018427387904 → 0 ≤ (a0.length : Int) ∧ 8 * (a0.length : Int) ≤ 140737488355328 ∧ (a0.length : Int) ≤ 4611686018427387904) ∧ (a0.length ≤ 4611686018427387904 → laws_toIntS_C1 I0 m0 a0 res)
theorem laws_toIntS_V (a0 : (List Int)) (hp : small a0) : FnV Try.prog 70 [al eInt a0] (af eInt (idt a0)) := (fun (I0 : (List Int) → Int → Prop) (m0 : (List Int) → Int → Nat) (h : laws_toIntS_C a0 (idt a0) I0 m0) => FnV.run (ps := [(.l .int)]) (rs := [(.l .int)]) (x := (a0, ())) (r := ((idt a0), ())) ⟨22, ecs, []⟩ ⟨[10], []⟩ (.lp [] [0] [] [(.l .int), .int] [kb 0, 4] (fun w0 => [(3, .ref 0 0 w0.1.length false), (4, .i .i64 w0.2.1), (kb 0, .blk 0 .int w0.1 _ rfl)]) (fun w0 => I0 w0.1 w0.2.1) (fun w0 => m0 w0.1 w0.2.1) fun _ => .nil) Try.func70 h) (fillI a0 (fun x => x) (0 : Int)) (fillM a0) (by
 unfold laws_toIntS_C laws_toIntS_C1
 have hp : a0.length ≤ 1048576 := hp
 exact ⟨fun hn => ⟨len0 _, by omega, by omega⟩, fun hn => fill_loop0 (f := fun x => x) hn (by simp [idt])⟩)
def laws_toIntS_c : Ctr Try.prog := ⟨70, [(.l .int)], [(.l .int)], some fun x => small x.1, fun x => ((idt x.1), ()), fun x h => laws_toIntS_V x.1 h⟩
def laws_toLie_C (a0 : Lie) (res : Lie) : Prop :=
 (a0.sw = res.sw) ∧ (a0.lie = res.lie)
theorem laws_toLie_V (a0 : Lie) : FnV Try.prog 168 [.agg (eLie a0)] (.agg (eLie (idt a0))) := (fun (h : laws_toLie_C a0 (idt a0)) => FnV.run (ps := [.lie]) (rs := [.lie]) (x := (a0, ())) (r := ((idt a0), ())) ⟨11, ecs, []⟩ ⟨[], []⟩ .nil Try.func168 h) (by
 exact ⟨rfl, rfl⟩)
def laws_toLie_c : Ctr Try.prog := ⟨168, [.lie], [.lie], none, fun x => ((idt x.1), ()), fun x h => laws_toLie_V x.1⟩
def laws_toLieS_C1 (I0 : (List Lie) → Int → Prop) (m0 : (List Lie) → Int → Nat) (a0 res : (List Lie)) : Prop :=
  I0 (List.replicate (a0.length : Int).toNat ({ sw := (0 : Int), lie := (0 : Int) } : Lie)) 0 ∧ ∀ (x0 : (List Lie)) (v4 : Int), I0 x0 v4 → (((decide (v4 < (a0.length : Int))) = false → x0.length ≤ 4611686018427387904 ∧ x0 = res) ∧ ((decide (v4 < (a0.length : Int))) = true → ((0 ≤ v4 ∧ v4.toNat < a0.length) ∧ ((0 ≤ v4 ∧ v4.toNat < x0.length) ∧ (v4.toNat < x0.length))) ∧ (I0 (x0.set v4.toNat (idt (nth a0 v4))) (IntKind.i64.wrap (v4 + 1)) ∧ m0 (x0.set v4.toNat (idt (nth a0 v4))) (IntKind.i64.wrap (v4 + 1)) < m0 x0 v4)))
def laws_toLieS_C (a0 : (List Lie)) (res : (List Lie)) (I0 : (List Lie) → Int → Prop) (m0 : (List Lie) → Int → Nat) : Prop :=
 (a0.length ≤ 4611686018427387904 → 0 ≤ (a0.length : Int) ∧ 16 * (a0.length : Int) ≤ 140737488355328 ∧ (a0.length : Int) ≤ 4611686018427387904) ∧ (a0.length ≤ 4611686018427387904 → laws_toLieS_C1 I0 m0 a0 res)
theorem laws_toLieS_V (a0 : (List Lie)) (hp : small a0) : FnV Try.prog 160 [al eLie a0] (af eLie (idt a0)) := (fun (I0 : (List Lie) → Int → Prop) (m0 : (List Lie) → Int → Nat) (h : laws_toLieS_C a0 (idt a0) I0 m0) => FnV.run (ps := [(.l .lie)]) (rs := [(.l .lie)]) (x := (a0, ())) (r := ((idt a0), ())) ⟨23, ecs, [laws_toLie_c]⟩ ⟨[10], []⟩ (.lp [] [0] [] [(.l .lie), .int] [kb 0, 4] (fun w0 => [(3, .ref 0 0 w0.1.length false), (4, .i .i64 w0.2.1), (kb 0, .blk 0 .lie w0.1 _ rfl)]) (fun w0 => I0 w0.1 w0.2.1) (fun w0 => m0 w0.1 w0.2.1) fun _ => .nil) Try.func160 h) (fillI a0 (idt) ({ sw := (0 : Int), lie := (0 : Int) } : Lie)) (fillM a0) (by
 unfold laws_toLieS_C laws_toLieS_C1
 have hp : a0.length ≤ 1048576 := hp
 exact ⟨fun hn => ⟨len0 _, by omega, by omega⟩, fun hn => fill_loop0 (f := idt) hn (map_idt _)⟩)
def laws_toLieS_c : Ctr Try.prog := ⟨160, [(.l .lie)], [(.l .lie)], some fun x => small x.1, fun x => ((idt x.1), ()), fun x h => laws_toLieS_V x.1 h⟩
def laws_toWay_C (a0 : Way) (res : Way) : Prop :=
 (small a0.sections) ∧ ((small a0.lies) ∧ ((small a0.flanks) ∧ ((small a0.over) ∧ ((small a0.near) ∧ (((idt a0.sections) = res.sections) ∧ ((idt a0.lies) = res.lies) ∧ ((idt a0.flanks) = res.flanks) ∧ ((idt a0.over) = res.over) ∧ ((idt a0.near) = res.near))))))
theorem laws_toWay_V (a0 : Way) (hp : smallWay a0) : FnV Try.prog 128 [.agg (eWay false a0)] (.agg (eWay true (idt a0))) := (fun (h : laws_toWay_C a0 (idt a0)) => FnV.run (ps := [.way]) (rs := [.way]) (x := (a0, ())) (r := ((idt a0), ())) ⟨25, ecs, [laws_toIntS_c, laws_toLieS_c]⟩ ⟨[], []⟩ .nil Try.func128 h) (by
 have hp : a0.sections.length + a0.lies.length + a0.flanks.length + a0.over.length + a0.near.length ≤ 1048576 := hp
 unfold laws_toWay_C small
 exact ⟨by omega, by omega, by omega, by omega, by omega, rfl, rfl, rfl, rfl, rfl⟩)
def laws_toWay_c : Ctr Try.prog := ⟨128, [.way], [.way], some fun x => smallWay x.1, fun x => ((idt x.1), ()), fun x h => laws_toWay_V x.1 h⟩
def laws_toWayS_C1 (I0 : (List Way) → Int → Prop) (m0 : (List Way) → Int → Nat) (a0 res x0 : (List Way)) (v4 : Int) : Prop :=
  ((decide (v4 < (a0.length : Int))) = false → x0.length ≤ 4611686018427387904 ∧ x0 = res) ∧ ((decide (v4 < (a0.length : Int))) = true → ((0 ≤ v4 ∧ v4.toNat < a0.length) ∧ ((smallWay (nth a0 v4)) ∧ ((0 ≤ v4 ∧ v4.toNat < x0.length) ∧ (v4.toNat < x0.length)))) ∧ (I0 (x0.set v4.toNat (idt (nth a0 v4))) (IntKind.i64.wrap (v4 + 1)) ∧ m0 (x0.set v4.toNat (idt (nth a0 v4))) (IntKind.i64.wrap (v4 + 1)) < m0 x0 v4))
def laws_toWayS_C2 (I0 : (List Way) → Int → Prop) (m0 : (List Way) → Int → Nat) (a0 res : (List Way)) : Prop :=
  (a0.length ≤ 4611686018427387904 → 0 ≤ (a0.length : Int) ∧ 120 * (a0.length : Int) ≤ 140737488355328 ∧ (a0.length : Int) ≤ 4611686018427387904) ∧ (a0.length ≤ 4611686018427387904 → I0 (List.replicate (a0.length : Int).toNat ({ sections := ([] : (List Int)), lies := ([] : (List Lie)), flanks := ([] : (List Lie)), over := ([] : (List Int)), near := ([] : (List Int)) } : Way)) 0 ∧ ∀ (x0 : (List Way)) (v4 : Int), I0 x0 v4 → (laws_toWayS_C1 I0 m0 a0 res x0 v4))
def laws_toWayS_C (a0 : (List Way)) (res : (List Way)) (I0 : (List Way) → Int → Prop) (m0 : (List Way) → Int → Nat) : Prop :=
 laws_toWayS_C2 I0 m0 a0 res
theorem laws_toWayS_V (a0 : (List Way)) (hp : smallWays a0) : FnV Try.prog 71 [al (eWay false) a0] (af (eWay false) (idt a0)) := (fun (I0 : (List Way) → Int → Prop) (m0 : (List Way) → Int → Nat) (h : laws_toWayS_C a0 (idt a0) I0 m0) => FnV.run (ps := [(.l .way)]) (rs := [(.l .way)]) (x := (a0, ())) (r := ((idt a0), ())) ⟨23, ecs, [laws_toWay_c]⟩ ⟨[10], []⟩ (.lp [] [0] [] [(.l .way), .int] [kb 0, 4] (fun w0 => [(3, .ref 0 0 w0.1.length false), (4, .i .i64 w0.2.1), (kb 0, .blk 0 .way w0.1 _ rfl)]) (fun w0 => I0 w0.1 w0.2.1) (fun w0 => m0 w0.1 w0.2.1) fun _ => .nil) Try.func71 h) (fillI a0 idt ({ sections := ([] : (List Int)), lies := ([] : (List Lie)), flanks := ([] : (List Lie)), over := ([] : (List Int)), near := ([] : (List Int)) } : Way)) (fillM a0) (by
 unfold laws_toWayS_C laws_toWayS_C2 laws_toWayS_C1
 have hp : a0.length + (a0.map wayN).sum ≤ 1048576 := hp
 refine ⟨fun hn => ⟨len0 _, by omega, by omega⟩, fun hn => fill_loop (f := idt) (φ := fun v => smallWay (nth a0 v)) hn (map_idt _) fun v _ hv => ?_⟩
 have := mem_sum wayN (nth_mem hv)
 unfold smallWay; omega)
def laws_toWayS_c : Ctr Try.prog := ⟨71, [(.l .way)], [(.l .way)], some fun x => smallWays x.1, fun x => ((idt x.1), ()), fun x h => laws_toWayS_V x.1 h⟩
def laws_toBoolS_C1 (I0 : (List Bool) → Int → Prop) (m0 : (List Bool) → Int → Nat) (a0 res : (List Bool)) : Prop :=
  I0 (List.replicate (a0.length : Int).toNat false) 0 ∧ ∀ (x0 : (List Bool)) (v4 : Int), I0 x0 v4 → (((decide (v4 < (a0.length : Int))) = false → x0.length ≤ 4611686018427387904 ∧ x0 = res) ∧ ((decide (v4 < (a0.length : Int))) = true → ((0 ≤ v4 ∧ v4.toNat < a0.length) ∧ ((0 ≤ v4 ∧ v4.toNat < x0.length) ∧ (v4.toNat < x0.length))) ∧ (I0 (x0.set v4.toNat (nth a0 v4)) (IntKind.i64.wrap (v4 + 1)) ∧ m0 (x0.set v4.toNat (nth a0 v4)) (IntKind.i64.wrap (v4 + 1)) < m0 x0 v4)))
def laws_toBoolS_C (a0 : (List Bool)) (res : (List Bool)) (I0 : (List Bool) → Int → Prop) (m0 : (List Bool) → Int → Nat) : Prop :=
 (a0.length ≤ 4611686018427387904 → 0 ≤ (a0.length : Int) ∧ 1 * (a0.length : Int) ≤ 140737488355328 ∧ (a0.length : Int) ≤ 4611686018427387904) ∧ (a0.length ≤ 4611686018427387904 → laws_toBoolS_C1 I0 m0 a0 res)
theorem laws_toBoolS_V (a0 : (List Bool)) (hp : small a0) : FnV Try.prog 100 [al eBool a0] (af eBool (idt a0)) := (fun (I0 : (List Bool) → Int → Prop) (m0 : (List Bool) → Int → Nat) (h : laws_toBoolS_C a0 (idt a0) I0 m0) => FnV.run (ps := [(.l .bool)]) (rs := [(.l .bool)]) (x := (a0, ())) (r := ((idt a0), ())) ⟨22, ecs, []⟩ ⟨[10], []⟩ (.lp [] [0] [] [(.l .bool), .int] [kb 0, 4] (fun w0 => [(3, .ref 0 0 w0.1.length false), (4, .i .i64 w0.2.1), (kb 0, .blk 0 .bool w0.1 _ rfl)]) (fun w0 => I0 w0.1 w0.2.1) (fun w0 => m0 w0.1 w0.2.1) fun _ => .nil) Try.func100 h) (fillI a0 (fun x => x) false) (fillM a0) (by
 unfold laws_toBoolS_C laws_toBoolS_C1
 have hp : a0.length ≤ 1048576 := hp
 exact ⟨fun hn => ⟨len0 _, by omega, by omega⟩, fun hn => fill_loop0 (f := fun x => x) hn (by simp [idt])⟩)
def laws_toBoolS_c : Ctr Try.prog := ⟨100, [(.l .bool)], [(.l .bool)], some fun x => small x.1, fun x => ((idt x.1), ()), fun x h => laws_toBoolS_V x.1 h⟩
def laws_toBoolSS_C1 (I0 : (List (List Bool)) → Int → Prop) (m0 : (List (List Bool)) → Int → Nat) (a0 res x0 : (List (List Bool))) (v4 : Int) : Prop :=
  ((decide (v4 < (a0.length : Int))) = false → x0.length ≤ 4611686018427387904 ∧ x0 = res) ∧ ((decide (v4 < (a0.length : Int))) = true → ((0 ≤ v4 ∧ v4.toNat < a0.length) ∧ ((small (nth a0 v4)) ∧ ((0 ≤ v4 ∧ v4.toNat < x0.length) ∧ (v4.toNat < x0.length)))) ∧ (I0 (x0.set v4.toNat (idt (nth a0 v4))) (IntKind.i64.wrap (v4 + 1)) ∧ m0 (x0.set v4.toNat (idt (nth a0 v4))) (IntKind.i64.wrap (v4 + 1)) < m0 x0 v4))
def laws_toBoolSS_C (a0 : (List (List Bool))) (res : (List (List Bool))) (I0 : (List (List Bool)) → Int → Prop) (m0 : (List (List Bool)) → Int → Nat) : Prop :=
 (a0.length ≤ 4611686018427387904 → 0 ≤ (a0.length : Int) ∧ 24 * (a0.length : Int) ≤ 140737488355328 ∧ (a0.length : Int) ≤ 4611686018427387904) ∧ (a0.length ≤ 4611686018427387904 → I0 (List.replicate (a0.length : Int).toNat ([] : (List Bool))) 0 ∧ ∀ (x0 : (List (List Bool))) (v4 : Int), I0 x0 v4 → (laws_toBoolSS_C1 I0 m0 a0 res x0 v4))
theorem laws_toBoolSS_V (a0 : (List (List Bool))) (hp : smallBars a0) : FnV Try.prog 72 [al (eL eBool false) a0] (af (eL eBool false) (idt a0)) := (fun (I0 : (List (List Bool)) → Int → Prop) (m0 : (List (List Bool)) → Int → Nat) (h : laws_toBoolSS_C a0 (idt a0) I0 m0) => FnV.run (ps := [(.l (.l .bool))]) (rs := [(.l (.l .bool))]) (x := (a0, ())) (r := ((idt a0), ())) ⟨23, ecs, [laws_toBoolS_c]⟩ ⟨[10], []⟩ (.lp [] [0] [] [(.l (.l .bool)), .int] [kb 0, 4] (fun w0 => [(3, .ref 0 0 w0.1.length false), (4, .i .i64 w0.2.1), (kb 0, .blk 0 (.l .bool) w0.1 _ rfl)]) (fun w0 => I0 w0.1 w0.2.1) (fun w0 => m0 w0.1 w0.2.1) fun _ => .nil) Try.func72 h) (fillI a0 idt ([] : (List Bool))) (fillM a0) (by
 unfold laws_toBoolSS_C laws_toBoolSS_C1
 have hp : a0.length + (a0.map List.length).sum ≤ 1048576 := hp
 refine ⟨fun hn => ⟨len0 _, by omega, by omega⟩, fun hn => fill_loop (f := idt) (φ := fun v => small (nth a0 v)) hn (map_idt _) fun v _ hv => ?_⟩
 have := mem_sum List.length (nth_mem hv)
 unfold small; omega)
def laws_toBoolSS_c : Ctr Try.prog := ⟨72, [(.l (.l .bool))], [(.l (.l .bool))], some fun x => smallBars x.1, fun x => ((idt x.1), ()), fun x h => laws_toBoolSS_V x.1 h⟩
def laws_toPlan_C (a0 : Plan) (res : Plan) : Prop :=
 (small a0.switches) ∧ ((smallWays a0.ways) ∧ ((smallBars a0.bars) ∧ ((a0.sections = res.sections) ∧ ((idt a0.switches) = res.switches) ∧ ((idt a0.ways) = res.ways) ∧ ((idt a0.bars) = res.bars) ∧ (a0.hold = res.hold))))
theorem laws_toPlan_V (a0 : Plan) (hp : smallPlan a0) : FnV Try.prog 25 [.agg (ePlan false a0)] (.agg (ePlan true (idt a0))) := (fun (h : laws_toPlan_C a0 (idt a0)) => FnV.run (ps := [.plan]) (rs := [.plan]) (x := (a0, ())) (r := ((idt a0), ())) ⟨23, ecs, [laws_toIntS_c, laws_toWayS_c, laws_toBoolSS_c]⟩ ⟨[], []⟩ .nil Try.func25 h) (by
 have hp : a0.switches.length + waysN a0.ways + barsN a0.bars ≤ 1048576 := hp
 unfold laws_toPlan_C small smallWays smallBars
 exact ⟨by omega, by omega, by omega, rfl, rfl, rfl, rfl, rfl⟩)
def laws_toPlan_c : Ctr Try.prog := ⟨25, [.plan], [.plan], some fun x => smallPlan x.1, fun x => ((idt x.1), ()), fun x h => laws_toPlan_V x.1 h⟩
def slices_Index_int_C (a0 : (List Int)) (a1 : Int) (res : Int) (I0 : Int → Prop) (m0 : Int → Nat) : Prop :=
 a0.length ≤ 4611686018427387904 → I0 0 ∧ ∀ (v8 : Int), I0 v8 → (((decide (v8 < (a0.length : Int))) = false → (-1) = res) ∧ ((decide (v8 < (a0.length : Int))) = true → ((0 ≤ v8 ∧ v8.toNat < a0.length) ∧ ((a1 == (nth a0 v8)) = true → v8 = res)) ∧ ((!(a1 == (nth a0 v8))) = true → I0 (IntKind.i64.wrap (v8 + 1)) ∧ m0 (IntKind.i64.wrap (v8 + 1)) < m0 v8)))
theorem slices_Index_int_V (a0 : (List Int)) (a1 : Int) : FnV Try.prog 161 [al eInt a0, ai a1] (ai (idxInt a0 a1)) := (fun (I0 : Int → Prop) (m0 : Int → Nat) (h : slices_Index_int_C a0 a1 (idxInt a0 a1) I0 m0) => FnV.run (ps := [(.l .int), .int]) (rs := [.int]) (x := (a0, a1, ())) (r := ((idxInt a0 a1), ())) ⟨19, ecs, []⟩ ⟨[], []⟩ (lp1 [0, 1, 7] [] 8 I0 m0 fun _ => .nil) Try.func161 h) (upI a0.length (fun j => a1 == nth a0 j)) (upM a0.length) (by
 unfold slices_Index_int_C
 intro hn
 refine ⟨up_start (len0 _), fun v hI => ⟨fun hv => ?_, fun hv => ⟨⟨up_in hI hv, fun hp => ?_⟩, fun hp => up_step (lenI hn) hI hv (not_eq hp)⟩⟩⟩
 ·unfold idxInt; rw [up_none (q := fun x => a1 == x) hI hv]; rfl
 ·unfold idxInt; rw [up_first (q := fun x => a1 == x) hI hv hp]
  have := hI.1
  show v = (v.toNat : Int)
  omega)
def slices_Index_int_c : Ctr Try.prog := ⟨161, [(.l .int), .int], [.int], none, fun x => ((idxInt x.1 x.2.1), ()), fun x h => slices_Index_int_V x.1 x.2.1⟩
def slices_Contains_int_C (a0 : (List Int)) (a1 : Int) (res : Bool) : Prop :=
 (decide ((idxInt a0 a1) ≥ 0)) = res
theorem slices_Contains_int_V (a0 : (List Int)) (a1 : Int) : FnV Try.prog 130 [al eInt a0, ai a1] (ab (hasInt a0 a1)) := (fun (h : slices_Contains_int_C a0 a1 (hasInt a0 a1)) => FnV.run (ps := [(.l .int), .int]) (rs := [.bool]) (x := (a0, a1, ())) (r := ((hasInt a0 a1), ())) ⟨9, ecs, [slices_Index_int_c]⟩ ⟨[], []⟩ .nil Try.func130 h) (by
 unfold slices_Contains_int_C
 exact idxInt_has a0 a1)
def slices_Contains_int_c : Ctr Try.prog := ⟨130, [(.l .int), .int], [.bool], none, fun x => ((hasInt x.1 x.2.1), ()), fun x h => slices_Contains_int_V x.1 x.2.1⟩
def impl_meet_C (a0 : (List Int)) (a1 : (List Int)) (res : Bool) (I0 : Int → Prop) (m0 : Int → Nat) : Prop :=
 a0.length ≤ 4611686018427387904 → I0 0 ∧ ∀ (v9 : Int), I0 v9 → (((decide (v9 < (a0.length : Int))) = false → false = res) ∧ ((decide (v9 < (a0.length : Int))) = true → ((0 ≤ v9 ∧ v9.toNat < a0.length) ∧ ((hasInt a1 (nth a0 v9)) = true → true = res)) ∧ ((!(hasInt a1 (nth a0 v9))) = true → I0 (IntKind.i64.wrap (v9 + 1)) ∧ m0 (IntKind.i64.wrap (v9 + 1)) < m0 v9)))
theorem impl_meet_V (a0 : (List Int)) (a1 : (List Int)) : FnV Try.prog 74 [al eInt a0, al eInt a1] (ab (meets a0 a1)) := (fun (I0 : Int → Prop) (m0 : Int → Nat) (h : impl_meet_C a0 a1 (meets a0 a1) I0 m0) => FnV.run (ps := [(.l .int), (.l .int)]) (rs := [.bool]) (x := (a0, a1, ())) (r := ((meets a0 a1), ())) ⟨17, ecs, [slices_Contains_int_c]⟩ ⟨[], []⟩ (lp1 [1, 7, 8] [] 9 I0 m0 fun _ => .nil) Try.func74 h) (upI a0.length (fun j => hasInt a1 (nth a0 j))) (upM a0.length) (by
 unfold impl_meet_C
 intro hn
 refine ⟨up_start (len0 _), fun v hI => ⟨fun hv => ?_, fun hv => ⟨⟨up_in hI hv, fun hp => ?_⟩, fun hp => up_step (lenI hn) hI hv (not_eq hp)⟩⟩⟩
 ·exact (up_nany (q := fun x => hasInt a1 x) hI hv).symm
 ·exact (up_any (q := fun x => hasInt a1 x) hI hv hp).symm)
def impl_meet_c : Ctr Try.prog := ⟨74, [(.l .int), (.l .int)], [.bool], none, fun x => ((meets x.1 x.2.1), ()), fun x h => impl_meet_V x.1 x.2.1⟩
noncomputable def slices_Clone_Lie_b : Code := bodyC Try.f158
def slices_Clone_Lie_C (a0 : (List Lie)) (res : (List Lie)) : Prop :=
 (a0 ≠ [] → (a0.length * 16 ≤ 140737488355328 ∧ a0.length ≤ 4611686018427387904) ∧ (a0 = res)) ∧ (a0 = [] → ∀ b2 : Bool, (b2 = true → [] = res) ∧ (b2 = false → (a0.length * 16 ≤ 140737488355328 ∧ a0.length ≤ 4611686018427387904) ∧ (a0 = res)))
theorem slices_Clone_Lie_walk (a0 : (List Lie)) (res : (List Lie)) (h : slices_Clone_Lie_C a0 res) : FnS Try.prog 158 [al eLie a0] [] (fun r H => r = rf 0 0 res.length ∧ H = [⟨0, 2, List.map eLie res⟩]) := by
 refine FnS.toOwn ?_
 unfold slices_Clone_Lie_C at h
 refine FnS.go (fn := Try.f158) [(0, al eLie a0)] Try.func158 ?_
 show WpS _ (nv slices_Clone_Lie_b 1) _ ⟨mkS 8 [(0, al eLie a0)], [], []⟩
 refine cRM [] 0 [(2, an)] [] [1] ?_
 refine cSeq ?_
 refine cSeq ?_
 refine rgS [] 1 ?_
 refine sNil 2 (some 4) [(3, al eLie a0)] eLie a0 (fun hx => ?_) (fun hx b2 => ?_)
 ·
  replace h := h.1 hx
  refine sEnd [] ?_
  refine QSeq.normal ?_
  refine cCond (.tmp 4) false (fun q3 => ?_) (fun q3 => ?_)
  ·
   cases q3
  ·
   refine cSkip ?_
   refine QSeq.normal ?_
   obtain ⟨q6, h⟩ := h
   refine cSeqG ⟨(mkS 8 [(2, rf 0 0 a0.length)]), [], [⟨0, 2, List.map eLie a0⟩]⟩ (True) ?_ (fun q4 => ?_)
   ·
    replace h := q6
    refine rgS [] 3 ?_
    have q5 := h
    refine sApp0 3 (some 7) [(6, al eLie a0), (5, an)] eLie a0 (refrs false (List.map eLie a0)) 0 2 16 (fun r => [⟨0, 2, r⟩]) rfl q5 ?_
    exact sEJ [(2, rf 0 0 a0.length)] trivial
   refine cRet ?_
   refine rtS (rf 0 0 a0.length) [rf 0 0 a0.length] ?_
   exact ⟨sg [some 0], own_of [some 0] rfl (by decide) ⟨rfl, (rowsOwn_eq (b := 0) (g := 0) (sz := 2) (xs := a0) (ys := res) rfl oLie h), trivial⟩, (.inr (ow_ref (by simp) rfl rfl (by have := congrArg List.length h; simpa using this)))⟩
 ·
  replace h := h.2 hx b2
  refine sEnd [] ?_
  refine QSeq.normal ?_
  refine cCond (.tmp 4) b2 (fun q7 => ?_) (fun q7 => ?_)
  ·
   replace h := h.1 q7
   refine cSeqG ⟨(mkS 8 [(2, an)]), [], []⟩ (True) ?_ (fun q8 => ?_)
   ·
    refine rgS [] 2 ?_
    exact sEJ [(2, an)] trivial
   refine cRet ?_
   refine QSeq.ret ?_
   refine rtS (an) [an] ?_
   exact ⟨sg [none], own_of [none] rfl (by decide) ⟨rfl, trivial, trivial⟩, (.inr (ow_nil (by simp) rfl rfl (by rw [← h]; rfl)))⟩
  ·
   replace h := h.2 q7
   refine cSkip ?_
   refine QSeq.normal ?_
   obtain ⟨q11, h⟩ := h
   refine cSeqG ⟨(mkS 8 [(2, rf 0 0 a0.length)]), [], [⟨0, 2, List.map eLie a0⟩]⟩ (True) ?_ (fun q9 => ?_)
   ·
    replace h := q11
    refine rgS [] 3 ?_
    have q10 := h
    refine sApp0 3 (some 7) [(6, al eLie a0), (5, an)] eLie a0 (refrs false (List.map eLie a0)) 0 2 16 (fun r => [⟨0, 2, r⟩]) rfl q10 ?_
    exact sEJ [(2, rf 0 0 a0.length)] trivial
   refine cRet ?_
   refine rtS (rf 0 0 a0.length) [rf 0 0 a0.length] ?_
   exact ⟨sg [some 0], own_of [some 0] rfl (by decide) ⟨rfl, (rowsOwn_eq (b := 0) (g := 0) (sz := 2) (xs := a0) (ys := res) rfl oLie h), trivial⟩, (.inr (ow_ref (by simp) rfl rfl (by have := congrArg List.length h; simpa using this)))⟩
theorem slices_Clone_Lie_O (a0 : (List Lie)) (hp : small a0) : FnS Try.prog 158 [al eLie a0] [] (fun r H => r = rf 0 0 ((idt a0).length) ∧ H = [⟨0, 2, List.map eLie (idt a0)⟩]) := slices_Clone_Lie_walk a0 (idt a0) (by
 have hp : a0.length ≤ 1048576 := hp
 unfold slices_Clone_Lie_C
 refine ⟨fun h => ⟨⟨by omega, by omega⟩, rfl⟩, fun h b => ⟨fun _ => ?_, fun _ => ⟨⟨by omega, by omega⟩, rfl⟩⟩⟩
 exact h.symm)
noncomputable def impl_needs_b : Code := bodyC Try.f123
def impl_needs_o1 : List Item := [iq 0, iq 1, iq 3, iq 4, ⟨2, true, false, [3, 4]⟩, ⟨5, true, false, []⟩, iq 6]
def impl_needs_o1a : List (List Nat) := [[], [0], [0, 1], [], [3], rg 0 5, rg 0 6]
def impl_needs_C (a0 : Way) (res : (List Lie)) : Prop :=
 ((small a0.lies) ∧ (((idt a0.lies).length + a0.flanks.length) * 16 ≤ 140737488355328 ∧ (idt a0.lies).length + a0.flanks.length ≤ 4611686018427387904)) ∧ (((idt a0.lies) ++ a0.flanks).length ≤ 4611686018427387904 ∧ ((idt a0.lies) ++ a0.flanks) = res)
theorem impl_needs_walk (a0 : Way) (res : (List Lie)) (h : impl_needs_C a0 res) : FnV Try.prog 123 [.agg (eWay false a0)] (af eLie res) := by
 unfold impl_needs_C at h
 refine FnS.go (fn := Try.f123) [(0, .agg (eWay false a0))] Try.func123 ?_
 show WpS _ (nv impl_needs_b 1) _ ⟨mkS 9 [(0, .agg (eWay false a0))], [], []⟩
 refine cRN [] 0 [(2, an), (1, ap 1 0)] [0, 1, 1] [] [(1, (eWay false a0))] [] ?_
 obtain ⟨q5, h⟩ := h
 refine cSeqE [(2, rf 0 1 (((idt a0.lies) ++ a0.flanks).length))] [] id (fun _ => [⟨1, 2, List.map eLie ((idt a0.lies) ++ a0.flanks)⟩]) (True) ?_ (fun q2 => ?_)
 ·
  replace h := q5
  refine rgD [] 1 impl_needs_o1 impl_needs_o1a [] ?_
  obtain ⟨q3, h⟩ := h
  refine tCallO 5 (some 5) [(7, al eLie a0.flanks), (6, ap 1 2), (4, al eLie a0.lies), (3, ap 1 1)] [al eLie a0.lies] (fun L H => floatsS Try.prog (opsN impl_needs_b 6) [3, 4] [(7, al eLie a0.flanks), (6, ap 1 2), (4, al eLie a0.lies), (3, ap 1 1), (1, ap 1 0)] L H) (rf 0 0 ((idt a0.lies).length)) [⟨0, 2, List.map eLie (idt a0.lies)⟩] (slices_Clone_Lie_O a0.lies q3) (PW.cons (Snap2.of1 sa_lst) PW.nil) (ownH_cons (fun _ => rfl) rfl) (shift_eq (shift_cons (fun _ => rfl) rfl) (by kernel_rfl)) (of_eqP (ψ := ((true = true ∧ true = true ∧ ((ap 1 2 : AV) = ap 1 2)) ∧ ((true = true ∧ true = true ∧ ((al eLie a0.flanks : AV) = al eLie a0.flanks)) ∧ True))) (by kernel_rfl) ⟨⟨rfl, rfl, rfl⟩, ⟨⟨rfl, rfl, rfl⟩, trivial⟩⟩) ?_
  have q4 := h
  refine tApp 1 (some 8) [] eLie (idt a0.lies) a0.flanks (refrs false (List.map eLie a0.flanks)) 0 0 2 16 (fun _ => True) (fun r => [⟨1, 2, r⟩]) rfl q4 trivial ?_
  exact tEJ [(2, rf 0 1 (((idt a0.lies) ++ a0.flanks).length))] trivial
 exact cRet (rt1 (rf 0 1 (((idt a0.lies) ++ a0.flanks).length)) (SnapR3.of1 (sr_blk' (sz := 2) (by simp) rfl (cLie) h)))
theorem impl_needs_V (a0 : Way) (hp : preNeeds a0) : FnV Try.prog 123 [.agg (eWay false a0)] (af eLie (needs a0)) := impl_needs_walk a0 (needs a0) (by
 obtain ⟨h1, h2⟩ := hp
 unfold impl_needs_C idt small
 exact ⟨⟨h1, by omega, by omega⟩, by rw [List.length_append]; omega, rfl⟩)
def impl_needs_c : Ctr Try.prog := ⟨123, [.way], [(.l .lie)], some fun x => preNeeds x.1, fun x => ((needs x.1), ()), fun x h => impl_needs_V x.1 h⟩
def impl_twice_int_o4 : List Item := [iq 0, iq 1, iq 2, iq 3, iq 4, iq 5, iq 6, iq 7]
def impl_twice_int_o4a : List (List Nat) := [[], [], [0, 1], [], [], [3, 4], [3, 4, 5], rg 0 7]
def impl_twice_int_C1 (I0 : Int → Prop) (m0 : Int → Nat) (a0 : (List Int)) (res : Bool) : Prop :=
  a0.length ≤ 4611686018427387904 → I0 0 ∧ ∀ (v6 : Int), I0 v6 → (((decide (v6 < (a0.length : Int))) = false → false = res) ∧ ((decide (v6 < (a0.length : Int))) = true → (((0 ≤ v6 ∧ v6 ≤ (a0.length : Int)) ∧ (0 ≤ v6 ∧ v6.toNat < a0.length)) ∧ ((hasInt (a0.take v6.toNat) (nth a0 v6)) = true → true = res)) ∧ ((!(hasInt (a0.take v6.toNat) (nth a0 v6))) = true → I0 (IntKind.i64.wrap (v6 + 1)) ∧ m0 (IntKind.i64.wrap (v6 + 1)) < m0 v6)))
def impl_twice_int_C (a0 : (List Int)) (res : Bool) (I0 : Int → Prop) (m0 : Int → Nat) : Prop :=
 impl_twice_int_C1 I0 m0 a0 res
theorem impl_twice_int_V (a0 : (List Int)) : FnV Try.prog 129 [al eInt a0] (ab (dup a0)) := (fun (I0 : Int → Prop) (m0 : Int → Nat) (h : impl_twice_int_C a0 (dup a0) I0 m0) => FnV.run (ps := [(.l .int)]) (rs := [.bool]) (x := (a0, ())) (r := ((dup a0), ())) ⟨18, ecs, [slices_Contains_int_c]⟩ ⟨[], [(4, impl_twice_int_o4, impl_twice_int_o4a)]⟩ (lp1 [0, 5] [] 6 I0 m0 fun _ => .nil) Try.func129 h) (upI a0.length (fun j => hasInt (a0.take j.toNat) (nth a0 j))) (upM a0.length) (by
 unfold impl_twice_int_C impl_twice_int_C1
 intro hn
 refine ⟨up_start (len0 _), fun v hI => ⟨fun hv => ?_, fun hv => ⟨⟨⟨⟨hI.1, hI.2.1⟩, up_in hI hv⟩, fun hp => ?_⟩, fun hp => up_step (lenI hn) hI hv (not_eq hp)⟩⟩⟩
 ·exact (dup_false (up_end hI hv)).symm
 ·exact (dup_true (up_in hI hv).1 (up_in hI hv).2 hp).symm)
def impl_twice_int_c : Ctr Try.prog := ⟨129, [(.l .int)], [.bool], none, fun x => ((dup x.1), ()), fun x h => impl_twice_int_V x.1⟩
def laws_eqIntS_o6 : List Item := [iq 0, iq 1, iq 2, iq 3, iq 4, iq 5, iq 6, iq 7, iq 8]
def laws_eqIntS_o6a : List (List Nat) := [[], [], [0, 1], [0, 1, 2], [], [], [4, 5], [4, 5, 6], rg 0 8]
def laws_eqIntS_C1 (I0 : Int → Prop) (m0 : Int → Nat) (a0 a1 : (List Int)) (res : Bool) : Prop :=
  ((a0.length ≤ 4611686018427387904) ∧ (a1.length ≤ 4611686018427387904) → ((a0.length : Int) != (a1.length : Int)) = true → false = res) ∧ ((a0.length ≤ 4611686018427387904) ∧ (a1.length ≤ 4611686018427387904) ∧ ((!((a0.length : Int) != (a1.length : Int))) = true) → I0 0 ∧ ∀ (v5 : Int), I0 v5 → (((decide (v5 < (a0.length : Int))) = false → true = res) ∧ ((decide (v5 < (a0.length : Int))) = true → (((0 ≤ v5 ∧ v5.toNat < a0.length) ∧ (0 ≤ v5 ∧ v5.toNat < a1.length)) ∧ (((nth a0 v5) != (nth a1 v5)) = true → false = res)) ∧ ((!((nth a0 v5) != (nth a1 v5))) = true → I0 (IntKind.i64.wrap (v5 + 1)) ∧ m0 (IntKind.i64.wrap (v5 + 1)) < m0 v5))))
def laws_eqIntS_C (a0 : (List Int)) (a1 : (List Int)) (res : Bool) (I0 : Int → Prop) (m0 : Int → Nat) : Prop :=
 laws_eqIntS_C1 I0 m0 a0 a1 res
theorem laws_eqIntS_V (a0 : (List Int)) (a1 : (List Int)) : FnV Try.prog 55 [al eInt a0, al eInt a1] (ab (eqv a0 a1)) := (fun (I0 : Int → Prop) (m0 : Int → Nat) (h : laws_eqIntS_C a0 a1 (eqv a0 a1) I0 m0) => FnV.run (ps := [(.l .int), (.l .int)]) (rs := [.bool]) (x := (a0, a1, ())) (r := ((eqv a0 a1), ())) ⟨26, ecs, []⟩ ⟨[13], [(6, laws_eqIntS_o6, laws_eqIntS_o6a)]⟩ (lp1 [0, 1] [] 5 I0 m0 fun _ => .nil) Try.func55 h) (upI a0.length (fun v => nth a0 v != nth a1 v)) (upM a0.length) (by
 unfold laws_eqIntS_C laws_eqIntS_C1
 exact eq_loop (ne := fun v => nth a0 v != nth a1 v) (fun v => by simp [eqv]))
def laws_eqIntS_c : Ctr Try.prog := ⟨55, [(.l .int), (.l .int)], [.bool], none, fun x => ((eqv x.1 x.2.1), ()), fun x h => laws_eqIntS_V x.1 x.2.1⟩
def laws_eqLie_C (a0 : Lie) (a1 : Lie) (res : Bool) : Prop :=
 ((a0.sw != a1.sw) = true → false = res) ∧ ((!(a0.sw != a1.sw)) = true → ((a0.lie != a1.lie) = true → false = res) ∧ ((!(a0.lie != a1.lie)) = true → true = res))
theorem laws_eqLie_V (a0 : Lie) (a1 : Lie) : FnV Try.prog 169 [.agg (eLie a0), .agg (eLie a1)] (ab (eqv a0 a1)) := (fun (h : laws_eqLie_C a0 a1 (eqv a0 a1)) => FnV.run (ps := [.lie, .lie]) (rs := [.bool]) (x := (a0, a1, ())) (r := ((eqv a0 a1), ())) ⟨15, ecs, []⟩ ⟨[], []⟩ .nil Try.func169 h) (by
 unfold laws_eqLie_C
 obtain ⟨c, p⟩ := a0
 obtain ⟨c', p'⟩ := a1
 simp [eqv]
 intros
 simp_all)
def laws_eqLie_c : Ctr Try.prog := ⟨169, [.lie, .lie], [.bool], none, fun x => ((eqv x.1 x.2.1), ()), fun x h => laws_eqLie_V x.1 x.2.1⟩
def laws_eqLieS_o6 : List Item := [iq 0, iq 1, iq 2, iq 3, iq 4, iq 5, iq 6, iq 7, iq 8, iq 9]
def laws_eqLieS_o6a : List (List Nat) := [[], [], [0, 1], [0, 1, 2], [], [], [4, 5], [4, 5, 6], rg 0 8, rg 0 9]
def laws_eqLieS_C1 (I0 : Int → Prop) (m0 : Int → Nat) (a0 a1 : (List Lie)) (res : Bool) : Prop :=
  ((a0.length ≤ 4611686018427387904) ∧ (a1.length ≤ 4611686018427387904) → ((a0.length : Int) != (a1.length : Int)) = true → false = res) ∧ ((a0.length ≤ 4611686018427387904) ∧ (a1.length ≤ 4611686018427387904) ∧ ((!((a0.length : Int) != (a1.length : Int))) = true) → I0 0 ∧ ∀ (v5 : Int), I0 v5 → (((decide (v5 < (a0.length : Int))) = false → true = res) ∧ ((decide (v5 < (a0.length : Int))) = true → (((0 ≤ v5 ∧ v5.toNat < a0.length) ∧ (0 ≤ v5 ∧ v5.toNat < a1.length)) ∧ ((!(eqv (nth a0 v5) (nth a1 v5))) = true → false = res)) ∧ ((!(!(eqv (nth a0 v5) (nth a1 v5)))) = true → I0 (IntKind.i64.wrap (v5 + 1)) ∧ m0 (IntKind.i64.wrap (v5 + 1)) < m0 v5))))
def laws_eqLieS_C (a0 : (List Lie)) (a1 : (List Lie)) (res : Bool) (I0 : Int → Prop) (m0 : Int → Nat) : Prop :=
 laws_eqLieS_C1 I0 m0 a0 a1 res
theorem laws_eqLieS_V (a0 : (List Lie)) (a1 : (List Lie)) : FnV Try.prog 162 [al eLie a0, al eLie a1] (ab (eqv a0 a1)) := (fun (I0 : Int → Prop) (m0 : Int → Nat) (h : laws_eqLieS_C a0 a1 (eqv a0 a1) I0 m0) => FnV.run (ps := [(.l .lie), (.l .lie)]) (rs := [.bool]) (x := (a0, a1, ())) (r := ((eqv a0 a1), ())) ⟨27, ecs, [laws_eqLie_c]⟩ ⟨[13], [(6, laws_eqLieS_o6, laws_eqLieS_o6a)]⟩ (lp1 [0, 1] [] 5 I0 m0 fun _ => .nil) Try.func162 h) (upI a0.length (fun v => !(eqv (nth a0 v) (nth a1 v)))) (upM a0.length) (by
 unfold laws_eqLieS_C laws_eqLieS_C1
 exact eq_loop (ne := fun v => !(eqv (nth a0 v) (nth a1 v))) (fun v => by simp [eqv]))
def laws_eqLieS_c : Ctr Try.prog := ⟨162, [(.l .lie), (.l .lie)], [.bool], none, fun x => ((eqv x.1 x.2.1), ()), fun x h => laws_eqLieS_V x.1 x.2.1⟩
def laws_eqWay_C1 (a0 a1 : Way) (res : Bool) : Prop :=
  ((!(eqv a0.sections a1.sections)) = true → false = res) ∧ ((!(!(eqv a0.sections a1.sections))) = true → ((!(eqv a0.lies a1.lies)) = true → false = res) ∧ ((!(!(eqv a0.lies a1.lies))) = true → ((!(eqv a0.flanks a1.flanks)) = true → false = res) ∧ ((!(!(eqv a0.flanks a1.flanks))) = true → ((!(eqv a0.over a1.over)) = true → false = res) ∧ ((!(!(eqv a0.over a1.over))) = true → ((!(eqv a0.near a1.near)) = true → false = res) ∧ ((!(!(eqv a0.near a1.near))) = true → true = res)))))
def laws_eqWay_C (a0 : Way) (a1 : Way) (res : Bool) : Prop :=
 laws_eqWay_C1 a0 a1 res
theorem laws_eqWay_V (a0 : Way) (a1 : Way) : FnV Try.prog 131 [.agg (eWay false a0), .agg (eWay false a1)] (ab (eqv a0 a1)) := (fun (h : laws_eqWay_C a0 a1 (eqv a0 a1)) => FnV.run (ps := [.way, .way]) (rs := [.bool]) (x := (a0, a1, ())) (r := ((eqv a0 a1), ())) ⟨35, ecs, [laws_eqIntS_c, laws_eqLieS_c]⟩ ⟨[], []⟩ .nil Try.func131 h) (by
 unfold laws_eqWay_C laws_eqWay_C1
 obtain ⟨a, b, c, d, e⟩ := a0
 obtain ⟨a', b', c', d', e'⟩ := a1
 simp [eqv]
 refine ⟨fun h h1 => absurd h1 h, fun h => ⟨fun k _ k1 => absurd k1 k, ?_⟩⟩
 intros
 simp_all)
def laws_eqWay_c : Ctr Try.prog := ⟨131, [.way, .way], [.bool], none, fun x => ((eqv x.1 x.2.1), ()), fun x h => laws_eqWay_V x.1 x.2.1⟩
def laws_eqWayS_o6 : List Item := [iq 0, iq 1, iq 2, iq 3, iq 4, iq 5, iq 6, iq 7, iq 8, iq 9]
def laws_eqWayS_o6a : List (List Nat) := [[], [], [0, 1], [0, 1, 2], [], [], [4, 5], [4, 5, 6], rg 0 8, rg 0 9]
def laws_eqWayS_C1 (I0 : Int → Prop) (m0 : Int → Nat) (a0 a1 : (List Way)) (res : Bool) : Prop :=
  ((a0.length ≤ 4611686018427387904) ∧ (a1.length ≤ 4611686018427387904) → ((a0.length : Int) != (a1.length : Int)) = true → false = res) ∧ ((a0.length ≤ 4611686018427387904) ∧ (a1.length ≤ 4611686018427387904) ∧ ((!((a0.length : Int) != (a1.length : Int))) = true) → I0 0 ∧ ∀ (v5 : Int), I0 v5 → (((decide (v5 < (a0.length : Int))) = false → true = res) ∧ ((decide (v5 < (a0.length : Int))) = true → (((0 ≤ v5 ∧ v5.toNat < a0.length) ∧ (0 ≤ v5 ∧ v5.toNat < a1.length)) ∧ ((!(eqv (nth a0 v5) (nth a1 v5))) = true → false = res)) ∧ ((!(!(eqv (nth a0 v5) (nth a1 v5)))) = true → I0 (IntKind.i64.wrap (v5 + 1)) ∧ m0 (IntKind.i64.wrap (v5 + 1)) < m0 v5))))
def laws_eqWayS_C (a0 : (List Way)) (a1 : (List Way)) (res : Bool) (I0 : Int → Prop) (m0 : Int → Nat) : Prop :=
 laws_eqWayS_C1 I0 m0 a0 a1 res
theorem laws_eqWayS_V (a0 : (List Way)) (a1 : (List Way)) : FnV Try.prog 75 [al (eWay false) a0, al (eWay false) a1] (ab (eqv a0 a1)) := (fun (I0 : Int → Prop) (m0 : Int → Nat) (h : laws_eqWayS_C a0 a1 (eqv a0 a1) I0 m0) => FnV.run (ps := [(.l .way), (.l .way)]) (rs := [.bool]) (x := (a0, a1, ())) (r := ((eqv a0 a1), ())) ⟨27, ecs, [laws_eqWay_c]⟩ ⟨[13], [(6, laws_eqWayS_o6, laws_eqWayS_o6a)]⟩ (lp1 [0, 1] [] 5 I0 m0 fun _ => .nil) Try.func75 h) (upI a0.length (fun v => !(eqv (nth a0 v) (nth a1 v)))) (upM a0.length) (by
 unfold laws_eqWayS_C laws_eqWayS_C1
 exact eq_loop (ne := fun v => !(eqv (nth a0 v) (nth a1 v))) (fun v => by simp [eqv]))
def laws_eqWayS_c : Ctr Try.prog := ⟨75, [(.l .way), (.l .way)], [.bool], none, fun x => ((eqv x.1 x.2.1), ()), fun x h => laws_eqWayS_V x.1 x.2.1⟩
def laws_eqBoolS_o6 : List Item := [iq 0, iq 1, iq 2, iq 3, iq 4, iq 5, iq 6, iq 7, iq 8]
def laws_eqBoolS_o6a : List (List Nat) := [[], [], [0, 1], [0, 1, 2], [], [], [4, 5], [4, 5, 6], rg 0 8]
def laws_eqBoolS_C1 (I0 : Int → Prop) (m0 : Int → Nat) (a0 a1 : (List Bool)) (res : Bool) : Prop :=
  ((a0.length ≤ 4611686018427387904) ∧ (a1.length ≤ 4611686018427387904) → ((a0.length : Int) != (a1.length : Int)) = true → false = res) ∧ ((a0.length ≤ 4611686018427387904) ∧ (a1.length ≤ 4611686018427387904) ∧ ((!((a0.length : Int) != (a1.length : Int))) = true) → I0 0 ∧ ∀ (v5 : Int), I0 v5 → (((decide (v5 < (a0.length : Int))) = false → true = res) ∧ ((decide (v5 < (a0.length : Int))) = true → (((0 ≤ v5 ∧ v5.toNat < a0.length) ∧ (0 ≤ v5 ∧ v5.toNat < a1.length)) ∧ (((nth a0 v5) != (nth a1 v5)) = true → false = res)) ∧ ((!((nth a0 v5) != (nth a1 v5))) = true → I0 (IntKind.i64.wrap (v5 + 1)) ∧ m0 (IntKind.i64.wrap (v5 + 1)) < m0 v5))))
def laws_eqBoolS_C (a0 : (List Bool)) (a1 : (List Bool)) (res : Bool) (I0 : Int → Prop) (m0 : Int → Nat) : Prop :=
 laws_eqBoolS_C1 I0 m0 a0 a1 res
theorem laws_eqBoolS_V (a0 : (List Bool)) (a1 : (List Bool)) : FnV Try.prog 80 [al eBool a0, al eBool a1] (ab (eqv a0 a1)) := (fun (I0 : Int → Prop) (m0 : Int → Nat) (h : laws_eqBoolS_C a0 a1 (eqv a0 a1) I0 m0) => FnV.run (ps := [(.l .bool), (.l .bool)]) (rs := [.bool]) (x := (a0, a1, ())) (r := ((eqv a0 a1), ())) ⟨26, ecs, []⟩ ⟨[13], [(6, laws_eqBoolS_o6, laws_eqBoolS_o6a)]⟩ (lp1 [0, 1] [] 5 I0 m0 fun _ => .nil) Try.func80 h) (upI a0.length (fun v => nth a0 v != nth a1 v)) (upM a0.length) (by
 unfold laws_eqBoolS_C laws_eqBoolS_C1
 exact eq_loop (ne := fun v => nth a0 v != nth a1 v) (fun v => by simp [eqv]))
def laws_eqBoolS_c : Ctr Try.prog := ⟨80, [(.l .bool), (.l .bool)], [.bool], none, fun x => ((eqv x.1 x.2.1), ()), fun x h => laws_eqBoolS_V x.1 x.2.1⟩
def laws_eqBoolSS_o6 : List Item := [iq 0, iq 1, iq 2, iq 3, iq 4, iq 5, iq 6, iq 7, iq 8, iq 9]
def laws_eqBoolSS_o6a : List (List Nat) := [[], [], [0, 1], [0, 1, 2], [], [], [4, 5], [4, 5, 6], rg 0 8, rg 0 9]
def laws_eqBoolSS_C1 (I0 : Int → Prop) (m0 : Int → Nat) (a0 a1 : (List (List Bool))) (res : Bool) : Prop :=
  ((a0.length ≤ 4611686018427387904) ∧ (a1.length ≤ 4611686018427387904) → ((a0.length : Int) != (a1.length : Int)) = true → false = res) ∧ ((a0.length ≤ 4611686018427387904) ∧ (a1.length ≤ 4611686018427387904) ∧ ((!((a0.length : Int) != (a1.length : Int))) = true) → I0 0 ∧ ∀ (v5 : Int), I0 v5 → (((decide (v5 < (a0.length : Int))) = false → true = res) ∧ ((decide (v5 < (a0.length : Int))) = true → (((0 ≤ v5 ∧ v5.toNat < a0.length) ∧ (0 ≤ v5 ∧ v5.toNat < a1.length)) ∧ ((!(eqv (nth a0 v5) (nth a1 v5))) = true → false = res)) ∧ ((!(!(eqv (nth a0 v5) (nth a1 v5)))) = true → I0 (IntKind.i64.wrap (v5 + 1)) ∧ m0 (IntKind.i64.wrap (v5 + 1)) < m0 v5))))
def laws_eqBoolSS_C (a0 : (List (List Bool))) (a1 : (List (List Bool))) (res : Bool) (I0 : Int → Prop) (m0 : Int → Nat) : Prop :=
 laws_eqBoolSS_C1 I0 m0 a0 a1 res
theorem laws_eqBoolSS_V (a0 : (List (List Bool))) (a1 : (List (List Bool))) : FnV Try.prog 76 [al (eL eBool false) a0, al (eL eBool false) a1] (ab (eqv a0 a1)) := (fun (I0 : Int → Prop) (m0 : Int → Nat) (h : laws_eqBoolSS_C a0 a1 (eqv a0 a1) I0 m0) => FnV.run (ps := [(.l (.l .bool)), (.l (.l .bool))]) (rs := [.bool]) (x := (a0, a1, ())) (r := ((eqv a0 a1), ())) ⟨27, ecs, [laws_eqBoolS_c]⟩ ⟨[13], [(6, laws_eqBoolSS_o6, laws_eqBoolSS_o6a)]⟩ (lp1 [0, 1] [] 5 I0 m0 fun _ => .nil) Try.func76 h) (upI a0.length (fun v => !(eqv (nth a0 v) (nth a1 v)))) (upM a0.length) (by
 unfold laws_eqBoolSS_C laws_eqBoolSS_C1
 exact eq_loop (ne := fun v => !(eqv (nth a0 v) (nth a1 v))) (fun v => by simp [eqv]))
def laws_eqBoolSS_c : Ctr Try.prog := ⟨76, [(.l (.l .bool)), (.l (.l .bool))], [.bool], none, fun x => ((eqv x.1 x.2.1), ()), fun x h => laws_eqBoolSS_V x.1 x.2.1⟩
def laws_eqPlan_C1 (a0 a1 : Plan) (res : Bool) : Prop :=
  ((a0.sections != a1.sections) = true → false = res) ∧ ((!(a0.sections != a1.sections)) = true → ((!(eqv a0.switches a1.switches)) = true → false = res) ∧ ((!(!(eqv a0.switches a1.switches))) = true → ((!(eqv a0.ways a1.ways)) = true → false = res) ∧ ((!(!(eqv a0.ways a1.ways))) = true → ((!(eqv a0.bars a1.bars)) = true → false = res) ∧ ((!(!(eqv a0.bars a1.bars))) = true → ((a0.hold != a1.hold) = true → false = res) ∧ ((!(a0.hold != a1.hold)) = true → true = res)))))
def laws_eqPlan_C (a0 : Plan) (a1 : Plan) (res : Bool) : Prop :=
 laws_eqPlan_C1 a0 a1 res
theorem laws_eqPlan_V (a0 : Plan) (a1 : Plan) : FnV Try.prog 28 [.agg (ePlan false a0), .agg (ePlan false a1)] (ab (eqv a0 a1)) := (fun (h : laws_eqPlan_C a0 a1 (eqv a0 a1)) => FnV.run (ps := [.plan, .plan]) (rs := [.bool]) (x := (a0, a1, ())) (r := ((eqv a0 a1), ())) ⟨33, ecs, [laws_eqIntS_c, laws_eqWayS_c, laws_eqBoolSS_c]⟩ ⟨[], []⟩ .nil Try.func28 h) (by
 unfold laws_eqPlan_C laws_eqPlan_C1
 obtain ⟨a, b, c, d, e⟩ := a0
 obtain ⟨a', b', c', d', e'⟩ := a1
 simp [eqv]
 refine ⟨fun h h1 => absurd h1 h, fun h => ⟨fun k _ k1 => absurd k1 k, ?_⟩⟩
 intros
 simp_all)
def laws_eqPlan_c : Ctr Try.prog := ⟨28, [.plan, .plan], [.bool], none, fun x => ((eqv x.1 x.2.1), ()), fun x h => laws_eqPlan_V x.1 x.2.1⟩
end Go.Proofs.Ytglpfccgmfhkdaa.Fw
/- Walks and summaries of functions, printed by a program of mine (tools/mk2.py), with the proofs of what they owe. -/

set_option linter.unusedVariables false
set_option maxRecDepth 100000
set_option maxHeartbeats 4000000
set_option linter.unusedSimpArgs false
namespace Go.Proofs.Ytglpfccgmfhkdaa.Fw
open Go
attribute [local irreducible] evS evSD WpS Weak Oper.looksAt
def laws_eqPoint_C (a0 : Point) (a1 : Point) (res : Bool) : Prop :=
 ((a0.want != a1.want) = true → false = res) ∧ ((!(a0.want != a1.want)) = true → ((a0.lies != a1.lies) = true → false = res) ∧ ((!(a0.lies != a1.lies)) = true → true = res))
theorem laws_eqPoint_V (a0 : Point) (a1 : Point) : FnV Try.prog 132 [.agg (ePoint a0), .agg (ePoint a1)] (ab (eqv a0 a1)) := (fun (h : laws_eqPoint_C a0 a1 (eqv a0 a1)) => FnV.run (ps := [.point, .point]) (rs := [.bool]) (x := (a0, a1, ())) (r := ((eqv a0 a1), ())) ⟨15, ecs, []⟩ ⟨[], []⟩ .nil Try.func132 h) (by
 unfold laws_eqPoint_C
 obtain ⟨c, p⟩ := a0
 obtain ⟨c', p'⟩ := a1
 simp [eqv]
 intros
 simp_all)
def laws_eqPoint_c : Ctr Try.prog := ⟨132, [.point, .point], [.bool], none, fun x => ((eqv x.1 x.2.1), ()), fun x h => laws_eqPoint_V x.1 x.2.1⟩
def laws_eqPointS_o6 : List Item := [iq 0, iq 1, iq 2, iq 3, iq 4, iq 5, iq 6, iq 7, iq 8, iq 9]
def laws_eqPointS_o6a : List (List Nat) := [[], [], [0, 1], [0, 1, 2], [], [], [4, 5], [4, 5, 6], rg 0 8, rg 0 9]
def laws_eqPointS_C1 (I0 : Int → Prop) (m0 : Int → Nat) (a0 a1 : (List Point)) (res : Bool) : Prop :=
  ((a0.length ≤ 4611686018427387904) ∧ (a1.length ≤ 4611686018427387904) → ((a0.length : Int) != (a1.length : Int)) = true → false = res) ∧ ((a0.length ≤ 4611686018427387904) ∧ (a1.length ≤ 4611686018427387904) ∧ ((!((a0.length : Int) != (a1.length : Int))) = true) → I0 0 ∧ ∀ (v5 : Int), I0 v5 → (((decide (v5 < (a0.length : Int))) = false → true = res) ∧ ((decide (v5 < (a0.length : Int))) = true → (((0 ≤ v5 ∧ v5.toNat < a0.length) ∧ (0 ≤ v5 ∧ v5.toNat < a1.length)) ∧ ((!(eqv (nth a0 v5) (nth a1 v5))) = true → false = res)) ∧ ((!(!(eqv (nth a0 v5) (nth a1 v5)))) = true → I0 (IntKind.i64.wrap (v5 + 1)) ∧ m0 (IntKind.i64.wrap (v5 + 1)) < m0 v5))))
def laws_eqPointS_C (a0 : (List Point)) (a1 : (List Point)) (res : Bool) (I0 : Int → Prop) (m0 : Int → Nat) : Prop :=
 laws_eqPointS_C1 I0 m0 a0 a1 res
theorem laws_eqPointS_V (a0 : (List Point)) (a1 : (List Point)) : FnV Try.prog 81 [al ePoint a0, al ePoint a1] (ab (eqv a0 a1)) := (fun (I0 : Int → Prop) (m0 : Int → Nat) (h : laws_eqPointS_C a0 a1 (eqv a0 a1) I0 m0) => FnV.run (ps := [(.l .point), (.l .point)]) (rs := [.bool]) (x := (a0, a1, ())) (r := ((eqv a0 a1), ())) ⟨27, ecs, [laws_eqPoint_c]⟩ ⟨[13], [(6, laws_eqPointS_o6, laws_eqPointS_o6a)]⟩ (lp1 [0, 1] [] 5 I0 m0 fun _ => .nil) Try.func81 h) (upI a0.length (fun v => !(eqv (nth a0 v) (nth a1 v)))) (upM a0.length) (by
 unfold laws_eqPointS_C laws_eqPointS_C1
 exact eq_loop (ne := fun v => !(eqv (nth a0 v) (nth a1 v))) (fun v => by simp [eqv]))
def laws_eqPointS_c : Ctr Try.prog := ⟨81, [(.l .point), (.l .point)], [.bool], none, fun x => ((eqv x.1 x.2.1), ()), fun x h => laws_eqPointS_V x.1 x.2.1⟩
def laws_eqHeld_C1 (a0 a1 : Held) (res : Bool) : Prop :=
  ((a0.state != a1.state) = true → false = res) ∧ ((!(a0.state != a1.state)) = true → ((a0.gone != a1.gone) = true → false = res) ∧ ((!(a0.gone != a1.gone)) = true → ((!(eqv a0.been a1.been)) = true → false = res) ∧ ((!(!(eqv a0.been a1.been))) = true → ((a0.shown != a1.shown) = true → false = res) ∧ ((!(a0.shown != a1.shown)) = true → ((a0.timer != a1.timer) = true → false = res) ∧ ((!(a0.timer != a1.timer)) = true → true = res)))))
def laws_eqHeld_C (a0 : Held) (a1 : Held) (res : Bool) : Prop :=
 laws_eqHeld_C1 a0 a1 res
theorem laws_eqHeld_V (a0 : Held) (a1 : Held) : FnV Try.prog 133 [.agg (eHeld false a0), .agg (eHeld false a1)] (ab (eqv a0 a1)) := (fun (h : laws_eqHeld_C a0 a1 (eqv a0 a1)) => FnV.run (ps := [.held, .held]) (rs := [.bool]) (x := (a0, a1, ())) (r := ((eqv a0 a1), ())) ⟨31, ecs, [laws_eqBoolS_c]⟩ ⟨[], []⟩ .nil Try.func133 h) (by
 unfold laws_eqHeld_C laws_eqHeld_C1
 obtain ⟨a, b, c, d, e⟩ := a0
 obtain ⟨a', b', c', d', e'⟩ := a1
 simp [eqv]
 refine ⟨fun h h1 => absurd h1 h, fun h => ⟨fun k _ k1 => absurd k1 k, ?_⟩⟩
 intros
 simp_all)
def laws_eqHeld_c : Ctr Try.prog := ⟨133, [.held, .held], [.bool], none, fun x => ((eqv x.1 x.2.1), ()), fun x h => laws_eqHeld_V x.1 x.2.1⟩
def laws_eqHeldS_o6 : List Item := [iq 0, iq 1, iq 2, iq 3, iq 4, iq 5, iq 6, iq 7, iq 8, iq 9]
def laws_eqHeldS_o6a : List (List Nat) := [[], [], [0, 1], [0, 1, 2], [], [], [4, 5], [4, 5, 6], rg 0 8, rg 0 9]
def laws_eqHeldS_C1 (I0 : Int → Prop) (m0 : Int → Nat) (a0 a1 : (List Held)) (res : Bool) : Prop :=
  ((a0.length ≤ 4611686018427387904) ∧ (a1.length ≤ 4611686018427387904) → ((a0.length : Int) != (a1.length : Int)) = true → false = res) ∧ ((a0.length ≤ 4611686018427387904) ∧ (a1.length ≤ 4611686018427387904) ∧ ((!((a0.length : Int) != (a1.length : Int))) = true) → I0 0 ∧ ∀ (v5 : Int), I0 v5 → (((decide (v5 < (a0.length : Int))) = false → true = res) ∧ ((decide (v5 < (a0.length : Int))) = true → (((0 ≤ v5 ∧ v5.toNat < a0.length) ∧ (0 ≤ v5 ∧ v5.toNat < a1.length)) ∧ ((!(eqv (nth a0 v5) (nth a1 v5))) = true → false = res)) ∧ ((!(!(eqv (nth a0 v5) (nth a1 v5)))) = true → I0 (IntKind.i64.wrap (v5 + 1)) ∧ m0 (IntKind.i64.wrap (v5 + 1)) < m0 v5))))
def laws_eqHeldS_C (a0 : (List Held)) (a1 : (List Held)) (res : Bool) (I0 : Int → Prop) (m0 : Int → Nat) : Prop :=
 laws_eqHeldS_C1 I0 m0 a0 a1 res
theorem laws_eqHeldS_V (a0 : (List Held)) (a1 : (List Held)) : FnV Try.prog 82 [al (eHeld false) a0, al (eHeld false) a1] (ab (eqv a0 a1)) := (fun (I0 : Int → Prop) (m0 : Int → Nat) (h : laws_eqHeldS_C a0 a1 (eqv a0 a1) I0 m0) => FnV.run (ps := [(.l .held), (.l .held)]) (rs := [.bool]) (x := (a0, a1, ())) (r := ((eqv a0 a1), ())) ⟨27, ecs, [laws_eqHeld_c]⟩ ⟨[13], [(6, laws_eqHeldS_o6, laws_eqHeldS_o6a)]⟩ (lp1 [0, 1] [] 5 I0 m0 fun _ => .nil) Try.func82 h) (upI a0.length (fun v => !(eqv (nth a0 v) (nth a1 v)))) (upM a0.length) (by
 unfold laws_eqHeldS_C laws_eqHeldS_C1
 exact eq_loop (ne := fun v => !(eqv (nth a0 v) (nth a1 v))) (fun v => by simp [eqv]))
def laws_eqHeldS_c : Ctr Try.prog := ⟨82, [(.l .held), (.l .held)], [.bool], none, fun x => ((eqv x.1 x.2.1), ()), fun x h => laws_eqHeldS_V x.1 x.2.1⟩
def laws_eqFrame_C (a0 : Frame) (a1 : Frame) (res : Bool) : Prop :=
 ((a0.ok != a1.ok) = true → false = res) ∧ ((!(a0.ok != a1.ok)) = true → ((!(eqv a0.occ a1.occ)) = true → false = res) ∧ ((!(!(eqv a0.occ a1.occ))) = true → ((!(eqv a0.points a1.points)) = true → false = res) ∧ ((!(!(eqv a0.points a1.points))) = true → ((!(eqv a0.ways a1.ways)) = true → false = res) ∧ ((!(!(eqv a0.ways a1.ways))) = true → true = res))))
theorem laws_eqFrame_V (a0 : Frame) (a1 : Frame) : FnV Try.prog 34 [.agg (eFrame false a0), .agg (eFrame false a1)] (ab (eqv a0 a1)) := (fun (h : laws_eqFrame_C a0 a1 (eqv a0 a1)) => FnV.run (ps := [.frame, .frame]) (rs := [.bool]) (x := (a0, a1, ())) (r := ((eqv a0 a1), ())) ⟨28, ecs, [laws_eqBoolS_c, laws_eqPointS_c, laws_eqHeldS_c]⟩ ⟨[], []⟩ .nil Try.func34 h) (by
 unfold laws_eqFrame_C
 obtain ⟨a, b, c, d⟩ := a0
 obtain ⟨a', b', c', d'⟩ := a1
 simp [eqv]
 refine ⟨fun h h1 => absurd h1 h, fun h => ⟨fun k _ k1 => absurd k1 k, ?_⟩⟩
 intros
 simp_all)
def laws_eqFrame_c : Ctr Try.prog := ⟨34, [.frame, .frame], [.bool], none, fun x => ((eqv x.1 x.2.1), ()), fun x h => laws_eqFrame_V x.1 x.2.1⟩
def laws_szPointS_C (a0 : (List Point)) (a1 : Int) (res : Int) : Prop :=
 a0.length ≤ 4611686018427387904 → ((decide ((IntKind.i64.wrap (a1 - (a0.length : Int))) < 0)) = true → (-1) = res) ∧ ((!(decide ((IntKind.i64.wrap (a1 - (a0.length : Int))) < 0))) = true → (IntKind.i64.wrap (a1 - (a0.length : Int))) = res)
theorem laws_szPointS_V (a0 : (List Point)) (a1 : Int) (hp : okL a0 a1) : FnV Try.prog 95 [al ePoint a0, ai a1] (ai (szL a0 a1)) := (fun (h : laws_szPointS_C a0 a1 (szL a0 a1)) => FnV.run (ps := [(.l .point), .int]) (rs := [.int]) (x := (a0, a1, ())) (r := ((szL a0 a1), ())) ⟨12, ecs, []⟩ ⟨[], []⟩ .nil Try.func95 h) (by
 unfold laws_szPointS_C
 exact fun hn => sz_len hp hn)
def laws_szPointS_c : Ctr Try.prog := ⟨95, [(.l .point), .int], [.int], some fun x => okL x.1 x.2.1, fun x => ((szL x.1 x.2.1), ()), fun x h => laws_szPointS_V x.1 x.2.1 h⟩
def laws_szHeld_C (a0 : Held) (a1 : Int) (res : Int) : Prop :=
 (okL a0.been a1) ∧ (((decide ((szL a0.been a1) < 0)) = true → (-1) = res) ∧ ((!(decide ((szL a0.been a1) < 0))) = true → (szL a0.been a1) = res))
theorem laws_szHeld_V (a0 : Held) (a1 : Int) (hp : okL a0 a1) : FnV Try.prog 139 [.agg (eHeld false a0), ai a1] (ai (szHeld a0 a1)) := (fun (h : laws_szHeld_C a0 a1 (szHeld a0 a1)) => FnV.run (ps := [.held, .int]) (rs := [.int]) (x := (a0, a1, ())) (r := ((szHeld a0 a1), ())) ⟨12, ecs, [laws_szBoolS_c]⟩ ⟨[], []⟩ .nil Try.func139 h) (by
 unfold laws_szHeld_C szHeld szL
 have hp : 0 ≤ a1 ∧ a1 ≤ 1048576 := hp
 exact ⟨hp, sz_step (m := 0) hp (by omega) fun c k => rfl⟩)
def laws_szHeld_c : Ctr Try.prog := ⟨139, [.held, .int], [.int], some fun x => okL x.1 x.2.1, fun x => ((szHeld x.1 x.2.1), ()), fun x h => laws_szHeld_V x.1 x.2.1 h⟩
def laws_szHeldS_C1 (I0 : Int → Int → Prop) (m0 : Int → Int → Nat) (a0 : (List Held)) (res v1 v5 : Int) : Prop :=
  ((decide (v5 < (a0.length : Int))) = false → v1 = res) ∧ ((decide (v5 < (a0.length : Int))) = true → (((0 ≤ v5 ∧ v5.toNat < a0.length) ∧ (okL (nth a0 v5) v1)) ∧ ((decide ((szHeld (nth a0 v5) v1) < 0)) = true → (-1) = res)) ∧ ((!(decide ((szHeld (nth a0 v5) v1) < 0))) = true → I0 (szHeld (nth a0 v5) v1) (IntKind.i64.wrap (v5 + 1)) ∧ m0 (szHeld (nth a0 v5) v1) (IntKind.i64.wrap (v5 + 1)) < m0 v1 v5))
def laws_szHeldS_C (a0 : (List Held)) (a1 : Int) (res : Int) (I0 : Int → Int → Prop) (m0 : Int → Int → Nat) : Prop :=
 a0.length ≤ 4611686018427387904 → ((decide ((IntKind.i64.wrap (a1 - (a0.length : Int))) < 0)) = true → (-1) = res) ∧ ((!(decide ((IntKind.i64.wrap (a1 - (a0.length : Int))) < 0))) = true → I0 (IntKind.i64.wrap (a1 - (a0.length : Int))) 0 ∧ ∀ (v1 : Int) (v5 : Int), I0 v1 v5 → (laws_szHeldS_C1 I0 m0 a0 res v1 v5))
theorem laws_szHeldS_V (a0 : (List Held)) (a1 : Int) (hp : okL a0 a1) : FnV Try.prog 96 [al (eHeld false) a0, ai a1] (ai (szHelds a0 a1)) := (fun (I0 : Int → Int → Prop) (m0 : Int → Int → Nat) (h : laws_szHeldS_C a0 a1 (szHelds a0 a1) I0 m0) => FnV.run (ps := [(.l .held), .int]) (rs := [.int]) (x := (a0, a1, ())) (r := ((szHelds a0 a1), ())) ⟨27, ecs, [laws_szHeld_c]⟩ ⟨[14], []⟩ (.lp [] [0] [] [.int, .int] [1, 5] (fun w0 => [(1, .i .i64 w0.1), (5, .i .i64 w0.2.1)]) (fun w0 => I0 w0.1 w0.2.1) (fun w0 => m0 w0.1 w0.2.1) fun _ => .nil) Try.func96 h) (sumI a0 (fun h => h.been.length) a1) (sumM a0) (by
 unfold laws_szHeldS_C laws_szHeldS_C1
 exact fun hn => sum_loop (g := szHeld) (fun _ _ => rfl) hp hn)
def laws_szHeldS_c : Ctr Try.prog := ⟨96, [(.l .held), .int], [.int], some fun x => okL x.1 x.2.1, fun x => ((szHelds x.1 x.2.1), ()), fun x h => laws_szHeldS_V x.1 x.2.1 h⟩
def laws_szFrame_C1 (a0 : Frame) (a1 res : Int) : Prop :=
  ((decide ((szL a0.points (szL a0.occ a1)) < 0)) = true → (-1) = res) ∧ ((!(decide ((szL a0.points (szL a0.occ a1)) < 0))) = true → (okL a0.ways (szL a0.points (szL a0.occ a1))) ∧ (((decide ((szHelds a0.ways (szL a0.points (szL a0.occ a1))) < 0)) = true → (-1) = res) ∧ ((!(decide ((szHelds a0.ways (szL a0.points (szL a0.occ a1))) < 0))) = true → (szHelds a0.ways (szL a0.points (szL a0.occ a1))) = res)))
def laws_szFrame_C (a0 : Frame) (a1 : Int) (res : Int) : Prop :=
 (okL a0.occ a1) ∧ (((decide ((szL a0.occ a1) < 0)) = true → (-1) = res) ∧ ((!(decide ((szL a0.occ a1) < 0))) = true → (okL a0.points (szL a0.occ a1)) ∧ (laws_szFrame_C1 a0 a1 res)))
theorem laws_szFrame_V (a0 : Frame) (a1 : Int) (hp : okL a0 a1) : FnV Try.prog 40 [.agg (eFrame false a0), ai a1] (ai (szFrame a0 a1)) := (fun (h : laws_szFrame_C a0 a1 (szFrame a0 a1)) => FnV.run (ps := [.frame, .int]) (rs := [.int]) (x := (a0, a1, ())) (r := ((szFrame a0 a1), ())) ⟨24, ecs, [laws_szBoolS_c, laws_szPointS_c, laws_szHeldS_c]⟩ ⟨[], []⟩ .nil Try.func40 h) (by
 unfold laws_szFrame_C laws_szFrame_C1 szFrame frameN szL szHelds
 have hp : 0 ≤ a1 ∧ a1 ≤ 1048576 := hp
 refine ⟨hp, sz_step (m := a0.points.length + heldsN a0.ways) hp (by omega) fun c k => ⟨k, ?_⟩⟩
 rw [lessN_plus hp.1 c]
 refine sz_step (m := heldsN a0.ways) hp (by omega) fun c k => ⟨k, ?_⟩
 rw [lessN_plus hp.1 c]
 exact sz_step (m := 0) hp (by omega) fun c k => rfl)
def laws_szFrame_c : Ctr Try.prog := ⟨40, [.frame, .int], [.int], some fun x => okL x.1 x.2.1, fun x => ((szFrame x.1 x.2.1), ()), fun x h => laws_szFrame_V x.1 x.2.1 h⟩
def laws_toPoint_C (a0 : Point) (res : Point) : Prop :=
 (a0.want = res.want) ∧ (a0.lies = res.lies)
theorem laws_toPoint_V (a0 : Point) : FnV Try.prog 141 [.agg (ePoint a0)] (.agg (ePoint (idt a0))) := (fun (h : laws_toPoint_C a0 (idt a0)) => FnV.run (ps := [.point]) (rs := [.point]) (x := (a0, ())) (r := ((idt a0), ())) ⟨11, ecs, []⟩ ⟨[], []⟩ .nil Try.func141 h) (by
 exact ⟨rfl, rfl⟩)
def laws_toPoint_c : Ctr Try.prog := ⟨141, [.point], [.point], none, fun x => ((idt x.1), ()), fun x h => laws_toPoint_V x.1⟩
def laws_toPointS_C1 (I0 : (List Point) → Int → Prop) (m0 : (List Point) → Int → Nat) (a0 res : (List Point)) : Prop :=
  I0 (List.replicate (a0.length : Int).toNat ({ want := (0 : Int), lies := (0 : Int) } : Point)) 0 ∧ ∀ (x0 : (List Point)) (v4 : Int), I0 x0 v4 → (((decide (v4 < (a0.length : Int))) = false → x0.length ≤ 4611686018427387904 ∧ x0 = res) ∧ ((decide (v4 < (a0.length : Int))) = true → ((0 ≤ v4 ∧ v4.toNat < a0.length) ∧ ((0 ≤ v4 ∧ v4.toNat < x0.length) ∧ (v4.toNat < x0.length))) ∧ (I0 (x0.set v4.toNat (idt (nth a0 v4))) (IntKind.i64.wrap (v4 + 1)) ∧ m0 (x0.set v4.toNat (idt (nth a0 v4))) (IntKind.i64.wrap (v4 + 1)) < m0 x0 v4)))
def laws_toPointS_C (a0 : (List Point)) (res : (List Point)) (I0 : (List Point) → Int → Prop) (m0 : (List Point) → Int → Nat) : Prop :=
 (a0.length ≤ 4611686018427387904 → 0 ≤ (a0.length : Int) ∧ 16 * (a0.length : Int) ≤ 140737488355328 ∧ (a0.length : Int) ≤ 4611686018427387904) ∧ (a0.length ≤ 4611686018427387904 → laws_toPointS_C1 I0 m0 a0 res)
theorem laws_toPointS_V (a0 : (List Point)) (hp : small a0) : FnV Try.prog 101 [al ePoint a0] (af ePoint (idt a0)) := (fun (I0 : (List Point) → Int → Prop) (m0 : (List Point) → Int → Nat) (h : laws_toPointS_C a0 (idt a0) I0 m0) => FnV.run (ps := [(.l .point)]) (rs := [(.l .point)]) (x := (a0, ())) (r := ((idt a0), ())) ⟨23, ecs, [laws_toPoint_c]⟩ ⟨[10], []⟩ (.lp [] [0] [] [(.l .point), .int] [kb 0, 4] (fun w0 => [(3, .ref 0 0 w0.1.length false), (4, .i .i64 w0.2.1), (kb 0, .blk 0 .point w0.1 _ rfl)]) (fun w0 => I0 w0.1 w0.2.1) (fun w0 => m0 w0.1 w0.2.1) fun _ => .nil) Try.func101 h) (fillI a0 idt ({ want := (0 : Int), lies := (0 : Int) } : Point)) (fillM a0) (by
 unfold laws_toPointS_C laws_toPointS_C1
 have hp : a0.length ≤ 1048576 := hp
 exact ⟨fun hn => ⟨len0 _, by omega, by omega⟩, fun hn => fill_loop0 (f := idt) hn (map_idt _)⟩)
def laws_toPointS_c : Ctr Try.prog := ⟨101, [(.l .point)], [(.l .point)], some fun x => small x.1, fun x => ((idt x.1), ()), fun x h => laws_toPointS_V x.1 h⟩
def laws_toHeld_C (a0 : Held) (res : Held) : Prop :=
 (small a0.been) ∧ ((a0.state = res.state) ∧ (a0.gone = res.gone) ∧ ((idt a0.been) = res.been) ∧ (a0.shown = res.shown) ∧ (a0.timer = res.timer))
theorem laws_toHeld_V (a0 : Held) (hp : smallH a0) : FnV Try.prog 142 [.agg (eHeld false a0)] (.agg (eHeld true (idt a0))) := (fun (h : laws_toHeld_C a0 (idt a0)) => FnV.run (ps := [.held]) (rs := [.held]) (x := (a0, ())) (r := ((idt a0), ())) ⟨21, ecs, [laws_toBoolS_c]⟩ ⟨[], []⟩ .nil Try.func142 h) (by
 exact ⟨hp, rfl, rfl, rfl, rfl, rfl⟩)
def laws_toHeld_c : Ctr Try.prog := ⟨142, [.held], [.held], some fun x => smallH x.1, fun x => ((idt x.1), ()), fun x h => laws_toHeld_V x.1 h⟩
def laws_toHeldS_C1 (I0 : (List Held) → Int → Prop) (m0 : (List Held) → Int → Nat) (a0 res x0 : (List Held)) (v4 : Int) : Prop :=
  ((decide (v4 < (a0.length : Int))) = false → x0.length ≤ 4611686018427387904 ∧ x0 = res) ∧ ((decide (v4 < (a0.length : Int))) = true → ((0 ≤ v4 ∧ v4.toNat < a0.length) ∧ ((smallH (nth a0 v4)) ∧ ((0 ≤ v4 ∧ v4.toNat < x0.length) ∧ (v4.toNat < x0.length)))) ∧ (I0 (x0.set v4.toNat (idt (nth a0 v4))) (IntKind.i64.wrap (v4 + 1)) ∧ m0 (x0.set v4.toNat (idt (nth a0 v4))) (IntKind.i64.wrap (v4 + 1)) < m0 x0 v4))
def laws_toHeldS_C2 (I0 : (List Held) → Int → Prop) (m0 : (List Held) → Int → Nat) (a0 res : (List Held)) : Prop :=
  (a0.length ≤ 4611686018427387904 → 0 ≤ (a0.length : Int) ∧ 56 * (a0.length : Int) ≤ 140737488355328 ∧ (a0.length : Int) ≤ 4611686018427387904) ∧ (a0.length ≤ 4611686018427387904 → I0 (List.replicate (a0.length : Int).toNat ({ state := (0 : Int), gone := (0 : Int), been := ([] : (List Bool)), shown := false, timer := (0 : Int) } : Held)) 0 ∧ ∀ (x0 : (List Held)) (v4 : Int), I0 x0 v4 → (laws_toHeldS_C1 I0 m0 a0 res x0 v4))
def laws_toHeldS_C (a0 : (List Held)) (res : (List Held)) (I0 : (List Held) → Int → Prop) (m0 : (List Held) → Int → Nat) : Prop :=
 laws_toHeldS_C2 I0 m0 a0 res
theorem laws_toHeldS_V (a0 : (List Held)) (hp : smallHs a0) : FnV Try.prog 102 [al (eHeld false) a0] (af (eHeld false) (idt a0)) := (fun (I0 : (List Held) → Int → Prop) (m0 : (List Held) → Int → Nat) (h : laws_toHeldS_C a0 (idt a0) I0 m0) => FnV.run (ps := [(.l .held)]) (rs := [(.l .held)]) (x := (a0, ())) (r := ((idt a0), ())) ⟨23, ecs, [laws_toHeld_c]⟩ ⟨[10], []⟩ (.lp [] [0] [] [(.l .held), .int] [kb 0, 4] (fun w0 => [(3, .ref 0 0 w0.1.length false), (4, .i .i64 w0.2.1), (kb 0, .blk 0 .held w0.1 _ rfl)]) (fun w0 => I0 w0.1 w0.2.1) (fun w0 => m0 w0.1 w0.2.1) fun _ => .nil) Try.func102 h) (fillI a0 idt ({ state := (0 : Int), gone := (0 : Int), been := ([] : (List Bool)), shown := false, timer := (0 : Int) } : Held)) (fillM a0) (by
 unfold laws_toHeldS_C laws_toHeldS_C2 laws_toHeldS_C1
 have hp : a0.length + (a0.map fun h => h.been.length).sum ≤ 1048576 := hp
 refine ⟨fun hn => ⟨len0 _, by omega, by omega⟩, fun hn => fill_loop (f := idt) (φ := fun v => smallH (nth a0 v)) hn (map_idt _) fun v _ hv => ?_⟩
 have := mem_sum (fun h : Held => h.been.length) (nth_mem hv)
 unfold smallH; omega)
def laws_toHeldS_c : Ctr Try.prog := ⟨102, [(.l .held)], [(.l .held)], some fun x => smallHs x.1, fun x => ((idt x.1), ()), fun x h => laws_toHeldS_V x.1 h⟩
def laws_toFrame_C (a0 : Frame) (res : Frame) : Prop :=
 (small a0.occ) ∧ ((small a0.points) ∧ ((smallHs a0.ways) ∧ ((a0.ok = res.ok) ∧ ((idt a0.occ) = res.occ) ∧ ((idt a0.points) = res.points) ∧ ((idt a0.ways) = res.ways))))
theorem laws_toFrame_V (a0 : Frame) (hp : smallFr a0) : FnV Try.prog 42 [.agg (eFrame false a0)] (.agg (eFrame true (idt a0))) := (fun (h : laws_toFrame_C a0 (idt a0)) => FnV.run (ps := [.frame]) (rs := [.frame]) (x := (a0, ())) (r := ((idt a0), ())) ⟨20, ecs, [laws_toBoolS_c, laws_toPointS_c, laws_toHeldS_c]⟩ ⟨[], []⟩ .nil Try.func42 h) (by
 have hp : a0.occ.length + a0.points.length + heldsN a0.ways ≤ 1048576 := hp
 unfold laws_toFrame_C small smallHs
 exact ⟨by omega, by omega, by omega, rfl, rfl, rfl, rfl⟩)
def laws_toFrame_c : Ctr Try.prog := ⟨42, [.frame], [.frame], some fun x => smallFr x.1, fun x => ((idt x.1), ()), fun x h => laws_toFrame_V x.1 h⟩
end Go.Proofs.Ytglpfccgmfhkdaa.Fw
/- Who holds what. -/

set_option linter.unusedVariables false
namespace Go.Proofs.Ytglpfccgmfhkdaa.Fw
open Go
def isIn (a n : Int) : Bool := decide (0 ≤ a) && decide (a < n)
theorem isIn_iff {a n : Int} : isIn a n = true ↔ 0 ≤ a ∧ a < n := by unfold isIn; simp
theorem isIn_R {a n : Int} : inR a 0 (n - 1) = isIn a n := by unfold isIn inR; rw [Bool.eq_iff_iff]; simp; omega
def yes3 {α β γ : Type} (a : α) (b : β) (c : γ) : Bool := true
structure Fit (p : Plan) (f : Frame) : Prop where
 good : planGood p = true
 fr : FrameIn p f
theorem frameOk_fit {p : Plan} {f : Frame} (h : frameOk p f = true) : Fit p f := by
 obtain ⟨h1, h2, h3, h4, h5⟩ := frameOk_iff.1 h
 refine ⟨(frBase_iff.1 h1).1, frame_in h1 fun i i0 i1 => ?_⟩
 have := h3 i i0 i1
 rw [heldOk_parts, Bool.and_eq_true] at this; exact this.1
theorem Fit.in {p : Plan} {f : Frame} (h : Fit p f) : PlanIn p := planGood_in h.good
def frameSm3 (p : Plan) (f : Frame) (i : Int) : Prop := smallF f
def holdsF (p : Plan) (f : Frame) (i s : Int) : Bool := ((nth f.ways i).state != 0) && ((nth p.ways i).sections.drop (nth f.ways i).gone.toNat).contains s
def holdsPre (p : Plan) (f : Frame) (i s : Int) : Prop := Fit p f ∧ 0 ≤ i ∧ i < p.ways.length
theorem secs_nodup {p : Plan} (h : planGood p = true) {w : Way} (hw : w ∈ p.ways) : w.sections.Nodup := (listOk_iff.1 (wayGood_iff.1 ((planGood_parts h).2.2.1 w hw)).2.1).2.2
theorem drop_has {l : List Int} {g : Nat} {s : Int} : (l.drop g).contains s = true ↔ ∃ k, g ≤ k ∧ ∃ h : k < l.length, l[k] = s := by
 rw [List.contains_iff_mem, List.mem_iff_getElem]
 constructor
 ·rintro ⟨i, hi, he⟩
  rw [List.length_drop] at hi
  rw [List.getElem_drop] at he
  exact ⟨g + i, by omega, by omega, he⟩
 ·rintro ⟨k, hg, hk, he⟩
  refine ⟨k - g, by rw [List.length_drop]; omega, ?_⟩
  rw [List.getElem_drop]
  simp only [show g + (k - g) = k by omega]; exact he
theorem has_eq {l : List Int} (hn : l.Nodup) {g s : Int} (h0 : 0 ≤ g) : (decide (idxInt l s ≥ g) && decide (idxInt l s ≥ 0)) = (l.drop g.toNat).contains s := by
 unfold idxInt
 cases h : first l (fun x => s == x) with
 | none =>
  have : (l.drop g.toNat).contains s = false := by
   rw [← Bool.not_eq_true, drop_has]
   rintro ⟨k, _, hk, he⟩
   have := first_none' h _ (List.getElem_mem hk)
   rw [he] at this; simp at this
  rw [this]; simp [optI]
 | some i =>
  unfold first at h
  rw [List.findIdx?_eq_some_iff_getElem] at h
  obtain ⟨hi, hx, _⟩ := h
  have hx : s = l[i] := by simpa using hx
  have hx := hx.symm
  rw [Bool.eq_iff_iff, drop_has]
  show (decide ((i : Int) ≥ g) && decide ((i : Int) ≥ 0)) = true ↔ _
  simp only [Bool.and_eq_true, decide_eq_true_eq]
  constructor
  ·intro h; exact ⟨i, by omega, hi, hx⟩
  ·rintro ⟨k, hg, hk, he⟩
   have : k = i := by
    exact (List.getElem_inj hn).1 (he.trans hx.symm)
   omega
end Go.Proofs.Ytglpfccgmfhkdaa.Fw
/- Why a way can't be set, and who keeps it from being set. -/

set_option linter.unusedVariables false
namespace Go.Proofs.Ytglpfccgmfhkdaa.Fw
open Go
def filtI (q : Int → Bool) (v : Int) : List Int := ((List.range v.toNat).filter fun i => q (i : Nat)).map fun i => ((i : Nat) : Int)
theorem filt_0 (q : Int → Bool) : filtI q 0 = [] := rfl
theorem filt_s {q : Int → Bool} {v : Int} (h : 0 ≤ v) : filtI q (v + 1) = if q v = true then filtI q v ++ [v] else filtI q v := by
 unfold filtI
 rw [show (v + 1).toNat = v.toNat + 1 by omega, List.range_succ, List.filter_append, List.map_append]
 have hv : ((v.toNat : Nat) : Int) = v := by omega
 cases hq : q v with
 | true => simp [hv, hq]
 | false => simp [hv, hq]
theorem filt_len (q : Int → Bool) (v : Int) : (filtI q v).length ≤ v.toNat := by
 unfold filtI
 rw [List.length_map]
 exact Nat.le_trans (List.length_filter_le _ _) (by simp)
def lieEq (x : Lie) (k : Int) : Bool := x.sw == k
def idxLie (l : List Lie) (k : Int) : Int := optI (first l (fun x => x.sw == k))
def lieIn (l : List Lie) (k : Int) : Bool := l.any fun x => x.sw == k
theorem idxLie_in (l : List Lie) (k : Int) : (decide (idxLie l k ≥ 0)) = lieIn l k := by
 unfold idxLie lieIn
 cases h : first l (fun x => x.sw == k) with
 | none =>
  rw [List.any_eq_false.2 fun x hx => by rw [first_none' h x hx]; simp]; rfl
 | some i =>
  unfold first at h
  rw [List.findIdx?_eq_some_iff_getElem] at h
  obtain ⟨hi, hx, _⟩ := h
  rw [List.any_eq_true.2 ⟨_, List.getElem_mem hi, hx⟩]
  show decide ((i : Int) ≥ 0) = true
  simp
def wantsF (p : Plan) (f : Frame) (i k : Int) : Bool := ((nth f.ways i).state != 0) && (lieIn (nth p.ways i).flanks k || (lieIn (nth p.ways i).lies k && holdsF p f i (nth p.switches k)))
def pointF (p : Plan) (f : Frame) (k : Int) : List Int := filtI (fun i => wantsF p f i k) p.ways.length
def pointPre (p : Plan) (f : Frame) (k : Int) : Prop := Fit p f ∧ 0 ≤ k ∧ k < p.switches.length
def wantsI (p : Plan) (f : Frame) (i k : Int) : Int := if (nth f.ways i).state = 0 then 0 else match first (nth p.ways i).flanks (fun x => x.sw == k) with
 | some j => (nth (nth p.ways i).flanks j).lie
 | none => match first (nth p.ways i).lies (fun x => x.sw == k && holdsF p f i (nth p.switches k)) with
  | some j => (nth (nth p.ways i).lies j).lie
  | none => 0
def wantsPre (p : Plan) (f : Frame) (i k : Int) : Prop := Fit p f ∧ 0 ≤ i ∧ i < p.ways.length ∧ 0 ≤ k ∧ k < p.switches.length
theorem lies_12 {p : Plan} (h : planGood p = true) {w : Way} (hw : w ∈ p.ways) {l : Lie} (hl : l ∈ needs w) : l.lie = 1 ∨ l.lie = 2 := by
 have hg := wayGood_iff.1 ((planGood_parts h).2.2.1 w hw)
 have key : ∀ {ls : List Lie}, liesIn p ls = true → ∀ x ∈ ls, x.lie = 1 ∨ x.lie = 2 := fun h x hx => by
  have := (liesIn_iff.1 h).2.1 x hx
  rw [Bool.and_eq_true] at this
  have := inR_true.1 this.2
  omega
 rcases List.mem_append.1 hl with hl | hl
 ·exact key hg.2.2.2.2.1 l hl
 ·exact key hg.2.2.2.2.2.1 l hl
theorem first_mem {α : Type} [Inhabited α] {xs : List α} {q : α → Bool} {j : Nat} (h : first xs q = some j) : nth xs j ∈ xs ∧ q (nth xs j) = true := by
 unfold first at h
 rw [List.findIdx?_eq_some_iff_getElem] at h
 obtain ⟨hi, hx, _⟩ := h
 rw [nth_nat hi]
 exact ⟨List.getElem_mem hi, hx⟩
theorem wants_eq {p : Plan} {f : Frame} {i k : Int} (h : planGood p = true) (hi : i.toNat < p.ways.length) : decide (wantsI p f i k > 0) = wantsF p f i k := by
 unfold wantsI wantsF lieIn
 by_cases hs : (nth f.ways i).state = 0
 ·rw [if_pos hs, show ((nth f.ways i).state != 0) = false by simpa using hs]; rfl
 ·rw [if_neg hs, show ((nth f.ways i).state != 0) = true by simpa using hs, Bool.true_and]
  have hm := nth_mem hi
  cases h1 : first (nth p.ways i).flanks (fun x => x.sw == k) with
  | some j =>
   have := first_mem h1
   rw [List.any_eq_true.2 ⟨_, this⟩, Bool.true_or]
   have := lies_12 h hm (List.mem_append_right _ this.1)
   simp only [decide_eq_true_eq]; omega
  | none =>
   rw [List.any_eq_false.2 fun x hx => by rw [first_none' h1 x hx]; simp, Bool.false_or]
   cases h2 : first (nth p.ways i).lies (fun x => x.sw == k && holdsF p f i (nth p.switches k)) with
   | some j =>
    have := first_mem h2
    have h3 := this.2
    rw [Bool.and_eq_true] at h3
    rw [List.any_eq_true.2 ⟨_, this.1, h3.1⟩, h3.2, Bool.true_and]
    have := lies_12 h hm (List.mem_append_left _ this.1)
    simp only [decide_eq_true_eq]; omega
   | none =>
    have : ((nth p.ways i).lies.any (fun x => x.sw == k) && holdsF p f i (nth p.switches k)) = false := by
     rw [Bool.and_eq_false_iff]
     cases hh : holdsF p f i (nth p.switches k) with
     | false => exact .inr rfl
     | true =>
      refine .inl (List.any_eq_false.2 fun x hx => ?_)
      have := first_none' h2 x hx
      rw [hh, Bool.and_true] at this
      rw [this]; simp
    rw [this]; rfl
def hitW (p : Plan) (f : Frame) (w k : Int) : Bool := (k != w) && (((nth f.ways k).state != 0) && (bar p w k || (meets (nth p.ways w).sections (nth p.ways k).over || meets (nth p.ways w).over (nth p.ways k).sections)))
def hitS (p : Plan) (f : Frame) (w s : Int) : Bool := nth f.occ s && (hasInt (nth p.ways w).sections s || hasInt (nth p.ways w).over s)
def offP (p : Plan) (f : Frame) (w k : Int) : Bool := (needs (nth p.ways w)).any fun l => l.sw == k && !((nth f.points k).want == l.lie)
def lockP (p : Plan) (f : Frame) (k : Int) : Bool := decide (((pointF p f k).length : Int) > 0)
def occP (p : Plan) (f : Frame) (k : Int) : Bool := nth f.occ (nth p.switches k)
def hitP (p : Plan) (f : Frame) (w k : Int) : Bool := offP p f w k && (lockP p f k || occP p f k)
def staysF (p : Plan) (f : Frame) (w : Int) : Stays := ⟨filtI (hitW p f w) p.ways.length, filtI (hitS p f w) p.sections, filtI (hitP p f w) p.switches.length⟩
def fiveF (p : Plan) (f : Frame) (w : Int) : Bool := !(filtI (fun k => offP p f w k && lockP p f k) p.switches.length).isEmpty
def sixF (p : Plan) (f : Frame) (w : Int) : Bool := !(filtI (fun k => offP p f w k && occP p f k) p.switches.length).isEmpty
def blockedF (p : Plan) (f : Frame) (w : Int) : Stays × Bool × Bool := (staysF p f w, fiveF p f w, sixF p f w)
def codeF (p : Plan) (f : Frame) (w : Int) : Int := if (staysF p f w).ways ≠ [] then 3 else if (staysF p f w).sections ≠ [] then 4 else if fiveF p f w = true then 5 else if sixF p f w = true then 6 else 0
def stays3F (p : Plan) (f : Frame) (w : Int) : Stays × Int := (staysF p f w, codeF p f w)
def whyF (p : Plan) (f : Frame) (w : Int) : Int := if (nth f.ways w).state ≠ 0 then 2 else codeF p f w
def WhyF (p : Plan) (f : Frame) (w : Int) : Int := if frameOk p f && isIn w p.ways.length then whyF p f w else 1
def whyPre (p : Plan) (f : Frame) (w : Int) : Prop := Fit p f ∧ 0 ≤ w ∧ w < p.ways.length
theorem filt_step {q : Int → Bool} {N v : Int} (hn : N ≤ 4611686018427387904) (hI : upI N (fun _ => false) v) (hv : decide (v < N) = true) :
  (q v = true → filtI q v ++ [v] = filtI q (IntKind.i64.wrap (v + 1))) ∧ (q v = false → filtI q v = filtI q (IntKind.i64.wrap (v + 1))) ∧ (!(filtI q (IntKind.i64.wrap (v + 1))).isEmpty) = (!(filtI q v).isEmpty || q v) := by
 rw [wrap_up hn hI.1 (by simpa using hv), filt_s hI.1]
 refine ⟨fun h => by rw [if_pos h], fun h => by rw [if_neg (by rw [h]; simp)], ?_⟩
 cases h : q v with
 | true => simp
 | false => simp
theorem filt_end {q : Int → Bool} {N v : Int} (hI : upI N (fun _ => false) v) (hv : decide (v < N) = false) : filtI q v = filtI q N := by
 have : ¬ v < N := by simpa using hv
 have h1 := hI.2.1
 rw [show v = N by omega]
def needSeen (p : Plan) (f : Frame) (w k : Int) (j : Nat) : Bool := ((needs (nth p.ways w)).take j).any fun l => l.sw == k && !((nth f.points k).want == l.lie)
theorem seen_all (p : Plan) (f : Frame) (w k : Int) {j : Nat} (h : (needs (nth p.ways w)).length ≤ j) : needSeen p f w k j = offP p f w k := by
 unfold needSeen offP; rw [List.take_of_length_le h]
theorem seen_s {p : Plan} {f : Frame} {w k : Int} {j : Nat} (h : j < (needs (nth p.ways w)).length) : needSeen p f w k (j + 1) = (needSeen p f w k j || ((needs (nth p.ways w))[j].sw == k && !((nth f.points k).want == (needs (nth p.ways w))[j].lie))) := by
 unfold needSeen; rw [List.take_succ_eq_append_getElem h, List.any_append]; simp
theorem needs_once {p : Plan} (h : planGood p = true) {w : Way} (hw : w ∈ p.ways) : ((needs w).map (·.sw)).Nodup := (wayGood_iff.1 ((planGood_parts h).2.2.1 w hw)).2.2.2.2.2.2.1
theorem seen_no {p : Plan} {f : Frame} {w k : Int} {j : Nat} (hn : ((needs (nth p.ways w)).map (·.sw)).Nodup) (h : j < (needs (nth p.ways w)).length) (hk : ((needs (nth p.ways w))[j].sw == k) = true) : needSeen p f w k j = false := by
 unfold needSeen
 rw [List.any_eq_false]
 intro l hl
 obtain ⟨i, hi, rfl⟩ := List.mem_take_iff_getElem.1 hl
 have hi' : i < (needs (nth p.ways w)).length := by omega
 intro hc
 rw [Bool.and_eq_true] at hc
 have e1 : (needs (nth p.ways w))[i].sw = k := by simpa using hc.1
 have e2 : (needs (nth p.ways w))[j].sw = k := by simpa using hk
 have := (List.getElem_inj (xs := (needs (nth p.ways w)).map (·.sw)) (i := i) (j := j) (h₀ := by simpa using hi') (h₁ := by simpa using h) hn).1 (by simp [e1, e2])
 omega
def blkI (p : Plan) (f : Frame) (w k : Int) (x : List Int) (a b : Bool) (x' : List Int) (j : Int) (a' b' : Bool) : Prop :=
 upI (needs (nth p.ways w)).length (fun _ => false) j ∧ x' = (if (needSeen p f w k j.toNat && (lockP p f k || occP p f k)) = true then x ++ [k] else x) ∧ a' = (a || (needSeen p f w k j.toNat && lockP p f k)) ∧ b' = (b || (needSeen p f w k j.toNat && occP p f k))
def fiveN (p : Plan) (f : Frame) (w v : Int) : Bool := !(filtI (fun k => offP p f w k && lockP p f k) v).isEmpty
def sixN (p : Plan) (f : Frame) (w v : Int) : Bool := !(filtI (fun k => offP p f w k && occP p f k) v).isEmpty
def heldN (p : Plan) (f : Frame) (w v : Int) : Int := if fiveN p f w v = true then 5 else if sixN p f w v = true then 6 else 0
def lieFrom (a : Int) (l : List Lie) (k : Int) : Int := l.foldl (fun a x => bif x.sw == k then x.lie else a) a
theorem lieFrom_none {l : List Lie} {k : Int} (h : ∀ x ∈ l, (x.sw == k) = false) : ∀ a, lieFrom a l k = a := by
 induction l with
 | nil => intro a; rfl
 | cons x l ih =>
  intro a
  show lieFrom (bif x.sw == k then x.lie else a) l k = a
  rw [h x List.mem_cons_self]
  exact ih (fun y hy => h y (List.mem_cons_of_mem _ hy)) a
theorem lieFrom_some {l : List Lie} {k : Int} (hn : (l.map (·.sw)).Nodup) {x : Lie} (hx : x ∈ l) (hk : (x.sw == k) = true) : ∀ a, lieFrom a l k = x.lie := by
 induction l with
 | nil => cases hx
 | cons y l ih =>
  intro a
  show lieFrom (bif y.sw == k then y.lie else a) l k = x.lie
  rw [List.map_cons, List.nodup_cons] at hn
  rcases List.mem_cons.1 hx with rfl | hx
  ·rw [hk]
   refine lieFrom_none (fun z hz => ?_) _
   have hk : x.sw = k := by simpa using hk
   rw [← hk, beq_eq_false_iff_ne]
   intro e
   exact hn.1 (List.mem_map.2 ⟨z, hz, e⟩)
  ·exact ih hn.2 hx _
theorem lie_off {p : Plan} {f : Frame} {w k : Int} (h : planGood p = true) (hw : w.toNat < p.ways.length) : ((lieFrom 0 (needs (nth p.ways w)) k == 0) || (lieFrom 0 (needs (nth p.ways w)) k == (nth f.points k).want)) = !offP p f w k := by
 have hm := nth_mem hw
 have hn := needs_once h hm
 cases hf : first (needs (nth p.ways w)) (fun x => x.sw == k) with
 | none =>
  have hall := first_none' hf
  rw [lieFrom_none hall, show offP p f w k = false from List.any_eq_false.2 fun x hx => by rw [hall x hx]; simp]; rfl
 | some j =>
  obtain ⟨h1, h2⟩ := first_mem hf
  have hl := lies_12 h hm h1
  rw [lieFrom_some hn h1 h2]
  have z : ((nth (needs (nth p.ways w)) (j : Int)).lie == 0) = false := by rw [beq_eq_false_iff_ne]; omega
  rw [z, Bool.false_or]
  have ho : offP p f w k = !((nth f.points k).want == (nth (needs (nth p.ways w)) (j : Int)).lie) := by
   cases hb : ((nth f.points k).want == (nth (needs (nth p.ways w)) (j : Int)).lie) with
   | false => exact List.any_eq_true.2 ⟨_, h1, by rw [h2, hb]; rfl⟩
   | true =>
    refine List.any_eq_false.2 fun x hx hc => ?_
    rw [Bool.and_eq_true] at hc
    have e1 := lieFrom_some hn hx hc.1 0
    rw [lieFrom_some hn h1 h2] at e1
    rw [e1] at hb
    rw [hb] at hc; cases hc.2
  rw [ho, Bool.not_not, Bool.eq_iff_iff, beq_iff_eq, beq_iff_eq]
  exact ⟨Eq.symm, Eq.symm⟩
end Go.Proofs.Ytglpfccgmfhkdaa.Fw
