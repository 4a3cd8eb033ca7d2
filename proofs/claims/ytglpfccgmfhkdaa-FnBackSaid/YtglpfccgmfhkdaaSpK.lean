/- What an event does; a run. -/

import Derived.Test.YtglpfccgmfhkdaaSpJ
set_option linter.unusedVariables false
namespace Go.Proofs.Ytglpfccgmfhkdaa.Fw
open Go
def beginF (p : Plan) : Frame := if planGood p = true then ⟨true, List.replicate p.sections.toNat false, List.replicate p.switches.length ⟨1, 1⟩, p.ways.map fun w => idleN w.sections.length⟩ else ⟨false, [], [], []⟩
def setPts (l : List Lie) (q : List Point) : List Point := l.foldl (fun q x => q.set x.sw.toNat ⟨x.lie, (nth q x.sw).lies⟩) q
theorem setPts_len (l : List Lie) : ∀ q : List Point, (setPts l q).length = q.length := by
 induction l with
 | nil => intro q; rfl
 | cons x l ih => intro q; show (setPts l _).length = _; rw [ih, List.length_set]
theorem setPts_s {l : List Lie} {q : List Point} {j : Nat} (h : j < l.length) : setPts (l.take (j + 1)) q = (setPts (l.take j) q).set l[j].sw.toNat ⟨l[j].lie, (nth (setPts (l.take j) q) l[j].sw).lies⟩ := by
 unfold setPts
 rw [List.take_succ_eq_append_getElem h, List.foldl_append]; rfl
def tickH (p : Plan) (i : Nat) (h : Held) : Held := if h.state = 3 then (if IntKind.i64.wrap (h.timer - 1) = 0 then idleH p i else { h with timer := IntKind.i64.wrap (h.timer - 1) }) else h
def tickN (p : Plan) : Nat → List Held → List Held
 | 0, ws => ws
 | n + 1, ws => let g := tickN p n ws; g.set n (tickH p n (nth g n))
theorem tick_len (p : Plan) (ws : List Held) : ∀ n, (tickN p n ws).length = ws.length
 | 0 => rfl
 | n + 1 => by show (List.set _ _ _).length = _; rw [List.length_set]; exact tick_len p ws n
def doCode (p : Plan) (f : Frame) (e : Event) : Int :=
 if e.op = 1 then whyF p f e.tgt
 else if e.op = 2 then (if (nth f.ways e.tgt).state ≠ 1 ∧ (nth f.ways e.tgt).state ≠ 2 then 2 else 0)
 else if e.op = 6 then (if lockP p f e.tgt = true then 2 else if occP p f e.tgt = true then 3 else 0)
 else 0
def doFr (p : Plan) (f : Frame) (e : Event) : Frame :=
 if e.op = 1 then { f with points := setPts (needs (nth p.ways e.tgt)) f.points, ways := f.ways.set e.tgt.toNat { nth f.ways e.tgt with state := 1 } }
 else if e.op = 2 then (if ((nth f.ways e.tgt).shown && someF f (nth p.ways e.tgt).near) = true then { f with ways := f.ways.set e.tgt.toNat { nth f.ways e.tgt with state := 3, timer := p.hold } } else { f with ways := f.ways.set e.tgt.toNat (idleH p e.tgt) })
 else if e.op = 3 ∨ e.op = 4 then { f with occ := f.occ.set e.tgt.toNat (e.op == 3) }
 else if e.op = 5 then { f with points := f.points.set e.tgt.toNat ⟨(nth f.points e.tgt).want, e.lie⟩ }
 else if e.op = 6 then { f with points := f.points.set e.tgt.toNat ⟨e.lie, (nth f.points e.tgt).lies⟩ }
 else if e.op = 7 then { f with ways := tickN p f.ways.length f.ways }
 else f
def doF (p : Plan) (f : Frame) (e : Event) : Done := if doCode p f e ≠ 0 then ⟨doCode p f e, f⟩ else ⟨0, settleF p (doFr p f e)⟩
def doPre (p : Plan) (f : Frame) (e : Event) : Prop := Fit p f ∧ evGood p e = true
theorem FrameIn.setW {p : Plan} {f : Frame} (h : FrameIn p f) {i : Nat} {x : Held} (hx : i < f.ways.length → x.been.length = (nth p.ways i).sections.length ∧ 0 ≤ x.gone ∧ x.gone ≤ x.been.length) : FrameIn p { f with ways := f.ways.set i x } := by
 refine ⟨h.occ, h.points, by rw [List.length_set]; exact h.ways, fun j y w h1 h2 => ?_, fun y hy => ?_⟩
 ·replace h1 : (f.ways.set i x)[j]? = some y := h1
  rw [List.getElem?_set] at h1
  split at h1
  ·rename_i e; subst e
   split at h1
   ·rename_i hn
    cases h1
    rw [(hx hn).1, nth_nat (by have := h.ways; omega)]
    rw [List.getElem?_eq_getElem (by have := h.ways; omega)] at h2
    cases h2; rfl
   ·cases h1
  ·exact h.been j y w h1 h2
 ·rcases List.mem_or_eq_of_mem_set hy with hy | rfl
  ·exact h.gone y hy
  ·by_cases hn : i < f.ways.length
   ·exact (hx hn).2
   ·rw [List.set_eq_of_length_le (by omega)] at hy
    exact h.gone _ hy
theorem FrameIn.at {p : Plan} {f : Frame} (h : FrameIn p f) {i : Nat} (hi : i < f.ways.length) : (nth f.ways i).been.length = (nth p.ways i).sections.length ∧ 0 ≤ (nth f.ways i).gone ∧ (nth f.ways i).gone ≤ (nth f.ways i).been.length := by
 have hj : i < p.ways.length := by have := h.ways; omega
 refine ⟨h.been i _ _ ?_ ?_, h.gone _ (nth_mem (by simpa using hi))⟩
 ·rw [nth_nat hi]; exact List.getElem?_eq_getElem hi
 ·rw [nth_nat hj]; exact List.getElem?_eq_getElem hj
theorem idle_ok (n : Nat) : (idleN n).been.length = n ∧ 0 ≤ (idleN n).gone ∧ (idleN n).gone ≤ (idleN n).been.length := by simp [idleN]
theorem tick_in {p : Plan} {f : Frame} (h : FrameIn p f) : ∀ n, FrameIn p { f with ways := tickN p n f.ways }
 | 0 => h
 | n + 1 => by
  have ih := tick_in h n
  show FrameIn p { f with ways := (tickN p n f.ways).set n (tickH p n (nth (tickN p n f.ways) n)) }
  refine FrameIn.setW ih (i := n) fun hn => ?_
  have ha := ih.at hn
  unfold tickH
  split
  ·split
   ·exact idle_ok _
   ·exact ha
  ·exact ha
theorem FrameIn.pts {p : Plan} {f : Frame} (h : FrameIn p f) {o : List Bool} {q : List Point} (ho : o.length = f.occ.length) (hq : q.length = f.points.length) : FrameIn p { f with occ := o, points := q } :=
 ⟨by show (o.length : Int) = _; rw [ho]; exact h.occ, by show q.length = _; rw [hq]; exact h.points, h.ways, h.been, h.gone⟩
theorem doFr_in {p : Plan} {f : Frame} {e : Event} (h : FrameIn p f) (h0 : e.op = 1 ∨ e.op = 2 → 0 ≤ e.tgt ∧ e.tgt < p.ways.length) : FrameIn p (doFr p f e) := by
 unfold doFr
 split
 ·rename_i ho
  have ht := h0 (.inl ho)
  have hl := h.ways
  have ha := h.at (i := e.tgt.toNat) (by omega)
  rw [nth_toNat ht.1] at ha
  exact FrameIn.setW (h.pts rfl (setPts_len _ _)) fun _ => ha
 ·split
  ·rename_i ho
   have ht := h0 (.inr ho)
   have hl := h.ways
   have ha := h.at (i := e.tgt.toNat) (by omega)
   rw [nth_toNat ht.1] at ha
   split
   ·exact h.setW fun _ => ha
   ·refine h.setW fun _ => ?_
    have := idle_ok (nth p.ways e.tgt).sections.length
    rw [nth_toNat ht.1]; exact this
  ·split
   ·exact h.pts (List.length_set) rfl
   ·split
    ·exact h.pts rfl (List.length_set)
    ·split
     ·exact h.pts rfl (List.length_set)
     ·split
      ·exact tick_in h _
      ·exact h
theorem ev_ways {p : Plan} {e : Event} (h : evGood p e = true) (ho : e.op = 1 ∨ e.op = 2) : 0 ≤ e.tgt ∧ e.tgt < p.ways.length := by
 rw [ev12 ho, Bool.and_eq_true] at h
 exact inR_lt h.1
theorem ev_secs {p : Plan} {e : Event} (h : evGood p e = true) (ho : e.op = 3 ∨ e.op = 4) : 0 ≤ e.tgt ∧ e.tgt < p.sections := by
 rw [ev34 (by omega) ho, Bool.and_eq_true] at h
 exact inR_lt h.1
theorem ev_sw {p : Plan} {e : Event} (h : evGood p e = true) (ho : e.op = 5 ∨ e.op = 6) : 0 ≤ e.tgt ∧ e.tgt < p.switches.length := by
 rcases ho with ho | ho
 ·rw [ev5 ho, Bool.and_eq_true] at h; exact inR_lt h.1
 ·rw [ev6 ho, Bool.and_eq_true] at h; exact inR_lt h.1
theorem fit_small {p : Plan} {f : Frame} (h : Fit p f) : smallF f := by
 have hP := h.in
 have hF := h.fr
 have h1 := hP.secs
 have h2 := hP.sw
 have h3 := hP.ways
 have h4 := hF.occ
 have h5 := hF.points
 have h6 := hF.ways
 refine ⟨by omega, by omega, by omega, fun x hx => ?_⟩
 obtain ⟨i, hi, rfl⟩ := List.mem_iff_getElem.1 hx
 have hj : i < p.ways.length := by omega
 have := (hP.sections _ (List.getElem_mem hj)).2.1
 rw [hF.been i _ _ (List.getElem?_eq_getElem hi) (List.getElem?_eq_getElem hj)]; omega
theorem do_fit {p : Plan} {f : Frame} {e : Event} (h : Fit p f) (he : evGood p e = true) : Fit p (doF p f e).frame := by
 unfold doF
 split
 ·exact h
 ·exact ⟨h.good, settleN_in (doFr_in h.fr (ev_ways he)) _⟩
theorem begin_fit {p : Plan} (h : planGood p = true) : Fit p (beginF p) := by
 have hP := planGood_in h
 have h1 := hP.secs
 unfold beginF
 rw [if_pos h]
 refine ⟨h, by show ((List.replicate _ _).length : Int) = _; rw [List.length_replicate]; omega, by show (List.replicate _ _).length = _; rw [List.length_replicate], by show (List.map _ _).length = _; rw [List.length_map], fun i x w e1 e2 => ?_, fun x hx => ?_⟩
 ·replace e1 : (List.map _ _)[i]? = some x := e1
  rw [List.getElem?_map, e2] at e1
  cases e1; simp [idleN]
 ·obtain ⟨w, _, rfl⟩ := List.mem_map.1 hx
  exact (idle_ok _).2
def runFrom (p : Plan) : Frame → List Event → List Done
 | _, [] => []
 | f, e :: es => if evGood p e = true then doF p f e :: runFrom p (doF p f e).frame es else ⟨1, f⟩ :: runFrom p f es
def lastOf (p : Plan) : Frame → List Event → Frame
 | f, [] => f
 | f, e :: es => lastOf p (if evGood p e = true then (doF p f e).frame else f) es
def runF (p : Plan) (es : List Event) : List Done := if planGood p = true ∧ es.length ≤ 1000 then runFrom p (beginF p) es else []
theorem run_app (p : Plan) (e : Event) : ∀ (es : List Event) (f : Frame), runFrom p f (es ++ [e]) = runFrom p f es ++ [if evGood p e = true then doF p (lastOf p f es) e else ⟨1, lastOf p f es⟩] ∧ lastOf p f (es ++ [e]) = (if evGood p e = true then (doF p (lastOf p f es) e).frame else lastOf p f es)
 | [], f => by
  show (if evGood p e = true then _ else _) = _ ∧ _
  constructor
  ·by_cases h : evGood p e = true
   ·rw [if_pos h]; simp [runFrom, lastOf, h]
   ·rw [if_neg h]; simp [runFrom, lastOf, h]
  ·rfl
 | d :: es, f => by
  have ih := fun g => run_app p e es g
  by_cases h : evGood p d = true
  ·simp only [List.cons_append, runFrom, lastOf, if_pos h]
   exact ⟨by rw [(ih _).1], (ih _).2⟩
  ·simp only [List.cons_append, runFrom, lastOf, if_neg h]
   exact ⟨by rw [(ih _).1], (ih _).2⟩
theorem last_fit {p : Plan} : ∀ (es : List Event) {f : Frame}, Fit p f → Fit p (lastOf p f es)
 | [], f, h => h
 | e :: es, f, h => by
  unfold lastOf
  by_cases he : evGood p e = true
  ·rw [if_pos he]; exact last_fit es (do_fit h he)
  ·rw [if_neg he]; exact last_fit es h
theorem run_len (p : Plan) : ∀ (es : List Event) (f : Frame), (runFrom p f es).length = es.length
 | [], f => rfl
 | e :: es, f => by
  unfold runFrom
  split
  ·rw [List.length_cons, run_len p es]; rfl
  ·rw [List.length_cons, run_len p es]; rfl
end Go.Proofs.Ytglpfccgmfhkdaa.Fw
