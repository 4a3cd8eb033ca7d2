/- Why a way can't be set, and who keeps it from being set. -/

import Derived.Test.YtglpfccgmfhkdaaSpI
set_option linter.unusedVariables false
namespace Go.Proofs.Ytglpfccgmfhkdaa.Fw
open Go
def filtI (q : Int → Bool) (v : Int) : List Int := ((List.range v.toNat).filter fun i => q (i : Nat)).map fun i => ((i : Nat) : Int)
theorem filt_s {q : Int → Bool} {v : Int} (h : 0 ≤ v) : filtI q (v + 1) = if q v = true then filtI q v ++ [v] else filtI q v := by
 unfold filtI
 rw [show (v + 1).toNat = v.toNat + 1 by omega, List.range_succ, List.filter_append, List.map_append]
 have hv : ((v.toNat : Nat) : Int) = v := by omega
 cases hq : q v with
 | true => simp [hv, hq]
 | false => simp [hv, hq]
theorem filt_len (q : Int → Bool) (v : Int) : (filtI q v).length ≤ v.toNat := by
 unfold filtI
 rw [List.length_map]
 exact Nat.le_trans (List.length_filter_le _ _) (by simp)
def lieEq (x : Lie) (k : Int) : Bool := x.sw == k
def idxLie (l : List Lie) (k : Int) : Int := optI (first l (fun x => x.sw == k))
def lieIn (l : List Lie) (k : Int) : Bool := l.any fun x => x.sw == k
theorem idxLie_in (l : List Lie) (k : Int) : (decide (idxLie l k ≥ 0)) = lieIn l k := by
 unfold idxLie lieIn
 cases h : first l (fun x => x.sw == k) with
 | none =>
  rw [List.any_eq_false.2 fun x hx => by rw [first_none' h x hx]; simp]; rfl
 | some i =>
  unfold first at h
  rw [List.findIdx?_eq_some_iff_getElem] at h
  obtain ⟨hi, hx, _⟩ := h
  rw [List.any_eq_true.2 ⟨_, List.getElem_mem hi, hx⟩]
  show decide ((i : Int) ≥ 0) = true
  simp
def wantsF (p : Plan) (f : Frame) (i k : Int) : Bool := ((nth f.ways i).state != 0) && (lieIn (nth p.ways i).flanks k || (lieIn (nth p.ways i).lies k && holdsF p f i (nth p.switches k)))
def pointF (p : Plan) (f : Frame) (k : Int) : List Int := filtI (fun i => wantsF p f i k) p.ways.length
def pointPre (p : Plan) (f : Frame) (k : Int) : Prop := Fit p f ∧ 0 ≤ k ∧ k < p.switches.length
def hitW (p : Plan) (f : Frame) (w k : Int) : Bool := (k != w) && (((nth f.ways k).state != 0) && (bar p w k || (meets (nth p.ways w).sections (nth p.ways k).over || meets (nth p.ways w).over (nth p.ways k).sections)))
def hitS (p : Plan) (f : Frame) (w s : Int) : Bool := nth f.occ s && (hasInt (nth p.ways w).sections s || hasInt (nth p.ways w).over s)
def offP (p : Plan) (f : Frame) (w k : Int) : Bool := (needs (nth p.ways w)).any fun l => l.sw == k && !((nth f.points k).want == l.lie)
def lockP (p : Plan) (f : Frame) (k : Int) : Bool := decide (((pointF p f k).length : Int) > 0)
def occP (p : Plan) (f : Frame) (k : Int) : Bool := nth f.occ (nth p.switches k)
def hitP (p : Plan) (f : Frame) (w k : Int) : Bool := offP p f w k && (lockP p f k || occP p f k)
def staysF (p : Plan) (f : Frame) (w : Int) : Stays := ⟨filtI (hitW p f w) p.ways.length, filtI (hitS p f w) p.sections, filtI (hitP p f w) p.switches.length⟩
def fiveF (p : Plan) (f : Frame) (w : Int) : Bool := !(filtI (fun k => offP p f w k && lockP p f k) p.switches.length).isEmpty
def sixF (p : Plan) (f : Frame) (w : Int) : Bool := !(filtI (fun k => offP p f w k && occP p f k) p.switches.length).isEmpty
def blockedF (p : Plan) (f : Frame) (w : Int) : Stays × Bool × Bool := (staysF p f w, fiveF p f w, sixF p f w)
def codeF (p : Plan) (f : Frame) (w : Int) : Int := if (staysF p f w).ways ≠ [] then 3 else if (staysF p f w).sections ≠ [] then 4 else if fiveF p f w = true then 5 else if sixF p f w = true then 6 else 0
def whyF (p : Plan) (f : Frame) (w : Int) : Int := if (nth f.ways w).state ≠ 0 then 2 else codeF p f w
def whyPre (p : Plan) (f : Frame) (w : Int) : Prop := Fit p f ∧ 0 ≤ w ∧ w < p.ways.length
theorem filt_step {q : Int → Bool} {N v : Int} (hn : N ≤ 4611686018427387904) (hI : upI N (fun _ => false) v) (hv : decide (v < N) = true) :
  (q v = true → filtI q v ++ [v] = filtI q (IntKind.i64.wrap (v + 1))) ∧ (q v = false → filtI q v = filtI q (IntKind.i64.wrap (v + 1))) ∧ (!(filtI q (IntKind.i64.wrap (v + 1))).isEmpty) = (!(filtI q v).isEmpty || q v) := by
 rw [wrap_up hn hI.1 (by simpa using hv), filt_s hI.1]
 refine ⟨fun h => by rw [if_pos h], fun h => by rw [if_neg (by rw [h]; simp)], ?_⟩
 cases h : q v with
 | true => simp
 | false => simp
theorem filt_end {q : Int → Bool} {N v : Int} (hI : upI N (fun _ => false) v) (hv : decide (v < N) = false) : filtI q v = filtI q N := by
 have : ¬ v < N := by simpa using hv
 have h1 := hI.2.1
 rw [show v = N by omega]
def needSeen (p : Plan) (f : Frame) (w k : Int) (j : Nat) : Bool := ((needs (nth p.ways w)).take j).any fun l => l.sw == k && !((nth f.points k).want == l.lie)
theorem seen_all (p : Plan) (f : Frame) (w k : Int) {j : Nat} (h : (needs (nth p.ways w)).length ≤ j) : needSeen p f w k j = offP p f w k := by
 unfold needSeen offP; rw [List.take_of_length_le h]
theorem seen_s {p : Plan} {f : Frame} {w k : Int} {j : Nat} (h : j < (needs (nth p.ways w)).length) : needSeen p f w k (j + 1) = (needSeen p f w k j || ((needs (nth p.ways w))[j].sw == k && !((nth f.points k).want == (needs (nth p.ways w))[j].lie))) := by
 unfold needSeen; rw [List.take_succ_eq_append_getElem h, List.any_append]; simp
theorem needs_once {p : Plan} (h : planGood p = true) {w : Way} (hw : w ∈ p.ways) : ((needs w).map (·.sw)).Nodup := (wayGood_iff.1 ((planGood_parts h).2.2.1 w hw)).2.2.2.2.2.2.1
theorem seen_no {p : Plan} {f : Frame} {w k : Int} {j : Nat} (hn : ((needs (nth p.ways w)).map (·.sw)).Nodup) (h : j < (needs (nth p.ways w)).length) (hk : ((needs (nth p.ways w))[j].sw == k) = true) : needSeen p f w k j = false := by
 unfold needSeen
 rw [List.any_eq_false]
 intro l hl
 obtain ⟨i, hi, rfl⟩ := List.mem_take_iff_getElem.1 hl
 have hi' : i < (needs (nth p.ways w)).length := by omega
 intro hc
 rw [Bool.and_eq_true] at hc
 have e1 : (needs (nth p.ways w))[i].sw = k := by simpa using hc.1
 have e2 : (needs (nth p.ways w))[j].sw = k := by simpa using hk
 have := (List.getElem_inj (xs := (needs (nth p.ways w)).map (·.sw)) (i := i) (j := j) (h₀ := by simpa using hi') (h₁ := by simpa using h) hn).1 (by simp [e1, e2])
 omega
def blkI (p : Plan) (f : Frame) (w k : Int) (x : List Int) (a b : Bool) (x' : List Int) (j : Int) (a' b' : Bool) : Prop :=
 upI (needs (nth p.ways w)).length (fun _ => false) j ∧ x' = (if (needSeen p f w k j.toNat && (lockP p f k || occP p f k)) = true then x ++ [k] else x) ∧ a' = (a || (needSeen p f w k j.toNat && lockP p f k)) ∧ b' = (b || (needSeen p f w k j.toNat && occP p f k))
def fiveN (p : Plan) (f : Frame) (w v : Int) : Bool := !(filtI (fun k => offP p f w k && lockP p f k) v).isEmpty
def sixN (p : Plan) (f : Frame) (w v : Int) : Bool := !(filtI (fun k => offP p f w k && occP p f k) v).isEmpty
end Go.Proofs.Ytglpfccgmfhkdaa.Fw
