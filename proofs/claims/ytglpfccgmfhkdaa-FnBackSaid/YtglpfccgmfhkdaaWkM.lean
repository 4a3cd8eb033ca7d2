/- Walks and summaries of functions, printed by a program of mine (tools/mk.py), with the proofs of what they owe. -/

import Derived.Test.YtglpfccgmfhkdaaProg
import Derived.Test.YtglpfccgmfhkdaaSpI
import Derived.Test.YtglpfccgmfhkdaaWkA
import Derived.Test.YtglpfccgmfhkdaaWkI
set_option linter.unusedVariables false
set_option maxRecDepth 100000
set_option maxHeartbeats 4000000
set_option linter.unusedSimpArgs false
namespace Go.Proofs.Ytglpfccgmfhkdaa.Fw
open Go
attribute [local irreducible] evS evSD WpS Weak Oper.looksAt
noncomputable def impl_has_b : Code := bodyC Try.f152
def impl_has_C (a0 : Plan) (a1 : Frame) (a2 : Int) (a3 : Int) (res : Bool) : Prop :=
 (0 ≤ a2 ∧ a2.toNat < a0.ways.length) ∧ (((0 ≤ a2 ∧ a2.toNat < a1.ways.length) ∧ ((((nth a1.ways a2).state) != 0) = true → 0 ≤ a2 ∧ a2.toNat < a1.ways.length)) ∧ (((((nth a1.ways a2).state) != 0) && ((decide ((idxInt ((nth a0.ways a2).sections) a3) ≥ ((nth a1.ways a2).gone))) && (decide ((idxInt ((nth a0.ways a2).sections) a3) ≥ 0)))) = res))
theorem impl_has_walk (a0 : Plan) (a1 : Frame) (a2 : Int) (a3 : Int) (res : Bool) (h : impl_has_C a0 a1 a2 a3 res) : FnV Try.prog 152 [.agg (ePlan false a0), .agg (eFrame false a1), ai a2, ai a3] (ab res) := by
 unfold impl_has_C at h
 refine FnS.go (fn := Try.f152) [(0, .agg (ePlan false a0)), (1, .agg (eFrame false a1)), (2, ai a2), (3, ai a3)] Try.func152 ?_
 show WpS _ (nv impl_has_b 1) _ ⟨mkS 39 [(0, .agg (ePlan false a0)), (1, .agg (eFrame false a1)), (2, ai a2), (3, ai a3)], [], []⟩
 refine cRN [] 0 [(8, ab false), (5, ap 5 0), (4, ap 4 0)] [0, 1, 2] [0, 2, 2] [(5, (eFrame false a1)), (4, (ePlan false a0))] [] ?_
 obtain ⟨q10, h⟩ := h
 refine cSeqM [(9, ai (idxInt ((nth a0.ways a2).sections) a3))] [1, 1, 1] (True) ?_ (fun q2 => ?_)
 ·
  replace h := q10
  refine rgS [] 1 ?_
  have q3 := h
  refine sIdx 4 (some 13) [(12, ai a2), (11, al (eWay false) a0.ways), (10, ap 4 2)] (eWay false) a0.ways 5 q3 ?_
  refine sCallV 4 (some 17) [(16, ai a3), (15, al eInt ((nth a0.ways a2).sections)), (14, .rp (eWay false (nth a0.ways a2)) 0)] [al eInt ((nth a0.ways a2).sections), ai a3] (slices_Index_int_V ((nth a0.ways a2).sections) a3) (PW.cons (Snap2.of1 sa_lst) (PW.cons (Snap2.of1 (.int _ _)) PW.nil)) ?_
  exact sEJ [(9, ai (idxInt ((nth a0.ways a2).sections) a3))] trivial
 obtain ⟨q9, h⟩ := h
 refine cSeqM [(8, ab ((((nth a1.ways a2).state) != 0) && ((decide ((idxInt ((nth a0.ways a2).sections) a3) ≥ ((nth a1.ways a2).gone))) && (decide ((idxInt ((nth a0.ways a2).sections) a3) ≥ 0)))))] [] (True) ?_ (fun q4 => ?_)
 ·
  replace h := q9
  refine rgS [] 2 ?_
  obtain ⟨q8, h⟩ := h
  refine sIdx 4 (some 21) [(20, ai a2), (19, al (eHeld false) a1.ways), (18, ap 5 3)] (eHeld false) a1.ways 5 q8 ?_
  refine sCase1 4 25 (((nth a1.ways a2).state) != 0) [(24, ab (((nth a1.ways a2).state) != 0)), (23, ai ((nth a1.ways a2).state)), (22, .rp (eHeld false (nth a1.ways a2)) 0)] (fun q5 => ?_) (fun q5 => ?_)
  ·
   replace h := h q5
   have q7 := h
   refine sIdx 5 (some 30) [(29, ai a2), (28, al (eHeld false) a1.ways), (27, ap 5 3), (26, ai (idxInt ((nth a0.ways a2).sections) a3))] (eHeld false) a1.ways 5 q7 ?_
   refine sCase1 5 35 (decide ((idxInt ((nth a0.ways a2).sections) a3) ≥ ((nth a1.ways a2).gone))) [(34, ab (decide ((idxInt ((nth a0.ways a2).sections) a3) ≥ ((nth a1.ways a2).gone)))), (33, ab (decide ((idxInt ((nth a0.ways a2).sections) a3) ≥ ((nth a1.ways a2).gone)))), (32, ai ((nth a1.ways a2).gone)), (31, .rp (eHeld false (nth a1.ways a2)) 1)] (fun q6 => ?_) (fun q6 => ?_)
   ·
    exact sEJ [(8, ab (decide ((idxInt ((nth a0.ways a2).sections) a3) ≥ 0))), (38, ab (decide ((idxInt ((nth a0.ways a2).sections) a3) ≥ 0))), (37, ab (decide ((idxInt ((nth a0.ways a2).sections) a3) ≥ 0))), (36, ai (idxInt ((nth a0.ways a2).sections) a3))] trivial (by simp only [q5, q6] <;> kernel_rfl)
   ·
    exact sEJ ([(8, ab false), (38, ab false)] ++ tz [37, 36]) trivial (by simp only [q5, q6] <;> kernel_rfl)
  ·
   exact sEJ ([(8, ab false), (38, ab false)] ++ tz [37, 36] ++ [(35, ab false), (34, ab false)] ++ tz [33, 32, 31, 30, 29, 28, 27, 26]) trivial (by simp only [q5] <;> kernel_rfl)
 exact cRet (rt1 (ab ((((nth a1.ways a2).state) != 0) && ((decide ((idxInt ((nth a0.ways a2).sections) a3) ≥ ((nth a1.ways a2).gone))) && (decide ((idxInt ((nth a0.ways a2).sections) a3) ≥ 0))))) (SnapR3.of1 (sr_bool h)))
theorem impl_has_V (a0 : Plan) (a1 : Frame) (a2 : Int) (a3 : Int) (hp : holdsPre a0 a1 a2 a3) : FnV Try.prog 152 [.agg (ePlan false a0), .agg (eFrame false a1), ai a2, ai a3] (ab (holdsF a0 a1 a2 a3)) := impl_has_walk a0 a1 a2 a3 (holdsF a0 a1 a2 a3) (by
 unfold impl_has_C
 obtain ⟨hf, h0, h1⟩ := hp
 have hw := hf.fr.ways
 have hlt : a2.toNat < a0.ways.length := by omega
 have hlt1 : a2.toNat < a1.ways.length := by omega
 have hg := hf.fr.gone _ (nth_mem hlt1)
 refine ⟨⟨h0, hlt⟩, ⟨⟨h0, hlt1⟩, fun _ => ⟨h0, hlt1⟩⟩, ?_⟩
 unfold holdsF
 rw [has_eq (secs_nodup hf.good (nth_mem hlt)) hg.1])
end Go.Proofs.Ytglpfccgmfhkdaa.Fw
