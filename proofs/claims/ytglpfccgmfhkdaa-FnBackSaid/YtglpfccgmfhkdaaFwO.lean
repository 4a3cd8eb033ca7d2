/- The framework, part O: a call that answers with blocks of its own; a call that writes. -/

import Derived.Test.YtglpfccgmfhkdaaFwN
set_option linter.unusedVariables false
namespace Go.Proofs.Ytglpfccgmfhkdaa.Fw
open Go
def ownv0 : AV → Bool
 | .lst _ _ fr => fr
 | .lptr _ _ | .rp _ _ | .agg _ | .tup _ | .fn _ _ => false
 | _ => true
def shift0 (k : Nat) : AV → AV
 | .ref b g o n f => .ref (k + b) g o n f
 | .ptr b g r c => .ptr (k + b) g r c
 | a => a
def ownv2 : AV → Bool
 | .agg l => l.all ownv0
 | a => ownv0 a
def shift2 (k : Nat) : AV → AV
 | .agg l => .agg (l.map (shift0 k))
 | a => shift0 k a
def ownv3 : AV → Bool
 | .tup l => l.all ownv2
 | a => ownv2 a
def shift3 (k : Nat) : AV → AV
 | .tup l => .tup (l.map (shift2 k))
 | a => shift2 k a
def shiftB (k : Nat) (b : Blk) : Blk := ⟨b.gen, b.sz, b.rows.map fun row => row.map (shift0 k)⟩
def ownH (H : List Blk) : Bool := H.all fun b => b.rows.all fun row => row.all ownv0
def Env.join (E E1 : Env) (n : Nat) : Env :=
 {w := E1.w, PA := fun c => E.PA c ∨ E1.PF c, PF := fun c => E.PF c ∨ E1.PF c
  m := fun b => if b < n then E.m b else E1.m (b - n), gen := fun b => if b < n then E.gen b else E1.gen (b - n)
  sz := fun b => if b < n then E.sz b else E1.sz (b - n), cp := fun b => if b < n then E.cp b else E1.cp (b - n), mL := E.mL }
section
variable {E E1 : Env} {n : Nat}
theorem join_old {b : Nat} (h : b < n) : (E.join E1 n).m b = E.m b ∧ (E.join E1 n).gen b = E.gen b ∧ (E.join E1 n).sz b = E.sz b ∧ (E.join E1 n).cp b = E.cp b := ⟨if_pos h, if_pos h, if_pos h, if_pos h⟩
theorem join_new (b : Nat) : (E.join E1 n).m (n + b) = E1.m b ∧ (E.join E1 n).gen (n + b) = E1.gen b ∧ (E.join E1 n).sz (n + b) = E1.sz b ∧ (E.join E1 n).cp (n + b) = E1.cp b := by
 have h : ¬ n + b < n := by omega
 have e : n + b - n = b := by omega
 refine ⟨?_, ?_, ?_, ?_⟩ <;> (unfold Env.join; simp only [if_neg h, e])
theorem join_rel0 {E' : Env} (hE : E' = E.join E1 n) {a : AV} {v : Value} (ho : ownv0 a = true) (hv : V1 E1 a v) : V1 E' (shift0 n a) v := by
 have hrv : ∀ {a : AV} {v : Value}, ownv0 a = true → RV E1.w E1.PA E1.PF a v → RV E'.w E'.PA E'.PF a v := by
  intro a v ho h
  subst hE
  cases h with
  | undef => exact .undef _
  | int => exact .int _ _
  | bool => exact .bool _
  | str => exact .str _
  | nilp => exact .nilp
  | niface => exact .niface
  | @lst _ _ PB rows full fresh A cap sz vs hPB hcap hfull hsz hcell hrel =>
   have hf : fresh = true := ho
   refine .lst (PB := PB) (sz := sz) (vs := vs) (fun c hc => ?_) hcap hfull hsz hcell hrel
   have := hPB c hc
   rw [if_pos hf] at this ⊢
   exact .inr this
  | rp => cases ho
  | fn => cases ho
 cases a with
 | ref b g off m full =>
  subst hE
  obtain ⟨j1, j2, j3, j4⟩ := join_new (E := E) (E1 := E1) (n := n) b
  show V0 (E.join E1 n) (.ref (n + b) g off m full) v
  rcases (show V0 E1 (.ref b g off m full) v from hv) with ⟨h, k⟩ | ⟨h, k⟩
  ·exact .inl ⟨by rw [j2]; exact h, k⟩
  ·refine .inr ⟨by rw [j2]; exact h, ?_⟩
   rw [j1, j3, j4]; exact k
 | ptr b g r c =>
  subst hE
  obtain ⟨j1, j2, j3, j4⟩ := join_new (E := E) (E1 := E1) (n := n) b
  show V0 (E.join E1 n) (.ptr (n + b) g r c) v
  rcases (show V0 E1 (.ptr b g r c) v from hv) with ⟨h, k⟩ | ⟨h, k⟩
  ·exact .inl ⟨by rw [j2]; exact h, k⟩
  ·refine .inr ⟨by rw [j2]; exact h, ?_⟩
   rw [j1, j3]; exact k
 | lptr t c => cases ho
 | fn f c => cases ho
 | agg l => cases ho
 | tup l => cases ho
 | rp l c => cases ho
 | undef => exact RV.undef _
 | int k m => exact hrv (a := .int k m) rfl hv
 | bool b => exact hrv (a := .bool b) rfl hv
 | str s => exact hrv (a := .str s) rfl hv
 | lst rows full fr => exact hrv (a := .lst rows full fr) ho hv
 | nilp => exact hrv (a := .nilp) rfl hv
 | niface => exact hrv (a := .niface) rfl hv
theorem join_rel2 {E' : Env} (hE : E' = E.join E1 n) {a : AV} {v : Value} (ho : ownv2 a = true) (hv : V2 E1 a v) : V2 E' (shift2 n a) v := by
 by_cases hf : ∃ l, a = .agg l
 ·obtain ⟨l, rfl⟩ := hf
  obtain ⟨vs, rfl, hp⟩ := hv
  refine ⟨vs, rfl, by rw [List.length_map]; exact hp.1, fun i x u hx hu => ?_⟩
  rw [List.getElem?_map] at hx
  cases hl : l[i]? with
  | none => simp [hl] at hx
  | some y =>
   simp [hl] at hx; subst hx
   exact join_rel0 hE (List.all_eq_true.1 (show l.all ownv0 = true from ho) y (List.mem_of_getElem? hl)) (hp.2 i y u hl hu)
 ·have e1 : shift2 n a = shift0 n a := by cases a <;> first | rfl | exact absurd ⟨_, rfl⟩ hf
  have e2 : ownv2 a = ownv0 a := by cases a <;> first | rfl | exact absurd ⟨_, rfl⟩ hf
  rw [V2_eq fun l e => hf ⟨l, e⟩] at hv
  rw [e1]
  exact V2_of_V1 (join_rel0 hE (e2 ▸ ho) hv)
theorem join_rel3 {E' : Env} (hE : E' = E.join E1 n) {a : AV} {v : Value} (ho : ownv3 a = true) (hv : V3 E1 a v) : V3 E' (shift3 n a) v := by
 by_cases hf : ∃ l, a = .tup l
 ·obtain ⟨l, rfl⟩ := hf
  obtain ⟨vs, rfl, hp⟩ := hv
  refine ⟨vs, rfl, by rw [List.length_map]; exact hp.1, fun i x u hx hu => ?_⟩
  rw [List.getElem?_map] at hx
  cases hl : l[i]? with
  | none => simp [hl] at hx
  | some y =>
   simp [hl] at hx; subst hx
   exact join_rel2 hE (List.all_eq_true.1 (show l.all ownv2 = true from ho) y (List.mem_of_getElem? hl)) (hp.2 i y u hl hu)
 ·have e1 : shift3 n a = shift2 n a := by cases a <;> first | rfl | exact absurd ⟨_, rfl⟩ hf
  have e2 : ownv3 a = ownv2 a := by cases a <;> first | rfl | exact absurd ⟨_, rfl⟩ hf
  rw [V3_eq fun l e => hf ⟨l, e⟩] at hv
  rw [e1]
  exact V3_of_V2 (join_rel2 hE (e2 ▸ ho) hv)
end
theorem callO_sound {P : Program} {f : FuncId} {args args0 : List AV} {L : List (Nat × List AV)} {H : List Blk} {E : Env} {vs : List Value} {Q : AV → List Blk → Prop} (hH : SimH E H) (hL : SimL E L)
  (ha : PW (V2 E) args vs) (hs : PW (Snap2 L H) args args0) (h : FnS P f args0 [] fun r Hn => ownv3 r = true ∧ ownH Hn = true ∧ Q r Hn) :
  Calls P f vs.toArray E.w fun e w' => ∃ r v Hn E', e = .returned v ∧ Q r Hn ∧ E'.w = w' ∧ Step E E' ∧ SimH E' (H ++ Hn.map (shiftB H.length)) ∧ SimL E' L ∧ V3 E' (shift3 H.length r) v ∧ E'.mL = E.mL := by
 have ha0 : PW (V2 E.frozen) args0 vs := ⟨hs.1 ▸ ha.1, fun i x u hx hu => by
  have hlt : i < args.length := by have := (List.getElem?_eq_some_iff.1 hx).1; have := hs.1; omega
  have hl := List.getElem?_eq_getElem hlt
  exact snap2_sound (Sub.refl L H) hH hL (hs.2 i _ x hl hx) (ha.2 i _ u hl hu)⟩
 refine (h.2 E.frozen vs (fun _ => rfl) (frozen_sim hH) ha0).mono ?_
 rintro e w' ⟨r, v, Hn, E1, rfl, ⟨ho, hoH, hr⟩, rfl, hn, hs1, hv, hst⟩
 have hPF : ∀ c, E1.PF c → E.w.heap.size ≤ c ∧ c < E1.w.heap.size := fun c hc => ⟨(hst.pf c hc).elim (fun h => h.elim) id, hs1.ltP c (hs1.pfpa c hc)⟩
 have hIH : ∀ c, E1.imgH c → E.w.heap.size ≤ c ∧ c < E1.w.heap.size := fun c hc => ⟨(hst.imH c hc).elim (fun ⟨b, hb⟩ => by cases hb) id, hs1.ltH c hc⟩
 have hkeep : ∀ c, c < E.w.heap.size → E1.w.heap[c]? = E.w.heap[c]? := fun c hc => hst.keep c hc (fun ⟨b, hb⟩ => by cases hb) (fun ⟨b, hb⟩ => by cases hb)
 have hltH := hH.ltH
 have hltL := hH.ltL
 generalize hE : E.join E1 H.length = E'
 have jo : ∀ b, b < H.length → E'.m b = E.m b ∧ E'.gen b = E.gen b ∧ E'.sz b = E.sz b ∧ E'.cp b = E.cp b := fun b hb => hE ▸ join_old hb
 have jn : ∀ b, E'.m (H.length + b) = E1.m b ∧ E'.gen (H.length + b) = E1.gen b ∧ E'.sz (H.length + b) = E1.sz b ∧ E'.cp (H.length + b) = E1.cp b := fun b => hE ▸ join_new b
 have jw : E'.w = E1.w := by rw [← hE]; rfl
 have jPA : ∀ c, E'.PA c ↔ E.PA c ∨ E1.PF c := fun c => by rw [← hE]; exact Iff.rfl
 have jPF : ∀ c, E'.PF c ↔ E.PF c ∨ E1.PF c := fun c => by rw [← hE]; exact Iff.rfl
 have jL : E'.mL = E.mL := by rw [← hE]; rfl
 have split : ∀ b, b < H.length ∨ ∃ k, b = H.length + k := fun b => by
  rcases Nat.lt_or_ge b H.length with h | h
  ·exact .inl h
  ·exact .inr ⟨b - H.length, by omega⟩
 have oldm : ∀ b x, E.m b = some x → b < H.length := fun b x hb => by
  rcases Nat.lt_or_ge b H.length with h | h
  ·exact h
  ·rw [(hH.fresh b h).1] at hb; cases hb
 have img : ∀ c, E'.imgH c → E.imgH c ∨ E1.imgH c := fun c ⟨b, hb⟩ => by
  rcases split b with h | ⟨k, rfl⟩
  ·exact .inl ⟨b, by rw [← (jo b h).1]; exact hb⟩
  ·exact .inr ⟨k, by rw [← (jn k).1]; exact hb⟩
 have hstep : Step E E' := 
  {le := ⟨fun c hc => (jPA c).2 (.inl hc), fun c hc => (jPF c).2 (.inl hc), fun c hc => by rw [jw]; exact hkeep c (hH.ltP c hc), fun c hc => by rw [jw]; exact hkeep c (hH.ltP c (hH.pfpa c hc)), fun b => by
     rcases split b with h | ⟨k, rfl⟩
     ·rw [(jo b h).2.1]; exact Nat.le_refl _
     ·rw [(hH.fresh (H.length + k) (by omega)).2]; exact Nat.zero_le _, fun b x hx _ => by
     have h := oldm b x hx
     exact ⟨by rw [(jo b h).1]; exact hx, (jo b h).2.2.1, (jo b h).2.2.2⟩, fun t c h => by rw [jL]; exact h⟩
   os := by rw [jw]; exact hst.os
   tape := by rw [jw]; exact hst.tape
   output := by rw [jw]; exact hst.output
   size := by rw [jw]; exact hst.size
   keep := fun c hc _ _ => by rw [jw]; exact hkeep c hc
   imH := fun c hc => (img c hc).elim .inl fun h => .inr (hIH c h).1
   imL := fun c ⟨t, ht⟩ => .inl ⟨t, by rw [← jL]; exact ht⟩
   pa := fun c hc => ((jPA c).1 hc).elim .inl fun h => .inr (hPF c h).1
   pf := fun c hc => ((jPF c).1 hc).elim .inl fun h => .inr (hPF c h).1 }
 have getO : ∀ b, b < H.length → (H ++ Hn.map (shiftB H.length))[b]? = H[b]? := fun b hb => List.getElem?_append_left hb
 have getN : ∀ k, (H ++ Hn.map (shiftB H.length))[H.length + k]? = (Hn[k]?).map (shiftB H.length) := fun k => by
  rw [List.getElem?_append_right (by omega), List.getElem?_map]; congr 2; omega
 refine ⟨r, v, Hn, E', rfl, hr, jw, hstep, ?_, ?_, join_rel3 hE.symm ho hv, jL⟩
 ·exact {
   heap := fun b c hb => by
    rcases split b with h | ⟨k, rfl⟩
    ·obtain ⟨j1, j2, j3, j4⟩ := jo b h
     rw [j1] at hb
     obtain ⟨blk, cs, ty, q1, q0, q2, q3, q4, q5, q6⟩ := hH.heap b c hb
     refine ⟨blk, cs, ty, by rw [getO b h]; exact q1, by rw [j3]; exact q0, by rw [jw, hkeep c (hltH c ⟨b, hb⟩)]; exact q2, by rw [j3, j4]; exact q3, by rw [j4]; exact q4, by rw [j3]; exact q5, fun i j row a hr hj => ?_⟩
     obtain ⟨u, hu, hrr⟩ := q6 i j row a hr hj
     exact ⟨u, by rw [j3]; exact hu, hrr.le hstep.le.noL⟩
    ·obtain ⟨j1, j2, j3, j4⟩ := jn k
     rw [j1] at hb
     obtain ⟨blk, cs, ty, q1, q0, q2, q3, q4, q5, q6⟩ := hs1.heap k c hb
     have hob : ∀ row ∈ blk.rows, ∀ a ∈ row, ownv0 a = true := fun row hr a ha =>
      List.all_eq_true.1 (List.all_eq_true.1 (List.all_eq_true.1 hoH blk (List.mem_of_getElem? q1)) row hr) a ha
     refine ⟨shiftB H.length blk, cs, ty, by rw [getN k, q1]; rfl, by rw [j3]; exact q0, by rw [jw]; exact q2, by rw [j3, j4]; exact q3, by rw [j4]; show (blk.rows.map _).length ≤ _; rw [List.length_map]; exact q4, fun i row' hr => ?_, fun i j row' a' hr hj => ?_⟩
     ·have hr : (blk.rows.map fun row => row.map (shift0 H.length))[i]? = some row' := hr
      rw [List.getElem?_map] at hr
      cases hq : blk.rows[i]? with
      | none => simp [hq] at hr
      | some row =>
       simp [hq] at hr; subst hr
       rw [List.length_map, j3]; exact q5 i row hq
     ·have hr : (blk.rows.map fun row => row.map (shift0 H.length))[i]? = some row' := hr
      rw [List.getElem?_map] at hr
      cases hq : blk.rows[i]? with
      | none => simp [hq] at hr
      | some row =>
       simp [hq] at hr; subst hr
       rw [List.getElem?_map] at hj
       cases hq2 : row[j]? with
       | none => simp [hq2] at hj
       | some a =>
        simp [hq2] at hj; subst hj
        obtain ⟨u, hu, hrr⟩ := q6 i j row a hq hq2
        refine ⟨u, by rw [j3]; exact hu, ?_⟩
        have hEn : E'.noL = E.noL.join E1.noL H.length := by rw [← hE]; rfl
        exact join_rel0 hEn (hob row (List.mem_of_getElem? hq) a (List.mem_of_getElem? hq2)) hrr
   gens := fun b blk hb => by
    rcases split b with h | ⟨k, rfl⟩
    ·rw [getO b h] at hb; rw [(jo b h).2.1]; exact hH.gens b blk hb
    ·rw [getN k] at hb
     cases hq : Hn[k]? with
     | none => simp [hq] at hb
     | some y => simp [hq] at hb; subst hb; rw [(jn k).2.1]; exact hs1.gens k y hq
   nilb := fun b hb => by
    rcases split b with h | ⟨k, rfl⟩
    ·rw [(jo b h).1] at hb
     obtain ⟨blk, q1, q2⟩ := hH.nilb b hb
     exact ⟨blk, by rw [getO b h]; exact q1, by rw [(jo b h).2.2.1]; exact q2⟩
    ·rw [(jn k).1] at hb
     obtain ⟨blk, q1, q2⟩ := hs1.nilb k hb
     exact ⟨shiftB H.length blk, by rw [getN k, q1]; rfl, by rw [(jn k).2.2.1]; exact q2⟩
   fresh := fun b hb => by
    rw [List.length_append, List.length_map] at hb
    rcases split b with h | ⟨k, rfl⟩
    ·omega
    ·rw [(jn k).1, (jn k).2.1]; exact hs1.fresh k (by omega)
   injH := fun b b' c h1 h2 => by
    rcases split b with h | ⟨k, rfl⟩ <;> rcases split b' with h' | ⟨k', rfl⟩
    ·rw [(jo b h).1] at h1; rw [(jo b' h').1] at h2; exact hH.injH b b' c h1 h2
    ·rw [(jo b h).1] at h1; rw [(jn k').1] at h2
     have := hltH c ⟨b, h1⟩; have := (hIH c ⟨k', h2⟩).1; omega
    ·rw [(jn k).1] at h1; rw [(jo b' h').1] at h2
     have := hltH c ⟨b', h2⟩; have := (hIH c ⟨k, h1⟩).1; omega
    ·rw [(jn k).1] at h1; rw [(jn k').1] at h2; rw [hs1.injH k k' c h1 h2]
   injL := fun t t' c h1 h2 => by rw [jL] at h1 h2; exact hH.injL t t' c h1 h2
   injHL := fun b t c h1 h2 => by
    rw [jL] at h2
    rcases split b with h | ⟨k, rfl⟩
    ·rw [(jo b h).1] at h1; exact hH.injHL b t c h1 h2
    ·rw [(jn k).1] at h1
     have := hltL c ⟨t, h2⟩; have := (hIH c ⟨k, h1⟩).1; omega
   notH := fun c hc hi => by
    rcases (jPA c).1 hc with h | h <;> rcases img c hi with h' | h'
    ·exact hH.notH c h h'
    ·have := hH.ltP c h; have := (hIH c h').1; omega
    ·have := hltH c h'; have := (hPF c h).1; omega
    ·exact hs1.notH c (hs1.pfpa c h) h'
   notL := fun c hc ⟨t, ht⟩ => by
    rw [jL] at ht
    rcases (jPA c).1 hc with h | h
    ·exact hH.notL c h ⟨t, ht⟩
    ·have := hltL c ⟨t, ht⟩; have := (hPF c h).1; omega
   pfpa := fun c hc => (jPA c).2 (((jPF c).1 hc).elim (fun h => .inl (hH.pfpa c h)) .inr)
   ltP := fun c hc => by
    rw [jw]
    rcases (jPA c).1 hc with h | h
    ·exact Nat.lt_of_lt_of_le (hH.ltP c h) hst.size
    ·exact (hPF c h).2
   ltH := fun c hc => by
    rw [jw]
    rcases img c hc with h | h
    ·exact Nat.lt_of_lt_of_le (hltH c h) hst.size
    ·exact (hIH c h).2
   ltL := fun c ⟨t, ht⟩ => by
    rw [jL] at ht; rw [jw]
    exact Nat.lt_of_lt_of_le (hltL c ⟨t, ht⟩) hst.size }
 ·intro t c hm
  rw [jL] at hm
  obtain ⟨cells, cs, ty, q1, q2, q3⟩ := hL t c hm
  exact ⟨cells, cs, ty, q1, by rw [jw, hkeep c (hltL c ⟨t, hm⟩)]; exact q2, q3.mono fun _ _ k => k.le hstep.le.noL⟩
theorem callM_sound {P : Program} {f : FuncId} {args : List AV} {L : List (Nat × List AV)} {H : List Blk} {E : Env} {vs : List Value} {Q : AV → List Blk → Prop} (hH : SimH E H) (hL : SimL E L)
  (ha : PW (V2 E) args vs) (hn : args.all noLp2 = true) (h : FnS P f args H fun r H' => noLp3 r = true ∧ Q r H') :
  Calls P f vs.toArray E.w fun e w' => ∃ r v H' E', e = .returned v ∧ Q r H' ∧ E'.w = w' ∧ Step E E' ∧ SimH E' H' ∧ SimL E' L ∧ V3 E' r v ∧ E'.mL = E.mL := by
 have ha0 : PW (V2 E.noL) args vs := ⟨ha.1, fun i a v h1 h2 => (ha.2 i a v h1 h2).noL (List.all_eq_true.1 hn a (List.mem_of_getElem? h1))⟩
 refine (h.2 E.noL vs (fun _ => rfl) hH.noL ha0).mono ?_
 rintro e w' ⟨r, v, H', E1, rfl, ⟨hnr, hr⟩, rfl, hn1, hs1, hv, hst⟩
 let E' : Env := { E1 with mL := E.mL }
 have hEn : E'.noL = E1.noL := rfl
 have hltL := hH.ltL
 have imH : ∀ c, E1.imgH c → E.imgH c ∨ E.w.heap.size ≤ c := hst.imH
 have hkeepL : ∀ c, E.imgL c → E1.w.heap[c]? = E.w.heap[c]? := fun c hc => hst.keep c (hltL c hc) (fun ⟨b, hb⟩ => by
  obtain ⟨t, ht⟩ := hc
  exact hH.injHL b t c hb ht) (fun ⟨b, hb⟩ => by cases hb)
 have hle : E1.noL.Le E' := Env.noL_le E'
 have hstep : Step E E' := 
  {le := ⟨hst.le.pa, hst.le.pf, hst.le.wa, hst.le.wf, hst.le.gen, hst.le.m, fun _ _ h => h⟩
   os := hst.os, tape := hst.tape, output := hst.output, size := hst.size
   keep := fun c hc h1 h2 => hst.keep c hc h1 (fun ⟨b, hb⟩ => by cases hb)
   imH := imH
   imL := fun c h => .inl h
   pa := hst.pa
   pf := hst.pf }
 refine ⟨r, v, H', E', rfl, hr, rfl, hstep, ?_, ?_, ?_, rfl⟩
 ·exact { hs1 with
   injL := hH.injL
   injHL := fun b t c h1 h2 => by
    rcases imH c ⟨b, h1⟩ with ⟨b', h⟩ | h
    ·exact hH.injHL b' t c h h2
    ·have := hltL c ⟨t, h2⟩; omega
   notL := fun c hc ⟨t, ht⟩ => by
    rcases hst.pa c hc with h | h
    ·exact hH.notL c h ⟨t, ht⟩
    ·have h : E.w.heap.size ≤ c := h
     have := hltL c ⟨t, ht⟩; omega
   ltL := fun c hc => Nat.lt_of_lt_of_le (hltL c hc) hst.size }
 ·intro t c hm
  obtain ⟨cells, cs, ty, q1, q2, q3⟩ := hL t c hm
  exact ⟨cells, cs, ty, q1, by show E1.w.heap[c]? = _; rw [hkeepL c ⟨t, hm⟩]; exact q2, q3.mono fun _ _ k => k.le hstep.le.noL⟩
 ·exact (hv.noL hnr).le hle
end Go.Proofs.Ytglpfccgmfhkdaa.Fw
