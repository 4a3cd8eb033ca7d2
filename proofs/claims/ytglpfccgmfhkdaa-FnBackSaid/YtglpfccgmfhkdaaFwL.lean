/- The framework, part L: new blocks; append. -/

import Derived.Test.YtglpfccgmfhkdaaFwK
set_option linter.unusedVariables false
namespace Go.Proofs.Ytglpfccgmfhkdaa.Fw
open Go
theorem drew_alloc_get (w : World) (o : Obj) (c : Nat) (h : c < w.heap.size) : (w.drew.alloc o).heap[c]? = w.heap[c]? := alloc_get w.drew o c h
structure NewBlk (w w' : World) (o : Obj) : Prop where
 os : w'.os = w.os
 tape : w'.tape = w.tape
 output : w'.output = w.output
 size : w'.heap.size = w.heap.size + 1
 old : ∀ c, c < w.heap.size → w'.heap[c]? = w.heap[c]?
 new : w'.heap[w.heap.size]? = some o
theorem NewBlk.alloc (w : World) (o : Obj) : NewBlk w (w.alloc o) o := ⟨rfl, rfl, rfl, by simp, fun c hc => alloc_get w o c hc, alloc_new w o⟩
theorem NewBlk.drewAlloc (w : World) (o : Obj) : NewBlk w (w.drew.alloc o) o := ⟨rfl, rfl, rfl, by simp, fun c hc => drew_alloc_get w o c hc, alloc_new w.drew o⟩
theorem SimH.ext {E : Env} {H H' : List Blk} (h : SimH E H) (hs : ∀ (b : Nat) (blk : Blk), H[b]? = some blk → H'[b]? = some blk) (hl : H.length ≤ H'.length) (hg : ∀ (b : Nat) (blk : Blk), H.length ≤ b → H'[b]? = some blk → blk.gen = 0) : SimH E H' :=
 {h with
  heap := fun b c hb => by
   obtain ⟨blk, cs, ty, q1, q⟩ := h.heap b c hb
   exact ⟨blk, cs, ty, hs b blk q1, q⟩
  gens := fun b blk hb => by
   rcases Nat.lt_or_ge b H.length with hlt | hge
   ·have h1 := List.getElem?_eq_getElem hlt
    have h2 := hs b _ h1
    rw [hb] at h2
    cases h2
    exact h.gens b _ h1
   ·rw [(h.fresh b hge).2, hg b blk hge hb]
  nilb := fun b hb => by
   obtain ⟨blk, q1, q⟩ := h.nilb b hb
   exact ⟨blk, hs b blk q1, q⟩
  fresh := fun b hb => h.fresh b (Nat.le_trans hl hb) }
theorem SimH.snoc {E : Env} {H : List Blk} (h : SimH E H) {blk : Blk} (hg : blk.gen = 0) : SimH E (H ++ [blk]) :=
 h.ext (fun b x hb => by rw [List.getElem?_append_left (List.getElem?_eq_some_iff.1 hb).1]; exact hb) (by simp) (fun b x hb hx => by
  rw [List.getElem?_append_right hb] at hx
  have : b - H.length = 0 := by
   rcases Nat.eq_zero_or_pos (b - H.length) with q | q
   ·exact q
   ·rw [List.getElem?_eq_none (by simp; omega)] at hx; cases hx
  rw [this] at hx; cases hx; exact hg)
theorem SimL.cons {E : Env} {L : List (Nat × List AV)} (h : SimL E L) {t : Nat} {cells : List AV} (hn : E.mL t = none) : SimL E ((t, cells) :: L) := fun s c hm => by
 have : s ≠ t := fun e => by subst e; rw [hn] at hm; cases hm
 simp only [getL, if_neg this]
 exact h s c hm
theorem newL_sound {E : Env} {H : List Blk} {L : List (Nat × List AV)} {w' : World} {cs : Array Value} {ty : TypeId} {t : Nat} {cells : List AV} (hH : SimH E H) (hL : SimL E L) (hw : NewBlk E.w w' (.cells cs ty (0, 0)))
  (ht : getL L t = some cells) (hm : E.mL t = none) (hc : PW (V1 E.noL) cells cs.toList) :
  ∃ E', E'.w = w' ∧ Step E E' ∧ SimH E' H ∧ SimL E' L ∧ V3 E' (.lptr t 0) (.pointer (some ⟨E.w.heap.size, 0, none⟩)) ∧ E'.m = E.m ∧ (∀ s, s ≠ t → E'.mL s = E.mL s) := by
 let E' : Env := { E with w := w', mL := fun s => if s = t then some E.w.heap.size else E.mL s }
 have hst : Step E E' := 
  {le := ⟨fun _ h => h, fun _ h => h, fun c hc => hw.old c (hH.ltP c hc), fun c hc => hw.old c (hH.ltP c (hH.pfpa c hc)), fun _ => Nat.le_refl _, fun _ _ h _ => ⟨h, rfl, rfl⟩, fun s c h => by
    show (if s = t then _ else _) = _
    rw [if_neg (fun e => by subst e; rw [hm] at h; cases h)]; exact h⟩
   os := hw.os, tape := hw.tape, output := hw.output
   size := by show E.w.heap.size ≤ w'.heap.size; rw [hw.size]; omega
   keep := fun c hc _ _ => hw.old c hc
   imH := fun _ h => .inl h
   imL := fun c ⟨s, hs⟩ => by
    have hs : (if s = t then some E.w.heap.size else E.mL s) = some c := hs
    split at hs
    ·cases hs; exact .inr (Nat.le_refl _)
    ·exact .inl ⟨s, hs⟩
   pa := fun _ h => .inl h
   pf := fun _ h => .inl h }
 have hml : ∀ s c, E'.mL s = some c → (s = t ∧ c = E.w.heap.size) ∨ (s ≠ t ∧ E.mL s = some c) := by
  intro s c hs
  have hs : (if s = t then some E.w.heap.size else E.mL s) = some c := hs
  split at hs
  ·rename_i e; cases hs; exact .inl ⟨e, rfl⟩
  ·rename_i e; exact .inr ⟨e, hs⟩
 have hltH := hH.ltH
 have hltL := hH.ltL
 refine ⟨E', rfl, hst, ?_, ?_, ⟨E.w.heap.size, by show (if t = t then _ else _) = _; rw [if_pos rfl], rfl⟩, rfl, fun s hs => if_neg hs⟩
 ·exact {
   heap := fun b c hb => by
    obtain ⟨blk, cs', ty', q1, q0, q2, q3, q4, q5, q6⟩ := hH.heap b c hb
    refine ⟨blk, cs', ty', q1, q0, ?_, q3, q4, q5, fun i j row a hr hj => ?_⟩
    ·show w'.heap[c]? = _; rw [hw.old c (hltH c ⟨b, hb⟩)]; exact q2
    ·obtain ⟨u, hu, hr'⟩ := q6 i j row a hr hj
     exact ⟨u, hu, hr'.le hst.le.noL⟩
   gens := hH.gens
   nilb := hH.nilb
   fresh := hH.fresh
   injH := hH.injH
   injL := fun s s' c h1 h2 => by
    rcases hml s c h1 with ⟨d1, e1⟩ | ⟨_, k1⟩ <;> rcases hml s' c h2 with ⟨d2, e2⟩ | ⟨_, k2⟩
    ·rw [d1, d2]
    ·have := hltL c ⟨s', k2⟩; omega
    ·have := hltL c ⟨s, k1⟩; omega
    ·exact hH.injL s s' c k1 k2
   injHL := fun b s c h1 h2 => by
    rcases hml s c h2 with ⟨rfl, rfl⟩ | ⟨_, h2⟩
    ·have := hltH _ ⟨b, h1⟩; omega
    ·exact hH.injHL b s c h1 h2
   notH := hH.notH
   notL := fun c hc ⟨s, hs⟩ => by
    rcases hml s c hs with ⟨rfl, rfl⟩ | ⟨_, hs⟩
    ·have := hH.ltP _ hc; omega
    ·exact hH.notL c hc ⟨s, hs⟩
   pfpa := hH.pfpa
   ltP := fun c hc => Nat.lt_of_lt_of_le (hH.ltP c hc) hst.size
   ltH := fun c hc => Nat.lt_of_lt_of_le (hltH c hc) hst.size
   ltL := fun c ⟨s, hs⟩ => by
    rcases hml s c hs with ⟨rfl, rfl⟩ | ⟨_, hs⟩
    ·show _ < w'.heap.size; rw [hw.size]; omega
    ·exact Nat.lt_of_lt_of_le (hltL c ⟨s, hs⟩) hst.size }
 ·intro s c hs
  rcases hml s c hs with ⟨rfl, rfl⟩ | ⟨_, hs⟩
  ·exact ⟨cells, cs, ty, ht, hw.new, hc.mono fun _ _ k => k.le hst.le.noL⟩
  ·obtain ⟨cells', cs', ty', q1, q2, q3⟩ := hL s c hs
   exact ⟨cells', cs', ty', q1, by show w'.heap[c]? = _; rw [hw.old c (hltL c ⟨s, hs⟩)]; exact q2, q3.mono fun _ _ k => k.le hst.le.noL⟩
theorem newH_sound {E : Env} {H H' : List Blk} {L : List (Nat × List AV)} {w' : World} {cs : Array Value} {ty : TypeId} {b cap : Nat} {blk : Blk} (hH : SimH E H) (hL : SimL E L) (hw : NewBlk E.w w' (.cells cs ty (0, 0)))
  (hb : H'[b]? = some blk) (ho : ∀ b', b' ≠ b → H'[b']? = H[b']?) (hlen : b < H.length → H'.length = H.length) (hlen2 : H.length ≤ H'.length)
  (hgen : (E.m b = none ∧ blk.gen = E.gen b) ∨ E.gen b < blk.gen) (hcs : cs.size = cap * blk.sz) (hcap : blk.rows.length ≤ cap)
  (hr : RowsAt E blk.sz blk.rows cs) :
  ∃ E', E'.w = w' ∧ Step E E' ∧ SimH E' H' ∧ SimL E' L ∧ E'.gen b = blk.gen ∧ E'.m b = some (some E.w.heap.size) ∧ E'.sz b = blk.sz ∧ E'.cp b = cap ∧ (∀ b', b' ≠ b → E'.m b' = E.m b') ∧ E'.mL = E.mL := by
 let E' : Env := { E with w := w', m := fun b' => if b' = b then some (some E.w.heap.size) else E.m b', gen := fun b' => if b' = b then blk.gen else E.gen b', sz := fun b' => if b' = b then blk.sz else E.sz b', cp := fun b' => if b' = b then cap else E.cp b' }
 have hst : Step E E' := 
  {le := ⟨fun _ h => h, fun _ h => h, fun c hc => hw.old c (hH.ltP c hc), fun c hc => hw.old c (hH.ltP c (hH.pfpa c hc)), fun b' => by
     show _ ≤ (if b' = b then _ else _)
     split
     ·rename_i e; subst e; rcases hgen with ⟨_, e⟩ | e <;> omega
     ·exact Nat.le_refl _, fun b' x hx hg => by
     have hg' : (if b' = b then blk.gen else E.gen b') = E.gen b' := hg
     have hne : b' ≠ b := fun e => by
      subst e
      rw [if_pos rfl] at hg'
      rcases hgen with ⟨hn, _⟩ | e
      ·rw [hn] at hx; cases hx
      ·omega
     refine ⟨?_, ?_, ?_⟩
     ·show (if b' = b then _ else _) = _; rw [if_neg hne]; exact hx
     ·show (if b' = b then _ else _) = _; rw [if_neg hne]
     ·show (if b' = b then _ else _) = _; rw [if_neg hne], fun _ _ h => h⟩
   os := hw.os, tape := hw.tape, output := hw.output
   size := by show E.w.heap.size ≤ w'.heap.size; rw [hw.size]; omega
   keep := fun c hc _ _ => hw.old c hc
   imH := fun c ⟨s, hs⟩ => by
    have hs : (if s = b then some (some E.w.heap.size) else E.m s) = some (some c) := hs
    split at hs
    ·cases hs; exact .inr (Nat.le_refl _)
    ·exact .inl ⟨s, hs⟩
   imL := fun _ h => .inl h
   pa := fun _ h => .inl h
   pf := fun _ h => .inl h }
 have hm : ∀ s c, E'.m s = some (some c) → (s = b ∧ c = E.w.heap.size) ∨ (s ≠ b ∧ E.m s = some (some c)) := by
  intro s c hs
  have hs : (if s = b then some (some E.w.heap.size) else E.m s) = some (some c) := hs
  split at hs
  ·rename_i e; cases hs; exact .inl ⟨e, rfl⟩
  ·rename_i e; exact .inr ⟨e, hs⟩
 have hltH := hH.ltH
 have hltL := hH.ltL
 have hsz : ∀ s, s ≠ b → E'.sz s = E.sz s := fun s hs => if_neg hs
 have hcp : ∀ s, s ≠ b → E'.cp s = E.cp s := fun s hs => if_neg hs
 have hszb : E'.sz b = blk.sz := if_pos rfl
 have hcpb : E'.cp b = cap := if_pos rfl
 have hgb : E'.gen b = blk.gen := if_pos rfl
 refine ⟨E', rfl, hst, ?_, ?_, hgb, if_pos rfl, hszb, hcpb, fun b' hb' => if_neg hb', rfl⟩
 ·exact {
   heap := fun s c hs => by
    rcases hm s c hs with ⟨rfl, rfl⟩ | ⟨hne, hs⟩
    ·refine ⟨blk, cs, ty, hb, hszb, hw.new, by rw [hcpb, hszb]; exact hcs, by rw [hcpb]; exact hcap, ?_⟩
     rw [hszb]
     exact ⟨hr.1, fun i j row a h1 h2 => by obtain ⟨u, hu, hr'⟩ := hr.2 i j row a h1 h2; exact ⟨u, hu, hr'.le hst.le.noL⟩⟩
    ·obtain ⟨blk', cs', ty', q1, q0, q2, q3, q4, q5, q6⟩ := hH.heap s c hs
     refine ⟨blk', cs', ty', by rw [ho s hne]; exact q1, by rw [hsz s hne]; exact q0, ?_, by rw [hcp s hne, hsz s hne]; exact q3, by rw [hcp s hne]; exact q4, by rw [hsz s hne]; exact q5, fun i j row a hr hj => ?_⟩
     ·show w'.heap[c]? = _; rw [hw.old c (hltH c ⟨s, hs⟩)]; exact q2
     ·obtain ⟨u, hu, hr'⟩ := q6 i j row a hr hj
      exact ⟨u, by rw [hsz s hne]; exact hu, hr'.le hst.le.noL⟩
   gens := fun s x hs => by
    by_cases e : s = b
    ·subst e; rw [hb] at hs; cases hs; exact hgb
    ·rw [ho s e] at hs
     show (if s = b then _ else _) = _
     rw [if_neg e]; exact hH.gens s x hs
   nilb := fun s hs => by
    have hs : (if s = b then some (some E.w.heap.size) else E.m s) = some none := hs
    split at hs
    ·cases hs
    ·rename_i e
     obtain ⟨x, q1, q2⟩ := hH.nilb s hs
     exact ⟨x, by rw [ho s e]; exact q1, by rw [hsz s e]; exact q2⟩
   fresh := fun s hs => by
    have hlt : b < H'.length := (List.getElem?_eq_some_iff.1 hb).1
    have e : s ≠ b := by omega
    have := hH.fresh s (by omega)
    exact ⟨by show (if s = b then _ else _) = _; rw [if_neg e]; exact this.1, by show (if s = b then _ else _) = _; rw [if_neg e]; exact this.2⟩
   injH := fun s s' c h1 h2 => by
    rcases hm s c h1 with ⟨d1, e1⟩ | ⟨_, k1⟩ <;> rcases hm s' c h2 with ⟨d2, e2⟩ | ⟨_, k2⟩
    ·rw [d1, d2]
    ·have := hltH c ⟨s', k2⟩; omega
    ·have := hltH c ⟨s, k1⟩; omega
    ·exact hH.injH s s' c k1 k2
   injL := hH.injL
   injHL := fun s t c h1 h2 => by
    rcases hm s c h1 with ⟨rfl, rfl⟩ | ⟨_, h1⟩
    ·have := hltL _ ⟨t, h2⟩; omega
    ·exact hH.injHL s t c h1 h2
   notH := fun c hc ⟨s, hs⟩ => by
    rcases hm s c hs with ⟨rfl, rfl⟩ | ⟨_, hs⟩
    ·have := hH.ltP _ hc; omega
    ·exact hH.notH c hc ⟨s, hs⟩
   notL := hH.notL
   pfpa := hH.pfpa
   ltP := fun c hc => Nat.lt_of_lt_of_le (hH.ltP c hc) hst.size
   ltH := fun c ⟨s, hs⟩ => by
    rcases hm s c hs with ⟨rfl, rfl⟩ | ⟨_, hs⟩
    ·show _ < w'.heap.size; rw [hw.size]; omega
    ·exact Nat.lt_of_lt_of_le (hltH c ⟨s, hs⟩) hst.size
   ltL := fun c hc => Nat.lt_of_lt_of_le (hltL c hc) hst.size }
 ·intro s c hs
  obtain ⟨cells', cs', ty', q1, q2, q3⟩ := hL s c hs
  exact ⟨cells', cs', ty', q1, by show w'.heap[c]? = _; rw [hw.old c (hltL c ⟨s, hs⟩)]; exact q2, q3.mono fun _ _ k => k.le hst.le.noL⟩
end Go.Proofs.Ytglpfccgmfhkdaa.Fw
