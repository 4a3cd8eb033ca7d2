/- The framework, part Fam: the ways of a frame lie in one block; for each of them, in which of its sections a train has been, in a block of its own (printed by tools/fwfam.py). -/

import Derived.Test.YtglpfccgmfhkdaaFwOA
set_option linter.unusedVariables false
namespace Go.Proofs.Ytglpfccgmfhkdaa.Fw
open Go
theorem nthE {α : Type} [Inhabited α] {xs : List α} {i : Int} (h : i.toNat < xs.length) : nth xs i = xs[i.toNat] := by
 have := nth_some h
 rw [List.getElem?_eq_getElem h] at this
 exact (Option.some.inj this).symm
def fbk (b : List Bool) : Blk := ⟨0, 1, List.map eBool b⟩
def hRow (s : Nat) (h : Held) (id : Nat) : List AV := [.int .i64 h.state, .int .i64 h.gone, .ref (id + s) 0 0 h.been.length false, .bool h.shown, .int .i64 h.timer]
def hRows (s : Nat) (ws : List Held) (ids : List Nat) : List (List AV) := List.zipWith (hRow s) ws ids
def view (ws : List Held) (ids : List Nat) (bs : List (List Bool)) : List Held := List.zipWith (fun h id => { h with been := bs.getD id [] }) ws ids
structure FamOk (ws : List Held) (ids : List Nat) (bs : List (List Bool)) : Prop where
 len : ws.length = ids.length
 lt : ∀ (i id : Nat), ids[i]? = some id → id < bs.length
 been : ∀ (i id : Nat) (h : Held), ws[i]? = some h → ids[i]? = some id → h.been.length = (bs.getD id []).length
theorem hRows_get {s : Nat} {ws : List Held} {ids : List Nat} {i : Int} (hl : ws.length = ids.length) (hi : i.toNat < ws.length) : (hRows s ws ids)[i.toNat]? = some (hRow s (nth ws i) (nth ids i)) := by
 unfold hRows
 rw [List.getElem?_zipWith, nth_some hi, nth_some (by omega)]
theorem hRows_len {s : Nat} {ws : List Held} {ids : List Nat} (hl : ws.length = ids.length) : (hRows s ws ids).length = ws.length := by
 unfold hRows; rw [List.length_zipWith]; omega
theorem hRows_set {s : Nat} {ws : List Held} {ids : List Nat} {i : Nat} {h : Held} {id : Nat} (hl : ws.length = ids.length) : (hRows s ws ids).set i (hRow s h id) = hRows s (ws.set i h) (ids.set i id) := by
 apply List.ext_getElem?
 intro j
 unfold hRows
 rw [List.getElem?_set, List.getElem?_zipWith, List.getElem?_zipWith, List.getElem?_set, List.getElem?_set]
 by_cases hij : i = j
 ·subst hij
  simp only [if_true, List.length_zipWith]
  by_cases hi : i < ws.length
  ·rw [if_pos (by omega), if_pos hi, if_pos (by omega)]
  ·rw [if_neg (by omega), if_neg hi]
 ·simp only [if_neg hij]
theorem hRows_keep {s : Nat} {ws : List Held} {ids : List Nat} {i : Int} {h : Held} (hl : ws.length = ids.length) (hi : i.toNat < ws.length) : (hRows s ws ids).set i.toNat (hRow s h (nth ids i)) = hRows s (ws.set i.toNat h) ids := by
 rw [hRows_set hl]
 congr 1
 rw [nthE (by omega)]
 exact List.set_getElem_self _
theorem hRows_snoc {s : Nat} {ws : List Held} {ids : List Nat} {h : Held} {id : Nat} (hl : ws.length = ids.length) : hRows s ws ids ++ [hRow s h id] = hRows s (ws ++ [h]) (ids ++ [id]) := by
 unfold hRows
 rw [List.zipWith_append hl]; rfl
theorem fam_get {bs : List (List Bool)} {id : Nat} (h : id < bs.length) : (List.map fbk bs)[id]? = some (fbk (bs.getD id [])) := by
 rw [List.getElem?_map, List.getElem?_eq_getElem h, List.getD_eq_getElem?_getD, List.getElem?_eq_getElem h]; rfl
theorem fam_set {bs : List (List Bool)} {id : Nat} {b : List Bool} : (List.map fbk bs).set id (fbk b) = List.map fbk (bs.set id b) := by rw [List.map_set]
theorem bool_row {b : List Bool} {i : Int} (h : i.toNat < b.length) : (List.map eBool b)[i.toNat]? = some (eBool (nth b i)) := by rw [List.getElem?_map, nth_some h]; rfl
theorem bool_set {b : List Bool} {i : Nat} {x : Bool} : (List.map eBool b).set i (eBool x) = List.map eBool (b.set i x) := by rw [List.map_set]
theorem view_len {ws : List Held} {ids : List Nat} {bs : List (List Bool)} (h : FamOk ws ids bs) : (view ws ids bs).length = ws.length := by
 unfold view; rw [List.length_zipWith]; have := h.len; omega
theorem view_get {ws : List Held} {ids : List Nat} {bs : List (List Bool)} {i : Nat} {h : Held} {id : Nat} (h1 : ws[i]? = some h) (h2 : ids[i]? = some id) : (view ws ids bs)[i]? = some { h with been := bs.getD id [] } := by
 unfold view; rw [List.getElem?_zipWith, h1, h2]
theorem row_inv {s : Nat} {ws : List Held} {ids : List Nat} {i : Nat} {row : List AV} (h : (hRows s ws ids)[i]? = some row) : ∃ x id, ws[i]? = some x ∧ ids[i]? = some id ∧ row = hRow s x id := by
 unfold hRows at h
 rw [List.getElem?_zipWith] at h
 cases hx : ws[i]? with
 | none => rw [hx] at h; cases h
 | some x =>
  cases hd : ids[i]? with
  | none => rw [hx, hd] at h; cases h
  | some id => rw [hx, hd] at h; cases h; exact ⟨x, id, rfl, rfl, rfl⟩
theorem sa_fam {L : List (Nat × List AV)} {H : List Blk} {b s n : Nat} {full : Bool} {ws : List Held} {ids : List Nat} {bs : List (List Bool)} (hn : n = ws.length) (hb : H[b]? = some ⟨0, 5, hRows s ws ids⟩)
  (hf : ∀ (id : Nat) (k : Blk), (List.map fbk bs)[id]? = some k → H[id + s]? = some k) (ok : FamOk ws ids bs) (h62 : ws.length ≤ 4611686018427387904) (h63 : ∀ x ∈ bs, x.length ≤ 4611686018427387904) :
  Snap1 L H (.ref b 0 0 n full) (.lst (List.map (eHeld false) (view ws ids bs)) false false) := by
 subst hn
 refine Snap1.ref (fun h => by cases h) hb rfl (by rw [List.length_map, view_len ok]) h62 (by rw [Nat.zero_add, hRows_len ok.len]; exact Nat.le_refl _) (fun i row row' h1 h2 => ?_) (fun i j row row' a c h1 h2 h3 h4 => ?_)
 ·rw [Nat.zero_add] at h1
  obtain ⟨x, id, hx, hd, rfl⟩ := row_inv h1
  rw [List.getElem?_map, view_get hx hd] at h2
  cases h2; rfl
 ·rw [Nat.zero_add] at h1
  obtain ⟨x, id, hx, hd, rfl⟩ := row_inv h1
  rw [List.getElem?_map, view_get hx hd] at h2
  cases h2
  have hlt := ok.lt i id hd
  have key : CellsIn L H (hRow s x id) (eHeld false { x with been := bs.getD id [] }) := by
   refine .cons (.int _ _) (.cons (.int _ _) (.cons ?_ (.cons (.bool _) (.cons (.int _ _) .nil))))
   have hm : bs.getD id [] ∈ bs := by rw [List.getD_eq_getElem?_getD, List.getElem?_eq_getElem hlt]; exact List.getElem_mem hlt
   exact sa_blk' (eT := eBool) (eF := eBool) (sz := 1) (ok.been i id x hx hd) (hf id _ (fam_get hlt)) iBool (h63 _ hm)
  exact key.2 j a c h3 h4
theorem sr_fam {H : List Blk} {b g s n : Nat} {full : Bool} {ws ys : List Held} {ids : List Nat} {bs : List (List Bool)} (hn : n = ws.length) (hb : H[b]? = some ⟨g, 5, hRows s ws ids⟩)
  (hf : ∀ (id : Nat) (k : Blk), (List.map fbk bs)[id]? = some k → H[id + s]? = some k) (h : FamOk ws ids bs ∧ ws.length ≤ 4611686018427387904 ∧ (∀ x ∈ bs, x.length ≤ 4611686018427387904) ∧ view ws ids bs = ys) :
  SnapR1 H (.ref b g 0 n full) (.lst (List.map (eHeld false) ys) false true) := by
 obtain ⟨ok, h62, h63, rfl⟩ := h
 subst hn
 refine SnapR1.ref (fun h => by cases h) (fun i j => (((view ws ids bs)[i]?).bind fun x => (eHeld true x)[j]?).getD .undef) hb rfl (by rw [List.length_map, view_len ok]) h62 (by rw [Nat.zero_add, hRows_len ok.len]; exact Nat.le_refl _) (fun i row row' h1 h2 => ?_) (fun i j row a hi h1 h2 => ?_) (fun i j row' c h1 h2 => ?_)
 ·rw [Nat.zero_add] at h1
  obtain ⟨x, id, hx, hd, rfl⟩ := row_inv h1
  rw [List.getElem?_map, view_get hx hd] at h2
  cases h2; rfl
 ·rw [Nat.zero_add] at h1
  obtain ⟨x, id, hx, hd, rfl⟩ := row_inv h1
  rw [view_get hx hd]
  have hlt := ok.lt i id hd
  have hm : bs.getD id [] ∈ bs := by rw [List.getD_eq_getElem?_getD, List.getElem?_eq_getElem hlt]; exact List.getElem_mem hlt
  show SnapR1 H a (((some ({ x with been := bs.getD id [] } : Held)).bind fun x => (eHeld true x)[j]?).getD .undef)
  match j, h2 with
  | 0, h2 => cases h2; exact .int _ _
  | 1, h2 => cases h2; exact .int _ _
  | 2, h2 =>
   cases h2
   exact sr_blk' (eT := eBool) (eF := eBool) (sz := 1) (ok.been i id x hx hd) (hf id _ (fam_get hlt)) cBool ⟨h63 _ hm, rfl⟩
  | 3, h2 => cases h2; exact .bool _
  | 4, h2 => cases h2; exact .int _ _
  | j + 5, h2 => simp [hRow] at h2
 ·rw [List.getElem?_map] at h1
  cases hv : (view ws ids bs)[i]? with
  | none => rw [hv] at h1; cases h1
  | some x =>
   rw [hv] at h1; cases h1
   show c = unfr (((some x).bind fun x => (eHeld true x)[j]?).getD .undef)
   match j, h2 with
   | 0, h2 => cases h2; rfl
   | 1, h2 => cases h2; rfl
   | 2, h2 => cases h2; rfl
   | 3, h2 => cases h2; rfl
   | 4, h2 => cases h2; rfl
   | j + 5, h2 => simp [eHeld] at h2
theorem Weak.newB (sz : Nat) {T : List AV} {L : List (Nat × List AV)} {H : List Blk} : Weak ⟨T, L, H⟩ ⟨T, L, H ++ [⟨0, sz, []⟩]⟩ := fun E0 E tmps g s => by
 obtain ⟨E', hw, hst, h1, h2, _⟩ := nilH_sound (blk := ⟨0, sz, []⟩) s.h s.l rfl rfl
 exact ⟨E', hw, g.step hst, h1, h2, fun t => (s.slots t).le hst.le, s.size⟩
theorem Weak.clear (j : Nat) {g sz : Nat} {rows : List (List AV)} {T : List AV} {L : List (Nat × List AV)} {H : List Blk} (hj : H[j]? = some ⟨g, sz, rows⟩) : Weak ⟨T, L, H⟩ ⟨T, L, H.set j ⟨g, sz, []⟩⟩ := fun E0 E tmps gd s => by
 have hjl := (List.getElem?_eq_some_iff.1 hj).1
 have get : ∀ (b : Nat) (blk : Blk), (H.set j ⟨g, sz, []⟩)[b]? = some blk → (b = j ∧ blk = ⟨g, sz, []⟩) ∨ (b ≠ j ∧ H[b]? = some blk) := fun b blk h => by
  rw [List.getElem?_set] at h
  split at h
  ·rename_i e; subst e; exact .inl ⟨rfl, (Option.some.inj h).symm⟩
  ·rename_i e; exact .inr ⟨fun h => e h.symm, h⟩
 have sh : SimH E H := s.h
 refine ⟨E, rfl, gd, { sh with
  heap := fun b c hb => ?_, gens := fun b blk hb => ?_, nilb := fun b hb => ?_, fresh := fun b hb => sh.fresh b (by simpa using hb) }, s.l, s.slots, s.size⟩
 ·obtain ⟨blk, cs, ty, q1, q0, q2, q3, q4, q5⟩ := sh.heap b c hb
  by_cases e : b = j
  ·subst e
   rw [hj] at q1
   obtain rfl := Option.some.inj q1
   exact ⟨⟨g, sz, []⟩, cs, ty, by rw [List.getElem?_set]; simp [hjl], q0, q2, q3, Nat.zero_le _, fun i row h => by simp at h, fun i j row a h => by simp at h⟩
  ·exact ⟨blk, cs, ty, by rw [List.getElem?_set, if_neg (fun h => e h.symm)]; exact q1, q0, q2, q3, q4, q5⟩
 ·rcases get b blk hb with ⟨rfl, rfl⟩ | ⟨_, hb⟩
  ·exact (sh.gens b _ hj :)
  ·exact sh.gens b blk hb
 ·obtain ⟨blk, q1, q0⟩ := sh.nilb b hb
  by_cases e : b = j
  ·subst e
   rw [hj] at q1
   obtain rfl := Option.some.inj q1
   exact ⟨⟨g, sz, []⟩, by rw [List.getElem?_set]; simp [hjl], q0⟩
  ·exact ⟨blk, by rw [List.getElem?_set, if_neg (fun h => e h.symm)]; exact q1, q0⟩
theorem shiftB_zero (H : List Blk) : H.map (shiftB 0) = H := by
 have h0 : ∀ a : AV, shift0 0 a = a := fun a => by cases a <;> simp [shift0]
 have : shiftB 0 = id := by
  funext b
  obtain ⟨g, s, rows⟩ := b
  show (⟨g, s, rows.map fun row => row.map (shift0 0)⟩ : Blk) = ⟨g, s, rows⟩
  congr 1
  have : (fun row : List AV => row.map (shift0 0)) = id := by funext row; rw [show shift0 0 = id from funext h0]; simp
  rw [this]; simp
 rw [this]; simp
theorem ownH_frame {g0 g1 g2 s : Nat} {occ : List Bool} {pts : List Point} {ws : List Held} {ids : List Nat} {bs : List (List Bool)} : ownH (⟨g0, 1, List.map eBool occ⟩ :: ⟨g1, 2, List.map ePoint pts⟩ :: ⟨g2, 5, hRows s ws ids⟩ :: List.map fbk bs) = true := by
 refine ownH_cons (fun _ => rfl) (ownH_cons (fun _ => rfl) ?_)
 unfold ownH
 rw [List.all_eq_true]
 intro b hb
 rw [List.all_eq_true]
 intro row hr
 rcases List.mem_cons.1 hb with rfl | hb
 ·obtain ⟨i, hi⟩ := List.mem_iff_getElem?.1 hr
  obtain ⟨x, id, _, _, rfl⟩ := row_inv hi
  rfl
 ·obtain ⟨b, _, rfl⟩ := List.mem_map.1 hb
  obtain ⟨x, _, rfl⟩ := List.mem_map.1 hr
  rfl
def sgF (j : Nat) : Option Nat := if j < 3 then some j else some (j + 1)
theorem own_frame {r : AV} {g0 g1 g2 g3 n0 n1 n2 : Nat} {f0 f1 f2 : Bool} {R : Frame} {ok : Bool} {occ : List Bool} {pts : List Point} {ws : List Held} {ids : List Nat} {bs : List (List Bool)} {rows : List (List AV)}
  (h : ok = R.ok ∧ occ = R.occ ∧ pts = R.points ∧ ws = R.ways ∧ ids = List.range ws.length ∧ bs = ws.map Held.been) (h0 : n0 = occ.length) (h1 : n1 = pts.length) (h2 : n2 = ws.length) (hr : r = .agg [.bool ok, .ref 0 g0 0 n0 f0, .ref 1 g1 0 n1 f1, .ref 2 g2 0 n2 f2]) :
  ∃ σ, OwnB (⟨g0, 1, List.map eBool occ⟩ :: ⟨g1, 2, List.map ePoint pts⟩ :: ⟨g2, 5, hRows 4 ws ids⟩ :: ⟨g3, 5, rows⟩ :: List.map fbk bs)
    (⟨0, 1, List.map eBool R.occ⟩ :: ⟨0, 2, List.map ePoint R.points⟩ :: ⟨0, 5, hRows 3 R.ways (List.range R.ways.length)⟩ :: List.map fbk (List.map Held.been R.ways)) σ ∧
   Own2 (⟨g0, 1, List.map eBool occ⟩ :: ⟨g1, 2, List.map ePoint pts⟩ :: ⟨g2, 5, hRows 4 ws ids⟩ :: ⟨g3, 5, rows⟩ :: List.map fbk bs)
    (⟨0, 1, List.map eBool R.occ⟩ :: ⟨0, 2, List.map ePoint R.points⟩ :: ⟨0, 5, hRows 3 R.ways (List.range R.ways.length)⟩ :: List.map fbk (List.map Held.been R.ways)).length σ r
    (.agg [.bool R.ok, .ref 0 0 0 R.occ.length false, .ref 1 0 0 R.points.length false, .ref 2 0 0 R.ways.length false]) := by
 obtain ⟨rfl, rfl, rfl, rfl, rfl, rfl⟩ := h
 subst h0; subst h1; subst h2; subst hr
 have hlen : (⟨0, 1, List.map eBool R.occ⟩ :: ⟨0, 2, List.map ePoint R.points⟩ :: ⟨0, 5, hRows 3 R.ways (List.range R.ways.length)⟩ :: List.map fbk (List.map Held.been R.ways) : List Blk).length = R.ways.length + 3 := by simp
 refine ⟨sgF, ⟨fun i j b hi hj h1 h2 => ?_, fun j k hk => ?_, fun j b k hk hs => ?_⟩, .inl ⟨_, _, rfl, rfl, ?_⟩⟩
 ·unfold sgF at h1 h2
  split at h1 <;> split at h2 <;> simp at h1 h2 <;> omega
 ·match j, hk with
  | 0, hk => simp at hk; subst hk; rfl
  | 1, hk => simp at hk; subst hk; rfl
  | 2, hk => simp at hk; subst hk; rfl
  | j + 3, hk => simp at hk; obtain ⟨x, _, rfl⟩ := hk; rfl
 ·rw [hlen]
  match j, hk, hs with
  | 0, hk, hs =>
   simp at hk; subst hk
   obtain rfl : 0 = b := by simpa [sgF] using hs
   exact rowsOwn_eq (b := 0) rfl oBool rfl
  | 1, hk, hs =>
   simp at hk; subst hk
   obtain rfl : 1 = b := by simpa [sgF] using hs
   exact rowsOwn_eq (b := 1) rfl oPoint rfl
  | 2, hk, hs =>
   simp at hk; subst hk
   obtain rfl : 2 = b := by simpa [sgF] using hs
   refine ⟨_, rfl, rfl, ⟨by rw [hRows_len (by simp), hRows_len (by simp)], fun i ra rb ha hb => ?_⟩⟩
   obtain ⟨x, id, hx, hd, rfl⟩ := row_inv ha
   obtain ⟨x', id', hx', hd', rfl⟩ := row_inv hb
   rw [hx] at hx'; cases hx'
   rw [hd] at hd'; cases hd'
   have hil : i < R.ways.length := (List.getElem?_eq_some_iff.1 hx).1
   obtain rfl : i = id := by rw [List.getElem?_range hil] at hd; exact Option.some.inj hd
   refine .cons (.int _ _) (.cons (.int _ _) (.cons ?_ (.cons (.bool _) (.cons (.int _ _) .nil))))
   refine OwnC.ref (blk := fbk x.been) (by omega) (by simp [sgF]) ?_ rfl
   show (List.map fbk (List.map Held.been R.ways))[i]? = _
   rw [List.getElem?_map, List.getElem?_map, hx]; rfl
  | j + 3, hk, hs =>
   obtain rfl : j + 4 = b := by
    unfold sgF at hs
    rw [if_neg (by omega)] at hs; exact Option.some.inj hs
   have hk : (List.map fbk (List.map Held.been R.ways))[j]? = some k := by simpa using hk
   have : ∃ x, k = fbk x := by
    rw [List.getElem?_map] at hk
    cases hq : (List.map Held.been R.ways)[j]? with
    | none => rw [hq] at hk; cases hk
    | some x => rw [hq] at hk; cases hk; exact ⟨x, rfl⟩
   obtain ⟨x, rfl⟩ := this
   have hb : (⟨g0, 1, List.map eBool R.occ⟩ :: ⟨g1, 2, List.map ePoint R.points⟩ :: ⟨g2, 5, hRows 4 R.ways (List.range R.ways.length)⟩ :: ⟨g3, 5, rows⟩ :: List.map fbk (List.map Held.been R.ways) : List Blk)[j + 4]? = some ⟨0, 1, List.map eBool x⟩ := hk
   exact rowsOwn_eq (b := j + 4) hb oBool rfl
 ·rw [hlen]
  exact .cons (.bool _) (.cons (.ref (by omega) rfl rfl rfl) (.cons (.ref (by omega) rfl rfl rfl) (.cons (.ref (by omega) rfl rfl rfl) .nil)))
structure FamG (ws : List Held) (ids : List Nat) (bs : List (List Bool)) : Prop where
 ok : FamOk ws ids bs
 nd : ∀ i j k : Nat, ids[i]? = some k → ids[j]? = some k → i = j
 len : ∀ b ∈ bs, b.length ≤ 1048576
theorem fam_snoc {bs : List (List Bool)} {b : List Bool} : List.map fbk bs ++ [⟨0, 1, List.map eBool b⟩] = List.map fbk (bs ++ [b]) := by rw [List.map_append]; rfl
section
variable {P : Program} {esc : List Nat} {ops : Array Oper} {n : Nat} {X : List Oper} {i0 : Nat} {A : List (Nat × AV)} {L : List (Nat × List AV)} {H : List Blk} {K : List (Nat × AV) → List (Nat × List AV) → List Blk → Prop}
theorem sLdR (k0 : Nat) (d : Option Nat) (N : List (Nat × AV)) (rows : List (List AV)) {row : List AV} (i : Int) (t : TypeId) (c g : Nat) (v : AV) (hrow : rows[i.toNat]? = some row) (h : evS P esc ops n (X.drop (i0 + k0)) (putD d v N A) L H K)
  (e2 : ∀ K, takeA P t row c K = K v := by intro K; kernel_rfl)
  (e : ∀ K, evS P esc ops n ((X.drop i0).take k0) A L H K = (g = g ∧ oelim rows[0 + i.toNat]? fun row => takeA P t row c fun v => K (putD d v N A) L H) := by intro K; kernel_rfl) : evS P esc ops n (X.drop i0) A L H K := by
 rw [evS_split X i0 k0, e]
 exact ⟨rfl, oelim_mk (a := row) (by rw [Nat.zero_add]; exact hrow) (by rw [e2]; exact h)⟩
theorem sStR (k0 : Nat) (d : Option Nat) (N : List (Nat × AV)) (rows : List (List AV)) {row row' : List AV} (i : Int) (c k g : Nat) (cells : List AV) (H' : List (List AV) → List Blk) (rows' : List (List AV)) (hrow : rows[i.toNat]? = some row) (hset : rows.set i.toNat row' = rows')
  (h : evS P esc ops n (X.drop (i0 + k0)) (putD d (.tup []) N A) L (H' rows') K) (hc : Nat.ble (c + k) row.length = true := by kernel_rfl) (hs : splice row c cells = row' := by kernel_rfl)
  (e : ∀ K, evS P esc ops n ((X.drop i0).take k0) A L H K = (g = g ∧ oelim rows[0 + i.toNat]? fun row => c + k ≤ row.length ∧ K (putD d (.tup []) N A) L (H' (rows.set (0 + i.toNat) (splice row c cells)))) := by intro K; kernel_rfl) : evS P esc ops n (X.drop i0) A L H K := by
 rw [evS_split X i0 k0, e]
 refine ⟨rfl, oelim_mk (a := row) (by rw [Nat.zero_add]; exact hrow) ⟨Nat.le_of_ble_eq_true hc, ?_⟩⟩
 ·rw [hs, Nat.zero_add, hset]; exact h
theorem sStRj (k0 : Nat) (d : Option Nat) (N : List (Nat × AV)) (rows : List (List AV)) {row row' : List AV} (i : Int) (c k g : Nat) (cells : List AV) (j : Nat) (rows' : List (List AV)) (hrow : rows[i.toNat]? = some row) (hset : rows.set i.toNat row' = rows')
  (h : evS P esc ops n (X.drop (i0 + k0)) (putD d (.tup []) N A) L (hrw j rows' H) K) (hc : Nat.ble (c + k) row.length = true := by kernel_rfl) (hs : splice row c cells = row' := by kernel_rfl)
  (e : ∀ K, evS P esc ops n ((X.drop i0).take k0) A L H K = (g = g ∧ oelim rows[0 + i.toNat]? fun row => c + k ≤ row.length ∧ K (putD d (.tup []) N A) L (hrw j (rows.set (0 + i.toNat) (splice row c cells)) H)) := by intro K; kernel_rfl) : evS P esc ops n (X.drop i0) A L H K := sStR k0 d N rows i c k g cells (fun r => hrw j r H) rows' hrow hset h hc hs e
theorem sAppW (k0 : Nat) (d : Option Nat) (N : List (Nat × AV)) (s b g q B : Nat) (ws : List Held) (ids : List Nat) (x : Held) (id : Nat) (H' : List (List AV) → List Blk) (hl : ws.length = ids.length)
  (h0 : (ws.length + 1) * B ≤ 140737488355328 ∧ ws.length + 1 ≤ 4611686018427387904) (h : evS P esc ops n (X.drop (i0 + k0)) (putD d (.ref b (g + 1) 0 (ws ++ [x]).length false) N A) L (H' (hRows s (ws ++ [x]) (ids ++ [id]))) K)
  (e : ∀ K, evS P esc ops n ((X.drop i0).take k0) A L H K = (true = true ∧ true = true ∧ (q = q ∧ 0 + 1 ≤ 1 ∧ (rowsOk 5 [hRow s x id] ∧ 0 = 0 ∧ g = g ∧ 5 = 5 ∧ (hRows s ws ids).length = ws.length ∧ (ws.length + 1) * B ≤ 140737488355328 ∧ ws.length + 1 ≤ 4611686018427387904 ∧
   K (putD d (.ref b (g + 1) 0 (ws.length + 1) false) N A) L (H' (hRows s ws ids ++ [hRow s x id]))))) := by intro K; kernel_rfl) : evS P esc ops n (X.drop i0) A L H K := by
 rw [evS_split X i0 k0, e]
 refine ⟨rfl, rfl, rfl, Nat.le_refl _, ?_, rfl, rfl, rfl, hRows_len hl, h0.1, h0.2, ?_⟩
 ·intro row hr
  rw [List.mem_singleton.1 hr]
  exact ⟨rfl, fun a ha => List.all_eq_true.1 (show (hRow s x id).all sto1 = true from rfl) a ha⟩
 ·rw [hRows_snoc hl]; rw [List.length_append] at h; exact h
end
section
variable {P : Program} {esc : List Nat} {ops : Array Oper} {n : Nat} {X : List Item} {i0 : Nat} {A : List (Nat × AV)} {L : List (Nat × List AV)} {H : List Blk} {K : List (Nat × AV) → List (Nat × List AV) → List Blk → Prop}
theorem tLdR (k0 : Nat) (d : Option Nat) (N : List (Nat × AV)) (rows : List (List AV)) {row : List AV} (i : Int) (t : TypeId) (c g : Nat) (v : AV) (hrow : rows[i.toNat]? = some row) (h : evSD P esc ops n (X.drop (i0 + k0)) (putD d v N A) L H K)
  (e2 : ∀ K, takeA P t row c K = K v := by intro K; kernel_rfl)
  (e : ∀ K, evSD P esc ops n ((X.drop i0).take k0) A L H K = (g = g ∧ oelim rows[0 + i.toNat]? fun row => takeA P t row c fun v => K (putD d v N A) L H) := by intro K; kernel_rfl) : evSD P esc ops n (X.drop i0) A L H K := by
 rw [evSD_split X i0 k0, e]
 exact ⟨rfl, oelim_mk (a := row) (by rw [Nat.zero_add]; exact hrow) (by rw [e2]; exact h)⟩
theorem tStR (k0 : Nat) (d : Option Nat) (N : List (Nat × AV)) (rows : List (List AV)) {row row' : List AV} (i : Int) (c k g : Nat) (cells : List AV) (F : List (List AV) → Prop) (H' : List (List AV) → List Blk) (rows' : List (List AV)) (hrow : rows[i.toNat]? = some row) (hset : rows.set i.toNat row' = rows')
  (hF : F (rows')) (h : evSD P esc ops n (X.drop (i0 + k0)) (putD d (.tup []) N A) L (H' rows') K) (hc : Nat.ble (c + k) row.length = true := by kernel_rfl) (hs : splice row c cells = row' := by kernel_rfl)
  (e : ∀ K, evSD P esc ops n ((X.drop i0).take k0) A L H K = (g = g ∧ oelim rows[0 + i.toNat]? fun row => c + k ≤ row.length ∧ F ((rows.set (0 + i.toNat) (splice row c cells))) ∧ K (putD d (.tup []) N A) L (H' (rows.set (0 + i.toNat) (splice row c cells)))) := by intro K; kernel_rfl) : evSD P esc ops n (X.drop i0) A L H K := by
 rw [evSD_split X i0 k0, e]
 refine ⟨rfl, oelim_mk (a := row) (by rw [Nat.zero_add]; exact hrow) ⟨Nat.le_of_ble_eq_true hc, ?_, ?_⟩⟩
 ·rw [hs, Nat.zero_add, hset]; exact hF
 ·rw [hs, Nat.zero_add, hset]; exact h
theorem tAdrF (k0 : Nat) (d : Option Nat) (N : List (Nat × AV)) (bs : List (List Bool)) (id s : Nat) {i : Int} {m : Nat} (hid : id < bs.length) (h0 : 0 ≤ i ∧ i.toNat < m) (h : evSD P esc ops n (X.drop (i0 + k0)) (putD d (.ptr (id + s) 0 (0 + i.toNat) 0) N A) L H K)
  (e : ∀ K, evSD P esc ops n ((X.drop i0).take k0) A L H K = (oelim (List.map fbk bs)[id]? fun blk => blk.gen = 0 ∧ blk.sz = 1 ∧ 0 ≤ i ∧ i < m ∧ K (putD d (.ptr (id + s) 0 (0 + i.toNat) 0) N A) L H) := by intro K; kernel_rfl) : evSD P esc ops n (X.drop i0) A L H K := by
 rw [evSD_split X i0 k0, e]
 exact oelim_mk (fam_get hid) ⟨rfl, rfl, h0.1, by have := h0.2; omega, h⟩
theorem tLdF (k0 : Nat) (d : Option Nat) (N : List (Nat × AV)) (bs : List (List Bool)) (id : Nat) (i : Int) (t : TypeId) (hid : id < bs.length) (hi : i.toNat < (bs.getD id []).length) (h : evSD P esc ops n (X.drop (i0 + k0)) (putD d (.bool (nth (bs.getD id []) i)) N A) L H K)
  (e2 : ∀ x K, takeA P t (eBool x) 0 K = K (.bool x) := by intro x K; kernel_rfl)
  (e : ∀ K, evSD P esc ops n ((X.drop i0).take k0) A L H K = (oelim (List.map fbk bs)[id]? fun blk => blk.gen = 0 ∧ oelim blk.rows[0 + i.toNat]? fun row => takeA P t row 0 fun v => K (putD d v N A) L H) := by intro K; kernel_rfl) : evSD P esc ops n (X.drop i0) A L H K := by
 rw [evSD_split X i0 k0, e]
 refine oelim_mk (fam_get hid) ⟨rfl, oelim_mk (a := eBool (nth (bs.getD id []) i)) (by rw [Nat.zero_add]; exact bool_row hi) (by rw [e2]; exact h)⟩
theorem tStF (k0 : Nat) (d : Option Nat) (N : List (Nat × AV)) (bs : List (List Bool)) (id : Nat) (i : Int) (x : Bool) (F : List Blk → Prop) (H' : List Blk → List Blk) (hid : id < bs.length) (hi : i.toNat < (bs.getD id []).length)
  (hF : F ((List.map fbk (bs.set id ((bs.getD id []).set i.toNat x))))) (h : evSD P esc ops n (X.drop (i0 + k0)) (putD d (.tup []) N A) L (H' (List.map fbk (bs.set id ((bs.getD id []).set i.toNat x)))) K)
  (e : ∀ K, evSD P esc ops n ((X.drop i0).take k0) A L H K = (oelim (List.map fbk bs)[id]? fun blk => blk.gen = 0 ∧ oelim blk.rows[0 + i.toNat]? fun row => 0 + 1 ≤ row.length ∧ F (((List.map fbk bs).set id { blk with rows := blk.rows.set (0 + i.toNat) (splice row 0 [.bool x]) })) ∧ K (putD d (.tup []) N A) L (H' ((List.map fbk bs).set id { blk with rows := blk.rows.set (0 + i.toNat) (splice row 0 [.bool x]) }))) := by intro K; kernel_rfl) : evSD P esc ops n (X.drop i0) A L H K := by
 rw [evSD_split X i0 k0, e]
 have key : (List.map fbk bs).set id { fbk (bs.getD id []) with rows := (fbk (bs.getD id [])).rows.set (0 + i.toNat) (splice (eBool (nth (bs.getD id []) i)) 0 [.bool x]) } = List.map fbk (bs.set id ((bs.getD id []).set i.toNat x)) := by
  rw [← fam_set]
  congr 1
  show (⟨0, 1, (List.map eBool (bs.getD id [])).set (0 + i.toNat) (eBool x)⟩ : Blk) = ⟨0, 1, _⟩
  rw [Nat.zero_add, bool_set]
 refine oelim_mk (fam_get hid) ⟨rfl, oelim_mk (a := eBool (nth (bs.getD id []) i)) (by rw [Nat.zero_add]; exact bool_row hi) ⟨Nat.le_refl _, ?_, ?_⟩⟩
 ·rw [key]; exact hF
 ·rw [key]; exact h
theorem tAppW (k0 : Nat) (d : Option Nat) (N : List (Nat × AV)) (s b g q B : Nat) (ws : List Held) (ids : List Nat) (x : Held) (id : Nat) (F : List (List AV) → Prop) (H' : List (List AV) → List Blk) (hl : ws.length = ids.length)
  (h0 : (ws.length + 1) * B ≤ 140737488355328 ∧ ws.length + 1 ≤ 4611686018427387904) (hF : F ((hRows s (ws ++ [x]) (ids ++ [id])))) (h : evSD P esc ops n (X.drop (i0 + k0)) (putD d (.ref b (g + 1) 0 (ws ++ [x]).length false) N A) L (H' (hRows s (ws ++ [x]) (ids ++ [id]))) K)
  (e : ∀ K, evSD P esc ops n ((X.drop i0).take k0) A L H K = (true = true ∧ true = true ∧ (q = q ∧ 0 + 1 ≤ 1 ∧ (rowsOk 5 [hRow s x id] ∧ 0 = 0 ∧ g = g ∧ 5 = 5 ∧ (hRows s ws ids).length = ws.length ∧ (ws.length + 1) * B ≤ 140737488355328 ∧ ws.length + 1 ≤ 4611686018427387904 ∧
   F ((hRows s ws ids ++ [hRow s x id])) ∧ K (putD d (.ref b (g + 1) 0 (ws.length + 1) false) N A) L (H' (hRows s ws ids ++ [hRow s x id]))))) := by intro K; kernel_rfl) : evSD P esc ops n (X.drop i0) A L H K := by
 rw [evSD_split X i0 k0, e]
 refine ⟨rfl, rfl, rfl, Nat.le_refl _, ?_, rfl, rfl, rfl, hRows_len hl, h0.1, h0.2, ?_, ?_⟩
 ·intro row hr
  rw [List.mem_singleton.1 hr]
  exact ⟨rfl, fun a ha => List.all_eq_true.1 (show (hRow s x id).all sto1 = true from rfl) a ha⟩
 ·rw [hRows_snoc hl]; exact hF
 ·rw [hRows_snoc hl]; rw [List.length_append] at h; exact h
end
end Go.Proofs.Ytglpfccgmfhkdaa.Fw
