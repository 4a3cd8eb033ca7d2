/- What is handed to a law, opened: nested structs and slices are told by plain values; the law's call, told of the whole world. -/

import Derived.Test.YtglpfccgmfhkdaaFwOA
import Derived.ChangeArms
import Derived.ChangeShapes
import Derived.SizedLaws
import Derived.Below
import Derived.JoinedOf
set_option linter.unusedVariables false
namespace Go.Proofs.Ytglpfccgmfhkdaa.Fw
open Go
def Env.at (W : World) : Env := { w := W, PA := fun c => c < W.heap.size, PF := fun _ => False, m := fun _ => none, gen := fun _ => 0, sz := fun _ => 0, cp := fun _ => 0, mL := fun _ => none }
theorem at_sim (W : World) : SimH (Env.at W) [] where
 heap := fun b c hb => by cases hb
 gens := fun b blk hb => by simp at hb
 nilb := fun b hb => by cases hb
 fresh := fun b _ => ⟨rfl, rfl⟩
 injH := fun b b' c hb => by cases hb
 injL := fun t t' c hb => by cases hb
 injHL := fun b t c hb => by cases hb
 notH := fun c _ ⟨b, hb⟩ => by cases hb
 notL := fun c _ ⟨b, hb⟩ => by cases hb
 pfpa := fun c hc => hc.elim
 ltP := fun c hc => hc
 ltH := fun c ⟨b, hb⟩ => by cases hb
 ltL := fun c ⟨b, hb⟩ => by cases hb
theorem law_calls {P : Program} {f : FuncId} {avs : List AV} {W : World} {vs : List Value} (h : FnV P f avs (.bool true)) (ha : PW (V2 (Env.at W)) avs vs) :
  Calls P f vs.toArray W fun e W' => e = .returned (.bool true) ∧ RowKit.Below W.heap.size W W' := by
 refine (h.2 (Env.at W) vs (fun _ => rfl) (at_sim W) ha).mono ?_
 rintro e w' ⟨r, v, H', E', rfl, hr, rfl, hn, hs, hv, hst⟩
 have hb : r = .bool true := by
  rcases hr with ⟨l, l', _, e, _⟩ | ⟨l, l', _, e, _⟩ | hr
  ·cases e
  ·cases e
  ·cases hr; rfl
 subst hb
 refine ⟨by rw [V3.bool_inv hv], hst.os, hst.tape, hst.output, hst.size, fun k hk => hst.keep k hk (fun ⟨b, hb⟩ => by cases hb) (fun ⟨b, hb⟩ => by cases hb)⟩
def RA (W : World) : AV → Value → Prop := RV W (fun c => c < W.heap.size) (fun _ => False)
def Opens (P : Program) (W : World) (t : TypeId) {α : Type} (enc : α → List AV) : Prop :=
 ∀ {H : Type} (eh : TypeId × Value → H) (fuel : Nat) (cs : List Value) (x : DataW H × List MemPlace), DataW.trod eh P W 0 (fun _ => true) true fuel t cs = some x → (∀ n ∈ x.1.weights P t, n ≤ reachBytes) → ∃ y : α, PW (RA W) (enc y) cs
section
variable {P : Program} {W : World}
theorem opens_int {t : TypeId} {k : IntKind} (hu : P.underlying t = some (.int k)) : Opens P W t (fun n : Int => [.int k n]) := fun eh fuel cs x h _ => by
 obtain ⟨n, rfl, _⟩ := DataW.trod_int hu h
 exact ⟨n, .cons (.int _ _) .nil⟩
theorem opens_bool {t : TypeId} (hu : P.underlying t = some .bool) : Opens P W t eBool := fun eh fuel cs x h _ => by
 obtain ⟨n, rfl, _⟩ := DataW.trod_bool hu h
 exact ⟨n, .cons (.bool _) .nil⟩
theorem list_of {α : Type} (n : Nat) (φ : Nat → α → Prop) (h : ∀ i, i < n → ∃ y, φ i y) : ∃ ys : List α, ys.length = n ∧ ∀ (i : Nat) (y : α), ys[i]? = some y → φ i y := by
 induction n with
 | zero => exact ⟨[], rfl, fun i y h => by simp at h⟩
 | succ n ih =>
  obtain ⟨ys, hl, hy⟩ := ih fun i hi => h i (by omega)
  obtain ⟨z, hz⟩ := h n (by omega)
  refine ⟨ys ++ [z], by simp [hl], fun i y hi => ?_⟩
  rcases Nat.lt_or_ge i n with hlt | hge
  ·rw [List.getElem?_append_left (by omega)] at hi
   exact hy i y hi
  ·rw [List.getElem?_append_right (by omega)] at hi
   rcases Nat.eq_or_lt_of_le hge with rfl | hgt
   ·rw [hl, Nat.sub_self] at hi
    cases hi; exact hz
   ·rw [List.getElem?_eq_none (by simp; omega)] at hi
    cases hi
theorem mapM_both {α β : Type} {f : α → Option β} : ∀ {l : List α} {r : List β}, l.mapM f = some r → r.length = l.length ∧ ∀ (i : Nat) (a : α), l[i]? = some a → f a = r[i]?
 | [], r, h => by simp at h; subst h; exact ⟨rfl, fun i a h => by simp at h⟩
 | x :: l, r, h => by
  rw [List.mapM_cons] at h
  simp only [bind, Option.bind_eq_some_iff, pure, Option.some.injEq] at h
  obtain ⟨b, hb, r', hr, rfl⟩ := h
  obtain ⟨h1, h2⟩ := mapM_both hr
  refine ⟨by simp [h1], fun i a ha => ?_⟩
  cases i with
  | zero => simp at ha; subst ha; simpa using hb
  | succ i => exact h2 i a (by simpa using ha)
theorem cells_get {a : Addr} {n : Nat} {l : List Value} (h : W.cells? 0 a n = some l) : l.length = n ∧ ∀ j, j < n → W.cell? (a.add j) = l[j]? := by
 unfold World.cells? at h
 rw [if_pos (Nat.zero_le _)] at h
 obtain ⟨hl, hg⟩ := mapM_both h
 rw [List.length_range] at hl
 exact ⟨hl, fun j hj => hg j j (List.getElem?_range hj)⟩
theorem spot_none {a : Addr} {v : Value} (h : W.cell? a = some v) : a.spot = none ∧ a.block < W.heap.size := by
 unfold World.cell? at h
 split at h
 ·rename_i c _ _ hb
  split at h
  ·cases h
  ·rename_i hs
   refine ⟨by cases hq : a.spot <;> simp_all, ?_⟩
   rcases Nat.lt_or_ge a.block W.heap.size with h1 | h1
   ·exact h1
   ·rw [Array.getElem?_eq_none h1] at hb; cases hb
 ·cases h
theorem add_add (c o x y : Nat) : ((⟨c, o, none⟩ : Addr).add x).add y = ⟨c, o + (x + y), none⟩ := by
 rw [addr_add, addr_add, Nat.add_assoc]
theorem opens_slice {t e : TypeId} {α : Type} {enc : α → List AV} (hu : P.underlying t = some (.slice e)) (hb : 1 ≤ P.bytesOf e) (hz : 1 ≤ P.cellsOf e) (hc : ∀ x, (enc x).length = P.cellsOf e) (h : Opens P W e enc) : Opens P W t (eL enc false) := by
 intro H eh fuel cs x ht hw
 rcases DataW.trod_slice hu ht with ⟨rfl, rfl⟩ | ⟨a, len, cap, elems, rest, n, _, rfl, rfl, _, hl, _, hlen, hel, _, _⟩
 ·refine ⟨[], .cons ?_ .nil⟩
  exact RV.lst (rows := []) (PB := fun _ => False) (sz := 0) (vs := fun _ _ => undef) (fun _ h => h.elim) ⟨Nat.le_refl _, Nat.zero_le _⟩ (fun h => by cases h) (fun i row h => by simp at h) (fun h => by simp at h) (fun i j row a h => by simp at h)
 ·have hw1 : (elems.length + rest.length) * P.bytesOf e ≤ reachBytes := by
   have := hw ((elems.length + rest.length) * P.bytesOf e) (by simp [DataW.weights, hu])
   simpa using this
  have h62 : len ≤ 4611686018427387904 := by
   have h1 : elems.length + rest.length ≤ (elems.length + rest.length) * P.bytesOf e := Nat.le_mul_of_pos_right _ hb
   have h2 := reachBytes_lt
   have h3 : (2 : Nat) ^ 47 = 140737488355328 := rfl
   omega
  have hall : ∀ (l : List (DataW H)) (d : DataW H), d ∈ l → ∀ m ∈ d.weights P e, m ∈ DataW.weightsAll P e l := by
   intro l
   induction l with
   | nil => intro d hd; cases hd
   | cons q l ih =>
    intro d hd m hm
    simp only [DataW.weightsAll, List.mem_append]
    rcases List.mem_cons.1 hd with rfl | hd
    ·exact .inl hm
    ·exact .inr (ih d hd m hm)
  obtain ⟨ys, hyl, hy⟩ := list_of len (fun i y => ∃ l, W.cells? 0 (a.add (i * P.cellsOf e)) (P.cellsOf e) = some l ∧ PW (RA W) (enc y) l) fun i hi => by
   have h1 := hel i hi
   have h2 : elems[i]? = some (elems[i]'(by omega)) := List.getElem?_eq_getElem _
   rw [h2, Option.bind_eq_some_iff] at h1
   obtain ⟨l, hc1, ht1⟩ := h1
   obtain ⟨y, hy⟩ := h eh n l _ ht1 fun m hm => hw m (by
    simp only [DataW.weights, hu, List.mem_cons, List.mem_append]
    exact .inr (.inl (hall _ _ (List.mem_map.2 ⟨_, List.getElem_mem (by omega), rfl⟩) m hm)))
   exact ⟨y, l, hc1, hy⟩
  have hget : ∀ i j, i < len → j < P.cellsOf e → ∃ l v, W.cells? 0 (a.add (i * P.cellsOf e)) (P.cellsOf e) = some l ∧ l[j]? = some v ∧ W.cell? ((a.add (i * P.cellsOf e)).add j) = some v := fun i j hi hj => by
   obtain ⟨l, hl1, _⟩ := hy i _ (List.getElem?_eq_getElem (by omega))
   obtain ⟨q1, q2⟩ := cells_get hl1
   exact ⟨l, l[j]'(by omega), hl1, List.getElem?_eq_getElem _, by rw [q2 j hj]; exact List.getElem?_eq_getElem _⟩
  let vs : Nat → Nat → Value := fun i j => (((W.cells? 0 (a.add (i * P.cellsOf e)) (P.cellsOf e)).getD [])[j]?).getD undef
  refine ⟨ys, .cons ?_ .nil⟩
  have key := RV.lst (w := W) (PA := fun c => c < W.heap.size) (PF := fun _ => False) (PB := fun c => c < W.heap.size) (rows := List.map enc ys) (full := false) (fresh := false) (A := some a) (cap := cap) (sz := P.cellsOf e) (vs := vs)
   (fun c hc => by simpa using hc) (by rw [List.length_map, hyl]; exact ⟨hl, h62⟩) (fun h => by cases h)
   (fun i row hr => by
    rw [List.getElem?_map] at hr
    cases hq : ys[i]? with
    | none => rw [hq] at hr; cases hr
    | some y => rw [hq] at hr; cases hr; exact hc y)
   (fun hpos => by
    rw [List.length_map, hyl] at hpos
    obtain ⟨l, v, _, _, hv⟩ := hget 0 0 hpos hz
    rw [Nat.zero_mul] at hv
    have h0 : (a.add 0).add 0 = a := by simp [Addr.add]
    rw [h0] at hv
    obtain ⟨hs, hlt⟩ := spot_none hv
    obtain ⟨c, o, s⟩ := a
    have hs : s = none := hs
    subst hs
    refine ⟨c, o, rfl, hlt, fun i j hi hj => ?_⟩
    rw [List.length_map, hyl] at hi
    obtain ⟨l, v, q1, q2, q3⟩ := hget i j hi hj
    rw [add_add] at q3
    rw [q3]
    show some v = some ((((W.cells? 0 _ _).getD [])[j]?).getD undef)
    rw [q1]
    show some v = some ((l[j]?).getD undef)
    rw [q2]; rfl)
   (fun i j row b hr hj => by
    rw [List.getElem?_map] at hr
    cases hq : ys[i]? with
    | none => rw [hq] at hr; cases hr
    | some y =>
     rw [hq] at hr; cases hr
     obtain ⟨l, hl1, hp⟩ := hy i y hq
     obtain ⟨v, hv, hrv⟩ := hp.get hj
     show RV W _ _ b ((((W.cells? 0 _ _).getD [])[j]?).getD undef)
     rw [hl1]
     show RV W _ _ b ((l[j]?).getD undef)
     rw [hv]; exact hrv)
  rw [List.length_map, hyl] at key
  exact key
def structB (P : Program) (t : TypeId) (ts : List TypeId) : Bool := match P.underlying t with
 | some (.struct fs) => (fs.toList.zipIdx.all fun p => p.1.offset == p.2 && P.cellsOf p.1.type == 1) && fs.toList.map (·.type) == ts && P.cellsOf t == ts.length
 | _ => false
theorem struct_cells {t : TypeId} {ts : List TypeId} (hs : structB P t ts = true) {H : Type} {eh : TypeId × Value → H} {fuel : Nat} {cs : List Value} {x : DataW H × List MemPlace} (h : DataW.trod eh P W 0 (fun _ => true) true fuel t cs = some x)
  (hw : ∀ n ∈ x.1.weights P t, n ≤ reachBytes) : cs.length = ts.length ∧ ∀ (i : Nat) (u : TypeId) (v : Value), ts[i]? = some u → cs[i]? = some v → ∃ (n : Nat) (z : DataW H × List MemPlace), DataW.trod eh P W 0 (fun _ => true) true n u [v] = some z ∧ ∀ m ∈ z.1.weights P u, m ≤ reachBytes := by
 unfold structB at hs
 split at hs
 ·rename_i fs hu
  simp only [Bool.and_eq_true, beq_iff_eq] at hs
  obtain ⟨⟨h1, h2⟩, h3⟩ := hs
  obtain ⟨xs, n, _, rfl, hl, hxl, hf⟩ := DataW.trod_struct hu h
  refine ⟨by rw [hl, h3], fun i u v ht hv => ?_⟩
  have hi : i < fs.size := by
   have := (List.getElem?_eq_some_iff.1 ht).1
   rw [← h2] at this; simpa using this
  have hfi : fs[i]? = some fs[i] := Array.getElem?_eq_getElem hi
  have hty : fs[i].type = u := by
   have : (fs.toList.map (·.type))[i]? = some u := by rw [h2]; exact ht
   rw [List.getElem?_map, Array.getElem?_toList, hfi] at this
   exact Option.some.inj this
  have hoff := List.all_eq_true.1 h1 (fs[i], i) (by rw [List.mem_zipIdx_iff_getElem?]; rw [Array.getElem?_toList]; exact hfi)
  simp only [Bool.and_eq_true, beq_iff_eq] at hoff
  have := hf i fs[i] hfi
  rw [hoff.1, hoff.2, hty] at this
  have hone : (cs.drop i).take 1 = [v] := by
   have hlt := (List.getElem?_eq_some_iff.1 hv).1
   rw [List.drop_eq_getElem_cons hlt, List.take_succ_cons, List.take_zero]
   have := (List.getElem?_eq_some_iff.1 hv).2
   rw [this]
  rw [hone] at this
  have hxi : xs[i]? = some (xs[i]'(by omega)) := List.getElem?_eq_getElem _
  rw [hxi] at this
  refine ⟨n, _, this, fun m hm => hw m ?_⟩
  simp only [DataW.weights, hu]
  exact DataW.weights_mem_each (j := i) (by rw [h2]; exact ht) (by rw [List.getElem?_map, hxi]; rfl) m hm
 ·cases hs
theorem cells2 {cs : List Value} (h : cs.length = 2) : ∃ a b, cs = [a, b] := by
 match cs, h with
 | [a, b], _ => exact ⟨a, b, rfl⟩
theorem cells4 {cs : List Value} (h : cs.length = 4) : ∃ a b c d, cs = [a, b, c, d] := by
 match cs, h with
 | [a, b, c, d], _ => exact ⟨a, b, c, d, rfl⟩
theorem cells5 {cs : List Value} (h : cs.length = 5) : ∃ a b c d e, cs = [a, b, c, d, e] := by
 match cs, h with
 | [a, b, c, d, e], _ => exact ⟨a, b, c, d, e, rfl⟩
theorem one_cell {α : Type} {u : TypeId} {enc : α → List AV} {f : α → AV} (he : ∀ y, enc y = [f y]) (h : Opens P W u enc) {H : Type} {eh : TypeId × Value → H} {n : Nat} {v : Value} {z : DataW H × List MemPlace} (ht : DataW.trod eh P W 0 (fun _ => true) true n u [v] = some z)
  (hw : ∀ m ∈ z.1.weights P u, m ≤ reachBytes) : ∃ y, RA W (f y) v := by
 obtain ⟨y, hy⟩ := h eh n [v] z ht hw
 rw [he] at hy
 exact ⟨y, hy.head⟩
theorem opens_Lie {t a b : TypeId} (hs : structB P t [a, b] = true) (ha : Opens P W a eInt) (hb : Opens P W b eInt) : Opens P W t eLie := fun eh fuel cs x h hw => by
 obtain ⟨hl, hc⟩ := struct_cells hs h hw
 obtain ⟨c0, c1, rfl⟩ := cells2 hl
 obtain ⟨n0, z0, q0, w0⟩ := hc 0 a c0 rfl rfl
 obtain ⟨n1, z1, q1, w1⟩ := hc 1 b c1 rfl rfl
 obtain ⟨y0, r0⟩ := one_cell (fun _ => rfl) ha q0 w0
 obtain ⟨y1, r1⟩ := one_cell (fun _ => rfl) hb q1 w1
 exact ⟨⟨y0, y1⟩, .cons r0 (.cons r1 .nil)⟩
theorem opens_Point {t a b : TypeId} (hs : structB P t [a, b] = true) (ha : Opens P W a eInt) (hb : Opens P W b eInt) : Opens P W t ePoint := fun eh fuel cs x h hw => by
 obtain ⟨hl, hc⟩ := struct_cells hs h hw
 obtain ⟨c0, c1, rfl⟩ := cells2 hl
 obtain ⟨n0, z0, q0, w0⟩ := hc 0 a c0 rfl rfl
 obtain ⟨n1, z1, q1, w1⟩ := hc 1 b c1 rfl rfl
 obtain ⟨y0, r0⟩ := one_cell (fun _ => rfl) ha q0 w0
 obtain ⟨y1, r1⟩ := one_cell (fun _ => rfl) hb q1 w1
 exact ⟨⟨y0, y1⟩, .cons r0 (.cons r1 .nil)⟩
theorem opens_Way {t a b c d e : TypeId} (hs : structB P t [a, b, c, d, e] = true) (ha : Opens P W a (eL eInt false)) (hb : Opens P W b (eL eLie false)) (hcc : Opens P W c (eL eLie false)) (hd : Opens P W d (eL eInt false)) (he : Opens P W e (eL eInt false)) : Opens P W t (eWay false) := fun eh fuel cs x h hw => by
 obtain ⟨hl, hc⟩ := struct_cells hs h hw
 obtain ⟨c0, c1, c2, c3, c4, rfl⟩ := cells5 hl
 obtain ⟨n0, z0, q0, w0⟩ := hc 0 a c0 rfl rfl
 obtain ⟨n1, z1, q1, w1⟩ := hc 1 b c1 rfl rfl
 obtain ⟨n2, z2, q2, w2⟩ := hc 2 c c2 rfl rfl
 obtain ⟨n3, z3, q3, w3⟩ := hc 3 d c3 rfl rfl
 obtain ⟨n4, z4, q4, w4⟩ := hc 4 e c4 rfl rfl
 obtain ⟨y0, r0⟩ := one_cell (fun _ => rfl) ha q0 w0
 obtain ⟨y1, r1⟩ := one_cell (fun _ => rfl) hb q1 w1
 obtain ⟨y2, r2⟩ := one_cell (fun _ => rfl) hcc q2 w2
 obtain ⟨y3, r3⟩ := one_cell (fun _ => rfl) hd q3 w3
 obtain ⟨y4, r4⟩ := one_cell (fun _ => rfl) he q4 w4
 exact ⟨⟨y0, y1, y2, y3, y4⟩, .cons r0 (.cons r1 (.cons r2 (.cons r3 (.cons r4 .nil))))⟩
theorem opens_Plan {t a b c d e : TypeId} (hs : structB P t [a, b, c, d, e] = true) (ha : Opens P W a eInt) (hb : Opens P W b (eL eInt false)) (hcc : Opens P W c (eL (eWay false) false)) (hd : Opens P W d (eL (eL eBool false) false)) (he : Opens P W e eInt) : Opens P W t (ePlan false) := fun eh fuel cs x h hw => by
 obtain ⟨hl, hc⟩ := struct_cells hs h hw
 obtain ⟨c0, c1, c2, c3, c4, rfl⟩ := cells5 hl
 obtain ⟨n0, z0, q0, w0⟩ := hc 0 a c0 rfl rfl
 obtain ⟨n1, z1, q1, w1⟩ := hc 1 b c1 rfl rfl
 obtain ⟨n2, z2, q2, w2⟩ := hc 2 c c2 rfl rfl
 obtain ⟨n3, z3, q3, w3⟩ := hc 3 d c3 rfl rfl
 obtain ⟨n4, z4, q4, w4⟩ := hc 4 e c4 rfl rfl
 obtain ⟨y0, r0⟩ := one_cell (fun _ => rfl) ha q0 w0
 obtain ⟨y1, r1⟩ := one_cell (fun _ => rfl) hb q1 w1
 obtain ⟨y2, r2⟩ := one_cell (fun _ => rfl) hcc q2 w2
 obtain ⟨y3, r3⟩ := one_cell (fun _ => rfl) hd q3 w3
 obtain ⟨y4, r4⟩ := one_cell (fun _ => rfl) he q4 w4
 exact ⟨⟨y0, y1, y2, y3, y4⟩, .cons r0 (.cons r1 (.cons r2 (.cons r3 (.cons r4 .nil))))⟩
theorem opens_Held {t a b c d e : TypeId} (hs : structB P t [a, b, c, d, e] = true) (ha : Opens P W a eInt) (hb : Opens P W b eInt) (hcc : Opens P W c (eL eBool false)) (hd : Opens P W d eBool) (he : Opens P W e eInt) : Opens P W t (eHeld false) := fun eh fuel cs x h hw => by
 obtain ⟨hl, hc⟩ := struct_cells hs h hw
 obtain ⟨c0, c1, c2, c3, c4, rfl⟩ := cells5 hl
 obtain ⟨n0, z0, q0, w0⟩ := hc 0 a c0 rfl rfl
 obtain ⟨n1, z1, q1, w1⟩ := hc 1 b c1 rfl rfl
 obtain ⟨n2, z2, q2, w2⟩ := hc 2 c c2 rfl rfl
 obtain ⟨n3, z3, q3, w3⟩ := hc 3 d c3 rfl rfl
 obtain ⟨n4, z4, q4, w4⟩ := hc 4 e c4 rfl rfl
 obtain ⟨y0, r0⟩ := one_cell (fun _ => rfl) ha q0 w0
 obtain ⟨y1, r1⟩ := one_cell (fun _ => rfl) hb q1 w1
 obtain ⟨y2, r2⟩ := one_cell (fun _ => rfl) hcc q2 w2
 obtain ⟨y3, r3⟩ := one_cell (fun _ => rfl) hd q3 w3
 obtain ⟨y4, r4⟩ := one_cell (fun _ => rfl) he q4 w4
 exact ⟨⟨y0, y1, y2, y3, y4⟩, .cons r0 (.cons r1 (.cons r2 (.cons r3 (.cons r4 .nil))))⟩
theorem opens_Frame {t a b c d : TypeId} (hs : structB P t [a, b, c, d] = true) (ha : Opens P W a eBool) (hb : Opens P W b (eL eBool false)) (hcc : Opens P W c (eL ePoint false)) (hd : Opens P W d (eL (eHeld false) false)) : Opens P W t (eFrame false) := fun eh fuel cs x h hw => by
 obtain ⟨hl, hc⟩ := struct_cells hs h hw
 obtain ⟨c0, c1, c2, c3, rfl⟩ := cells4 hl
 obtain ⟨n0, z0, q0, w0⟩ := hc 0 a c0 rfl rfl
 obtain ⟨n1, z1, q1, w1⟩ := hc 1 b c1 rfl rfl
 obtain ⟨n2, z2, q2, w2⟩ := hc 2 c c2 rfl rfl
 obtain ⟨n3, z3, q3, w3⟩ := hc 3 d c3 rfl rfl
 obtain ⟨y0, r0⟩ := one_cell (fun _ => rfl) ha q0 w0
 obtain ⟨y1, r1⟩ := one_cell (fun _ => rfl) hb q1 w1
 obtain ⟨y2, r2⟩ := one_cell (fun _ => rfl) hcc q2 w2
 obtain ⟨y3, r3⟩ := one_cell (fun _ => rfl) hd q3 w3
 exact ⟨⟨y0, y1, y2, y3⟩, .cons r0 (.cons r1 (.cons r2 (.cons r3 .nil)))⟩
theorem arg_struct {t : TypeId} {α : Type} {enc : α → List AV} {k : Nat} (h : Opens P W t enc) (hk : 2 ≤ k) (hc : ∀ y, (enc y).length = k) {H : Type} {eh : TypeId × Value → H} {v : Value} {d : DataW H} {ps : List MemPlace} (ht : DataW.Trod eh P W 0 (fun _ => true) true t v d ps)
  (hw : ∀ n ∈ d.weights P t, n ≤ reachBytes) : ∃ y, V2 (Env.at W) (.agg (enc y)) v := by
 obtain ⟨fuel, hf⟩ := ht
 obtain ⟨y, hp⟩ := h eh fuel _ _ hf hw
 have hl := hp.1
 rw [hc] at hl
 have hv : v = .agg v.cells := by
  cases v <;> first | rfl | (simp [Value.cells] at hl; omega)
 refine ⟨y, v.cells.toList, by rw [Array.toArray_toList]; exact hv, hp.mono fun a u hr => RV.v1 (E := Env.at W) hr⟩
end
def kindsOk (P : Program) (fn : Func) (c : OpenClaim) : Bool := c.kinds == (if c.domain.isEmpty then [] else fn.params.toList.map fun t => match P.underlying t with | some (.int k) => some k | _ => none)
theorem joined_of {P : Program} {f : FuncId} {fn : Func} {s : ChangeSpec} {c : OpenClaim} (h0 : (c.wf (OpenSpec.ofChange s)) = true) (h1 : laidOutB P = true) (h2 : mapsRowed P = true) (h3 : fn.params.all (P.readableRec ·) = true) (h4 : namedTie P c.named s.vars = true) (h5 : (c.stops == []) = true) (h6 : (P.stops == []) = true) (h7 : (c.knobs == []) = true) (h8 : (P.stopKnobs == []) = true) (h9 : (c.inPlace == P.inPlace f) = true) (h10 : (c.unfollowed == P.unfollowed f) = true) (h11 : (c.recurses == P.recurses f) = true) (h12 : (c.named == P.varsNamed f) = true) (h13 : (c.maps == (fn.params.toList ++ s.plain.varTypes P).any (P.mapsRec ·)) = true) (h14 : (c.ifaces == (fn.params.toList ++ s.plain.varTypes P).any (P.ifacesRec ·)) = true) (h15 : (c.mapsOut == P.mapsAmong fn.resultTypes.toList) = true) (h16 : (c.loops == (fn.params.toList ++ s.plain.varTypes P).any (P.loopsFrom ·)) = true) (h17 : (c.wideKeys == (fn.params.toList ++ s.plain.varTypes P ++ fn.resultTypes.toList).any (P.wideKeysFrom ·)) = true) (h18 : s.vars.all (P.varReadable ·) = true) (h19 : fn.resultTypes.all (fun t => P.readableRec t && decide (t < P.types.size)) = true) (h20 : (c.ifacesOut == fn.resultTypes.toList.any (P.ifacesRec ·)) = true) (h21 : (c.loopsOut == fn.resultTypes.toList.any (P.loopsFrom ·)) = true) (h22 : (c.plainKeys == P.plainKeys) = true) (h23 : c.shortTexts.isNone = true) (h24 : P.stopsHeard = true) (h25 : P.mayEnter = true) (h26 : (c.lifted == P.liftsFinal) = true) (h27 : (P.make == some c.make) = true) (h28 : kindsOk P fn c = true) (h29 : (c.pinned == c.pinnedBy) = true) (h30 : (c.veiled == (fn.params.toList ++ s.plain.varTypes P ++ fn.resultTypes.toList).any (P.veiledRec ·)) = true) (h31 : c.veiledFits P fn.params.toList (fn.params.toList ++ s.plain.varTypes P ++ fn.resultTypes.toList) = true) : joinedFacts P f fn s c = true := by
 unfold joinedFacts
 simp only [Bool.and_eq_true]
 exact ⟨⟨⟨⟨⟨⟨⟨⟨⟨⟨⟨⟨⟨⟨⟨⟨⟨⟨⟨⟨⟨⟨⟨⟨⟨⟨⟨⟨⟨⟨⟨h0, h1⟩, h2⟩, h3⟩, h4⟩, h5⟩, h6⟩, h7⟩, h8⟩, h9⟩, h10⟩, h11⟩, h12⟩, h13⟩, h14⟩, h15⟩, h16⟩, h17⟩, h18⟩, h19⟩, h20⟩, h21⟩, h22⟩, h23⟩, h24⟩, h25⟩, h26⟩, h27⟩, h28⟩, h29⟩, h30⟩, h31⟩
end Go.Proofs.Ytglpfccgmfhkdaa.Fw
