/- What is handed to a law, opened: nested structs and slices are told by plain values; the law's call, told of the whole world. -/

import Derived.Test.YtglpfccgmfhkdaaFwOA
import Derived.ChangeArms
import Derived.ChangeShapes
import Derived.SizedLaws
import Derived.Below
import Derived.JoinedOf
set_option linter.unusedVariables false
namespace Go.Proofs.Ytglpfccgmfhkdaa.Fw
open Go
def Env.at (W : World) : Env := { w := W, PA := fun c => c < W.heap.size, PF := fun _ => False, m := fun _ => none, gen := fun _ => 0, sz := fun _ => 0, cp := fun _ => 0, mL := fun _ => none }
theorem at_sim (W : World) : SimH (Env.at W) [] where
 heap := fun b c hb => by cases hb
 gens := fun b blk hb => by simp at hb
 nilb := fun b hb => by cases hb
 fresh := fun b _ => ⟨rfl, rfl⟩
 injH := fun b b' c hb => by cases hb
 injL := fun t t' c hb => by cases hb
 injHL := fun b t c hb => by cases hb
 notH := fun c _ ⟨b, hb⟩ => by cases hb
 notL := fun c _ ⟨b, hb⟩ => by cases hb
 pfpa := fun c hc => hc.elim
 ltP := fun c hc => hc
 ltH := fun c ⟨b, hb⟩ => by cases hb
 ltL := fun c ⟨b, hb⟩ => by cases hb
theorem law_calls {P : Program} {f : FuncId} {avs : List AV} {W : World} {vs : List Value} (h : FnV P f avs (.bool true)) (ha : PW (V2 (Env.at W)) avs vs) :
  Calls P f vs.toArray W fun e W' => e = .returned (.bool true) ∧ RowKit.Below W.heap.size W W' := by
 refine (h.2 (Env.at W) vs (fun _ => rfl) (at_sim W) ha).mono ?_
 rintro e w' ⟨r, v, H', E', rfl, hr, rfl, hn, hs, hv, hst⟩
 have hb : r = .bool true := by
  rcases hr with ⟨l, l', _, e, _⟩ | ⟨l, l', _, e, _⟩ | hr
  ·cases e
  ·cases e
  ·cases hr; rfl
 subst hb
 refine ⟨by rw [V3.bool_inv hv], hst.os, hst.tape, hst.output, hst.size, fun k hk => hst.keep k hk (fun ⟨b, hb⟩ => by cases hb) (fun ⟨b, hb⟩ => by cases hb)⟩
def RA (W : World) : AV → Value → Prop := RV W (fun c => c < W.heap.size) (fun _ => False)
def Opens (P : Program) (W : World) (t : TypeId) {α : Type} (enc : α → List AV) : Prop :=
 ∀ {H : Type} (eh : TypeId × Value → H) (fuel : Nat) (cs : List Value) (x : DataW H × List MemPlace), DataW.trod eh P W 0 (fun _ => true) true fuel t cs = some x → (∀ n ∈ x.1.weights P t, n ≤ reachBytes) → ∃ y : α, PW (RA W) (enc y) cs
section
variable {P : Program} {W : World}
theorem opens_u8 {t : TypeId} (hu : P.underlying t = some (.int .u8)) : Opens P W t eU8 := fun eh fuel cs x h _ => by
 obtain ⟨n, rfl, _, hw⟩ := DataW.trod_int hu h
 unfold Lit.wf at hw
 rw [Bool.and_eq_true] at hw
 have h0 : (0 : Int) ≤ n := of_decide_eq_true hw.1
 have h1 : n ≤ 255 := of_decide_eq_true hw.2
 have e : (((UInt8.ofNat n.toNat).toNat : Nat) : Int) = n := by rw [UInt8.toNat_ofNat']; omega
 exact ⟨UInt8.ofNat n.toNat, by unfold eU8; rw [e]; exact .cons (.int _ _) .nil⟩
theorem list_of {α : Type} (n : Nat) (φ : Nat → α → Prop) (h : ∀ i, i < n → ∃ y, φ i y) : ∃ ys : List α, ys.length = n ∧ ∀ (i : Nat) (y : α), ys[i]? = some y → φ i y := by
 induction n with
 | zero => exact ⟨[], rfl, fun i y h => by simp at h⟩
 | succ n ih =>
  obtain ⟨ys, hl, hy⟩ := ih fun i hi => h i (by omega)
  obtain ⟨z, hz⟩ := h n (by omega)
  refine ⟨ys ++ [z], by simp [hl], fun i y hi => ?_⟩
  rcases Nat.lt_or_ge i n with hlt | hge
  ·rw [List.getElem?_append_left (by omega)] at hi
   exact hy i y hi
  ·rw [List.getElem?_append_right (by omega)] at hi
   rcases Nat.eq_or_lt_of_le hge with rfl | hgt
   ·rw [hl, Nat.sub_self] at hi
    cases hi; exact hz
   ·rw [List.getElem?_eq_none (by simp; omega)] at hi
    cases hi
theorem mapM_both {α β : Type} {f : α → Option β} : ∀ {l : List α} {r : List β}, l.mapM f = some r → r.length = l.length ∧ ∀ (i : Nat) (a : α), l[i]? = some a → f a = r[i]?
 | [], r, h => by simp at h; subst h; exact ⟨rfl, fun i a h => by simp at h⟩
 | x :: l, r, h => by
  rw [List.mapM_cons] at h
  simp only [bind, Option.bind_eq_some_iff, pure, Option.some.injEq] at h
  obtain ⟨b, hb, r', hr, rfl⟩ := h
  obtain ⟨h1, h2⟩ := mapM_both hr
  refine ⟨by simp [h1], fun i a ha => ?_⟩
  cases i with
  | zero => simp at ha; subst ha; simpa using hb
  | succ i => exact h2 i a (by simpa using ha)
theorem cells_get {a : Addr} {n : Nat} {l : List Value} (h : W.cells? 0 a n = some l) : l.length = n ∧ ∀ j, j < n → W.cell? (a.add j) = l[j]? := by
 unfold World.cells? at h
 rw [if_pos (Nat.zero_le _)] at h
 obtain ⟨hl, hg⟩ := mapM_both h
 rw [List.length_range] at hl
 exact ⟨hl, fun j hj => hg j j (List.getElem?_range hj)⟩
theorem spot_none {a : Addr} {v : Value} (h : W.cell? a = some v) : a.spot = none ∧ a.block < W.heap.size := by
 unfold World.cell? at h
 split at h
 ·rename_i c _ _ hb
  split at h
  ·cases h
  ·rename_i hs
   refine ⟨by cases hq : a.spot <;> simp_all, ?_⟩
   rcases Nat.lt_or_ge a.block W.heap.size with h1 | h1
   ·exact h1
   ·rw [Array.getElem?_eq_none h1] at hb; cases hb
 ·cases h
theorem add_add (c o x y : Nat) : ((⟨c, o, none⟩ : Addr).add x).add y = ⟨c, o + (x + y), none⟩ := by
 rw [addr_add, addr_add, Nat.add_assoc]
theorem opens_slice {t e : TypeId} {α : Type} {enc : α → List AV} (hu : P.underlying t = some (.slice e)) (hb : 1 ≤ P.bytesOf e) (hz : 1 ≤ P.cellsOf e) (hc : ∀ x, (enc x).length = P.cellsOf e) (h : Opens P W e enc) : Opens P W t (eL enc false) := by
 intro H eh fuel cs x ht hw
 rcases DataW.trod_slice hu ht with ⟨rfl, rfl⟩ | ⟨a, len, cap, elems, rest, n, _, rfl, rfl, _, hl, _, hlen, hel, _, _⟩
 ·refine ⟨[], .cons ?_ .nil⟩
  exact RV.lst (rows := []) (PB := fun _ => False) (sz := 0) (vs := fun _ _ => undef) (fun _ h => h.elim) ⟨Nat.le_refl _, Nat.zero_le _⟩ (fun h => by cases h) (fun i row h => by simp at h) (fun h => by simp at h) (fun i j row a h => by simp at h)
 ·have hw1 : (elems.length + rest.length) * P.bytesOf e ≤ reachBytes := by
   have := hw ((elems.length + rest.length) * P.bytesOf e) (by simp [DataW.weights, hu])
   simpa using this
  have h62 : len ≤ 4611686018427387904 := by
   have h1 : elems.length + rest.length ≤ (elems.length + rest.length) * P.bytesOf e := Nat.le_mul_of_pos_right _ hb
   have h2 := reachBytes_lt
   have h3 : (2 : Nat) ^ 47 = 140737488355328 := rfl
   omega
  have hall : ∀ (l : List (DataW H)) (d : DataW H), d ∈ l → ∀ m ∈ d.weights P e, m ∈ DataW.weightsAll P e l := by
   intro l
   induction l with
   | nil => intro d hd; cases hd
   | cons q l ih =>
    intro d hd m hm
    simp only [DataW.weightsAll, List.mem_append]
    rcases List.mem_cons.1 hd with rfl | hd
    ·exact .inl hm
    ·exact .inr (ih d hd m hm)
  obtain ⟨ys, hyl, hy⟩ := list_of len (fun i y => ∃ l, W.cells? 0 (a.add (i * P.cellsOf e)) (P.cellsOf e) = some l ∧ PW (RA W) (enc y) l) fun i hi => by
   have h1 := hel i hi
   have h2 : elems[i]? = some (elems[i]'(by omega)) := List.getElem?_eq_getElem _
   rw [h2, Option.bind_eq_some_iff] at h1
   obtain ⟨l, hc1, ht1⟩ := h1
   obtain ⟨y, hy⟩ := h eh n l _ ht1 fun m hm => hw m (by
    simp only [DataW.weights, hu, List.mem_cons, List.mem_append]
    exact .inr (.inl (hall _ _ (List.mem_map.2 ⟨_, List.getElem_mem (by omega), rfl⟩) m hm)))
   exact ⟨y, l, hc1, hy⟩
  have hget : ∀ i j, i < len → j < P.cellsOf e → ∃ l v, W.cells? 0 (a.add (i * P.cellsOf e)) (P.cellsOf e) = some l ∧ l[j]? = some v ∧ W.cell? ((a.add (i * P.cellsOf e)).add j) = some v := fun i j hi hj => by
   obtain ⟨l, hl1, _⟩ := hy i _ (List.getElem?_eq_getElem (by omega))
   obtain ⟨q1, q2⟩ := cells_get hl1
   exact ⟨l, l[j]'(by omega), hl1, List.getElem?_eq_getElem _, by rw [q2 j hj]; exact List.getElem?_eq_getElem _⟩
  let vs : Nat → Nat → Value := fun i j => (((W.cells? 0 (a.add (i * P.cellsOf e)) (P.cellsOf e)).getD [])[j]?).getD undef
  refine ⟨ys, .cons ?_ .nil⟩
  have key := RV.lst (w := W) (PA := fun c => c < W.heap.size) (PF := fun _ => False) (PB := fun c => c < W.heap.size) (rows := List.map enc ys) (full := false) (fresh := false) (A := some a) (cap := cap) (sz := P.cellsOf e) (vs := vs)
   (fun c hc => by simpa using hc) (by rw [List.length_map, hyl]; exact ⟨hl, h62⟩) (fun h => by cases h)
   (fun i row hr => by
    rw [List.getElem?_map] at hr
    cases hq : ys[i]? with
    | none => rw [hq] at hr; cases hr
    | some y => rw [hq] at hr; cases hr; exact hc y)
   (fun hpos => by
    rw [List.length_map, hyl] at hpos
    obtain ⟨l, v, _, _, hv⟩ := hget 0 0 hpos hz
    rw [Nat.zero_mul] at hv
    have h0 : (a.add 0).add 0 = a := by simp [Addr.add]
    rw [h0] at hv
    obtain ⟨hs, hlt⟩ := spot_none hv
    obtain ⟨c, o, s⟩ := a
    have hs : s = none := hs
    subst hs
    refine ⟨c, o, rfl, hlt, fun i j hi hj => ?_⟩
    rw [List.length_map, hyl] at hi
    obtain ⟨l, v, q1, q2, q3⟩ := hget i j hi hj
    rw [add_add] at q3
    rw [q3]
    show some v = some ((((W.cells? 0 _ _).getD [])[j]?).getD undef)
    rw [q1]
    show some v = some ((l[j]?).getD undef)
    rw [q2]; rfl)
   (fun i j row b hr hj => by
    rw [List.getElem?_map] at hr
    cases hq : ys[i]? with
    | none => rw [hq] at hr; cases hr
    | some y =>
     rw [hq] at hr; cases hr
     obtain ⟨l, hl1, hp⟩ := hy i y hq
     obtain ⟨v, hv, hrv⟩ := hp.get hj
     show RV W _ _ b ((((W.cells? 0 _ _).getD [])[j]?).getD undef)
     rw [hl1]
     show RV W _ _ b ((l[j]?).getD undef)
     rw [hv]; exact hrv)
  rw [List.length_map, hyl] at key
  exact key
theorem cells2 {cs : List Value} (h : cs.length = 2) : ∃ a b, cs = [a, b] := by
 match cs, h with
 | [a, b], _ => exact ⟨a, b, rfl⟩
theorem arg_one {t : TypeId} {α : Type} {enc : α → List AV} {f : α → AV} (h : Opens P W t enc) (he : ∀ y, enc y = [f y]) {H : Type} {eh : TypeId × Value → H} {v : Value} {d : DataW H} {ps : List MemPlace} (ht : DataW.Trod eh P W 0 (fun _ => true) true t v d ps)
  (hw : ∀ n ∈ d.weights P t, n ≤ reachBytes) (hv : v.cells = #[v]) : ∃ y, V2 (Env.at W) (f y) v := by
 obtain ⟨fuel, hf⟩ := ht
 rw [hv] at hf
 obtain ⟨y, hp⟩ := h eh fuel _ _ hf hw
 rw [he] at hp
 have hr : RA W (f y) v := hp.head
 exact ⟨y, V2_of_V1 (RV.v1 (E := Env.at W) hr)⟩
end
def kindsOk (P : Program) (fn : Func) (c : OpenClaim) : Bool := c.kinds == (if c.domain.isEmpty then [] else fn.params.toList.map fun t => match P.underlying t with | some (.int k) => some k | _ => none)
theorem joined_of {P : Program} {f : FuncId} {fn : Func} {s : ChangeSpec} {c : OpenClaim} (h0 : (c.wf (OpenSpec.ofChange s)) = true) (h1 : laidOutB P = true) (h2 : mapsRowed P = true) (h3 : fn.params.all (P.readableRec ·) = true) (h4 : namedTie P c.named s.vars = true) (h5 : (c.stops == []) = true) (h6 : (P.stops == []) = true) (h7 : (c.knobs == []) = true) (h8 : (P.stopKnobs == []) = true) (h9 : (c.inPlace == P.inPlace f) = true) (h10 : (c.unfollowed == P.unfollowed f) = true) (h11 : (c.recurses == P.recurses f) = true) (h12 : (c.named == P.varsNamed f) = true) (h13 : (c.maps == (fn.params.toList ++ s.plain.varTypes P).any (P.mapsRec ·)) = true) (h14 : (c.ifaces == (fn.params.toList ++ s.plain.varTypes P).any (P.ifacesRec ·)) = true) (h15 : (c.mapsOut == P.mapsAmong fn.resultTypes.toList) = true) (h16 : (c.loops == (fn.params.toList ++ s.plain.varTypes P).any (P.loopsFrom ·)) = true) (h17 : (c.wideKeys == (fn.params.toList ++ s.plain.varTypes P ++ fn.resultTypes.toList).any (P.wideKeysFrom ·)) = true) (h18 : s.vars.all (P.varReadable ·) = true) (h19 : fn.resultTypes.all (fun t => P.readableRec t && decide (t < P.types.size)) = true) (h20 : (c.ifacesOut == fn.resultTypes.toList.any (P.ifacesRec ·)) = true) (h21 : (c.loopsOut == fn.resultTypes.toList.any (P.loopsFrom ·)) = true) (h22 : (c.plainKeys == P.plainKeys) = true) (h23 : c.shortTexts.isNone = true) (h24 : P.stopsHeard = true) (h25 : P.mayEnter = true) (h26 : (c.lifted == P.liftsFinal) = true) (h27 : (P.make == some c.make) = true) (h28 : kindsOk P fn c = true) (h29 : (c.pinned == c.pinnedBy) = true) (h30 : (c.veiled == (fn.params.toList ++ s.plain.varTypes P ++ fn.resultTypes.toList).any (P.veiledRec ·)) = true) (h31 : c.veiledFits P fn.params.toList (fn.params.toList ++ s.plain.varTypes P ++ fn.resultTypes.toList) = true) : joinedFacts P f fn s c = true := by
 unfold joinedFacts
 simp only [Bool.and_eq_true]
 exact ⟨⟨⟨⟨⟨⟨⟨⟨⟨⟨⟨⟨⟨⟨⟨⟨⟨⟨⟨⟨⟨⟨⟨⟨⟨⟨⟨⟨⟨⟨⟨h0, h1⟩, h2⟩, h3⟩, h4⟩, h5⟩, h6⟩, h7⟩, h8⟩, h9⟩, h10⟩, h11⟩, h12⟩, h13⟩, h14⟩, h15⟩, h16⟩, h17⟩, h18⟩, h19⟩, h20⟩, h21⟩, h22⟩, h23⟩, h24⟩, h25⟩, h26⟩, h27⟩, h28⟩, h29⟩, h30⟩, h31⟩
end Go.Proofs.Ytglpfccgmfhkdaa.Fw
