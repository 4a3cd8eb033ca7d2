/- The framework, part F: structs and slices made of parts, addresses of fields and elements, pieces, lengths, conversions. -/

import Derived.Test.YtglpfccgmfhkdaaFwE
set_option linter.unusedVariables false
namespace Go.Proofs.Ytglpfccgmfhkdaa.Fw
open Go
theorem foldl_set (off : Nat) : ∀ (l : List Value) (k : Nat) (cells : Array Value), off + k + l.length ≤ cells.size →
  (((l.zipIdx k).foldl (fun cs (x : Value × Nat) => cs.setIfInBounds (off + x.2) x.1) cells).size = cells.size ∧
  ∀ i, ((l.zipIdx k).foldl (fun cs (x : Value × Nat) => cs.setIfInBounds (off + x.2) x.1) cells)[i]? = if i < off + k then cells[i]? else if i < off + k + l.length then l[i - (off + k)]? else cells[i]?)
 | [], k, cells, _ => ⟨rfl, fun i => by simp; omega⟩
 | v :: l, k, cells, h => by
  have h' : off + (k + 1) + l.length ≤ (cells.setIfInBounds (off + k) v).size := by simp at h ⊢; omega
  obtain ⟨h1, h2⟩ := foldl_set off l (k + 1) (cells.setIfInBounds (off + k) v) h'
  refine ⟨by simp only [List.zipIdx_cons, List.foldl_cons]; rw [h1]; simp, fun i => ?_⟩
  simp only [List.zipIdx_cons, List.foldl_cons]
  rw [h2 i]
  simp only [Array.getElem?_setIfInBounds, List.length_cons] at *
  by_cases a1 : i < off + k
  ·rw [if_pos (by omega), if_neg (by omega), if_pos a1]
  ·by_cases a2 : i = off + k
   ·subst a2
    rw [if_pos (by omega), if_pos rfl, if_pos (by omega), if_neg (by omega), if_pos (by omega)]
    simp
   ·by_cases a3 : i < off + (k + 1) + l.length
    ·rw [if_neg (by omega), if_pos a3, if_neg a1, if_pos (by omega), show i - (off + k) = (i - (off + (k + 1))) + 1 by omega]
     simp
    ·rw [if_neg (by omega), if_neg a3, if_neg (by omega), if_neg a1, if_neg (by omega)]
def fillA (pl : Nat → Option (Nat × Nat)) (cells : List AV) : List (Nat × AV) → Option (List AV)
 | [] => some cells
 | (i, v) :: rest => match pl i with
  | none => none
  | some (off, size) => if (cellsA v).length = size ∧ off + (cellsA v).length ≤ cells.length ∧ (cellsA v).all sto1 = true then fillA pl (splice cells off (cellsA v)) rest else none
theorem fill_sound {E : Env} {pl : Nat → Option (Nat × Nat)} : ∀ {parts : List (Nat × AV)} {vparts : List (Nat × Value)} {cells : List AV} {vcells : Array Value} {r : List AV},
  PW (fun a b => a.1 = b.1 ∧ V2 E a.2 b.2) parts vparts → PW (V1 E.noL) cells vcells.toList → fillA pl cells parts = some r → ∃ rc, Instr.fill pl vcells vparts = some rc ∧ PW (V1 E.noL) r rc.toList
 | [], vparts, cells, vcells, r, hp, hc, h => by
  obtain rfl := hp.nil_inv
  cases h
  exact ⟨vcells, rfl, hc⟩
 | (i, v) :: rest, vparts, cells, vcells, r, hp, hc, h => by
  obtain ⟨⟨i', u⟩, vrest, rfl, ⟨hi, hv⟩, hp'⟩ := hp.cons_inv
  simp only at hi hv
  subst hi
  unfold fillA at h
  split at h
  ·cases h
  ·rename_i off size hpl
   split at h
   ·rename_i hcond
    obtain ⟨h1, h2, h3⟩ := hcond
    have hcv := cells_rel hv h3
    have hcn : PW (V1 E.noL) (cellsA v) u.cells.toList := ⟨hcv.1, fun i a b ha hb => sto1_noL (List.all_eq_true.1 h3 a (List.mem_of_getElem? ha)) (hcv.2 i a b ha hb)⟩
    have hsz : u.cells.size = (cellsA v).length := by rw [hcv.1]; simp
    have hcl : cells.length = vcells.size := by rw [hc.1]; simp
    obtain ⟨f1, f2⟩ := foldl_set off u.cells.toList 0 vcells (by simp; omega)
    simp only [Nat.add_zero] at f1 f2
    have hnew : PW (V1 E.noL) (splice cells off (cellsA v)) ((u.cells.toList.zipIdx).foldl (fun cs (x : Value × Nat) => cs.setIfInBounds (off + x.2) x.1) vcells).toList := by
     have hs := PW.splice hc hcn h2
     refine ⟨?_, fun k a b ha hb => ?_⟩
     ·simp only [Array.length_toList]; rw [f1]; simp [splice]; omega
     ·refine hs.2 k a b ha ?_
      rw [splice_get (by simp; omega)]
      rw [Array.getElem?_toList, f2 k] at hb
      simpa using hb
    obtain ⟨rc, hr, hrel⟩ := fill_sound hp' hnew h
    refine ⟨rc, ?_, hrel⟩
    unfold Instr.fill
    rw [hpl]
    simp only
    rw [if_neg (by simp; omega)]
    rw [← Array.foldl_toList, Array.toList_zipIdx]
    exact hr
   ·cases h
def zeroA (P : Program) (t : TypeId) : Option (List AV) := ((P.info? t).bind (·.zero)).map fun z => z.cells.toList.map cv
theorem cv_v1 (E : Env) (v : Value) : V1 E (cv v) v := by
 unfold cv
 split
 ·exact RV.int _ _
 ·exact RV.bool _
 ·exact RV.str _
 ·exact RV.lst (PB := fun _ => False) (sz := 0) (vs := fun _ _ => undef) (fun _ h => h.elim) ⟨Nat.le_refl _, Nat.zero_le _⟩ (fun _ => rfl) (fun i row h => by simp at h) (fun h => by simp at h) (fun i j row a h => by simp at h)
 ·exact RV.nilp
 ·exact RV.niface
 ·exact RV.undef _
theorem zero_rel {E : Env} {P : Program} {t : TypeId} {z : List AV} (h : zeroA P t = some z) : ∃ i v, P.info? t = some i ∧ i.zero = some v ∧ z = v.cells.toList.map cv ∧ PW (V1 E) z v.cells.toList := by
 unfold zeroA at h
 cases hi : P.info? t with
 | none => simp [hi] at h
 | some i =>
  cases hz : i.zero with
  | none => simp [hi, hz] at h
  | some v =>
   simp [hi, hz] at h
   subst h
   refine ⟨i, v, rfl, hz, rfl, by simp, fun k a b ha hb => ?_⟩
   rw [List.getElem?_map, hb] at ha
   simp at ha; subst ha; exact cv_v1 E b
def placesA (P : Program) (t : TypeId) : Option (List (Nat × Nat)) := match P.underlying t with
 | some (.struct fs) => fs.toList.mapM (fun f => (P.info? f.type).map fun i => (f.offset, i.size))
 | _ => none
def buildA (P : Program) (t : TypeId) (parts : List (Nat × AV)) (K : AV → Prop) : Prop :=
 oelim (zeroA P t) fun z => oelim (placesA P t) fun pl => oelim (fillA (fun i => pl[i]?) z parts) fun cells => K (.agg cells)
theorem build_sound {P : Program} {E : Env} {t : TypeId} {parts : List (Nat × AV)} {vparts : List (Nat × Value)} {K : AV → Prop} (hp : PW (fun a b => a.1 = b.1 ∧ V2 E a.2 b.2) parts vparts) (h : buildA P t parts K) :
  ∃ r u, K r ∧ (Instr.build t vparts.toArray).run P E.w = .ok u E.w ∧ V3 E r u := by
 obtain ⟨z, hz, h⟩ := oelim_inv h
 obtain ⟨pl, hpl, h⟩ := oelim_inv h
 obtain ⟨cells, hf, h⟩ := oelim_inv h
 obtain ⟨i, v, h1, h2, h3, h4⟩ := zero_rel (E := E.noL) hz
 obtain ⟨rc, hr, hrel⟩ := fill_sound hp h4 hf
 refine ⟨_, .agg rc, h, run_build E.w t vparts.toArray rc ?_, rc.toList, by simp, hrel.mono fun _ _ k => k.up⟩
 unfold placesA at hpl
 split at hpl
 ·rename_i fs hfs
  unfold Program.built
  rw [h1, hfs]
  simp only [h2, hpl]
  simpa using hr
 ·cases hpl
def byv0 : AV → Bool
 | .int _ _ | .bool _ | .str _ | .lst _ _ _ | .nilp | .niface => true
 | _ => false
def frs : AV → Bool
 | .lst _ _ fr => fr
 | _ => true
def unfr : AV → AV
 | .lst rows _ _ => .lst rows false false
 | a => a
def refr : AV → AV
 | .lst rows full _ => .lst rows full true
 | a => a
theorem refr_rel {w : World} {PB PA PF : Nat → Prop} {a : AV} {v : Value} (h : RV w PB (fun _ => False) a v) (hb : ∀ c, PB c → PF c) (hpf : ∀ c, PF c → PA c) : RV w PA PF (refr a) v := by
 have key : (∀ rows full fr, a ≠ .lst rows full fr) → RV w PA PF (refr a) v := fun hne => by
  have e : refr a = a := by cases a <;> first | rfl | exact absurd rfl (hne _ _ _)
  rw [e]
  exact h.mono (fun _ _ => rfl) (fun _ h => h.elim) (fun c hc => hpf c (hb c hc)) (fun _ h => h.elim)
 cases a with
 | lst rows full fr =>
  cases h with
  | lst hPB hcap hfull hsz hcell hrel =>
   exact .lst (fun c hc => by
    have := hPB c hc
    rw [if_pos rfl]
    split at this
    ·exact this.elim
    ·exact hb c this) hcap hfull hsz hcell hrel
 | _ => exact key (fun _ _ _ e => by cases e)
theorem unfr_rel {w : World} {PA PF PB : Nat → Prop} {a : AV} {v : Value} (ha : byv0 a = true) (h : RV w PA PF a v) (hb : ∀ c, PA c → PB c) (hpf : ∀ c, PF c → PA c) : RV w PB (fun _ => False) (unfr a) v := by
 cases h with
 | undef => cases ha
 | int => exact .int _ _
 | bool => exact .bool _
 | str => exact .str _
 | lst hPB hcap hfull hsz hcell hrel =>
  exact .lst (fun c hc => by
   have := hPB c hc
   simp only [Bool.false_eq_true, if_false]
   split at this
   ·exact hb c (hpf c this)
   ·exact hb c this) hcap (fun h => by cases h) hsz hcell hrel
 | rp => cases ha
 | nilp => exact .nilp
 | niface => exact .niface
 | fn => cases ha
theorem unfr_fresh {w : World} {PA PF : Nat → Prop} {a : AV} {v : Value} (ha : byv0 a = true) (hf : frs a = true) (h : RV w PA PF a v) : RV w PF (fun _ => False) (unfr a) v := by
 cases h with
 | undef => cases ha
 | int => exact .int _ _
 | bool => exact .bool _
 | str => exact .str _
 | @lst _ _ PB rows full fresh A cap sz vs hPB hcap hfull hsz hcell hrel =>
  have hfr : fresh = true := hf
  subst hfr
  exact .lst (fun c hc => by simpa using hPB c hc) hcap (fun h => by cases h) hsz hcell hrel
 | rp => cases ha
 | nilp => exact .nilp
 | niface => exact .niface
 | fn => cases ha
def chunk (size n : Nat) (cells : List AV) : List (List AV) := (List.range n).map fun i => (cells.drop (i * size)).take size
def bslA (P : Program) (t : TypeId) (n : Nat) (parts : List (Nat × AV)) (K : AV → Prop) : Prop :=
 oelim (elemT P t) fun e => oelim (zeroA P e) fun z => if z.length = P.cellsOf e ∧ n * z.length ≤ 1000000 ∧ n ≤ 1000000 then
  oelim (fillA (fun i => some (i * z.length, z.length)) ((List.range (n * z.length)).map fun i => z.getD (i % z.length) .undef) parts) fun cells =>
   if cells.all byv0 = true then K (.lst (chunk z.length n (cells.map unfr)) true (cells.all frs)) else False
 else False
theorem byv0_rv {E : Env} {a : AV} {v : Value} (ha : byv0 a = true) (h : V1 E a v) : RV E.w E.PA E.PF a v := by
 cases a <;> first | exact h | cases ha
theorem chunk_get {size n i j : Nat} {cells row : List AV} {a : AV} (hr : (chunk size n cells)[i]? = some row) (hj : row[j]? = some a) : i < n ∧ j < size ∧ cells[i * size + j]? = some a := by
 unfold chunk at hr
 rw [List.getElem?_map] at hr
 cases hri : (List.range n)[i]? with
 | none => simp [hri] at hr
 | some k =>
  have hi : i < n := by have := (List.getElem?_eq_some_iff.1 hri).1; simpa using this
  rw [List.getElem?_range hi] at hri
  cases hri
  rw [List.getElem?_range hi] at hr
  simp at hr
  subst hr
  rw [List.getElem?_take] at hj
  split at hj
  ·rw [List.getElem?_drop] at hj
   exact ⟨hi, by assumption, hj⟩
  ·cases hj
theorem alloc_get (w : World) (o : Obj) (c : Nat) (h : c < w.heap.size) : (w.alloc o).heap[c]? = w.heap[c]? := Go.RowKit.Below.heap_alloc w o c h
theorem alloc_new (w : World) (o : Obj) : (w.alloc o).heap[w.heap.size]? = some o := by
 show (w.heap.push o)[w.heap.size]? = _
 simp
theorem Quiet.alloc {E : Env} {H : List Blk} (hH : SimH E H) (o : Obj) :
  Quiet E { E with w := E.w.alloc o, PA := fun c => E.PA c ∨ c = E.w.heap.size, PF := fun c => E.PF c ∨ c = E.w.heap.size } where
 step := ⟨⟨fun _ h => .inl h, fun _ h => .inl h, fun c hc => alloc_get _ _ _ (hH.ltP c hc), fun c hc => alloc_get _ _ _ (hH.ltP c (hH.pfpa c hc)), fun _ => Nat.le_refl _, fun _ _ h _ => ⟨h, rfl, rfl⟩, fun _ _ h => h⟩,
  rfl, rfl, rfl, by simp, fun c hc _ _ => alloc_get _ _ _ hc, fun _ h => .inl h, fun _ h => .inl h, fun c hc => hc.elim .inl (fun e => .inr (by omega)), fun c hc => hc.elim .inl (fun e => .inr (by omega))⟩
 m := rfl
 mL := rfl
 gen := rfl
 sz := rfl
 cp := rfl
 keep := fun c hc => alloc_get _ _ _ hc
 pa := fun c hc => hc.elim .inl (fun e => .inr (by simp; omega))
 pfpa := fun c hc => hc.elim (fun h => .inl (hH.pfpa c h)) .inr
theorem bsl_run {P : Program} {E : Env} {t : TypeId} {e : TypeId} {n : Nat} {z : List AV} {parts : List (Nat × AV)} {vparts : List (Nat × Value)} {cells : List AV} (hp : PW (fun a b => a.1 = b.1 ∧ V2 E a.2 b.2) parts vparts) (he : elemT P t = some e) (hz : zeroA P e = some z)
  (hzl : z.length = P.cellsOf e) (hbig : n * z.length ≤ 1000000 ∧ n ≤ 1000000) (hf : fillA (fun i => some (i * z.length, z.length)) ((List.range (n * z.length)).map fun i => z.getD (i % z.length) .undef) parts = some cells) :
  ∃ rc, PW (V1 E.noL) cells rc.toList ∧ (Instr.buildSlice t n vparts.toArray).run P E.w = .ok (.slice (some ⟨E.w.heap.size, 0, none⟩) n n) (E.w.alloc (.cells rc e)) ∧ cells.length = n * z.length := by
 obtain ⟨i, v, h1, h2, h3, h4⟩ := zero_rel (E := E.noL) hz
 have hzv : v.cells.size = z.length := by rw [h3]; simp
 have hisz : i.size = z.length := by rw [hzl]; simp [Program.cellsOf, h1]
 let vz : Array Value := if n * z.length = 0 then #[] else v.cells
 let base : Array Value := (Array.range (n * z.length)).map (fun i => vz[i % vz.size]!)
 have hbase : PW (V1 E.noL) ((List.range (n * z.length)).map fun i => z.getD (i % z.length) .undef) base.toList := by
  refine ⟨by simp [base], fun k a b ha hb => ?_⟩
  rw [List.getElem?_map] at ha
  have hk : k < n * z.length := by
   cases hq : (List.range (n * z.length))[k]? with
   | none => simp [hq] at ha
   | some x => have := (List.getElem?_eq_some_iff.1 hq).1; simpa using this
  rw [List.getElem?_range hk] at ha
  simp only [Option.map_some, Option.some.injEq] at ha
  have hpos : 0 < z.length := by
   rcases Nat.eq_zero_or_pos z.length with q | q
   ·rw [q, Nat.mul_zero] at hk; omega
   ·exact q
  have hlt : k % z.length < z.length := Nat.mod_lt _ hpos
  have hvz : vz = v.cells := if_neg (by omega)
  have hb' : base[k]? = some (v.cells[k % z.length]!) := by
   show ((Array.range (n * z.length)).map (fun i => vz[i % vz.size]!))[k]? = _
   rw [hvz, hzv]
   simp [hk]
  rw [Array.getElem?_toList, hb'] at hb
  simp only [Option.some.injEq] at hb
  have hvl : v.cells.toList[k % z.length]? = some (v.cells[k % z.length]!) := by
   rw [Array.getElem?_toList, Array.getElem?_eq_getElem (by omega)]
   congr 1
   exact (getElem!_pos v.cells (k % z.length) (by omega)).symm
  have hzl' : z[k % z.length]? = some a := by
   rw [← ha, List.getD_eq_getElem?_getD, List.getElem?_eq_getElem hlt]; rfl
  rw [← hb]
  exact h4.2 _ _ _ hzl' hvl
 obtain ⟨rc, hr, hrel⟩ := fill_sound hp hbase hf
 have hu := elemT_spec he
 have hrun : (Instr.buildSlice t n vparts.toArray).run P E.w = .ok (.slice (some ⟨E.w.heap.size, 0, none⟩) n n) (E.w.alloc (.cells rc e)) := by
  have hb24 : ¬ n * z.length > 2 ^ 24 := by omega
  simp only [Instr.buildSlice, Sem.run_bind, run_underlying hu, Result.andThen_ok, run_sizeOf (show (P.info? e).isSome = true by rw [h1]; rfl), ← hzl, if_neg hb24]
  have hr' : Instr.fill (fun i => some (i * z.length, z.length)) ((Array.range (n * z.length)).map (fun x => vz[x % vz.size]!)) vparts = some rc := hr
  by_cases q : n * z.length = 0
  ·have hvz : vz = #[] := if_pos q
   rw [if_pos q]
   simp only [Sem.run_bind, Sem.run_pure, Result.andThen_ok]
   rw [← hvz, hr']
   simp [newRow]
  ·have hvz : vz = v.cells := if_neg q
   rw [if_neg q]
   simp only [Sem.run_bind, Sem.run_pure, Result.andThen_ok, zeroValue, typeInfo, h1, h2, run_program]
   rw [← hvz, hr']
   simp [newRow]
 have hlen : cells.length = n * z.length := by
  have q := hrel.1
  have : ∀ (parts : List (Nat × AV)) (c r : List AV), fillA (fun i => some (i * z.length, z.length)) c parts = some r → r.length = c.length := by
   intro parts
   induction parts with
   | nil => intro c r hh; cases hh; rfl
   | cons p ps ih =>
    intro c r hh
    obtain ⟨a, b⟩ := p
    unfold fillA at hh
    split at hh
    ·cases hh
    ·split at hh
     ·rename_i hc
      rw [ih _ _ hh]; simp [splice]; omega
     ·cases hh
  rw [this _ _ _ hf]; simp
 exact ⟨rc, hrel, hrun, hlen⟩
theorem bsl_sound {P : Program} {E : Env} {H : List Blk} {t : TypeId} {n : Nat} {parts : List (Nat × AV)} {vparts : List (Nat × Value)} {K : AV → Prop} (hH : SimH E H) (hp : PW (fun a b => a.1 = b.1 ∧ V2 E a.2 b.2) parts vparts) (h : bslA P t n parts K) :
  ∃ r u E', K r ∧ (Instr.buildSlice t n vparts.toArray).run P E.w = .ok u E'.w ∧ Quiet E E' ∧ V3 E' r u := by
 obtain ⟨e, he, h⟩ := oelim_inv h
 obtain ⟨z, hz, h⟩ := oelim_inv h
 split at h
 case isFalse => exact h.elim
 case isTrue hb =>
 obtain ⟨hzl, hbig⟩ := hb
 obtain ⟨cells, hf, h⟩ := oelim_inv h
 split at h
 case isFalse => exact h.elim
 case isTrue hby =>
 obtain ⟨i, v, h1, h2, h3, h4⟩ := zero_rel (E := E.noL) hz
 have hzv : v.cells.size = z.length := by rw [h3]; simp
 have hisz : i.size = z.length := by rw [hzl]; simp [Program.cellsOf, h1]
 let vz : Array Value := if n * z.length = 0 then #[] else v.cells
 let base : Array Value := (Array.range (n * z.length)).map (fun i => vz[i % vz.size]!)
 have hbase : PW (V1 E.noL) ((List.range (n * z.length)).map fun i => z.getD (i % z.length) .undef) base.toList := by
  refine ⟨by simp [base], fun k a b ha hb => ?_⟩
  rw [List.getElem?_map] at ha
  have hk : k < n * z.length := by
   cases hq : (List.range (n * z.length))[k]? with
   | none => simp [hq] at ha
   | some x => have := (List.getElem?_eq_some_iff.1 hq).1; simpa using this
  rw [List.getElem?_range hk] at ha
  simp only [Option.map_some, Option.some.injEq] at ha
  have hpos : 0 < z.length := by
   rcases Nat.eq_zero_or_pos z.length with q | q
   ·rw [q, Nat.mul_zero] at hk; omega
   ·exact q
  have hlt : k % z.length < z.length := Nat.mod_lt _ hpos
  have hvz : vz = v.cells := if_neg (by omega)
  have hb' : base[k]? = some (v.cells[k % z.length]!) := by
   show ((Array.range (n * z.length)).map (fun i => vz[i % vz.size]!))[k]? = _
   rw [hvz, hzv]
   simp [hk]
  rw [Array.getElem?_toList, hb'] at hb
  simp only [Option.some.injEq] at hb
  have hvl : v.cells.toList[k % z.length]? = some (v.cells[k % z.length]!) := by
   rw [Array.getElem?_toList, Array.getElem?_eq_getElem (by omega)]
   congr 1
   exact (getElem!_pos v.cells (k % z.length) (by omega)).symm
  have hzl' : z[k % z.length]? = some a := by
   rw [← ha, List.getD_eq_getElem?_getD, List.getElem?_eq_getElem hlt]; rfl
  rw [← hb]
  exact h4.2 _ _ _ hzl' hvl
 obtain ⟨rc, hr, hrel⟩ := fill_sound hp hbase hf
 have hq := Quiet.alloc hH (.cells rc e)
 have hu := elemT_spec he
 have hrun : (Instr.buildSlice t n vparts.toArray).run P E.w = .ok (.slice (some ⟨E.w.heap.size, 0, none⟩) n n) (E.w.alloc (.cells rc e)) := by
  have hb24 : ¬ n * z.length > 2 ^ 24 := by omega
  simp only [Instr.buildSlice, Sem.run_bind, run_underlying hu, Result.andThen_ok, run_sizeOf (show (P.info? e).isSome = true by rw [h1]; rfl), ← hzl, if_neg hb24]
  have hr' : Instr.fill (fun i => some (i * z.length, z.length)) ((Array.range (n * z.length)).map (fun x => vz[x % vz.size]!)) vparts = some rc := hr
  by_cases q : n * z.length = 0
  ·have hvz : vz = #[] := if_pos q
   rw [if_pos q]
   simp only [Sem.run_bind, Sem.run_pure, Result.andThen_ok]
   rw [← hvz, hr']
   simp [newRow]
  ·have hvz : vz = v.cells := if_neg q
   rw [if_neg q]
   simp only [Sem.run_bind, Sem.run_pure, Result.andThen_ok, zeroValue, typeInfo, h1, h2, run_program]
   rw [← hvz, hr']
   simp [newRow]
 have hlen : cells.length = n * z.length := by
  have q := hrel.1
  have : ∀ (parts : List (Nat × AV)) (c r : List AV), fillA (fun i => some (i * z.length, z.length)) c parts = some r → r.length = c.length := by
   intro parts
   induction parts with
   | nil => intro c r hh; cases hh; rfl
   | cons p ps ih =>
    intro c r hh
    obtain ⟨a, b⟩ := p
    unfold fillA at hh
    split at hh
    ·cases hh
    ·split at hh
     ·rename_i hc
      rw [ih _ _ hh]; simp [splice]; omega
     ·cases hh
  rw [this _ _ _ hf]; simp
 refine ⟨_, _, _, h, hrun, hq, ?_⟩
 have hcl : (chunk z.length n (cells.map unfr)).length = n := by simp [chunk]
 show RV (E.w.alloc (.cells rc e)) (fun c => E.PA c ∨ c = E.w.heap.size) (fun c => E.PF c ∨ c = E.w.heap.size) _ _
 have key := RV.lst (w := E.w.alloc (.cells rc e)) (PA := fun c => E.PA c ∨ c = E.w.heap.size) (PF := fun c => E.PF c ∨ c = E.w.heap.size)
  (PB := if cells.all frs = true then (fun c => E.PF c ∨ c = E.w.heap.size) else (fun c => E.PA c ∨ c = E.w.heap.size))
  (rows := chunk z.length n (cells.map unfr)) (full := true) (fresh := cells.all frs) (A := some ⟨E.w.heap.size, 0, none⟩) (cap := n) (sz := z.length) (vs := fun i j => (rc[i * z.length + j]?).getD undef)
  (fun c hc => by split at hc <;> (rename_i q; simp only [q]; first | exact hc | simpa using hc)) (by omega) (fun _ => hcl.symm)
  (fun i row hr => by
   unfold chunk at hr
   rw [List.getElem?_map] at hr
   cases hri : (List.range n)[i]? with
   | none => simp [hri] at hr
   | some k =>
    have hi : i < n := by have := (List.getElem?_eq_some_iff.1 hri).1; simpa using this
    rw [List.getElem?_range hi] at hr
    simp at hr
    subst hr
    have : i * z.length + z.length ≤ n * z.length := by
     calc i * z.length + z.length = (i + 1) * z.length := by rw [Nat.add_mul, Nat.one_mul]
      _ ≤ n * z.length := Nat.mul_le_mul_right _ (by omega)
    simp; omega)
  (fun _ => ⟨E.w.heap.size, 0, rfl, by split <;> exact .inr rfl, fun i j hi hj => by
   rw [hcl] at hi
   have : i * z.length + z.length ≤ n * z.length := by
    calc i * z.length + z.length = (i + 1) * z.length := by rw [Nat.add_mul, Nat.one_mul]
     _ ≤ n * z.length := Nat.mul_le_mul_right _ (by omega)
   have hrs : rc.size = n * z.length := by rw [← hlen, hrel.1]; simp
   rw [Nat.zero_add]
   have hlt : i * z.length + j < rc.size := by omega
   rw [World.cell?_alloc_new]
   simp [Array.getElem?_eq_getElem hlt]⟩)
  (fun i j row a hr hj => by
   obtain ⟨hi, hjs, hc⟩ := chunk_get hr hj
   rw [List.getElem?_map] at hc
   cases hca : cells[i * z.length + j]? with
   | none => simp [hca] at hc
   | some b =>
    simp [hca] at hc
    subst hc
    obtain ⟨u, hu, hru⟩ := hrel.get hca
    have hbb : byv0 b = true := List.all_eq_true.1 hby b (List.mem_of_getElem? hca)
    have hrv := byv0_rv hbb hru.up
    have hu' : (rc[i * z.length + j]?).getD undef = u := by rw [Array.getElem?_toList] at hu; rw [hu]; rfl
    rw [hu']
    by_cases hall : cells.all frs = true
    ·have hfb : frs b = true := List.all_eq_true.1 hall b (List.mem_of_getElem? hca)
     rw [if_pos hall]
     exact (unfr_fresh hbb hfb hrv).mono (fun c hc => alloc_get _ _ _ (hH.ltP c (hH.pfpa c hc))) (fun c hc => hc.elim) (fun c hc => .inl hc) (fun c hc => hc)
    ·rw [if_neg hall]
     exact (unfr_rel hbb hrv (fun c hc => hc) hH.pfpa).mono (fun c hc => alloc_get _ _ _ (hH.ltP c hc)) (fun c hc => hc.elim) (fun c hc => .inl hc) (fun c hc => hc))
 rw [hcl] at key
 exact key
end Go.Proofs.Ytglpfccgmfhkdaa.Fw
