/- The framework, part U: an operation that only reads has one value. -/

import Derived.Test.YtglpfccgmfhkdaaFwT
set_option linter.unusedVariables false
namespace Go.Proofs.Ytglpfccgmfhkdaa.Fw
open Go
def Det {α : Type} (F : (α → Prop) → Prop) : Prop := ∀ K, F K → ∃ r, K r ∧ F (fun x => x = r)
theorem Det.ret {α : Type} (r : α) : Det fun K => K r := fun K h => ⟨r, h, rfl⟩
theorem Det.no {α : Type} : Det (α := α) fun _ => False := fun K h => h.elim
theorem Det.and {α : Type} {φ : Prop} {F : (α → Prop) → Prop} (h : Det F) : Det fun K => φ ∧ F K := fun K ⟨hp, hf⟩ => by
 obtain ⟨r, h1, h2⟩ := h K hf
 exact ⟨r, h1, hp, h2⟩
theorem Det.andI {α : Type} {φ : Prop} {F : (α → Prop) → Prop} (h : φ → Det F) : Det fun K => φ ∧ F K := fun K ⟨hp, hf⟩ => by
 obtain ⟨r, h1, h2⟩ := h hp K hf
 exact ⟨r, h1, hp, h2⟩
theorem Det.bind {α β : Type} {o : Option β} {F : β → (α → Prop) → Prop} (h : ∀ b, Det (F b)) : Det fun K => oelim o fun b => F b K := fun K hf => by
 cases o with
 | none => exact hf.elim
 | some b => exact h b K hf
theorem Det.ite {α : Type} {c : Prop} [Decidable c] {F G : (α → Prop) → Prop} (h : Det F) (k : Det G) : Det fun K => if c then F K else G K := by
 intro K hf
 by_cases hc : c
 ·rw [if_pos hc] at hf
  obtain ⟨r, h1, h2⟩ := h K hf
  exact ⟨r, h1, by show if c then _ else _; rw [if_pos hc]; exact h2⟩
 ·rw [if_neg hc] at hf
  obtain ⟨r, h1, h2⟩ := k K hf
  exact ⟨r, h1, by show if c then _ else _; rw [if_neg hc]; exact h2⟩
theorem Det.okp {α : Type} {b : Bool} {F : (α → Prop) → Prop} (h : Det F) : Det fun K => okp b (F K) := by
 cases b with
 | true => exact h
 | false => exact Det.no
theorem take_det {P : Program} {t : TypeId} {cells : List AV} {c : Nat} : Det (takeA P t cells c) := by
 unfold takeA
 exact .ite (.ite (.ite (.ret _) .no) (.bind fun _ => .ret _)) .no
theorem ld_det {P : Program} {t : TypeId} {x : AV} {L : List (Nat × List AV)} {H : List Blk} : Det (ldA P t x L H) := by
 cases x with
 | lptr s c => exact .bind fun _ => take_det
 | ptr b g r c => exact .bind fun _ => .and (.bind fun _ => take_det)
 | rp cells c => exact take_det
 | _ => exact .no
theorem nil_det {x : AV} : Det (nilA x) := by
 cases x <;> first | exact .no | exact .ret _
theorem binI_det {op : BinOp} {k : IntKind} {a b : Int} : Det (binI op k a b) := by
 cases op <;> first | exact .no | exact .ret _ | exact .and (.ret _)
theorem binII_det {op : BinOp} {k k' : IntKind} {a b : Int} : Det (binII op k a k' b) := by
 cases op <;> first | exact .and (.ret _) | exact .ite binI_det .no
def bin1 (x : AV) : Bool := match x with
 | .lst _ _ _ => false
 | _ => true
theorem bin_det {P : Program} {op : BinOp} {t : TypeId} {x y : AV} {yn : Bool} (hx : bin1 x = true) : Det (binA P op t x y yn) := by
 cases x with
 | int k a => cases y <;> first | exact .no | exact binII_det
 | bool a =>
  cases y with
  | bool b => exact .ite (by cases op <;> first | exact .no | exact .ret _) .no
  | _ => exact .no
 | str a =>
  cases y with
  | str b =>
   show Det (binSS op a b)
   cases op <;> first | exact .no | exact .ret _ | exact .and (.ret _)
  | _ => exact .no
 | agg l =>
  cases y with
  | agg m => exact .ite (.bind fun p => .bind fun q => by
    show Det (binTwo op p.1 p.2 q.1 q.2)
    cases op <;> first | exact .no | exact .ret _) .no
  | _ => exact .no
 | lst rows fu fr => cases hx
 | _ => exact .no
theorem un_det {op : UnOp} {x : AV} : Det (unA op x) := by
 cases op <;> cases x <;> first | exact .no | exact .ret _
theorem cvt_det {P : Program} {s d : TypeId} {x : AV} : Det (cvtA P s d x) := by
 cases x with
 | int k n => exact .bind fun _ => .bind fun _ => .ret _
 | _ => exact .no
theorem fad_det {P : Program} {t : TypeId} {x : AV} {f : Nat} : Det (fadA P t x f) := by
 refine .bind fun fd => .ite ?_ .no
 cases x <;> first | exact .no | exact .ret _
theorem iad_det {P : Program} {t : TypeId} {x i : AV} {H : List Blk} : Det (iadA P t x i H) := by
 refine .bind fun e => .ite ?_ .no
 cases i with
 | int k n =>
  cases x with
  | lst rows fu fr => exact .and (.bind fun _ => .and (.ret _))
  | ref b g off m fu => exact .bind fun _ => .and (.and (.and (.and (.ret _))))
  | _ => exact .no
 | _ => exact .no
theorem idx_det {P : Program} {t : TypeId} {x i : AV} : Det (idxA P t x i) := by
 cases x with
 | str s =>
  cases i with
  | int k n =>
   show Det fun K : AV → Prop => (match P.underlying t with
   | some .string => 0 ≤ n ∧ n < s.size ∧ K (.int .u8 ((s.data.getD n.toNat 0).toNat))
   | _ => False)
   split
   ·exact .and (.and (.ret _))
   ·exact .no
  | _ => exact .no
 | _ => exact .no
theorem bnd_det {α : Type} {x : Option AV} {d : Nat} {F : Nat → (α → Prop) → Prop} (h : ∀ n, Det (F n)) : Det fun K => bndA x d fun n => F n K := by
 cases x with
 | none => exact h d
 | some a =>
  cases a with
  | int k n => exact .and (h _)
  | _ => exact .no
theorem slc_det {P : Program} {t : TypeId} {x : AV} {lo hi : Option AV} {H : List Blk} : Det (slcA P t x lo hi H) := by
 cases x with
 | str s =>
  show Det fun K : AV → Prop => (match P.underlying t with
   | some .string => bndA lo 0 fun l => bndA hi s.size fun h => l ≤ h ∧ h ≤ s.size ∧ K (.str (s.extract l h))
   | _ => False)
  split
  ·exact bnd_det fun l => bnd_det fun h => .and (.and (.ret _))
  ·exact .no
 | lst rows fu fr => exact .bind fun e => .ite (bnd_det fun l => bnd_det fun h => .and (.and (.and (.ret _)))) .no
 | ref b g off n fu =>
  refine .bind fun e => .ite (.bind fun blk => .and (.and (bnd_det fun l => bnd_det fun h => .andI fun hle => .and ?_))) .no
  intro K ⟨h1, h2⟩
  rcases Nat.lt_trichotomy l h with hlt | heq | hgt
  ·exact ⟨_, h1 hlt, fun _ => rfl, fun e => absurd e (by omega)⟩
  ·exact ⟨_, h2 heq, fun e => absurd e (by omega), fun _ => rfl⟩
  ·omega
 | _ => exact .no
theorem ext_det {x : AV} {i : Nat} : Det (extA x i) := by
 cases x with
 | tup l => exact .bind fun _ => .ret _
 | _ => exact .no
theorem mkf_det {fn : Fn} {first : Array Operand} {caps : List AV} : Det (mkfA fn first caps) := by
 cases fn with
 | func f => exact .ite (.ret _) .no
 | _ => exact .no
theorem build_det {P : Program} {t : TypeId} {parts : List (Nat × AV)} : Det (buildA P t parts) := .bind fun _ => .bind fun _ => .bind fun _ => .ret _
theorem bsl_det {P : Program} {t : TypeId} {n : Nat} {parts : List (Nat × AV)} : Det (bslA P t n parts) := .bind fun _ => .bind fun _ => .ite (.bind fun _ => .ite (.ret _) .no) .no
def lenD (x : AV) (K : AV → Prop) : Prop := match x with
 | .lst rows _ _ => K (.int .i64 rows.length)
 | .str s => K (.int .i64 s.size)
 | .ref _ _ _ n _ => K (.int .i64 n)
 | _ => False
theorem lenD_det {x : AV} : Det (lenD x) := by
 cases x <;> first | exact .no | exact .ret _
theorem lenD_lenA {x : AV} {K : AV → Prop} (h : lenD x K) : lenA x K := by
 cases x <;> first | exact h | exact fun _ => h
theorem callV_det {P : Program} {f : FuncId} {args : List AV} {L : List (Nat × List AV)} {H : List Blk} : Det (callVA P f args L H) := fun K ⟨hn, args0, t, h1, h2, h3⟩ => ⟨t, h3, hn, args0, t, h1, h2, rfl⟩
def evCallD (P : Program) (c : Call) (ρ : Operand → AV) (L : List (Nat × List AV)) (H : List Blk) (K : AV → Prop) : Prop := match c.callee with
 | .builtin .len => (match c.args.toList, c.argTypes.toList with
  | [x], [t] => okp (lenT P t (ρ x)) (lenD (ρ x) K)
  | _, _ => False)
 | .value f => calleeA (ρ f) fun g caps => callVA P g (c.args.toList.map ρ ++ caps) L H K
 | _ => False
def evValD (P : Program) (o : Oper) (ρ : Operand → AV) (L : List (Nat × List AV)) (H : List Blk) (K : AV → Prop) : Prop := match o.op with
 | .call c => evCallD P c ρ L H K
 | .pick c x y => asB (ρ c) fun z => bway true z (K (ρ x)) (K (ρ y))
 | .binOp op t x y _ => okp (bin1 (ρ x)) (binA P op t (ρ x) (ρ y) (isNilC y) K)
 | _ => evVal P o ρ L H K
theorem evValD_val {P : Program} {o : Oper} {ρ : Operand → AV} {L : List (Nat × List AV)} {H : List Blk} {K : AV → Prop} (h : evValD P o ρ L H K) : evVal P o ρ L H K := by
 obtain ⟨dst, op, ty, pos, after, guard⟩ := o
 cases op with
 | call c =>
  obtain ⟨callee, args, argTypes⟩ := c
  cases callee with
  | builtin b =>
   cases b with
   | len =>
    have h : (match args.toList, argTypes.toList with
     | [x], [t] => okp (lenT P t (ρ x)) (lenD (ρ x) K)
     | _, _ => False) := h
    show (match args.toList, argTypes.toList with
     | [x], [t] => okp (lenT P t (ρ x)) (lenA (ρ x) K)
     | _, _ => False)
    split at h
    ·obtain ⟨h1, h2⟩ := okp_inv h
     simp only [h1]; exact lenD_lenA h2
    ·exact h.elim
   | _ => exact h.elim
  | value f => exact h
  | _ => exact h.elim
 | binOp op t x y ty2 => exact (okp_inv (show okp (bin1 (ρ x)) (binA P op t (ρ x) (ρ y) (isNilC y) K) from h)).2
 | pick c x y =>
  obtain ⟨b, hb, hw⟩ := asB_inv (show asB (ρ c) fun z => bway true z (K (ρ x)) (K (ρ y)) from h)
  show asB (ρ c) fun z => bcond z (K (ρ x)) (K (ρ y))
  rw [hb]; exact bway_inv hw
 | _ => exact h
theorem bcond_det {α : Type} {z : Bool} {x y : α} : Det fun K => bway true z (K x) (K y) := by
 cases z with
 | true => exact .ret x
 | false => exact .ret y
theorem asB_det {α : Type} {v : AV} {F : Bool → (α → Prop) → Prop} (h : ∀ b, Det (F b)) : Det fun K => asB v fun b => F b K := by
 cases v with
 | bool b => exact h b
 | _ => exact .no
theorem evValD_det {P : Program} {o : Oper} {ρ : Operand → AV} {L : List (Nat × List AV)} {H : List Blk} : Det (evValD P o ρ L H) := by
 obtain ⟨dst, op, ty, pos, after, guard⟩ := o
 cases op with
 | move x => exact .ret _
 | assign x => exact .ret _
 | pick c x y => exact asB_det fun z => bcond_det
 | build t ps => exact .okp build_det
 | buildSlice t n ps => exact .okp bsl_det
 | load t a => exact ld_det
 | nilCheck x => exact nil_det
 | binOp op t x y ty2 =>
  show Det fun K => okp (bin1 (ρ x)) (binA P op t (ρ x) (ρ y) (isNilC y) K)
  cases hb : bin1 (ρ x) with
  | true => exact bin_det hb
  | false => exact .no
 | unOp op t x => exact un_det
 | convert s d x => exact cvt_det
 | makeFunc fn first caps => exact mkf_det
 | fieldAddr t x f => exact fad_det
 | indexAddr t x i => exact iad_det
 | index t x i => exact idx_det
 | slice t x lo hi mx =>
  cases mx with
  | none => exact slc_det
  | some m => exact .no
 | extract x i => exact ext_det
 | call c =>
  obtain ⟨callee, args, argTypes⟩ := c
  cases callee with
  | builtin b =>
   cases b with
   | len =>
    show Det fun K => (match args.toList, argTypes.toList with
     | [x], [t] => okp (lenT P t (ρ x)) (lenD (ρ x) K)
     | _, _ => False)
    split
    ·exact .okp lenD_det
    ·exact .no
   | _ => exact .no
  | value f =>
   show Det fun K => calleeA (ρ f) fun g caps => callVA P g (args.toList.map ρ ++ caps) L H K
   cases ρ f with
   | fn g caps => exact callV_det
   | _ => exact .no
  | _ => exact .no
 | _ => exact .no
end Go.Proofs.Ytglpfccgmfhkdaa.Fw
