/- FnExactLockedBy returns true for every plan, every frame and every section: impl.LockedBy answers as spec.LockedBy and changes none of its arguments. -/
import Derived.Test.YtglpfccgmfhkdaaRows
import Derived.Test.YtglpfccgmfhkdaaFwRow
import Derived.Test.YtglpfccgmfhkdaaWkL5
import Derived.WalkKit
import Derived.WalkSpells
import Derived.WalkLawsBesides
import Derived.ProofKit
import Derived.OpenShut
import Derived.Carry
import Derived.ChangeOld
import Derived.Below
import Derived.SizedLaws
namespace Go.Proofs.Ytglpfccgmfhkdaa
open Go.ChangeShapes Go.WideShapes Go.ChangeAt Go.RowKit Fw
set_option linter.unusedVariables false
theorem Try.ownFnExactLockedBy : ownKnob Try.prog.godebug = none := by kernel_rfl
theorem Try.laidOutFnExactLockedBy : laidOutB Try.prog = true := by kernel_rfl
set_option maxRecDepth 100000 in
theorem fnExactLockedBy_lifted (os : Os) (started : os.Started) (H : Type) (enc : TypeId × Value → H) :
    ReturnsInHanded {} Try.checked os 12 .any (Rows.fnExactLockedBySpec.pre6 enc Try.prog Try.f12 Rows.fnExactLockedByRow.domain false) (Rows.fnExactLockedBySpec.post enc Try.prog Try.f12 false true false false) := by
  refine returnsInHanded_of_change_sized (C := Try.checked) Try.ownFnExactLockedBy started (by kernel_rfl) Try.func12
    (ChangeSpec.witness6 (enc := enc) (C := Try.checked) false ⟨#[], #[.agg #[.int .i64 0, .slice none 0 0, .slice none 0 0, .slice none 0 0, .int .i64 0], .agg #[.bool false, .slice none 0 0, .slice none 0 0, .slice none 0 0], .int .i64 0], []⟩ 8 (by kernel_rfl) (by kernel_rfl) (by kernel_rfl) (by kernel_rfl)) ?_
  intro W base args ds gs before hval0 hW hcnd hsz0 _
  have hsz : (DataW.weightsEach Try.prog (Try.f12.params.toList ++ Rows.fnExactLockedBySpec.plain.varTypes Try.prog) (ds ++ gs)).all (· ≤ reachBytes) = true := hsz0
  have hval : ∀ (j : Nat) t v, Try.f12.params[j]? = some t → args[j]? = some v → Value.okWide Try.prog W .any base t v := hval0
  have hW' := hW
  obtain ⟨p, q, hA0, hV, rfl, hfz, hnd⟩ := hW
  have hA : DataW.TrodAll enc Try.prog W 0 (fun _ => true) true Try.f12.params.toList args.toList ds p := hA0
  rw [Try.params12] at hA hval hsz
  obtain ⟨v0, vs0, d0, ds0, p0, q0, hargs, rfl, rfl, h0, r0⟩ := trodAll_cons hA
  obtain ⟨v1, vs1, d1, ds1, p1, q1, rfl, rfl, rfl, h1, r1⟩ := trodAll_cons r0
  obtain ⟨v2, vs2, d2, ds2, p2, q2, rfl, rfl, rfl, h2, r2⟩ := trodAll_cons r1
  obtain ⟨rfl, rfl, rfl⟩ := trodAll_nil r2
  obtain rfl : args = #[v0, v1, v2] := by cases args; simp_all
  obtain ⟨rfl, rfl⟩ := trodVars_none hV
  have k0 := h0
  have lt0 : ∀ x ∈ p0, x.block < W.heap.size := by obtain ⟨m, hm⟩ := k0; exact DataW.trod_lt m _ _ _ hm
  obtain ⟨y0, e0⟩ := arg_struct (P := Try.prog) (W := W) (k := 5) (opens_Plan (t := 48) (a := 3) (b := 25) (c := 46) (d := 27) (e := 3) (by kernel_rfl) (opens_int (by kernel_rfl)) (opens_slice (t := 25) (e := 3) (enc := eInt) (by kernel_rfl) (Nat.le_of_ble_eq_true (by kernel_rfl)) (Nat.le_of_ble_eq_true (by kernel_rfl)) (fun _ => by kernel_rfl) (opens_int (by kernel_rfl))) (opens_slice (t := 46) (e := 140) (enc := (eWay false)) (by kernel_rfl) (Nat.le_of_ble_eq_true (by kernel_rfl)) (Nat.le_of_ble_eq_true (by kernel_rfl)) (fun _ => by kernel_rfl) (opens_Way (t := 140) (a := 25) (b := 138) (c := 138) (d := 25) (e := 25) (by kernel_rfl) (opens_slice (t := 25) (e := 3) (enc := eInt) (by kernel_rfl) (Nat.le_of_ble_eq_true (by kernel_rfl)) (Nat.le_of_ble_eq_true (by kernel_rfl)) (fun _ => by kernel_rfl) (opens_int (by kernel_rfl))) (opens_slice (t := 138) (e := 187) (enc := eLie) (by kernel_rfl) (Nat.le_of_ble_eq_true (by kernel_rfl)) (Nat.le_of_ble_eq_true (by kernel_rfl)) (fun _ => by kernel_rfl) (opens_Lie (t := 187) (a := 3) (b := 3) (by kernel_rfl) (opens_int (by kernel_rfl)) (opens_int (by kernel_rfl)))) (opens_slice (t := 138) (e := 187) (enc := eLie) (by kernel_rfl) (Nat.le_of_ble_eq_true (by kernel_rfl)) (Nat.le_of_ble_eq_true (by kernel_rfl)) (fun _ => by kernel_rfl) (opens_Lie (t := 187) (a := 3) (b := 3) (by kernel_rfl) (opens_int (by kernel_rfl)) (opens_int (by kernel_rfl)))) (opens_slice (t := 25) (e := 3) (enc := eInt) (by kernel_rfl) (Nat.le_of_ble_eq_true (by kernel_rfl)) (Nat.le_of_ble_eq_true (by kernel_rfl)) (fun _ => by kernel_rfl) (opens_int (by kernel_rfl))) (opens_slice (t := 25) (e := 3) (enc := eInt) (by kernel_rfl) (Nat.le_of_ble_eq_true (by kernel_rfl)) (Nat.le_of_ble_eq_true (by kernel_rfl)) (fun _ => by kernel_rfl) (opens_int (by kernel_rfl))))) (opens_slice (t := 27) (e := 36) (enc := (eL eBool false)) (by kernel_rfl) (Nat.le_of_ble_eq_true (by kernel_rfl)) (Nat.le_of_ble_eq_true (by kernel_rfl)) (fun _ => by kernel_rfl) (opens_slice (t := 36) (e := 4) (enc := eBool) (by kernel_rfl) (Nat.le_of_ble_eq_true (by kernel_rfl)) (Nat.le_of_ble_eq_true (by kernel_rfl)) (fun _ => by kernel_rfl) (opens_bool (by kernel_rfl)))) (opens_int (by kernel_rfl))) (by decide) (fun _ => rfl) k0 (fun n hn => by simpa using List.all_eq_true.1 hsz n (DataW.weights_mem_each (j := 0) rfl rfl n hn))
  have k1 := h1
  have lt1 : ∀ x ∈ p1, x.block < W.heap.size := by obtain ⟨m, hm⟩ := k1; exact DataW.trod_lt m _ _ _ hm
  obtain ⟨y1, e1⟩ := arg_struct (P := Try.prog) (W := W) (k := 4) (opens_Frame (t := 69) (a := 4) (b := 36) (c := 66) (d := 67) (by kernel_rfl) (opens_bool (by kernel_rfl)) (opens_slice (t := 36) (e := 4) (enc := eBool) (by kernel_rfl) (Nat.le_of_ble_eq_true (by kernel_rfl)) (Nat.le_of_ble_eq_true (by kernel_rfl)) (fun _ => by kernel_rfl) (opens_bool (by kernel_rfl))) (opens_slice (t := 66) (e := 157) (enc := ePoint) (by kernel_rfl) (Nat.le_of_ble_eq_true (by kernel_rfl)) (Nat.le_of_ble_eq_true (by kernel_rfl)) (fun _ => by kernel_rfl) (opens_Point (t := 157) (a := 3) (b := 3) (by kernel_rfl) (opens_int (by kernel_rfl)) (opens_int (by kernel_rfl)))) (opens_slice (t := 67) (e := 154) (enc := (eHeld false)) (by kernel_rfl) (Nat.le_of_ble_eq_true (by kernel_rfl)) (Nat.le_of_ble_eq_true (by kernel_rfl)) (fun _ => by kernel_rfl) (opens_Held (t := 154) (a := 3) (b := 3) (c := 36) (d := 4) (e := 3) (by kernel_rfl) (opens_int (by kernel_rfl)) (opens_int (by kernel_rfl)) (opens_slice (t := 36) (e := 4) (enc := eBool) (by kernel_rfl) (Nat.le_of_ble_eq_true (by kernel_rfl)) (Nat.le_of_ble_eq_true (by kernel_rfl)) (fun _ => by kernel_rfl) (opens_bool (by kernel_rfl))) (opens_bool (by kernel_rfl)) (opens_int (by kernel_rfl))))) (by decide) (fun _ => rfl) k1 (fun n hn => by simpa using List.all_eq_true.1 hsz n (DataW.weights_mem_each (j := 1) rfl rfl n hn))
  obtain ⟨y2, rfl, rfl, rfl, w2⟩ := open_int (P := Try.prog) (t := 3) (k := .i64) (by kernel_rfl) (hval 2 3 v2 rfl rfl) h2
  have e2 : V2 (Env.at W) (.int .i64 y2) (.int .i64 y2) := V2_of_V1 (RV.v1 (E := Env.at W) (.int _ _))
  clear hA0 hval0 hsz0 hsz
  refine (law_calls (laws_FnExactLockedBy_V y0 y1 y2) (PW.cons e0 (PW.cons e1 (PW.cons e2 PW.nil)))).mono fun e W' ⟨he, bel⟩ => ?_
  subst he
  exact ⟨_, rfl, _, _, _, [], _, [], hW', trodAll_mk1 (shut_bool (by kernel_rfl) _), (trodAll_cons_mk (Below.trod Try.laidOutFnExactLockedBy (by kernel_rfl) (of_decide_eq_true (by kernel_rfl)) k0 bel lt0) (trodAll_cons_mk (Below.trod Try.laidOutFnExactLockedBy (by kernel_rfl) (of_decide_eq_true (by kernel_rfl)) k1 bel lt1) (trodAll_cons_mk (shut_int (by kernel_rfl) w2) trodAll_mk0))), rfl, bel.frame _, fun h => by cases h⟩
theorem fnExactLockedBy_f0 : (Rows.fnExactLockedByRow.wf (OpenSpec.ofChange Rows.fnExactLockedBySpec)) = true := by kernel_rfl
theorem fnExactLockedBy_f1 : (laidOutB Try.prog) = true := by kernel_rfl
theorem fnExactLockedBy_f2 : (mapsRowed Try.prog) = true := by kernel_rfl
theorem fnExactLockedBy_f3 : (Try.f12.params.all (Try.prog.readableRec ·)) = true := by kernel_rfl
theorem fnExactLockedBy_f4 : (namedTie Try.prog Rows.fnExactLockedByRow.named Rows.fnExactLockedBySpec.vars) = true := by kernel_rfl
theorem fnExactLockedBy_f5 : ((Rows.fnExactLockedByRow.stops == [])) = true := by kernel_rfl
theorem fnExactLockedBy_f6 : ((Try.prog.stops == [])) = true := by kernel_rfl
theorem fnExactLockedBy_f7 : ((Rows.fnExactLockedByRow.knobs == [])) = true := by kernel_rfl
theorem fnExactLockedBy_f8 : ((Try.prog.stopKnobs == [])) = true := by kernel_rfl
theorem fnExactLockedBy_f9 : ((Rows.fnExactLockedByRow.inPlace == Try.prog.inPlace 12)) = true := by kernel_rfl
theorem fnExactLockedBy_f10 : ((Rows.fnExactLockedByRow.unfollowed == Try.prog.unfollowed 12)) = true := by kernel_rfl
theorem fnExactLockedBy_f11 : ((Rows.fnExactLockedByRow.recurses == Try.prog.recurses 12)) = true := by kernel_rfl
theorem fnExactLockedBy_f12 : ((Rows.fnExactLockedByRow.named == Try.prog.varsNamed 12)) = true := by kernel_rfl
theorem fnExactLockedBy_f13 : ((Rows.fnExactLockedByRow.maps == (Try.f12.params.toList ++ Rows.fnExactLockedBySpec.plain.varTypes Try.prog).any (Try.prog.mapsRec ·))) = true := by kernel_rfl
theorem fnExactLockedBy_f14 : ((Rows.fnExactLockedByRow.ifaces == (Try.f12.params.toList ++ Rows.fnExactLockedBySpec.plain.varTypes Try.prog).any (Try.prog.ifacesRec ·))) = true := by kernel_rfl
theorem fnExactLockedBy_f15 : ((Rows.fnExactLockedByRow.mapsOut == Try.prog.mapsAmong Try.f12.resultTypes.toList)) = true := by kernel_rfl
theorem fnExactLockedBy_f16 : ((Rows.fnExactLockedByRow.loops == (Try.f12.params.toList ++ Rows.fnExactLockedBySpec.plain.varTypes Try.prog).any (Try.prog.loopsFrom ·))) = true := by kernel_rfl
theorem fnExactLockedBy_f17 : ((Rows.fnExactLockedByRow.wideKeys == (Try.f12.params.toList ++ Rows.fnExactLockedBySpec.plain.varTypes Try.prog ++ Try.f12.resultTypes.toList).any (Try.prog.wideKeysFrom ·))) = true := by kernel_rfl
theorem fnExactLockedBy_f18 : (Rows.fnExactLockedBySpec.vars.all (Try.prog.varReadable ·)) = true := by kernel_rfl
theorem fnExactLockedBy_f19 : (Try.f12.resultTypes.all (fun t => Try.prog.readableRec t && decide (t < Try.prog.types.size))) = true := by kernel_rfl
theorem fnExactLockedBy_f20 : ((Rows.fnExactLockedByRow.ifacesOut == Try.f12.resultTypes.toList.any (Try.prog.ifacesRec ·))) = true := by kernel_rfl
theorem fnExactLockedBy_f21 : ((Rows.fnExactLockedByRow.loopsOut == Try.f12.resultTypes.toList.any (Try.prog.loopsFrom ·))) = true := by kernel_rfl
theorem fnExactLockedBy_f22 : ((Rows.fnExactLockedByRow.plainKeys == Try.prog.plainKeys)) = true := by kernel_rfl
theorem fnExactLockedBy_f23 : (Rows.fnExactLockedByRow.shortTexts.isNone) = true := by kernel_rfl
theorem fnExactLockedBy_f24 : (Try.prog.stopsHeard) = true := by kernel_rfl
theorem fnExactLockedBy_f25 : (Try.prog.mayEnter) = true := by kernel_rfl
theorem fnExactLockedBy_f26 : ((Rows.fnExactLockedByRow.lifted == Try.prog.liftsFinal)) = true := by kernel_rfl
theorem fnExactLockedBy_f27 : ((Try.prog.make == some Rows.fnExactLockedByRow.make)) = true := by kernel_rfl
theorem fnExactLockedBy_f28 : (kindsOk Try.prog Try.f12 Rows.fnExactLockedByRow) = true := by kernel_rfl
theorem fnExactLockedBy_f29 : ((Rows.fnExactLockedByRow.pinned == Rows.fnExactLockedByRow.pinnedBy)) = true := by kernel_rfl
theorem fnExactLockedBy_f30 : ((Rows.fnExactLockedByRow.veiled == (Try.f12.params.toList ++ Rows.fnExactLockedBySpec.plain.varTypes Try.prog ++ Try.f12.resultTypes.toList).any (Try.prog.veiledRec ·))) = true := by kernel_rfl
theorem fnExactLockedBy_f31 : (Rows.fnExactLockedByRow.veiledFits Try.prog Try.f12.params.toList (Try.f12.params.toList ++ Rows.fnExactLockedBySpec.plain.varTypes Try.prog ++ Try.f12.resultTypes.toList)) = true := by kernel_rfl
theorem fnExactLockedBy_facts : joinedFacts Try.prog 12 Try.f12 Rows.fnExactLockedBySpec Rows.fnExactLockedByRow = true :=
  joined_of fnExactLockedBy_f0 fnExactLockedBy_f1 fnExactLockedBy_f2 fnExactLockedBy_f3 fnExactLockedBy_f4 fnExactLockedBy_f5 fnExactLockedBy_f6 fnExactLockedBy_f7 fnExactLockedBy_f8 fnExactLockedBy_f9 fnExactLockedBy_f10 fnExactLockedBy_f11 fnExactLockedBy_f12 fnExactLockedBy_f13 fnExactLockedBy_f14 fnExactLockedBy_f15 fnExactLockedBy_f16 fnExactLockedBy_f17 fnExactLockedBy_f18 fnExactLockedBy_f19 fnExactLockedBy_f20 fnExactLockedBy_f21 fnExactLockedBy_f22 fnExactLockedBy_f23 fnExactLockedBy_f24 fnExactLockedBy_f25 fnExactLockedBy_f26 fnExactLockedBy_f27 fnExactLockedBy_f28 fnExactLockedBy_f29 fnExactLockedBy_f30 fnExactLockedBy_f31
theorem fnExactLockedBy_inst : Try.f12.isInstance Try.prog Rows.fnExactLockedByRow.origin Rows.fnExactLockedByRow.targs := of_decide_eq_true (by kernel_rfl)
theorem fnExactLockedBy_wrap : Try.f12.isWrapper Try.prog Rows.fnExactLockedByRow.wrapper Rows.fnExactLockedByRow.mainSum := by
  unfold Func.isWrapper
  rw [if_neg (by decide +kernel)]
  exact ⟨rfl, rfl⟩
theorem fnExactLockedBy_holds : Rows.FnExactLockedBySaid :=
  OpenClaim.holds_of_wide 12 Try.f12 rfl rfl rfl rfl rfl rfl rfl ⟨rfl, rfl, rfl, rfl, rfl⟩ rfl rfl rfl rfl rfl (by kernel_rfl) Try.func12 fnExactLockedBy_facts
    fnExactLockedBy_inst fnExactLockedBy_wrap
    (fun os started H enc _ => fnExactLockedBy_lifted os started H enc)
#print axioms fnExactLockedBy_holds
end Go.Proofs.Ytglpfccgmfhkdaa
