/- The law FnExactPlanOk answers true at every plan, and the input reads as it did, with no condition. -/
import Derived.Test.YtglpfccgmfhkdaaRows
import Derived.Test.YtglpfccgmfhkdaaFwRow
import Derived.Test.YtglpfccgmfhkdaaWkC
import Derived.WalkKit
import Derived.WalkSpells
import Derived.WalkLawsBesides
import Derived.ProofKit
import Derived.OpenShut
import Derived.Carry
import Derived.ChangeOld
import Derived.Below
import Derived.SizedLaws
namespace Go.Proofs.Ytglpfccgmfhkdaa
open Go.ChangeShapes Go.WideShapes Go.ChangeAt Go.RowKit Fw
set_option linter.unusedVariables false
theorem Try.ownFnExactPlanOk : ownKnob Try.prog.godebug = none := by kernel_rfl
theorem Try.laidOutFnExactPlanOk : laidOutB Try.prog = true := by kernel_rfl
set_option maxRecDepth 100000 in
theorem fnExactPlanOk_lifted (os : Os) (started : os.Started) (H : Type) (enc : TypeId × Value → H) :
    ReturnsInHanded {} Try.checked os 5 .any (Rows.fnExactPlanOkSpec.pre6 enc Try.prog Try.f5 Rows.fnExactPlanOkRow.domain false) (Rows.fnExactPlanOkSpec.post enc Try.prog Try.f5 false true false false) := by
  refine returnsInHanded_of_change_sized (C := Try.checked) Try.ownFnExactPlanOk started (by kernel_rfl) Try.func5
    (ChangeSpec.witness6 (enc := enc) (C := Try.checked) false ⟨#[], #[.agg #[.int .i64 0, .slice none 0 0, .slice none 0 0, .slice none 0 0, .int .i64 0]], []⟩ 8 (by kernel_rfl) (by kernel_rfl) (by kernel_rfl) (by kernel_rfl)) ?_
  intro W base args ds gs before hval0 hW hcnd hsz0 _
  have hsz : (DataW.weightsEach Try.prog (Try.f5.params.toList ++ Rows.fnExactPlanOkSpec.plain.varTypes Try.prog) (ds ++ gs)).all (· ≤ reachBytes) = true := hsz0
  have hval : ∀ (j : Nat) t v, Try.f5.params[j]? = some t → args[j]? = some v → Value.okWide Try.prog W .any base t v := hval0
  have hW' := hW
  obtain ⟨p, q, hA0, hV, rfl, hfz, hnd⟩ := hW
  have hA : DataW.TrodAll enc Try.prog W 0 (fun _ => true) true Try.f5.params.toList args.toList ds p := hA0
  rw [Try.params5] at hA hval hsz
  obtain ⟨v0, vs0, d0, ds0, p0, q0, hargs, rfl, rfl, h0, r0⟩ := trodAll_cons hA
  obtain ⟨rfl, rfl, rfl⟩ := trodAll_nil r0
  obtain rfl : args = #[v0] := by cases args; simp_all
  obtain ⟨rfl, rfl⟩ := trodVars_none hV
  have k0 := h0
  have lt0 : ∀ x ∈ p0, x.block < W.heap.size := by obtain ⟨m, hm⟩ := k0; exact DataW.trod_lt m _ _ _ hm
  obtain ⟨y0, e0⟩ := arg_struct (P := Try.prog) (W := W) (k := 5) (opens_Plan (t := 48) (a := 3) (b := 25) (c := 46) (d := 27) (e := 3) (by kernel_rfl) (opens_int (by kernel_rfl)) (opens_slice (t := 25) (e := 3) (enc := eInt) (by kernel_rfl) (Nat.le_of_ble_eq_true (by kernel_rfl)) (Nat.le_of_ble_eq_true (by kernel_rfl)) (fun _ => by kernel_rfl) (opens_int (by kernel_rfl))) (opens_slice (t := 46) (e := 140) (enc := (eWay false)) (by kernel_rfl) (Nat.le_of_ble_eq_true (by kernel_rfl)) (Nat.le_of_ble_eq_true (by kernel_rfl)) (fun _ => by kernel_rfl) (opens_Way (t := 140) (a := 25) (b := 138) (c := 138) (d := 25) (e := 25) (by kernel_rfl) (opens_slice (t := 25) (e := 3) (enc := eInt) (by kernel_rfl) (Nat.le_of_ble_eq_true (by kernel_rfl)) (Nat.le_of_ble_eq_true (by kernel_rfl)) (fun _ => by kernel_rfl) (opens_int (by kernel_rfl))) (opens_slice (t := 138) (e := 187) (enc := eLie) (by kernel_rfl) (Nat.le_of_ble_eq_true (by kernel_rfl)) (Nat.le_of_ble_eq_true (by kernel_rfl)) (fun _ => by kernel_rfl) (opens_Lie (t := 187) (a := 3) (b := 3) (by kernel_rfl) (opens_int (by kernel_rfl)) (opens_int (by kernel_rfl)))) (opens_slice (t := 138) (e := 187) (enc := eLie) (by kernel_rfl) (Nat.le_of_ble_eq_true (by kernel_rfl)) (Nat.le_of_ble_eq_true (by kernel_rfl)) (fun _ => by kernel_rfl) (opens_Lie (t := 187) (a := 3) (b := 3) (by kernel_rfl) (opens_int (by kernel_rfl)) (opens_int (by kernel_rfl)))) (opens_slice (t := 25) (e := 3) (enc := eInt) (by kernel_rfl) (Nat.le_of_ble_eq_true (by kernel_rfl)) (Nat.le_of_ble_eq_true (by kernel_rfl)) (fun _ => by kernel_rfl) (opens_int (by kernel_rfl))) (opens_slice (t := 25) (e := 3) (enc := eInt) (by kernel_rfl) (Nat.le_of_ble_eq_true (by kernel_rfl)) (Nat.le_of_ble_eq_true (by kernel_rfl)) (fun _ => by kernel_rfl) (opens_int (by kernel_rfl))))) (opens_slice (t := 27) (e := 36) (enc := (eL eBool false)) (by kernel_rfl) (Nat.le_of_ble_eq_true (by kernel_rfl)) (Nat.le_of_ble_eq_true (by kernel_rfl)) (fun _ => by kernel_rfl) (opens_slice (t := 36) (e := 4) (enc := eBool) (by kernel_rfl) (Nat.le_of_ble_eq_true (by kernel_rfl)) (Nat.le_of_ble_eq_true (by kernel_rfl)) (fun _ => by kernel_rfl) (opens_bool (by kernel_rfl)))) (opens_int (by kernel_rfl))) (by decide) (fun _ => rfl) k0 (fun n hn => by simpa using List.all_eq_true.1 hsz n (DataW.weights_mem_each (j := 0) rfl rfl n hn))
  clear hA0 hval0 hsz0 hsz
  refine (law_calls (laws_FnExactPlanOk_V y0) (PW.cons e0 PW.nil)).mono fun e W' ⟨he, bel⟩ => ?_
  subst he
  exact ⟨_, rfl, _, _, _, [], _, [], hW', trodAll_mk1 (shut_bool (by kernel_rfl) _), (trodAll_cons_mk (Below.trod Try.laidOutFnExactPlanOk (by kernel_rfl) (of_decide_eq_true (by kernel_rfl)) k0 bel lt0) trodAll_mk0), rfl, bel.frame _, fun h => by cases h⟩
theorem fnExactPlanOk_f0 : (Rows.fnExactPlanOkRow.wf (OpenSpec.ofChange Rows.fnExactPlanOkSpec)) = true := by kernel_rfl
theorem fnExactPlanOk_f1 : (laidOutB Try.prog) = true := by kernel_rfl
theorem fnExactPlanOk_f2 : (mapsRowed Try.prog) = true := by kernel_rfl
theorem fnExactPlanOk_f3 : (Try.f5.params.all (Try.prog.readableRec ·)) = true := by kernel_rfl
theorem fnExactPlanOk_f4 : (namedTie Try.prog Rows.fnExactPlanOkRow.named Rows.fnExactPlanOkSpec.vars) = true := by kernel_rfl
theorem fnExactPlanOk_f5 : ((Rows.fnExactPlanOkRow.stops == [])) = true := by kernel_rfl
theorem fnExactPlanOk_f6 : ((Try.prog.stops == [])) = true := by kernel_rfl
theorem fnExactPlanOk_f7 : ((Rows.fnExactPlanOkRow.knobs == [])) = true := by kernel_rfl
theorem fnExactPlanOk_f8 : ((Try.prog.stopKnobs == [])) = true := by kernel_rfl
theorem fnExactPlanOk_f9 : ((Rows.fnExactPlanOkRow.inPlace == Try.prog.inPlace 5)) = true := by kernel_rfl
theorem fnExactPlanOk_f10 : ((Rows.fnExactPlanOkRow.unfollowed == Try.prog.unfollowed 5)) = true := by kernel_rfl
theorem fnExactPlanOk_f11 : ((Rows.fnExactPlanOkRow.recurses == Try.prog.recurses 5)) = true := by kernel_rfl
theorem fnExactPlanOk_f12 : ((Rows.fnExactPlanOkRow.named == Try.prog.varsNamed 5)) = true := by kernel_rfl
theorem fnExactPlanOk_f13 : ((Rows.fnExactPlanOkRow.maps == (Try.f5.params.toList ++ Rows.fnExactPlanOkSpec.plain.varTypes Try.prog).any (Try.prog.mapsRec ·))) = true := by kernel_rfl
theorem fnExactPlanOk_f14 : ((Rows.fnExactPlanOkRow.ifaces == (Try.f5.params.toList ++ Rows.fnExactPlanOkSpec.plain.varTypes Try.prog).any (Try.prog.ifacesRec ·))) = true := by kernel_rfl
theorem fnExactPlanOk_f15 : ((Rows.fnExactPlanOkRow.mapsOut == Try.prog.mapsAmong Try.f5.resultTypes.toList)) = true := by kernel_rfl
theorem fnExactPlanOk_f16 : ((Rows.fnExactPlanOkRow.loops == (Try.f5.params.toList ++ Rows.fnExactPlanOkSpec.plain.varTypes Try.prog).any (Try.prog.loopsFrom ·))) = true := by kernel_rfl
theorem fnExactPlanOk_f17 : ((Rows.fnExactPlanOkRow.wideKeys == (Try.f5.params.toList ++ Rows.fnExactPlanOkSpec.plain.varTypes Try.prog ++ Try.f5.resultTypes.toList).any (Try.prog.wideKeysFrom ·))) = true := by kernel_rfl
theorem fnExactPlanOk_f18 : (Rows.fnExactPlanOkSpec.vars.all (Try.prog.varReadable ·)) = true := by kernel_rfl
theorem fnExactPlanOk_f19 : (Try.f5.resultTypes.all (fun t => Try.prog.readableRec t && decide (t < Try.prog.types.size))) = true := by kernel_rfl
theorem fnExactPlanOk_f20 : ((Rows.fnExactPlanOkRow.ifacesOut == Try.f5.resultTypes.toList.any (Try.prog.ifacesRec ·))) = true := by kernel_rfl
theorem fnExactPlanOk_f21 : ((Rows.fnExactPlanOkRow.loopsOut == Try.f5.resultTypes.toList.any (Try.prog.loopsFrom ·))) = true := by kernel_rfl
theorem fnExactPlanOk_f22 : ((Rows.fnExactPlanOkRow.plainKeys == Try.prog.plainKeys)) = true := by kernel_rfl
theorem fnExactPlanOk_f23 : (Rows.fnExactPlanOkRow.shortTexts.isNone) = true := by kernel_rfl
theorem fnExactPlanOk_f24 : (Try.prog.stopsHeard) = true := by kernel_rfl
theorem fnExactPlanOk_f25 : (Try.prog.mayEnter) = true := by kernel_rfl
theorem fnExactPlanOk_f26 : ((Rows.fnExactPlanOkRow.lifted == Try.prog.liftsFinal)) = true := by kernel_rfl
theorem fnExactPlanOk_f27 : ((Try.prog.make == some Rows.fnExactPlanOkRow.make)) = true := by kernel_rfl
theorem fnExactPlanOk_f28 : (kindsOk Try.prog Try.f5 Rows.fnExactPlanOkRow) = true := by kernel_rfl
theorem fnExactPlanOk_f29 : ((Rows.fnExactPlanOkRow.pinned == Rows.fnExactPlanOkRow.pinnedBy)) = true := by kernel_rfl
theorem fnExactPlanOk_f30 : ((Rows.fnExactPlanOkRow.veiled == (Try.f5.params.toList ++ Rows.fnExactPlanOkSpec.plain.varTypes Try.prog ++ Try.f5.resultTypes.toList).any (Try.prog.veiledRec ·))) = true := by kernel_rfl
theorem fnExactPlanOk_f31 : (Rows.fnExactPlanOkRow.veiledFits Try.prog Try.f5.params.toList (Try.f5.params.toList ++ Rows.fnExactPlanOkSpec.plain.varTypes Try.prog ++ Try.f5.resultTypes.toList)) = true := by kernel_rfl
theorem fnExactPlanOk_facts : joinedFacts Try.prog 5 Try.f5 Rows.fnExactPlanOkSpec Rows.fnExactPlanOkRow = true :=
  joined_of fnExactPlanOk_f0 fnExactPlanOk_f1 fnExactPlanOk_f2 fnExactPlanOk_f3 fnExactPlanOk_f4 fnExactPlanOk_f5 fnExactPlanOk_f6 fnExactPlanOk_f7 fnExactPlanOk_f8 fnExactPlanOk_f9 fnExactPlanOk_f10 fnExactPlanOk_f11 fnExactPlanOk_f12 fnExactPlanOk_f13 fnExactPlanOk_f14 fnExactPlanOk_f15 fnExactPlanOk_f16 fnExactPlanOk_f17 fnExactPlanOk_f18 fnExactPlanOk_f19 fnExactPlanOk_f20 fnExactPlanOk_f21 fnExactPlanOk_f22 fnExactPlanOk_f23 fnExactPlanOk_f24 fnExactPlanOk_f25 fnExactPlanOk_f26 fnExactPlanOk_f27 fnExactPlanOk_f28 fnExactPlanOk_f29 fnExactPlanOk_f30 fnExactPlanOk_f31
theorem fnExactPlanOk_inst : Try.f5.isInstance Try.prog Rows.fnExactPlanOkRow.origin Rows.fnExactPlanOkRow.targs := of_decide_eq_true (by kernel_rfl)
theorem fnExactPlanOk_wrap : Try.f5.isWrapper Try.prog Rows.fnExactPlanOkRow.wrapper Rows.fnExactPlanOkRow.mainSum := by
  unfold Func.isWrapper
  rw [if_neg (by decide +kernel)]
  exact ⟨rfl, rfl⟩
theorem fnExactPlanOk_holds : Rows.FnExactPlanOkSaid :=
  OpenClaim.holds_of_wide 5 Try.f5 rfl rfl rfl rfl rfl rfl rfl ⟨rfl, rfl, rfl, rfl, rfl⟩ rfl rfl rfl rfl rfl (by kernel_rfl) Try.func5 fnExactPlanOk_facts
    fnExactPlanOk_inst fnExactPlanOk_wrap
    (fun os started H enc _ => fnExactPlanOk_lifted os started H enc)
#print axioms fnExactPlanOk_holds
end Go.Proofs.Ytglpfccgmfhkdaa
