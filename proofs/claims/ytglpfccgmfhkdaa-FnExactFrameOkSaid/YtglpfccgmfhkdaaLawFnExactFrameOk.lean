/- FnExactFrameOk returns true for every plan and every frame: at every plan and frame that the law speaks of, impl.FrameOk answers as spec.FrameOk and changes none of its arguments. -/
import Derived.Test.YtglpfccgmfhkdaaRows
import Derived.Test.YtglpfccgmfhkdaaFwRow
import Derived.Test.YtglpfccgmfhkdaaWkL3
import Derived.WalkKit
import Derived.WalkSpells
import Derived.WalkLawsBesides
import Derived.ProofKit
import Derived.OpenShut
import Derived.Carry
import Derived.ChangeOld
import Derived.Below
import Derived.SizedLaws
namespace Go.Proofs.Ytglpfccgmfhkdaa
open Go.ChangeShapes Go.WideShapes Go.ChangeAt Go.RowKit Fw
set_option linter.unusedVariables false
theorem Try.ownFnExactFrameOk : ownKnob Try.prog.godebug = none := by kernel_rfl
theorem Try.laidOutFnExactFrameOk : laidOutB Try.prog = true := by kernel_rfl
set_option maxRecDepth 100000 in
theorem fnExactFrameOk_lifted (os : Os) (started : os.Started) (H : Type) (enc : TypeId × Value → H) :
    ReturnsInHanded {} Try.checked os 9 .any (Rows.fnExactFrameOkSpec.pre6 enc Try.prog Try.f9 Rows.fnExactFrameOkRow.domain false) (Rows.fnExactFrameOkSpec.post enc Try.prog Try.f9 false true false false) := by
  refine returnsInHanded_of_change_sized (C := Try.checked) Try.ownFnExactFrameOk started (by kernel_rfl) Try.func9
    (ChangeSpec.witness6 (enc := enc) (C := Try.checked) false ⟨#[], #[.agg #[.int .i64 0, .slice none 0 0, .slice none 0 0, .slice none 0 0, .int .i64 0], .agg #[.bool false, .slice none 0 0, .slice none 0 0, .slice none 0 0]], []⟩ 8 (by kernel_rfl) (by kernel_rfl) (by kernel_rfl) (by kernel_rfl)) ?_
  intro W base args ds gs before hval0 hW hcnd hsz0 _
  have hsz : (DataW.weightsEach Try.prog (Try.f9.params.toList ++ Rows.fnExactFrameOkSpec.plain.varTypes Try.prog) (ds ++ gs)).all (· ≤ reachBytes) = true := hsz0
  have hval : ∀ (j : Nat) t v, Try.f9.params[j]? = some t → args[j]? = some v → Value.okWide Try.prog W .any base t v := hval0
  have hW' := hW
  obtain ⟨p, q, hA0, hV, rfl, hfz, hnd⟩ := hW
  have hA : DataW.TrodAll enc Try.prog W 0 (fun _ => true) true Try.f9.params.toList args.toList ds p := hA0
  rw [Try.params9] at hA hval hsz
  obtain ⟨v0, vs0, d0, ds0, p0, q0, hargs, rfl, rfl, h0, r0⟩ := trodAll_cons hA
  obtain ⟨v1, vs1, d1, ds1, p1, q1, rfl, rfl, rfl, h1, r1⟩ := trodAll_cons r0
  obtain ⟨rfl, rfl, rfl⟩ := trodAll_nil r1
  obtain rfl : args = #[v0, v1] := by cases args; simp_all
  obtain ⟨rfl, rfl⟩ := trodVars_none hV
  have k0 := h0
  have lt0 : ∀ x ∈ p0, x.block < W.heap.size := by obtain ⟨m, hm⟩ := k0; exact DataW.trod_lt m _ _ _ hm
  obtain ⟨y0, e0⟩ := arg_struct (P := Try.prog) (W := W) (k := 5) (opens_Plan (t := 48) (a := 3) (b := 25) (c := 46) (d := 27) (e := 3) (by kernel_rfl) (opens_int (by kernel_rfl)) (opens_slice (t := 25) (e := 3) (enc := eInt) (by kernel_rfl) (Nat.le_of_ble_eq_true (by kernel_rfl)) (Nat.le_of_ble_eq_true (by kernel_rfl)) (fun _ => by kernel_rfl) (opens_int (by kernel_rfl))) (opens_slice (t := 46) (e := 140) (enc := (eWay false)) (by kernel_rfl) (Nat.le_of_ble_eq_true (by kernel_rfl)) (Nat.le_of_ble_eq_true (by kernel_rfl)) (fun _ => by kernel_rfl) (opens_Way (t := 140) (a := 25) (b := 138) (c := 138) (d := 25) (e := 25) (by kernel_rfl) (opens_slice (t := 25) (e := 3) (enc := eInt) (by kernel_rfl) (Nat.le_of_ble_eq_true (by kernel_rfl)) (Nat.le_of_ble_eq_true (by kernel_rfl)) (fun _ => by kernel_rfl) (opens_int (by kernel_rfl))) (opens_slice (t := 138) (e := 187) (enc := eLie) (by kernel_rfl) (Nat.le_of_ble_eq_true (by kernel_rfl)) (Nat.le_of_ble_eq_true (by kernel_rfl)) (fun _ => by kernel_rfl) (opens_Lie (t := 187) (a := 3) (b := 3) (by kernel_rfl) (opens_int (by kernel_rfl)) (opens_int (by kernel_rfl)))) (opens_slice (t := 138) (e := 187) (enc := eLie) (by kernel_rfl) (Nat.le_of_ble_eq_true (by kernel_rfl)) (Nat.le_of_ble_eq_true (by kernel_rfl)) (fun _ => by kernel_rfl) (opens_Lie (t := 187) (a := 3) (b := 3) (by kernel_rfl) (opens_int (by kernel_rfl)) (opens_int (by kernel_rfl)))) (opens_slice (t := 25) (e := 3) (enc := eInt) (by kernel_rfl) (Nat.le_of_ble_eq_true (by kernel_rfl)) (Nat.le_of_ble_eq_true (by kernel_rfl)) (fun _ => by kernel_rfl) (opens_int (by kernel_rfl))) (opens_slice (t := 25) (e := 3) (enc := eInt) (by kernel_rfl) (Nat.le_of_ble_eq_true (by kernel_rfl)) (Nat.le_of_ble_eq_true (by kernel_rfl)) (fun _ => by kernel_rfl) (opens_int (by kernel_rfl))))) (opens_slice (t := 27) (e := 36) (enc := (eL eBool false)) (by kernel_rfl) (Nat.le_of_ble_eq_true (by kernel_rfl)) (Nat.le_of_ble_eq_true (by kernel_rfl)) (fun _ => by kernel_rfl) (opens_slice (t := 36) (e := 4) (enc := eBool) (by kernel_rfl) (Nat.le_of_ble_eq_true (by kernel_rfl)) (Nat.le_of_ble_eq_true (by kernel_rfl)) (fun _ => by kernel_rfl) (opens_bool (by kernel_rfl)))) (opens_int (by kernel_rfl))) (by decide) (fun _ => rfl) k0 (fun n hn => by simpa using List.all_eq_true.1 hsz n (DataW.weights_mem_each (j := 0) rfl rfl n hn))
  have k1 := h1
  have lt1 : ∀ x ∈ p1, x.block < W.heap.size := by obtain ⟨m, hm⟩ := k1; exact DataW.trod_lt m _ _ _ hm
  obtain ⟨y1, e1⟩ := arg_struct (P := Try.prog) (W := W) (k := 4) (opens_Frame (t := 69) (a := 4) (b := 36) (c := 66) (d := 67) (by kernel_rfl) (opens_bool (by kernel_rfl)) (opens_slice (t := 36) (e := 4) (enc := eBool) (by kernel_rfl) (Nat.le_of_ble_eq_true (by kernel_rfl)) (Nat.le_of_ble_eq_true (by kernel_rfl)) (fun _ => by kernel_rfl) (opens_bool (by kernel_rfl))) (opens_slice (t := 66) (e := 157) (enc := ePoint) (by kernel_rfl) (Nat.le_of_ble_eq_true (by kernel_rfl)) (Nat.le_of_ble_eq_true (by kernel_rfl)) (fun _ => by kernel_rfl) (opens_Point (t := 157) (a := 3) (b := 3) (by kernel_rfl) (opens_int (by kernel_rfl)) (opens_int (by kernel_rfl)))) (opens_slice (t := 67) (e := 154) (enc := (eHeld false)) (by kernel_rfl) (Nat.le_of_ble_eq_true (by kernel_rfl)) (Nat.le_of_ble_eq_true (by kernel_rfl)) (fun _ => by kernel_rfl) (opens_Held (t := 154) (a := 3) (b := 3) (c := 36) (d := 4) (e := 3) (by kernel_rfl) (opens_int (by kernel_rfl)) (opens_int (by kernel_rfl)) (opens_slice (t := 36) (e := 4) (enc := eBool) (by kernel_rfl) (Nat.le_of_ble_eq_true (by kernel_rfl)) (Nat.le_of_ble_eq_true (by kernel_rfl)) (fun _ => by kernel_rfl) (opens_bool (by kernel_rfl))) (opens_bool (by kernel_rfl)) (opens_int (by kernel_rfl))))) (by decide) (fun _ => rfl) k1 (fun n hn => by simpa using List.all_eq_true.1 hsz n (DataW.weights_mem_each (j := 1) rfl rfl n hn))
  clear hA0 hval0 hsz0 hsz
  refine (law_calls (laws_FnExactFrameOk_V y0 y1) (PW.cons e0 (PW.cons e1 PW.nil))).mono fun e W' ⟨he, bel⟩ => ?_
  subst he
  exact ⟨_, rfl, _, _, _, [], _, [], hW', trodAll_mk1 (shut_bool (by kernel_rfl) _), (trodAll_cons_mk (Below.trod Try.laidOutFnExactFrameOk (by kernel_rfl) (of_decide_eq_true (by kernel_rfl)) k0 bel lt0) (trodAll_cons_mk (Below.trod Try.laidOutFnExactFrameOk (by kernel_rfl) (of_decide_eq_true (by kernel_rfl)) k1 bel lt1) trodAll_mk0)), rfl, bel.frame _, fun h => by cases h⟩
theorem fnExactFrameOk_f0 : (Rows.fnExactFrameOkRow.wf (OpenSpec.ofChange Rows.fnExactFrameOkSpec)) = true := by kernel_rfl
theorem fnExactFrameOk_f1 : (laidOutB Try.prog) = true := by kernel_rfl
theorem fnExactFrameOk_f2 : (mapsRowed Try.prog) = true := by kernel_rfl
theorem fnExactFrameOk_f3 : (Try.f9.params.all (Try.prog.readableRec ·)) = true := by kernel_rfl
theorem fnExactFrameOk_f4 : (namedTie Try.prog Rows.fnExactFrameOkRow.named Rows.fnExactFrameOkSpec.vars) = true := by kernel_rfl
theorem fnExactFrameOk_f5 : ((Rows.fnExactFrameOkRow.stops == [])) = true := by kernel_rfl
theorem fnExactFrameOk_f6 : ((Try.prog.stops == [])) = true := by kernel_rfl
theorem fnExactFrameOk_f7 : ((Rows.fnExactFrameOkRow.knobs == [])) = true := by kernel_rfl
theorem fnExactFrameOk_f8 : ((Try.prog.stopKnobs == [])) = true := by kernel_rfl
theorem fnExactFrameOk_f9 : ((Rows.fnExactFrameOkRow.inPlace == Try.prog.inPlace 9)) = true := by kernel_rfl
theorem fnExactFrameOk_f10 : ((Rows.fnExactFrameOkRow.unfollowed == Try.prog.unfollowed 9)) = true := by kernel_rfl
theorem fnExactFrameOk_f11 : ((Rows.fnExactFrameOkRow.recurses == Try.prog.recurses 9)) = true := by kernel_rfl
theorem fnExactFrameOk_f12 : ((Rows.fnExactFrameOkRow.named == Try.prog.varsNamed 9)) = true := by kernel_rfl
theorem fnExactFrameOk_f13 : ((Rows.fnExactFrameOkRow.maps == (Try.f9.params.toList ++ Rows.fnExactFrameOkSpec.plain.varTypes Try.prog).any (Try.prog.mapsRec ·))) = true := by kernel_rfl
theorem fnExactFrameOk_f14 : ((Rows.fnExactFrameOkRow.ifaces == (Try.f9.params.toList ++ Rows.fnExactFrameOkSpec.plain.varTypes Try.prog).any (Try.prog.ifacesRec ·))) = true := by kernel_rfl
theorem fnExactFrameOk_f15 : ((Rows.fnExactFrameOkRow.mapsOut == Try.prog.mapsAmong Try.f9.resultTypes.toList)) = true := by kernel_rfl
theorem fnExactFrameOk_f16 : ((Rows.fnExactFrameOkRow.loops == (Try.f9.params.toList ++ Rows.fnExactFrameOkSpec.plain.varTypes Try.prog).any (Try.prog.loopsFrom ·))) = true := by kernel_rfl
theorem fnExactFrameOk_f17 : ((Rows.fnExactFrameOkRow.wideKeys == (Try.f9.params.toList ++ Rows.fnExactFrameOkSpec.plain.varTypes Try.prog ++ Try.f9.resultTypes.toList).any (Try.prog.wideKeysFrom ·))) = true := by kernel_rfl
theorem fnExactFrameOk_f18 : (Rows.fnExactFrameOkSpec.vars.all (Try.prog.varReadable ·)) = true := by kernel_rfl
theorem fnExactFrameOk_f19 : (Try.f9.resultTypes.all (fun t => Try.prog.readableRec t && decide (t < Try.prog.types.size))) = true := by kernel_rfl
theorem fnExactFrameOk_f20 : ((Rows.fnExactFrameOkRow.ifacesOut == Try.f9.resultTypes.toList.any (Try.prog.ifacesRec ·))) = true := by kernel_rfl
theorem fnExactFrameOk_f21 : ((Rows.fnExactFrameOkRow.loopsOut == Try.f9.resultTypes.toList.any (Try.prog.loopsFrom ·))) = true := by kernel_rfl
theorem fnExactFrameOk_f22 : ((Rows.fnExactFrameOkRow.plainKeys == Try.prog.plainKeys)) = true := by kernel_rfl
theorem fnExactFrameOk_f23 : (Rows.fnExactFrameOkRow.shortTexts.isNone) = true := by kernel_rfl
theorem fnExactFrameOk_f24 : (Try.prog.stopsHeard) = true := by kernel_rfl
theorem fnExactFrameOk_f25 : (Try.prog.mayEnter) = true := by kernel_rfl
theorem fnExactFrameOk_f26 : ((Rows.fnExactFrameOkRow.lifted == Try.prog.liftsFinal)) = true := by kernel_rfl
theorem fnExactFrameOk_f27 : ((Try.prog.make == some Rows.fnExactFrameOkRow.make)) = true := by kernel_rfl
theorem fnExactFrameOk_f28 : (kindsOk Try.prog Try.f9 Rows.fnExactFrameOkRow) = true := by kernel_rfl
theorem fnExactFrameOk_f29 : ((Rows.fnExactFrameOkRow.pinned == Rows.fnExactFrameOkRow.pinnedBy)) = true := by kernel_rfl
theorem fnExactFrameOk_f30 : ((Rows.fnExactFrameOkRow.veiled == (Try.f9.params.toList ++ Rows.fnExactFrameOkSpec.plain.varTypes Try.prog ++ Try.f9.resultTypes.toList).any (Try.prog.veiledRec ·))) = true := by kernel_rfl
theorem fnExactFrameOk_f31 : (Rows.fnExactFrameOkRow.veiledFits Try.prog Try.f9.params.toList (Try.f9.params.toList ++ Rows.fnExactFrameOkSpec.plain.varTypes Try.prog ++ Try.f9.resultTypes.toList)) = true := by kernel_rfl
theorem fnExactFrameOk_facts : joinedFacts Try.prog 9 Try.f9 Rows.fnExactFrameOkSpec Rows.fnExactFrameOkRow = true :=
  joined_of fnExactFrameOk_f0 fnExactFrameOk_f1 fnExactFrameOk_f2 fnExactFrameOk_f3 fnExactFrameOk_f4 fnExactFrameOk_f5 fnExactFrameOk_f6 fnExactFrameOk_f7 fnExactFrameOk_f8 fnExactFrameOk_f9 fnExactFrameOk_f10 fnExactFrameOk_f11 fnExactFrameOk_f12 fnExactFrameOk_f13 fnExactFrameOk_f14 fnExactFrameOk_f15 fnExactFrameOk_f16 fnExactFrameOk_f17 fnExactFrameOk_f18 fnExactFrameOk_f19 fnExactFrameOk_f20 fnExactFrameOk_f21 fnExactFrameOk_f22 fnExactFrameOk_f23 fnExactFrameOk_f24 fnExactFrameOk_f25 fnExactFrameOk_f26 fnExactFrameOk_f27 fnExactFrameOk_f28 fnExactFrameOk_f29 fnExactFrameOk_f30 fnExactFrameOk_f31
theorem fnExactFrameOk_inst : Try.f9.isInstance Try.prog Rows.fnExactFrameOkRow.origin Rows.fnExactFrameOkRow.targs := of_decide_eq_true (by kernel_rfl)
theorem fnExactFrameOk_wrap : Try.f9.isWrapper Try.prog Rows.fnExactFrameOkRow.wrapper Rows.fnExactFrameOkRow.mainSum := by
  unfold Func.isWrapper
  rw [if_neg (by decide +kernel)]
  exact ⟨rfl, rfl⟩
theorem fnExactFrameOk_holds : Rows.FnExactFrameOkSaid :=
  OpenClaim.holds_of_wide 9 Try.f9 rfl rfl rfl rfl rfl rfl rfl ⟨rfl, rfl, rfl, rfl, rfl⟩ rfl rfl rfl rfl rfl (by kernel_rfl) Try.func9 fnExactFrameOk_facts
    fnExactFrameOk_inst fnExactFrameOk_wrap
    (fun os started H enc _ => fnExactFrameOk_lifted os started H enc)
#print axioms fnExactFrameOk_holds
end Go.Proofs.Ytglpfccgmfhkdaa
