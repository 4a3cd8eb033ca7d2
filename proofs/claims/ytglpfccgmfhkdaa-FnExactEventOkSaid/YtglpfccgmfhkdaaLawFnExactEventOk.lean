/- The law FnExactEventOk answers true at every plan and every event, and the input reads as it did, with no condition. -/
import Derived.Test.YtglpfccgmfhkdaaRows
import Derived.Test.YtglpfccgmfhkdaaFwRow
import Derived.Test.YtglpfccgmfhkdaaWkL2
import Derived.WalkKit
import Derived.WalkSpells
import Derived.WalkLawsBesides
import Derived.ProofKit
import Derived.OpenShut
import Derived.Carry
import Derived.ChangeOld
import Derived.Below
import Derived.SizedLaws
namespace Go.Proofs.Ytglpfccgmfhkdaa
open Go.ChangeShapes Go.WideShapes Go.ChangeAt Go.RowKit Fw
set_option linter.unusedVariables false
theorem Try.ownFnExactEventOk : ownKnob Try.prog.godebug = none := by kernel_rfl
theorem Try.laidOutFnExactEventOk : laidOutB Try.prog = true := by kernel_rfl
set_option maxRecDepth 100000 in
theorem fnExactEventOk_lifted (os : Os) (started : os.Started) (H : Type) (enc : TypeId × Value → H) :
    ReturnsInHanded {} Try.checked os 6 .any (Rows.fnExactEventOkSpec.pre6 enc Try.prog Try.f6 Rows.fnExactEventOkRow.domain false) (Rows.fnExactEventOkSpec.post enc Try.prog Try.f6 false true false false) := by
  refine returnsInHanded_of_change_sized (C := Try.checked) Try.ownFnExactEventOk started (by kernel_rfl) Try.func6
    (ChangeSpec.witness6 (enc := enc) (C := Try.checked) false ⟨#[], #[.agg #[.int .i64 0, .slice none 0 0, .slice none 0 0, .slice none 0 0, .int .i64 0], .agg #[.int .i64 0, .int .i64 0, .int .i64 0]], []⟩ 8 (by kernel_rfl) (by kernel_rfl) (by kernel_rfl) (by kernel_rfl)) ?_
  intro W base args ds gs before hval0 hW hcnd hsz0 _
  have hsz : (DataW.weightsEach Try.prog (Try.f6.params.toList ++ Rows.fnExactEventOkSpec.plain.varTypes Try.prog) (ds ++ gs)).all (· ≤ reachBytes) = true := hsz0
  have hval : ∀ (j : Nat) t v, Try.f6.params[j]? = some t → args[j]? = some v → Value.okWide Try.prog W .any base t v := hval0
  have hW' := hW
  obtain ⟨p, q, hA0, hV, rfl, hfz, hnd⟩ := hW
  have hA : DataW.TrodAll enc Try.prog W 0 (fun _ => true) true Try.f6.params.toList args.toList ds p := hA0
  rw [Try.params6] at hA hval hsz
  obtain ⟨v0, vs0, d0, ds0, p0, q0, hargs, rfl, rfl, h0, r0⟩ := trodAll_cons hA
  obtain ⟨v1, vs1, d1, ds1, p1, q1, rfl, rfl, rfl, h1, r1⟩ := trodAll_cons r0
  obtain ⟨rfl, rfl, rfl⟩ := trodAll_nil r1
  obtain rfl : args = #[v0, v1] := by cases args; simp_all
  obtain ⟨rfl, rfl⟩ := trodVars_none hV
  have k0 := h0
  have lt0 : ∀ x ∈ p0, x.block < W.heap.size := by obtain ⟨m, hm⟩ := k0; exact DataW.trod_lt m _ _ _ hm
  obtain ⟨y0, e0⟩ := arg_struct (P := Try.prog) (W := W) (k := 5) (opens_Plan (t := 48) (a := 3) (b := 25) (c := 46) (d := 27) (e := 3) (by kernel_rfl) (opens_int (by kernel_rfl)) (opens_slice (t := 25) (e := 3) (enc := eInt) (by kernel_rfl) (Nat.le_of_ble_eq_true (by kernel_rfl)) (Nat.le_of_ble_eq_true (by kernel_rfl)) (fun _ => by kernel_rfl) (opens_int (by kernel_rfl))) (opens_slice (t := 46) (e := 140) (enc := (eWay false)) (by kernel_rfl) (Nat.le_of_ble_eq_true (by kernel_rfl)) (Nat.le_of_ble_eq_true (by kernel_rfl)) (fun _ => by kernel_rfl) (opens_Way (t := 140) (a := 25) (b := 138) (c := 138) (d := 25) (e := 25) (by kernel_rfl) (opens_slice (t := 25) (e := 3) (enc := eInt) (by kernel_rfl) (Nat.le_of_ble_eq_true (by kernel_rfl)) (Nat.le_of_ble_eq_true (by kernel_rfl)) (fun _ => by kernel_rfl) (opens_int (by kernel_rfl))) (opens_slice (t := 138) (e := 187) (enc := eLie) (by kernel_rfl) (Nat.le_of_ble_eq_true (by kernel_rfl)) (Nat.le_of_ble_eq_true (by kernel_rfl)) (fun _ => by kernel_rfl) (opens_Lie (t := 187) (a := 3) (b := 3) (by kernel_rfl) (opens_int (by kernel_rfl)) (opens_int (by kernel_rfl)))) (opens_slice (t := 138) (e := 187) (enc := eLie) (by kernel_rfl) (Nat.le_of_ble_eq_true (by kernel_rfl)) (Nat.le_of_ble_eq_true (by kernel_rfl)) (fun _ => by kernel_rfl) (opens_Lie (t := 187) (a := 3) (b := 3) (by kernel_rfl) (opens_int (by kernel_rfl)) (opens_int (by kernel_rfl)))) (opens_slice (t := 25) (e := 3) (enc := eInt) (by kernel_rfl) (Nat.le_of_ble_eq_true (by kernel_rfl)) (Nat.le_of_ble_eq_true (by kernel_rfl)) (fun _ => by kernel_rfl) (opens_int (by kernel_rfl))) (opens_slice (t := 25) (e := 3) (enc := eInt) (by kernel_rfl) (Nat.le_of_ble_eq_true (by kernel_rfl)) (Nat.le_of_ble_eq_true (by kernel_rfl)) (fun _ => by kernel_rfl) (opens_int (by kernel_rfl))))) (opens_slice (t := 27) (e := 36) (enc := (eL eBool false)) (by kernel_rfl) (Nat.le_of_ble_eq_true (by kernel_rfl)) (Nat.le_of_ble_eq_true (by kernel_rfl)) (fun _ => by kernel_rfl) (opens_slice (t := 36) (e := 4) (enc := eBool) (by kernel_rfl) (Nat.le_of_ble_eq_true (by kernel_rfl)) (Nat.le_of_ble_eq_true (by kernel_rfl)) (fun _ => by kernel_rfl) (opens_bool (by kernel_rfl)))) (opens_int (by kernel_rfl))) (by decide) (fun _ => rfl) k0 (fun n hn => by simpa using List.all_eq_true.1 hsz n (DataW.weights_mem_each (j := 0) rfl rfl n hn))
  have k1 := h1
  have lt1 : ∀ x ∈ p1, x.block < W.heap.size := by obtain ⟨m, hm⟩ := k1; exact DataW.trod_lt m _ _ _ hm
  obtain ⟨y1, e1⟩ := arg_struct (P := Try.prog) (W := W) (k := 3) (opens_Event (t := 57) (a := 3) (b := 3) (c := 3) (by kernel_rfl) (opens_int (by kernel_rfl)) (opens_int (by kernel_rfl)) (opens_int (by kernel_rfl))) (by decide) (fun _ => rfl) k1 (fun n hn => by simpa using List.all_eq_true.1 hsz n (DataW.weights_mem_each (j := 1) rfl rfl n hn))
  clear hA0 hval0 hsz0 hsz
  refine (law_calls (laws_FnExactEventOk_V y0 y1) (PW.cons e0 (PW.cons e1 PW.nil))).mono fun e W' ⟨he, bel⟩ => ?_
  subst he
  exact ⟨_, rfl, _, _, _, [], _, [], hW', trodAll_mk1 (shut_bool (by kernel_rfl) _), (trodAll_cons_mk (Below.trod Try.laidOutFnExactEventOk (by kernel_rfl) (of_decide_eq_true (by kernel_rfl)) k0 bel lt0) (trodAll_cons_mk (Below.trod Try.laidOutFnExactEventOk (by kernel_rfl) (of_decide_eq_true (by kernel_rfl)) k1 bel lt1) trodAll_mk0)), rfl, bel.frame _, fun h => by cases h⟩
theorem fnExactEventOk_f0 : (Rows.fnExactEventOkRow.wf (OpenSpec.ofChange Rows.fnExactEventOkSpec)) = true := by kernel_rfl
theorem fnExactEventOk_f1 : (laidOutB Try.prog) = true := by kernel_rfl
theorem fnExactEventOk_f2 : (mapsRowed Try.prog) = true := by kernel_rfl
theorem fnExactEventOk_f3 : (Try.f6.params.all (Try.prog.readableRec ·)) = true := by kernel_rfl
theorem fnExactEventOk_f4 : (namedTie Try.prog Rows.fnExactEventOkRow.named Rows.fnExactEventOkSpec.vars) = true := by kernel_rfl
theorem fnExactEventOk_f5 : ((Rows.fnExactEventOkRow.stops == [])) = true := by kernel_rfl
theorem fnExactEventOk_f6 : ((Try.prog.stops == [])) = true := by kernel_rfl
theorem fnExactEventOk_f7 : ((Rows.fnExactEventOkRow.knobs == [])) = true := by kernel_rfl
theorem fnExactEventOk_f8 : ((Try.prog.stopKnobs == [])) = true := by kernel_rfl
theorem fnExactEventOk_f9 : ((Rows.fnExactEventOkRow.inPlace == Try.prog.inPlace 6)) = true := by kernel_rfl
theorem fnExactEventOk_f10 : ((Rows.fnExactEventOkRow.unfollowed == Try.prog.unfollowed 6)) = true := by kernel_rfl
theorem fnExactEventOk_f11 : ((Rows.fnExactEventOkRow.recurses == Try.prog.recurses 6)) = true := by kernel_rfl
theorem fnExactEventOk_f12 : ((Rows.fnExactEventOkRow.named == Try.prog.varsNamed 6)) = true := by kernel_rfl
theorem fnExactEventOk_f13 : ((Rows.fnExactEventOkRow.maps == (Try.f6.params.toList ++ Rows.fnExactEventOkSpec.plain.varTypes Try.prog).any (Try.prog.mapsRec ·))) = true := by kernel_rfl
theorem fnExactEventOk_f14 : ((Rows.fnExactEventOkRow.ifaces == (Try.f6.params.toList ++ Rows.fnExactEventOkSpec.plain.varTypes Try.prog).any (Try.prog.ifacesRec ·))) = true := by kernel_rfl
theorem fnExactEventOk_f15 : ((Rows.fnExactEventOkRow.mapsOut == Try.prog.mapsAmong Try.f6.resultTypes.toList)) = true := by kernel_rfl
theorem fnExactEventOk_f16 : ((Rows.fnExactEventOkRow.loops == (Try.f6.params.toList ++ Rows.fnExactEventOkSpec.plain.varTypes Try.prog).any (Try.prog.loopsFrom ·))) = true := by kernel_rfl
theorem fnExactEventOk_f17 : ((Rows.fnExactEventOkRow.wideKeys == (Try.f6.params.toList ++ Rows.fnExactEventOkSpec.plain.varTypes Try.prog ++ Try.f6.resultTypes.toList).any (Try.prog.wideKeysFrom ·))) = true := by kernel_rfl
theorem fnExactEventOk_f18 : (Rows.fnExactEventOkSpec.vars.all (Try.prog.varReadable ·)) = true := by kernel_rfl
theorem fnExactEventOk_f19 : (Try.f6.resultTypes.all (fun t => Try.prog.readableRec t && decide (t < Try.prog.types.size))) = true := by kernel_rfl
theorem fnExactEventOk_f20 : ((Rows.fnExactEventOkRow.ifacesOut == Try.f6.resultTypes.toList.any (Try.prog.ifacesRec ·))) = true := by kernel_rfl
theorem fnExactEventOk_f21 : ((Rows.fnExactEventOkRow.loopsOut == Try.f6.resultTypes.toList.any (Try.prog.loopsFrom ·))) = true := by kernel_rfl
theorem fnExactEventOk_f22 : ((Rows.fnExactEventOkRow.plainKeys == Try.prog.plainKeys)) = true := by kernel_rfl
theorem fnExactEventOk_f23 : (Rows.fnExactEventOkRow.shortTexts.isNone) = true := by kernel_rfl
theorem fnExactEventOk_f24 : (Try.prog.stopsHeard) = true := by kernel_rfl
theorem fnExactEventOk_f25 : (Try.prog.mayEnter) = true := by kernel_rfl
theorem fnExactEventOk_f26 : ((Rows.fnExactEventOkRow.lifted == Try.prog.liftsFinal)) = true := by kernel_rfl
theorem fnExactEventOk_f27 : ((Try.prog.make == some Rows.fnExactEventOkRow.make)) = true := by kernel_rfl
theorem fnExactEventOk_f28 : (kindsOk Try.prog Try.f6 Rows.fnExactEventOkRow) = true := by kernel_rfl
theorem fnExactEventOk_f29 : ((Rows.fnExactEventOkRow.pinned == Rows.fnExactEventOkRow.pinnedBy)) = true := by kernel_rfl
theorem fnExactEventOk_f30 : ((Rows.fnExactEventOkRow.veiled == (Try.f6.params.toList ++ Rows.fnExactEventOkSpec.plain.varTypes Try.prog ++ Try.f6.resultTypes.toList).any (Try.prog.veiledRec ·))) = true := by kernel_rfl
theorem fnExactEventOk_f31 : (Rows.fnExactEventOkRow.veiledFits Try.prog Try.f6.params.toList (Try.f6.params.toList ++ Rows.fnExactEventOkSpec.plain.varTypes Try.prog ++ Try.f6.resultTypes.toList)) = true := by kernel_rfl
theorem fnExactEventOk_facts : joinedFacts Try.prog 6 Try.f6 Rows.fnExactEventOkSpec Rows.fnExactEventOkRow = true :=
  joined_of fnExactEventOk_f0 fnExactEventOk_f1 fnExactEventOk_f2 fnExactEventOk_f3 fnExactEventOk_f4 fnExactEventOk_f5 fnExactEventOk_f6 fnExactEventOk_f7 fnExactEventOk_f8 fnExactEventOk_f9 fnExactEventOk_f10 fnExactEventOk_f11 fnExactEventOk_f12 fnExactEventOk_f13 fnExactEventOk_f14 fnExactEventOk_f15 fnExactEventOk_f16 fnExactEventOk_f17 fnExactEventOk_f18 fnExactEventOk_f19 fnExactEventOk_f20 fnExactEventOk_f21 fnExactEventOk_f22 fnExactEventOk_f23 fnExactEventOk_f24 fnExactEventOk_f25 fnExactEventOk_f26 fnExactEventOk_f27 fnExactEventOk_f28 fnExactEventOk_f29 fnExactEventOk_f30 fnExactEventOk_f31
theorem fnExactEventOk_inst : Try.f6.isInstance Try.prog Rows.fnExactEventOkRow.origin Rows.fnExactEventOkRow.targs := of_decide_eq_true (by kernel_rfl)
theorem fnExactEventOk_wrap : Try.f6.isWrapper Try.prog Rows.fnExactEventOkRow.wrapper Rows.fnExactEventOkRow.mainSum := by
  unfold Func.isWrapper
  rw [if_neg (by decide +kernel)]
  exact ⟨rfl, rfl⟩
theorem fnExactEventOk_holds : Rows.FnExactEventOkSaid :=
  OpenClaim.holds_of_wide 6 Try.f6 rfl rfl rfl rfl rfl rfl rfl ⟨rfl, rfl, rfl, rfl, rfl⟩ rfl rfl rfl rfl rfl (by kernel_rfl) Try.func6 fnExactEventOk_facts
    fnExactEventOk_inst fnExactEventOk_wrap
    (fun os started H enc _ => fnExactEventOk_lifted os started H enc)
#print axioms fnExactEventOk_holds
end Go.Proofs.Ytglpfccgmfhkdaa
