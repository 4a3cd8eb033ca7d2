/- FnExactProved returns true for every plan, every frame and every way: impl.Proved answers as spec.Proved and changes none of its arguments. -/
import Derived.Test.YtglpfccgmfhkdaaRows
import Derived.Test.YtglpfccgmfhkdaaFwRow
import Derived.Test.YtglpfccgmfhkdaaWkL4
import Derived.WalkKit
import Derived.WalkSpells
import Derived.WalkLawsBesides
import Derived.ProofKit
import Derived.OpenShut
import Derived.Carry
import Derived.ChangeOld
import Derived.Below
import Derived.SizedLaws
namespace Go.Proofs.Ytglpfccgmfhkdaa
open Go.ChangeShapes Go.WideShapes Go.ChangeAt Go.RowKit Fw
set_option linter.unusedVariables false
theorem Try.ownFnExactProved : ownKnob Try.prog.godebug = none := by kernel_rfl
theorem Try.laidOutFnExactProved : laidOutB Try.prog = true := by kernel_rfl
set_option maxRecDepth 100000 in
theorem fnExactProved_lifted (os : Os) (started : os.Started) (H : Type) (enc : TypeId × Value → H) :
    ReturnsInHanded {} Try.checked os 10 .any (Rows.fnExactProvedSpec.pre6 enc Try.prog Try.f10 Rows.fnExactProvedRow.domain false) (Rows.fnExactProvedSpec.post enc Try.prog Try.f10 false true false false) := by
  refine returnsInHanded_of_change_sized (C := Try.checked) Try.ownFnExactProved started (by kernel_rfl) Try.func10
    (ChangeSpec.witness6 (enc := enc) (C := Try.checked) false ⟨#[], #[.agg #[.int .i64 0, .slice none 0 0, .slice none 0 0, .slice none 0 0, .int .i64 0], .agg #[.bool false, .slice none 0 0, .slice none 0 0, .slice none 0 0], .int .i64 0], []⟩ 8 (by kernel_rfl) (by kernel_rfl) (by kernel_rfl) (by kernel_rfl)) ?_
  intro W base args ds gs before hval0 hW hcnd hsz0 _
  have hsz : (DataW.weightsEach Try.prog (Try.f10.params.toList ++ Rows.fnExactProvedSpec.plain.varTypes Try.prog) (ds ++ gs)).all (· ≤ reachBytes) = true := hsz0
  have hval : ∀ (j : Nat) t v, Try.f10.params[j]? = some t → args[j]? = some v → Value.okWide Try.prog W .any base t v := hval0
  have hW' := hW
  obtain ⟨p, q, hA0, hV, rfl, hfz, hnd⟩ := hW
  have hA : DataW.TrodAll enc Try.prog W 0 (fun _ => true) true Try.f10.params.toList args.toList ds p := hA0
  rw [Try.params10] at hA hval hsz
  obtain ⟨v0, vs0, d0, ds0, p0, q0, hargs, rfl, rfl, h0, r0⟩ := trodAll_cons hA
  obtain ⟨v1, vs1, d1, ds1, p1, q1, rfl, rfl, rfl, h1, r1⟩ := trodAll_cons r0
  obtain ⟨v2, vs2, d2, ds2, p2, q2, rfl, rfl, rfl, h2, r2⟩ := trodAll_cons r1
  obtain ⟨rfl, rfl, rfl⟩ := trodAll_nil r2
  obtain rfl : args = #[v0, v1, v2] := by cases args; simp_all
  obtain ⟨rfl, rfl⟩ := trodVars_none hV
  have k0 := h0
  have lt0 : ∀ x ∈ p0, x.block < W.heap.size := by obtain ⟨m, hm⟩ := k0; exact DataW.trod_lt m _ _ _ hm
  obtain ⟨y0, e0⟩ := arg_struct (P := Try.prog) (W := W) (k := 5) (opens_Plan (t := 48) (a := 3) (b := 25) (c := 46) (d := 27) (e := 3) (by kernel_rfl) (opens_int (by kernel_rfl)) (opens_slice (t := 25) (e := 3) (enc := eInt) (by kernel_rfl) (Nat.le_of_ble_eq_true (by kernel_rfl)) (Nat.le_of_ble_eq_true (by kernel_rfl)) (fun _ => by kernel_rfl) (opens_int (by kernel_rfl))) (opens_slice (t := 46) (e := 140) (enc := (eWay false)) (by kernel_rfl) (Nat.le_of_ble_eq_true (by kernel_rfl)) (Nat.le_of_ble_eq_true (by kernel_rfl)) (fun _ => by kernel_rfl) (opens_Way (t := 140) (a := 25) (b := 138) (c := 138) (d := 25) (e := 25) (by kernel_rfl) (opens_slice (t := 25) (e := 3) (enc := eInt) (by kernel_rfl) (Nat.le_of_ble_eq_true (by kernel_rfl)) (Nat.le_of_ble_eq_true (by kernel_rfl)) (fun _ => by kernel_rfl) (opens_int (by kernel_rfl))) (opens_slice (t := 138) (e := 187) (enc := eLie) (by kernel_rfl) (Nat.le_of_ble_eq_true (by kernel_rfl)) (Nat.le_of_ble_eq_true (by kernel_rfl)) (fun _ => by kernel_rfl) (opens_Lie (t := 187) (a := 3) (b := 3) (by kernel_rfl) (opens_int (by kernel_rfl)) (opens_int (by kernel_rfl)))) (opens_slice (t := 138) (e := 187) (enc := eLie) (by kernel_rfl) (Nat.le_of_ble_eq_true (by kernel_rfl)) (Nat.le_of_ble_eq_true (by kernel_rfl)) (fun _ => by kernel_rfl) (opens_Lie (t := 187) (a := 3) (b := 3) (by kernel_rfl) (opens_int (by kernel_rfl)) (opens_int (by kernel_rfl)))) (opens_slice (t := 25) (e := 3) (enc := eInt) (by kernel_rfl) (Nat.le_of_ble_eq_true (by kernel_rfl)) (Nat.le_of_ble_eq_true (by kernel_rfl)) (fun _ => by kernel_rfl) (opens_int (by kernel_rfl))) (opens_slice (t := 25) (e := 3) (enc := eInt) (by kernel_rfl) (Nat.le_of_ble_eq_true (by kernel_rfl)) (Nat.le_of_ble_eq_true (by kernel_rfl)) (fun _ => by kernel_rfl) (opens_int (by kernel_rfl))))) (opens_slice (t := 27) (e := 36) (enc := (eL eBool false)) (by kernel_rfl) (Nat.le_of_ble_eq_true (by kernel_rfl)) (Nat.le_of_ble_eq_true (by kernel_rfl)) (fun _ => by kernel_rfl) (opens_slice (t := 36) (e := 4) (enc := eBool) (by kernel_rfl) (Nat.le_of_ble_eq_true (by kernel_rfl)) (Nat.le_of_ble_eq_true (by kernel_rfl)) (fun _ => by kernel_rfl) (opens_bool (by kernel_rfl)))) (opens_int (by kernel_rfl))) (by decide) (fun _ => rfl) k0 (fun n hn => by simpa using List.all_eq_true.1 hsz n (DataW.weights_mem_each (j := 0) rfl rfl n hn))
  have k1 := h1
  have lt1 : ∀ x ∈ p1, x.block < W.heap.size := by obtain ⟨m, hm⟩ := k1; exact DataW.trod_lt m _ _ _ hm
  obtain ⟨y1, e1⟩ := arg_struct (P := Try.prog) (W := W) (k := 4) (opens_Frame (t := 69) (a := 4) (b := 36) (c := 66) (d := 67) (by kernel_rfl) (opens_bool (by kernel_rfl)) (opens_slice (t := 36) (e := 4) (enc := eBool) (by kernel_rfl) (Nat.le_of_ble_eq_true (by kernel_rfl)) (Nat.le_of_ble_eq_true (by kernel_rfl)) (fun _ => by kernel_rfl) (opens_bool (by kernel_rfl))) (opens_slice (t := 66) (e := 157) (enc := ePoint) (by kernel_rfl) (Nat.le_of_ble_eq_true (by kernel_rfl)) (Nat.le_of_ble_eq_true (by kernel_rfl)) (fun _ => by kernel_rfl) (opens_Point (t := 157) (a := 3) (b := 3) (by kernel_rfl) (opens_int (by kernel_rfl)) (opens_int (by kernel_rfl)))) (opens_slice (t := 67) (e := 154) (enc := (eHeld false)) (by kernel_rfl) (Nat.le_of_ble_eq_true (by kernel_rfl)) (Nat.le_of_ble_eq_true (by kernel_rfl)) (fun _ => by kernel_rfl) (opens_Held (t := 154) (a := 3) (b := 3) (c := 36) (d := 4) (e := 3) (by kernel_rfl) (opens_int (by kernel_rfl)) (opens_int (by kernel_rfl)) (opens_slice (t := 36) (e := 4) (enc := eBool) (by kernel_rfl) (Nat.le_of_ble_eq_true (by kernel_rfl)) (Nat.le_of_ble_eq_true (by kernel_rfl)) (fun _ => by kernel_rfl) (opens_bool (by kernel_rfl))) (opens_bool (by kernel_rfl)) (opens_int (by kernel_rfl))))) (by decide) (fun _ => rfl) k1 (fun n hn => by simpa using List.all_eq_true.1 hsz n (DataW.weights_mem_each (j := 1) rfl rfl n hn))
  obtain ⟨y2, rfl, rfl, rfl, w2⟩ := open_int (P := Try.prog) (t := 3) (k := .i64) (by kernel_rfl) (hval 2 3 v2 rfl rfl) h2
  have e2 : V2 (Env.at W) (.int .i64 y2) (.int .i64 y2) := V2_of_V1 (RV.v1 (E := Env.at W) (.int _ _))
  clear hA0 hval0 hsz0 hsz
  refine (law_calls (laws_FnExactProved_V y0 y1 y2) (PW.cons e0 (PW.cons e1 (PW.cons e2 PW.nil)))).mono fun e W' ⟨he, bel⟩ => ?_
  subst he
  exact ⟨_, rfl, _, _, _, [], _, [], hW', trodAll_mk1 (shut_bool (by kernel_rfl) _), (trodAll_cons_mk (Below.trod Try.laidOutFnExactProved (by kernel_rfl) (of_decide_eq_true (by kernel_rfl)) k0 bel lt0) (trodAll_cons_mk (Below.trod Try.laidOutFnExactProved (by kernel_rfl) (of_decide_eq_true (by kernel_rfl)) k1 bel lt1) (trodAll_cons_mk (shut_int (by kernel_rfl) w2) trodAll_mk0))), rfl, bel.frame _, fun h => by cases h⟩
theorem fnExactProved_f0 : (Rows.fnExactProvedRow.wf (OpenSpec.ofChange Rows.fnExactProvedSpec)) = true := by kernel_rfl
theorem fnExactProved_f1 : (laidOutB Try.prog) = true := by kernel_rfl
theorem fnExactProved_f2 : (mapsRowed Try.prog) = true := by kernel_rfl
theorem fnExactProved_f3 : (Try.f10.params.all (Try.prog.readableRec ·)) = true := by kernel_rfl
theorem fnExactProved_f4 : (namedTie Try.prog Rows.fnExactProvedRow.named Rows.fnExactProvedSpec.vars) = true := by kernel_rfl
theorem fnExactProved_f5 : ((Rows.fnExactProvedRow.stops == [])) = true := by kernel_rfl
theorem fnExactProved_f6 : ((Try.prog.stops == [])) = true := by kernel_rfl
theorem fnExactProved_f7 : ((Rows.fnExactProvedRow.knobs == [])) = true := by kernel_rfl
theorem fnExactProved_f8 : ((Try.prog.stopKnobs == [])) = true := by kernel_rfl
theorem fnExactProved_f9 : ((Rows.fnExactProvedRow.inPlace == Try.prog.inPlace 10)) = true := by kernel_rfl
theorem fnExactProved_f10 : ((Rows.fnExactProvedRow.unfollowed == Try.prog.unfollowed 10)) = true := by kernel_rfl
theorem fnExactProved_f11 : ((Rows.fnExactProvedRow.recurses == Try.prog.recurses 10)) = true := by kernel_rfl
theorem fnExactProved_f12 : ((Rows.fnExactProvedRow.named == Try.prog.varsNamed 10)) = true := by kernel_rfl
theorem fnExactProved_f13 : ((Rows.fnExactProvedRow.maps == (Try.f10.params.toList ++ Rows.fnExactProvedSpec.plain.varTypes Try.prog).any (Try.prog.mapsRec ·))) = true := by kernel_rfl
theorem fnExactProved_f14 : ((Rows.fnExactProvedRow.ifaces == (Try.f10.params.toList ++ Rows.fnExactProvedSpec.plain.varTypes Try.prog).any (Try.prog.ifacesRec ·))) = true := by kernel_rfl
theorem fnExactProved_f15 : ((Rows.fnExactProvedRow.mapsOut == Try.prog.mapsAmong Try.f10.resultTypes.toList)) = true := by kernel_rfl
theorem fnExactProved_f16 : ((Rows.fnExactProvedRow.loops == (Try.f10.params.toList ++ Rows.fnExactProvedSpec.plain.varTypes Try.prog).any (Try.prog.loopsFrom ·))) = true := by kernel_rfl
theorem fnExactProved_f17 : ((Rows.fnExactProvedRow.wideKeys == (Try.f10.params.toList ++ Rows.fnExactProvedSpec.plain.varTypes Try.prog ++ Try.f10.resultTypes.toList).any (Try.prog.wideKeysFrom ·))) = true := by kernel_rfl
theorem fnExactProved_f18 : (Rows.fnExactProvedSpec.vars.all (Try.prog.varReadable ·)) = true := by kernel_rfl
theorem fnExactProved_f19 : (Try.f10.resultTypes.all (fun t => Try.prog.readableRec t && decide (t < Try.prog.types.size))) = true := by kernel_rfl
theorem fnExactProved_f20 : ((Rows.fnExactProvedRow.ifacesOut == Try.f10.resultTypes.toList.any (Try.prog.ifacesRec ·))) = true := by kernel_rfl
theorem fnExactProved_f21 : ((Rows.fnExactProvedRow.loopsOut == Try.f10.resultTypes.toList.any (Try.prog.loopsFrom ·))) = true := by kernel_rfl
theorem fnExactProved_f22 : ((Rows.fnExactProvedRow.plainKeys == Try.prog.plainKeys)) = true := by kernel_rfl
theorem fnExactProved_f23 : (Rows.fnExactProvedRow.shortTexts.isNone) = true := by kernel_rfl
theorem fnExactProved_f24 : (Try.prog.stopsHeard) = true := by kernel_rfl
theorem fnExactProved_f25 : (Try.prog.mayEnter) = true := by kernel_rfl
theorem fnExactProved_f26 : ((Rows.fnExactProvedRow.lifted == Try.prog.liftsFinal)) = true := by kernel_rfl
theorem fnExactProved_f27 : ((Try.prog.make == some Rows.fnExactProvedRow.make)) = true := by kernel_rfl
theorem fnExactProved_f28 : (kindsOk Try.prog Try.f10 Rows.fnExactProvedRow) = true := by kernel_rfl
theorem fnExactProved_f29 : ((Rows.fnExactProvedRow.pinned == Rows.fnExactProvedRow.pinnedBy)) = true := by kernel_rfl
theorem fnExactProved_f30 : ((Rows.fnExactProvedRow.veiled == (Try.f10.params.toList ++ Rows.fnExactProvedSpec.plain.varTypes Try.prog ++ Try.f10.resultTypes.toList).any (Try.prog.veiledRec ·))) = true := by kernel_rfl
theorem fnExactProved_f31 : (Rows.fnExactProvedRow.veiledFits Try.prog Try.f10.params.toList (Try.f10.params.toList ++ Rows.fnExactProvedSpec.plain.varTypes Try.prog ++ Try.f10.resultTypes.toList)) = true := by kernel_rfl
theorem fnExactProved_facts : joinedFacts Try.prog 10 Try.f10 Rows.fnExactProvedSpec Rows.fnExactProvedRow = true :=
  joined_of fnExactProved_f0 fnExactProved_f1 fnExactProved_f2 fnExactProved_f3 fnExactProved_f4 fnExactProved_f5 fnExactProved_f6 fnExactProved_f7 fnExactProved_f8 fnExactProved_f9 fnExactProved_f10 fnExactProved_f11 fnExactProved_f12 fnExactProved_f13 fnExactProved_f14 fnExactProved_f15 fnExactProved_f16 fnExactProved_f17 fnExactProved_f18 fnExactProved_f19 fnExactProved_f20 fnExactProved_f21 fnExactProved_f22 fnExactProved_f23 fnExactProved_f24 fnExactProved_f25 fnExactProved_f26 fnExactProved_f27 fnExactProved_f28 fnExactProved_f29 fnExactProved_f30 fnExactProved_f31
theorem fnExactProved_inst : Try.f10.isInstance Try.prog Rows.fnExactProvedRow.origin Rows.fnExactProvedRow.targs := of_decide_eq_true (by kernel_rfl)
theorem fnExactProved_wrap : Try.f10.isWrapper Try.prog Rows.fnExactProvedRow.wrapper Rows.fnExactProvedRow.mainSum := by
  unfold Func.isWrapper
  rw [if_neg (by decide +kernel)]
  exact ⟨rfl, rfl⟩
theorem fnExactProved_holds : Rows.FnExactProvedSaid :=
  OpenClaim.holds_of_wide 10 Try.f10 rfl rfl rfl rfl rfl rfl rfl ⟨rfl, rfl, rfl, rfl, rfl⟩ rfl rfl rfl rfl rfl (by kernel_rfl) Try.func10 fnExactProved_facts
    fnExactProved_inst fnExactProved_wrap
    (fun os started H enc _ => fnExactProved_lifted os started H enc)
#print axioms fnExactProved_holds
end Go.Proofs.Ytglpfccgmfhkdaa
