/- At every argument WhyNot answers as the specification, writes into no argument and keeps nothing of one. -/
import Derived.Test.YtglpfccgmfhkdaaRows
import Derived.Test.YtglpfccgmfhkdaaM5
import Derived.WalkKit
import Derived.WalkSpells
import Derived.WalkLawsBesides
import Derived.ProofKit
import Derived.OpenShut
import Derived.Carry
import Derived.ChangeOld
import Derived.Below
import Derived.SizedLaws
namespace Go.Proofs.Ytglpfccgmfhkdaa
open Go.ChangeShapes Go.WideShapes Go.ChangeAt Go.RowKit Fw
set_option linter.unusedVariables false
theorem Try.ownFnExactWhyNot : ownKnob Try.prog.godebug = none := by kernel_rfl
theorem Try.laidOutFnExactWhyNot : laidOutB Try.prog = true := by kernel_rfl
set_option maxRecDepth 100000 in
theorem fnExactWhyNot_lifted (os : Os) (started : os.Started) (H : Type) (enc : TypeId × Value → H) :
    ReturnsInHanded {} Try.checked os 19 .any (Rows.fnExactWhyNotSpec.pre6 enc Try.prog Try.f19 Rows.fnExactWhyNotRow.domain false) (Rows.fnExactWhyNotSpec.post enc Try.prog Try.f19 false true false false) := by
  refine returnsInHanded_of_change_sized (C := Try.checked) Try.ownFnExactWhyNot started (by kernel_rfl) Try.func19
    (ChangeSpec.witness6 (enc := enc) (C := Try.checked) false ⟨#[], #[.agg #[.int .i64 0, .slice none 0 0, .slice none 0 0, .slice none 0 0, .int .i64 0], .agg #[.bool false, .slice none 0 0, .slice none 0 0, .slice none 0 0], .int .i64 0], []⟩ 8 (by kernel_rfl) (by kernel_rfl) (by kernel_rfl) (by kernel_rfl)) ?_
  intro W base args ds gs before hval0 hW hcnd hsz0 _
  have hsz : (DataW.weightsEach Try.prog (Try.f19.params.toList ++ Rows.fnExactWhyNotSpec.plain.varTypes Try.prog) (ds ++ gs)).all (· ≤ reachBytes) = true := hsz0
  have hval : ∀ (j : Nat) t v, Try.f19.params[j]? = some t → args[j]? = some v → Value.okWide Try.prog W .any base t v := hval0
  have hW' := hW
  obtain ⟨p, q, hA0, hV, rfl, hfz, hnd⟩ := hW
  have hA : DataW.TrodAll enc Try.prog W 0 (fun _ => true) true Try.f19.params.toList args.toList ds p := hA0
  rw [Try.params19] at hA hval hsz
  obtain ⟨v0, vs0, d0, ds0, p0, q0, hargs, rfl, rfl, h0, r0⟩ := trodAll_cons hA
  obtain ⟨v1, vs1, d1, ds1, p1, q1, rfl, rfl, rfl, h1, r1⟩ := trodAll_cons r0
  obtain ⟨v2, vs2, d2, ds2, p2, q2, rfl, rfl, rfl, h2, r2⟩ := trodAll_cons r1
  obtain ⟨rfl, rfl, rfl⟩ := trodAll_nil r2
  obtain rfl : args = #[v0, v1, v2] := by cases args; simp_all
  obtain ⟨rfl, rfl⟩ := trodVars_none hV
  have k0 := h0
  have lt0 : ∀ x ∈ p0, x.block < W.heap.size := by obtain ⟨m, hm⟩ := k0; exact DataW.trod_lt m _ _ _ hm
  obtain ⟨y0, e0⟩ := arg_struct (P := Try.prog) (W := W) (k := 5) (opens_Plan (t := 48) (a := 3) (b := 25) (c := 46) (d := 27) (e := 3) (by kernel_rfl) (opens_int (by kernel_rfl)) (opens_slice (t := 25) (e := 3) (enc := eInt) (by kernel_rfl) (Nat.le_of_ble_eq_true (by kernel_rfl)) (Nat.le_of_ble_eq_true (by kernel_rfl)) (fun _ => by kernel_rfl) (opens_int (by kernel_rfl))) (opens_slice (t := 46) (e := 140) (enc := (eWay false)) (by kernel_rfl) (Nat.le_of_ble_eq_true (by kernel_rfl)) (Nat.le_of_ble_eq_true (by kernel_rfl)) (fun _ => by kernel_rfl) (opens_Way (t := 140) (a := 25) (b := 138) (c := 138) (d := 25) (e := 25) (by kernel_rfl) (opens_slice (t := 25) (e := 3) (enc := eInt) (by kernel_rfl) (Nat.le_of_ble_eq_true (by kernel_rfl)) (Nat.le_of_ble_eq_true (by kernel_rfl)) (fun _ => by kernel_rfl) (opens_int (by kernel_rfl))) (opens_slice (t := 138) (e := 187) (enc := eLie) (by kernel_rfl) (Nat.le_of_ble_eq_true (by kernel_rfl)) (Nat.le_of_ble_eq_true (by kernel_rfl)) (fun _ => by kernel_rfl) (opens_Lie (t := 187) (a := 3) (b := 3) (by kernel_rfl) (opens_int (by kernel_rfl)) (opens_int (by kernel_rfl)))) (opens_slice (t := 138) (e := 187) (enc := eLie) (by kernel_rfl) (Nat.le_of_ble_eq_true (by kernel_rfl)) (Nat.le_of_ble_eq_true (by kernel_rfl)) (fun _ => by kernel_rfl) (opens_Lie (t := 187) (a := 3) (b := 3) (by kernel_rfl) (opens_int (by kernel_rfl)) (opens_int (by kernel_rfl)))) (opens_slice (t := 25) (e := 3) (enc := eInt) (by kernel_rfl) (Nat.le_of_ble_eq_true (by kernel_rfl)) (Nat.le_of_ble_eq_true (by kernel_rfl)) (fun _ => by kernel_rfl) (opens_int (by kernel_rfl))) (opens_slice (t := 25) (e := 3) (enc := eInt) (by kernel_rfl) (Nat.le_of_ble_eq_true (by kernel_rfl)) (Nat.le_of_ble_eq_true (by kernel_rfl)) (fun _ => by kernel_rfl) (opens_int (by kernel_rfl))))) (opens_slice (t := 27) (e := 36) (enc := (eL eBool false)) (by kernel_rfl) (Nat.le_of_ble_eq_true (by kernel_rfl)) (Nat.le_of_ble_eq_true (by kernel_rfl)) (fun _ => by kernel_rfl) (opens_slice (t := 36) (e := 4) (enc := eBool) (by kernel_rfl) (Nat.le_of_ble_eq_true (by kernel_rfl)) (Nat.le_of_ble_eq_true (by kernel_rfl)) (fun _ => by kernel_rfl) (opens_bool (by kernel_rfl)))) (opens_int (by kernel_rfl))) (by decide) (fun _ => rfl) k0 (fun n hn => by simpa using List.all_eq_true.1 hsz n (DataW.weights_mem_each (j := 0) rfl rfl n hn))
  have k1 := h1
  have lt1 : ∀ x ∈ p1, x.block < W.heap.size := by obtain ⟨m, hm⟩ := k1; exact DataW.trod_lt m _ _ _ hm
  obtain ⟨y1, e1⟩ := arg_struct (P := Try.prog) (W := W) (k := 4) (opens_Frame (t := 69) (a := 4) (b := 36) (c := 66) (d := 67) (by kernel_rfl) (opens_bool (by kernel_rfl)) (opens_slice (t := 36) (e := 4) (enc := eBool) (by kernel_rfl) (Nat.le_of_ble_eq_true (by kernel_rfl)) (Nat.le_of_ble_eq_true (by kernel_rfl)) (fun _ => by kernel_rfl) (opens_bool (by kernel_rfl))) (opens_slice (t := 66) (e := 157) (enc := ePoint) (by kernel_rfl) (Nat.le_of_ble_eq_true (by kernel_rfl)) (Nat.le_of_ble_eq_true (by kernel_rfl)) (fun _ => by kernel_rfl) (opens_Point (t := 157) (a := 3) (b := 3) (by kernel_rfl) (opens_int (by kernel_rfl)) (opens_int (by kernel_rfl)))) (opens_slice (t := 67) (e := 154) (enc := (eHeld false)) (by kernel_rfl) (Nat.le_of_ble_eq_true (by kernel_rfl)) (Nat.le_of_ble_eq_true (by kernel_rfl)) (fun _ => by kernel_rfl) (opens_Held (t := 154) (a := 3) (b := 3) (c := 36) (d := 4) (e := 3) (by kernel_rfl) (opens_int (by kernel_rfl)) (opens_int (by kernel_rfl)) (opens_slice (t := 36) (e := 4) (enc := eBool) (by kernel_rfl) (Nat.le_of_ble_eq_true (by kernel_rfl)) (Nat.le_of_ble_eq_true (by kernel_rfl)) (fun _ => by kernel_rfl) (opens_bool (by kernel_rfl))) (opens_bool (by kernel_rfl)) (opens_int (by kernel_rfl))))) (by decide) (fun _ => rfl) k1 (fun n hn => by simpa using List.all_eq_true.1 hsz n (DataW.weights_mem_each (j := 1) rfl rfl n hn))
  obtain ⟨y2, rfl, rfl, rfl, w2⟩ := open_int (P := Try.prog) (t := 3) (k := .i64) (by kernel_rfl) (hval 2 3 v2 rfl rfl) h2
  have e2 : V2 (Env.at W) (.int .i64 y2) (.int .i64 y2) := V2_of_V1 (RV.v1 (E := Env.at W) (.int _ _))
  clear hA0 hval0 hsz0 hsz
  refine (law_calls (laws_FnExactWhyNot_V y0 y1 y2) (PW.cons e0 (PW.cons e1 (PW.cons e2 PW.nil)))).mono fun e W' ⟨he, bel⟩ => ?_
  subst he
  exact ⟨_, rfl, _, _, _, [], _, [], hW', trodAll_mk1 (shut_bool (by kernel_rfl) _), (trodAll_cons_mk (Below.trod Try.laidOutFnExactWhyNot (by kernel_rfl) (of_decide_eq_true (by kernel_rfl)) k0 bel lt0) (trodAll_cons_mk (Below.trod Try.laidOutFnExactWhyNot (by kernel_rfl) (of_decide_eq_true (by kernel_rfl)) k1 bel lt1) (trodAll_cons_mk (shut_int (by kernel_rfl) w2) trodAll_mk0))), rfl, bel.frame _, fun h => by cases h⟩
theorem fnExactWhyNot_f0 : (Rows.fnExactWhyNotRow.wf (OpenSpec.ofChange Rows.fnExactWhyNotSpec)) = true := by kernel_rfl
theorem fnExactWhyNot_f1 : (laidOutB Try.prog) = true := by kernel_rfl
theorem fnExactWhyNot_f2 : (mapsRowed Try.prog) = true := by kernel_rfl
theorem fnExactWhyNot_f3 : (Try.f19.params.all (Try.prog.readableRec ·)) = true := by kernel_rfl
theorem fnExactWhyNot_f4 : (namedTie Try.prog Rows.fnExactWhyNotRow.named Rows.fnExactWhyNotSpec.vars) = true := by kernel_rfl
theorem fnExactWhyNot_f5 : ((Rows.fnExactWhyNotRow.stops == [])) = true := by kernel_rfl
theorem fnExactWhyNot_f6 : ((Try.prog.stops == [])) = true := by kernel_rfl
theorem fnExactWhyNot_f7 : ((Rows.fnExactWhyNotRow.knobs == [])) = true := by kernel_rfl
theorem fnExactWhyNot_f8 : ((Try.prog.stopKnobs == [])) = true := by kernel_rfl
theorem fnExactWhyNot_f9 : ((Rows.fnExactWhyNotRow.inPlace == Try.prog.inPlace 19)) = true := by kernel_rfl
theorem fnExactWhyNot_f10 : ((Rows.fnExactWhyNotRow.unfollowed == Try.prog.unfollowed 19)) = true := by kernel_rfl
theorem fnExactWhyNot_f11 : ((Rows.fnExactWhyNotRow.recurses == Try.prog.recurses 19)) = true := by kernel_rfl
theorem fnExactWhyNot_f12 : ((Rows.fnExactWhyNotRow.named == Try.prog.varsNamed 19)) = true := by kernel_rfl
theorem fnExactWhyNot_f13 : ((Rows.fnExactWhyNotRow.maps == (Try.f19.params.toList ++ Rows.fnExactWhyNotSpec.plain.varTypes Try.prog).any (Try.prog.mapsRec ·))) = true := by kernel_rfl
theorem fnExactWhyNot_f14 : ((Rows.fnExactWhyNotRow.ifaces == (Try.f19.params.toList ++ Rows.fnExactWhyNotSpec.plain.varTypes Try.prog).any (Try.prog.ifacesRec ·))) = true := by kernel_rfl
theorem fnExactWhyNot_f15 : ((Rows.fnExactWhyNotRow.mapsOut == Try.prog.mapsAmong Try.f19.resultTypes.toList)) = true := by kernel_rfl
theorem fnExactWhyNot_f16 : ((Rows.fnExactWhyNotRow.loops == (Try.f19.params.toList ++ Rows.fnExactWhyNotSpec.plain.varTypes Try.prog).any (Try.prog.loopsFrom ·))) = true := by kernel_rfl
theorem fnExactWhyNot_f17 : ((Rows.fnExactWhyNotRow.wideKeys == (Try.f19.params.toList ++ Rows.fnExactWhyNotSpec.plain.varTypes Try.prog ++ Try.f19.resultTypes.toList).any (Try.prog.wideKeysFrom ·))) = true := by kernel_rfl
theorem fnExactWhyNot_f18 : (Rows.fnExactWhyNotSpec.vars.all (Try.prog.varReadable ·)) = true := by kernel_rfl
theorem fnExactWhyNot_f19 : (Try.f19.resultTypes.all (fun t => Try.prog.readableRec t && decide (t < Try.prog.types.size))) = true := by kernel_rfl
theorem fnExactWhyNot_f20 : ((Rows.fnExactWhyNotRow.ifacesOut == Try.f19.resultTypes.toList.any (Try.prog.ifacesRec ·))) = true := by kernel_rfl
theorem fnExactWhyNot_f21 : ((Rows.fnExactWhyNotRow.loopsOut == Try.f19.resultTypes.toList.any (Try.prog.loopsFrom ·))) = true := by kernel_rfl
theorem fnExactWhyNot_f22 : ((Rows.fnExactWhyNotRow.plainKeys == Try.prog.plainKeys)) = true := by kernel_rfl
theorem fnExactWhyNot_f23 : (Rows.fnExactWhyNotRow.shortTexts.isNone) = true := by kernel_rfl
theorem fnExactWhyNot_f24 : (Try.prog.stopsHeard) = true := by kernel_rfl
theorem fnExactWhyNot_f25 : (Try.prog.mayEnter) = true := by kernel_rfl
theorem fnExactWhyNot_f26 : ((Rows.fnExactWhyNotRow.lifted == Try.prog.liftsFinal)) = true := by kernel_rfl
theorem fnExactWhyNot_f27 : ((Try.prog.make == some Rows.fnExactWhyNotRow.make)) = true := by kernel_rfl
theorem fnExactWhyNot_f28 : (kindsOk Try.prog Try.f19 Rows.fnExactWhyNotRow) = true := by kernel_rfl
theorem fnExactWhyNot_f29 : ((Rows.fnExactWhyNotRow.pinned == Rows.fnExactWhyNotRow.pinnedBy)) = true := by kernel_rfl
theorem fnExactWhyNot_f30 : ((Rows.fnExactWhyNotRow.veiled == (Try.f19.params.toList ++ Rows.fnExactWhyNotSpec.plain.varTypes Try.prog ++ Try.f19.resultTypes.toList).any (Try.prog.veiledRec ·))) = true := by kernel_rfl
theorem fnExactWhyNot_f31 : (Rows.fnExactWhyNotRow.veiledFits Try.prog Try.f19.params.toList (Try.f19.params.toList ++ Rows.fnExactWhyNotSpec.plain.varTypes Try.prog ++ Try.f19.resultTypes.toList)) = true := by kernel_rfl
theorem fnExactWhyNot_facts : joinedFacts Try.prog 19 Try.f19 Rows.fnExactWhyNotSpec Rows.fnExactWhyNotRow = true :=
  joined_of fnExactWhyNot_f0 fnExactWhyNot_f1 fnExactWhyNot_f2 fnExactWhyNot_f3 fnExactWhyNot_f4 fnExactWhyNot_f5 fnExactWhyNot_f6 fnExactWhyNot_f7 fnExactWhyNot_f8 fnExactWhyNot_f9 fnExactWhyNot_f10 fnExactWhyNot_f11 fnExactWhyNot_f12 fnExactWhyNot_f13 fnExactWhyNot_f14 fnExactWhyNot_f15 fnExactWhyNot_f16 fnExactWhyNot_f17 fnExactWhyNot_f18 fnExactWhyNot_f19 fnExactWhyNot_f20 fnExactWhyNot_f21 fnExactWhyNot_f22 fnExactWhyNot_f23 fnExactWhyNot_f24 fnExactWhyNot_f25 fnExactWhyNot_f26 fnExactWhyNot_f27 fnExactWhyNot_f28 fnExactWhyNot_f29 fnExactWhyNot_f30 fnExactWhyNot_f31
theorem fnExactWhyNot_inst : Try.f19.isInstance Try.prog Rows.fnExactWhyNotRow.origin Rows.fnExactWhyNotRow.targs := of_decide_eq_true (by kernel_rfl)
theorem fnExactWhyNot_wrap : Try.f19.isWrapper Try.prog Rows.fnExactWhyNotRow.wrapper Rows.fnExactWhyNotRow.mainSum := by
  unfold Func.isWrapper
  rw [if_neg (by decide +kernel)]
  exact ⟨rfl, rfl⟩
theorem fnExactWhyNot_holds : Rows.FnExactWhyNotSaid :=
  OpenClaim.holds_of_wide 19 Try.f19 rfl rfl rfl rfl rfl rfl rfl ⟨rfl, rfl, rfl, rfl, rfl⟩ rfl rfl rfl rfl rfl (by kernel_rfl) Try.func19 fnExactWhyNot_facts
    fnExactWhyNot_inst fnExactWhyNot_wrap
    (fun os started H enc _ => fnExactWhyNot_lifted os started H enc)
#print axioms fnExactWhyNot_holds
end Go.Proofs.Ytglpfccgmfhkdaa
