/- A way whose signal is clear is taken back with somebody near: it is held for its ticks and idle with the last, unless a train comes in; with nobody near it is idle at once (for all byte strings). -/
import Derived.Test.YtglpfccgmfhkdaaRows
import Derived.Test.YtglpfccgmfhkdaaFwRow
import Derived.Test.YtglpfccgmfhkdaaWkL7
import Derived.WalkKit
import Derived.WalkSpells
import Derived.WalkLawsBesides
import Derived.ProofKit
import Derived.OpenShut
import Derived.Carry
import Derived.ChangeOld
import Derived.Below
import Derived.SizedLaws
namespace Go.Proofs.Ytglpfccgmfhkdaa
open Go.ChangeShapes Go.WideShapes Go.ChangeAt Go.RowKit Fw
set_option linter.unusedVariables false
theorem Try.ownFnBack : ownKnob Try.prog.godebug = none := by kernel_rfl
theorem Try.laidOutFnBack : laidOutB Try.prog = true := by kernel_rfl
set_option maxRecDepth 100000 in
theorem fnBack_lifted (os : Os) (started : os.Started) (H : Type) (enc : TypeId × Value → H) :
    ReturnsInHanded {} Try.checked os 4 .any (Rows.fnBackSpec.pre6 enc Try.prog Try.f4 Rows.fnBackRow.domain false) (Rows.fnBackSpec.post enc Try.prog Try.f4 false true false false) := by
  refine returnsInHanded_of_change_sized (C := Try.checked) Try.ownFnBack started (by kernel_rfl) Try.func4
    (ChangeSpec.witness6 (enc := enc) (C := Try.checked) false ⟨#[], #[.slice none 0 0], []⟩ 8 (by kernel_rfl) (by kernel_rfl) (by kernel_rfl) (by kernel_rfl)) ?_
  intro W base args ds gs before hval0 hW hcnd hsz0 _
  have hsz : (DataW.weightsEach Try.prog (Try.f4.params.toList ++ Rows.fnBackSpec.plain.varTypes Try.prog) (ds ++ gs)).all (· ≤ reachBytes) = true := hsz0
  have hval : ∀ (j : Nat) t v, Try.f4.params[j]? = some t → args[j]? = some v → Value.okWide Try.prog W .any base t v := hval0
  have hW' := hW
  obtain ⟨p, q, hA0, hV, rfl, hfz, hnd⟩ := hW
  have hA : DataW.TrodAll enc Try.prog W 0 (fun _ => true) true Try.f4.params.toList args.toList ds p := hA0
  rw [Try.params4] at hA hval hsz
  obtain ⟨v0, vs0, d0, ds0, p0, q0, hargs, rfl, rfl, h0, r0⟩ := trodAll_cons hA
  obtain ⟨rfl, rfl, rfl⟩ := trodAll_nil r0
  obtain rfl : args = #[v0] := by cases args; simp_all
  obtain ⟨rfl, rfl⟩ := trodVars_none hV
  obtain ⟨a0, len0, cap0, rfl⟩ := okWide_slice (t := 23) (e := 5) (by kernel_rfl) (hval 0 23 v0 rfl rfl)
  have k0 := h0
  have lt0 : ∀ x ∈ p0, x.block < W.heap.size := by obtain ⟨m, hm⟩ := k0; exact DataW.trod_lt m _ _ _ hm
  obtain ⟨y0, e0⟩ := arg_one (P := Try.prog) (W := W) (f := fun xs => .lst (List.map eU8 xs) false false) (opens_slice (t := 23) (e := 5) (enc := eU8) (by kernel_rfl) (Nat.le_of_ble_eq_true (by kernel_rfl)) (Nat.le_of_ble_eq_true (by kernel_rfl)) (fun _ => by kernel_rfl) (opens_u8 (by kernel_rfl))) (fun _ => rfl) k0 (fun n hn => by simpa using List.all_eq_true.1 hsz n (DataW.weights_mem_each (j := 0) rfl rfl n hn)) rfl
  clear hA0 hval0 hsz0 hsz
  refine (law_calls (laws_FnBack_V y0) (PW.cons e0 PW.nil)).mono fun e W' ⟨he, bel⟩ => ?_
  subst he
  exact ⟨_, rfl, _, _, _, [], _, [], hW', trodAll_mk1 (shut_bool (by kernel_rfl) _), (trodAll_cons_mk (Below.trod Try.laidOutFnBack (by kernel_rfl) (of_decide_eq_true (by kernel_rfl)) k0 bel lt0) trodAll_mk0), rfl, bel.frame _, fun h => by cases h⟩
theorem fnBack_f0 : (Rows.fnBackRow.wf (OpenSpec.ofChange Rows.fnBackSpec)) = true := by kernel_rfl
theorem fnBack_f1 : (laidOutB Try.prog) = true := by kernel_rfl
theorem fnBack_f2 : (mapsRowed Try.prog) = true := by kernel_rfl
theorem fnBack_f3 : (Try.f4.params.all (Try.prog.readableRec ·)) = true := by kernel_rfl
theorem fnBack_f4 : (namedTie Try.prog Rows.fnBackRow.named Rows.fnBackSpec.vars) = true := by kernel_rfl
theorem fnBack_f5 : ((Rows.fnBackRow.stops == [])) = true := by kernel_rfl
theorem fnBack_f6 : ((Try.prog.stops == [])) = true := by kernel_rfl
theorem fnBack_f7 : ((Rows.fnBackRow.knobs == [])) = true := by kernel_rfl
theorem fnBack_f8 : ((Try.prog.stopKnobs == [])) = true := by kernel_rfl
theorem fnBack_f9 : ((Rows.fnBackRow.inPlace == Try.prog.inPlace 4)) = true := by kernel_rfl
theorem fnBack_f10 : ((Rows.fnBackRow.unfollowed == Try.prog.unfollowed 4)) = true := by kernel_rfl
theorem fnBack_f11 : ((Rows.fnBackRow.recurses == Try.prog.recurses 4)) = true := by kernel_rfl
theorem fnBack_f12 : ((Rows.fnBackRow.named == Try.prog.varsNamed 4)) = true := by kernel_rfl
theorem fnBack_f13 : ((Rows.fnBackRow.maps == (Try.f4.params.toList ++ Rows.fnBackSpec.plain.varTypes Try.prog).any (Try.prog.mapsRec ·))) = true := by kernel_rfl
theorem fnBack_f14 : ((Rows.fnBackRow.ifaces == (Try.f4.params.toList ++ Rows.fnBackSpec.plain.varTypes Try.prog).any (Try.prog.ifacesRec ·))) = true := by kernel_rfl
theorem fnBack_f15 : ((Rows.fnBackRow.mapsOut == Try.prog.mapsAmong Try.f4.resultTypes.toList)) = true := by kernel_rfl
theorem fnBack_f16 : ((Rows.fnBackRow.loops == (Try.f4.params.toList ++ Rows.fnBackSpec.plain.varTypes Try.prog).any (Try.prog.loopsFrom ·))) = true := by kernel_rfl
theorem fnBack_f17 : ((Rows.fnBackRow.wideKeys == (Try.f4.params.toList ++ Rows.fnBackSpec.plain.varTypes Try.prog ++ Try.f4.resultTypes.toList).any (Try.prog.wideKeysFrom ·))) = true := by kernel_rfl
theorem fnBack_f18 : (Rows.fnBackSpec.vars.all (Try.prog.varReadable ·)) = true := by kernel_rfl
theorem fnBack_f19 : (Try.f4.resultTypes.all (fun t => Try.prog.readableRec t && decide (t < Try.prog.types.size))) = true := by kernel_rfl
theorem fnBack_f20 : ((Rows.fnBackRow.ifacesOut == Try.f4.resultTypes.toList.any (Try.prog.ifacesRec ·))) = true := by kernel_rfl
theorem fnBack_f21 : ((Rows.fnBackRow.loopsOut == Try.f4.resultTypes.toList.any (Try.prog.loopsFrom ·))) = true := by kernel_rfl
theorem fnBack_f22 : ((Rows.fnBackRow.plainKeys == Try.prog.plainKeys)) = true := by kernel_rfl
theorem fnBack_f23 : (Rows.fnBackRow.shortTexts.isNone) = true := by kernel_rfl
theorem fnBack_f24 : (Try.prog.stopsHeard) = true := by kernel_rfl
theorem fnBack_f25 : (Try.prog.mayEnter) = true := by kernel_rfl
theorem fnBack_f26 : ((Rows.fnBackRow.lifted == Try.prog.liftsFinal)) = true := by kernel_rfl
theorem fnBack_f27 : ((Try.prog.make == some Rows.fnBackRow.make)) = true := by kernel_rfl
theorem fnBack_f28 : (kindsOk Try.prog Try.f4 Rows.fnBackRow) = true := by kernel_rfl
theorem fnBack_f29 : ((Rows.fnBackRow.pinned == Rows.fnBackRow.pinnedBy)) = true := by kernel_rfl
theorem fnBack_f30 : ((Rows.fnBackRow.veiled == (Try.f4.params.toList ++ Rows.fnBackSpec.plain.varTypes Try.prog ++ Try.f4.resultTypes.toList).any (Try.prog.veiledRec ·))) = true := by kernel_rfl
theorem fnBack_f31 : (Rows.fnBackRow.veiledFits Try.prog Try.f4.params.toList (Try.f4.params.toList ++ Rows.fnBackSpec.plain.varTypes Try.prog ++ Try.f4.resultTypes.toList)) = true := by kernel_rfl
theorem fnBack_facts : joinedFacts Try.prog 4 Try.f4 Rows.fnBackSpec Rows.fnBackRow = true :=
  joined_of fnBack_f0 fnBack_f1 fnBack_f2 fnBack_f3 fnBack_f4 fnBack_f5 fnBack_f6 fnBack_f7 fnBack_f8 fnBack_f9 fnBack_f10 fnBack_f11 fnBack_f12 fnBack_f13 fnBack_f14 fnBack_f15 fnBack_f16 fnBack_f17 fnBack_f18 fnBack_f19 fnBack_f20 fnBack_f21 fnBack_f22 fnBack_f23 fnBack_f24 fnBack_f25 fnBack_f26 fnBack_f27 fnBack_f28 fnBack_f29 fnBack_f30 fnBack_f31
theorem fnBack_inst : Try.f4.isInstance Try.prog Rows.fnBackRow.origin Rows.fnBackRow.targs := of_decide_eq_true (by kernel_rfl)
theorem fnBack_wrap : Try.f4.isWrapper Try.prog Rows.fnBackRow.wrapper Rows.fnBackRow.mainSum := by
  unfold Func.isWrapper
  rw [if_neg (by decide +kernel)]
  exact ⟨rfl, rfl⟩
theorem fnBack_holds : Rows.FnBackSaid :=
  OpenClaim.holds_of_wide 4 Try.f4 rfl rfl rfl rfl rfl rfl rfl ⟨rfl, rfl, rfl, rfl, rfl⟩ rfl rfl rfl rfl rfl (by kernel_rfl) Try.func4 fnBack_facts
    fnBack_inst fnBack_wrap
    (fun os started H enc _ => fnBack_lifted os started H enc)
#print axioms fnBack_holds
end Go.Proofs.Ytglpfccgmfhkdaa
