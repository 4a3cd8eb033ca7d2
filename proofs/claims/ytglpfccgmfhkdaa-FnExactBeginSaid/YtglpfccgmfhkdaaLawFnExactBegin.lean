/- FnExactBegin holds of every plan: Begin returns what the reference returns, writes into no argument, and its answer is its own, behind another call too. -/
import Derived.Test.YtglpfccgmfhkdaaRows
import Derived.Test.YtglpfccgmfhkdaaM5
import Derived.WalkKit
import Derived.WalkSpells
import Derived.WalkLawsBesides
import Derived.ProofKit
import Derived.OpenShut
import Derived.Carry
import Derived.ChangeOld
import Derived.Below
import Derived.SizedLaws
namespace Go.Proofs.Ytglpfccgmfhkdaa
open Go.ChangeShapes Go.WideShapes Go.ChangeAt Go.RowKit Fw
set_option linter.unusedVariables false
theorem Try.Qi:ownKnob Try.prog.godebug=none:=by kernel_rfl
theorem Try.N8:laidOutB Try.prog=true:=by kernel_rfl
set_option maxRecDepth 100000 in
theorem Lc (os:Os) (started:os.Started) (H:Type) (enc:TypeId×Value→H):
    ReturnsInHanded {} Try.checked os 7 .any (Rows.fnExactBeginSpec.pre6 enc Try.prog Try.f7 Rows.fnExactBeginRow.domain false) (Rows.fnExactBeginSpec.post enc Try.prog Try.f7 false true false false):=by
  refine returnsInHanded_of_change_sized (C:=Try.checked) Try.Qi started (by kernel_rfl) Try.func7
    (ChangeSpec.witness6 (enc:=enc) (C:=Try.checked) false ⟨#[],#[.agg #[.int .i64 0,.slice none 0 0,.slice none 0 0,.slice none 0 0,.int .i64 0]],[]⟩ 8 (by kernel_rfl) (by kernel_rfl) (by kernel_rfl) (by kernel_rfl)) ?_
  intro W base args fS gs before DC C2 SO rM _
  have bz:(DataW.weightsEach Try.prog (Try.f7.params.toList++Rows.fnExactBeginSpec.plain.varTypes Try.prog) (fS++gs)).all (· ≤reachBytes)=true:=rM
  have M6: ∀(j:Nat) t v,Try.f7.params[j]?=some t→args[j]?=some v→Value.okWide Try.prog W .any base t v:=DC
  have L0:=C2
  obtain⟨p,q,CS,jq,rfl,SR,hD⟩:=C2
  have bG:DataW.TrodAll enc Try.prog W 0 (fun _=>true) true Try.f7.params.toList args.toList fS p:=CS
  rw[Try.params7] at bG M6 bz
  obtain⟨v0,S8,d0,SH,Qq,bJ,SL,rfl,rfl,aA,ff⟩:=trodAll_cons bG
  obtain⟨rfl,rfl,rfl⟩:=trodAll_nil ff
  obtain rfl:args= #[v0]:=by cases args;simp_all
  obtain⟨rfl,rfl⟩:=trodVars_none jq
  have cs:=aA
  have PM: ∀x∈Qq,x.block<W.heap.size:=by obtain⟨m,hm⟩:=cs;exact DataW.trod_lt m _ _ _ hm
  obtain⟨l4,iB⟩:=IG (P:=Try.prog) (W:=W) (k:=5) (Qd (t:=48) (a:=3) (b:=25) (c:=46) (d:=27) (e:=3) (by kernel_rfl) (lX (by kernel_rfl)) (mI (t:=25) (e:=3) (enc:=c1) (by kernel_rfl) (Nat.le_of_ble_eq_true (by kernel_rfl)) (Nat.le_of_ble_eq_true (by kernel_rfl)) (fun _=>by kernel_rfl) (lX (by kernel_rfl))) (mI (t:=46) (e:=140) (enc:=(cE false)) (by kernel_rfl) (Nat.le_of_ble_eq_true (by kernel_rfl)) (Nat.le_of_ble_eq_true (by kernel_rfl)) (fun _=>by kernel_rfl) (Qe (t:=140) (a:=25) (b:=138) (c:=138) (d:=25) (e:=25) (by kernel_rfl) (mI (t:=25) (e:=3) (enc:=c1) (by kernel_rfl) (Nat.le_of_ble_eq_true (by kernel_rfl)) (Nat.le_of_ble_eq_true (by kernel_rfl)) (fun _=>by kernel_rfl) (lX (by kernel_rfl))) (mI (t:=138) (e:=187) (enc:=cK) (by kernel_rfl) (Nat.le_of_ble_eq_true (by kernel_rfl)) (Nat.le_of_ble_eq_true (by kernel_rfl)) (fun _=>by kernel_rfl) (FR (t:=187) (a:=3) (b:=3) (by kernel_rfl) (lX (by kernel_rfl)) (lX (by kernel_rfl)))) (mI (t:=138) (e:=187) (enc:=cK) (by kernel_rfl) (Nat.le_of_ble_eq_true (by kernel_rfl)) (Nat.le_of_ble_eq_true (by kernel_rfl)) (fun _=>by kernel_rfl) (FR (t:=187) (a:=3) (b:=3) (by kernel_rfl) (lX (by kernel_rfl)) (lX (by kernel_rfl)))) (mI (t:=25) (e:=3) (enc:=c1) (by kernel_rfl) (Nat.le_of_ble_eq_true (by kernel_rfl)) (Nat.le_of_ble_eq_true (by kernel_rfl)) (fun _=>by kernel_rfl) (lX (by kernel_rfl))) (mI (t:=25) (e:=3) (enc:=c1) (by kernel_rfl) (Nat.le_of_ble_eq_true (by kernel_rfl)) (Nat.le_of_ble_eq_true (by kernel_rfl)) (fun _=>by kernel_rfl) (lX (by kernel_rfl))))) (mI (t:=27) (e:=36) (enc:=(eV bm false)) (by kernel_rfl) (Nat.le_of_ble_eq_true (by kernel_rfl)) (Nat.le_of_ble_eq_true (by kernel_rfl)) (fun _=>by kernel_rfl) (mI (t:=36) (e:=4) (enc:=bm) (by kernel_rfl) (Nat.le_of_ble_eq_true (by kernel_rfl)) (Nat.le_of_ble_eq_true (by kernel_rfl)) (fun _=>by kernel_rfl) (Qf (by kernel_rfl)))) (lX (by kernel_rfl))) (by decide) (fun _=>rfl) cs (fun n af=>by simpa using List.all_eq_true.1 bz n (DataW.weights_mem_each (j:=0) rfl rfl n af))
  clear CS DC rM bz
  refine(N9 (Ob l4) (aw.cons iB aw.nil)).mono fun e Be ⟨he,Bv⟩=> ?_
  subst he
  exact⟨_,rfl,_,_,_,[],_,[],L0,trodAll_mk1 (shut_bool (by kernel_rfl) _),(trodAll_cons_mk (Below.trod Try.N8 (by kernel_rfl) (of_decide_eq_true (by kernel_rfl)) cs Bv PM) trodAll_mk0),rfl,Bv.frame _,fun h=>by cases h⟩
theorem KF:(Rows.fnExactBeginRow.wf (OpenSpec.ofChange Rows.fnExactBeginSpec))=true:=by kernel_rfl
theorem KG:(laidOutB Try.prog)=true:=by kernel_rfl
theorem KR:(mapsRowed Try.prog)=true:=by kernel_rfl
theorem K2:(Try.f7.params.all (Try.prog.readableRec ·))=true:=by kernel_rfl
theorem K5:(namedTie Try.prog Rows.fnExactBeginRow.named Rows.fnExactBeginSpec.vars)=true:=by kernel_rfl
theorem K6:((Rows.fnExactBeginRow.stops==[]))=true:=by kernel_rfl
theorem K7:((Try.prog.stops==[]))=true:=by kernel_rfl
theorem K8:((Rows.fnExactBeginRow.knobs==[]))=true:=by kernel_rfl
theorem K9:((Try.prog.stopKnobs==[]))=true:=by kernel_rfl
theorem K_:((Rows.fnExactBeginRow.inPlace==Try.prog.inPlace 7))=true:=by kernel_rfl
theorem KH:((Rows.fnExactBeginRow.unfollowed==Try.prog.unfollowed 7))=true:=by kernel_rfl
theorem KI:((Rows.fnExactBeginRow.recurses==Try.prog.recurses 7))=true:=by kernel_rfl
theorem KJ:((Rows.fnExactBeginRow.named==Try.prog.varsNamed 7))=true:=by kernel_rfl
theorem KK:((Rows.fnExactBeginRow.maps==(Try.f7.params.toList++Rows.fnExactBeginSpec.plain.varTypes Try.prog).any (Try.prog.mapsRec ·)))=true:=by kernel_rfl
theorem KL:((Rows.fnExactBeginRow.ifaces==(Try.f7.params.toList++Rows.fnExactBeginSpec.plain.varTypes Try.prog).any (Try.prog.ifacesRec ·)))=true:=by kernel_rfl
theorem KM:((Rows.fnExactBeginRow.mapsOut==Try.prog.mapsAmong Try.f7.resultTypes.toList))=true:=by kernel_rfl
theorem KN:((Rows.fnExactBeginRow.loops==(Try.f7.params.toList++Rows.fnExactBeginSpec.plain.varTypes Try.prog).any (Try.prog.loopsFrom ·)))=true:=by kernel_rfl
theorem KO:((Rows.fnExactBeginRow.wideKeys==(Try.f7.params.toList++Rows.fnExactBeginSpec.plain.varTypes Try.prog++Try.f7.resultTypes.toList).any (Try.prog.wideKeysFrom ·)))=true:=by kernel_rfl
theorem KP:(Rows.fnExactBeginSpec.vars.all (Try.prog.varReadable ·))=true:=by kernel_rfl
theorem KQ:(Try.f7.resultTypes.all (fun t=>Try.prog.readableRec t&&decide (t<Try.prog.types.size)))=true:=by kernel_rfl
theorem KS:((Rows.fnExactBeginRow.ifacesOut==Try.f7.resultTypes.toList.any (Try.prog.ifacesRec ·)))=true:=by kernel_rfl
theorem KT:((Rows.fnExactBeginRow.loopsOut==Try.f7.resultTypes.toList.any (Try.prog.loopsFrom ·)))=true:=by kernel_rfl
theorem KU:((Rows.fnExactBeginRow.plainKeys==Try.prog.plainKeys))=true:=by kernel_rfl
theorem KV:(Rows.fnExactBeginRow.shortTexts.isNone)=true:=by kernel_rfl
theorem KW:(Try.prog.stopsHeard)=true:=by kernel_rfl
theorem KX:(Try.prog.mayEnter)=true:=by kernel_rfl
theorem KY:((Rows.fnExactBeginRow.lifted==Try.prog.liftsFinal))=true:=by kernel_rfl
theorem KZ:((Try.prog.make==some Rows.fnExactBeginRow.make))=true:=by kernel_rfl
theorem K0:(Ed Try.prog Try.f7 Rows.fnExactBeginRow)=true:=by kernel_rfl
theorem K1:((Rows.fnExactBeginRow.pinned==Rows.fnExactBeginRow.pinnedBy))=true:=by kernel_rfl
theorem K3:((Rows.fnExactBeginRow.veiled==(Try.f7.params.toList++Rows.fnExactBeginSpec.plain.varTypes Try.prog++Try.f7.resultTypes.toList).any (Try.prog.veiledRec ·)))=true:=by kernel_rfl
theorem K4:(Rows.fnExactBeginRow.veiledFits Try.prog Try.f7.params.toList (Try.f7.params.toList++Rows.fnExactBeginSpec.plain.varTypes Try.prog++Try.f7.resultTypes.toList))=true:=by kernel_rfl
theorem La:joinedFacts Try.prog 7 Try.f7 Rows.fnExactBeginSpec Rows.fnExactBeginRow=true:=
  NZ KF KG KR K2 K5 K6 K7 K8 K9 K_ KH KI KJ KK KL KM KN KO KP KQ KS KT KU KV KW KX KY KZ K0 K1 K3 K4
theorem Lb:Try.f7.isInstance Try.prog Rows.fnExactBeginRow.origin Rows.fnExactBeginRow.targs:=of_decide_eq_true (by kernel_rfl)
theorem Ld:Try.f7.isWrapper Try.prog Rows.fnExactBeginRow.wrapper Rows.fnExactBeginRow.mainSum:=by
  unfold Func.isWrapper
  rw[if_neg (by decide+kernel)]
  exact⟨rfl,rfl⟩
theorem fnExactBegin_holds:Rows.FnExactBeginSaid:=
  OpenClaim.holds_of_wide 7 Try.f7 rfl rfl rfl rfl rfl rfl rfl ⟨rfl,rfl,rfl,rfl,rfl⟩ rfl rfl rfl rfl rfl (by kernel_rfl) Try.func7 La
    Lb Ld
    (fun os started H enc _=>Lc os started H enc)
#print axioms fnExactBegin_holds
end Go.Proofs.Ytglpfccgmfhkdaa
