/- FnExactBlocked holds of every plan, frame and way: Blocked returns what the reference returns, writes into no argument, and its answer is its own. -/
import Derived.Test.YtglpfccgmfhkdaaGreatRows
import Derived.Test.YtglpfccgmfhkdaaGreatM7
import Derived.WalkKit
import Derived.WalkSpells
import Derived.WalkLawsBesides
import Derived.ProofKit
import Derived.OpenShut
import Derived.Carry
import Derived.ChangeOld
import Derived.Below
import Derived.SizedLaws
namespace Go.Proofs.YtglpfccgmfhkdaaGreat
open Go.ChangeShapes Go.WideShapes Go.ChangeAt Go.RowKit Fw
set_option linter.unusedVariables false
theorem Tryz.aaK:ownKnob Tryz.prog.godebug=none:=by kernel_rfl
theorem Tryz.Mb:laidOutB Tryz.prog=true:=by kernel_rfl
set_option maxRecDepth 100000 in
theorem Un (os:Os) (started:os.Started) (H:Type) (enc:TypeId×Value→H):
    ReturnsInHanded {} Tryz.checked os 3 .any (Rows.fnExactBlockedSpec.pre6 enc Tryz.prog Tryz.f3 Rows.fnExactBlockedRow.domain false) (Rows.fnExactBlockedSpec.post enc Tryz.prog Tryz.f3 false true false false):=by
  refine returnsInHanded_of_change_sized (C:=Tryz.checked) Tryz.aaK started (by kernel_rfl) Tryz.func3
    (ChangeSpec.witness6 (enc:=enc) (C:=Tryz.checked) false ⟨#[],#[.agg #[.int .i64 0,.slice none 0 0,.slice none 0 0,.slice none 0 0,.int .i64 0],.agg #[.bool false,.slice none 0 0,.slice none 0 0,.slice none 0 0],.int .i64 0],[]⟩ 8 (by kernel_rfl) (by kernel_rfl) (by kernel_rfl) (by kernel_rfl)) ?_
  intro W base args ik gs before K0 Km ae5 xM _
  have cd:(DataW.weightsEach Tryz.prog (Tryz.f3.params.toList++Rows.fnExactBlockedSpec.plain.varTypes Tryz.prog) (ik++gs)).all (· ≤reachBytes)=true:=xM
  have KZ: ∀(j:Nat) t v,Tryz.f3.params[j]?=some t→args[j]?=some v→Value.okWide Tryz.prog W .any base t v:=K0
  have U9:=Km
  obtain⟨p,q,Ke,lh,rfl,ae_,h_⟩:=Km
  have cN:DataW.TrodAll enc Tryz.prog W 0 (fun _=>true) true Tryz.f3.params.toList args.toList ik p:=Ke
  rw[Tryz.params3] at cN KZ cd
  obtain⟨v0,afx,d0,aeW,aaP,b5,ae3,rfl,rfl,aI,eC⟩:=trodAll_cons cN
  obtain⟨v1,afy,d1,aeX,jh,q1,rfl,rfl,rfl,h1,cZ⟩:=trodAll_cons eC
  obtain⟨v2,afz,d2,aeY,oL,q2,rfl,rfl,rfl,h2,dg⟩:=trodAll_cons cZ
  obtain⟨rfl,rfl,rfl⟩:=trodAll_nil dg
  obtain rfl:args= #[v0,v1,v2]:=by cases args;simp_all
  obtain⟨rfl,rfl⟩:=trodVars_none lh
  have bf:=aI
  have ZW: ∀x∈aaP,x.block<W.heap.size:=by obtain⟨m,hm⟩:=bf;exact DataW.trod_lt m _ _ _ hm
  obtain⟨dW,cs⟩:=ID (P:=Tryz.prog) (W:=W) (k:=5) (aaF (t:=26) (a:=3) (b:=22) (c:=23) (d:=24) (e:=3) (by kernel_rfl) (l1 (by kernel_rfl)) (ng (t:=22) (e:=3) (enc:=ct) (by kernel_rfl) (Nat.le_of_ble_eq_true (by kernel_rfl)) (Nat.le_of_ble_eq_true (by kernel_rfl)) (fun _=>by kernel_rfl) (l1 (by kernel_rfl))) (ng (t:=23) (e:=122) (enc:=(en false)) (by kernel_rfl) (Nat.le_of_ble_eq_true (by kernel_rfl)) (Nat.le_of_ble_eq_true (by kernel_rfl)) (fun _=>by kernel_rfl) (aaH (t:=122) (a:=22) (b:=120) (c:=120) (d:=22) (e:=22) (by kernel_rfl) (ng (t:=22) (e:=3) (enc:=ct) (by kernel_rfl) (Nat.le_of_ble_eq_true (by kernel_rfl)) (Nat.le_of_ble_eq_true (by kernel_rfl)) (fun _=>by kernel_rfl) (l1 (by kernel_rfl))) (ng (t:=120) (e:=164) (enc:=dL) (by kernel_rfl) (Nat.le_of_ble_eq_true (by kernel_rfl)) (Nat.le_of_ble_eq_true (by kernel_rfl)) (fun _=>by kernel_rfl) (NW (t:=164) (a:=3) (b:=3) (by kernel_rfl) (l1 (by kernel_rfl)) (l1 (by kernel_rfl)))) (ng (t:=120) (e:=164) (enc:=dL) (by kernel_rfl) (Nat.le_of_ble_eq_true (by kernel_rfl)) (Nat.le_of_ble_eq_true (by kernel_rfl)) (fun _=>by kernel_rfl) (NW (t:=164) (a:=3) (b:=3) (by kernel_rfl) (l1 (by kernel_rfl)) (l1 (by kernel_rfl)))) (ng (t:=22) (e:=3) (enc:=ct) (by kernel_rfl) (Nat.le_of_ble_eq_true (by kernel_rfl)) (Nat.le_of_ble_eq_true (by kernel_rfl)) (fun _=>by kernel_rfl) (l1 (by kernel_rfl))) (ng (t:=22) (e:=3) (enc:=ct) (by kernel_rfl) (Nat.le_of_ble_eq_true (by kernel_rfl)) (Nat.le_of_ble_eq_true (by kernel_rfl)) (fun _=>by kernel_rfl) (l1 (by kernel_rfl))))) (ng (t:=24) (e:=27) (enc:=(fR a7 false)) (by kernel_rfl) (Nat.le_of_ble_eq_true (by kernel_rfl)) (Nat.le_of_ble_eq_true (by kernel_rfl)) (fun _=>by kernel_rfl) (ng (t:=27) (e:=4) (enc:=a7) (by kernel_rfl) (Nat.le_of_ble_eq_true (by kernel_rfl)) (Nat.le_of_ble_eq_true (by kernel_rfl)) (fun _=>by kernel_rfl) (yd (by kernel_rfl)))) (l1 (by kernel_rfl))) (by decide) (fun _=>rfl) bf (fun n ao=>by simpa using List.all_eq_true.1 cd n (DataW.weights_mem_each (j:=0) rfl rfl n ao))
  have dA:=h1
  have ZX: ∀x∈jh,x.block<W.heap.size:=by obtain⟨m,hm⟩:=dA;exact DataW.trod_lt m _ _ _ hm
  obtain⟨dO,aR⟩:=ID (P:=Tryz.prog) (W:=W) (k:=4) (aaD (t:=31) (a:=4) (b:=27) (c:=28) (d:=29) (by kernel_rfl) (yd (by kernel_rfl)) (ng (t:=27) (e:=4) (enc:=a7) (by kernel_rfl) (Nat.le_of_ble_eq_true (by kernel_rfl)) (Nat.le_of_ble_eq_true (by kernel_rfl)) (fun _=>by kernel_rfl) (yd (by kernel_rfl))) (ng (t:=28) (e:=134) (enc:=bH) (by kernel_rfl) (Nat.le_of_ble_eq_true (by kernel_rfl)) (Nat.le_of_ble_eq_true (by kernel_rfl)) (fun _=>by kernel_rfl) (aaG (t:=134) (a:=3) (b:=3) (by kernel_rfl) (l1 (by kernel_rfl)) (l1 (by kernel_rfl)))) (ng (t:=29) (e:=124) (enc:=(cR false)) (by kernel_rfl) (Nat.le_of_ble_eq_true (by kernel_rfl)) (Nat.le_of_ble_eq_true (by kernel_rfl)) (fun _=>by kernel_rfl) (aaE (t:=124) (a:=3) (b:=3) (c:=27) (d:=4) (e:=3) (by kernel_rfl) (l1 (by kernel_rfl)) (l1 (by kernel_rfl)) (ng (t:=27) (e:=4) (enc:=a7) (by kernel_rfl) (Nat.le_of_ble_eq_true (by kernel_rfl)) (Nat.le_of_ble_eq_true (by kernel_rfl)) (fun _=>by kernel_rfl) (yd (by kernel_rfl))) (yd (by kernel_rfl)) (l1 (by kernel_rfl))))) (by decide) (fun _=>rfl) dA (fun n ao=>by simpa using List.all_eq_true.1 cd n (DataW.weights_mem_each (j:=1) rfl rfl n ao))
  obtain⟨eE,rfl,rfl,rfl,bM⟩:=open_int (P:=Tryz.prog) (t:=3) (k:= .i64) (by kernel_rfl) (KZ 2 3 v2 rfl rfl) h2
  have e2:V2 (Env.at W) (.int .i64 eE) (.int .i64 eE):=jp (aW.v1 (E:=Env.at W) (.int _ _))
  clear Ke K0 xM cd
  refine(X6 (X_ dW dO eE) (aO.cons cs (aO.cons aR (aO.cons e2 aO.nil)))).mono fun e Is ⟨he,CI⟩=> ?_
  subst he
  exact⟨_,rfl,_,_,_,[],_,[],U9,trodAll_mk1 (shut_bool (by kernel_rfl) _),(trodAll_cons_mk (Below.trod Tryz.Mb (by kernel_rfl) (of_decide_eq_true (by kernel_rfl)) bf CI ZW) (trodAll_cons_mk (Below.trod Tryz.Mb (by kernel_rfl) (of_decide_eq_true (by kernel_rfl)) dA CI ZX) (trodAll_cons_mk (shut_int (by kernel_rfl) bM) trodAll_mk0))),rfl,CI.frame _,fun h=>by cases h⟩
theorem TO:(Rows.fnExactBlockedRow.wf (OpenSpec.ofChange Rows.fnExactBlockedSpec))=true:=by kernel_rfl
theorem TP:(laidOutB Tryz.prog)=true:=by kernel_rfl
theorem T2:(mapsRowed Tryz.prog)=true:=by kernel_rfl
theorem Uc:(Tryz.f3.params.all (Tryz.prog.readableRec ·))=true:=by kernel_rfl
theorem Uf:(namedTie Tryz.prog Rows.fnExactBlockedRow.named Rows.fnExactBlockedSpec.vars)=true:=by kernel_rfl
theorem Ug:((Rows.fnExactBlockedRow.stops==[]))=true:=by kernel_rfl
theorem Uh:((Tryz.prog.stops==[]))=true:=by kernel_rfl
theorem Ui:((Rows.fnExactBlockedRow.knobs==[]))=true:=by kernel_rfl
theorem Uj:((Tryz.prog.stopKnobs==[]))=true:=by kernel_rfl
theorem Uk:((Rows.fnExactBlockedRow.inPlace==Tryz.prog.inPlace 3))=true:=by kernel_rfl
theorem TQ:((Rows.fnExactBlockedRow.unfollowed==Tryz.prog.unfollowed 3))=true:=by kernel_rfl
theorem TR:((Rows.fnExactBlockedRow.recurses==Tryz.prog.recurses 3))=true:=by kernel_rfl
theorem TT:((Rows.fnExactBlockedRow.named==Tryz.prog.varsNamed 3))=true:=by kernel_rfl
theorem TU:((Rows.fnExactBlockedRow.maps==(Tryz.f3.params.toList++Rows.fnExactBlockedSpec.plain.varTypes Tryz.prog).any (Tryz.prog.mapsRec ·)))=true:=by kernel_rfl
theorem TW:((Rows.fnExactBlockedRow.ifaces==(Tryz.f3.params.toList++Rows.fnExactBlockedSpec.plain.varTypes Tryz.prog).any (Tryz.prog.ifacesRec ·)))=true:=by kernel_rfl
theorem TX:((Rows.fnExactBlockedRow.mapsOut==Tryz.prog.mapsAmong Tryz.f3.resultTypes.toList))=true:=by kernel_rfl
theorem TY:((Rows.fnExactBlockedRow.loops==(Tryz.f3.params.toList++Rows.fnExactBlockedSpec.plain.varTypes Tryz.prog).any (Tryz.prog.loopsFrom ·)))=true:=by kernel_rfl
theorem TZ:((Rows.fnExactBlockedRow.wideKeys==(Tryz.f3.params.toList++Rows.fnExactBlockedSpec.plain.varTypes Tryz.prog++Tryz.f3.resultTypes.toList).any (Tryz.prog.wideKeysFrom ·)))=true:=by kernel_rfl
theorem T0:(Rows.fnExactBlockedSpec.vars.all (Tryz.prog.varReadable ·))=true:=by kernel_rfl
theorem T1:(Tryz.f3.resultTypes.all (fun t=>Tryz.prog.readableRec t&&decide (t<Tryz.prog.types.size)))=true:=by kernel_rfl
theorem T3:((Rows.fnExactBlockedRow.ifacesOut==Tryz.f3.resultTypes.toList.any (Tryz.prog.ifacesRec ·)))=true:=by kernel_rfl
theorem T4:((Rows.fnExactBlockedRow.loopsOut==Tryz.f3.resultTypes.toList.any (Tryz.prog.loopsFrom ·)))=true:=by kernel_rfl
theorem T5:((Rows.fnExactBlockedRow.plainKeys==Tryz.prog.plainKeys))=true:=by kernel_rfl
theorem T6:(Rows.fnExactBlockedRow.shortTexts.isNone)=true:=by kernel_rfl
theorem T7:(Tryz.prog.stopsHeard)=true:=by kernel_rfl
theorem T8:(Tryz.prog.mayEnter)=true:=by kernel_rfl
theorem T9:((Rows.fnExactBlockedRow.lifted==Tryz.prog.liftsFinal))=true:=by kernel_rfl
theorem T_:((Tryz.prog.make==some Rows.fnExactBlockedRow.make))=true:=by kernel_rfl
theorem Ua:(L7 Tryz.prog Tryz.f3 Rows.fnExactBlockedRow)=true:=by kernel_rfl
theorem Ub:((Rows.fnExactBlockedRow.pinned==Rows.fnExactBlockedRow.pinnedBy))=true:=by kernel_rfl
theorem Ud:((Rows.fnExactBlockedRow.veiled==(Tryz.f3.params.toList++Rows.fnExactBlockedSpec.plain.varTypes Tryz.prog++Tryz.f3.resultTypes.toList).any (Tryz.prog.veiledRec ·)))=true:=by kernel_rfl
theorem Ue:(Rows.fnExactBlockedRow.veiledFits Tryz.prog Tryz.f3.params.toList (Tryz.f3.params.toList++Rows.fnExactBlockedSpec.plain.varTypes Tryz.prog++Tryz.f3.resultTypes.toList))=true:=by kernel_rfl
theorem Ul:joinedFacts Tryz.prog 3 Tryz.f3 Rows.fnExactBlockedSpec Rows.fnExactBlockedRow=true:=
  XX TO TP T2 Uc Uf Ug Uh Ui Uj Uk TQ TR TT TU TW TX TY TZ T0 T1 T3 T4 T5 T6 T7 T8 T9 T_ Ua Ub Ud Ue
theorem Um:Tryz.f3.isInstance Tryz.prog Rows.fnExactBlockedRow.origin Rows.fnExactBlockedRow.targs:=of_decide_eq_true (by kernel_rfl)
theorem Uo:Tryz.f3.isWrapper Tryz.prog Rows.fnExactBlockedRow.wrapper Rows.fnExactBlockedRow.mainSum:=by
  unfold Func.isWrapper
  rw[if_neg (by decide+kernel)]
  exact⟨rfl,rfl⟩
theorem fnExactBlocked_holds:Rows.FnExactBlockedSaid:=
  OpenClaim.holds_of_wide 3 Tryz.f3 rfl rfl rfl rfl rfl rfl rfl ⟨rfl,rfl,rfl,rfl,rfl⟩ rfl rfl rfl rfl rfl (by kernel_rfl) Tryz.func3 Ul
    Um Uo
    (fun os started H enc _=>Un os started H enc)
#print axioms fnExactBlocked_holds
end Go.Proofs.YtglpfccgmfhkdaaGreat
