/- FnExactBlocked holds of every plan, frame and way: Blocked returns what the reference returns, writes into no argument, and its answer is its own. -/
import Derived.Test.YtejmihecgodhnaaGreatRows
import Derived.Test.YtejmihecgodhnaaGreatM6
import Derived.WalkKit
import Derived.WalkSpells
import Derived.WalkLawsBesides
import Derived.ProofKit
import Derived.OpenShut
import Derived.Carry
import Derived.ChangeOld
import Derived.Below
import Derived.SizedLaws
namespace Go.Proofs.YtejmihecgodhnaaGreat
open Go.ChangeShapes Go.WideShapes Go.ChangeAt Go.RowKit Fw
set_option linter.unusedVariables false
theorem Tryz.aeo:ownKnob Tryz.prog.godebug=none:=by kernel_rfl
theorem Tryz.PH:laidOutB Tryz.prog=true:=by kernel_rfl
set_option maxRecDepth 100000 in
theorem XY (os:Os) (started:os.Started) (H:Type) (enc:TypeId×Value→H):
    ReturnsInHanded {} Tryz.checked os 3 .any (Rows.fnExactBlockedSpec.pre6 enc Tryz.prog Tryz.f3 Rows.fnExactBlockedRow.domain false) (Rows.fnExactBlockedSpec.post enc Tryz.prog Tryz.f3 false true false false):=by
  refine returnsInHanded_of_change_sized (C:=Tryz.checked) Tryz.aeo started (by kernel_rfl) Tryz.func3
    (ChangeSpec.witness6 (enc:=enc) (C:=Tryz.checked) false ⟨#[],#[.agg #[.int .i64 0,.slice none 0 0,.slice none 0 0,.slice none 0 0,.int .i64 0],.agg #[.bool false,.slice none 0 0,.slice none 0 0,.slice none 0 0],.int .i64 0],[]⟩ 8 (by kernel_rfl) (by kernel_rfl) (by kernel_rfl) (by kernel_rfl)) ?_
  intro W base args iv gs before Oc NA aiG zF _
  have b3:(DataW.weightsEach Tryz.prog (Tryz.f3.params.toList++Rows.fnExactBlockedSpec.plain.varTypes Tryz.prog) (iv++gs)).all (· ≤reachBytes)=true:=zF
  have Ob: ∀(j:Nat) t v,Tryz.f3.params[j]?=some t→args[j]?=some v→Value.okWide Tryz.prog W .any base t v:=Oc
  have YI:=NA
  obtain⟨p,q,Ns,lA,rfl,aiL,h0⟩:=NA
  have cE:DataW.TrodAll enc Tryz.prog W 0 (fun _=>true) true Tryz.f3.params.toList args.toList iv p:=Ns
  rw[Tryz.params3] at cE Ob b3
  obtain⟨v0,ai8,d0,aix,aeu,bU,aiE,rfl,rfl,au,eA⟩:=trodAll_cons cE
  obtain⟨v1,ai9,d1,aiy,h8,q1,rfl,rfl,rfl,h1,cN⟩:=trodAll_cons eA
  obtain⟨v2,ai_,d2,aiz,lj,q2,rfl,rfl,rfl,h2,c5⟩:=trodAll_cons cN
  obtain⟨rfl,rfl,rfl⟩:=trodAll_nil c5
  obtain rfl:args= #[v0,v1,v2]:=by cases args;simp_all
  obtain⟨rfl,rfl⟩:=trodVars_none lA
  have aY:=au
  have adA: ∀x∈aeu,x.block<W.heap.size:=by obtain⟨m,hm⟩:=aY;exact DataW.trod_lt m _ _ _ hm
  obtain⟨dQ,ci⟩:=LQ (P:=Tryz.prog) (W:=W) (k:=5) (aej (t:=26) (a:=3) (b:=22) (c:=23) (d:=24) (e:=3) (by kernel_rfl) (mm (by kernel_rfl)) (nM (t:=22) (e:=3) (enc:=cs) (by kernel_rfl) (Nat.le_of_ble_eq_true (by kernel_rfl)) (Nat.le_of_ble_eq_true (by kernel_rfl)) (fun _=>by kernel_rfl) (mm (by kernel_rfl))) (nM (t:=23) (e:=122) (enc:=(ej false)) (by kernel_rfl) (Nat.le_of_ble_eq_true (by kernel_rfl)) (Nat.le_of_ble_eq_true (by kernel_rfl)) (fun _=>by kernel_rfl) (ael (t:=122) (a:=22) (b:=120) (c:=120) (d:=22) (e:=22) (by kernel_rfl) (nM (t:=22) (e:=3) (enc:=cs) (by kernel_rfl) (Nat.le_of_ble_eq_true (by kernel_rfl)) (Nat.le_of_ble_eq_true (by kernel_rfl)) (fun _=>by kernel_rfl) (mm (by kernel_rfl))) (nM (t:=120) (e:=164) (enc:=dE) (by kernel_rfl) (Nat.le_of_ble_eq_true (by kernel_rfl)) (Nat.le_of_ble_eq_true (by kernel_rfl)) (fun _=>by kernel_rfl) (Rs (t:=164) (a:=3) (b:=3) (by kernel_rfl) (mm (by kernel_rfl)) (mm (by kernel_rfl)))) (nM (t:=120) (e:=164) (enc:=dE) (by kernel_rfl) (Nat.le_of_ble_eq_true (by kernel_rfl)) (Nat.le_of_ble_eq_true (by kernel_rfl)) (fun _=>by kernel_rfl) (Rs (t:=164) (a:=3) (b:=3) (by kernel_rfl) (mm (by kernel_rfl)) (mm (by kernel_rfl)))) (nM (t:=22) (e:=3) (enc:=cs) (by kernel_rfl) (Nat.le_of_ble_eq_true (by kernel_rfl)) (Nat.le_of_ble_eq_true (by kernel_rfl)) (fun _=>by kernel_rfl) (mm (by kernel_rfl))) (nM (t:=22) (e:=3) (enc:=cs) (by kernel_rfl) (Nat.le_of_ble_eq_true (by kernel_rfl)) (Nat.le_of_ble_eq_true (by kernel_rfl)) (fun _=>by kernel_rfl) (mm (by kernel_rfl))))) (nM (t:=24) (e:=27) (enc:=(fM aX false)) (by kernel_rfl) (Nat.le_of_ble_eq_true (by kernel_rfl)) (Nat.le_of_ble_eq_true (by kernel_rfl)) (fun _=>by kernel_rfl) (nM (t:=27) (e:=4) (enc:=aX) (by kernel_rfl) (Nat.le_of_ble_eq_true (by kernel_rfl)) (Nat.le_of_ble_eq_true (by kernel_rfl)) (fun _=>by kernel_rfl) (Ag (by kernel_rfl)))) (mm (by kernel_rfl))) (by decide) (fun _=>rfl) aY (fun n ad=>by simpa using List.all_eq_true.1 b3 n (DataW.weights_mem_each (j:=0) rfl rfl n ad))
  have dr:=h1
  have adB: ∀x∈h8,x.block<W.heap.size:=by obtain⟨m,hm⟩:=dr;exact DataW.trod_lt m _ _ _ hm
  obtain⟨dI,ax⟩:=LQ (P:=Tryz.prog) (W:=W) (k:=4) (aeh (t:=31) (a:=4) (b:=27) (c:=28) (d:=29) (by kernel_rfl) (Ag (by kernel_rfl)) (nM (t:=27) (e:=4) (enc:=aX) (by kernel_rfl) (Nat.le_of_ble_eq_true (by kernel_rfl)) (Nat.le_of_ble_eq_true (by kernel_rfl)) (fun _=>by kernel_rfl) (Ag (by kernel_rfl))) (nM (t:=28) (e:=134) (enc:=bE) (by kernel_rfl) (Nat.le_of_ble_eq_true (by kernel_rfl)) (Nat.le_of_ble_eq_true (by kernel_rfl)) (fun _=>by kernel_rfl) (aek (t:=134) (a:=3) (b:=3) (by kernel_rfl) (mm (by kernel_rfl)) (mm (by kernel_rfl)))) (nM (t:=29) (e:=124) (enc:=(ec false)) (by kernel_rfl) (Nat.le_of_ble_eq_true (by kernel_rfl)) (Nat.le_of_ble_eq_true (by kernel_rfl)) (fun _=>by kernel_rfl) (aei (t:=124) (a:=3) (b:=3) (c:=27) (d:=4) (e:=3) (by kernel_rfl) (mm (by kernel_rfl)) (mm (by kernel_rfl)) (nM (t:=27) (e:=4) (enc:=aX) (by kernel_rfl) (Nat.le_of_ble_eq_true (by kernel_rfl)) (Nat.le_of_ble_eq_true (by kernel_rfl)) (fun _=>by kernel_rfl) (Ag (by kernel_rfl))) (Ag (by kernel_rfl)) (mm (by kernel_rfl))))) (by decide) (fun _=>rfl) dr (fun n ad=>by simpa using List.all_eq_true.1 b3 n (DataW.weights_mem_each (j:=1) rfl rfl n ad))
  obtain⟨eC,rfl,rfl,rfl,bA⟩:=open_int (P:=Tryz.prog) (t:=3) (k:= .i64) (by kernel_rfl) (Ob 2 3 v2 rfl rfl) h2
  have e2:V2 (Env.at W) (.int .i64 eC) (.int .i64 eC):=jD (aL.v1 (E:=Env.at W) (.int _ _))
  clear Ns Oc zF b3
  refine(abF (abJ dQ dI eC) (az.cons ci (az.cons ax (az.cons e2 az.nil)))).mono fun e LF ⟨he,E3⟩=> ?_
  subst he
  exact⟨_,rfl,_,_,_,[],_,[],YI,trodAll_mk1 (shut_bool (by kernel_rfl) _),(trodAll_cons_mk (Below.trod Tryz.PH (by kernel_rfl) (of_decide_eq_true (by kernel_rfl)) aY E3 adA) (trodAll_cons_mk (Below.trod Tryz.PH (by kernel_rfl) (of_decide_eq_true (by kernel_rfl)) dr E3 adB) (trodAll_cons_mk (shut_int (by kernel_rfl) bA) trodAll_mk0))),rfl,E3.frame _,fun h=>by cases h⟩
theorem Xq:(Rows.fnExactBlockedRow.wf (OpenSpec.ofChange Rows.fnExactBlockedSpec))=true:=by kernel_rfl
theorem Xr:(laidOutB Tryz.prog)=true:=by kernel_rfl
theorem XC:(mapsRowed Tryz.prog)=true:=by kernel_rfl
theorem XN:(Tryz.f3.params.all (Tryz.prog.readableRec ·))=true:=by kernel_rfl
theorem XQ:(namedTie Tryz.prog Rows.fnExactBlockedRow.named Rows.fnExactBlockedSpec.vars)=true:=by kernel_rfl
theorem XR:((Rows.fnExactBlockedRow.stops==[]))=true:=by kernel_rfl
theorem XS:((Tryz.prog.stops==[]))=true:=by kernel_rfl
theorem XT:((Rows.fnExactBlockedRow.knobs==[]))=true:=by kernel_rfl
theorem XU:((Tryz.prog.stopKnobs==[]))=true:=by kernel_rfl
theorem XV:((Rows.fnExactBlockedRow.inPlace==Tryz.prog.inPlace 3))=true:=by kernel_rfl
theorem Xs:((Rows.fnExactBlockedRow.unfollowed==Tryz.prog.unfollowed 3))=true:=by kernel_rfl
theorem Xt:((Rows.fnExactBlockedRow.recurses==Tryz.prog.recurses 3))=true:=by kernel_rfl
theorem Xu:((Rows.fnExactBlockedRow.named==Tryz.prog.varsNamed 3))=true:=by kernel_rfl
theorem Xv:((Rows.fnExactBlockedRow.maps==(Tryz.f3.params.toList++Rows.fnExactBlockedSpec.plain.varTypes Tryz.prog).any (Tryz.prog.mapsRec ·)))=true:=by kernel_rfl
theorem Xw:((Rows.fnExactBlockedRow.ifaces==(Tryz.f3.params.toList++Rows.fnExactBlockedSpec.plain.varTypes Tryz.prog).any (Tryz.prog.ifacesRec ·)))=true:=by kernel_rfl
theorem Xx:((Rows.fnExactBlockedRow.mapsOut==Tryz.prog.mapsAmong Tryz.f3.resultTypes.toList))=true:=by kernel_rfl
theorem Xy:((Rows.fnExactBlockedRow.loops==(Tryz.f3.params.toList++Rows.fnExactBlockedSpec.plain.varTypes Tryz.prog).any (Tryz.prog.loopsFrom ·)))=true:=by kernel_rfl
theorem Xz:((Rows.fnExactBlockedRow.wideKeys==(Tryz.f3.params.toList++Rows.fnExactBlockedSpec.plain.varTypes Tryz.prog++Tryz.f3.resultTypes.toList).any (Tryz.prog.wideKeysFrom ·)))=true:=by kernel_rfl
theorem XA:(Rows.fnExactBlockedSpec.vars.all (Tryz.prog.varReadable ·))=true:=by kernel_rfl
theorem XB:(Tryz.f3.resultTypes.all (fun t=>Tryz.prog.readableRec t&&decide (t<Tryz.prog.types.size)))=true:=by kernel_rfl
theorem XD:((Rows.fnExactBlockedRow.ifacesOut==Tryz.f3.resultTypes.toList.any (Tryz.prog.ifacesRec ·)))=true:=by kernel_rfl
theorem XE:((Rows.fnExactBlockedRow.loopsOut==Tryz.f3.resultTypes.toList.any (Tryz.prog.loopsFrom ·)))=true:=by kernel_rfl
theorem XF:((Rows.fnExactBlockedRow.plainKeys==Tryz.prog.plainKeys))=true:=by kernel_rfl
theorem XG:(Rows.fnExactBlockedRow.shortTexts.isNone)=true:=by kernel_rfl
theorem XH:(Tryz.prog.stopsHeard)=true:=by kernel_rfl
theorem XI:(Tryz.prog.mayEnter)=true:=by kernel_rfl
theorem XJ:((Rows.fnExactBlockedRow.lifted==Tryz.prog.liftsFinal))=true:=by kernel_rfl
theorem XK:((Tryz.prog.make==some Rows.fnExactBlockedRow.make))=true:=by kernel_rfl
theorem XL:(Pz Tryz.prog Tryz.f3 Rows.fnExactBlockedRow)=true:=by kernel_rfl
theorem XM:((Rows.fnExactBlockedRow.pinned==Rows.fnExactBlockedRow.pinnedBy))=true:=by kernel_rfl
theorem XO:((Rows.fnExactBlockedRow.veiled==(Tryz.f3.params.toList++Rows.fnExactBlockedSpec.plain.varTypes Tryz.prog++Tryz.f3.resultTypes.toList).any (Tryz.prog.veiledRec ·)))=true:=by kernel_rfl
theorem XP:(Rows.fnExactBlockedRow.veiledFits Tryz.prog Tryz.f3.params.toList (Tryz.f3.params.toList++Rows.fnExactBlockedSpec.plain.varTypes Tryz.prog++Tryz.f3.resultTypes.toList))=true:=by kernel_rfl
theorem XW:joinedFacts Tryz.prog 3 Tryz.f3 Rows.fnExactBlockedSpec Rows.fnExactBlockedRow=true:=
  abw Xq Xr XC XN XQ XR XS XT XU XV Xs Xt Xu Xv Xw Xx Xy Xz XA XB XD XE XF XG XH XI XJ XK XL XM XO XP
theorem XX:Tryz.f3.isInstance Tryz.prog Rows.fnExactBlockedRow.origin Rows.fnExactBlockedRow.targs:=of_decide_eq_true (by kernel_rfl)
theorem XZ:Tryz.f3.isWrapper Tryz.prog Rows.fnExactBlockedRow.wrapper Rows.fnExactBlockedRow.mainSum:=by
  unfold Func.isWrapper
  rw[if_neg (by decide+kernel)]
  exact⟨rfl,rfl⟩
theorem fnExactBlocked_holds:Rows.FnExactBlockedSaid:=
  OpenClaim.holds_of_wide 3 Tryz.f3 rfl rfl rfl rfl rfl rfl rfl ⟨rfl,rfl,rfl,rfl,rfl⟩ rfl rfl rfl rfl rfl (by kernel_rfl) Tryz.func3 XW
    XX XZ
    (fun os started H enc _=>XY os started H enc)
#print axioms fnExactBlocked_holds
end Go.Proofs.YtejmihecgodhnaaGreat
