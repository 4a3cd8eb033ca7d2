/- FnExactDo holds of every plan, frame and event: Do returns what the reference returns, writes into no argument, and its answer is its own. -/
import Derived.Test.YtejmihecgodhnaaGreatRows
import Derived.Test.YtejmihecgodhnaaGreatM8
import Derived.WalkKit
import Derived.WalkSpells
import Derived.WalkLawsBesides
import Derived.ProofKit
import Derived.OpenShut
import Derived.Carry
import Derived.ChangeOld
import Derived.Below
import Derived.SizedLaws
namespace Go.Proofs.YtejmihecgodhnaaGreat
open Go.ChangeShapes Go.WideShapes Go.ChangeAt Go.RowKit Fw
set_option linter.unusedVariables false
theorem Tryz.akU:ownKnob Tryz.prog.godebug=none:=by kernel_rfl
theorem Tryz.M_:laidOutB Tryz.prog=true:=by kernel_rfl
set_option maxRecDepth 100000 in
theorem aei (os:Os) (started:os.Started) (H:Type) (enc:TypeId×Value→H):
    ReturnsInHanded {} Tryz.checked os 5 .any (Rows.fnExactDoSpec.pre6 enc Tryz.prog Tryz.f5 Rows.fnExactDoRow.domain false) (Rows.fnExactDoSpec.post enc Tryz.prog Tryz.f5 false true false false):=by
  refine returnsInHanded_of_change_sized (C:=Tryz.checked) Tryz.akU started (by kernel_rfl) Tryz.func5
    (ChangeSpec.witness6 (enc:=enc) (C:=Tryz.checked) false ⟨#[],#[.agg #[.int .i64 0,.slice none 0 0,.slice none 0 0,.slice none 0 0,.int .i64 0],.agg #[.bool false,.slice none 0 0,.slice none 0 0,.slice none 0 0],.agg #[.int .i64 0,.int .i64 0,.int .i64 0]],[]⟩ 8 (by kernel_rfl) (by kernel_rfl) (by kernel_rfl) (by kernel_rfl)) ?_
  intro W base args j9 gs before Ty SQ apz Du _
  have cm:(DataW.weightsEach Tryz.prog (Tryz.f5.params.toList++Rows.fnExactDoSpec.plain.varTypes Tryz.prog) (j9++gs)).all (· ≤reachBytes)=true:=Du
  have agp: ∀(j:Nat) t v,Tryz.f5.params[j]?=some t→args[j]?=some v→Value.okWide Tryz.prog W .any base t v:=Ty
  have ae2:=SQ
  obtain⟨p,q,SI,nS,rfl,apC,iY⟩:=SQ
  have cu:DataW.TrodAll enc Tryz.prog W 0 (fun _=>true) true Tryz.f5.params.toList args.toList j9 p:=SI
  rw[Tryz.params5] at cu agp cm
  obtain⟨v0,apU,d0,apq,ak0,b6,apx,rfl,rfl,aA,ep⟩:=trodAll_cons cu
  obtain⟨v1,apV,d1,apr,jE,q1,rfl,rfl,rfl,h1,cP⟩:=trodAll_cons ep
  obtain⟨v2,apW,d2,aps,m0,q2,rfl,rfl,rfl,h2,dd⟩:=trodAll_cons cP
  obtain⟨rfl,rfl,rfl⟩:=trodAll_nil dd
  obtain rfl:args= #[v0,v1,v2]:=by cases args;simp_all
  obtain⟨rfl,rfl⟩:=trodVars_none nS
  have bc:=aA
  have aj9: ∀x∈ak0,x.block<W.heap.size:=by obtain⟨m,hm⟩:=bc;exact DataW.trod_lt m _ _ _ hm
  obtain⟨eg,cx⟩:=Jf (P:=Tryz.prog) (W:=W) (k:=5) (akQ (t:=26) (a:=3) (b:=22) (c:=23) (d:=24) (e:=3) (by kernel_rfl) (mZ (by kernel_rfl)) (ql (t:=22) (e:=3) (enc:=cB) (by kernel_rfl) (Nat.le_of_ble_eq_true (by kernel_rfl)) (Nat.le_of_ble_eq_true (by kernel_rfl)) (fun _=>by kernel_rfl) (mZ (by kernel_rfl))) (ql (t:=23) (e:=122) (enc:=(dS false)) (by kernel_rfl) (Nat.le_of_ble_eq_true (by kernel_rfl)) (Nat.le_of_ble_eq_true (by kernel_rfl)) (fun _=>by kernel_rfl) (akS (t:=122) (a:=22) (b:=120) (c:=120) (d:=22) (e:=22) (by kernel_rfl) (ql (t:=22) (e:=3) (enc:=cB) (by kernel_rfl) (Nat.le_of_ble_eq_true (by kernel_rfl)) (Nat.le_of_ble_eq_true (by kernel_rfl)) (fun _=>by kernel_rfl) (mZ (by kernel_rfl))) (ql (t:=120) (e:=164) (enc:=c9) (by kernel_rfl) (Nat.le_of_ble_eq_true (by kernel_rfl)) (Nat.le_of_ble_eq_true (by kernel_rfl)) (fun _=>by kernel_rfl) (Xk (t:=164) (a:=3) (b:=3) (by kernel_rfl) (mZ (by kernel_rfl)) (mZ (by kernel_rfl)))) (ql (t:=120) (e:=164) (enc:=c9) (by kernel_rfl) (Nat.le_of_ble_eq_true (by kernel_rfl)) (Nat.le_of_ble_eq_true (by kernel_rfl)) (fun _=>by kernel_rfl) (Xk (t:=164) (a:=3) (b:=3) (by kernel_rfl) (mZ (by kernel_rfl)) (mZ (by kernel_rfl)))) (ql (t:=22) (e:=3) (enc:=cB) (by kernel_rfl) (Nat.le_of_ble_eq_true (by kernel_rfl)) (Nat.le_of_ble_eq_true (by kernel_rfl)) (fun _=>by kernel_rfl) (mZ (by kernel_rfl))) (ql (t:=22) (e:=3) (enc:=cB) (by kernel_rfl) (Nat.le_of_ble_eq_true (by kernel_rfl)) (Nat.le_of_ble_eq_true (by kernel_rfl)) (fun _=>by kernel_rfl) (mZ (by kernel_rfl))))) (ql (t:=24) (e:=27) (enc:=(gO aT false)) (by kernel_rfl) (Nat.le_of_ble_eq_true (by kernel_rfl)) (Nat.le_of_ble_eq_true (by kernel_rfl)) (fun _=>by kernel_rfl) (ql (t:=27) (e:=4) (enc:=aT) (by kernel_rfl) (Nat.le_of_ble_eq_true (by kernel_rfl)) (Nat.le_of_ble_eq_true (by kernel_rfl)) (fun _=>by kernel_rfl) (D5 (by kernel_rfl)))) (mZ (by kernel_rfl))) (by decide) (fun _=>rfl) bc (fun n af=>by simpa using List.all_eq_true.1 cm n (DataW.weights_mem_each (j:=0) rfl rfl n af))
  have dA:=h1
  have aj_: ∀x∈jE,x.block<W.heap.size:=by obtain⟨m,hm⟩:=dA;exact DataW.trod_lt m _ _ _ hm
  obtain⟨d_,aG⟩:=Jf (P:=Tryz.prog) (W:=W) (k:=4) (akO (t:=31) (a:=4) (b:=27) (c:=28) (d:=29) (by kernel_rfl) (D5 (by kernel_rfl)) (ql (t:=27) (e:=4) (enc:=aT) (by kernel_rfl) (Nat.le_of_ble_eq_true (by kernel_rfl)) (Nat.le_of_ble_eq_true (by kernel_rfl)) (fun _=>by kernel_rfl) (D5 (by kernel_rfl))) (ql (t:=28) (e:=134) (enc:=bh) (by kernel_rfl) (Nat.le_of_ble_eq_true (by kernel_rfl)) (Nat.le_of_ble_eq_true (by kernel_rfl)) (fun _=>by kernel_rfl) (akR (t:=134) (a:=3) (b:=3) (by kernel_rfl) (mZ (by kernel_rfl)) (mZ (by kernel_rfl)))) (ql (t:=29) (e:=124) (enc:=(e3 false)) (by kernel_rfl) (Nat.le_of_ble_eq_true (by kernel_rfl)) (Nat.le_of_ble_eq_true (by kernel_rfl)) (fun _=>by kernel_rfl) (akP (t:=124) (a:=3) (b:=3) (c:=27) (d:=4) (e:=3) (by kernel_rfl) (mZ (by kernel_rfl)) (mZ (by kernel_rfl)) (ql (t:=27) (e:=4) (enc:=aT) (by kernel_rfl) (Nat.le_of_ble_eq_true (by kernel_rfl)) (Nat.le_of_ble_eq_true (by kernel_rfl)) (fun _=>by kernel_rfl) (D5 (by kernel_rfl))) (D5 (by kernel_rfl)) (mZ (by kernel_rfl))))) (by decide) (fun _=>rfl) dA (fun n af=>by simpa using List.all_eq_true.1 cm n (DataW.weights_mem_each (j:=1) rfl rfl n af))
  have g_:=h2
  have aka: ∀x∈m0,x.block<W.heap.size:=by obtain⟨m,hm⟩:=g_;exact DataW.trod_lt m _ _ _ hm
  obtain⟨eW,e2⟩:=Jf (P:=Tryz.prog) (W:=W) (k:=3) (akN (t:=65) (a:=3) (b:=3) (c:=3) (by kernel_rfl) (mZ (by kernel_rfl)) (mZ (by kernel_rfl)) (mZ (by kernel_rfl))) (by decide) (fun _=>rfl) g_ (fun n af=>by simpa using List.all_eq_true.1 cm n (DataW.weights_mem_each (j:=2) rfl rfl n af))
  clear SI Ty Du cm
  refine(aif (aik eg d_ eW) (ak.cons cx (ak.cons aG (ak.cons e2 ak.nil)))).mono fun e QS ⟨he,Fo⟩=> ?_
  subst he
  exact⟨_,rfl,_,_,_,[],_,[],ae2,trodAll_mk1 (shut_bool (by kernel_rfl) _),(trodAll_cons_mk (Below.trod Tryz.M_ (by kernel_rfl) (of_decide_eq_true (by kernel_rfl)) bc Fo aj9) (trodAll_cons_mk (Below.trod Tryz.M_ (by kernel_rfl) (of_decide_eq_true (by kernel_rfl)) dA Fo aj_) (trodAll_cons_mk (Below.trod Tryz.M_ (by kernel_rfl) (of_decide_eq_true (by kernel_rfl)) g_ Fo aka) trodAll_mk0))),rfl,Fo.frame _,fun h=>by cases h⟩
theorem adL:(Rows.fnExactDoRow.wf (OpenSpec.ofChange Rows.fnExactDoSpec))=true:=by kernel_rfl
theorem adM:(laidOutB Tryz.prog)=true:=by kernel_rfl
theorem adX:(mapsRowed Tryz.prog)=true:=by kernel_rfl
theorem ad8:(Tryz.f5.params.all (Tryz.prog.readableRec ·))=true:=by kernel_rfl
theorem aea:(namedTie Tryz.prog Rows.fnExactDoRow.named Rows.fnExactDoSpec.vars)=true:=by kernel_rfl
theorem aeb:((Rows.fnExactDoRow.stops==[]))=true:=by kernel_rfl
theorem aec:((Tryz.prog.stops==[]))=true:=by kernel_rfl
theorem aed:((Rows.fnExactDoRow.knobs==[]))=true:=by kernel_rfl
theorem aee:((Tryz.prog.stopKnobs==[]))=true:=by kernel_rfl
theorem aef:((Rows.fnExactDoRow.inPlace==Tryz.prog.inPlace 5))=true:=by kernel_rfl
theorem adN:((Rows.fnExactDoRow.unfollowed==Tryz.prog.unfollowed 5))=true:=by kernel_rfl
theorem adO:((Rows.fnExactDoRow.recurses==Tryz.prog.recurses 5))=true:=by kernel_rfl
theorem adP:((Rows.fnExactDoRow.named==Tryz.prog.varsNamed 5))=true:=by kernel_rfl
theorem adQ:((Rows.fnExactDoRow.maps==(Tryz.f5.params.toList++Rows.fnExactDoSpec.plain.varTypes Tryz.prog).any (Tryz.prog.mapsRec ·)))=true:=by kernel_rfl
theorem adR:((Rows.fnExactDoRow.ifaces==(Tryz.f5.params.toList++Rows.fnExactDoSpec.plain.varTypes Tryz.prog).any (Tryz.prog.ifacesRec ·)))=true:=by kernel_rfl
theorem adS:((Rows.fnExactDoRow.mapsOut==Tryz.prog.mapsAmong Tryz.f5.resultTypes.toList))=true:=by kernel_rfl
theorem adT:((Rows.fnExactDoRow.loops==(Tryz.f5.params.toList++Rows.fnExactDoSpec.plain.varTypes Tryz.prog).any (Tryz.prog.loopsFrom ·)))=true:=by kernel_rfl
theorem adU:((Rows.fnExactDoRow.wideKeys==(Tryz.f5.params.toList++Rows.fnExactDoSpec.plain.varTypes Tryz.prog++Tryz.f5.resultTypes.toList).any (Tryz.prog.wideKeysFrom ·)))=true:=by kernel_rfl
theorem adV:(Rows.fnExactDoSpec.vars.all (Tryz.prog.varReadable ·))=true:=by kernel_rfl
theorem adW:(Tryz.f5.resultTypes.all (fun t=>Tryz.prog.readableRec t&&decide (t<Tryz.prog.types.size)))=true:=by kernel_rfl
theorem adY:((Rows.fnExactDoRow.ifacesOut==Tryz.f5.resultTypes.toList.any (Tryz.prog.ifacesRec ·)))=true:=by kernel_rfl
theorem adZ:((Rows.fnExactDoRow.loopsOut==Tryz.f5.resultTypes.toList.any (Tryz.prog.loopsFrom ·)))=true:=by kernel_rfl
theorem ad0:((Rows.fnExactDoRow.plainKeys==Tryz.prog.plainKeys))=true:=by kernel_rfl
theorem ad1:(Rows.fnExactDoRow.shortTexts.isNone)=true:=by kernel_rfl
theorem ad2:(Tryz.prog.stopsHeard)=true:=by kernel_rfl
theorem ad3:(Tryz.prog.mayEnter)=true:=by kernel_rfl
theorem ad4:((Rows.fnExactDoRow.lifted==Tryz.prog.liftsFinal))=true:=by kernel_rfl
theorem ad5:((Tryz.prog.make==some Rows.fnExactDoRow.make))=true:=by kernel_rfl
theorem ad6:(Vf Tryz.prog Tryz.f5 Rows.fnExactDoRow)=true:=by kernel_rfl
theorem ad7:((Rows.fnExactDoRow.pinned==Rows.fnExactDoRow.pinnedBy))=true:=by kernel_rfl
theorem ad9:((Rows.fnExactDoRow.veiled==(Tryz.f5.params.toList++Rows.fnExactDoSpec.plain.varTypes Tryz.prog++Tryz.f5.resultTypes.toList).any (Tryz.prog.veiledRec ·)))=true:=by kernel_rfl
theorem ad_:(Rows.fnExactDoRow.veiledFits Tryz.prog Tryz.f5.params.toList (Tryz.f5.params.toList++Rows.fnExactDoSpec.plain.varTypes Tryz.prog++Tryz.f5.resultTypes.toList))=true:=by kernel_rfl
theorem aeg:joinedFacts Tryz.prog 5 Tryz.f5 Rows.fnExactDoSpec Rows.fnExactDoRow=true:=
  ah7 adL adM adX ad8 aea aeb aec aed aee aef adN adO adP adQ adR adS adT adU adV adW adY adZ ad0 ad1 ad2 ad3 ad4 ad5 ad6 ad7 ad9 ad_
theorem aeh:Tryz.f5.isInstance Tryz.prog Rows.fnExactDoRow.origin Rows.fnExactDoRow.targs:=of_decide_eq_true (by kernel_rfl)
theorem aej:Tryz.f5.isWrapper Tryz.prog Rows.fnExactDoRow.wrapper Rows.fnExactDoRow.mainSum:=by
  unfold Func.isWrapper
  rw[if_neg (by decide+kernel)]
  exact⟨rfl,rfl⟩
theorem fnExactDo_holds:Rows.FnExactDoSaid:=
  OpenClaim.holds_of_wide 5 Tryz.f5 rfl rfl rfl rfl rfl rfl rfl ⟨rfl,rfl,rfl,rfl,rfl⟩ rfl rfl rfl rfl rfl (by kernel_rfl) Tryz.func5 aeg
    aeh aej
    (fun os started H enc _=>aei os started H enc)
#print axioms fnExactDo_holds
end Go.Proofs.YtejmihecgodhnaaGreat
