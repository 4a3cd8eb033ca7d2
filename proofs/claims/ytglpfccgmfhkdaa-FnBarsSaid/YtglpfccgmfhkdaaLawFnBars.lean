/- At no moment of a drawn run are two ways held that exclude each other, nor is a section held by two. -/
import Derived.Test.YtglpfccgmfhkdaaRows
import Derived.Test.YtglpfccgmfhkdaaM8
import Derived.WalkKit
import Derived.WalkSpells
import Derived.WalkLawsBesides
import Derived.ProofKit
import Derived.OpenShut
import Derived.Carry
import Derived.ChangeOld
import Derived.Below
import Derived.SizedLaws
namespace Go.Proofs.Ytglpfccgmfhkdaa
open Go.ChangeShapes Go.WideShapes Go.ChangeAt Go.RowKit Fw
set_option linter.unusedVariables false
theorem Try.ab6:ownKnob Try.prog.godebug=none:=by kernel_rfl
theorem Try.aa6:laidOutB Try.prog=true:=by kernel_rfl
set_option maxRecDepth 100000 in
theorem Wk (os:Os) (started:os.Started) (H:Type) (enc:TypeId×Value→H):
    ReturnsInHanded {} Try.checked os 16 .any (Rows.fnBarsSpec.pre6 enc Try.prog Try.f16 Rows.fnBarsRow.domain false) (Rows.fnBarsSpec.post enc Try.prog Try.f16 false true false false):=by
  refine returnsInHanded_of_change_sized (C:=Try.checked) Try.ab6 started (by kernel_rfl) Try.func16
    (ChangeSpec.witness6 (enc:=enc) (C:=Try.checked) false ⟨#[],#[.slice none 0 0],[]⟩ 8 (by kernel_rfl) (by kernel_rfl) (by kernel_rfl) (by kernel_rfl)) ?_
  intro W base args ir gs before zd yO XZ s6 _
  have cK:(DataW.weightsEach Try.prog (Try.f16.params.toList++Rows.fnBarsSpec.plain.varTypes Try.prog) (ir++gs)).all (· ≤reachBytes)=true:=s6
  have zc: ∀(j:Nat) t v,Try.f16.params[j]?=some t→args[j]?=some v→Value.okWide Try.prog W .any base t v:=zd
  have E6:=yO
  obtain⟨p,q,yH,lC,rfl,Yi,mz⟩:=yO
  have hZ:DataW.TrodAll enc Try.prog W 0 (fun _=>true) true Try.f16.params.toList args.toList ir p:=yH
  rw[Try.params16] at hZ zc cK
  obtain⟨hr,agw,d0,Va,si,dS,XM,rfl,rfl,aU,mh⟩:=trodAll_cons hZ
  obtain⟨rfl,rfl,rfl⟩:=trodAll_nil mh
  obtain rfl:args= #[hr]:=by cases args;simp_all
  obtain⟨rfl,rfl⟩:=trodVars_none lC
  obtain⟨J,dd,Uz,rfl⟩:=okWide_slice (t:=23) (e:=5) (by kernel_rfl) (zc 0 23 hr rfl rfl)
  have a5:=aU
  have G_: ∀x∈si,x.block<W.heap.size:=by obtain⟨m,hm⟩:=a5;exact DataW.trod_lt m _ _ _ hm
  obtain⟨x2,hX⟩:=J0 (P:=Try.prog) (W:=W) (f:=fun xs=> .bD (List.map n_ xs) false false) (O0 (t:=23) (e:=5) (enc:=n_) (by kernel_rfl) (Nat.le_of_ble_eq_true (by kernel_rfl)) (Nat.le_of_ble_eq_true (by kernel_rfl)) (fun _=>by kernel_rfl) (O1 (by kernel_rfl))) (fun _=>rfl) a5 (fun n aF=>by simpa using List.all_eq_true.1 cK n (DataW.weights_mem_each (j:=0) rfl rfl n aF)) rfl
  clear yH zd s6 cK
  refine(N1 (aa8 x2) (aD.cons hX aD.nil)).mono fun e Dz ⟨he,yi⟩=> ?_
  subst he
  exact⟨_,rfl,_,_,_,[],_,[],E6,trodAll_mk1 (shut_bool (by kernel_rfl) _),(trodAll_cons_mk (Below.trod Try.aa6 (by kernel_rfl) (of_decide_eq_true (by kernel_rfl)) a5 yi G_) trodAll_mk0),rfl,yi.frame _,fun h=>by cases h⟩
theorem VL:(Rows.fnBarsRow.wf (OpenSpec.ofChange Rows.fnBarsSpec))=true:=by kernel_rfl
theorem VM:(laidOutB Try.prog)=true:=by kernel_rfl
theorem VX:(mapsRowed Try.prog)=true:=by kernel_rfl
theorem V_:(Try.f16.params.all (Try.prog.readableRec ·))=true:=by kernel_rfl
theorem Wc:(namedTie Try.prog Rows.fnBarsRow.named Rows.fnBarsSpec.vars)=true:=by kernel_rfl
theorem Wd:((Rows.fnBarsRow.stops==[]))=true:=by kernel_rfl
theorem We:((Try.prog.stops==[]))=true:=by kernel_rfl
theorem Wf:((Rows.fnBarsRow.knobs==[]))=true:=by kernel_rfl
theorem Wg:((Try.prog.stopKnobs==[]))=true:=by kernel_rfl
theorem Wh:((Rows.fnBarsRow.inPlace==Try.prog.inPlace 16))=true:=by kernel_rfl
theorem VN:((Rows.fnBarsRow.unfollowed==Try.prog.unfollowed 16))=true:=by kernel_rfl
theorem VO:((Rows.fnBarsRow.recurses==Try.prog.recurses 16))=true:=by kernel_rfl
theorem VP:((Rows.fnBarsRow.named==Try.prog.varsNamed 16))=true:=by kernel_rfl
theorem VQ:((Rows.fnBarsRow.maps==(Try.f16.params.toList++Rows.fnBarsSpec.plain.varTypes Try.prog).any (Try.prog.mapsRec ·)))=true:=by kernel_rfl
theorem VR:((Rows.fnBarsRow.ifaces==(Try.f16.params.toList++Rows.fnBarsSpec.plain.varTypes Try.prog).any (Try.prog.ifacesRec ·)))=true:=by kernel_rfl
theorem VS:((Rows.fnBarsRow.mapsOut==Try.prog.mapsAmong Try.f16.resultTypes.toList))=true:=by kernel_rfl
theorem VT:((Rows.fnBarsRow.loops==(Try.f16.params.toList++Rows.fnBarsSpec.plain.varTypes Try.prog).any (Try.prog.loopsFrom ·)))=true:=by kernel_rfl
theorem VU:((Rows.fnBarsRow.wideKeys==(Try.f16.params.toList++Rows.fnBarsSpec.plain.varTypes Try.prog++Try.f16.resultTypes.toList).any (Try.prog.wideKeysFrom ·)))=true:=by kernel_rfl
theorem VV:(Rows.fnBarsSpec.vars.all (Try.prog.varReadable ·))=true:=by kernel_rfl
theorem VW:(Try.f16.resultTypes.all (fun t=>Try.prog.readableRec t&&decide (t<Try.prog.types.size)))=true:=by kernel_rfl
theorem VY:((Rows.fnBarsRow.ifacesOut==Try.f16.resultTypes.toList.any (Try.prog.ifacesRec ·)))=true:=by kernel_rfl
theorem VZ:((Rows.fnBarsRow.loopsOut==Try.f16.resultTypes.toList.any (Try.prog.loopsFrom ·)))=true:=by kernel_rfl
theorem V0:((Rows.fnBarsRow.plainKeys==Try.prog.plainKeys))=true:=by kernel_rfl
theorem V1:(Rows.fnBarsRow.shortTexts.isNone)=true:=by kernel_rfl
theorem V4:(Try.prog.stopsHeard)=true:=by kernel_rfl
theorem V5:(Try.prog.mayEnter)=true:=by kernel_rfl
theorem V6:((Rows.fnBarsRow.lifted==Try.prog.liftsFinal))=true:=by kernel_rfl
theorem V7:((Try.prog.make==some Rows.fnBarsRow.make))=true:=by kernel_rfl
theorem V8:(GR Try.prog Try.f16 Rows.fnBarsRow)=true:=by kernel_rfl
theorem V9:((Rows.fnBarsRow.pinned==Rows.fnBarsRow.pinnedBy))=true:=by kernel_rfl
theorem Wa:((Rows.fnBarsRow.veiled==(Try.f16.params.toList++Rows.fnBarsSpec.plain.varTypes Try.prog++Try.f16.resultTypes.toList).any (Try.prog.veiledRec ·)))=true:=by kernel_rfl
theorem Wb:(Rows.fnBarsRow.veiledFits Try.prog Try.f16.params.toList (Try.f16.params.toList++Rows.fnBarsSpec.plain.varTypes Try.prog++Try.f16.resultTypes.toList))=true:=by kernel_rfl
theorem Wi:joinedFacts Try.prog 16 Try.f16 Rows.fnBarsSpec Rows.fnBarsRow=true:=
  NU VL VM VX V_ Wc Wd We Wf Wg Wh VN VO VP VQ VR VS VT VU VV VW VY VZ V0 V1 V4 V5 V6 V7 V8 V9 Wa Wb
theorem Wj:Try.f16.isInstance Try.prog Rows.fnBarsRow.origin Rows.fnBarsRow.targs:=of_decide_eq_true (by kernel_rfl)
theorem Wl:Try.f16.isWrapper Try.prog Rows.fnBarsRow.wrapper Rows.fnBarsRow.mainSum:=by
  unfold Func.isWrapper
  rw[if_neg (by decide+kernel)]
  exact⟨rfl,rfl⟩
theorem fnBars_holds:Rows.FnBarsSaid:=
  OpenClaim.holds_of_wide 16 Try.f16 rfl rfl rfl rfl rfl rfl rfl ⟨rfl,rfl,rfl,rfl,rfl⟩ rfl rfl rfl rfl rfl (by kernel_rfl) Try.func16 Wi
    Wj Wl
    (fun os started H enc _=>Wk os started H enc)
#print axioms fnBars_holds
end Go.Proofs.Ytglpfccgmfhkdaa
