/- A section is let go of only when somebody was in it and it is free, or when the way was taken back with nobody near, or was held for its ticks with nobody in its first section. -/
import Derived.Test.YtglpfccgmfhkdaaRows
import Derived.Test.YtglpfccgmfhkdaaM8
import Derived.WalkKit
import Derived.WalkSpells
import Derived.WalkLawsBesides
import Derived.ProofKit
import Derived.OpenShut
import Derived.Carry
import Derived.ChangeOld
import Derived.Below
import Derived.SizedLaws
namespace Go.Proofs.Ytglpfccgmfhkdaa
open Go.ChangeShapes Go.WideShapes Go.ChangeAt Go.RowKit Fw
set_option linter.unusedVariables false
theorem Try.ab7:ownKnob Try.prog.godebug=none:=by kernel_rfl
theorem Try.aa7:laidOutB Try.prog=true:=by kernel_rfl
set_option maxRecDepth 100000 in
theorem WW (os:Os) (started:os.Started) (H:Type) (enc:TypeId×Value→H):
    ReturnsInHanded {} Try.checked os 11 .any (Rows.fnHeldSpec.pre6 enc Try.prog Try.f11 Rows.fnHeldRow.domain false) (Rows.fnHeldSpec.post enc Try.prog Try.f11 false true false false):=by
  refine returnsInHanded_of_change_sized (C:=Try.checked) Try.ab7 started (by kernel_rfl) Try.func11
    (ChangeSpec.witness6 (enc:=enc) (C:=Try.checked) false ⟨#[],#[.slice none 0 0],[]⟩ 8 (by kernel_rfl) (by kernel_rfl) (by kernel_rfl) (by kernel_rfl)) ?_
  intro W base args ir gs before zd yO XZ s6 _
  have cK:(DataW.weightsEach Try.prog (Try.f11.params.toList++Rows.fnHeldSpec.plain.varTypes Try.prog) (ir++gs)).all (· ≤reachBytes)=true:=s6
  have zc: ∀(j:Nat) t v,Try.f11.params[j]?=some t→args[j]?=some v→Value.okWide Try.prog W .any base t v:=zd
  have E6:=yO
  obtain⟨p,q,yH,lC,rfl,Yi,mz⟩:=yO
  have hZ:DataW.TrodAll enc Try.prog W 0 (fun _=>true) true Try.f11.params.toList args.toList ir p:=yH
  rw[Try.params11] at hZ zc cK
  obtain⟨hr,agw,d0,Va,si,dS,XM,rfl,rfl,aU,mh⟩:=trodAll_cons hZ
  obtain⟨rfl,rfl,rfl⟩:=trodAll_nil mh
  obtain rfl:args= #[hr]:=by cases args;simp_all
  obtain⟨rfl,rfl⟩:=trodVars_none lC
  obtain⟨J,dd,Uz,rfl⟩:=okWide_slice (t:=23) (e:=5) (by kernel_rfl) (zc 0 23 hr rfl rfl)
  have a5:=aU
  have G_: ∀x∈si,x.block<W.heap.size:=by obtain⟨m,hm⟩:=a5;exact DataW.trod_lt m _ _ _ hm
  obtain⟨x2,hX⟩:=J0 (P:=Try.prog) (W:=W) (f:=fun xs=> .bD (List.map n_ xs) false false) (O0 (t:=23) (e:=5) (enc:=n_) (by kernel_rfl) (Nat.le_of_ble_eq_true (by kernel_rfl)) (Nat.le_of_ble_eq_true (by kernel_rfl)) (fun _=>by kernel_rfl) (O1 (by kernel_rfl))) (fun _=>rfl) a5 (fun n aF=>by simpa using List.all_eq_true.1 cK n (DataW.weights_mem_each (j:=0) rfl rfl n aF)) rfl
  clear yH zd s6 cK
  refine(N1 (aa_ x2) (aD.cons hX aD.nil)).mono fun e Dz ⟨he,yi⟩=> ?_
  subst he
  exact⟨_,rfl,_,_,_,[],_,[],E6,trodAll_mk1 (shut_bool (by kernel_rfl) _),(trodAll_cons_mk (Below.trod Try.aa7 (by kernel_rfl) (of_decide_eq_true (by kernel_rfl)) a5 yi G_) trodAll_mk0),rfl,yi.frame _,fun h=>by cases h⟩
theorem Wm:(Rows.fnHeldRow.wf (OpenSpec.ofChange Rows.fnHeldSpec))=true:=by kernel_rfl
theorem Wn:(laidOutB Try.prog)=true:=by kernel_rfl
theorem Wy:(mapsRowed Try.prog)=true:=by kernel_rfl
theorem WK:(Try.f11.params.all (Try.prog.readableRec ·))=true:=by kernel_rfl
theorem WN:(namedTie Try.prog Rows.fnHeldRow.named Rows.fnHeldSpec.vars)=true:=by kernel_rfl
theorem WO:((Rows.fnHeldRow.stops==[]))=true:=by kernel_rfl
theorem WQ:((Try.prog.stops==[]))=true:=by kernel_rfl
theorem WR:((Rows.fnHeldRow.knobs==[]))=true:=by kernel_rfl
theorem WS:((Try.prog.stopKnobs==[]))=true:=by kernel_rfl
theorem WT:((Rows.fnHeldRow.inPlace==Try.prog.inPlace 11))=true:=by kernel_rfl
theorem Wo:((Rows.fnHeldRow.unfollowed==Try.prog.unfollowed 11))=true:=by kernel_rfl
theorem Wp:((Rows.fnHeldRow.recurses==Try.prog.recurses 11))=true:=by kernel_rfl
theorem Wq:((Rows.fnHeldRow.named==Try.prog.varsNamed 11))=true:=by kernel_rfl
theorem Wr:((Rows.fnHeldRow.maps==(Try.f11.params.toList++Rows.fnHeldSpec.plain.varTypes Try.prog).any (Try.prog.mapsRec ·)))=true:=by kernel_rfl
theorem Ws:((Rows.fnHeldRow.ifaces==(Try.f11.params.toList++Rows.fnHeldSpec.plain.varTypes Try.prog).any (Try.prog.ifacesRec ·)))=true:=by kernel_rfl
theorem Wt:((Rows.fnHeldRow.mapsOut==Try.prog.mapsAmong Try.f11.resultTypes.toList))=true:=by kernel_rfl
theorem Wu:((Rows.fnHeldRow.loops==(Try.f11.params.toList++Rows.fnHeldSpec.plain.varTypes Try.prog).any (Try.prog.loopsFrom ·)))=true:=by kernel_rfl
theorem Wv:((Rows.fnHeldRow.wideKeys==(Try.f11.params.toList++Rows.fnHeldSpec.plain.varTypes Try.prog++Try.f11.resultTypes.toList).any (Try.prog.wideKeysFrom ·)))=true:=by kernel_rfl
theorem Ww:(Rows.fnHeldSpec.vars.all (Try.prog.varReadable ·))=true:=by kernel_rfl
theorem Wx:(Try.f11.resultTypes.all (fun t=>Try.prog.readableRec t&&decide (t<Try.prog.types.size)))=true:=by kernel_rfl
theorem Wz:((Rows.fnHeldRow.ifacesOut==Try.f11.resultTypes.toList.any (Try.prog.ifacesRec ·)))=true:=by kernel_rfl
theorem WA:((Rows.fnHeldRow.loopsOut==Try.f11.resultTypes.toList.any (Try.prog.loopsFrom ·)))=true:=by kernel_rfl
theorem WB:((Rows.fnHeldRow.plainKeys==Try.prog.plainKeys))=true:=by kernel_rfl
theorem WC:(Rows.fnHeldRow.shortTexts.isNone)=true:=by kernel_rfl
theorem WD:(Try.prog.stopsHeard)=true:=by kernel_rfl
theorem WE:(Try.prog.mayEnter)=true:=by kernel_rfl
theorem WG:((Rows.fnHeldRow.lifted==Try.prog.liftsFinal))=true:=by kernel_rfl
theorem WH:((Try.prog.make==some Rows.fnHeldRow.make))=true:=by kernel_rfl
theorem WI:(GR Try.prog Try.f11 Rows.fnHeldRow)=true:=by kernel_rfl
theorem WJ:((Rows.fnHeldRow.pinned==Rows.fnHeldRow.pinnedBy))=true:=by kernel_rfl
theorem WL:((Rows.fnHeldRow.veiled==(Try.f11.params.toList++Rows.fnHeldSpec.plain.varTypes Try.prog++Try.f11.resultTypes.toList).any (Try.prog.veiledRec ·)))=true:=by kernel_rfl
theorem WM:(Rows.fnHeldRow.veiledFits Try.prog Try.f11.params.toList (Try.f11.params.toList++Rows.fnHeldSpec.plain.varTypes Try.prog++Try.f11.resultTypes.toList))=true:=by kernel_rfl
theorem WU:joinedFacts Try.prog 11 Try.f11 Rows.fnHeldSpec Rows.fnHeldRow=true:=
  NU Wm Wn Wy WK WN WO WQ WR WS WT Wo Wp Wq Wr Ws Wt Wu Wv Ww Wx Wz WA WB WC WD WE WG WH WI WJ WL WM
theorem WV:Try.f11.isInstance Try.prog Rows.fnHeldRow.origin Rows.fnHeldRow.targs:=of_decide_eq_true (by kernel_rfl)
theorem WX:Try.f11.isWrapper Try.prog Rows.fnHeldRow.wrapper Rows.fnHeldRow.mainSum:=by
  unfold Func.isWrapper
  rw[if_neg (by decide+kernel)]
  exact⟨rfl,rfl⟩
theorem fnHeld_holds:Rows.FnHeldSaid:=
  OpenClaim.holds_of_wide 11 Try.f11 rfl rfl rfl rfl rfl rfl rfl ⟨rfl,rfl,rfl,rfl,rfl⟩ rfl rfl rfl rfl rfl (by kernel_rfl) Try.func11 WU
    WV WX
    (fun os started H enc _=>WW os started H enc)
#print axioms fnHeld_holds
end Go.Proofs.Ytglpfccgmfhkdaa
