/- WhyNot tells what Do answers to somebody who asks for a way, it is the model's, and nothing blocks a way just when it may be set. -/
import Derived.Test.YtglpfccgmfhkdaaRows
import Derived.Test.YtglpfccgmfhkdaaM8
import Derived.WalkKit
import Derived.WalkSpells
import Derived.WalkLawsBesides
import Derived.ProofKit
import Derived.OpenShut
import Derived.Carry
import Derived.ChangeOld
import Derived.Below
import Derived.SizedLaws
namespace Go.Proofs.Ytglpfccgmfhkdaa
open Go.ChangeShapes Go.WideShapes Go.ChangeAt Go.RowKit Fw
set_option linter.unusedVariables false
theorem Try.aay:ownKnob Try.prog.godebug=none:=by kernel_rfl
theorem Try.ZD:laidOutB Try.prog=true:=by kernel_rfl
set_option maxRecDepth 100000 in
theorem VC (os:Os) (started:os.Started) (H:Type) (enc:TypeId×Value→H):
    ReturnsInHanded {} Try.checked os 15 .any (Rows.fnWhySpec.pre6 enc Try.prog Try.f15 Rows.fnWhyRow.domain false) (Rows.fnWhySpec.post enc Try.prog Try.f15 false true false false):=by
  refine returnsInHanded_of_change_sized (C:=Try.checked) Try.aay started (by kernel_rfl) Try.func15
    (ChangeSpec.witness6 (enc:=enc) (C:=Try.checked) false ⟨#[],#[.slice none 0 0],[]⟩ 8 (by kernel_rfl) (by kernel_rfl) (by kernel_rfl) (by kernel_rfl)) ?_
  intro W base args jf gs before L_ Ls afW yS _
  have cV:(DataW.weightsEach Try.prog (Try.f15.params.toList++Rows.fnWhySpec.plain.varTypes Try.prog) (jf++gs)).all (· ≤reachBytes)=true:=yS
  have L9: ∀(j:Nat) t v,Try.f15.params[j]?=some t→args[j]?=some v→Value.okWide Try.prog W .any base t v:=L_
  have Wq:=Ls
  obtain⟨p,q,Lj,mg,rfl,afX,mT⟩:=Ls
  have iA:DataW.TrodAll enc Try.prog W 0 (fun _=>true) true Try.f15.params.toList args.toList jf p:=Lj
  rw[Try.params15] at iA L9 cV
  obtain⟨h5,agh,d0,afN,uR,dU,afU,rfl,rfl,aT,m4⟩:=trodAll_cons iA
  obtain⟨rfl,rfl,rfl⟩:=trodAll_nil m4
  obtain rfl:args= #[h5]:=by cases args;simp_all
  obtain⟨rfl,rfl⟩:=trodVars_none mg
  obtain⟨J,dt,afL,rfl⟩:=okWide_slice (t:=23) (e:=5) (by kernel_rfl) (L9 0 23 h5 rfl rfl)
  have a_:=aT
  have Z_: ∀x∈uR,x.block<W.heap.size:=by obtain⟨m,hm⟩:=a_;exact DataW.trod_lt m _ _ _ hm
  obtain⟨CX,hl⟩:=Tf (P:=Try.prog) (W:=W) (f:=fun xs=> .bz (List.map qi xs) false false) (aav (t:=23) (e:=5) (enc:=qi) (by kernel_rfl) (Nat.le_of_ble_eq_true (by kernel_rfl)) (Nat.le_of_ble_eq_true (by kernel_rfl)) (fun _=>by kernel_rfl) (aaw (by kernel_rfl))) (fun _=>rfl) a_ (fun n aF=>by simpa using List.all_eq_true.1 cV n (DataW.weights_mem_each (j:=0) rfl rfl n aF)) rfl
  clear Lj L_ yS cV
  refine(ZE (ZF CX) (aE.cons hl aE.nil)).mono fun e Jw ⟨he,JP⟩=> ?_
  subst he
  exact⟨_,rfl,_,_,_,[],_,[],Wq,trodAll_mk1 (shut_bool (by kernel_rfl) _),(trodAll_cons_mk (Below.trod Try.ZD (by kernel_rfl) (of_decide_eq_true (by kernel_rfl)) a_ JP Z_) trodAll_mk0),rfl,JP.frame _,fun h=>by cases h⟩
theorem U5:(Rows.fnWhyRow.wf (OpenSpec.ofChange Rows.fnWhySpec))=true:=by kernel_rfl
theorem U6:(laidOutB Try.prog)=true:=by kernel_rfl
theorem Vg:(mapsRowed Try.prog)=true:=by kernel_rfl
theorem Vr:(Try.f15.params.all (Try.prog.readableRec ·))=true:=by kernel_rfl
theorem Vu:(namedTie Try.prog Rows.fnWhyRow.named Rows.fnWhySpec.vars)=true:=by kernel_rfl
theorem Vv:((Rows.fnWhyRow.stops==[]))=true:=by kernel_rfl
theorem Vw:((Try.prog.stops==[]))=true:=by kernel_rfl
theorem Vx:((Rows.fnWhyRow.knobs==[]))=true:=by kernel_rfl
theorem Vy:((Try.prog.stopKnobs==[]))=true:=by kernel_rfl
theorem Vz:((Rows.fnWhyRow.inPlace==Try.prog.inPlace 15))=true:=by kernel_rfl
theorem U7:((Rows.fnWhyRow.unfollowed==Try.prog.unfollowed 15))=true:=by kernel_rfl
theorem U8:((Rows.fnWhyRow.recurses==Try.prog.recurses 15))=true:=by kernel_rfl
theorem U9:((Rows.fnWhyRow.named==Try.prog.varsNamed 15))=true:=by kernel_rfl
theorem U_:((Rows.fnWhyRow.maps==(Try.f15.params.toList++Rows.fnWhySpec.plain.varTypes Try.prog).any (Try.prog.mapsRec ·)))=true:=by kernel_rfl
theorem Va:((Rows.fnWhyRow.ifaces==(Try.f15.params.toList++Rows.fnWhySpec.plain.varTypes Try.prog).any (Try.prog.ifacesRec ·)))=true:=by kernel_rfl
theorem Vb:((Rows.fnWhyRow.mapsOut==Try.prog.mapsAmong Try.f15.resultTypes.toList))=true:=by kernel_rfl
theorem Vc:((Rows.fnWhyRow.loops==(Try.f15.params.toList++Rows.fnWhySpec.plain.varTypes Try.prog).any (Try.prog.loopsFrom ·)))=true:=by kernel_rfl
theorem Vd:((Rows.fnWhyRow.wideKeys==(Try.f15.params.toList++Rows.fnWhySpec.plain.varTypes Try.prog++Try.f15.resultTypes.toList).any (Try.prog.wideKeysFrom ·)))=true:=by kernel_rfl
theorem Ve:(Rows.fnWhySpec.vars.all (Try.prog.varReadable ·))=true:=by kernel_rfl
theorem Vf:(Try.f15.resultTypes.all (fun t=>Try.prog.readableRec t&&decide (t<Try.prog.types.size)))=true:=by kernel_rfl
theorem Vh:((Rows.fnWhyRow.ifacesOut==Try.f15.resultTypes.toList.any (Try.prog.ifacesRec ·)))=true:=by kernel_rfl
theorem Vi:((Rows.fnWhyRow.loopsOut==Try.f15.resultTypes.toList.any (Try.prog.loopsFrom ·)))=true:=by kernel_rfl
theorem Vj:((Rows.fnWhyRow.plainKeys==Try.prog.plainKeys))=true:=by kernel_rfl
theorem Vk:(Rows.fnWhyRow.shortTexts.isNone)=true:=by kernel_rfl
theorem Vl:(Try.prog.stopsHeard)=true:=by kernel_rfl
theorem Vm:(Try.prog.mayEnter)=true:=by kernel_rfl
theorem Vn:((Rows.fnWhyRow.lifted==Try.prog.liftsFinal))=true:=by kernel_rfl
theorem Vo:((Try.prog.make==some Rows.fnWhyRow.make))=true:=by kernel_rfl
theorem Vp:(NB Try.prog Try.f15 Rows.fnWhyRow)=true:=by kernel_rfl
theorem Vq:((Rows.fnWhyRow.pinned==Rows.fnWhyRow.pinnedBy))=true:=by kernel_rfl
theorem Vs:((Rows.fnWhyRow.veiled==(Try.f15.params.toList++Rows.fnWhySpec.plain.varTypes Try.prog++Try.f15.resultTypes.toList).any (Try.prog.veiledRec ·)))=true:=by kernel_rfl
theorem Vt:(Rows.fnWhyRow.veiledFits Try.prog Try.f15.params.toList (Try.f15.params.toList++Rows.fnWhySpec.plain.varTypes Try.prog++Try.f15.resultTypes.toList))=true:=by kernel_rfl
theorem VA:joinedFacts Try.prog 15 Try.f15 Rows.fnWhySpec Rows.fnWhyRow=true:=
  Zx U5 U6 Vg Vr Vu Vv Vw Vx Vy Vz U7 U8 U9 U_ Va Vb Vc Vd Ve Vf Vh Vi Vj Vk Vl Vm Vn Vo Vp Vq Vs Vt
theorem VB:Try.f15.isInstance Try.prog Rows.fnWhyRow.origin Rows.fnWhyRow.targs:=of_decide_eq_true (by kernel_rfl)
theorem VD:Try.f15.isWrapper Try.prog Rows.fnWhyRow.wrapper Rows.fnWhyRow.mainSum:=by
  unfold Func.isWrapper
  rw[if_neg (by decide+kernel)]
  exact⟨rfl,rfl⟩
theorem fnWhy_holds:Rows.FnWhySaid:=
  OpenClaim.holds_of_wide 15 Try.f15 rfl rfl rfl rfl rfl rfl rfl ⟨rfl,rfl,rfl,rfl,rfl⟩ rfl rfl rfl rfl rfl (by kernel_rfl) Try.func15 VA
    VB VD
    (fun os started H enc _=>VC os started H enc)
#print axioms fnWhy_holds
end Go.Proofs.Ytglpfccgmfhkdaa
