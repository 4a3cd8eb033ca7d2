/- A switch is wanted otherwise only when a way is set or somebody asks for it by hand, and only when no way wants it to stay and nobody is in its section; what held ways want is how it is wanted. -/
import Derived.Test.YtglpfccgmfhkdaaRows
import Derived.Test.YtglpfccgmfhkdaaM8
import Derived.WalkKit
import Derived.WalkSpells
import Derived.WalkLawsBesides
import Derived.ProofKit
import Derived.OpenShut
import Derived.Carry
import Derived.ChangeOld
import Derived.Below
import Derived.SizedLaws
namespace Go.Proofs.Ytglpfccgmfhkdaa
open Go.ChangeShapes Go.WideShapes Go.ChangeAt Go.RowKit Fw
set_option linter.unusedVariables false
theorem Try.aa1:ownKnob Try.prog.godebug=none:=by kernel_rfl
theorem Try.ZZ:laidOutB Try.prog=true:=by kernel_rfl
set_option maxRecDepth 100000 in
theorem V7 (os:Os) (started:os.Started) (H:Type) (enc:TypeId×Value→H):
    ReturnsInHanded {} Try.checked os 14 .any (Rows.fnStillSpec.pre6 enc Try.prog Try.f14 Rows.fnStillRow.domain false) (Rows.fnStillSpec.post enc Try.prog Try.f14 false true false false):=by
  refine returnsInHanded_of_change_sized (C:=Try.checked) Try.aa1 started (by kernel_rfl) Try.func14
    (ChangeSpec.witness6 (enc:=enc) (C:=Try.checked) false ⟨#[],#[.slice none 0 0],[]⟩ 8 (by kernel_rfl) (by kernel_rfl) (by kernel_rfl) (by kernel_rfl)) ?_
  intro W base args jt gs before Mo LG af_ y6 _
  have cY:(DataW.weightsEach Try.prog (Try.f14.params.toList++Rows.fnStillSpec.plain.varTypes Try.prog) (jt++gs)).all (· ≤reachBytes)=true:=y6
  have Mn: ∀(j:Nat) t v,Try.f14.params[j]?=some t→args[j]?=some v→Value.okWide Try.prog W .any base t v:=Mo
  have WU:=LG
  obtain⟨p,q,Lw,mv,rfl,aga,m9⟩:=LG
  have iF:DataW.TrodAll enc Try.prog W 0 (fun _=>true) true Try.f14.params.toList args.toList jt p:=Lw
  rw[Try.params14] at iF Mn cY
  obtain⟨h9,agw,d0,af1,qY,dX,af8,rfl,rfl,aT,nk⟩:=trodAll_cons iF
  obtain⟨rfl,rfl,rfl⟩:=trodAll_nil nk
  obtain rfl:args= #[h9]:=by cases args;simp_all
  obtain⟨rfl,rfl⟩:=trodVars_none mv
  obtain⟨J,dp,afZ,rfl⟩:=okWide_slice (t:=23) (e:=5) (by kernel_rfl) (Mn 0 23 h9 rfl rfl)
  have a4:=aT
  have aay: ∀x∈qY,x.block<W.heap.size:=by obtain⟨m,hm⟩:=a4;exact DataW.trod_lt m _ _ _ hm
  obtain⟨Dd,il⟩:=TF (P:=Try.prog) (W:=W) (f:=fun xs=> .bC (List.map qu xs) false false) (aaY (t:=23) (e:=5) (enc:=qu) (by kernel_rfl) (Nat.le_of_ble_eq_true (by kernel_rfl)) (Nat.le_of_ble_eq_true (by kernel_rfl)) (fun _=>by kernel_rfl) (aaZ (by kernel_rfl))) (fun _=>rfl) a4 (fun n aG=>by simpa using List.all_eq_true.1 cY n (DataW.weights_mem_each (j:=0) rfl rfl n aG)) rfl
  clear Lw Mo y6 cY
  refine(Z0 (Z1 Dd) (aD.cons il aD.nil)).mono fun e JG ⟨he,JZ⟩=> ?_
  subst he
  exact⟨_,rfl,_,_,_,[],_,[],WU,trodAll_mk1 (shut_bool (by kernel_rfl) _),(trodAll_cons_mk (Below.trod Try.ZZ (by kernel_rfl) (of_decide_eq_true (by kernel_rfl)) a4 JZ aay) trodAll_mk0),rfl,JZ.frame _,fun h=>by cases h⟩
theorem Vx:(Rows.fnStillRow.wf (OpenSpec.ofChange Rows.fnStillSpec))=true:=by kernel_rfl
theorem Vy:(laidOutB Try.prog)=true:=by kernel_rfl
theorem VJ:(mapsRowed Try.prog)=true:=by kernel_rfl
theorem VU:(Try.f14.params.all (Try.prog.readableRec ·))=true:=by kernel_rfl
theorem VX:(namedTie Try.prog Rows.fnStillRow.named Rows.fnStillSpec.vars)=true:=by kernel_rfl
theorem VY:((Rows.fnStillRow.stops==[]))=true:=by kernel_rfl
theorem VZ:((Try.prog.stops==[]))=true:=by kernel_rfl
theorem V0:((Rows.fnStillRow.knobs==[]))=true:=by kernel_rfl
theorem V1:((Try.prog.stopKnobs==[]))=true:=by kernel_rfl
theorem V4:((Rows.fnStillRow.inPlace==Try.prog.inPlace 14))=true:=by kernel_rfl
theorem Vz:((Rows.fnStillRow.unfollowed==Try.prog.unfollowed 14))=true:=by kernel_rfl
theorem VA:((Rows.fnStillRow.recurses==Try.prog.recurses 14))=true:=by kernel_rfl
theorem VB:((Rows.fnStillRow.named==Try.prog.varsNamed 14))=true:=by kernel_rfl
theorem VC:((Rows.fnStillRow.maps==(Try.f14.params.toList++Rows.fnStillSpec.plain.varTypes Try.prog).any (Try.prog.mapsRec ·)))=true:=by kernel_rfl
theorem VD:((Rows.fnStillRow.ifaces==(Try.f14.params.toList++Rows.fnStillSpec.plain.varTypes Try.prog).any (Try.prog.ifacesRec ·)))=true:=by kernel_rfl
theorem VE:((Rows.fnStillRow.mapsOut==Try.prog.mapsAmong Try.f14.resultTypes.toList))=true:=by kernel_rfl
theorem VF:((Rows.fnStillRow.loops==(Try.f14.params.toList++Rows.fnStillSpec.plain.varTypes Try.prog).any (Try.prog.loopsFrom ·)))=true:=by kernel_rfl
theorem VG:((Rows.fnStillRow.wideKeys==(Try.f14.params.toList++Rows.fnStillSpec.plain.varTypes Try.prog++Try.f14.resultTypes.toList).any (Try.prog.wideKeysFrom ·)))=true:=by kernel_rfl
theorem VH:(Rows.fnStillSpec.vars.all (Try.prog.varReadable ·))=true:=by kernel_rfl
theorem VI:(Try.f14.resultTypes.all (fun t=>Try.prog.readableRec t&&decide (t<Try.prog.types.size)))=true:=by kernel_rfl
theorem VK:((Rows.fnStillRow.ifacesOut==Try.f14.resultTypes.toList.any (Try.prog.ifacesRec ·)))=true:=by kernel_rfl
theorem VL:((Rows.fnStillRow.loopsOut==Try.f14.resultTypes.toList.any (Try.prog.loopsFrom ·)))=true:=by kernel_rfl
theorem VM:((Rows.fnStillRow.plainKeys==Try.prog.plainKeys))=true:=by kernel_rfl
theorem VN:(Rows.fnStillRow.shortTexts.isNone)=true:=by kernel_rfl
theorem VO:(Try.prog.stopsHeard)=true:=by kernel_rfl
theorem VP:(Try.prog.mayEnter)=true:=by kernel_rfl
theorem VQ:((Rows.fnStillRow.lifted==Try.prog.liftsFinal))=true:=by kernel_rfl
theorem VR:((Try.prog.make==some Rows.fnStillRow.make))=true:=by kernel_rfl
theorem VS:(NV Try.prog Try.f14 Rows.fnStillRow)=true:=by kernel_rfl
theorem VT:((Rows.fnStillRow.pinned==Rows.fnStillRow.pinnedBy))=true:=by kernel_rfl
theorem VV:((Rows.fnStillRow.veiled==(Try.f14.params.toList++Rows.fnStillSpec.plain.varTypes Try.prog++Try.f14.resultTypes.toList).any (Try.prog.veiledRec ·)))=true:=by kernel_rfl
theorem VW:(Rows.fnStillRow.veiledFits Try.prog Try.f14.params.toList (Try.f14.params.toList++Rows.fnStillSpec.plain.varTypes Try.prog++Try.f14.resultTypes.toList))=true:=by kernel_rfl
theorem V5:joinedFacts Try.prog 14 Try.f14 Rows.fnStillSpec Rows.fnStillRow=true:=
  ZT Vx Vy VJ VU VX VY VZ V0 V1 V4 Vz VA VB VC VD VE VF VG VH VI VK VL VM VN VO VP VQ VR VS VT VV VW
theorem V6:Try.f14.isInstance Try.prog Rows.fnStillRow.origin Rows.fnStillRow.targs:=of_decide_eq_true (by kernel_rfl)
theorem V8:Try.f14.isWrapper Try.prog Rows.fnStillRow.wrapper Rows.fnStillRow.mainSum:=by
  unfold Func.isWrapper
  rw[if_neg (by decide+kernel)]
  exact⟨rfl,rfl⟩
theorem fnStill_holds:Rows.FnStillSaid:=
  OpenClaim.holds_of_wide 14 Try.f14 rfl rfl rfl rfl rfl rfl rfl ⟨rfl,rfl,rfl,rfl,rfl⟩ rfl rfl rfl rfl rfl (by kernel_rfl) Try.func14 V5
    V6 V8
    (fun os started H enc _=>V7 os started H enc)
#print axioms fnStill_holds
end Go.Proofs.Ytglpfccgmfhkdaa
