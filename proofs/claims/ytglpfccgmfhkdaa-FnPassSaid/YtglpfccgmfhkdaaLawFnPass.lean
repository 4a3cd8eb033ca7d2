/- A train passes a way: each section is let go of behind it, in order, and the way is idle when it has left. -/
import Derived.Test.YtglpfccgmfhkdaaRows
import Derived.Test.YtglpfccgmfhkdaaM7
import Derived.WalkKit
import Derived.WalkSpells
import Derived.WalkLawsBesides
import Derived.ProofKit
import Derived.OpenShut
import Derived.Carry
import Derived.ChangeOld
import Derived.Below
import Derived.SizedLaws
namespace Go.Proofs.Ytglpfccgmfhkdaa
open Go.ChangeShapes Go.WideShapes Go.ChangeAt Go.RowKit Fw
set_option linter.unusedVariables false
theorem Try.VM:ownKnob Try.prog.godebug=none:=by kernel_rfl
theorem Try.UG:laidOutB Try.prog=true:=by kernel_rfl
set_option maxRecDepth 100000 in
theorem Q3 (os:Os) (started:os.Started) (H:Type) (enc:TypeId×Value→H):
    ReturnsInHanded {} Try.checked os 8 .any (Rows.fnPassSpec.pre6 enc Try.prog Try.f8 Rows.fnPassRow.domain false) (Rows.fnPassSpec.post enc Try.prog Try.f8 false true false false):=by
  refine returnsInHanded_of_change_sized (C:=Try.checked) Try.VM started (by kernel_rfl) Try.func8
    (ChangeSpec.witness6 (enc:=enc) (C:=Try.checked) false ⟨#[],#[.slice none 0 0],[]⟩ 8 (by kernel_rfl) (by kernel_rfl) (by kernel_rfl) (by kernel_rfl)) ?_
  intro W base args ik gs before I0 Ij ZR v8 _
  have cH:(DataW.weightsEach Try.prog (Try.f8.params.toList++Rows.fnPassSpec.plain.varTypes Try.prog) (ik++gs)).all (· ≤reachBytes)=true:=v8
  have IZ: ∀(j:Nat) t v,Try.f8.params[j]?=some t→args[j]?=some v→Value.okWide Try.prog W .any base t v:=I0
  have RL:=Ij
  obtain⟨p,q,H_,ln,rfl,ZS,lP⟩:=Ij
  have hB:DataW.TrodAll enc Try.prog W 0 (fun _=>true) true Try.f8.params.toList args.toList ik p:=H_
  rw[Try.params8] at hB IZ cH
  obtain⟨g9,Z8,d0,ZI,VP,dX,ZP,rfl,rfl,a0,lV⟩:=trodAll_cons hB
  obtain⟨rfl,rfl,rfl⟩:=trodAll_nil lV
  obtain rfl:args= #[g9]:=by cases args;simp_all
  obtain⟨rfl,rfl⟩:=trodVars_none ln
  obtain⟨J,de,ZG,rfl⟩:=okWide_slice (t:=23) (e:=5) (by kernel_rfl) (IZ 0 23 g9 rfl rfl)
  have bf:=a0
  have Vq: ∀x∈VP,x.block<W.heap.size:=by obtain⟨m,hm⟩:=bf;exact DataW.trod_lt m _ _ _ hm
  obtain⟨zP,jf⟩:=OL (P:=Try.prog) (W:=W) (f:=fun xs=> .be (List.map jg xs) false false) (VJ (t:=23) (e:=5) (enc:=jg) (by kernel_rfl) (Nat.le_of_ble_eq_true (by kernel_rfl)) (Nat.le_of_ble_eq_true (by kernel_rfl)) (fun _=>by kernel_rfl) (VK (by kernel_rfl))) (fun _=>rfl) bf (fun n aC=>by simpa using List.all_eq_true.1 cH n (DataW.weights_mem_each (j:=0) rfl rfl n aC)) rfl
  clear H_ I0 v8 cH
  refine(UH (UI zP) (av.cons jf av.nil)).mono fun e Gt ⟨he,GL⟩=> ?_
  subst he
  exact⟨_,rfl,_,_,_,[],_,[],RL,trodAll_mk1 (shut_bool (by kernel_rfl) _),(trodAll_cons_mk (Below.trod Try.UG (by kernel_rfl) (of_decide_eq_true (by kernel_rfl)) bf GL Vq) trodAll_mk0),rfl,GL.frame _,fun h=>by cases h⟩
theorem Qv:(Rows.fnPassRow.wf (OpenSpec.ofChange Rows.fnPassSpec))=true:=by kernel_rfl
theorem Qw:(laidOutB Try.prog)=true:=by kernel_rfl
theorem QH:(mapsRowed Try.prog)=true:=by kernel_rfl
theorem QS:(Try.f8.params.all (Try.prog.readableRec ·))=true:=by kernel_rfl
theorem QV:(namedTie Try.prog Rows.fnPassRow.named Rows.fnPassSpec.vars)=true:=by kernel_rfl
theorem QW:((Rows.fnPassRow.stops==[]))=true:=by kernel_rfl
theorem QX:((Try.prog.stops==[]))=true:=by kernel_rfl
theorem QY:((Rows.fnPassRow.knobs==[]))=true:=by kernel_rfl
theorem QZ:((Try.prog.stopKnobs==[]))=true:=by kernel_rfl
theorem Q0:((Rows.fnPassRow.inPlace==Try.prog.inPlace 8))=true:=by kernel_rfl
theorem Qx:((Rows.fnPassRow.unfollowed==Try.prog.unfollowed 8))=true:=by kernel_rfl
theorem Qy:((Rows.fnPassRow.recurses==Try.prog.recurses 8))=true:=by kernel_rfl
theorem Qz:((Rows.fnPassRow.named==Try.prog.varsNamed 8))=true:=by kernel_rfl
theorem QA:((Rows.fnPassRow.maps==(Try.f8.params.toList++Rows.fnPassSpec.plain.varTypes Try.prog).any (Try.prog.mapsRec ·)))=true:=by kernel_rfl
theorem QB:((Rows.fnPassRow.ifaces==(Try.f8.params.toList++Rows.fnPassSpec.plain.varTypes Try.prog).any (Try.prog.ifacesRec ·)))=true:=by kernel_rfl
theorem QC:((Rows.fnPassRow.mapsOut==Try.prog.mapsAmong Try.f8.resultTypes.toList))=true:=by kernel_rfl
theorem QD:((Rows.fnPassRow.loops==(Try.f8.params.toList++Rows.fnPassSpec.plain.varTypes Try.prog).any (Try.prog.loopsFrom ·)))=true:=by kernel_rfl
theorem QE:((Rows.fnPassRow.wideKeys==(Try.f8.params.toList++Rows.fnPassSpec.plain.varTypes Try.prog++Try.f8.resultTypes.toList).any (Try.prog.wideKeysFrom ·)))=true:=by kernel_rfl
theorem QF:(Rows.fnPassSpec.vars.all (Try.prog.varReadable ·))=true:=by kernel_rfl
theorem QG:(Try.f8.resultTypes.all (fun t=>Try.prog.readableRec t&&decide (t<Try.prog.types.size)))=true:=by kernel_rfl
theorem QI:((Rows.fnPassRow.ifacesOut==Try.f8.resultTypes.toList.any (Try.prog.ifacesRec ·)))=true:=by kernel_rfl
theorem QJ:((Rows.fnPassRow.loopsOut==Try.f8.resultTypes.toList.any (Try.prog.loopsFrom ·)))=true:=by kernel_rfl
theorem QK:((Rows.fnPassRow.plainKeys==Try.prog.plainKeys))=true:=by kernel_rfl
theorem QL:(Rows.fnPassRow.shortTexts.isNone)=true:=by kernel_rfl
theorem QM:(Try.prog.stopsHeard)=true:=by kernel_rfl
theorem QN:(Try.prog.mayEnter)=true:=by kernel_rfl
theorem QO:((Rows.fnPassRow.lifted==Try.prog.liftsFinal))=true:=by kernel_rfl
theorem QP:((Try.prog.make==some Rows.fnPassRow.make))=true:=by kernel_rfl
theorem QQ:(Ke Try.prog Try.f8 Rows.fnPassRow)=true:=by kernel_rfl
theorem QR:((Rows.fnPassRow.pinned==Rows.fnPassRow.pinnedBy))=true:=by kernel_rfl
theorem QT:((Rows.fnPassRow.veiled==(Try.f8.params.toList++Rows.fnPassSpec.plain.varTypes Try.prog++Try.f8.resultTypes.toList).any (Try.prog.veiledRec ·)))=true:=by kernel_rfl
theorem QU:(Rows.fnPassRow.veiledFits Try.prog Try.f8.params.toList (Try.f8.params.toList++Rows.fnPassSpec.plain.varTypes Try.prog++Try.f8.resultTypes.toList))=true:=by kernel_rfl
theorem Q1:joinedFacts Try.prog 8 Try.f8 Rows.fnPassSpec Rows.fnPassRow=true:=
  UB Qv Qw QH QS QV QW QX QY QZ Q0 Qx Qy Qz QA QB QC QD QE QF QG QI QJ QK QL QM QN QO QP QQ QR QT QU
theorem Q2:Try.f8.isInstance Try.prog Rows.fnPassRow.origin Rows.fnPassRow.targs:=of_decide_eq_true (by kernel_rfl)
theorem Q4:Try.f8.isWrapper Try.prog Rows.fnPassRow.wrapper Rows.fnPassRow.mainSum:=by
  unfold Func.isWrapper
  rw[if_neg (by decide+kernel)]
  exact⟨rfl,rfl⟩
theorem fnPass_holds:Rows.FnPassSaid:=
  OpenClaim.holds_of_wide 8 Try.f8 rfl rfl rfl rfl rfl rfl rfl ⟨rfl,rfl,rfl,rfl,rfl⟩ rfl rfl rfl rfl rfl (by kernel_rfl) Try.func8 Q1
    Q2 Q4
    (fun os started H enc _=>Q3 os started H enc)
#print axioms fnPass_holds
end Go.Proofs.Ytglpfccgmfhkdaa
