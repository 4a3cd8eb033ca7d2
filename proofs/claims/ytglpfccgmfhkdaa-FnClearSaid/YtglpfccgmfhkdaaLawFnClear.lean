/- A signal is clear only while its way is proved; it is not when somebody is on the way. -/
import Derived.Test.YtglpfccgmfhkdaaRows
import Derived.Test.YtglpfccgmfhkdaaM8
import Derived.WalkKit
import Derived.WalkSpells
import Derived.WalkLawsBesides
import Derived.ProofKit
import Derived.OpenShut
import Derived.Carry
import Derived.ChangeOld
import Derived.Below
import Derived.SizedLaws
namespace Go.Proofs.Ytglpfccgmfhkdaa
open Go.ChangeShapes Go.WideShapes Go.ChangeAt Go.RowKit Fw
set_option linter.unusedVariables false
theorem Try.Z9:ownKnob Try.prog.godebug=none:=by kernel_rfl
theorem Try.Zd:laidOutB Try.prog=true:=by kernel_rfl
set_option maxRecDepth 100000 in
theorem Va (os:Os) (started:os.Started) (H:Type) (enc:TypeId×Value→H):
    ReturnsInHanded {} Try.checked os 13 .any (Rows.fnClearSpec.pre6 enc Try.prog Try.f13 Rows.fnClearRow.domain false) (Rows.fnClearSpec.post enc Try.prog Try.f13 false true false false):=by
  refine returnsInHanded_of_change_sized (C:=Try.checked) Try.Z9 started (by kernel_rfl) Try.func13
    (ChangeSpec.witness6 (enc:=enc) (C:=Try.checked) false ⟨#[],#[.slice none 0 0],[]⟩ 8 (by kernel_rfl) (by kernel_rfl) (by kernel_rfl) (by kernel_rfl)) ?_
  intro W base args jd gs before LL K5 afg yF _
  have cQ:(DataW.weightsEach Try.prog (Try.f13.params.toList++Rows.fnClearSpec.plain.varTypes Try.prog) (jd++gs)).all (· ≤reachBytes)=true:=yF
  have LK: ∀(j:Nat) t v,Try.f13.params[j]?=some t→args[j]?=some v→Value.okWide Try.prog W .any base t v:=LL
  have VX:=K5
  obtain⟨p,q,KW,mb,rfl,afh,mO⟩:=K5
  have ix:DataW.TrodAll enc Try.prog W 0 (fun _=>true) true Try.f13.params.toList args.toList jd p:=KW
  rw[Try.params13] at ix LK cQ
  obtain⟨h0,afA,d0,ae8,uF,dL,afe,rfl,rfl,aT,mZ⟩:=trodAll_cons ix
  obtain⟨rfl,rfl,rfl⟩:=trodAll_nil mZ
  obtain rfl:args= #[h0]:=by cases args;simp_all
  obtain⟨rfl,rfl⟩:=trodVars_none mb
  obtain⟨J,dh,ae6,rfl⟩:=okWide_slice (t:=23) (e:=5) (by kernel_rfl) (LK 0 23 h0 rfl rfl)
  have ba:=aT
  have ZJ: ∀x∈uF,x.block<W.heap.size:=by obtain⟨m,hm⟩:=ba;exact DataW.trod_lt m _ _ _ hm
  obtain⟨CI,ie⟩:=SM (P:=Try.prog) (W:=W) (f:=fun xs=> .bC (List.map p9 xs) false false) (Z6 (t:=23) (e:=5) (enc:=p9) (by kernel_rfl) (Nat.le_of_ble_eq_true (by kernel_rfl)) (Nat.le_of_ble_eq_true (by kernel_rfl)) (fun _=>by kernel_rfl) (Z7 (by kernel_rfl))) (fun _=>rfl) ba (fun n aH=>by simpa using List.all_eq_true.1 cQ n (DataW.weights_mem_each (j:=0) rfl rfl n aH)) rfl
  clear KW LL yF cQ
  refine(Ze (Zf CI) (aD.cons ie aD.nil)).mono fun e Ja ⟨he,Jt⟩=> ?_
  subst he
  exact⟨_,rfl,_,_,_,[],_,[],VX,trodAll_mk1 (shut_bool (by kernel_rfl) _),(trodAll_cons_mk (Below.trod Try.Zd (by kernel_rfl) (of_decide_eq_true (by kernel_rfl)) ba Jt ZJ) trodAll_mk0),rfl,Jt.frame _,fun h=>by cases h⟩
theorem UC:(Rows.fnClearRow.wf (OpenSpec.ofChange Rows.fnClearSpec))=true:=by kernel_rfl
theorem UD:(laidOutB Try.prog)=true:=by kernel_rfl
theorem UO:(mapsRowed Try.prog)=true:=by kernel_rfl
theorem U0:(Try.f13.params.all (Try.prog.readableRec ·))=true:=by kernel_rfl
theorem U3:(namedTie Try.prog Rows.fnClearRow.named Rows.fnClearSpec.vars)=true:=by kernel_rfl
theorem U4:((Rows.fnClearRow.stops==[]))=true:=by kernel_rfl
theorem U5:((Try.prog.stops==[]))=true:=by kernel_rfl
theorem U6:((Rows.fnClearRow.knobs==[]))=true:=by kernel_rfl
theorem U7:((Try.prog.stopKnobs==[]))=true:=by kernel_rfl
theorem U8:((Rows.fnClearRow.inPlace==Try.prog.inPlace 13))=true:=by kernel_rfl
theorem UE:((Rows.fnClearRow.unfollowed==Try.prog.unfollowed 13))=true:=by kernel_rfl
theorem UF:((Rows.fnClearRow.recurses==Try.prog.recurses 13))=true:=by kernel_rfl
theorem UG:((Rows.fnClearRow.named==Try.prog.varsNamed 13))=true:=by kernel_rfl
theorem UH:((Rows.fnClearRow.maps==(Try.f13.params.toList++Rows.fnClearSpec.plain.varTypes Try.prog).any (Try.prog.mapsRec ·)))=true:=by kernel_rfl
theorem UI:((Rows.fnClearRow.ifaces==(Try.f13.params.toList++Rows.fnClearSpec.plain.varTypes Try.prog).any (Try.prog.ifacesRec ·)))=true:=by kernel_rfl
theorem UJ:((Rows.fnClearRow.mapsOut==Try.prog.mapsAmong Try.f13.resultTypes.toList))=true:=by kernel_rfl
theorem UK:((Rows.fnClearRow.loops==(Try.f13.params.toList++Rows.fnClearSpec.plain.varTypes Try.prog).any (Try.prog.loopsFrom ·)))=true:=by kernel_rfl
theorem UL:((Rows.fnClearRow.wideKeys==(Try.f13.params.toList++Rows.fnClearSpec.plain.varTypes Try.prog++Try.f13.resultTypes.toList).any (Try.prog.wideKeysFrom ·)))=true:=by kernel_rfl
theorem UM:(Rows.fnClearSpec.vars.all (Try.prog.varReadable ·))=true:=by kernel_rfl
theorem UN:(Try.f13.resultTypes.all (fun t=>Try.prog.readableRec t&&decide (t<Try.prog.types.size)))=true:=by kernel_rfl
theorem UP:((Rows.fnClearRow.ifacesOut==Try.f13.resultTypes.toList.any (Try.prog.ifacesRec ·)))=true:=by kernel_rfl
theorem UQ:((Rows.fnClearRow.loopsOut==Try.f13.resultTypes.toList.any (Try.prog.loopsFrom ·)))=true:=by kernel_rfl
theorem UR:((Rows.fnClearRow.plainKeys==Try.prog.plainKeys))=true:=by kernel_rfl
theorem US:(Rows.fnClearRow.shortTexts.isNone)=true:=by kernel_rfl
theorem UT:(Try.prog.stopsHeard)=true:=by kernel_rfl
theorem UU:(Try.prog.mayEnter)=true:=by kernel_rfl
theorem UW:((Rows.fnClearRow.lifted==Try.prog.liftsFinal))=true:=by kernel_rfl
theorem UX:((Try.prog.make==some Rows.fnClearRow.make))=true:=by kernel_rfl
theorem UY:(Ng Try.prog Try.f13 Rows.fnClearRow)=true:=by kernel_rfl
theorem UZ:((Rows.fnClearRow.pinned==Rows.fnClearRow.pinnedBy))=true:=by kernel_rfl
theorem U1:((Rows.fnClearRow.veiled==(Try.f13.params.toList++Rows.fnClearSpec.plain.varTypes Try.prog++Try.f13.resultTypes.toList).any (Try.prog.veiledRec ·)))=true:=by kernel_rfl
theorem U2:(Rows.fnClearRow.veiledFits Try.prog Try.f13.params.toList (Try.f13.params.toList++Rows.fnClearSpec.plain.varTypes Try.prog++Try.f13.resultTypes.toList))=true:=by kernel_rfl
theorem U9:joinedFacts Try.prog 13 Try.f13 Rows.fnClearSpec Rows.fnClearRow=true:=
  Y8 UC UD UO U0 U3 U4 U5 U6 U7 U8 UE UF UG UH UI UJ UK UL UM UN UP UQ UR US UT UU UW UX UY UZ U1 U2
theorem U_:Try.f13.isInstance Try.prog Rows.fnClearRow.origin Rows.fnClearRow.targs:=of_decide_eq_true (by kernel_rfl)
theorem Vb:Try.f13.isWrapper Try.prog Rows.fnClearRow.wrapper Rows.fnClearRow.mainSum:=by
  unfold Func.isWrapper
  rw[if_neg (by decide+kernel)]
  exact⟨rfl,rfl⟩
theorem fnClear_holds:Rows.FnClearSaid:=
  OpenClaim.holds_of_wide 13 Try.f13 rfl rfl rfl rfl rfl rfl rfl ⟨rfl,rfl,rfl,rfl,rfl⟩ rfl rfl rfl rfl rfl (by kernel_rfl) Try.func13 U9
    U_ Vb
    (fun os started H enc _=>Va os started H enc)
#print axioms fnClear_holds
end Go.Proofs.Ytglpfccgmfhkdaa
