/- FnExactRun holds of every plan and list of events: Run returns what the reference returns, writes into no argument, and its answer is its own. -/
import Derived.Test.YtejmihecgodhnaaGreatRows
import Derived.Test.YtejmihecgodhnaaGreatM8
import Derived.WalkKit
import Derived.WalkSpells
import Derived.WalkLawsBesides
import Derived.ProofKit
import Derived.OpenShut
import Derived.Carry
import Derived.ChangeOld
import Derived.Below
import Derived.SizedLaws
namespace Go.Proofs.YtejmihecgodhnaaGreat
open Go.ChangeShapes Go.WideShapes Go.ChangeAt Go.RowKit Fw
set_option linter.unusedVariables false
theorem Tryz.amG:ownKnob Tryz.prog.godebug=none:=by kernel_rfl
theorem Tryz.Xj:laidOutB Tryz.prog=true:=by kernel_rfl
set_option maxRecDepth 100000 in
theorem agr (os:Os) (started:os.Started) (H:Type) (enc:TypeId×Value→H):
    ReturnsInHanded {} Tryz.checked os 4 .any (Rows.fnExactRunSpec.pre6 enc Tryz.prog Tryz.f4 Rows.fnExactRunRow.domain false) (Rows.fnExactRunSpec.post enc Tryz.prog Tryz.f4 false true false false):=by
  refine returnsInHanded_of_change_sized (C:=Tryz.checked) Tryz.amG started (by kernel_rfl) Tryz.func4
    (ChangeSpec.witness6 (enc:=enc) (C:=Tryz.checked) false ⟨#[],#[.agg #[.int .i64 0,.slice none 0 0,.slice none 0 0,.slice none 0 0,.int .i64 0],.slice none 0 0],[]⟩ 8 (by kernel_rfl) (by kernel_rfl) (by kernel_rfl) (by kernel_rfl)) ?_
  intro W base args de gs before VB Hn arc D_ _
  have cn:(DataW.weightsEach Tryz.prog (Tryz.f4.params.toList++Rows.fnExactRunSpec.plain.varTypes Tryz.prog) (de++gs)).all (· ≤reachBytes)=true:=D_
  have VA: ∀(j:Nat) t v,Tryz.f4.params[j]?=some t→args[j]?=some v→Value.okWide Tryz.prog W .any base t v:=VB
  have ahc:=Hn
  obtain⟨p,q,UE,nW,rfl,are,ja⟩:=Hn
  have cm:DataW.TrodAll enc Tryz.prog W 0 (fun _=>true) true Tryz.f4.params.toList args.toList de p:=UE
  rw[Tryz.params4] at cm VA cn
  obtain⟨v0,arz,d0,aq2,amL,cG,aq8,rfl,rfl,aA,fA⟩:=trodAll_cons cm
  obtain⟨v1,arA,d1,aq3,jO,q1,rfl,rfl,rfl,h1,c5⟩:=trodAll_cons fA
  obtain⟨rfl,rfl,rfl⟩:=trodAll_nil c5
  obtain rfl:args= #[v0,v1]:=by cases args;simp_all
  obtain⟨rfl,rfl⟩:=trodVars_none nW
  have a8:=aA
  have al2: ∀x∈amL,x.block<W.heap.size:=by obtain⟨m,hm⟩:=a8;exact DataW.trod_lt m _ _ _ hm
  obtain⟨fq,eg⟩:=adR (P:=Tryz.prog) (W:=W) (k:=5) (amC (t:=26) (a:=3) (b:=22) (c:=23) (d:=24) (e:=3) (by kernel_rfl) (qM (by kernel_rfl)) (tJ (t:=22) (e:=3) (enc:=cx) (by kernel_rfl) (Nat.le_of_ble_eq_true (by kernel_rfl)) (Nat.le_of_ble_eq_true (by kernel_rfl)) (fun _=>by kernel_rfl) (qM (by kernel_rfl))) (tJ (t:=23) (e:=122) (enc:=(dj false)) (by kernel_rfl) (Nat.le_of_ble_eq_true (by kernel_rfl)) (Nat.le_of_ble_eq_true (by kernel_rfl)) (fun _=>by kernel_rfl) (amD (t:=122) (a:=22) (b:=120) (c:=120) (d:=22) (e:=22) (by kernel_rfl) (tJ (t:=22) (e:=3) (enc:=cx) (by kernel_rfl) (Nat.le_of_ble_eq_true (by kernel_rfl)) (Nat.le_of_ble_eq_true (by kernel_rfl)) (fun _=>by kernel_rfl) (qM (by kernel_rfl))) (tJ (t:=120) (e:=164) (enc:=dd) (by kernel_rfl) (Nat.le_of_ble_eq_true (by kernel_rfl)) (Nat.le_of_ble_eq_true (by kernel_rfl)) (fun _=>by kernel_rfl) (Y5 (t:=164) (a:=3) (b:=3) (by kernel_rfl) (qM (by kernel_rfl)) (qM (by kernel_rfl)))) (tJ (t:=120) (e:=164) (enc:=dd) (by kernel_rfl) (Nat.le_of_ble_eq_true (by kernel_rfl)) (Nat.le_of_ble_eq_true (by kernel_rfl)) (fun _=>by kernel_rfl) (Y5 (t:=164) (a:=3) (b:=3) (by kernel_rfl) (qM (by kernel_rfl)) (qM (by kernel_rfl)))) (tJ (t:=22) (e:=3) (enc:=cx) (by kernel_rfl) (Nat.le_of_ble_eq_true (by kernel_rfl)) (Nat.le_of_ble_eq_true (by kernel_rfl)) (fun _=>by kernel_rfl) (qM (by kernel_rfl))) (tJ (t:=22) (e:=3) (enc:=cx) (by kernel_rfl) (Nat.le_of_ble_eq_true (by kernel_rfl)) (Nat.le_of_ble_eq_true (by kernel_rfl)) (fun _=>by kernel_rfl) (qM (by kernel_rfl))))) (tJ (t:=24) (e:=27) (enc:=(hq aR false)) (by kernel_rfl) (Nat.le_of_ble_eq_true (by kernel_rfl)) (Nat.le_of_ble_eq_true (by kernel_rfl)) (fun _=>by kernel_rfl) (tJ (t:=27) (e:=4) (enc:=aR) (by kernel_rfl) (Nat.le_of_ble_eq_true (by kernel_rfl)) (Nat.le_of_ble_eq_true (by kernel_rfl)) (fun _=>by kernel_rfl) (amE (by kernel_rfl)))) (qM (by kernel_rfl))) (by decide) (fun _=>rfl) a8 (fun n ag=>by simpa using List.all_eq_true.1 cn n (DataW.weights_mem_each (j:=0) rfl rfl n ag))
  obtain⟨J,arn,aq0,rfl⟩:=okWide_slice (t:=53) (e:=65) (by kernel_rfl) (VA 1 53 v1 rfl rfl)
  have c_:=h1
  have al3: ∀x∈jO,x.block<W.heap.size:=by obtain⟨m,hm⟩:=c_;exact DataW.trod_lt m _ _ _ hm
  obtain⟨gf,aN⟩:=adQ (P:=Tryz.prog) (W:=W) (f:=fun xs=> .aP (List.map dL xs) false false) (tJ (t:=53) (e:=65) (enc:=dL) (by kernel_rfl) (Nat.le_of_ble_eq_true (by kernel_rfl)) (Nat.le_of_ble_eq_true (by kernel_rfl)) (fun _=>by kernel_rfl) (amB (t:=65) (a:=3) (b:=3) (c:=3) (by kernel_rfl) (qM (by kernel_rfl)) (qM (by kernel_rfl)) (qM (by kernel_rfl)))) (fun _=>rfl) c_ (fun n ag=>by simpa using List.all_eq_true.1 cn n (DataW.weights_mem_each (j:=1) rfl rfl n ag)) rfl
  clear UE VB D_ cn
  refine(akb (akf fq gf) (ah.cons eg (ah.cons aN ah.nil))).mono fun e SE ⟨he,KP⟩=> ?_
  subst he
  exact⟨_,rfl,_,_,_,[],_,[],ahc,trodAll_mk1 (shut_bool (by kernel_rfl) _),(trodAll_cons_mk (Below.trod Tryz.Xj (by kernel_rfl) (of_decide_eq_true (by kernel_rfl)) a8 KP al2) (trodAll_cons_mk (Below.trod Tryz.Xj (by kernel_rfl) (of_decide_eq_true (by kernel_rfl)) c_ KP al3) trodAll_mk0)),rfl,KP.frame _,fun h=>by cases h⟩
theorem afT:(Rows.fnExactRunRow.wf (OpenSpec.ofChange Rows.fnExactRunSpec))=true:=by kernel_rfl
theorem afU:(laidOutB Tryz.prog)=true:=by kernel_rfl
theorem af5:(mapsRowed Tryz.prog)=true:=by kernel_rfl
theorem agf:(Tryz.f4.params.all (Tryz.prog.readableRec ·))=true:=by kernel_rfl
theorem agj:(namedTie Tryz.prog Rows.fnExactRunRow.named Rows.fnExactRunSpec.vars)=true:=by kernel_rfl
theorem agk:((Rows.fnExactRunRow.stops==[]))=true:=by kernel_rfl
theorem agl:((Tryz.prog.stops==[]))=true:=by kernel_rfl
theorem agm:((Rows.fnExactRunRow.knobs==[]))=true:=by kernel_rfl
theorem agn:((Tryz.prog.stopKnobs==[]))=true:=by kernel_rfl
theorem ago:((Rows.fnExactRunRow.inPlace==Tryz.prog.inPlace 4))=true:=by kernel_rfl
theorem afV:((Rows.fnExactRunRow.unfollowed==Tryz.prog.unfollowed 4))=true:=by kernel_rfl
theorem afW:((Rows.fnExactRunRow.recurses==Tryz.prog.recurses 4))=true:=by kernel_rfl
theorem afX:((Rows.fnExactRunRow.named==Tryz.prog.varsNamed 4))=true:=by kernel_rfl
theorem afY:((Rows.fnExactRunRow.maps==(Tryz.f4.params.toList++Rows.fnExactRunSpec.plain.varTypes Tryz.prog).any (Tryz.prog.mapsRec ·)))=true:=by kernel_rfl
theorem afZ:((Rows.fnExactRunRow.ifaces==(Tryz.f4.params.toList++Rows.fnExactRunSpec.plain.varTypes Tryz.prog).any (Tryz.prog.ifacesRec ·)))=true:=by kernel_rfl
theorem af0:((Rows.fnExactRunRow.mapsOut==Tryz.prog.mapsAmong Tryz.f4.resultTypes.toList))=true:=by kernel_rfl
theorem af1:((Rows.fnExactRunRow.loops==(Tryz.f4.params.toList++Rows.fnExactRunSpec.plain.varTypes Tryz.prog).any (Tryz.prog.loopsFrom ·)))=true:=by kernel_rfl
theorem af2:((Rows.fnExactRunRow.wideKeys==(Tryz.f4.params.toList++Rows.fnExactRunSpec.plain.varTypes Tryz.prog++Tryz.f4.resultTypes.toList).any (Tryz.prog.wideKeysFrom ·)))=true:=by kernel_rfl
theorem af3:(Rows.fnExactRunSpec.vars.all (Tryz.prog.varReadable ·))=true:=by kernel_rfl
theorem af4:(Tryz.f4.resultTypes.all (fun t=>Tryz.prog.readableRec t&&decide (t<Tryz.prog.types.size)))=true:=by kernel_rfl
theorem af6:((Rows.fnExactRunRow.ifacesOut==Tryz.f4.resultTypes.toList.any (Tryz.prog.ifacesRec ·)))=true:=by kernel_rfl
theorem af7:((Rows.fnExactRunRow.loopsOut==Tryz.f4.resultTypes.toList.any (Tryz.prog.loopsFrom ·)))=true:=by kernel_rfl
theorem af8:((Rows.fnExactRunRow.plainKeys==Tryz.prog.plainKeys))=true:=by kernel_rfl
theorem af9:(Rows.fnExactRunRow.shortTexts.isNone)=true:=by kernel_rfl
theorem af_:(Tryz.prog.stopsHeard)=true:=by kernel_rfl
theorem aga:(Tryz.prog.mayEnter)=true:=by kernel_rfl
theorem agb:((Rows.fnExactRunRow.lifted==Tryz.prog.liftsFinal))=true:=by kernel_rfl
theorem agc:((Tryz.prog.make==some Rows.fnExactRunRow.make))=true:=by kernel_rfl
theorem agd:(Xd Tryz.prog Tryz.f4 Rows.fnExactRunRow)=true:=by kernel_rfl
theorem age:((Rows.fnExactRunRow.pinned==Rows.fnExactRunRow.pinnedBy))=true:=by kernel_rfl
theorem agh:((Rows.fnExactRunRow.veiled==(Tryz.f4.params.toList++Rows.fnExactRunSpec.plain.varTypes Tryz.prog++Tryz.f4.resultTypes.toList).any (Tryz.prog.veiledRec ·)))=true:=by kernel_rfl
theorem agi:(Rows.fnExactRunRow.veiledFits Tryz.prog Tryz.f4.params.toList (Tryz.f4.params.toList++Rows.fnExactRunSpec.plain.varTypes Tryz.prog++Tryz.f4.resultTypes.toList))=true:=by kernel_rfl
theorem agp:joinedFacts Tryz.prog 4 Tryz.f4 Rows.fnExactRunSpec Rows.fnExactRunRow=true:=
  aj4 afT afU af5 agf agj agk agl agm agn ago afV afW afX afY afZ af0 af1 af2 af3 af4 af6 af7 af8 af9 af_ aga agb agc agd age agh agi
theorem agq:Tryz.f4.isInstance Tryz.prog Rows.fnExactRunRow.origin Rows.fnExactRunRow.targs:=of_decide_eq_true (by kernel_rfl)
theorem ags:Tryz.f4.isWrapper Tryz.prog Rows.fnExactRunRow.wrapper Rows.fnExactRunRow.mainSum:=by
  unfold Func.isWrapper
  rw[if_neg (by decide+kernel)]
  exact⟨rfl,rfl⟩
theorem fnExactRun_holds:Rows.FnExactRunSaid:=
  OpenClaim.holds_of_wide 4 Tryz.f4 rfl rfl rfl rfl rfl rfl rfl ⟨rfl,rfl,rfl,rfl,rfl⟩ rfl rfl rfl rfl rfl (by kernel_rfl) Tryz.func4 agp
    agq ags
    (fun os started H enc _=>agr os started H enc)
#print axioms fnExactRun_holds
end Go.Proofs.YtejmihecgodhnaaGreat
