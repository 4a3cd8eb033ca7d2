/- FnExactAnswer holds of every plan and list of events: Answer returns what the reference returns and writes into no argument. -/
import Derived.Test.YtejmihecgodhnaaGreatDoorRows
import Derived.Test.YtejmihecgodhnaaGreatDoorM7
import Derived.WalkKit
import Derived.WalkSpells
import Derived.WalkLawsBesides
import Derived.ProofKit
import Derived.OpenShut
import Derived.Carry
import Derived.ChangeOld
import Derived.Below
import Derived.SizedLaws
import Derived.LaidMore
import Derived.Stop.Joined
import Derived.SevenTiedAt
import Derived.Test.YtejmihecgodhnaaGreatDoorTie
import Derived.Test.YtejmihecgodhnaaGreatDoorCards
namespace Go.Proofs.YtejmihecgodhnaaGreatDoor
open Go.ChangeShapes Go.WideShapes Go.ChangeAt Go.RowKit Fw
set_option linter.unusedVariables false
theorem Tryz.ajL:ownKnob Tryz.prog.godebug=none:=by kernel_rfl
theorem Tryz.UP:laidOutB Tryz.prog=true:=by kernel_rfl
theorem adT (os:Os) (args:Array Value):laidMetH Tryz.prog Rows.fnExactAnswerRow.laid ((World.doorLaid Tryz.prog 24 os).forCall (fun _ _=>0) ⟨#[],args,[]⟩).memory:=
  laidMetH_of_parts3 (fuel:=8) (laidMet_of_run' 8 (by kernel_rfl) (by kernel_rfl)) (by kernel_rfl) (by kernel_rfl)
set_option maxRecDepth 100000 in
theorem adS (os:Os) (started:os.Started) (H:Type) (enc:TypeId×Value→H):
    ReturnsInHanded {} Tryz.checked os 4 .any (fun w args=>(Rows.fnExactAnswerSpec.pre enc Tryz.prog Tryz.f4 [] false w args∧laidMetH Tryz.prog Rows.fnExactAnswerRow.laid w)∧sizedMet enc Tryz.prog Tryz.f4 (OpenSpec.ofChange Rows.fnExactAnswerSpec) false w args) (Rows.fnExactAnswerSpec.post enc Tryz.prog Tryz.f4 false true false false):=by
  refine returnsInHanded_of_change_and (C:=Tryz.checked) (X:=fun w _=>laidMetH Tryz.prog Rows.fnExactAnswerRow.laid w) (fun _ _ _ bz h=>h.of_heap bz) Tryz.ajL started (by kernel_rfl) Tryz.func4
    (ChangeSpec.witness_shaped (enc:=enc) (C:=Tryz.checked) (os:=os) (X:=fun w _=>laidMetH Tryz.prog Rows.fnExactAnswerRow.laid w) false (World.doorLaid Tryz.prog 24 os) #[.agg #[.int .i64 0,.slice none 0 0,.slice none 0 0,.slice none 0 0,.int .i64 0],.slice none 0 0] 8 rfl (World.shaped_of_RefB (by kernel_rfl) (by kernel_rfl)) (by kernel_rfl) (by kernel_rfl) (by kernel_rfl) (adT os _)) ?_
  intro W base args ds gs before SV RY aoh CE _ _
  have b9:(DataW.weightsEach Tryz.prog (Tryz.f4.params.toList++Rows.fnExactAnswerSpec.plain.varTypes Tryz.prog) (ds++gs)).all (· ≤reachBytes)=true:=CE
  have SU: ∀(j:Nat) t v,Tryz.f4.params[j]?=some t→args[j]?=some v→Value.okWide Tryz.prog W .any base t v:=SV
  have aeB:=RY
  obtain⟨p,q,RO,kx,rfl,ae3,mZ⟩:=RY
  have fk:DataW.TrodAll enc Tryz.prog W 0 (fun _=>true) true Tryz.f4.params.toList args.toList ds p:=RO
  rw[Tryz.params4] at fk SU b9
  obtain⟨v0,aox,d0,an6,Mr,cH,aoc,rfl,rfl,az,hH⟩:=trodAll_cons fk
  obtain⟨v1,aoy,d1,an7,jx,q1,rfl,rfl,rfl,h1,dG⟩:=trodAll_cons hH
  obtain⟨rfl,rfl,rfl⟩:=trodAll_nil dG
  obtain rfl:args= #[v0,v1]:=by cases args;simp_all
  obtain⟨rfl,rfl⟩:=trodVars_none kx
  have aZ:=az
  have ajk: ∀x∈Mr,x.block<W.heap.size:=by obtain⟨m,hm⟩:=aZ;exact DataW.trod_lt m _ _ _ hm
  obtain⟨qI,iQ⟩:=aa_ (P:=Tryz.prog) (W:=W) (k:=5) (ajH (t:=51) (a:=3) (b:=23) (c:=49) (d:=25) (e:=3) (by kernel_rfl) (pH (by kernel_rfl)) (sC (t:=23) (e:=3) (enc:=cd) (by kernel_rfl) (Nat.le_of_ble_eq_true (by kernel_rfl)) (Nat.le_of_ble_eq_true (by kernel_rfl)) (fun _=>by kernel_rfl) (pH (by kernel_rfl))) (sC (t:=49) (e:=136) (enc:=(da false)) (by kernel_rfl) (Nat.le_of_ble_eq_true (by kernel_rfl)) (Nat.le_of_ble_eq_true (by kernel_rfl)) (fun _=>by kernel_rfl) (ajI (t:=136) (a:=23) (b:=134) (c:=134) (d:=23) (e:=23) (by kernel_rfl) (sC (t:=23) (e:=3) (enc:=cd) (by kernel_rfl) (Nat.le_of_ble_eq_true (by kernel_rfl)) (Nat.le_of_ble_eq_true (by kernel_rfl)) (fun _=>by kernel_rfl) (pH (by kernel_rfl))) (sC (t:=134) (e:=173) (enc:=cQ) (by kernel_rfl) (Nat.le_of_ble_eq_true (by kernel_rfl)) (Nat.le_of_ble_eq_true (by kernel_rfl)) (fun _=>by kernel_rfl) (Wp (t:=173) (a:=3) (b:=3) (by kernel_rfl) (pH (by kernel_rfl)) (pH (by kernel_rfl)))) (sC (t:=134) (e:=173) (enc:=cQ) (by kernel_rfl) (Nat.le_of_ble_eq_true (by kernel_rfl)) (Nat.le_of_ble_eq_true (by kernel_rfl)) (fun _=>by kernel_rfl) (Wp (t:=173) (a:=3) (b:=3) (by kernel_rfl) (pH (by kernel_rfl)) (pH (by kernel_rfl)))) (sC (t:=23) (e:=3) (enc:=cd) (by kernel_rfl) (Nat.le_of_ble_eq_true (by kernel_rfl)) (Nat.le_of_ble_eq_true (by kernel_rfl)) (fun _=>by kernel_rfl) (pH (by kernel_rfl))) (sC (t:=23) (e:=3) (enc:=cd) (by kernel_rfl) (Nat.le_of_ble_eq_true (by kernel_rfl)) (Nat.le_of_ble_eq_true (by kernel_rfl)) (fun _=>by kernel_rfl) (pH (by kernel_rfl))))) (sC (t:=25) (e:=36) (enc:=(gW aP false)) (by kernel_rfl) (Nat.le_of_ble_eq_true (by kernel_rfl)) (Nat.le_of_ble_eq_true (by kernel_rfl)) (fun _=>by kernel_rfl) (sC (t:=36) (e:=4) (enc:=aP) (by kernel_rfl) (Nat.le_of_ble_eq_true (by kernel_rfl)) (Nat.le_of_ble_eq_true (by kernel_rfl)) (fun _=>by kernel_rfl) (ajJ (by kernel_rfl)))) (pH (by kernel_rfl))) (by decide) (fun _=>rfl) aZ (fun n ag=>by simpa using List.all_eq_true.1 b9 n (DataW.weights_mem_each (j:=0) rfl rfl n ag))
  obtain⟨J,aom,an4,rfl⟩:=okWide_slice (t:=52) (e:=96) (by kernel_rfl) (SU 1 52 v1 rfl rfl)
  have dk:=h1
  have ajl: ∀x∈jx,x.block<W.heap.size:=by obtain⟨m,hm⟩:=dk;exact DataW.trod_lt m _ _ _ hm
  obtain⟨uA,aW⟩:=aa9 (P:=Tryz.prog) (W:=W) (f:=fun xs=> .aX (List.map fJ xs) false false) (sC (t:=52) (e:=96) (enc:=fJ) (by kernel_rfl) (Nat.le_of_ble_eq_true (by kernel_rfl)) (Nat.le_of_ble_eq_true (by kernel_rfl)) (fun _=>by kernel_rfl) (ajG (t:=96) (a:=3) (b:=3) (c:=3) (by kernel_rfl) (pH (by kernel_rfl)) (pH (by kernel_rfl)) (pH (by kernel_rfl)))) (fun _=>rfl) dk (fun n ag=>by simpa using List.all_eq_true.1 b9 n (DataW.weights_mem_each (j:=1) rfl rfl n ag)) rfl
  clear RO SV CE b9
  refine(ahF (ahG qI uA) (af.cons iQ (af.cons aW af.nil))).mono fun e PR ⟨he,ta⟩=> ?_
  subst he
  exact⟨_,rfl,_,_,_,[],_,[],aeB,trodAll_mk1 (shut_bool (by kernel_rfl) _),(trodAll_cons_mk (Below.trod Tryz.UP (by kernel_rfl) (of_decide_eq_true (by kernel_rfl)) aZ ta ajk) (trodAll_cons_mk (Below.trod Tryz.UP (by kernel_rfl) (of_decide_eq_true (by kernel_rfl)) dk ta ajl) trodAll_mk0)),rfl,ta.frame _,fun h=>by cases h⟩
theorem adj:(Rows.fnExactAnswerRow.wf (OpenSpec.ofChange Rows.fnExactAnswerSpec))=true:=by kernel_rfl
theorem adk:(laidOutB Tryz.prog)=true:=by kernel_rfl
theorem adv:(mapsRowed Tryz.prog)=true:=by kernel_rfl
theorem adG:(Tryz.f4.params.all (Tryz.prog.readableRec ·))=true:=by kernel_rfl
theorem adJ:(namedTie Tryz.prog Rows.fnExactAnswerRow.named Rows.fnExactAnswerSpec.vars)=true:=by kernel_rfl
theorem adK:((Rows.fnExactAnswerRow.stops==[]))=true:=by kernel_rfl
theorem adL:((Tryz.prog.stops==[]))=true:=by kernel_rfl
theorem adM:((Rows.fnExactAnswerRow.knobs==[]))=true:=by kernel_rfl
theorem adN:((Tryz.prog.stopKnobs==[]))=true:=by kernel_rfl
theorem adO:((Rows.fnExactAnswerRow.inPlace==Tryz.prog.inPlace 4))=true:=by kernel_rfl
theorem adl:((Rows.fnExactAnswerRow.unfollowed==Tryz.prog.unfollowed 4))=true:=by kernel_rfl
theorem adm:((Rows.fnExactAnswerRow.recurses==Tryz.prog.recurses 4))=true:=by kernel_rfl
theorem adn:((Rows.fnExactAnswerRow.named==Tryz.prog.varsNamed 4))=true:=by kernel_rfl
theorem ado:((Rows.fnExactAnswerRow.maps==(Tryz.f4.params.toList++Rows.fnExactAnswerSpec.plain.varTypes Tryz.prog).any (Tryz.prog.mapsRec ·)))=true:=by kernel_rfl
theorem adp:((Rows.fnExactAnswerRow.ifaces==(Tryz.f4.params.toList++Rows.fnExactAnswerSpec.plain.varTypes Tryz.prog).any (Tryz.prog.ifacesRec ·)))=true:=by kernel_rfl
theorem adq:((Rows.fnExactAnswerRow.mapsOut==Tryz.prog.mapsAmong Tryz.f4.resultTypes.toList))=true:=by kernel_rfl
theorem adr:((Rows.fnExactAnswerRow.loops==(Tryz.f4.params.toList++Rows.fnExactAnswerSpec.plain.varTypes Tryz.prog).any (Tryz.prog.loopsFrom ·)))=true:=by kernel_rfl
theorem ads:((Rows.fnExactAnswerRow.wideKeys==(Tryz.f4.params.toList++Rows.fnExactAnswerSpec.plain.varTypes Tryz.prog++Tryz.f4.resultTypes.toList).any (Tryz.prog.wideKeysFrom ·)))=true:=by kernel_rfl
theorem adt:(Rows.fnExactAnswerSpec.vars.all (Tryz.prog.varReadable ·))=true:=by kernel_rfl
theorem adu:(Tryz.f4.resultTypes.all (fun t=>Tryz.prog.readableRec t&&decide (t<Tryz.prog.types.size)))=true:=by kernel_rfl
theorem adw:((Rows.fnExactAnswerRow.ifacesOut==Tryz.f4.resultTypes.toList.any (Tryz.prog.ifacesRec ·)))=true:=by kernel_rfl
theorem adx:((Rows.fnExactAnswerRow.loopsOut==Tryz.f4.resultTypes.toList.any (Tryz.prog.loopsFrom ·)))=true:=by kernel_rfl
theorem ady:((Rows.fnExactAnswerRow.plainKeys==Tryz.prog.plainKeys))=true:=by kernel_rfl
theorem adz:(Rows.fnExactAnswerRow.shortTexts.isNone)=true:=by kernel_rfl
theorem adA:(Tryz.prog.stopsHeard)=true:=by kernel_rfl
theorem adB:(Tryz.prog.mayEnter)=true:=by kernel_rfl
theorem adC:((Rows.fnExactAnswerRow.lifted==Tryz.prog.liftsFinal))=true:=by kernel_rfl
theorem adD:((Tryz.prog.make==some Rows.fnExactAnswerRow.make))=true:=by kernel_rfl
theorem adE:(UK Tryz.prog Tryz.f4 Rows.fnExactAnswerRow)=true:=by kernel_rfl
theorem adF:((Rows.fnExactAnswerRow.pinned==Rows.fnExactAnswerRow.pinnedBy))=true:=by kernel_rfl
theorem adH:((Rows.fnExactAnswerRow.veiled==(Tryz.f4.params.toList++Rows.fnExactAnswerSpec.plain.varTypes Tryz.prog++Tryz.f4.resultTypes.toList).any (Tryz.prog.veiledRec ·)))=true:=by kernel_rfl
theorem adI:(Rows.fnExactAnswerRow.veiledFits Tryz.prog Tryz.f4.params.toList (Tryz.f4.params.toList++Rows.fnExactAnswerSpec.plain.varTypes Tryz.prog++Tryz.f4.resultTypes.toList))=true:=by kernel_rfl
theorem adP:joinedFacts Tryz.prog 4 Tryz.f4 Rows.fnExactAnswerSpec Rows.fnExactAnswerRow=true:=
  ahA adj adk adv adG adJ adK adL adM adN adO adl adm adn ado adp adq adr ads adt adu adw adx ady adz adA adB adC adD adE adF adH adI
theorem adR:Tryz.f4.isInstance Tryz.prog Rows.fnExactAnswerRow.origin Rows.fnExactAnswerRow.targs:=of_decide_eq_true (by kernel_rfl)
theorem adU:Tryz.f4.isWrapper Tryz.prog Rows.fnExactAnswerRow.wrapper Rows.fnExactAnswerRow.mainSum:=by
  unfold Func.isWrapper
  rw[if_neg (by decide+kernel)]
  exact⟨rfl,rfl⟩
theorem adQ:Rows.FnExactAnswerSaid:=
  OpenClaim.holds_of_wide 4 Tryz.f4 rfl rfl rfl rfl rfl rfl rfl ⟨rfl,rfl,rfl,rfl,rfl⟩ rfl rfl rfl rfl rfl (by kernel_rfl) Tryz.func4 adP
    adR adU
    (fun os started H enc _=>adS os started H enc)
theorem fnExactAnswerCard_holds:Rows.FnExactAnswerCardSaid:=
  Claim7.holds_tied_plain_at .later [] [.data,.data,.data] true (true,"c28e9ee81e88f9c7310748fbaa29960a5f1575b8ebc1551a0d36c3f88a24a771") false
    adQ (fun _ h=>by cases h) (by kernel_rfl) (fun _ h=>by cases h) fnExactAnswer_row_tie rfl ⟨rfl,rfl⟩ (by kernel_rfl) rfl
    (fun f fn hf py=>by
      obtain rfl:f=4:=Option.some.inj ((show Tryz.prog.funcNamed "loop.example/tappet/laws.FnExactAnswer" =some 4 by kernel_rfl).symm.trans hf) |>.symm
      obtain rfl:fn=Tryz.f4:=(Option.some.inj (Tryz.func4.symm.trans py)).symm
      exact⟨by kernel_rfl,fun j t a6=>by
        rw[Tryz.params4] at a6
        have hm:t∈[51,52]:=by simpa using Array.mem_of_getElem? a6
        have dS:([51,52].all fun u=> !Tryz.prog.wantsStandIn u)=true:=by kernel_rfl
        exact(show Tryz.prog.wantsStandIn t=false by simpa using List.all_eq_true.1 dS t hm)⟩)
    (by kernel_rfl)
#print axioms fnExactAnswerCard_holds
end Go.Proofs.YtejmihecgodhnaaGreatDoor
