/- FnExactShown holds of every plan and every frame: Shown returns what the reference returns, and its arguments are as they were. -/
import Derived.Test.YtglpfccgmfhkdaaRows
import Derived.Test.YtglpfccgmfhkdaaM6
import Derived.WalkKit
import Derived.WalkSpells
import Derived.WalkLawsBesides
import Derived.ProofKit
import Derived.OpenShut
import Derived.Carry
import Derived.ChangeOld
import Derived.Below
import Derived.SizedLaws
namespace Go.Proofs.Ytglpfccgmfhkdaa
open Go.ChangeShapes Go.WideShapes Go.ChangeAt Go.RowKit Fw
set_option linter.unusedVariables false
theorem Try.V7:ownKnob Try.prog.godebug=none:=by kernel_rfl
theorem Try.H7:laidOutB Try.prog=true:=by kernel_rfl
set_option maxRecDepth 100000 in
theorem P9 (os:Os) (started:os.Started) (H:Type) (enc:TypeId×Value→H):
    ReturnsInHanded {} Try.checked os 18 .any (Rows.fnExactShownSpec.pre6 enc Try.prog Try.f18 Rows.fnExactShownRow.domain false) (Rows.fnExactShownSpec.post enc Try.prog Try.f18 false true false false):=by
  refine returnsInHanded_of_change_sized (C:=Try.checked) Try.V7 started (by kernel_rfl) Try.func18
    (ChangeSpec.witness6 (enc:=enc) (C:=Try.checked) false ⟨#[],#[.agg #[.int .i64 0,.slice none 0 0,.slice none 0 0,.slice none 0 0,.int .i64 0],.agg #[.bool false,.slice none 0 0,.slice none 0 0,.slice none 0 0]],[]⟩ 8 (by kernel_rfl) (by kernel_rfl) (by kernel_rfl) (by kernel_rfl)) ?_
  intro W base args gS gs before G7 Gc aal uO _
  have bX:(DataW.weightsEach Try.prog (Try.f18.params.toList++Rows.fnExactShownSpec.plain.varTypes Try.prog) (gS++gs)).all (· ≤reachBytes)=true:=uO
  have R5: ∀(j:Nat) t v,Try.f18.params[j]?=some t→args[j]?=some v→Value.okWide Try.prog W .any base t v:=G7
  have QU:=Gc
  obtain⟨p,q,F4,jL,rfl,Rh,lY⟩:=Gc
  have gC:DataW.TrodAll enc Try.prog W 0 (fun _=>true) true Try.f18.params.toList args.toList gS p:=F4
  rw[Try.params18] at gC R5 bX
  obtain⟨v0,aaE,d0,aac,V_,cj,aah,rfl,rfl,aN,fJ⟩:=trodAll_cons gC
  obtain⟨v1,aaF,d1,aad,yc,q1,rfl,rfl,rfl,h1,dr⟩:=trodAll_cons fJ
  obtain⟨rfl,rfl,rfl⟩:=trodAll_nil dr
  obtain rfl:args= #[v0,v1]:=by cases args;simp_all
  obtain⟨rfl,rfl⟩:=trodVars_none jL
  have a7:=aN
  have VE: ∀x∈V_,x.block<W.heap.size:=by obtain⟨m,hm⟩:=a7;exact DataW.trod_lt m _ _ _ hm
  obtain⟨j2,k5⟩:=Es (P:=Try.prog) (W:=W) (k:=5) (V1 (t:=48) (a:=3) (b:=25) (c:=46) (d:=27) (e:=3) (by kernel_rfl) (kg (by kernel_rfl)) (ls (t:=25) (e:=3) (enc:=ca) (by kernel_rfl) (Nat.le_of_ble_eq_true (by kernel_rfl)) (Nat.le_of_ble_eq_true (by kernel_rfl)) (fun _=>by kernel_rfl) (kg (by kernel_rfl))) (ls (t:=46) (e:=140) (enc:=(dI false)) (by kernel_rfl) (Nat.le_of_ble_eq_true (by kernel_rfl)) (Nat.le_of_ble_eq_true (by kernel_rfl)) (fun _=>by kernel_rfl) (V5 (t:=140) (a:=25) (b:=138) (c:=138) (d:=25) (e:=25) (by kernel_rfl) (ls (t:=25) (e:=3) (enc:=ca) (by kernel_rfl) (Nat.le_of_ble_eq_true (by kernel_rfl)) (Nat.le_of_ble_eq_true (by kernel_rfl)) (fun _=>by kernel_rfl) (kg (by kernel_rfl))) (ls (t:=138) (e:=187) (enc:=dh) (by kernel_rfl) (Nat.le_of_ble_eq_true (by kernel_rfl)) (Nat.le_of_ble_eq_true (by kernel_rfl)) (fun _=>by kernel_rfl) (JV (t:=187) (a:=3) (b:=3) (by kernel_rfl) (kg (by kernel_rfl)) (kg (by kernel_rfl)))) (ls (t:=138) (e:=187) (enc:=dh) (by kernel_rfl) (Nat.le_of_ble_eq_true (by kernel_rfl)) (Nat.le_of_ble_eq_true (by kernel_rfl)) (fun _=>by kernel_rfl) (JV (t:=187) (a:=3) (b:=3) (by kernel_rfl) (kg (by kernel_rfl)) (kg (by kernel_rfl)))) (ls (t:=25) (e:=3) (enc:=ca) (by kernel_rfl) (Nat.le_of_ble_eq_true (by kernel_rfl)) (Nat.le_of_ble_eq_true (by kernel_rfl)) (fun _=>by kernel_rfl) (kg (by kernel_rfl))) (ls (t:=25) (e:=3) (enc:=ca) (by kernel_rfl) (Nat.le_of_ble_eq_true (by kernel_rfl)) (Nat.le_of_ble_eq_true (by kernel_rfl)) (fun _=>by kernel_rfl) (kg (by kernel_rfl))))) (ls (t:=27) (e:=36) (enc:=(e3 aT false)) (by kernel_rfl) (Nat.le_of_ble_eq_true (by kernel_rfl)) (Nat.le_of_ble_eq_true (by kernel_rfl)) (fun _=>by kernel_rfl) (ls (t:=36) (e:=4) (enc:=aT) (by kernel_rfl) (Nat.le_of_ble_eq_true (by kernel_rfl)) (Nat.le_of_ble_eq_true (by kernel_rfl)) (fun _=>by kernel_rfl) (vd (by kernel_rfl)))) (kg (by kernel_rfl))) (by decide) (fun _=>rfl) a7 (fun n ap=>by simpa using List.all_eq_true.1 bX n (DataW.weights_mem_each (j:=0) rfl rfl n ap))
  have cY:=h1
  have VF: ∀x∈yc,x.block<W.heap.size:=by obtain⟨m,hm⟩:=cY;exact DataW.trod_lt m _ _ _ hm
  obtain⟨lH,bi⟩:=Es (P:=Try.prog) (W:=W) (k:=4) (VZ (t:=69) (a:=4) (b:=36) (c:=66) (d:=67) (by kernel_rfl) (vd (by kernel_rfl)) (ls (t:=36) (e:=4) (enc:=aT) (by kernel_rfl) (Nat.le_of_ble_eq_true (by kernel_rfl)) (Nat.le_of_ble_eq_true (by kernel_rfl)) (fun _=>by kernel_rfl) (vd (by kernel_rfl))) (ls (t:=66) (e:=157) (enc:=bn) (by kernel_rfl) (Nat.le_of_ble_eq_true (by kernel_rfl)) (Nat.le_of_ble_eq_true (by kernel_rfl)) (fun _=>by kernel_rfl) (V4 (t:=157) (a:=3) (b:=3) (by kernel_rfl) (kg (by kernel_rfl)) (kg (by kernel_rfl)))) (ls (t:=67) (e:=154) (enc:=(cl false)) (by kernel_rfl) (Nat.le_of_ble_eq_true (by kernel_rfl)) (Nat.le_of_ble_eq_true (by kernel_rfl)) (fun _=>by kernel_rfl) (V0 (t:=154) (a:=3) (b:=3) (c:=36) (d:=4) (e:=3) (by kernel_rfl) (kg (by kernel_rfl)) (kg (by kernel_rfl)) (ls (t:=36) (e:=4) (enc:=aT) (by kernel_rfl) (Nat.le_of_ble_eq_true (by kernel_rfl)) (Nat.le_of_ble_eq_true (by kernel_rfl)) (fun _=>by kernel_rfl) (vd (by kernel_rfl))) (vd (by kernel_rfl)) (kg (by kernel_rfl))))) (by decide) (fun _=>rfl) cY (fun n ap=>by simpa using List.all_eq_true.1 bX n (DataW.weights_mem_each (j:=1) rfl rfl n ap))
  clear F4 G7 uO bX
  refine(TC (TD j2 lH) (aK.cons k5 (aK.cons bi aK.nil))).mono fun e Ee ⟨he,zk⟩=> ?_
  subst he
  exact⟨_,rfl,_,_,_,[],_,[],QU,trodAll_mk1 (shut_bool (by kernel_rfl) _),(trodAll_cons_mk (Below.trod Try.H7 (by kernel_rfl) (of_decide_eq_true (by kernel_rfl)) a7 zk VE) (trodAll_cons_mk (Below.trod Try.H7 (by kernel_rfl) (of_decide_eq_true (by kernel_rfl)) cY zk VF) trodAll_mk0)),rfl,zk.frame _,fun h=>by cases h⟩
theorem Py:(Rows.fnExactShownRow.wf (OpenSpec.ofChange Rows.fnExactShownSpec))=true:=by kernel_rfl
theorem Pz:(laidOutB Try.prog)=true:=by kernel_rfl
theorem PN:(mapsRowed Try.prog)=true:=by kernel_rfl
theorem PY:(Try.f18.params.all (Try.prog.readableRec ·))=true:=by kernel_rfl
theorem P1:(namedTie Try.prog Rows.fnExactShownRow.named Rows.fnExactShownSpec.vars)=true:=by kernel_rfl
theorem P2:((Rows.fnExactShownRow.stops==[]))=true:=by kernel_rfl
theorem P3:((Try.prog.stops==[]))=true:=by kernel_rfl
theorem P4:((Rows.fnExactShownRow.knobs==[]))=true:=by kernel_rfl
theorem P5:((Try.prog.stopKnobs==[]))=true:=by kernel_rfl
theorem P6:((Rows.fnExactShownRow.inPlace==Try.prog.inPlace 18))=true:=by kernel_rfl
theorem PC:((Rows.fnExactShownRow.unfollowed==Try.prog.unfollowed 18))=true:=by kernel_rfl
theorem PD:((Rows.fnExactShownRow.recurses==Try.prog.recurses 18))=true:=by kernel_rfl
theorem PE:((Rows.fnExactShownRow.named==Try.prog.varsNamed 18))=true:=by kernel_rfl
theorem PG:((Rows.fnExactShownRow.maps==(Try.f18.params.toList++Rows.fnExactShownSpec.plain.varTypes Try.prog).any (Try.prog.mapsRec ·)))=true:=by kernel_rfl
theorem PH:((Rows.fnExactShownRow.ifaces==(Try.f18.params.toList++Rows.fnExactShownSpec.plain.varTypes Try.prog).any (Try.prog.ifacesRec ·)))=true:=by kernel_rfl
theorem PI:((Rows.fnExactShownRow.mapsOut==Try.prog.mapsAmong Try.f18.resultTypes.toList))=true:=by kernel_rfl
theorem PJ:((Rows.fnExactShownRow.loops==(Try.f18.params.toList++Rows.fnExactShownSpec.plain.varTypes Try.prog).any (Try.prog.loopsFrom ·)))=true:=by kernel_rfl
theorem PK:((Rows.fnExactShownRow.wideKeys==(Try.f18.params.toList++Rows.fnExactShownSpec.plain.varTypes Try.prog++Try.f18.resultTypes.toList).any (Try.prog.wideKeysFrom ·)))=true:=by kernel_rfl
theorem PL:(Rows.fnExactShownSpec.vars.all (Try.prog.varReadable ·))=true:=by kernel_rfl
theorem PM:(Try.f18.resultTypes.all (fun t=>Try.prog.readableRec t&&decide (t<Try.prog.types.size)))=true:=by kernel_rfl
theorem PO:((Rows.fnExactShownRow.ifacesOut==Try.f18.resultTypes.toList.any (Try.prog.ifacesRec ·)))=true:=by kernel_rfl
theorem PP:((Rows.fnExactShownRow.loopsOut==Try.f18.resultTypes.toList.any (Try.prog.loopsFrom ·)))=true:=by kernel_rfl
theorem PQ:((Rows.fnExactShownRow.plainKeys==Try.prog.plainKeys))=true:=by kernel_rfl
theorem PR:(Rows.fnExactShownRow.shortTexts.isNone)=true:=by kernel_rfl
theorem PS:(Try.prog.stopsHeard)=true:=by kernel_rfl
theorem PT:(Try.prog.mayEnter)=true:=by kernel_rfl
theorem PU:((Rows.fnExactShownRow.lifted==Try.prog.liftsFinal))=true:=by kernel_rfl
theorem PV:((Try.prog.make==some Rows.fnExactShownRow.make))=true:=by kernel_rfl
theorem PW:(H4 Try.prog Try.f18 Rows.fnExactShownRow)=true:=by kernel_rfl
theorem PX:((Rows.fnExactShownRow.pinned==Rows.fnExactShownRow.pinnedBy))=true:=by kernel_rfl
theorem PZ:((Rows.fnExactShownRow.veiled==(Try.f18.params.toList++Rows.fnExactShownSpec.plain.varTypes Try.prog++Try.f18.resultTypes.toList).any (Try.prog.veiledRec ·)))=true:=by kernel_rfl
theorem P0:(Rows.fnExactShownRow.veiledFits Try.prog Try.f18.params.toList (Try.f18.params.toList++Rows.fnExactShownSpec.plain.varTypes Try.prog++Try.f18.resultTypes.toList))=true:=by kernel_rfl
theorem P7:joinedFacts Try.prog 18 Try.f18 Rows.fnExactShownSpec Rows.fnExactShownRow=true:=
  Tx Py Pz PN PY P1 P2 P3 P4 P5 P6 PC PD PE PG PH PI PJ PK PL PM PO PP PQ PR PS PT PU PV PW PX PZ P0
theorem P8:Try.f18.isInstance Try.prog Rows.fnExactShownRow.origin Rows.fnExactShownRow.targs:=of_decide_eq_true (by kernel_rfl)
theorem P_:Try.f18.isWrapper Try.prog Rows.fnExactShownRow.wrapper Rows.fnExactShownRow.mainSum:=by
  unfold Func.isWrapper
  rw[if_neg (by decide+kernel)]
  exact⟨rfl,rfl⟩
theorem fnExactShown_holds:Rows.FnExactShownSaid:=
  OpenClaim.holds_of_wide 18 Try.f18 rfl rfl rfl rfl rfl rfl rfl ⟨rfl,rfl,rfl,rfl,rfl⟩ rfl rfl rfl rfl rfl (by kernel_rfl) Try.func18 P7
    P8 P_
    (fun os started H enc _=>P9 os started H enc)
#print axioms fnExactShown_holds
end Go.Proofs.Ytglpfccgmfhkdaa
