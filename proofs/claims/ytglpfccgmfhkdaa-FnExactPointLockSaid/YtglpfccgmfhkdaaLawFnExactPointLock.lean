/- FnExactPointLock holds of every plan, frame and switch: PointLock returns what the reference returns, writes into no argument, and its answer is its own. -/
import Derived.Test.YtglpfccgmfhkdaaRows
import Derived.Test.YtglpfccgmfhkdaaM6
import Derived.WalkKit
import Derived.WalkSpells
import Derived.WalkLawsBesides
import Derived.ProofKit
import Derived.OpenShut
import Derived.Carry
import Derived.ChangeOld
import Derived.Below
import Derived.SizedLaws
namespace Go.Proofs.Ytglpfccgmfhkdaa
open Go.ChangeShapes Go.WideShapes Go.ChangeAt Go.RowKit Fw
set_option linter.unusedVariables false
theorem Try.XC:ownKnob Try.prog.godebug=none:=by kernel_rfl
theorem Try.JE:laidOutB Try.prog=true:=by kernel_rfl
set_option maxRecDepth 100000 in
theorem Rq (os:Os) (started:os.Started) (H:Type) (enc:TypeId×Value→H):
    ReturnsInHanded {} Try.checked os 17 .any (Rows.fnExactPointLockSpec.pre6 enc Try.prog Try.f17 Rows.fnExactPointLockRow.domain false) (Rows.fnExactPointLockSpec.post enc Try.prog Try.f17 false true false false):=by
  refine returnsInHanded_of_change_sized (C:=Try.checked) Try.XC started (by kernel_rfl) Try.func17
    (ChangeSpec.witness6 (enc:=enc) (C:=Try.checked) false ⟨#[],#[.agg #[.int .i64 0,.slice none 0 0,.slice none 0 0,.slice none 0 0,.int .i64 0],.agg #[.bool false,.slice none 0 0,.slice none 0 0,.slice none 0 0],.int .i64 0],[]⟩ 8 (by kernel_rfl) (by kernel_rfl) (by kernel_rfl) (by kernel_rfl)) ?_
  intro W base args hq gs before IA HS abD vN _
  have bU:(DataW.weightsEach Try.prog (Try.f17.params.toList++Rows.fnExactPointLockSpec.plain.varTypes Try.prog) (hq++gs)).all (· ≤reachBytes)=true:=vN
  have Iz: ∀(j:Nat) t v,Try.f17.params[j]?=some t→args[j]?=some v→Value.okWide Try.prog W .any base t v:=IA
  have Sb:=HS
  obtain⟨p,q,HK,j6,rfl,abG,mo⟩:=HS
  have c3:DataW.TrodAll enc Try.prog W 0 (fun _=>true) true Try.f17.params.toList args.toList hq p:=HK
  rw[Try.params17] at c3 Iz bU
  obtain⟨v0,ab3,d0,abu,XF,b8,abB,rfl,rfl,aM,e6⟩:=trodAll_cons c3
  obtain⟨v1,ab4,d1,abv,kf,q1,rfl,rfl,rfl,h1,c9⟩:=trodAll_cons e6
  obtain⟨v2,ab5,d2,abw,rY,q2,rfl,rfl,rfl,h2,dn⟩:=trodAll_cons c9
  obtain⟨rfl,rfl,rfl⟩:=trodAll_nil dn
  obtain rfl:args= #[v0,v1,v2]:=by cases args;simp_all
  obtain⟨rfl,rfl⟩:=trodVars_none j6
  have a8:=aM
  have WW: ∀x∈XF,x.block<W.heap.size:=by obtain⟨m,hm⟩:=a8;exact DataW.trod_lt m _ _ _ hm
  obtain⟨kp,dx⟩:=F7 (P:=Try.prog) (W:=W) (k:=5) (Xy (t:=48) (a:=3) (b:=25) (c:=46) (d:=27) (e:=3) (by kernel_rfl) (kF (by kernel_rfl)) (lT (t:=25) (e:=3) (enc:=bO) (by kernel_rfl) (Nat.le_of_ble_eq_true (by kernel_rfl)) (Nat.le_of_ble_eq_true (by kernel_rfl)) (fun _=>by kernel_rfl) (kF (by kernel_rfl))) (lT (t:=46) (e:=140) (enc:=(dI false)) (by kernel_rfl) (Nat.le_of_ble_eq_true (by kernel_rfl)) (Nat.le_of_ble_eq_true (by kernel_rfl)) (fun _=>by kernel_rfl) (XA (t:=140) (a:=25) (b:=138) (c:=138) (d:=25) (e:=25) (by kernel_rfl) (lT (t:=25) (e:=3) (enc:=bO) (by kernel_rfl) (Nat.le_of_ble_eq_true (by kernel_rfl)) (Nat.le_of_ble_eq_true (by kernel_rfl)) (fun _=>by kernel_rfl) (kF (by kernel_rfl))) (lT (t:=138) (e:=187) (enc:=di) (by kernel_rfl) (Nat.le_of_ble_eq_true (by kernel_rfl)) (Nat.le_of_ble_eq_true (by kernel_rfl)) (fun _=>by kernel_rfl) (Lp (t:=187) (a:=3) (b:=3) (by kernel_rfl) (kF (by kernel_rfl)) (kF (by kernel_rfl)))) (lT (t:=138) (e:=187) (enc:=di) (by kernel_rfl) (Nat.le_of_ble_eq_true (by kernel_rfl)) (Nat.le_of_ble_eq_true (by kernel_rfl)) (fun _=>by kernel_rfl) (Lp (t:=187) (a:=3) (b:=3) (by kernel_rfl) (kF (by kernel_rfl)) (kF (by kernel_rfl)))) (lT (t:=25) (e:=3) (enc:=bO) (by kernel_rfl) (Nat.le_of_ble_eq_true (by kernel_rfl)) (Nat.le_of_ble_eq_true (by kernel_rfl)) (fun _=>by kernel_rfl) (kF (by kernel_rfl))) (lT (t:=25) (e:=3) (enc:=bO) (by kernel_rfl) (Nat.le_of_ble_eq_true (by kernel_rfl)) (Nat.le_of_ble_eq_true (by kernel_rfl)) (fun _=>by kernel_rfl) (kF (by kernel_rfl))))) (lT (t:=27) (e:=36) (enc:=(e1 aU false)) (by kernel_rfl) (Nat.le_of_ble_eq_true (by kernel_rfl)) (Nat.le_of_ble_eq_true (by kernel_rfl)) (fun _=>by kernel_rfl) (lT (t:=36) (e:=4) (enc:=aU) (by kernel_rfl) (Nat.le_of_ble_eq_true (by kernel_rfl)) (Nat.le_of_ble_eq_true (by kernel_rfl)) (fun _=>by kernel_rfl) (wv (by kernel_rfl)))) (kF (by kernel_rfl))) (by decide) (fun _=>rfl) a8 (fun n ap=>by simpa using List.all_eq_true.1 bU n (DataW.weights_mem_each (j:=0) rfl rfl n ap))
  have c7:=h1
  have WX: ∀x∈kf,x.block<W.heap.size:=by obtain⟨m,hm⟩:=c7;exact DataW.trod_lt m _ _ _ hm
  obtain⟨hH,aT⟩:=F7 (P:=Try.prog) (W:=W) (k:=4) (Xw (t:=69) (a:=4) (b:=36) (c:=66) (d:=67) (by kernel_rfl) (wv (by kernel_rfl)) (lT (t:=36) (e:=4) (enc:=aU) (by kernel_rfl) (Nat.le_of_ble_eq_true (by kernel_rfl)) (Nat.le_of_ble_eq_true (by kernel_rfl)) (fun _=>by kernel_rfl) (wv (by kernel_rfl))) (lT (t:=66) (e:=157) (enc:=br) (by kernel_rfl) (Nat.le_of_ble_eq_true (by kernel_rfl)) (Nat.le_of_ble_eq_true (by kernel_rfl)) (fun _=>by kernel_rfl) (Xz (t:=157) (a:=3) (b:=3) (by kernel_rfl) (kF (by kernel_rfl)) (kF (by kernel_rfl)))) (lT (t:=67) (e:=154) (enc:=(ct false)) (by kernel_rfl) (Nat.le_of_ble_eq_true (by kernel_rfl)) (Nat.le_of_ble_eq_true (by kernel_rfl)) (fun _=>by kernel_rfl) (Xx (t:=154) (a:=3) (b:=3) (c:=36) (d:=4) (e:=3) (by kernel_rfl) (kF (by kernel_rfl)) (kF (by kernel_rfl)) (lT (t:=36) (e:=4) (enc:=aU) (by kernel_rfl) (Nat.le_of_ble_eq_true (by kernel_rfl)) (Nat.le_of_ble_eq_true (by kernel_rfl)) (fun _=>by kernel_rfl) (wv (by kernel_rfl))) (wv (by kernel_rfl)) (kF (by kernel_rfl))))) (by decide) (fun _=>rfl) c7 (fun n ap=>by simpa using List.all_eq_true.1 bU n (DataW.weights_mem_each (j:=1) rfl rfl n ap))
  obtain⟨kR,rfl,rfl,rfl,dU⟩:=open_int (P:=Try.prog) (t:=3) (k:= .i64) (by kernel_rfl) (Iz 2 3 v2 rfl rfl) h2
  have e2:V2 (Env.at W) (.int .i64 kR) (.int .i64 kR):=jF (aQ.v1 (E:=Env.at W) (.int _ _))
  clear HK IA vN bU
  refine(U4 (U8 kp hH kR) (aK.cons dx (aK.cons aT (aK.cons e2 aK.nil)))).mono fun e FV ⟨he,AQ⟩=> ?_
  subst he
  exact⟨_,rfl,_,_,_,[],_,[],Sb,trodAll_mk1 (shut_bool (by kernel_rfl) _),(trodAll_cons_mk (Below.trod Try.JE (by kernel_rfl) (of_decide_eq_true (by kernel_rfl)) a8 AQ WW) (trodAll_cons_mk (Below.trod Try.JE (by kernel_rfl) (of_decide_eq_true (by kernel_rfl)) c7 AQ WX) (trodAll_cons_mk (shut_int (by kernel_rfl) dU) trodAll_mk0))),rfl,AQ.frame _,fun h=>by cases h⟩
theorem QT:(Rows.fnExactPointLockRow.wf (OpenSpec.ofChange Rows.fnExactPointLockSpec))=true:=by kernel_rfl
theorem QU:(laidOutB Try.prog)=true:=by kernel_rfl
theorem Q5:(mapsRowed Try.prog)=true:=by kernel_rfl
theorem Rf:(Try.f17.params.all (Try.prog.readableRec ·))=true:=by kernel_rfl
theorem Ri:(namedTie Try.prog Rows.fnExactPointLockRow.named Rows.fnExactPointLockSpec.vars)=true:=by kernel_rfl
theorem Rj:((Rows.fnExactPointLockRow.stops==[]))=true:=by kernel_rfl
theorem Rk:((Try.prog.stops==[]))=true:=by kernel_rfl
theorem Rl:((Rows.fnExactPointLockRow.knobs==[]))=true:=by kernel_rfl
theorem Rm:((Try.prog.stopKnobs==[]))=true:=by kernel_rfl
theorem Rn:((Rows.fnExactPointLockRow.inPlace==Try.prog.inPlace 17))=true:=by kernel_rfl
theorem QV:((Rows.fnExactPointLockRow.unfollowed==Try.prog.unfollowed 17))=true:=by kernel_rfl
theorem QW:((Rows.fnExactPointLockRow.recurses==Try.prog.recurses 17))=true:=by kernel_rfl
theorem QX:((Rows.fnExactPointLockRow.named==Try.prog.varsNamed 17))=true:=by kernel_rfl
theorem QY:((Rows.fnExactPointLockRow.maps==(Try.f17.params.toList++Rows.fnExactPointLockSpec.plain.varTypes Try.prog).any (Try.prog.mapsRec ·)))=true:=by kernel_rfl
theorem QZ:((Rows.fnExactPointLockRow.ifaces==(Try.f17.params.toList++Rows.fnExactPointLockSpec.plain.varTypes Try.prog).any (Try.prog.ifacesRec ·)))=true:=by kernel_rfl
theorem Q0:((Rows.fnExactPointLockRow.mapsOut==Try.prog.mapsAmong Try.f17.resultTypes.toList))=true:=by kernel_rfl
theorem Q1:((Rows.fnExactPointLockRow.loops==(Try.f17.params.toList++Rows.fnExactPointLockSpec.plain.varTypes Try.prog).any (Try.prog.loopsFrom ·)))=true:=by kernel_rfl
theorem Q2:((Rows.fnExactPointLockRow.wideKeys==(Try.f17.params.toList++Rows.fnExactPointLockSpec.plain.varTypes Try.prog++Try.f17.resultTypes.toList).any (Try.prog.wideKeysFrom ·)))=true:=by kernel_rfl
theorem Q3:(Rows.fnExactPointLockSpec.vars.all (Try.prog.varReadable ·))=true:=by kernel_rfl
theorem Q4:(Try.f17.resultTypes.all (fun t=>Try.prog.readableRec t&&decide (t<Try.prog.types.size)))=true:=by kernel_rfl
theorem Q6:((Rows.fnExactPointLockRow.ifacesOut==Try.f17.resultTypes.toList.any (Try.prog.ifacesRec ·)))=true:=by kernel_rfl
theorem Q7:((Rows.fnExactPointLockRow.loopsOut==Try.f17.resultTypes.toList.any (Try.prog.loopsFrom ·)))=true:=by kernel_rfl
theorem Q8:((Rows.fnExactPointLockRow.plainKeys==Try.prog.plainKeys))=true:=by kernel_rfl
theorem Q9:(Rows.fnExactPointLockRow.shortTexts.isNone)=true:=by kernel_rfl
theorem Q_:(Try.prog.stopsHeard)=true:=by kernel_rfl
theorem Ra:(Try.prog.mayEnter)=true:=by kernel_rfl
theorem Rb:((Rows.fnExactPointLockRow.lifted==Try.prog.liftsFinal))=true:=by kernel_rfl
theorem Rc:((Try.prog.make==some Rows.fnExactPointLockRow.make))=true:=by kernel_rfl
theorem Rd:(Jz Try.prog Try.f17 Rows.fnExactPointLockRow)=true:=by kernel_rfl
theorem Re:((Rows.fnExactPointLockRow.pinned==Rows.fnExactPointLockRow.pinnedBy))=true:=by kernel_rfl
theorem Rg:((Rows.fnExactPointLockRow.veiled==(Try.f17.params.toList++Rows.fnExactPointLockSpec.plain.varTypes Try.prog++Try.f17.resultTypes.toList).any (Try.prog.veiledRec ·)))=true:=by kernel_rfl
theorem Rh:(Rows.fnExactPointLockRow.veiledFits Try.prog Try.f17.params.toList (Try.f17.params.toList++Rows.fnExactPointLockSpec.plain.varTypes Try.prog++Try.f17.resultTypes.toList))=true:=by kernel_rfl
theorem Ro:joinedFacts Try.prog 17 Try.f17 Rows.fnExactPointLockSpec Rows.fnExactPointLockRow=true:=
  UU QT QU Q5 Rf Ri Rj Rk Rl Rm Rn QV QW QX QY QZ Q0 Q1 Q2 Q3 Q4 Q6 Q7 Q8 Q9 Q_ Ra Rb Rc Rd Re Rg Rh
theorem Rp:Try.f17.isInstance Try.prog Rows.fnExactPointLockRow.origin Rows.fnExactPointLockRow.targs:=of_decide_eq_true (by kernel_rfl)
theorem Rr:Try.f17.isWrapper Try.prog Rows.fnExactPointLockRow.wrapper Rows.fnExactPointLockRow.mainSum:=by
  unfold Func.isWrapper
  rw[if_neg (by decide+kernel)]
  exact⟨rfl,rfl⟩
theorem fnExactPointLock_holds:Rows.FnExactPointLockSaid:=
  OpenClaim.holds_of_wide 17 Try.f17 rfl rfl rfl rfl rfl rfl rfl ⟨rfl,rfl,rfl,rfl,rfl⟩ rfl rfl rfl rfl rfl (by kernel_rfl) Try.func17 Ro
    Rp Rr
    (fun os started H enc _=>Rq os started H enc)
#print axioms fnExactPointLock_holds
end Go.Proofs.Ytglpfccgmfhkdaa
