/- The machine, part Hd: functions whose answer's lists lie in blocks of their own, each in another one. -/
import Derived.Test.YtglpfccgmfhkdaaGreatM4
set_option linter.unusedVariables false
namespace Go.Proofs.YtglpfccgmfhkdaaGreat.Fw
open Go
def nY:AV→List Nat
 | .ref b _ _ _ _=>[b]
 | _=>[]
def yy:AV→List Nat
 | .agg l=>l.flatMap nY
 | a=>nY a
def GI:AV→List Nat
 | .tup l=>l.flatMap yy
 | a=>yy a
def qP:AV→Bool
 | .aV rows _ _=>rows.isEmpty
 | .ref _ _ off _ _=>Nat.beq off 0
 | _=>true
def Bk:AV→Bool
 | .agg l=>l.all qP
 | a=>qP a
def NZ:AV→Bool
 | .tup l=>l.all Bk
 | a=>Bk a
def Cw (a:AV):Prop:=(GI a).Nodup∧NZ a=true
def p2 (P:Program) (f:FuncId) (args:List AV) (t:AV):Prop:=dw P f args [] fun r eL=>jQ eL r t∧Cw r
def BD (a:AV):Bool:=decide (GI a).Nodup&&NZ a
theorem abC {a:AV} (h:BD a=true):Cw a:=by
 unfold BD at h
 rw[Bool.and_eq_true] at h
 exact⟨of_decide_eq_true h.1,h.2⟩
theorem p2.v {P:Program} {f:FuncId} {args:List AV} {t:AV} (h:p2 P f args t):bg P f args t:=dw.mono h fun _ _ k=>k.1
def w_ (P:Program) (n:Nat) (fn:Func) (rs:List aU) (r:cA rs) (s:TS):aJ:=
 .eq (BD (pZ (cC (fn.results.toList.map (GJ P n s))))) true (qb P n fn rs r s)
theorem JK [FZ] {n:Nat} {s:TS} {R:Exit→TS→Prop} {P:Program} {fn:Func} {rs:List aU} {r:cA rs} (h:(w_ P n fn rs r s).den R):sb P fn (s.ay n) fun v H=>jQ H v (pd rs r)∧Cw v:=by
 obtain⟨aZ,h⟩:=(show BD (pZ (cC (fn.results.toList.map (GJ P n s))))=true∧(qb P n fn rs r s).den R from h)
 have h':=DR (n:=n) h
 unfold qb at h
 simp only at h
 obtain⟨h1,h2,aM⟩:=h
 unfold sb at h' ⊢
 have uX:qY P (s.ay n) fn.results.toList=_:=congrFun h1 (s.ay n).H
 rw[congrFun uX] at h' ⊢
 exact⟨h'.1,h'.2,abC aZ⟩
def HV {P:Program} (cf:gC P) (dR:uk P) (fn:Func) (ps rs:List aU) (x:cA ps) (r:cA rs) (a:kt):aJ:=jm cf dR (some 0) (jS fn) (nM ps x) a fun ex s _=>match ex with
 | .normal=>w_ P cf.n fn rs r s
 | .ret=>w_ P cf.n fn rs r s
 | _=> .no
theorem p2.run {P:Program} {f:FuncId} {fn:Func} {ps rs:List aU} {x:cA ps} {r:cA rs} (cf:gC P) (dR:uk P) (a:kt) {C:Prop} (hf:P.funcs[f]?=some fn) (h:C) (e:C=(HV cf dR fn ps rs x r a).mT.den:=by kernel_rfl)
  (e2:(HV cf dR fn ps rs x r a).lhs=(HV cf dR fn ps rs x r a).rhs:=by kernel_rfl) (hb:fn.body=some (jS fn):=by kernel_rfl) (hm:(fn.name== "runtime.NumGoroutine")=false:=by kernel_rfl)
  (ao:(Nat.beq cf.n fn.ntmps&&Nat.ble cf.n 1000000&&Nat.ble ps.length cf.n)=true:=by kernel_rfl):p2 P f (mm ps x) (pd rs r):=by
 simp only[Bool.and_eq_true] at ao
 have h1:=Nat.eq_of_beq_eq_true ao.1.1
 have h2:=Nat.le_of_ble_eq_true ao.1.2
 have aM:=Nat.le_of_ble_eq_true ao.2
 refine dw.Gg hf hb hm fun h5 fS=> ?_
 rw[@L2 ⟨[],[]⟩ fn ps x (by rw[←h1];exact aM) (by omega),←h1]
 refine Q3 h2 (fun k e=>by cases e;rw[fS];exact Nat.le_refl _) (jS fn) (R:=fun _ _=>True) (K:=fun ex s _=>match ex with
  | .normal=>w_ P cf.n fn rs r s
  | .ret=>w_ P cf.n fn rs r s
  | _=> .no) (fun ex s _ Z hs hf=> ?_) ⟨[],[]⟩ (@Fits.none ⟨[],[]⟩ _ (FC ps x (by omega))) (aJ.full (e▸h) e2)
 cases ex with
 | normal=>exact JK hs
 | ret=>exact JK hs
 | _=>exact hs.elim
theorem aem {a:AV} {k:IntKind} {n:Int} (h:AV.int k n=hX a):a= .int k n:=by
 cases a<;>first | exact h.symm | cases h
theorem Hc {E:Env} {H:List Blk} (hs:SimH E H) {S:Nat→Prop} (db: ∀c,E.fk c→S c) {a:AV} {xs:List Int} {de:Bool} {v:Value} (av:ft H a (.aV (xs.map ct) de true)) (aG:qP a=true) (hv:b1 E a v):
  ∃A cap c,v= .slice A xs.length cap∧ee E.w S (.l .int) 0 0 (row c 0 false (xs.length*1)) v∧(0<xs.length→ ∃b,nY a=[b]∧E.m b=some (some c)):=by
 have nil: ∀(full fr:Bool),xs=[]→b1 E (.aV [] full fr) v→ ∃A cap c,v= .slice A xs.length cap∧ee E.w S (.l .int) 0 0 (row c 0 false (xs.length*1)) v∧(0<xs.length→ ∃b,nY a=[b]∧E.m b=some (some c)):=fun full fr hx hv=>by
  subst hx
  have hv:aW E.w E.PA E.PF (.aV [] full fr) v:=hv
  cases hv with
  | @aV _ _ _ _ _ _ A cap _ _ _ e1 _ _ _ _=>
   exact⟨A,cap,0,rfl,.aV (e:= .int) (n:=0) (Ls:=fun _ _=>[]) (vs:=fun _ _=>undef) 0 0 ⟨Nat.zero_le _,Nat.zero_le _⟩ (fun h=>absurd h (by omega)) (fun i j b3 hi _=>by omega),fun h=>absurd h (by simp)⟩
 generalize Ea:xs.map ct=R at av
 cases av with
 | aV rows full _ hw=>
  subst Ea
  have hx:xs=[]:=by
   have:(xs.map ct).isEmpty=true:=aG
   cases xs with
   | nil=>rfl
   | cons x r=>cases this
  subst hx
  exact nil full true rfl hv
 | F4 full fr _ hw=>
  have hx:xs=[]:=by
   cases xs with
   | nil=>rfl
   | cons x r=>cases Ea
  exact nil full fr hx hv
 | @ref b g off n full _ blk _ hw aw hb aQ ao h9 AF aE av hc=>
  subst Ea
  rw[List.length_map] at ao
  subst ao
  obtain rfl:off=0:=Nat.eq_of_beq_eq_true aG
  rcases(show ez E (.ref b g 0 xs.length full) v from hv) with⟨h,_⟩ | ⟨_,⟨_,_,e,A,rfl⟩ | ⟨c,cap,hm,rfl,h1,_,_⟩⟩
  ·rw[hs.eI b blk hb,aQ] at h;omega
  ·have hx:xs=[]:=List.eq_nil_of_length_eq_zero e
   subst hx
   exact nil true true rfl (aW.aV (rows:=[]) (PB:=fun _=>False) (sz:=0) (vs:=fun _ _=>undef) (fun _ h=>h.elim) ⟨Nat.zero_le _,Nat.zero_le _⟩ (fun _=>rfl) (fun i row h=>by simp at h) (fun h=>by simp at h) (fun i j row a h=>by simp at h))
  ·obtain⟨blk',bX,ty,q1,q2,q3,q4,cW,cO⟩:=hs.heap b c hm
   rw[hb] at q1
   cases q1
   refine⟨_,cap,c,rfl,?_,fun _=>⟨b,rfl,hm⟩⟩
   by_cases ao:0<xs.length
   ·have q0: ∀i (hi:i<xs.length),∃row,blk.rows[i]?=some row∧ ∃n,row=[AV.int .i64 n]:=fun i hi=>by
     have gz:i<blk.rows.length:=by omega
     have cs:blk.rows[0+i]?=some blk.rows[i]:=by rw[Nat.zero_add];exact List.getElem?_eq_getElem gz
     have er:(xs.map ct)[i]?=some (ct xs[i]):=by rw[List.getElem?_map,List.getElem?_eq_getElem hi];rfl
     have hlen:blk.rows[i].length=1:=aE i _ _ cs er
     have jX:=aem (hc i 0 _ _ er rfl)
     refine⟨_,List.getElem?_eq_getElem gz,?_⟩
     obtain⟨a,aF⟩: ∃a,blk.rows[i]=[a]:=by
      match blk.rows[i],hlen with
      | [a],_=>exact⟨a,rfl⟩
     rw[aF] at cs ⊢
     have aM:=av i 0 _ a hi cs rfl
     rw[jX] at aM
     cases aM
     exact⟨_,rfl⟩
    have cd:E.sz b=1:=by
     obtain⟨row,h1,n,rfl⟩:=q0 0 ao
     exact(cO.1 0 _ h1).symm
    rw[cd] at cO
    have Vm:row c 0 false (xs.length*1)=lM (fun i=>lM (fun qH=>[(c,i*1+qH,false)]) (aU.b2 .int).length) xs.length:=
     (CT fun i hi=>CU fun qH io=>by rw[Nat.zero_add]).symm
    rw[Vm]
    have cell: ∀i,i<xs.length→ ∃n,bX[i]?=some (.int .i64 n):=fun i hi=>by
     obtain⟨row,h1,n,rfl⟩:=q0 i hi
     obtain⟨u,hu,EU⟩:=cO.2 i 0 _ _ h1 rfl
     have EU:aW E.b0.w E.b0.PA E.b0.PF (.int .i64 n) u:=EU
     cases EU
     rw[Nat.mul_one,Nat.add_zero] at hu
     exact⟨n,hu⟩
    rw[cd,Nat.zero_mul] at*
    refine .aV (e:= .int) (vs:=fun i qH=>(bX[i]?).getD undef) c 0 ⟨h1,h9⟩ (fun _=>⟨bX,ty,rfl,db _ ⟨b,hm⟩,q3,fun i qH hi io=> ?_⟩) fun i qH b3 hi io=> ?_
    ·have io:qH<1:=io
     obtain rfl:qH=0:=by omega
     obtain⟨n,hu⟩:=cell i hi
     rw[show 0+(i*(aU.b2 .int).length+0)=i from by show 0+(i*1+0)=i;omega,hu];rfl
    ·have u9:qH<1:=(List.getElem?_eq_some_iff.1 io).1
     obtain rfl:qH=0:=by omega
     cases io
     obtain⟨n,hu⟩:=cell i hi
     rw[hu,show 0+(i*(aU.b2 .int).length+0)=i*1+0 from by show 0+(i*1+0)=_;omega]
     exact .int _ _ n
   ·have aH:xs.length=0:=by omega
    rw[aH]
    exact .aV (e:= .int) (n:=0) (Ls:=fun _ _=>[]) (vs:=fun _ _=>undef) 0 0 ⟨Nat.zero_le _,Nat.zero_le _⟩ (fun h=>absurd h (by omega)) (fun i j b3 hi _=>by omega)
theorem aaM {E:Env} {H:List Blk} (hs:SimH E H) {S:Nat→Prop} (db: ∀c,E.fk c→S c) {pB kh hM:AV} {aL bC bV:List Int} {f0 f1 f2:Bool} {v0 v1 v2:Value} (eC:ft H pB (.aV (aL.map ct) f0 true)) (cZ:ft H kh (.aV (bC.map ct) f1 true)) (dg:ft H hM (.aV (bV.map ct) f2 true))
  (aav:qP pB=true) (aaw:qP kh=true) (aax:qP hM=true) (aZ:(nY pB++(nY kh++nY hM)).Nodup) (aI:b1 E pB v0) (h1:b1 E kh v1) (h2:b1 E hM v2):
  ∃bQ bA bL br bK bm L,v0= .slice bQ aL.length bA∧v1= .slice bL bC.length br∧v2= .slice bK bV.length bm∧iX .int .int .int E.w S bQ bL bK aL.length bA bC.length br bV.length bm L∧kb L∧L.length=aL.length+bC.length+bV.length:=by
 obtain⟨bQ,bA,b5,rfl,eD,an⟩:=Hc hs db eC aav aI
 obtain⟨bL,br,q1,rfl,s1,aY⟩:=Hc hs db cZ aaw h1
 obtain⟨bK,bm,q2,rfl,s2,bj⟩:=Hc hs db dg aax h2
 have key: ∀{q:Nat} {l:AV} {n:Nat},(0<n→ ∃b,nY l=[b]∧E.m b=some (some q))→ ∀x∈row q 0 false (n*1),∃b,b∈nY l∧E.m b=some (some x.1):=fun{q l n} m x hx=>by
  obtain⟨i,hi,rfl⟩:=BK.1 hx
  obtain⟨b,hb,hm⟩:=m (by omega)
  exact⟨b,by rw[hb];exact List.mem_singleton.2 rfl,hm⟩
 have Ep:=List.nodup_append.1 aZ
 have qm:=List.nodup_append.1 Ep.2.1
 refine⟨bQ,bA,bL,br,bK,bm,_,rfl,rfl,rfl,⟨_,_,_,rfl,eD,s1,s2⟩,?_,?_⟩
 ·refine List.pairwise_append.2 ⟨List.pairwise_append.2 ⟨A8 _ _ _ _,A8 _ _ _ _,fun x hx y ba e=> ?_⟩,A8 _ _ _ _,fun x hx y ba e=> ?_⟩
  ·obtain⟨b,hb,hm⟩:=key an x hx
   obtain⟨bT,ea,jy⟩:=key aY y ba
   rw[←e.1] at jy
   have:=hs.gF _ _ _ hm jy
   exact Ep.2.2 b hb bT (List.mem_append.2 (.inl ea)) this
  ·obtain⟨bT,ea,jy⟩:=key bj y ba
   rw[←e.1] at jy
   rcases List.mem_append.1 hx with hx | hx
   ·obtain⟨b,hb,hm⟩:=key an x hx
    have:=hs.gF _ _ _ hm jy
    exact Ep.2.2 b hb bT (List.mem_append.2 (.inr ea)) this
   ·obtain⟨b,hb,hm⟩:=key aY x hx
    have:=hs.gF _ _ _ hm jy
    exact qm.2.2 b hb bT ea this
 ·rw[List.length_append,List.length_append,tH,tH,tH];omega
theorem p2.XT {P:Program} {f:FuncId} {args:List AV} {s:fu} {dF b7:Bool} (h:p2 P f args (.tup [.agg (gm true s),.bool dF,.bool b7])) {w:World} {vs:List Value} (aF:aO (V2 (Env.at w)) args vs):
  Calls P f vs.toArray w fun e w'=> ∃bQ bA bL br bK bm L,e= .returned (.tuple #[.agg #[.slice bQ s.O.length bA,.slice bL s.ad.length br,.slice bK s.aq.length bm],.bool dF,.bool b7])∧RowKit.Below w.heap.size w w'∧dX w' (eG w w') (.agg (gm false s)) (.agg #[.slice bQ s.O.length bA,.slice bL s.ad.length br,.slice bK s.aq.length bm])∧iX .int .int .int w' (eG w w') bQ bL bK s.O.length bA s.ad.length br s.aq.length bm L∧kb L∧L.length=s.O.length+s.ad.length+s.aq.length:=by
 refine(h.2 (Env.at w) vs (fun _=>rfl) (CE w) aF).mono ?_
 rintro iD w' ⟨r,v,H',E',rfl,⟨av,aZ,aG⟩,rfl,ao,hs,hv,a8⟩
 have hb:RowKit.Below w.heap.size w E'.w:=⟨a8.os,a8.tape,a8.output,a8.size,fun k hk=>a8.cT k hk (fun⟨b,hb⟩=>by cases hb) (fun⟨b,hb⟩=>by cases hb)⟩
 have iH: ∀c,E'.PF c∨E'.fk c→eG w E'.w c:=fun c hc=>by
  rcases hc with hc | hc
  ·exact⟨(a8.e9 c hc).elim (fun h=>h.elim) id,hs.dy c (hs.dr c hc),hs.fh c hc⟩
  ·exact⟨(a8.nL c hc).elim (fun⟨b,hb⟩=>by cases hb) id,hs.fl c hc,hs.K9 hc⟩
 rcases av with⟨l,eK,rfl,e,ai⟩ | ⟨l,eK,rfl,e,_⟩ | av
 ·cases e
  match l,ai with
  | [a,c,d],ai=>
   have hc:=ai.tail.head
   have Vr:=ai.tail.tail.head
   have V0:=ai.head
   rcases V0 with⟨l,eK,rfl,e,af⟩ | af
   ·cases e
    match l,af with
    | [pB,kh,hM],af=>
     obtain⟨ew,rfl,hv2⟩:=(show ∃ew:List Value,v= .tuple ew.toArray∧aO (V2 E') [.agg [pB,kh,hM],c,d] ew from hv)
     have hv:=hv2;clear hv2
     obtain⟨aep,ew,rfl,aF,hv⟩:=hv.cons_inv
     obtain⟨afu,ew,rfl,ql,hv⟩:=hv.cons_inv
     obtain⟨afv,ew,rfl,Vt,hv⟩:=hv.cons_inv
     obtain rfl:=hv.lZ
     have IR: ∀{c:AV} {b:Bool} {u:Value},rj H' c (.bool b)→V2 E' c u→u= .bool b:=fun{c b u} h hu=>by
      rcases h with⟨l,eK,rfl,e,_⟩ | h
      ·cases e
      ·cases h
       have hu:aW E'.w E'.PA E'.PF (.bool b) u:=hu
       cases hu;rfl
     rw[IR hc ql,IR Vr Vt]
     have bn:=aef (e:= .stays) (x:=s) hs (r:= .agg [pB,kh,hM]) (.inr (.inl ⟨_,_,rfl,rfl,af⟩)) aF iH
     obtain⟨ew,rfl,Kn⟩:=(show ∃ew:List Value,aep= .agg ew.toArray∧aO (b1 E') [pB,kh,hM] ew from aF)
     have aF:=Kn;clear Kn
     obtain⟨v0,ew,rfl,aI,aF⟩:=aF.cons_inv
     obtain⟨v1,ew,rfl,h1,aF⟩:=aF.cons_inv
     obtain⟨v2,ew,rfl,h2,aF⟩:=aF.cons_inv
     obtain rfl:=aF.lZ
     have aG:((qP pB&&(qP kh&&(qP hM&&true)))&&(Bk c&&(Bk d&&true)))=true:=aG
     simp only[Bool.and_eq_true,Bool.and_true] at aG
     have aZ:((nY pB++(nY kh++(nY hM++[])))++(yy c++(yy d++[]))).Nodup:=by
      simpa[GI,yy] using aZ
     have aZ:=(List.nodup_append.1 aZ).1
     rw[List.append_nil] at aZ
     obtain⟨bQ,bA,bL,br,bK,bm,L,rfl,rfl,rfl,hf,h_,aE⟩:=aaM hs (S:=eG w E'.w) (fun c hc=>iH c (.inr hc)) af.head af.tail.head af.tail.tail.head aG.1.1 aG.1.2.1 aG.1.2.2 aZ aI h1 h2
     exact⟨bQ,bA,bL,br,bK,bm,L,rfl,hb,bn,hf,h_,aE⟩
    | [],af=>exact absurd af.1 (by simp[gm])
    | [_],af=>exact absurd af.1 (by simp[gm])
    | [_,_],af=>exact absurd af.1 (by simp[gm])
    | _::_::_::_::_,af=>exact absurd af.1 (by simp[gm])
   ·cases af
  | [],ai=>exact absurd ai.1 (by simp)
  | [_],ai=>exact absurd ai.1 (by simp)
  | [_,_],ai=>exact absurd ai.1 (by simp)
  | _::_::_::_::_,ai=>exact absurd ai.1 (by simp)
 ·cases e
 ·cases av
theorem kO.v_ {p:aK} {f:Frame} (h:kO p f) {i:Nat} {x:ac} (hx:i<f.O.length→x.aa.length=(nth p.O i).ad.length∧0≤x.ab∧x.ab≤x.aa.length):kO p {f with O:=f.O.set i x}:=by
 refine⟨h.aC,h.aq,by rw[List.length_set];exact h.O,fun j y w h1 h2=> ?_,fun y ba=> ?_⟩
 ·replace h1:(f.O.set i x)[j]?=some y:=h1
  rw[List.getElem?_set] at h1
  split at h1
  ·rename_i e;subst e
   split at h1
   ·rename_i ao
    cases h1
    rw[(hx ao).1,je (by have:=h.O;omega)]
    rw[List.getElem?_eq_getElem (by have:=h.O;omega)] at h2
    cases h2;rfl
   ·cases h1
  ·exact h.aa j y w h1 h2
 ·rcases List.mem_or_eq_of_mem_set ba with ba | rfl
  ·exact h.ab y ba
  ·by_cases ao:i<f.O.length
   ·exact(hx ao).2
   ·rw[List.set_eq_of_length_le (by omega)] at ba
    exact h.ab _ ba
theorem kO.at {p:aK} {f:Frame} (h:kO p f) {i:Nat} (hi:i<f.O.length):(nth f.O i).aa.length=(nth p.O i).ad.length∧0≤(nth f.O i).ab∧(nth f.O i).ab≤(nth f.O i).aa.length:=by
 have ap:i<p.O.length:=by have:=h.O;omega
 refine⟨h.aa i _ _ ?_ ?_,h.ab _ (eR (by simpa using hi))⟩
 ·rw[je hi];exact List.getElem?_eq_getElem hi
 ·rw[je ap];exact List.getElem?_eq_getElem ap
theorem kO.pH {p:aK} {f:Frame} (h:kO p f) {o:List Bool} {q:List cJ} (aG:o.length=f.aC.length) (af:q.length=f.aq.length):kO p {f with aC:=o,aq:=q}:=
 ⟨by show(o.length:Int)=_;rw[aG];exact h.aC,by show q.length=_;rw[af];exact h.aq,h.O,h.aa,h.ab⟩
section
variable {P:Program} {esc:List Nat} {ops:Array Oper} {n:Nat} {X:List Item} {i0:Nat} {A:List (Nat×AV)} {L:List (Nat×List AV)} {H:List Blk} {K:List (Nat×AV)→List (Nat×List AV)→List Blk→Prop}
end
section
variable {p:aK} {f:Frame} {i:Nat} {h:ac}
end
theorem NP {α:Type} [Inhabited α] {l:List α} {t i:Int} {x:α} (t0:0≤t) (i0:0≤i) (i1:i<l.length):nth (l.set t.toNat x) i=if i=t then x else nth l i:=by
 rw[hW (by rw[List.length_set];omega),hW (show i.toNat<l.length by omega),List.getElem_set]
 by_cases e:i=t
 ·rw[if_pos (by omega),if_pos e]
 ·rw[if_neg (by omega),if_neg e]
def QB (h i v:Nat):Int:=if v=0 then 0 else if v=1 then 2 else if v<3+i∧ ¬(i=h∧v=2+h) then 3 else if i<h then 4 else 0
def Ci (h i:Nat) (D:List sp):Prop:= ∀(v:Nat) (d:sp),D[v]?=some d→ ∃w,d.frame.O=[w]∧w.az=QB h i v
theorem Ci.more {h i:Nat} {D:List sp} (k:Ci h i D) {w:ac} {c:Int} {o:Bool} {a:List Bool} {b:List cJ} {n:Nat} (ao:D.length=n) (hw:w.az=QB h i n):Ci h i (D++[⟨c,o,a,b,[w]⟩]):=fun v d aZ=>by
 rcases Nat.lt_or_ge v D.length with aE | aE
 ·rw[List.getElem?_append_left aE] at aZ;exact k v d aZ
 ·rw[List.getElem?_append_right aE] at aZ
  cases hv:v - D.length with
  | zero=>rw[hv] at aZ;cases aZ;exact⟨w,rfl,by rw[hw,show v=n by omega]⟩
  | succ m=>rw[hv] at aZ;simp at aZ
def l0 (k:Int) (c:jo):Prop:=0≤c.pos∧c.pos+k≤4611686018427387904
def r3 (c:jo):jo:=bif decide (c.pos<(c.code.length:Int)) then jo.mk c.code (IntKind.i64.wrap (c.pos+1)) (IntKind.u64.wrap ((IntKind.u64.wrap ((IntKind.u64.wrap (c.yB*6364136223846793005))+(IntKind.u64.wrap (((nth c.code c.pos).toNat:Int)))))+1442695040888963407))
 else jo.mk c.code (IntKind.i64.wrap (c.pos+1)) (IntKind.u64.wrap ((IntKind.u64.wrap (c.yB*6364136223846793005))+1442695040888963407))
def tq (c:jo):Int:=bif decide (c.pos<(c.code.length:Int)) then IntKind.i64.wrap (((nth c.code c.pos).toNat:Int))
 else IntKind.i64.wrap (IntKind.u64.wrap (((BitVec.ofInt IntKind.u64.bits ((IntKind.u64.wrap ((IntKind.u64.wrap (c.yB*6364136223846793005))+1442695040888963407)).fdiv (2 ^ (min (40:Int).toNat IntKind.u64.bits)))&&&BitVec.ofInt IntKind.u64.bits 255).toNat:Int)))
theorem aei {n:Int} (h1:0≤n) (h2:n≤9223372036854775807):IntKind.u64.wrap n=n:=by
 have e:IntKind.u64.wrap n=n%2 ^ 64:=by
  unfold IntKind.wrap
  exact if_neg (fun h=>by simp[IntKind.signed] at h)
 rw[e];omega
theorem NI (c:jo):0≤tq c∧tq c≤255:=by
 have key: ∀n:Nat,n≤255→(0≤IntKind.i64.wrap (n:Int)∧IntKind.i64.wrap (n:Int)≤255)∧IntKind.u64.wrap (n:Int)=n:=fun n h=>by
  rw[iU (by omega) (by omega),aei (by omega) (by omega)];omega
 unfold tq
 cases decide (c.pos<(c.code.length:Int)) with
 | true=>
  have:=(nth c.code c.pos).toNat_lt
  exact(key _ (by omega)).1
 | false=>
  have hb: ∀x:BitVec IntKind.u64.bits,(x&&&BitVec.ofInt IntKind.u64.bits 255).toNat≤255:=fun x=>by
   rw[BitVec.toNat_and];exact Nat.and_le_right
  simp only[cond_false]
  rw[(key _ (hb _)).2]
  exact(key _ (hb _)).1
theorem aak {c:jo} (h:l0 1 c):(r3 c).pos=c.pos+1:=by
 have:IntKind.i64.wrap (c.pos+1)=c.pos+1:=iU (by have:=h.1;omega) (by have:=h.2;omega)
 unfold r3
 cases decide (c.pos<(c.code.length:Int))<;>exact this
theorem l0.mono {k l:Int} {c:jo} (h:l0 k c) (aE:l≤k):l0 l c:=⟨h.1,by have:=h.2;omega⟩
theorem l0.next {k:Int} {c:jo} (h:l0 (k+1) c) (hk:0≤k):l0 k (r3 c):=by
 have:=aak (h.mono (by omega))
 exact⟨by have:=h.1;omega,by have:=h.2;omega⟩
def Gm (n:Int) (c:jo):jo:=if n≤1 then c else bif decide (n>200) then r3 (r3 c) else r3 c
def r8 (n:Int) (c:jo):Int:=if n≤1 then 0 else(bif decide (n>200) then IntKind.i64.wrap (IntKind.i64.wrap (tq c*256)+tq (r3 c)) else tq c).tmod n
theorem aa0 (n:Int) (c:jo):0≤r8 n c∧(1≤n→r8 n c<n):=by
 unfold r8
 split
 ·omega
 ·rename_i ao
  have h1:=NI c
  have h2:=NI (r3 c)
  have h: ∀x:Int,0≤x→0≤x.tmod n∧(1≤n→x.tmod n<n):=fun x hx=>by
   rw[Int.tmod_eq_emod_of_nonneg hx]
   exact⟨Int.emod_nonneg _ (by omega),fun _=>Int.emod_lt_of_pos _ (by omega)⟩
  cases decide (n>200) with
  | true=>
   simp only[cond_true]
   refine h _ ?_
   rw[iU (n:=tq c*256) (by omega) (by omega),iU (by omega) (by omega)];omega
  | false=>exact h _ h1.1
theorem l0.pick {k:Int} {c:jo} {n:Int} (h:l0 (k+2) c) (hk:0≤k):l0 k (Gm n c):=by
 unfold Gm
 split
 ·exact h.mono (by omega)
 ·cases decide (n>200) with
  | true=>exact(l0.next (k:=k+1) (h.mono (by omega)) (by omega)).next hk
  | false=>exact(l0.next (k:=k+1) (h.mono (by omega)) (by omega)).mono (by omega)
structure Cy (n:Int) (no:List Int) (x:List Int):Prop where
 abL: ∀y∈x,0≤y∧y<n
 aap:x.Nodup
 out: ∀y∈x,y ∉ no
theorem Cy.push {n:Int} {no x:List Int} {c:jo} (ao:1≤n) (h:Cy n no x):Cy n no (if((!(meets [r8 n c] x))&&(!(meets [r8 n c] no)))=true then x++[r8 n c] else x):=by
 split
 ·rename_i e
  rw[Bool.and_eq_true,Bool.not_eq_true',Bool.not_eq_true',vv,vv] at e
  have aR:r8 n c ∉ x:=by simpa using e.1
  have e2:r8 n c ∉ no:=by simpa using e.2
  have av:=aa0 n c
  refine⟨fun y ba=> ?_,?_,fun y ba=> ?_⟩
  ·rcases List.mem_append.1 ba with ba | ba
   ·exact h.abL y ba
   ·obtain rfl:=List.mem_singleton.1 ba;exact⟨av.1,av.2 ao⟩
  ·rw[List.nodup_append]
   exact⟨h.aap,by simp,fun a aF b hb e=>by obtain rfl:=List.mem_singleton.1 hb;subst e;exact aR aF⟩
  ·rcases List.mem_append.1 ba with ba | ba
   ·exact h.out y ba
   ·obtain rfl:=List.mem_singleton.1 ba;exact e2
 ·exact h
theorem l0.afk {k:Int} {c:jo} {n:Int} {b:Bool} (h:l0 (k+2) c) (hk:0≤k):l0 k (bif b then Gm n c else c):=by
 cases b with
 | true=>exact h.pick hk
 | false=>exact h.mono (by omega)
structure Cu (be BZ:List Int) (v:Int) (x y:List cr):Prop where
 rx: ∀l∈x,(0≤l.be∧l.be<v)∧(1≤l.bO∧l.bO≤2)∧BZ.contains (nth be l.be)=true
 GS: ∀l∈y,(0≤l.be∧l.be<v)∧(1≤l.bO∧l.bO≤2)
 aas:(x.map (·.be)).Nodup
 aau:(y.map (·.be)).Nodup
 aat: ∀a∈x,∀b∈y,a.be≠b.be
 ZR:(x.length:Int)+y.length≤v
theorem Cu.up {be BZ:List Int} {v:Int} {x y:List cr} (h:Cu be BZ v x y):Cu be BZ (v+1) x y:=
 ⟨fun l aE=>⟨⟨(h.rx l aE).1.1,by have:=(h.rx l aE).1.2;omega⟩,(h.rx l aE).2⟩,fun l aE=>⟨⟨(h.GS l aE).1.1,by have:=(h.GS l aE).1.2;omega⟩,(h.GS l aE).2⟩,h.aas,h.aau,h.aat,by have:=h.ZR;omega⟩
structure zf (ws:List Way) (bs:List (List Bool)) (i k:Int) (r:List Bool):Prop where
 len:r.length=ws.length
 lt: ∀j:Int,0≤j→j<k→j<i→nth r j=nth (nth bs j) i
 gt: ∀j:Int,0≤j→j<k→i<j→meets (nth ws i).ad (nth ws j).ad=true→nth r j=true
theorem zf.set {ws:List Way} {bs:List (List Bool)} {i k:Int} {r:List Bool} (h:zf ws bs i k r) (aI:0≤k) (h1:k<ws.length) {b:Bool} (hb:(k<i→b=nth (nth bs k) i)∧(i<k→meets (nth ws i).ad (nth ws k).ad=true→b=true)):zf ws bs i (k+1) (r.set k.toNat b):=by
 have aE:=h.len
 refine⟨by rw[List.length_set];exact h.len,fun j b_ ef aS=> ?_,fun j b_ ef aS hm=> ?_⟩
 ·rw[NP aI b_ (by omega)]
  split
  ·rename_i e;subst e;exact hb.1 aS
  ·exact h.lt j b_ (by omega) aS
 ·rw[NP aI b_ (by omega)]
  split
  ·rename_i e;subst e;exact hb.2 aS hm
  ·exact h.gt j b_ (by omega) aS hm
structure Cj (ws:List Way) (i:Int) (bs:List (List Bool)):Prop where
 len:(bs.length:Int)=i
 row: ∀j:Int,0≤j→j<i→(nth bs j).length=ws.length
 sym: ∀a b:Int,0≤b→b<a→a<i→nth (nth bs a) b=nth (nth bs b) a
 mt: ∀a b:Int,0≤a→a<b→a<i→b<ws.length→meets (nth ws a).ad (nth ws b).ad=true→nth (nth bs a) b=true
theorem NO {α:Type} [Inhabited α] {xs:List α} {x:α} {j:Int} (aI:0≤j):nth (xs++[x]) j=if j<xs.length then nth xs j else if j=xs.length then x else default:=by
 unfold nth
 rw[List.getD_eq_getElem?_getD,List.getD_eq_getElem?_getD]
 split
 ·rw[List.getElem?_append_left (by omega)]
 ·split
  ·rw[List.getElem?_append_right (by omega),show j.toNat - xs.length=0 by omega];rfl
  ·rw[List.getElem?_eq_none (by simp;omega)];rfl
theorem Cj.push {ws:List Way} {i:Int} {bs:List (List Bool)} {r:List Bool} (h:Cj ws i bs) (aI:0≤i) (av:zf ws bs i ws.length r) (hi:i<ws.length):Cj ws (i+1) (bs++[r]):=by
 have aE:=h.len
 have jg: ∀j:Int,0≤j→j<i→nth (bs++[r]) j=nth bs j:=fun j b_ ef=>by rw[NO b_,if_pos (by omega)]
 have new:nth (bs++[r]) i=r:=by rw[NO aI,if_neg (by omega),if_pos (by omega)]
 refine⟨by simp;omega,fun j b_ ef=> ?_,fun a b eA IF ax=> ?_,fun a b a0 aA ax IQ hm=> ?_⟩
 ·by_cases e:j=i
  ·subst e;rw[new];exact av.len
  ·rw[jg j b_ (by omega)];exact h.row j b_ (by omega)
 ·rw[jg b eA (by omega)]
  by_cases e:a=i
  ·subst e;rw[new];exact av.lt b eA (by omega) IF
  ·rw[jg a (by omega) (by omega)];exact h.sym a b eA IF (by omega)
 ·by_cases e:a=i
  ·subst e;rw[new];exact av.gt b (by omega) IQ aA hm
  ·rw[jg a (by omega) (by omega)];exact h.mt a b a0 aA (by omega) IQ hm
section
variable (code:List UInt8)
end
section
variable {code:List UInt8} {v:Int}
end
section
variable {p:aK} {f:Frame} {e:Event} {k:Int}
end
def lG (p:aK) (f:Frame) (w:Int):fu:=if hJ p f&&lq w p.O.length then hd p f w else⟨[],[],[]⟩
section
variable {p:aK} {f:Frame} {i:Int}
end
end Go.Proofs.YtglpfccgmfhkdaaGreat.Fw
set_option linter.unusedVariables false
set_option maxRecDepth 100000
set_option maxHeartbeats 4000000
set_option linter.unusedSimpArgs false
namespace Go.Proofs.YtglpfccgmfhkdaaGreat.Fw
open Go
attribute [local irreducible] evS evSD WpS Weak Oper.looksAt
def PP (al:Int→Prop) (an:Int→Nat) (a6:Int→Int→Prop) (aY:Int→Int→Nat) (a0:(List Int)) (J:Int) (ae:Bool) (v10:Int):Prop:=
  ((!(b8 (nth a0 v10) 0 (IntKind.i64.wrap (J - 1))))=true→false=ae)∧((!(!(b8 (nth a0 v10) 0 (IntKind.i64.wrap (J - 1)))))=true→a6 v10 0∧ ∀(eV:Int),a6 v10 eV→(((decide (eV<v10))=false→al (IntKind.i64.wrap (v10+1))∧an (IntKind.i64.wrap (v10+1))<an v10)∧((decide (eV<v10))=true→((0≤eV∧eV.toNat<a0.length)∧(((nth a0 eV)==(nth a0 v10))=true→false=ae))∧((!((nth a0 eV)==(nth a0 v10)))=true→a6 v10 (IntKind.i64.wrap (eV+1))∧aY v10 (IntKind.i64.wrap (eV+1))<aY v10 eV))))
def PO (a0:(List Int)) (J:Int) (ae:Bool) (al:Int→Prop) (an:Int→Nat) (a6:Int→Int→Prop) (aY:Int→Int→Nat):Prop:=
 a0.length≤4611686018427387904→al 0∧ ∀(v10:Int),al v10→(((decide (v10<(a0.length:Int)))=false→(decide ((a0.length:Int)≤30))=ae)∧((decide (v10<(a0.length:Int)))=true→(0≤v10∧v10.toNat<a0.length)∧(PP al an a6 aY a0 J ae v10)))
theorem ac7 (a0:(List Int)) (J:Int) (ai:yh a0 J):bg Tryz.prog 135 [bG ct a0,ax J] (aA (gO a0 J)):=(fun(al:Int→Prop) (an:Int→Nat) (a6:Int→Int→Prop) (aY:Int→Int→Nat) (h:PO a0 J (gO a0 J) al an a6 aY)=>bg.run (ps:=[(.l .int),.int]) (rs:=[.bool]) (x:=(a0,J,())) (r:=((gO a0 J),())) ⟨35,cP,[yL]⟩ ⟨[33],[],[],[],[]⟩ (eb [0,1,8,9] [] 10 al an fun aP=>(eb [0,1,5,6,8,9,10] [] 7 (a6 aP) (aY aP) fun _=> .nil)) Tryz.func135 h) (cv a0.length (fun j=> !b8 (nth a0 j) 0 (J - 1) || fv (a0.take j.toNat) (nth a0 j))) (cK a0.length) (fun v=>cv v (fun k=>nth a0 k==nth a0 v)) (fun v=>cK v) (by
 have ai: -9223372036854775808<J∧J≤9223372036854775807:=ai
 unfold PO PP
 intro ao
 refine⟨dt (df _),fun v a_=>⟨fun hv=> ?_,fun hv=>⟨cG a_ hv,?_⟩⟩⟩
 ·exact(ND 30).trans (ZK (gr a_ hv)).symm
 ·have hi:=cG a_ hv
  rw[iU (by omega) (by omega)]
  refine⟨fun h=>(Nk hi.2 h).symm,fun av=>⟨dt a_.1,fun k hK=>⟨fun hk=> ?_,fun hk=> ?_⟩⟩⟩
  ·refine dl (c_ ao) a_ hv ?_
   rw[Vc a_.1 (by simpa using hv) (gr hK hk),Bool.or_false]
   exact not_eq av
  ·have jb:k<v:=by simpa using hk
   have:=hK.1
   exact⟨⟨⟨by omega,by omega⟩,fun he=>(ZJ hK.1 jb (by omega) he).symm⟩,fun he=>dl (by omega) hK hk (not_eq he)⟩)
def ac8:cY Tryz.prog:=⟨135,[(.l .int),.int],[.bool],some fun x=>yh x.1 x.2.1,fun x=>((gO x.1 x.2.1),()),fun x h=>ac7 x.1 x.2.1 h⟩
def ac5:List Item:=[aj 0,aj 1,aj 2,aj 3,aj 4,aj 5,aj 6,aj 7]
def ac6:List (List Nat):=[[],[],[0,1],[0,1,2],rg 0 4,[],[5],rg 0 7]
def PM (al:Int→Prop) (an:Int→Nat) (a6:Int→Int→Prop) (aY:Int→Int→Nat) (J:(List cr)) (ae:Bool) (v10:Int):Prop:=
  a6 v10 0∧ ∀(eV:Int),a6 v10 eV→(((decide (eV<v10))=false→al (IntKind.i64.wrap (v10+1))∧an (IntKind.i64.wrap (v10+1))<an v10)∧((decide (eV<v10))=true→((0≤eV∧eV.toNat<J.length)∧(((nth J eV).be==(nth J v10).be)=true→false=ae))∧((!((nth J eV).be==(nth J v10).be))=true→a6 v10 (IntKind.i64.wrap (eV+1))∧aY v10 (IntKind.i64.wrap (eV+1))<aY v10 eV)))
def PN (al:Int→Prop) (an:Int→Nat) (a6:Int→Int→Prop) (aY:Int→Int→Nat) (a0:aK) (J:(List cr)) (ae:Bool) (v10:Int):Prop:=
  (a0.bd.length≤4611686018427387904→((!(b8 (nth J v10).be 0 (IntKind.i64.wrap ((a0.bd.length:Int) - 1)))) || (!(b8 (nth J v10).bO 1 2)))=true→false=ae)∧((a0.bd.length≤4611686018427387904)∧((!((!(b8 (nth J v10).be 0 (IntKind.i64.wrap ((a0.bd.length:Int) - 1)))) || (!(b8 (nth J v10).bO 1 2))))=true)→PM al an a6 aY J ae v10)
def PL (a0:aK) (J:(List cr)) (ae:Bool) (al:Int→Prop) (an:Int→Nat) (a6:Int→Int→Prop) (aY:Int→Int→Nat):Prop:=
 J.length≤4611686018427387904→al 0∧ ∀(v10:Int),al v10→(((decide (v10<(J.length:Int)))=false→(decide ((J.length:Int)≤30))=ae)∧((decide (v10<(J.length:Int)))=true→(0≤v10∧v10.toNat<J.length)∧(PN al an a6 aY a0 J ae v10)))
theorem ac3 (a0:aK) (J:(List cr)):bg Tryz.prog 136 [.agg (bW false a0),bG dL J] (aA (kE a0 J)):=(fun(al:Int→Prop) (an:Int→Nat) (a6:Int→Int→Prop) (aY:Int→Int→Nat) (h:PL a0 J (kE a0 J) al an a6 aY)=>bg.run (ps:=[.eh,(.l .bO)]) (rs:=[.bool]) (x:=(a0,J,())) (r:=((kE a0 J),())) ⟨46,cP,[yL]⟩ ⟨[44],[(9,ac5,ac6)],[],[],[]⟩ (eb [1,2,8,9] [(2,5)] 10 al an fun aP=>(eb [1,2,5,6,8,9,10] [(6,2),(2,5)] 7 (a6 aP) (aY aP) fun _=> .nil)) Tryz.func136 h) (cv J.length (fun j=>nO a0 (nth J j) || xX J j)) (cK J.length) (fun v=>cv v (fun k=>(nth J k).be==(nth J v).be)) (fun v=>cK v) (by
 unfold PL PN PM
 intro ao
 refine⟨dt (df _),fun v a_=>⟨fun hv=> ?_,fun hv=>⟨cG a_ hv,?_⟩⟩⟩
 ·exact(ND 30).trans (ZH (gr a_ hv)).symm
 ·have hi:=cG a_ hv
  refine⟨fun hs h=> ?_,fun⟨hs,av⟩=>⟨dt a_.1,fun k hK=>⟨fun hk=> ?_,fun hk=> ?_⟩⟩⟩
  ·rw[iU (by omega) (by omega)] at h
   exact(ZI hi.2 h).symm
  ·rw[iU (by omega) (by omega)] at av
   refine dl (c_ ao) a_ hv ?_
   rw[ZE a_.1 (by simpa using hv) (gr hK hk),Bool.or_false]
   exact not_eq av
  ·have jb:k<v:=by simpa using hk
   have:=hK.1
   exact⟨⟨⟨by omega,by omega⟩,fun he=>(ZG hK.1 jb (by omega) he).symm⟩,fun he=>dl (by omega) hK hk (not_eq he)⟩)
def ac4:cY Tryz.prog:=⟨136,[.eh,(.l .bO)],[.bool],none,fun x=>((kE x.1 x.2.1),()),fun x h=>ac3 x.1 x.2.1⟩
def adf:List Item:=[aj 0,aj 1,aj 2,aj 3,aj 4,aj 5,aj 6,aj 7,aj 8,aj 9,aj 10]
def adg:List (List Nat):=[[],[0],[],[2],rg 0 4,rg 0 5,rg 0 6,[],[7],rg 0 9,rg 0 10]
def PT (al:Int→Prop) (an:Int→Nat) (a6:Int→Int→Prop) (aY:Int→Int→Nat) (a0:aK) (J:Way) (ae:Bool) (n4 fL:Int):Prop:=
  ((decide (n4<(J.bP.length:Int)))=false→(0≤(nth J.a1 fL).be∧(nth J.a1 fL).be.toNat<a0.bd.length)∧(((!(meets [(nth a0.bd (nth J.a1 fL).be)] J.ad))=true→false=ae)∧((!(meets [(nth a0.bd (nth J.a1 fL).be)] J.ad))=false→al (IntKind.i64.wrap (fL+1))∧an (IntKind.i64.wrap (fL+1))<an fL)))∧((decide (n4<(J.bP.length:Int)))=true→((0≤n4∧n4.toNat<J.bP.length)∧(((nth J.a1 fL).be==(nth J.bP n4).be)=true→false=ae))∧((!((nth J.a1 fL).be==(nth J.bP n4).be))=true→a6 fL (IntKind.i64.wrap (n4+1))∧aY fL (IntKind.i64.wrap (n4+1))<aY fL n4))
def PU (al:Int→Prop) (an:Int→Nat) (a6:Int→Int→Prop) (aY:Int→Int→Nat) (a0:aK) (J:Way) (ae:Bool):Prop:=
  ((J.ad.length≤4611686018427387904→((J.ad.length:Int)==0)=false→(yh J.ad a0.ad)∧((!(gO J.ad a0.ad))=false→(yh J.b4 a0.ad)∧((!(gO J.b4 a0.ad))=false→yh J.dv a0.ad)))∧(J.ad.length≤4611686018427387904→(((J.ad.length:Int)==0) || ((!(gO J.ad a0.ad)) || ((!(gO J.b4 a0.ad)) || ((!(gO J.dv a0.ad)) || ((!(kE a0 J.a1)) || (!(kE a0 J.bP)))))))=true→false=ae))∧((J.ad.length≤4611686018427387904)∧((!(((J.ad.length:Int)==0) || ((!(gO J.ad a0.ad)) || ((!(gO J.b4 a0.ad)) || ((!(gO J.dv a0.ad)) || ((!(kE a0 J.a1)) || (!(kE a0 J.bP))))))))=true)→J.a1.length≤4611686018427387904→al 0∧ ∀(fL:Int),al fL→(((decide (fL<(J.a1.length:Int)))=false→(!(meets J.b4 J.ad))=ae)∧((decide (fL<(J.a1.length:Int)))=true→(0≤fL∧fL.toNat<J.a1.length)∧(J.bP.length≤4611686018427387904→a6 fL 0∧ ∀(n4:Int),a6 fL n4→(PT al an a6 aY a0 J ae n4 fL)))))
def PS (a0:aK) (J:Way) (ae:Bool) (al:Int→Prop) (an:Int→Nat) (a6:Int→Int→Prop) (aY:Int→Int→Nat):Prop:=
 PU al an a6 aY a0 J ae
theorem adb (a0:aK) (J:Way) (ai:Gt a0 J):bg Tryz.prog 128 [.agg (bW false a0),.agg (en false J)] (aA (hA a0 J)):=(fun(al:Int→Prop) (an:Int→Nat) (a6:Int→Int→Prop) (aY:Int→Int→Nat) (h:PS a0 J (hA a0 J) al an a6 aY)=>bg.run (ps:=[.eh,.ei]) (rs:=[.bool]) (x:=(a0,J,())) (r:=((hA a0 J),())) ⟨89,cP,[ac8,ac4,Hj]⟩ ⟨[],[(12,adf,adg)],[],[],[]⟩ (eb [2,3,52,53] [(3,5),(2,5)] 54 al an fun aP=>(eb [2,3,6,52,53,54,59,60] [(6,2),(3,5),(2,5)] 61 (a6 aP) (aY aP) fun _=> .nil)) Tryz.func128 h) (cv J.a1.length (fun j=>J.bP.any (fun y=>(nth J.a1 j).be==y.be) || !(J.ad.contains (nth a0.bd (nth J.a1 j).be)))) (cK J.a1.length) (fun v=>cv J.bP.length (fun k=>(nth J.a1 v).be==(nth J.bP k).be)) (fun v=>cK J.bP.length) (by
 unfold PS PU PT
 refine⟨⟨fun _ _=>⟨ai,fun _=>⟨ai,fun _=>ai⟩⟩,fun ao h=> ?_⟩,fun⟨ao,h⟩ aE=> ?_⟩
 ·symm
  rw[←Bool.not_eq_true,n6]
  rintro⟨h1,h2,aM,bx,c9,e6,-⟩
  have aH:J.ad.length≠0:=fun e=>h1 (List.eq_nil_of_length_eq_zero e)
  simp only[h2,aM,bx,c9,e6,Bool.not_true,Bool.or_false] at h
  simp at h
  exact h1 h
 ·simp only[Bool.not_eq_true',Bool.or_eq_false_iff,Bool.not_eq_false'] at h
  obtain⟨h1,h2,aM,bx,c9,e6⟩:=h
  have h1:J.ad≠[]:=fun e=>by rw[e] at h1;simp at h1
  have EA:=mv.1 c9
  have VJ:=mv.1 e6
  refine⟨dt (df _),fun v a_=>⟨fun hv=> ?_,fun hv=>⟨cG a_ hv,fun hf=>⟨dt (df _),fun k hK=>⟨fun hk=> ?_,fun hk=>⟨⟨cG hK hk,fun he=> ?_⟩,fun he=>dl (c_ hf) hK hk (not_eq he)⟩⟩⟩⟩⟩⟩
  ·have d_:=gr a_ hv
   have aZ:((bS J).map (·.be)).Nodup:=by
    rw[Ga]
    refine⟨EA.2.2,VJ.2.2,fun x hx y ba he=> ?_⟩
    have:=lB (q:=fun x=>J.bP.any (fun y=>x.be==y.be) || !(J.ad.contains (nth a0.bd x.be))) d_ x hx
    simp only[Bool.or_eq_false_iff] at this
    have:=this.1
    rw[List.any_eq_false] at this
    exact this y ba (by simpa using he)
   have hc: ∀x∈J.a1,J.ad.contains (nth a0.bd x.be)=true:=fun x hx=>by
    have:=lB (q:=fun x=>J.bP.any (fun y=>x.be==y.be) || !(J.ad.contains (nth a0.bd x.be))) d_ x hx
    simp only[Bool.or_eq_false_iff] at this
    simpa using this.2
   rw[Z1,Bool.eq_iff_iff,n6]
   constructor
   ·intro hm;exact⟨h1,h2,aM,bx,c9,e6,aZ,hc,by simpa using hm⟩
   ·rintro⟨-,-,-,-,-,-,-,-,hm⟩;rw[hm];rfl
  ·have dx:=EA.2.1 _ (eR (cG a_ hv).2)
   rw[Bool.and_eq_true,xS] at dx
   refine⟨⟨dx.1.1,by omega⟩,fun hm=> ?_,fun hm=> ?_⟩
   ·symm
    rw[←Bool.not_eq_true,n6]
    rintro⟨-,-,-,-,-,-,-,hc,-⟩
    rw[vv,hc _ (eR (cG a_ hv).2)] at hm
    cases hm
   ·refine dl (c_ aE) a_ hv ?_
    rw[vv] at hm
    rw[hm,Bool.or_false]
    have:=lB (q:=fun y:cr=>(nth J.a1 v).be==y.be) (gr hK hk)
    rw[List.any_eq_false]
    intro y ba
    rw[this y ba];simp
  ·symm
   rw[←Bool.not_eq_true,n6]
   rintro⟨-,-,-,-,-,-,aZ,-,-⟩
   exact(Ga.1 aZ).2.2 _ (eR (cG a_ hv).2) _ (eR (cG hK hk).2) (by simpa using he))
def ade:cY Tryz.prog:=⟨128,[.eh,.ei],[.bool],some fun x=>Gt x.1 x.2.1,fun x=>((hA x.1 x.2.1),()),fun x h=>adb x.1 x.2.1 h⟩
def XQ:List Item:=[aj 0,aj 1,aj 2,aj 3,aj 4,aj 5,aj 6,aj 7,aj 8,aj 9,aj 10,aj 11,aj 12,aj 13,aj 14,aj 15,aj 16]
def XR:List (List Nat):=[[],[],[1],[1,2],rg 0 4,rg 0 5,rg 0 6,rg 0 7,rg 0 6,rg 0 6++[8],rg 0 6,rg 0 6++[10],rg 0 6++rg 8 12,rg 0 6++rg 8 13,rg 0 14,rg 0 15,rg 0 16]
def LU (a0:aK) (J:Way) (ae:Bool) (aL:(List Int)) (fA:Int):Prop:=
  (((decide (fA<(J.a1.length:Int)))=true→0≤(nth (bS J) fA).be∧(nth (bS J) fA).be.toNat<a0.bd.length)∧(((decide (fA<(J.a1.length:Int)))&&(!(fv J.ad (nth a0.bd (nth (bS J) fA).be))))=true→false=ae))∧((!((decide (fA<(J.a1.length:Int)))&&(!(fv J.ad (nth a0.bd (nth (bS J) fA).be)))))=true→(aL.length+[(nth (bS J) fA).be].length)*8≤140737488355328∧aL.length+[(nth (bS J) fA).be].length≤4611686018427387904)
def LV (a0:aK) (J:Way) (ae:Bool) (aL:(List Int)) (fA:Int):Prop:=
  (((decide ((nth (bS J) fA).be<0)) || ((decide ((nth (bS J) fA).be ≥ (a0.bd.length:Int))) || (((nth (bS J) fA).bO !=1)&&((nth (bS J) fA).bO !=2))))=true→false=ae)∧((!((decide ((nth (bS J) fA).be<0)) || ((decide ((nth (bS J) fA).be ≥ (a0.bd.length:Int))) || (((nth (bS J) fA).bO !=1)&&((nth (bS J) fA).bO !=2)))))=true→LU a0 J ae aL fA)
abbrev pT (r:Type):Type:=Int→Nat→(List Int)→Int→r
def LW (a6:pT Prop) (aY:pT Nat) (a0:aK) (J:Way) (ae:Bool) (fz:Int) (g0:Nat) (aL:(List Int)) (fA:Int):Prop:=
  ((0≤fA∧fA.toNat<(bS J).length)∧(LV a0 J ae aL fA))∧(((!((decide ((nth (bS J) fA).be<0)) || ((decide ((nth (bS J) fA).be ≥ (a0.bd.length:Int))) || (((nth (bS J) fA).bO !=1)&&((nth (bS J) fA).bO !=2)))))&&(!((decide (fA<(J.a1.length:Int)))&&(!(fv J.ad (nth a0.bd (nth (bS J) fA).be))))))=true→a6 fz (g0+1) (aL++[(nth (bS J) fA).be]) (IntKind.i64.wrap (fA+1))∧aY fz (g0+1) (aL++[(nth (bS J) fA).be]) (IntKind.i64.wrap (fA+1))<aY fz g0 aL fA)
def LX (a6:pT Prop) (aY:pT Nat) (a0:aK) (J:Way) (ae:Bool) (fz:Int):Prop:=
  (yi J)∧((bS J).length≤4611686018427387904→a6 fz 0 ([]:List Int) 0∧ ∀(g0:Nat) (aL:(List Int)) (fA:Int),a6 fz g0 aL fA→(((decide (fA<((bS J).length:Int)))=false→(aL.length≤4611686018427387904)∧(((!(dup aL))&&(!(meets J.ad J.b4)))=ae))∧((decide (fA<((bS J).length:Int)))=true→LW a6 aY a0 J ae fz g0 aL fA)))
def LY (bB:Int→Int→Prop) (bj:Int→Int→Nat) (a0:aK) (J:Way) (ae:Bool) (v49 fz:Int):Prop:=
  ((0≤v49∧v49.toNat<(nth [J.ad,J.b4,J.dv] fz).length)∧(((decide ((nth (nth [J.ad,J.b4,J.dv] fz) v49)<0)) || (decide ((nth (nth [J.ad,J.b4,J.dv] fz) v49) ≥ a0.ad)))=true→false=ae))∧((!((decide ((nth (nth [J.ad,J.b4,J.dv] fz) v49)<0)) || (decide ((nth (nth [J.ad,J.b4,J.dv] fz) v49) ≥ a0.ad))))=true→bB fz (IntKind.i64.wrap (v49+1))∧bj fz (IntKind.i64.wrap (v49+1))<bj fz v49)
def LZ (al:Int→Prop) (an:Int→Nat) (bB:Int→Int→Prop) (bj:Int→Int→Nat) (a0:aK) (J:Way) (ae:Bool) (fz:Int):Prop:=
  ((nth [J.ad,J.b4,J.dv] fz).length≤4611686018427387904→((decide (((nth [J.ad,J.b4,J.dv] fz).length:Int)>30)) || (dup (nth [J.ad,J.b4,J.dv] fz)))=true→false=ae)∧(((nth [J.ad,J.b4,J.dv] fz).length≤4611686018427387904)∧((!((decide (((nth [J.ad,J.b4,J.dv] fz).length:Int)>30)) || (dup (nth [J.ad,J.b4,J.dv] fz))))=true)→bB fz 0∧ ∀(v49:Int),bB fz v49→(((decide (v49<((nth [J.ad,J.b4,J.dv] fz).length:Int)))=false→al (IntKind.i64.wrap (fz+1))∧an (IntKind.i64.wrap (fz+1))<an fz)∧((decide (v49<((nth [J.ad,J.b4,J.dv] fz).length:Int)))=true→LY bB bj a0 J ae v49 fz)))
def L0 (al:Int→Prop) (an:Int→Nat) (a6:pT Prop) (aY:pT Nat) (bB:Int→Int→Prop) (bj:Int→Int→Nat) (a0:aK) (J:Way) (ae:Bool):Prop:=
  (J.ad.length≤4611686018427387904→(((J.ad.length:Int)==0) || ((decide ((J.a1.length:Int)>30)) || (decide ((J.bP.length:Int)>30))))=true→false=ae)∧((J.ad.length≤4611686018427387904)∧((!(((J.ad.length:Int)==0) || ((decide ((J.a1.length:Int)>30)) || (decide ((J.bP.length:Int)>30)))))=true)→[J.ad,J.b4,J.dv].length≤4611686018427387904→al 0∧ ∀(fz:Int),al fz→(((decide (fz<([J.ad,J.b4,J.dv].length:Int)))=false→LX a6 aY a0 J ae fz)∧((decide (fz<([J.ad,J.b4,J.dv].length:Int)))=true→(0≤fz∧fz.toNat<[J.ad,J.b4,J.dv].length)∧(LZ al an bB bj a0 J ae fz))))
def LS (a0:aK) (J:Way) (ae:Bool) (al:Int→Prop) (an:Int→Nat) (a6:pT Prop) (aY:pT Nat) (bB:Int→Int→Prop) (bj:Int→Int→Nat):Prop:=
 L0 al an a6 aY bB bj a0 J ae
theorem XO (a0:aK) (J:Way):bg Tryz.prog 129 [.agg (bW false a0),.agg (en false J)] (aA (hA a0 J)):=(fun(al:Int→Prop) (an:Int→Nat) (a6:pT Prop) (aY:pT Nat) (bB:Int→Int→Prop) (bj:Int→Int→Nat) (h:LS a0 J (hA a0 J) al an a6 aY bB bj)=>bg.run (ps:=[.eh,.ei]) (rs:=[.bool]) (x:=(a0,J,())) (r:=((hA a0 J),())) ⟨126,cP,[Fj,XL,Fh,BS]⟩ ⟨[48],[(21,XQ,XR)],[],[],[]⟩ (eb [2,3,34,35] [(3,5),(2,5)] 36 al an fun aP=>(.uE (.lp [(0,9,.int)] [2,3,64,65] [(3,5),(2,5)] [.nat,(.l .int),.int] [bJ 0,bJ 0,66] (fun bz=>[(9,.ref 0 bz.1 bz.2.1.length false),(66,.i .i64 bz.2.2.1),(bJ 0,.blk bz.1 .int bz.2.1 _ rfl)]) (fun bz=>a6 aP bz.1 bz.2.1 bz.2.2.1) (fun bz=>aY aP bz.1 bz.2.1 bz.2.2.1) fun _=> .nil) (eb [2,3,34,35,36,47,48] [(3,5),(2,5)] 49 (bB aP) (bj aP) fun _=> .nil))) Tryz.func129 h) (cv ([J.ad,J.b4,J.dv].length:Int) (fun k=> !gO (nth [J.ad,J.b4,J.dv] k) a0.ad)) (cK ([J.ad,J.b4,J.dv].length:Int)) (fun _ _ x v=>cv (bS J).length (oG a0 J) v∧x=((bS J).take v.toNat).map (·.be)) (fun _ _ _ v=>cK (bS J).length v) (fun i=>cv (nth [J.ad,J.b4,J.dv] i).length (fun j=> !b8 (nth (nth [J.ad,J.b4,J.dv] i) j) 0 (a0.ad - 1))) (fun i=>cK (nth [J.ad,J.b4,J.dv] i).length) (by
 unfold LS L0
 have hlen:J.a1.length≤30→J.bP.length≤30→(bS J).length≤60:=by unfold bS;rw[List.length_append];omega
 refine⟨fun ao h=> ?_,fun⟨ao,h⟩ bN=> ?_⟩
 ·symm
  rw[←Bool.not_eq_true,n6]
  rintro⟨h1,-,-,-,c9,e6,-⟩
  have:=(mv.1 c9).1
  have:=(mv.1 e6).1
  simp at h
  rcases h with h | h | h
  ·exact h1 h
  ·omega
  ·omega
 ·simp at h
  obtain⟨h1,h2,aM⟩:=h
  have h2:J.a1.length≤30:=by omega
  have aM:J.bP.length≤30:=by omega
  have ae1:=hlen h2 aM
  refine⟨dt (df _),fun i a_=>⟨fun hi=> ?_,fun hi=>⟨cG a_ hi,?_⟩⟩⟩
  ·have d_: ∀l∈[J.ad,J.b4,J.dv],gO l a0.ad=true:=fun l aE=>by
    have:=lB (q:=fun l=> !gO l a0.ad) (gr a_ hi) l aE
    simpa using this
   unfold LX
   refine⟨⟨by omega,by omega⟩,fun iH=>⟨⟨dt (df _),rfl⟩,fun g x v ⟨ff,hx⟩=>⟨fun hv=> ?_,fun hv=> ?_⟩⟩⟩
   ·have qC: ¬v<((bS J).length:Int):=by simpa using hv
    rw[List.take_of_length_le (by have:=ff.1;omega)] at hx
    subst hx
    exact⟨by rw[List.length_map];omega,Uz h1 d_ h2 aM (gr ff hv)⟩
   ·have dx:=cG ff hv
    have oC:x.length≤60:=by rw[hx,List.length_map,List.length_take];omega
    have bad:oG a0 J v=true→false=hA a0 J:=fun hb=>by
     symm
     rw[←Bool.not_eq_true]
     intro aQ
     rw[UB aQ dx.1 dx.2] at hb
     cases hb
    unfold LW LV LU
    rw[ZD]
    refine⟨⟨dx,fun hb=>bad (by unfold oG;rw[hb];rfl),fun hb=>⟨⟨fun aE=> ?_,fun hc=>bad (by unfold oG;rw[hc,Bool.or_true])⟩,fun _=> ?_⟩⟩,fun hb=> ?_⟩
    ·have hb:nO a0 (nth (bS J) v)=false:=not_eq hb
     rw[xW] at hb
     simp only[Bool.not_eq_false',Bool.and_eq_true,xS] at hb
     exact⟨hb.1.1,by omega⟩
    ·simp only[List.length_cons,List.length_nil];omega
    ·have hb:oG a0 J v=false:=by
      unfold oG
      rw[Bool.and_eq_true] at hb
      rw[not_eq hb.1,not_eq hb.2];rfl
     have a8:=dl (c_ iH) ff hv hb
     have hw:IntKind.i64.wrap (v+1)=v+1:=iU (by omega) (by omega)
     refine⟨⟨a8.1,?_⟩,a8.2⟩
     rw[hw,hx,show(v+1).toNat=v.toNat+1 by omega,List.take_succ_eq_append_getElem dx.2,List.map_append,←hW dx.2]
     rfl
  ·have xy:=cG a_ hi
   have IG:gO (nth [J.ad,J.b4,J.dv] i) a0.ad=false→false=hA a0 J:=fun hb=>by
    symm
    rw[←Bool.not_eq_true]
    intro aQ
    rw[UA aQ _ (eR xy.2)] at hb
    cases hb
   unfold LZ LY
   refine⟨fun ao h=>IG ?_,fun⟨ao,h⟩=>⟨dt (df _),fun v lh=>⟨fun hv=> ?_,fun hv=> ?_⟩⟩⟩
   ·rw[←Bool.not_eq_true,ti]
    rintro⟨q1,-,q3⟩
    simp only[Bool.or_eq_true,decide_eq_true_eq] at h
    rcases h with h | h
    ·omega
    ·unfold dup at h;simp[q3] at h
   ·refine dl (by simp) a_ hi ?_
    simp only[Bool.not_eq_true',Bool.or_eq_false_iff,decide_eq_false_iff_not] at h
    have aZ:(nth [J.ad,J.b4,J.dv] i).Nodup:=by have:=h.2;unfold dup at this;simpa using this
    have:gO (nth [J.ad,J.b4,J.dv] i) a0.ad=true:=by
     rw[ti]
     refine⟨by omega,fun x hx=> ?_,aZ⟩
     have:=lB (q:=fun x=> !b8 x 0 (a0.ad - 1)) (gr lh hv) x hx
     simpa using this
    rw[this];rfl
   ·rw[GP]
    exact⟨⟨cG lh hv,fun h=>IG (Nk (cG lh hv).2 h)⟩,fun h=>dl (c_ ao) lh hv (not_eq h)⟩)
def XP:cY Tryz.prog:=⟨129,[.eh,.ei],[.bool],none,fun x=>((hA x.1 x.2.1),()),fun x h=>XO x.1 x.2.1⟩
def WT:List Item:=[aj 0,aj 1,aj 2,aj 3,aj 4,aj 5,aj 6,aj 7,aj 8,aj 9,aj 10,aj 11,aj 12,aj 13,aj 14,aj 15,aj 16,aj 17,aj 18,aj 19,aj 20,aj 21,aj 22,aj 23,aj 24,aj 25,aj 26,aj 27,aj 28,aj 29,aj 30,aj 31,aj 32,aj 33,aj 34,aj 35,aj 36,aj 37,aj 38,aj 39,aj 40,aj 41,aj 42,aj 43,aj 44,aj 45,aj 46,aj 47]
def WU:List (List Nat):=[[],[0],[],[0,1,2],rg 0 4,[],rg 0 6,rg 0 7,[],[8],[],[8,9,10],rg 8 12,[],rg 8 14,rg 8 15,rg 0 16,rg 0 17,rg 0 18,rg 0 18,rg 0 20,rg 0 21,rg 0 22,rg 0 23,rg 0 22,rg 0 25,rg 0 26,rg 0 22,rg 0 28,rg 0 29,rg 0 30,rg 0 31,rg 0 32,rg 0 33,rg 0 34,rg 0 33,rg 0 36,rg 0 37,rg 0 38,rg 0 33,rg 0 33++[39],rg 0 33,rg 0 33++[39,40,41],rg 0 33++rg 39 43,rg 0 33++rg 39 44,rg 0 45,rg 0 46,rg 0 47]
def Lj (a0:aK) (ae:ij) (gB fq:Int):Prop:=
  ((0≤fq∧fq.toNat<a0.bt.length)∧((0≤gB∧gB.toNat<(nth a0.bt fq).length)∧((0≤gB∧gB.toNat<a0.bt.length)∧((0≤fq∧fq.toNat<(nth a0.bt gB).length)∧(((nth (nth a0.bt fq) gB) !=(nth (nth a0.bt gB) fq))=false→(fq !=gB)=true→(0≤fq∧fq.toNat<a0.bt.length)∧((0≤gB∧gB.toNat<(nth a0.bt fq).length)∧((!(nth (nth a0.bt fq) gB))=true→(0≤fq∧fq.toNat<a0.O.length)∧(0≤gB∧gB.toNat<a0.O.length))))))))∧((((nth (nth a0.bt fq) gB) !=(nth (nth a0.bt gB) fq)) || ((fq !=gB)&&((!(nth (nth a0.bt fq) gB))&&(meets (nth a0.O fq).ad (nth a0.O gB).ad))))=true→(5=ae.code)∧(fq=ae.pos))
abbrev hD (r:Type):Type:=Int→Int→Int→Int→r
abbrev hh (r:Type):Type:=Int→Int→Int→Int→Int→r
def Lk (cB:hD Prop) (cF:hD Nat) (dK:hh Prop) (dM:hh Nat) (a0:aK) (ae:ij) (dG gu v87 gB fq:Int):Prop:=
  ((decide (gB<(a0.O.length:Int)))=false→cB dG gu v87 (IntKind.i64.wrap (fq+1))∧cF dG gu v87 (IntKind.i64.wrap (fq+1))<cF dG gu v87 fq)∧((decide (gB<(a0.O.length:Int)))=true→(Lj a0 ae gB fq)∧((!(((nth (nth a0.bt fq) gB) !=(nth (nth a0.bt gB) fq)) || ((fq !=gB)&&((!(nth (nth a0.bt fq) gB))&&(meets (nth a0.O fq).ad (nth a0.O gB).ad)))))=true→dK dG gu v87 fq (IntKind.i64.wrap (gB+1))∧dM dG gu v87 fq (IntKind.i64.wrap (gB+1))<dM dG gu v87 fq gB))
abbrev dk (r:Type):Type:=Int→Int→Int→r
def Ll (bB:dk Prop) (bj:dk Nat) (a0:aK) (ae:ij) (dG gu v87:Int):Prop:=
  ((0≤v87∧v87.toNat<a0.bt.length)∧((nth a0.bt v87).length≤4611686018427387904→(((nth a0.bt v87).length:Int) !=(a0.O.length:Int))=true→(4=ae.code)∧(v87=ae.pos)))∧(((nth a0.bt v87).length≤4611686018427387904)∧((!(((nth a0.bt v87).length:Int) !=(a0.O.length:Int)))=true)→bB dG gu (IntKind.i64.wrap (v87+1))∧bj dG gu (IntKind.i64.wrap (v87+1))<bj dG gu v87)
def Lm (bB:dk Prop) (bj:dk Nat) (cB:hD Prop) (cF:hD Nat) (dK:hh Prop) (dM:hh Nat) (a0:aK) (ae:ij) (dG gu v87:Int):Prop:=
  ((decide (v87<(a0.bt.length:Int)))=false→cB dG gu v87 0∧ ∀(fq:Int),cB dG gu v87 fq→(((decide (fq<(a0.O.length:Int)))=false→(0=ae.code)∧(0=ae.pos))∧((decide (fq<(a0.O.length:Int)))=true→dK dG gu v87 fq 0∧ ∀(gB:Int),dK dG gu v87 fq gB→(Lk cB cF dK dM a0 ae dG gu v87 gB fq))))∧((decide (v87<(a0.bt.length:Int)))=true→Ll bB bj a0 ae dG gu v87)
def Ln (a6:Int→Int→Prop) (aY:Int→Int→Nat) (bB:dk Prop) (bj:dk Nat) (cB:hD Prop) (cF:hD Nat) (dK:hh Prop) (dM:hh Nat) (a0:aK) (ae:ij) (dG gu:Int):Prop:=
  ((decide (gu<(a0.O.length:Int)))=false→(a0.bt.length≤4611686018427387904→((a0.bt.length:Int) !=(a0.O.length:Int))=true→(4=ae.code)∧(0=ae.pos))∧((a0.bt.length≤4611686018427387904)∧((!((a0.bt.length:Int) !=(a0.O.length:Int)))=true)→bB dG gu 0∧ ∀(v87:Int),bB dG gu v87→(Lm bB bj cB cF dK dM a0 ae dG gu v87)))∧((decide (gu<(a0.O.length:Int)))=true→((0≤gu∧gu.toNat<a0.O.length)∧((!(hA a0 (nth a0.O gu)))=true→(3=ae.code)∧(gu=ae.pos)))∧((!(!(hA a0 (nth a0.O gu))))=true→a6 dG (IntKind.i64.wrap (gu+1))∧aY dG (IntKind.i64.wrap (gu+1))<aY dG gu))
def Lo (al:Int→Prop) (an:Int→Nat) (a6:Int→Int→Prop) (aY:Int→Int→Nat) (bB:dk Prop) (bj:dk Nat) (cB:hD Prop) (cF:hD Nat) (dK:hh Prop) (dM:hh Nat) (a0:aK) (ae:ij) (dG:Int):Prop:=
  ((decide (dG<(a0.bd.length:Int)))=false→a0.O.length≤4611686018427387904→a6 dG 0∧ ∀(gu:Int),a6 dG gu→(Ln a6 aY bB bj cB cF dK dM a0 ae dG gu))∧((decide (dG<(a0.bd.length:Int)))=true→((0≤dG∧dG.toNat<a0.bd.length)∧(((decide ((nth a0.bd dG)<0)) || (decide ((nth a0.bd dG) ≥ a0.ad)))=true→(2=ae.code)∧(dG=ae.pos)))∧((!((decide ((nth a0.bd dG)<0)) || (decide ((nth a0.bd dG) ≥ a0.ad))))=true→al (IntKind.i64.wrap (dG+1))∧an (IntKind.i64.wrap (dG+1))<an dG))
def Lp (al:Int→Prop) (an:Int→Nat) (a6:Int→Int→Prop) (aY:Int→Int→Nat) (bB:dk Prop) (bj:dk Nat) (cB:hD Prop) (cF:hD Nat) (dK:hh Prop) (dM:hh Nat) (a0:aK) (ae:ij):Prop:=
  (((decide (a0.ad<1)) || ((decide (a0.ad>60)) || ((decide (a0.cS<1)) || ((decide (a0.cS>300)) || ((decide ((a0.bd.length:Int)>40)) || (decide ((a0.O.length:Int)>100)))))))=true→(1=ae.code)∧(0=ae.pos))∧((!((decide (a0.ad<1)) || ((decide (a0.ad>60)) || ((decide (a0.cS<1)) || ((decide (a0.cS>300)) || ((decide ((a0.bd.length:Int)>40)) || (decide ((a0.O.length:Int)>100))))))))=true→a0.bd.length≤4611686018427387904→al 0∧ ∀(dG:Int),al dG→(Lo al an a6 aY bB bj cB cF dK dM a0 ae dG))
def Li (a0:aK) (ae:ij) (al:Int→Prop) (an:Int→Nat) (a6:Int→Int→Prop) (aY:Int→Int→Nat) (bB:dk Prop) (bj:dk Nat) (cB:hD Prop) (cF:hD Nat) (dK:hh Prop) (dM:hh Nat):Prop:=
 Lp al an a6 aY bB bj cB cF dK dM a0 ae
theorem WR (a0:aK):bg Tryz.prog 105 [.agg (bW false a0)] (.agg (Dt (ht a0))):=(fun(al:Int→Prop) (an:Int→Nat) (a6:Int→Int→Prop) (aY:Int→Int→Nat) (bB:dk Prop) (bj:dk Nat) (cB:hD Prop) (cF:hD Nat) (dK:hh Prop) (dM:hh Nat) (h:Li a0 (ht a0) al an a6 aY bB bj cB cF dK dM)=>bg.run (ps:=[.eh]) (rs:=[.fault]) (x:=(a0,())) (r:=((ht a0),())) ⟨166,cP,[Fh,XP]⟩ ⟨[81,86,96,103,109],[(29,WT,WU)],[],[],[]⟩ (eb [1,2,43,44] [(2,2),(1,5)] 45 al an fun aP=>(eb [1,2,62,63] [(2,2),(1,5)] 64 (a6 aP) (aY aP) fun bz=>(eb [1,2,85,86] [(2,2),(1,5)] 87 (bB aP bz) (bj aP bz) fun bM=>(eb [1,2,103] [(2,2),(1,5)] 104 (cB aP bz bM) (cF aP bz bM) fun cU=>(eb [1,2,9,103,104,109] [(2,2),(1,5)] 110 (dK aP bz bM cU) (dM aP bz bM cU) fun _=> .nil))))) Tryz.func105 h) (cv a0.bd.length (fun j=> !b8 (nth a0.bd j) 0 (a0.ad - 1))) (cK a0.bd.length) (fun _=>cv a0.O.length (fun j=> !hA a0 (nth a0.O j))) (fun _=>cK a0.O.length) (fun _ _=>cv a0.bt.length (fun j=>decide ((nth a0.bt j).length≠a0.O.length))) (fun _ _=>cK a0.bt.length) (fun _ _ _=>cv a0.O.length (fun i=>(List.range a0.O.length).any fun k=>n9 a0 i.toNat k)) (fun _ _ _=>cK a0.O.length) (fun _ _ _ i=>cv a0.O.length (fun k=>n9 a0 i.toNat k.toNat)) (fun _ _ _ _=>cK a0.O.length) (by
 unfold Li Lp
 refine⟨fun h=> ?_,fun h lk=> ?_⟩
 ·have hb:kj a0=false:=by
   rw[←Bool.not_eq_true,tA]
   intro hb
   simp[kj] at h
   omega
  rw[Gp hb];exact⟨rfl,rfl⟩
 ·have hb:kj a0=true:=by
   rw[tA]
   simp[kj] at h
   omega
  have c5:=tA.1 hb
  refine⟨dt (df _),fun v0 ol=> ?_⟩
  unfold Lo
  refine⟨fun cs AE=> ?_,fun hU=> ?_⟩
  case refine_2=>
   rw[GP]
   refine⟨⟨cG ol hU,fun lR=> ?_⟩,fun fj=>dl (c_ lk) ol hU (not_eq fj)⟩
   rw[Ob hb (oZ (q:=fun s=> !b8 s 0 (a0.ad - 1)) ol hU lR)]
   have:=ol.1
   exact⟨rfl,by show v0=(v0.toNat:Int);omega⟩
  have f0:=o0 (q:=fun s=> !b8 s 0 (a0.ad - 1)) ol cs
  refine⟨dt (df _),fun v1 om=> ?_⟩
  unfold Ln
  refine⟨fun aR=> ?_,fun kf=> ?_⟩
  case refine_2=>
   refine⟨⟨cG om kf,  fun lR=> ?_⟩,fun fj=>dl (c_ AE) om kf (not_eq fj)⟩
   rw[Oc hb f0 (oZ (q:=fun w=> !hA a0 w) om kf lR)]
   have:=om.1
   exact⟨rfl,by show v1=(v1.toNat:Int);omega⟩
  have f1:=o0 (q:=fun w=> !hA a0 w) om aR
  rw[Od hb f0 f1]
  refine⟨fun hm bY=> ?_,fun⟨hm,bY⟩=> ?_⟩
  ·have bY:a0.bt.length≠a0.O.length:=by
    intro e;rw[e] at bY;simp at bY
   rw[Oa bY];exact⟨rfl,rfl⟩
  have aE:a0.bt.length=a0.O.length:=by
   have:(a0.bt.length:Int)=a0.O.length:=by simpa using bY
   omega
  refine⟨dt (df _),fun v2 m2=> ?_⟩
  unfold Lm
  refine⟨fun e2=> ?_,fun hv2=> ?_⟩
  case refine_2=>
   have rB:(((nth a0.bt v2).length:Int) !=(a0.O.length:Int))=decide ((nth a0.bt v2).length≠a0.O.length):=by
    rw[Bool.eq_iff_iff];simp;omega
   unfold Ll
   rw[rB]
   refine⟨⟨cG m2 hv2,fun av lR=> ?_⟩,fun⟨av,fj⟩=>dl (c_ hm) m2 hv2 (not_eq fj)⟩
   rw[N9 aE (oZ (q:=fun b=>decide (b.length≠a0.O.length)) m2 hv2 lR)]
   have:=m2.1
   exact⟨rfl,by show v2=(v2.toNat:Int);omega⟩
  have f2:=o0 (q:=fun b:List Bool=>decide (b.length≠a0.O.length)) m2 e2
  have yA: ∀i:Int,0≤i→i<a0.O.length→(nth a0.bt i).length=a0.O.length:=fun i i0 i1=>by
   have:=gr m2 e2 i i0 (by omega)
   simpa using this
  refine⟨dt (df _),fun v3 m3=>⟨fun dq=> ?_,fun j0=> ?_⟩⟩
  ·skip
   rw[N8 aE f2 (JO fun j b_ ef=>gr m3 dq j b_ ef)]
   exact⟨rfl,rfl⟩
  ·have vj:v3<(a0.O.length:Int):=by simpa using j0
   have nI:=m3.1
   refine⟨dt (df _),fun v4 oo=> ?_⟩
   unfold Lk Lj
   rw[II m3.1 oo.1]
   have pi:=oo.1
   refine⟨fun hH=>dl (by omega) m3 j0 (NC fun j b_ ef=>gr oo hH j b_ ef),fun xN=> ?_⟩
   have xO:v4<(a0.O.length:Int):=by simpa using xN
   have fK:=yA v3 m3.1 vj
   have nn:=yA v4 oo.1 xO
   refine⟨⟨⟨⟨nI,by omega⟩,⟨pi,by omega⟩,⟨pi,by omega⟩,⟨nI,by omega⟩,fun _ _=>⟨⟨nI,by omega⟩,⟨pi,by omega⟩,fun _=>⟨⟨nI,by omega⟩,⟨pi,by omega⟩⟩⟩⟩,fun lR=> ?_⟩,fun fj=>dl (by omega) oo xN (not_eq fj)⟩
   rw[N_ aE f2 (JP nI vj (fun j b_ ef=>m3.2.2 j b_ ef) (Iz pi xO lR))]
   exact⟨rfl,by show v3=(v3.toNat:Int);omega⟩)
def WS:cY Tryz.prog:=⟨105,[.eh],[.fault],none,fun x=>((ht x.1),()),fun x h=>WR x.1⟩
def ac0:List Item:=[aj 0,aj 1,aj 2,aj 3,aj 4,aj 5,aj 6,aj 7,aj 8,aj 9,aj 10,aj 11,aj 12,aj 13,aj 14,aj 15,aj 16,aj 17,aj 18,aj 19,aj 20,aj 21,aj 22,aj 23,aj 24,aj 25,aj 26,aj 27,aj 28,aj 29,aj 30,aj 31,aj 32,aj 33]
def ac1:List (List Nat):=[[],[],[1],[],[1,2,3],rg 1 5,[],rg 1 7,rg 1 8,rg 0 9,rg 0 10,rg 0 11,rg 0 11,rg 0 13,rg 0 14,rg 0 15,rg 0 16,rg 0 17,rg 0 18,rg 0 19,rg 0 20,rg 0 19,rg 0 22,rg 0 23,rg 0 24,rg 0 19,rg 0 19++[25],rg 0 19,rg 0 19++[25,26,27],rg 0 19++rg 25 29,rg 0 19++rg 25 30,rg 0 31,rg 0 32,rg 0 33]
def PC (a0:aK) (ae:ij) (gT e_:Int):Prop:=
  ((0≤gT∧gT.toNat<a0.bt.length)∧((0≤e_∧e_.toNat<(nth a0.bt gT).length)∧(((nth (nth a0.bt e_) gT) !=(nth (nth a0.bt gT) e_))=false→(e_ !=gT)=true→(!(nth (nth a0.bt e_) gT))=true→(0≤e_∧e_.toNat<a0.O.length)∧(0≤gT∧gT.toNat<a0.O.length))))∧((((nth (nth a0.bt e_) gT) !=(nth (nth a0.bt gT) e_)) || ((e_ !=gT)&&((!(nth (nth a0.bt e_) gT))&&(meets (nth a0.O e_).ad (nth a0.O gT).ad))))=true→(5=ae.code)∧(e_=ae.pos))
def PD (dK:hh Prop) (dM:hh Nat) (a0:aK) (ae:ij) (e5 fV gU gT e_:Int):Prop:=
  ((0≤gT∧gT.toNat<(nth a0.bt e_).length)∧(PC a0 ae gT e_))∧((!(((nth (nth a0.bt e_) gT) !=(nth (nth a0.bt gT) e_)) || ((e_ !=gT)&&((!(nth (nth a0.bt e_) gT))&&(meets (nth a0.O e_).ad (nth a0.O gT).ad)))))=true→dK e5 fV gU e_ (IntKind.i64.wrap (gT+1))∧dM e5 fV gU e_ (IntKind.i64.wrap (gT+1))<dM e5 fV gU e_ gT)
def PE (cB:hD Prop) (cF:hD Nat) (dK:hh Prop) (dM:hh Nat) (a0:aK) (ae:ij) (e5 fV gU e_:Int):Prop:=
  (nth a0.bt e_).length≤4611686018427387904→dK e5 fV gU e_ 0∧ ∀(gT:Int),dK e5 fV gU e_ gT→(((decide (gT<((nth a0.bt e_).length:Int)))=false→cB e5 fV gU (IntKind.i64.wrap (e_+1))∧cF e5 fV gU (IntKind.i64.wrap (e_+1))<cF e5 fV gU e_)∧((decide (gT<((nth a0.bt e_).length:Int)))=true→PD dK dM a0 ae e5 fV gU gT e_))
def PG (bB:dk Prop) (bj:dk Nat) (a0:aK) (ae:ij) (e5 fV gU:Int):Prop:=
  ((0≤gU∧gU.toNat<a0.bt.length)∧((nth a0.bt gU).length≤4611686018427387904→(((nth a0.bt gU).length:Int) !=(a0.O.length:Int))=true→(4=ae.code)∧(gU=ae.pos)))∧(((nth a0.bt gU).length≤4611686018427387904)∧((!(((nth a0.bt gU).length:Int) !=(a0.O.length:Int)))=true)→bB e5 fV (IntKind.i64.wrap (gU+1))∧bj e5 fV (IntKind.i64.wrap (gU+1))<bj e5 fV gU)
def PH (bB:dk Prop) (bj:dk Nat) (cB:hD Prop) (cF:hD Nat) (dK:hh Prop) (dM:hh Nat) (a0:aK) (ae:ij) (e5 fV gU:Int):Prop:=
  ((decide (gU<(a0.bt.length:Int)))=false→cB e5 fV gU 0∧ ∀(e_:Int),cB e5 fV gU e_→(((decide (e_<(a0.bt.length:Int)))=false→(0=ae.code)∧(0=ae.pos))∧((decide (e_<(a0.bt.length:Int)))=true→(0≤e_∧e_.toNat<a0.bt.length)∧(PE cB cF dK dM a0 ae e5 fV gU e_))))∧((decide (gU<(a0.bt.length:Int)))=true→PG bB bj a0 ae e5 fV gU)
def PI (a6:Int→Int→Prop) (aY:Int→Int→Nat) (bB:dk Prop) (bj:dk Nat) (cB:hD Prop) (cF:hD Nat) (dK:hh Prop) (dM:hh Nat) (a0:aK) (ae:ij) (e5 fV:Int):Prop:=
  ((decide (fV<(a0.O.length:Int)))=false→(a0.bt.length≤4611686018427387904→((a0.bt.length:Int) !=(a0.O.length:Int))=true→(4=ae.code)∧(0=ae.pos))∧((a0.bt.length≤4611686018427387904)∧((!((a0.bt.length:Int) !=(a0.O.length:Int)))=true)→bB e5 fV 0∧ ∀(gU:Int),bB e5 fV gU→(PH bB bj cB cF dK dM a0 ae e5 fV gU)))∧((decide (fV<(a0.O.length:Int)))=true→((0≤fV∧fV.toNat<a0.O.length)∧((Gt a0 (nth a0.O fV))∧((!(hA a0 (nth a0.O fV)))=true→(3=ae.code)∧(fV=ae.pos))))∧((!(!(hA a0 (nth a0.O fV))))=true→a6 e5 (IntKind.i64.wrap (fV+1))∧aY e5 (IntKind.i64.wrap (fV+1))<aY e5 fV))
def PJ (al:Int→Prop) (an:Int→Nat) (a6:Int→Int→Prop) (aY:Int→Int→Nat) (bB:dk Prop) (bj:dk Nat) (cB:hD Prop) (cF:hD Nat) (dK:hh Prop) (dM:hh Nat) (a0:aK) (ae:ij) (e5:Int):Prop:=
  ((decide (e5<(a0.bd.length:Int)))=false→a0.O.length≤4611686018427387904→a6 e5 0∧ ∀(fV:Int),a6 e5 fV→(PI a6 aY bB bj cB cF dK dM a0 ae e5 fV))∧((decide (e5<(a0.bd.length:Int)))=true→((0≤e5∧e5.toNat<a0.bd.length)∧((!(b8 (nth a0.bd e5) 0 (IntKind.i64.wrap (a0.ad - 1))))=true→(2=ae.code)∧(e5=ae.pos)))∧((!(!(b8 (nth a0.bd e5) 0 (IntKind.i64.wrap (a0.ad - 1)))))=true→al (IntKind.i64.wrap (e5+1))∧an (IntKind.i64.wrap (e5+1))<an e5))
def PK (al:Int→Prop) (an:Int→Nat) (a6:Int→Int→Prop) (aY:Int→Int→Nat) (bB:dk Prop) (bj:dk Nat) (cB:hD Prop) (cF:hD Nat) (dK:hh Prop) (dM:hh Nat) (a0:aK) (ae:ij):Prop:=
  (((!(b8 a0.ad 1 60)) || ((decide ((a0.bd.length:Int)>40)) || ((decide ((a0.O.length:Int)>100)) || (!(b8 a0.cS 1 300)))))=true→(1=ae.code)∧(0=ae.pos))∧((!((!(b8 a0.ad 1 60)) || ((decide ((a0.bd.length:Int)>40)) || ((decide ((a0.O.length:Int)>100)) || (!(b8 a0.cS 1 300))))))=true→a0.bd.length≤4611686018427387904→al 0∧ ∀(e5:Int),al e5→(PJ al an a6 aY bB bj cB cF dK dM a0 ae e5))
def Pz (a0:aK) (ae:ij) (al:Int→Prop) (an:Int→Nat) (a6:Int→Int→Prop) (aY:Int→Int→Nat) (bB:dk Prop) (bj:dk Nat) (cB:hD Prop) (cF:hD Nat) (dK:hh Prop) (dM:hh Nat):Prop:=
 PK al an a6 aY bB bj cB cF dK dM a0 ae
theorem acY (a0:aK):bg Tryz.prog 104 [.agg (bW false a0)] (.agg (Dt (ht a0))):=(fun(al:Int→Prop) (an:Int→Nat) (a6:Int→Int→Prop) (aY:Int→Int→Nat) (bB:dk Prop) (bj:dk Nat) (cB:hD Prop) (cF:hD Nat) (dK:hh Prop) (dM:hh Nat) (h:Pz a0 (ht a0) al an a6 aY bB bj cB cF dK dM)=>bg.run (ps:=[.eh]) (rs:=[.fault]) (x:=(a0,())) (r:=((ht a0),())) ⟨147,cP,[yL,Hj,ade]⟩ ⟨[73,78,88,95],[(29,ac0,ac1)],[],[],[]⟩ (eb [1,2,37,38] [(2,2),(1,5)] 39 al an fun aP=>(eb [1,2,54,55] [(2,2),(1,5)] 56 (a6 aP) (aY aP) fun bz=>(eb [1,2,77,78] [(2,2),(1,5)] 79 (bB aP bz) (bj aP bz) fun bM=>(eb [1,2,94,95] [(2,2),(1,5)] 96 (cB aP bz bM) (cF aP bz bM) fun cU=>(eb [1,2,9,94,95,96,101,102] [(2,2),(1,5)] 103 (dK aP bz bM cU) (dM aP bz bM cU) fun _=> .nil))))) Tryz.func104 h) (cv a0.bd.length (fun j=> !b8 (nth a0.bd j) 0 (a0.ad - 1))) (cK a0.bd.length) (fun _=>cv a0.O.length (fun j=> !hA a0 (nth a0.O j))) (fun _=>cK a0.O.length) (fun _ _=>cv a0.bt.length (fun j=>decide ((nth a0.bt j).length≠a0.O.length))) (fun _ _=>cK a0.bt.length) (fun _ _ _=>cv a0.O.length (fun i=>(List.range a0.O.length).any fun k=>n9 a0 i.toNat k)) (fun _ _ _=>cK a0.O.length) (fun _ _ _ i=>cv a0.O.length (fun k=>n9 a0 i.toNat k.toNat)) (fun _ _ _ _=>cK a0.O.length) (by
 unfold Pz PK
 refine⟨fun h=> ?_,fun h lk=> ?_⟩
 ·have hb:kj a0=false:=by
   rw[←Bool.not_eq_true,tA]
   intro hb
   simp[b8] at h
   omega
  rw[Gp hb];exact⟨rfl,rfl⟩
 ·have hb:kj a0=true:=by
   rw[tA]
   simp[b8] at h
   omega
  have c5:=tA.1 hb
  refine⟨dt (df _),fun v0 ol=> ?_⟩
  unfold PJ
  refine⟨fun cs AE=> ?_,fun hU=> ?_⟩
  case refine_2=>
   rw[iU (n:=a0.ad - 1) (by omega) (by omega)]
   refine⟨⟨cG ol hU,fun lR=> ?_⟩,fun fj=>dl (c_ lk) ol hU (not_eq fj)⟩
   rw[Ob hb (oZ (q:=fun s=> !b8 s 0 (a0.ad - 1)) ol hU lR)]
   have:=ol.1
   exact⟨rfl,by show v0=(v0.toNat:Int);omega⟩
  have f0:=o0 (q:=fun s=> !b8 s 0 (a0.ad - 1)) ol cs
  refine⟨dt (df _),fun v1 om=> ?_⟩
  unfold PI
  refine⟨fun aR=> ?_,fun kf=> ?_⟩
  case refine_2=>
   refine⟨⟨cG om kf,⟨by omega,by omega⟩,fun lR=> ?_⟩,fun fj=>dl (c_ AE) om kf (not_eq fj)⟩
   rw[Oc hb f0 (oZ (q:=fun w=> !hA a0 w) om kf lR)]
   have:=om.1
   exact⟨rfl,by show v1=(v1.toNat:Int);omega⟩
  have f1:=o0 (q:=fun w=> !hA a0 w) om aR
  rw[Od hb f0 f1]
  refine⟨fun hm bY=> ?_,fun⟨hm,bY⟩=> ?_⟩
  ·have bY:a0.bt.length≠a0.O.length:=by
    intro e;rw[e] at bY;simp at bY
   rw[Oa bY];exact⟨rfl,rfl⟩
  have aE:a0.bt.length=a0.O.length:=by
   have:(a0.bt.length:Int)=a0.O.length:=by simpa using bY
   omega
  refine⟨dt (df _),fun v2 m2=> ?_⟩
  unfold PH
  refine⟨fun e2=> ?_,fun hv2=> ?_⟩
  case refine_2=>
   have rB:(((nth a0.bt v2).length:Int) !=(a0.O.length:Int))=decide ((nth a0.bt v2).length≠a0.O.length):=by
    rw[Bool.eq_iff_iff];simp;omega
   unfold PG
   rw[rB]
   refine⟨⟨cG m2 hv2,fun av lR=> ?_⟩,fun⟨av,fj⟩=>dl (c_ hm) m2 hv2 (not_eq fj)⟩
   rw[N9 aE (oZ (q:=fun b=>decide (b.length≠a0.O.length)) m2 hv2 lR)]
   have:=m2.1
   exact⟨rfl,by show v2=(v2.toNat:Int);omega⟩
  have f2:=o0 (q:=fun b:List Bool=>decide (b.length≠a0.O.length)) m2 e2
  have yA: ∀i:Int,0≤i→i<a0.O.length→(nth a0.bt i).length=a0.O.length:=fun i i0 i1=>by
   have:=gr m2 e2 i i0 (by omega)
   simpa using this
  refine⟨dt (df _),fun v3 m3=>⟨fun dq=> ?_,fun j0=> ?_⟩⟩
  ·have dq:decide (v3<(a0.O.length:Int))=false:=by rw[←aE];exact dq
   rw[N8 aE f2 (JO fun j b_ ef=>gr m3 dq j b_ ef)]
   exact⟨rfl,rfl⟩
  ·have vj:v3<(a0.O.length:Int):=by rw[←aE];simpa using j0
   have nI:=m3.1
   have fK:=yA v3 m3.1 vj
   refine⟨⟨nI,by omega⟩,?_⟩
   unfold PE
   rw[fK]
   intro _
   refine⟨dt (df _),fun v4 oo=> ?_⟩
   unfold PD PC
   rw[II m3.1 oo.1,fK]
   have pi:=oo.1
   refine⟨fun hH=>dl (by omega) m3 (by simpa using vj) (NC fun j b_ ef=>gr oo hH j b_ ef),fun xN=> ?_⟩
   have xO:v4<(a0.O.length:Int):=by simpa using xN
   have nn:=yA v4 oo.1 xO
   refine⟨⟨⟨pi,by omega⟩,⟨⟨pi,by omega⟩,⟨nI,by omega⟩,fun _ _ _=>⟨⟨nI,by omega⟩,⟨pi,by omega⟩⟩⟩,fun lR=> ?_⟩,fun fj=>dl (by omega) oo xN (not_eq fj)⟩
   rw[N_ aE f2 (JP nI vj (fun j b_ ef=>m3.2.2 j b_ ef) (Iz pi xO lR))]
   exact⟨rfl,by show v3=(v3.toNat:Int);omega⟩)
def acZ:cY Tryz.prog:=⟨104,[.eh],[.fault],none,fun x=>((ht x.1),()),fun x h=>acY x.1⟩
def ac_ (a0:aK) (ae:Bool):Prop:=
 ((ht a0).code==0)=ae
theorem ada (a0:aK):bg Tryz.prog 65 [.agg (bW false a0)] (aA (gp a0)):=(fun(h:ac_ a0 (gp a0))=>bg.run (ps:=[.eh]) (rs:=[.bool]) (x:=(a0,())) (r:=((gp a0),())) ⟨9,cP,[acZ]⟩ ⟨[],[],[],[],[]⟩ .nil Tryz.func65 h) (by
 exact aa3 a0)
def Xr (a0:aK) (ae:Bool):Prop:=
 ((ht a0).code==0&&(ht a0).pos==0)=ae
theorem Xs (a0:aK):bg Tryz.prog 68 [.agg (bW false a0)] (aA (gp a0)):=(fun(h:Xr a0 (gp a0))=>bg.run (ps:=[.eh]) (rs:=[.bool]) (x:=(a0,())) (r:=((gp a0),())) ⟨7,cP,[WS]⟩ ⟨[],[],[],[],[]⟩ .nil Tryz.func68 h) (by
 exact aa2 a0)
def Xt:cY Tryz.prog:=⟨68,[.eh],[.bool],none,fun x=>((gp x.1),()),fun x h=>Xs x.1⟩
noncomputable def acp:Code:=jS Tryz.f107
def G_ (a0:(List Bool)) (ae:(List Bool)):Prop:=
 (a0≠[]→(a0.length*1≤140737488355328∧a0.length≤4611686018427387904)∧(a0=ae))∧(a0=[]→ ∀b7:Bool,(b7=true→[]=ae)∧(b7=false→(a0.length*1≤140737488355328∧a0.length≤4611686018427387904)∧(a0=ae)))
theorem acq (a0:(List Bool)) (ae:(List Bool)) (h:G_ a0 ae):dw Tryz.prog 107 [bG a7 a0] [] (fun r H=>r=aD 0 0 ae.length∧H=[⟨0,1,List.map a7 ae⟩]):=by
 refine dw.toOwn ?_
 unfold G_ at h
 refine dw.go (fn:=Tryz.f107) [(0,bG a7 a0)] Tryz.func107 (fun _ _=> ?_)
 show WpS _ (bU acp 1) _ ⟨bI 8 [(0,bG a7 a0)],[],[]⟩
 refine iZ [] 0 [(2,bw)] [] [1] ?_
 refine kc ?_
 refine kc ?_
 refine cy [] 1 ?_
 refine GY 2 (some 4) [(3,bG a7 a0)] a7 a0 (fun hx=> ?_) (fun hx b7=> ?_)
 ·
  replace h:=h.1 hx
  refine gH [] ?_
  refine eH.normal ?_
  refine rp (.tmp 4) false (fun q3=> ?_) (fun q3=> ?_)
  ·
   cases q3
  ·
   refine gl ?_
   refine eH.normal ?_
   obtain⟨cO,h⟩:=h
   refine lg ⟨(bI 8 [(2,aD 0 0 a0.length)]),[],[⟨0,1,List.map a7 a0⟩]⟩ (True) ?_ (fun q4=> ?_)
   ·
    replace h:=cO
    refine cy [] 3 ?_
    have cW:=h
    refine sf 3 (some 7) [(6,bG a7 a0),(5,bw)] a7 a0 (lu false (List.map a7 a0)) 0 1 1 (fun r=>[⟨0,1,r⟩]) rfl cW ?_
    exact dh [(2,aD 0 0 a0.length)] trivial
   refine jT ?_
   refine np (aD 0 0 a0.length) [aD 0 0 a0.length] ?_
   exact⟨nZ [some 0],pG [some 0] rfl (by decide) ⟨rfl,(pN (b:=0) (g:=0) (sz:=1) (xs:=a0) (ys:=ae) rfl yb h),trivial⟩,(.inr (tt (by simp) rfl rfl (by have:=congrArg List.length h;simpa using this)))⟩
 ·
  replace h:=h.2 hx b7
  refine gH [] ?_
  refine eH.normal ?_
  refine rp (.tmp 4) b7 (fun hO=> ?_) (fun hO=> ?_)
  ·
   replace h:=h.1 hO
   refine lg ⟨(bI 8 [(2,bw)]),[],[]⟩ (True) ?_ (fun km=> ?_)
   ·
    refine cy [] 2 ?_
    exact dh [(2,bw)] trivial
   refine jT ?_
   refine eH.ret ?_
   refine np (bw) [bw] ?_
   exact⟨nZ [none],pG [none] rfl (by decide) ⟨rfl,trivial,trivial⟩,(.inr (Gj (by simp) rfl rfl (by rw[←h];rfl)))⟩
  ·
   replace h:=h.2 hO
   refine gl ?_
   refine eH.normal ?_
   obtain⟨lr,h⟩:=h
   refine lg ⟨(bI 8 [(2,aD 0 0 a0.length)]),[],[⟨0,1,List.map a7 a0⟩]⟩ (True) ?_ (fun ls=> ?_)
   ·
    replace h:=lr
    refine cy [] 3 ?_
    have ie:=h
    refine sf 3 (some 7) [(6,bG a7 a0),(5,bw)] a7 a0 (lu false (List.map a7 a0)) 0 1 1 (fun r=>[⟨0,1,r⟩]) rfl ie ?_
    exact dh [(2,aD 0 0 a0.length)] trivial
   refine jT ?_
   refine np (aD 0 0 a0.length) [aD 0 0 a0.length] ?_
   exact⟨nZ [some 0],pG [some 0] rfl (by decide) ⟨rfl,(pN (b:=0) (g:=0) (sz:=1) (xs:=a0) (ys:=ae) rfl yb h),trivial⟩,(.inr (tt (by simp) rfl rfl (by have:=congrArg List.length h;simpa using this)))⟩
theorem Pb (a0:(List Bool)) (ai:small a0):dw Tryz.prog 107 [bG a7 a0] [] (fun r H=>r=aD 0 0 (ak a0).length∧H=[⟨0,1,List.map a7 (ak a0)⟩]):=acq a0 (ak a0) (by
 have ai:a0.length≤1048576:=ai
 unfold G_
 exact⟨fun h=>⟨⟨by omega,by omega⟩,rfl⟩,fun h b=>⟨fun _=>h.symm,fun _=>⟨⟨by omega,by omega⟩,rfl⟩⟩⟩)
noncomputable def acn:Code:=jS Tryz.f108
def G9 (a0:(List cJ)) (ae:(List cJ)):Prop:=
 (a0≠[]→(a0.length*16≤140737488355328∧a0.length≤4611686018427387904)∧(a0=ae))∧(a0=[]→ ∀b7:Bool,(b7=true→[]=ae)∧(b7=false→(a0.length*16≤140737488355328∧a0.length≤4611686018427387904)∧(a0=ae)))
theorem aco (a0:(List cJ)) (ae:(List cJ)) (h:G9 a0 ae):dw Tryz.prog 108 [bG bH a0] [] (fun r H=>r=aD 0 0 ae.length∧H=[⟨0,2,List.map bH ae⟩]):=by
 refine dw.toOwn ?_
 unfold G9 at h
 refine dw.go (fn:=Tryz.f108) [(0,bG bH a0)] Tryz.func108 (fun _ _=> ?_)
 show WpS _ (bU acn 1) _ ⟨bI 8 [(0,bG bH a0)],[],[]⟩
 refine iZ [] 0 [(2,bw)] [] [1] ?_
 refine kc ?_
 refine kc ?_
 refine cy [] 1 ?_
 refine GY 2 (some 4) [(3,bG bH a0)] bH a0 (fun hx=> ?_) (fun hx b7=> ?_)
 ·
  replace h:=h.1 hx
  refine gH [] ?_
  refine eH.normal ?_
  refine rp (.tmp 4) false (fun q3=> ?_) (fun q3=> ?_)
  ·
   cases q3
  ·
   refine gl ?_
   refine eH.normal ?_
   obtain⟨cO,h⟩:=h
   refine lg ⟨(bI 8 [(2,aD 0 0 a0.length)]),[],[⟨0,2,List.map bH a0⟩]⟩ (True) ?_ (fun q4=> ?_)
   ·
    replace h:=cO
    refine cy [] 3 ?_
    have cW:=h
    refine sf 3 (some 7) [(6,bG bH a0),(5,bw)] bH a0 (lu false (List.map bH a0)) 0 2 16 (fun r=>[⟨0,2,r⟩]) rfl cW ?_
    exact dh [(2,aD 0 0 a0.length)] trivial
   refine jT ?_
   refine np (aD 0 0 a0.length) [aD 0 0 a0.length] ?_
   exact⟨nZ [some 0],pG [some 0] rfl (by decide) ⟨rfl,(pN (b:=0) (g:=0) (sz:=2) (xs:=a0) (ys:=ae) rfl Gf h),trivial⟩,(.inr (tt (by simp) rfl rfl (by have:=congrArg List.length h;simpa using this)))⟩
 ·
  replace h:=h.2 hx b7
  refine gH [] ?_
  refine eH.normal ?_
  refine rp (.tmp 4) b7 (fun hO=> ?_) (fun hO=> ?_)
  ·
   replace h:=h.1 hO
   refine lg ⟨(bI 8 [(2,bw)]),[],[]⟩ (True) ?_ (fun km=> ?_)
   ·
    refine cy [] 2 ?_
    exact dh [(2,bw)] trivial
   refine jT ?_
   refine eH.ret ?_
   refine np (bw) [bw] ?_
   exact⟨nZ [none],pG [none] rfl (by decide) ⟨rfl,trivial,trivial⟩,(.inr (Gj (by simp) rfl rfl (by rw[←h];rfl)))⟩
  ·
   replace h:=h.2 hO
   refine gl ?_
   refine eH.normal ?_
   obtain⟨lr,h⟩:=h
   refine lg ⟨(bI 8 [(2,aD 0 0 a0.length)]),[],[⟨0,2,List.map bH a0⟩]⟩ (True) ?_ (fun ls=> ?_)
   ·
    replace h:=lr
    refine cy [] 3 ?_
    have ie:=h
    refine sf 3 (some 7) [(6,bG bH a0),(5,bw)] bH a0 (lu false (List.map bH a0)) 0 2 16 (fun r=>[⟨0,2,r⟩]) rfl ie ?_
    exact dh [(2,aD 0 0 a0.length)] trivial
   refine jT ?_
   refine np (aD 0 0 a0.length) [aD 0 0 a0.length] ?_
   exact⟨nZ [some 0],pG [some 0] rfl (by decide) ⟨rfl,(pN (b:=0) (g:=0) (sz:=2) (xs:=a0) (ys:=ae) rfl Gf h),trivial⟩,(.inr (tt (by simp) rfl rfl (by have:=congrArg List.length h;simpa using this)))⟩
theorem acm (a0:(List cJ)) (ai:small a0):dw Tryz.prog 108 [bG bH a0] [] (fun r H=>r=aD 0 0 (ak a0).length∧H=[⟨0,2,List.map bH (ak a0)⟩]):=aco a0 (ak a0) (by
 have ai:a0.length≤1048576:=ai
 unfold G9
 exact⟨fun h=>⟨⟨by omega,by omega⟩,rfl⟩,fun h b=>⟨fun _=>h.symm,fun _=>⟨⟨by omega,by omega⟩,rfl⟩⟩⟩)
noncomputable def Fe:Code:=jS Tryz.f70
def W1:List Item:=[aj 0,aj 1,aj 2,aj 3,aj 5,aj 6,aj 9,⟨4,true,false,[0,1,5,6,9]⟩,⟨7,true,false,[0,1,9]⟩,aj 8,⟨10,true,false,[]⟩]
def W2:List (List Nat):=[[],[0],[],[2],[2,3],[],[5],rg 2 7,rg 0 8,[],rg 0 10]
abbrev kH (r:Type):Type:=List (List Bool)→Nat→Nat→List Nat→Int→List ac→r
def Fb (al:kH Prop) (an:kH Nat) (a0:Frame) (bh:List (List Bool)) (g2 g3:Nat) (aT:List Nat) (bk:Int) (ws2:List ac):Prop:=
  al (bh++[(ak (nth a0.O bk).aa)]) (g2+1) (g3+1) (aT++[bh.length]) (IntKind.i64.wrap (bk+1)) (ws2++[(ac.mk (nth a0.O bk).az (nth a0.O bk).ab (ak (nth a0.O bk).aa) (nth a0.O bk).ar (nth a0.O bk).au)])∧an (bh++[(ak (nth a0.O bk).aa)]) (g2+1) (g3+1) (aT++[bh.length]) (IntKind.i64.wrap (bk+1)) (ws2++[(ac.mk (nth a0.O bk).az (nth a0.O bk).ab (ak (nth a0.O bk).aa) (nth a0.O bk).ar (nth a0.O bk).au)])<an bh g2 g3 aT bk ws2
def Fc (al:kH Prop) (an:kH Nat) (a0 ae:Frame) (bh:List (List Bool)) (g2 g3:Nat) (aT:List Nat) (bk:Int) (ws2:List ac):Prop:=
  ((decide (bk<(a0.O.length:Int)))=false→a0.ok=ae.ok∧(ak a0.aC)=ae.aC∧(ak a0.aq)=ae.aq∧ws2=ae.O∧aT=List.range ws2.length∧bh=ws2.map ac.aa)∧((decide (bk<(a0.O.length:Int)))=true→((0≤bk∧bk.toNat<a0.O.length)∧((small (nth a0.O bk).aa)∧(ws2.length=aT.length∧((ws2.length+1)*56≤140737488355328∧ws2.length+1≤4611686018427387904))))∧(Fb al an a0 bh g2 g3 aT bk ws2))
def Fa (a0:Frame) (ae:Frame) (al:kH Prop) (an:kH Nat):Prop:=
 ((small a0.aC)∧(small a0.aq))∧(a0.O.length≤4611686018427387904→al ([]:List (List Bool)) 0 0 ([]:List Nat) 0 ([]:List ac)∧ ∀(bh:List (List Bool)) (g2:Nat) (g3:Nat) (aT:List Nat) (bk:Int) (ws2:List ac),al bh g2 g3 aT bk ws2→(Fc al an a0 ae bh g2 g3 aT bk ws2))
theorem W3 (a0:Frame) (ae:Frame) (al:kH Prop) (an:kH Nat) (h:Fa a0 ae al an):dw Tryz.prog 70 [.agg (b9 false a0)] [] (fun r H=>r= .agg [aA ae.ok,aD 0 0 ae.aC.length,aD 1 0 ae.aq.length,aD 2 0 ae.O.length]∧H=(⟨0,1,List.map a7 ae.aC⟩::⟨0,2,List.map bH ae.aq⟩::⟨0,5,bp 3 ae.O (List.range ae.O.length)⟩::List.map bR (List.map ac.aa ae.O))):=by
 refine dw.toOwn ?_
 unfold Fa at h
 refine dw.go (fn:=Tryz.f70) [(0,.agg (b9 false a0))] Tryz.func70 (fun _ _=> ?_)
 show WpS _ (bU Fe 1) _ ⟨bI 34 [(0,.agg (b9 false a0))],[],[]⟩
 refine uG [1000003] 0 [(2,bc 2 0),(1,bc 1 0)] [2] [] [(2,[aA false,bw,bw,bw]),(1,(b9 false a0))] [] ?_
 obtain⟨mB,h⟩:=h
 refine h7 [(3,bc 3 0)] [2] (fun L=>(3,[aA a0.ok,aD 0 0 (ak a0.aC).length,aD 1 0 (ak a0.aq).length,bw])::L) (fun _=>[⟨0,1,List.map a7 (ak a0.aC)⟩,⟨0,2,List.map bH (ak a0.aq)⟩]) (True) ?_ (fun q2=> ?_)
 ·
  replace h:=mB
  refine sc [1000003] 1 W1 W2 [(3,[aA false,bw,bw,bw])] ?_
  obtain⟨q3,h⟩:=h
  refine HR 8 (some 10) [(3,bc 3 0),(12,bG bH a0.aq),(11,bc 1 2),(9,bG a7 a0.aC),(8,bc 1 1),(7,aA a0.ok),(6,bc 1 0)] [bG a7 a0.aC] (fun L H=>uT Tryz.prog (j6 Fe 6) [0,1,5,6,9] [(3,bc 3 0),(12,bG bH a0.aq),(11,bc 1 2),(9,bG a7 a0.aC),(8,bc 1 1),(7,aA a0.ok),(6,bc 1 0),(2,bc 2 0),(1,bc 1 0)] L H) (aD 0 0 (ak a0.aC).length) [⟨0,1,List.map a7 (ak a0.aC)⟩] (Pb a0.aC q3) (aO.cons (ey.jD gq) aO.nil) (tu (fun _=>rfl) rfl) (wa (tQ (fun _=>rfl) rfl) (by kernel_rfl)) (Gh (ψ:=((true=true∧true=true∧((bc 1 0:AV)=bc 1 0))∧((true=true∧true=true∧((aA a0.ok:AV)=aA a0.ok))∧((true=true∧true=true∧((bc 1 2:AV)=bc 1 2))∧((true=true∧true=true∧((bG bH a0.aq:AV)=bG bH a0.aq))∧((true=true∧true=true∧((bc 3 0:AV)=bc 3 0))∧True)))))) (by kernel_rfl) ⟨⟨rfl,rfl,rfl⟩,⟨⟨rfl,rfl,rfl⟩,⟨⟨rfl,rfl,rfl⟩,⟨⟨rfl,rfl,rfl⟩,⟨⟨rfl,rfl,rfl⟩,trivial⟩⟩⟩⟩⟩) ?_
  have q4:=h
  refine HR 1 (some 13) [] [bG bH a0.aq] (fun L H=>uT Tryz.prog (j6 Fe 6) [0,1,9] [(10,aD 0 0 (ak a0.aC).length),(3,bc 3 0),(12,bG bH a0.aq),(11,bc 1 2),(9,bG a7 a0.aC),(8,bc 1 1),(7,aA a0.ok),(6,bc 1 0),(2,bc 2 0),(1,bc 1 0)] L H) (aD 1 0 (ak a0.aq).length) [⟨0,1,List.map a7 (ak a0.aC)⟩,⟨0,2,List.map bH (ak a0.aq)⟩] (acm a0.aq q4) (aO.cons (ey.jD gq) aO.nil) (tu (fun _=>rfl) rfl) (wa (tQ (fun _=>rfl) rfl) (by kernel_rfl)) (Gh (ψ:=((true=true∧true=true∧((bc 1 0:AV)=bc 1 0))∧((true=true∧true=true∧((aA a0.ok:AV)=aA a0.ok))∧((true=true∧true=true∧((bc 3 0:AV)=bc 3 0))∧True)))) (by kernel_rfl) ⟨⟨rfl,rfl,rfl⟩,⟨⟨rfl,rfl,rfl⟩,⟨⟨rfl,rfl,rfl⟩,trivial⟩⟩⟩) ?_
  refine aed 2 [(14,.agg [aA a0.ok,aD 0 0 (ak a0.aC).length,aD 1 0 (ak a0.aq).length,bw])] [(3,[aA a0.ok,aD 0 0 (ak a0.aC).length,aD 1 0 (ak a0.aq).length,bw]),(2,[aA false,bw,bw,bw]),(1,(b9 false a0))] [⟨0,1,List.map a7 (ak a0.aC)⟩,⟨0,2,List.map bH (ak a0.aq)⟩] (φ:=True) trivial ?_
  exact lv [] trivial
 refine kc ?_
 refine ek [(16,bG (cR false) a0.O),(17,ax (a0.O.length:Int)),(18,ax 0)] [2] (a0.O.length≤4611686018427387904) ?_ (fun cW=> ?_)
 ·
  refine cy [1000003] 2 ?_
  refine sLen 3 (some 17) [(16,bG (cR false) a0.O),(15,bc 1 3)] (cR false) a0.O (fun cO=> ?_)
  exact dh [(18,ax 0)] cO
 replace h:=h cW
 refine iY 0 ?_
 refine WpS.ra ?_ (o1 (s'':=⟨(bI 34 [(16,bG (cR false) a0.O),(17,ax (a0.O.length:Int)),(18,ax 0),(3,bc 3 0),(2,bc 2 0)]),[(3,[aA a0.ok,aD 0 0 (ak a0.aC).length,aD 1 0 (ak a0.aq).length,aD 2 0 ([]:List ac).length]),(2,[aA false,bw,bw,bw]),(1,(b9 false a0))],[⟨0,1,List.map a7 (ak a0.aC)⟩,⟨0,2,List.map bH (ak a0.aq)⟩,⟨0,5,bp 4 ([]:List ac) ([]:List Nat)⟩]⟩) (Weak.CB (T:=(bI 34 [(16,bG (cR false) a0.O),(17,ax (a0.O.length:Int)),(18,ax 0),(3,bc 3 0),(2,bc 2 0)])) (L:=[(3,[aA a0.ok,aD 0 0 (ak a0.aC).length,aD 1 0 (ak a0.aq).length,bw]),(2,[aA false,bw,bw,bw]),(1,(b9 false a0))]) (H:=[⟨0,1,List.map a7 (ak a0.aC)⟩,⟨0,2,List.map bH (ak a0.aq)⟩]) (cells:=[aA a0.ok,aD 0 0 (ak a0.aC).length,aD 1 0 (ak a0.aq).length,bw]) 3 3 5 (by kernel_rfl) (by kernel_rfl)) (by kernel_rfl))
 refine WpS.ra ?_ (o1 (s'':=⟨(bI 34 [(16,bG (cR false) a0.O),(17,ax (a0.O.length:Int)),(18,ax 0),(3,bc 3 0),(2,bc 2 0)]),[(3,[aA a0.ok,aD 0 0 (ak a0.aC).length,aD 1 0 (ak a0.aq).length,aD 2 0 ([]:List ac).length]),(2,[aA false,bw,bw,bw]),(1,(b9 false a0))],(⟨0,1,List.map a7 (ak a0.aC)⟩::⟨0,2,List.map bH (ak a0.aq)⟩::⟨0,5,bp 4 ([]:List ac) ([]:List Nat)⟩::⟨0,5,[]⟩::List.map bR ([]:List (List Bool)))⟩) (Weak.Gc (T:=(bI 34 [(16,bG (cR false) a0.O),(17,ax (a0.O.length:Int)),(18,ax 0),(3,bc 3 0),(2,bc 2 0)])) (L:=[(3,[aA a0.ok,aD 0 0 (ak a0.aC).length,aD 1 0 (ak a0.aq).length,aD 2 0 ([]:List ac).length]),(2,[aA false,bw,bw,bw]),(1,(b9 false a0))]) (H:=[⟨0,1,List.map a7 (ak a0.aC)⟩,⟨0,2,List.map bH (ak a0.aq)⟩,⟨0,5,bp 4 ([]:List ac) ([]:List Nat)⟩]) 5) (by kernel_rfl))
 obtain⟨oO,h⟩:=h
 refine ob (fun(v:List (List Bool)×Nat×Nat×List Nat×Int×List ac)=>(⟨(bI 34 [(2,bc 2 0),(3,bc 3 0),(16,bG (cR false) a0.O),(17,ax (a0.O.length:Int)),(18,ax (v.2.2.2.2.1))]),[(3,[aA a0.ok,aD 0 0 (ak a0.aC).length,aD 1 0 (ak a0.aq).length,aD 2 (v.2.1) (v.2.2.2.2.2).length]),(2,[aA false,bw,bw,bw])],(⟨0,1,List.map a7 (ak a0.aC)⟩::⟨0,2,List.map bH (ak a0.aq)⟩::⟨(v.2.1),5,bp 4 (v.2.2.2.2.2) (v.2.2.2.1)⟩::⟨(v.2.2.1),5,[]⟩::List.map bR (v.1))⟩:St)) (fun(v:List (List Bool)×Nat×Nat×List Nat×Int×List ac)=>al (v.1) (v.2.1) (v.2.2.1) (v.2.2.2.1) (v.2.2.2.2.1) (v.2.2.2.2.2)) (fun(v:List (List Bool)×Nat×Nat×List Nat×Int×List ac)=>an (v.1) (v.2.1) (v.2.2.1) (v.2.2.2.1) (v.2.2.2.2.1) (v.2.2.2.2.2)) (([]:List (List Bool)),0,0,([]:List Nat),0,([]:List ac)) (hR [1]) oO (fun v a_=> ?_)
 obtain⟨bh,g2,g3,aT,bk,ws2⟩:=v
 replace h:=h bh g2 g3 aT bk ws2 a_
 dsimp only
 refine iZ [1000003] 3 [(19,aA (decide (bk<(a0.O.length:Int))))] [1] [5] ?_
 unfold Fc at h
 obtain⟨l2,h⟩:=h
 refine ek [] [0,1,5] ((decide (bk<(a0.O.length:Int)))=true) ?_ (fun km=> ?_)
 ·
  replace h:=l2
  refine hF (fun ls=> ?_) (fun ls=> ?_)
  ·
   refine gl ?_
   exact di.normal (by simp only[ls]<;>rfl) gi
  ·
   replace h:=h ls
   refine mj 0 ?_
   refine di.exit ?_
   refine fi.exit ?_
   refine ej.here ?_
   refine eH.normal ?_
   refine lg ⟨(bI 34 [(2,bc 2 0)]),[(3,[aA a0.ok,aD 0 0 (ak a0.aC).length,aD 1 0 (ak a0.aq).length,aD 2 g2 ws2.length]),(2,[aA a0.ok,aD 0 0 (ak a0.aC).length,aD 1 0 (ak a0.aq).length,aD 2 g2 ws2.length])],(⟨0,1,List.map a7 (ak a0.aC)⟩::⟨0,2,List.map bH (ak a0.aq)⟩::⟨g2,5,bp 4 ws2 aT⟩::⟨g3,5,[]⟩::List.map bR bh)⟩ (True) ?_ (fun ie=> ?_)
   ·
    refine cy [1000003] 8 ?_
    exact dh [(33,.agg [aA a0.ok,aD 0 0 (ak a0.aC).length,aD 1 0 (ak a0.aq).length,aD 2 g2 ws2.length])] trivial
   refine jT ?_
   refine np (.agg [aA a0.ok,aD 0 0 (ak a0.aC).length,aD 1 0 (ak a0.aq).length,aD 2 g2 ws2.length]) [.agg [aA a0.ok,aD 0 0 (ak a0.aC).length,aD 1 0 (ak a0.aq).length,aD 2 g2 ws2.length]] ?_
   exact N1 h rfl rfl rfl rfl
 replace h:=h km
 obtain⟨ji,h⟩:=h
 refine h7 [] [5] (fun L=>(5,[ax (nth a0.O bk).az,ax (nth a0.O bk).ab,aD (bh.length+4) 0 (ak (nth a0.O bk).aa).length,aA (nth a0.O bk).ar,ax (nth a0.O bk).au])::il 0 3 (aD 2 (g2+1) (ws2++[(ac.mk (nth a0.O bk).az (nth a0.O bk).ab (ak (nth a0.O bk).aa) (nth a0.O bk).ar (nth a0.O bk).au)]).length) L) (fun _=>(⟨0,1,List.map a7 (ak a0.aC)⟩::⟨0,2,List.map bH (ak a0.aq)⟩::⟨(g2+1),5,bp 4 (ws2++[(ac.mk (nth a0.O bk).az (nth a0.O bk).ab (ak (nth a0.O bk).aa) (nth a0.O bk).ar (nth a0.O bk).au)]) (aT++[bh.length])⟩::⟨(g3+1),5,[[ax (nth a0.O bk).az,ax (nth a0.O bk).ab,aD (bh.length+4) 0 (ak (nth a0.O bk).aa).length,aA (nth a0.O bk).ar,ax (nth a0.O bk).au]]⟩::List.map bR (bh++[(ak (nth a0.O bk).aa)]))) (True) ?_ (fun lr=> ?_)
 ·
  replace h:=ji
  refine iY 1 ?_
  obtain⟨nW,h⟩:=h
  refine h7 [(5,bc 5 0)] [5] (fun L=>(5,(cR false (nth a0.O bk)))::L) id (True) ?_ (fun oM=> ?_)
  ·
   replace h:=nW
   refine cy [1000003] 4 ?_
   have gR:=h
   refine oU 1 (some 20) [] (cR false) a0.O 5 gR ?_
   exact dh [(5,bc 5 0),(21,.agg (cR false (nth a0.O bk)))] trivial
  obtain⟨oN,h⟩:=h
  refine h7 [] [6] (fun L=>er 0 [ax (nth a0.O bk).az,ax (nth a0.O bk).ab,aD (bh.length+4) 0 (ak (nth a0.O bk).aa).length,aA (nth a0.O bk).ar,ax (nth a0.O bk).au] L) (fun _=>(⟨0,1,List.map a7 (ak a0.aC)⟩::⟨0,2,List.map bH (ak a0.aq)⟩::⟨g2,5,bp 4 ws2 aT⟩::⟨g3,5,[]⟩::List.map bR (bh++[(ak (nth a0.O bk).aa)]))) (True) ?_ (fun Bt=> ?_)
  ·
   replace h:=oN
   refine cy [1000003] 5 ?_
   have qQ:=h
   refine BN 3 (some 24) [(23,bG a7 (nth a0.O bk).aa),(22,bc 5 2)] [bG a7 (nth a0.O bk).aa] (aD (bh.length+4) 0 (ak (nth a0.O bk).aa).length) (⟨0,1,List.map a7 (ak a0.aC)⟩::⟨0,2,List.map bH (ak a0.aq)⟩::⟨g2,5,bp 4 ws2 aT⟩::⟨g3,5,[]⟩::List.map bR (bh++[(ak (nth a0.O bk).aa)])) (Pb (nth a0.O bk).aa qQ) (aO.cons (ey.jD gq) aO.nil) (tu (fun _=>rfl) rfl) (wa (tQ (fun _=>rfl) rfl) (by simp only[List.cons_append,List.map_nil,w8])) ?_ (er:=by simp[oV,q5,jH])
   exact dh [(25,bc 5 2)] trivial
  refine cy [1000003] 6 ?_
  refine GX 4 [(29,.ref 3 (g3+1) 0 1 true),(28,.agg [ax (nth a0.O bk).az,ax (nth a0.O bk).ab,aD (bh.length+4) 0 (ak (nth a0.O bk).aa).length,aA (nth a0.O bk).ar,ax (nth a0.O bk).au]),(27,aD 2 g2 ws2.length),(26,bc 3 3)] [(5,[ax (nth a0.O bk).az,ax (nth a0.O bk).ab,aD (bh.length+4) 0 (ak (nth a0.O bk).aa).length,aA (nth a0.O bk).ar,ax (nth a0.O bk).au]),(3,[aA a0.ok,aD 0 0 (ak a0.aC).length,aD 1 0 (ak a0.aq).length,aD 2 g2 ws2.length]),(2,[aA false,bw,bw,bw])] (⟨0,1,List.map a7 (ak a0.aC)⟩::⟨0,2,List.map bH (ak a0.aq)⟩::⟨g2,5,bp 4 ws2 aT⟩::⟨(g3+1),5,[[ax (nth a0.O bk).az,ax (nth a0.O bk).ab,aD (bh.length+4) 0 (ak (nth a0.O bk).aa).length,aA (nth a0.O bk).ar,ax (nth a0.O bk).au]]⟩::List.map bR (bh++[(ak (nth a0.O bk).aa)])) ?_
  have pI:=h
  refine O3 1 (some 30) [] 4 2 g2 (g3+1) 56 ws2 aT (ac.mk (nth a0.O bk).az (nth a0.O bk).ab (ak (nth a0.O bk).aa) (nth a0.O bk).ar (nth a0.O bk).au) bh.length (fun r=>(⟨0,1,List.map a7 (ak a0.aC)⟩::⟨0,2,List.map bH (ak a0.aq)⟩::⟨(g2+1),5,r⟩::⟨(g3+1),5,[[ax (nth a0.O bk).az,ax (nth a0.O bk).ab,aD (bh.length+4) 0 (ak (nth a0.O bk).aa).length,aA (nth a0.O bk).ar,ax (nth a0.O bk).au]]⟩::List.map bR (bh++[(ak (nth a0.O bk).aa)]))) pI.1 pI.2 ?_
  refine O4 [(31,bc 3 3)] [(5,[ax (nth a0.O bk).az,ax (nth a0.O bk).ab,aD (bh.length+4) 0 (ak (nth a0.O bk).aa).length,aA (nth a0.O bk).ar,ax (nth a0.O bk).au]),(3,[aA a0.ok,aD 0 0 (ak a0.aC).length,aD 1 0 (ak a0.aq).length,aD 2 (g2+1) (ws2++[(ac.mk (nth a0.O bk).az (nth a0.O bk).ab (ak (nth a0.O bk).aa) (nth a0.O bk).ar (nth a0.O bk).au)]).length]),(2,[aA false,bw,bw,bw])] (⟨0,1,List.map a7 (ak a0.aC)⟩::⟨0,2,List.map bH (ak a0.aq)⟩::⟨(g2+1),5,bp 4 (ws2++[(ac.mk (nth a0.O bk).az (nth a0.O bk).ab (ak (nth a0.O bk).aa) (nth a0.O bk).ar (nth a0.O bk).au)]) (aT++[bh.length])⟩::⟨(g3+1),5,[[ax (nth a0.O bk).az,ax (nth a0.O bk).ab,aD (bh.length+4) 0 (ak (nth a0.O bk).aa).length,aA (nth a0.O bk).ar,ax (nth a0.O bk).au]]⟩::List.map bR (bh++[(ak (nth a0.O bk).aa)])) ?_
  refine ej.normal ?_
  exact di.normal trivial gi
 unfold Fb at h
 refine cy [1000003] 7 ?_
 refine gH [(18,ax (IntKind.i64.wrap (bk+1))),(32,ax (IntKind.i64.wrap (bk+1)))] ?_
 exact fi.again ((bh++[(ak (nth a0.O bk).aa)]),(g2+1),(g3+1),(aT++[bh.length]),(IntKind.i64.wrap (bk+1)),(ws2++[(ac.mk (nth a0.O bk).az (nth a0.O bk).ab (ak (nth a0.O bk).aa) (nth a0.O bk).ar (nth a0.O bk).au)])) h ((Weak.clear 3 rfl:Weak ⟨(bI 34 [(18,ax (IntKind.i64.wrap (bk+1))),(32,ax (IntKind.i64.wrap (bk+1))),(2,bc 2 0),(3,bc 3 0),(16,bG (cR false) a0.O),(17,ax (a0.O.length:Int))]),[(5,[ax (nth a0.O bk).az,ax (nth a0.O bk).ab,aD (bh.length+4) 0 (ak (nth a0.O bk).aa).length,aA (nth a0.O bk).ar,ax (nth a0.O bk).au]),(3,[aA a0.ok,aD 0 0 (ak a0.aC).length,aD 1 0 (ak a0.aq).length,aD 2 (g2+1) (ws2++[(ac.mk (nth a0.O bk).az (nth a0.O bk).ab (ak (nth a0.O bk).aa) (nth a0.O bk).ar (nth a0.O bk).au)]).length]),(2,[aA false,bw,bw,bw])],(⟨0,1,List.map a7 (ak a0.aC)⟩::⟨0,2,List.map bH (ak a0.aq)⟩::⟨(g2+1),5,bp 4 (ws2++[(ac.mk (nth a0.O bk).az (nth a0.O bk).ab (ak (nth a0.O bk).aa) (nth a0.O bk).ar (nth a0.O bk).au)]) (aT++[bh.length])⟩::⟨(g3+1),5,[[ax (nth a0.O bk).az,ax (nth a0.O bk).ab,aD (bh.length+4) 0 (ak (nth a0.O bk).aa).length,aA (nth a0.O bk).ar,ax (nth a0.O bk).au]]⟩::List.map bR (bh++[(ak (nth a0.O bk).aa)]))⟩ ⟨(bI 34 [(18,ax (IntKind.i64.wrap (bk+1))),(32,ax (IntKind.i64.wrap (bk+1))),(2,bc 2 0),(3,bc 3 0),(16,bG (cR false) a0.O),(17,ax (a0.O.length:Int))]),[(5,[ax (nth a0.O bk).az,ax (nth a0.O bk).ab,aD (bh.length+4) 0 (ak (nth a0.O bk).aa).length,aA (nth a0.O bk).ar,ax (nth a0.O bk).au]),(3,[aA a0.ok,aD 0 0 (ak a0.aC).length,aD 1 0 (ak a0.aq).length,aD 2 (g2+1) (ws2++[(ac.mk (nth a0.O bk).az (nth a0.O bk).ab (ak (nth a0.O bk).aa) (nth a0.O bk).ar (nth a0.O bk).au)]).length]),(2,[aA false,bw,bw,bw])],(⟨0,1,List.map a7 (ak a0.aC)⟩::⟨0,2,List.map bH (ak a0.aq)⟩::⟨(g2+1),5,bp 4 (ws2++[(ac.mk (nth a0.O bk).az (nth a0.O bk).ab (ak (nth a0.O bk).aa) (nth a0.O bk).ar (nth a0.O bk).au)]) (aT++[bh.length])⟩::⟨(g3+1),5,[]⟩::List.map bR (bh++[(ak (nth a0.O bk).aa)]))⟩).trans (hR [5]))
theorem W0 (a0:Frame) (ai:nr a0):dw Tryz.prog 70 [.agg (b9 false a0)] [] (fun r H=>r= .agg [aA (ak a0).ok,aD 0 0 (ak a0).aC.length,aD 1 0 (ak a0).aq.length,aD 2 0 (ak a0).O.length]∧H=(⟨0,1,List.map a7 (ak a0).aC⟩::⟨0,2,List.map bH (ak a0).aq⟩::⟨0,5,bp 3 (ak a0).O (List.range (ak a0).O.length)⟩::List.map bR (List.map ac.aa (ak a0).O))):=W3 a0 (ak a0) (fun bs _ _ is v ws=>cv a0.O.length (fun _=>false) v∧ws=a0.O.take v.toNat∧is=List.range ws.length∧bs=ws.map ac.aa) (fun _ _ _ _ v _=>cK a0.O.length v) (by
 unfold Fa
 obtain⟨jh,oL,aaQ,Gk⟩:=ai
 refine⟨⟨jh,oL⟩,fun ao=>⟨⟨dt (df _),rfl,rfl,rfl⟩,fun bs g2 g3 is v ws a_=> ?_⟩⟩
 unfold Fc Fb
 obtain⟨a_,rfl,hi,hb⟩:=a_
 refine⟨fun hv=> ?_,fun hv=>⟨⟨cG a_ hv,Gk _ (eR (cG a_ hv).2),?_,?_,?_⟩,⟨(dl (c_ ao) a_ hv rfl).1,?_,?_,?_⟩,(dl (c_ ao) a_ hv rfl).2⟩⟩
 ·have: ¬v<(a0.O.length:Int):=by simpa using hv
  have h1:=a_.1
  rw[List.take_of_length_le (by omega)] at hi hb ⊢
  exact⟨rfl,rfl,rfl,rfl,hi,hb⟩
 ·rw[hi];simp
 ·rw[List.length_take];omega
 ·rw[List.length_take];omega
 ·have dx:=cG a_ hv
  rw[mJ (c_ ao) dx.1 (by omega),show(v+1).toNat=v.toNat+1 by omega,List.take_succ_eq_append_getElem dx.2,←hW dx.2];rfl
 ·rw[hi,hb];simp[List.range_succ]
 ·rw[hb,List.map_append];rfl)
noncomputable def W7:Code:=jS Tryz.f106
def Fg (a0:aK) (J:Int) (ae:ac):Prop:=
  ((0≤J∧J.toNat<a0.O.length)∧((nth a0.O J).ad.length≤4611686018427387904→0≤((nth a0.O J).ad.length:Int)∧1*((nth a0.O J).ad.length:Int)≤140737488355328∧((nth a0.O J).ad.length:Int)≤4611686018427387904))∧((nth a0.O J).ad.length≤4611686018427387904→(0=ae.az)∧(0=ae.ab)∧((List.replicate ((nth a0.O J).ad.length:Int).toNat false)=ae.aa)∧(false=ae.ar)∧(0=ae.au))
def Ff (a0:aK) (J:Int) (ae:ac):Prop:=
 Fg a0 J ae
theorem W8 (a0:aK) (J:Int) (ae:ac) (h:Ff a0 J ae):dw Tryz.prog 106 [.agg (bW false a0),ax J] [] (fun r H=>r= .agg [ax ae.az,ax ae.ab,aD 0 0 ae.aa.length,aA ae.ar,ax ae.au]∧H=[⟨0,1,List.map a7 ae.aa⟩]):=by
 refine dw.toOwn ?_
 unfold Ff at h
 refine dw.go (fn:=Tryz.f106) [(0,.agg (bW false a0)),(1,ax J)] Tryz.func106 (fun _ _=> ?_)
 show WpS _ (bU W7 1) _ ⟨bI 14 [(0,.agg (bW false a0)),(1,ax J)],[],[]⟩
 refine uG [] 0 [(4,bc 4 0),(2,bc 2 0)] [2] [0,1,1] [(4,[ax 0,ax 0,bw,aA false,ax 0]),(2,(bW false a0))] [] ?_
 unfold Fg at h
 obtain⟨cO,h⟩:=h
 refine h7 [] [1] (fun L=>il 0 2 (aD 0 0 (List.replicate ((nth a0.O J).ad.length:Int).toNat false).length) L) (fun _=>[⟨0,1,List.map a7 (List.replicate ((nth a0.O J).ad.length:Int).toNat false)⟩]) ((nth a0.O J).ad.length≤4611686018427387904) ?_ (fun q2=> ?_)
 ·
  replace h:=cO
  refine cy [] 1 ?_
  obtain⟨cW,h⟩:=h
  refine oU 4 (some 8) [(7,ax J),(6,bG (en false) a0.O),(5,bc 2 2)] (en false) a0.O 5 cW ?_
  refine sLen 3 (some 11) [(10,bG ct (nth a0.O J).ad),(9,.da (en false (nth a0.O J)) 0)] ct (nth a0.O J).ad (fun q3=> ?_)
  replace h:=h q3
  have q4:=h
  refine abX 1 (some 12) [] a7 1 [aA false] 0 (fun r=>[⟨0,1,r⟩]) false q4 ?_
  exact dh [(13,.agg [ax 0,ax 0,aD 0 0 (List.replicate ((nth a0.O J).ad.length:Int).toNat false).length,aA false,ax 0])] q3
 replace h:=h q2
 refine jT ?_
 refine np (.agg [ax 0,ax 0,aD 0 0 (List.replicate ((nth a0.O J).ad.length:Int).toNat false).length,aA false,ax 0]) [.agg [ax 0,ax 0,aD 0 0 (List.replicate ((nth a0.O J).ad.length:Int).toNat false).length,aA false,ax 0]] ?_
 exact⟨nZ [some 0],pG [some 0] rfl (by decide) ⟨rfl,(pN (b:=0) (g:=0) (sz:=1) (xs:=(List.replicate ((nth a0.O J).ad.length:Int).toNat false)) (ys:=ae.aa) rfl yb (h.2.2.1)),trivial⟩,(.inl ⟨_,_,rfl,rfl,(aO.cons (Gi (a:=0) (b:=ae.az) (h.1)) (aO.cons (Gi (a:=0) (b:=ae.ab) (h.2.1)) (aO.cons (tt (by simp) rfl rfl (by have:=congrArg List.length (h.2.2.1);simpa using this)) (aO.cons (aaI (a:=false) (b:=ae.ar) (h.2.2.2.1)) (aO.cons (Gi (a:=0) (b:=ae.au) (h.2.2.2.2)) aO.nil)))))⟩)⟩
theorem W6 (a0:aK) (J:Int) (ai:K5 a0 J):dw Tryz.prog 106 [.agg (bW false a0),ax J] [] (fun r H=>r= .agg [ax (dz a0 J).az,ax (dz a0 J).ab,aD 0 0 (dz a0 J).aa.length,aA (dz a0 J).ar,ax (dz a0 J).au]∧H=[⟨0,1,List.map a7 (dz a0 J).aa⟩]):=W8 a0 J (dz a0 J) (by
 unfold Ff Fg
 obtain⟨eN,aI,h1⟩:=ai
 have aX:J.toNat<a0.O.length:=by omega
 have:=(eN.ad _ (eR aX)).2.1
 exact⟨⟨⟨aI,aX⟩,fun _=>⟨df _,by omega,by omega⟩⟩,fun _=>⟨rfl,rfl,by show List.replicate _ _=List.replicate _ _;simp,rfl,rfl⟩⟩)
def LP (al:Int→Prop) (an:Int→Nat) (a0:Frame) (J:(List Int)) (ae:Bool):Prop:=
  J.length≤4611686018427387904→al 0∧ ∀(v9:Int),al v9→(((decide (v9<(J.length:Int)))=false→false=ae)∧((decide (v9<(J.length:Int)))=true→((0≤v9∧v9.toNat<J.length)∧((0≤(nth J v9)∧(nth J v9).toNat<a0.aC.length)∧((nth a0.aC (nth J v9))=true→true=ae)))∧((!(nth a0.aC (nth J v9)))=true→al (IntKind.i64.wrap (v9+1))∧an (IntKind.i64.wrap (v9+1))<an v9)))
def LO (a0:Frame) (J:(List Int)) (ae:Bool) (al:Int→Prop) (an:Int→Nat):Prop:=
 LP al an a0 J ae
theorem XI (a0:Frame) (J:(List Int)) (ai:wb a0 J):bg Tryz.prog 111 [.agg (b9 false a0),bG ct J] (aA (kq a0 J)):=(fun(al:Int→Prop) (an:Int→Nat) (h:LO a0 J (kq a0 J) al an)=>bg.run (ps:=[.frame,(.l .int)]) (rs:=[.bool]) (x:=(a0,J,())) (r:=((kq a0 J),())) ⟨19,cP,[]⟩ ⟨[],[],[],[],[]⟩ (eb [2,7,8] [(2,4)] 9 al an fun _=> .nil) Tryz.func111 h) (cv J.length (fun j=>fm a0 (nth J j))) (cK J.length) (by
 unfold LO LP
 intro ao
 refine⟨dt (df _),fun v a_=>⟨fun hv=> ?_,fun hv=>⟨⟨cG a_ hv,?_,fun hb=> ?_⟩,fun hb=>dl (c_ ao) a_ hv (not_eq hb)⟩⟩⟩
 ·exact(yX (q:=fun x=>fm a0 x) a_ hv).symm
 ·have:=ai _ (eR (cG a_ hv).2)
  exact⟨this.1,by omega⟩
 ·exact(Cb (q:=fun x=>fm a0 x) a_ hv hb).symm)
def XJ:cY Tryz.prog:=⟨111,[.frame,(.l .int)],[.bool],some fun x=>wb x.1 x.2.1,fun x=>((kq x.1 x.2.1),()),fun x h=>XI x.1 x.2.1 h⟩
def Xp:List Item:=[aj 0,aj 1,aj 2,aj 3,aj 4,aj 5,aj 6,aj 7,aj 8,aj 9,aj 10,aj 11]
def Xq:List (List Nat):=[[],[0],[],[2],rg 0 4,rg 0 5,[],[6],[],[8],rg 6 10,rg 0 11]
def LJ (al:Int→Prop) (an:Int→Nat) (a0:aK) (J:Frame) (a2:Int) (ae:Bool) (bk:Int):Prop:=
  ((0≤bk∧bk.toNat<(bS (nth a0.O a2)).length)∧((0≤(nth (bS (nth a0.O a2)) bk).be∧(nth (bS (nth a0.O a2)) bk).be.toNat<J.aq.length)∧((!((nth J.aq (nth (bS (nth a0.O a2)) bk).be).cz==(nth (bS (nth a0.O a2)) bk).bO&&(nth J.aq (nth (bS (nth a0.O a2)) bk).be).a1==(nth (bS (nth a0.O a2)) bk).bO))=true→false=ae)))∧((!(!((nth J.aq (nth (bS (nth a0.O a2)) bk).be).cz==(nth (bS (nth a0.O a2)) bk).bO&&(nth J.aq (nth (bS (nth a0.O a2)) bk).be).a1==(nth (bS (nth a0.O a2)) bk).bO)))=true→al (IntKind.i64.wrap (bk+1))∧an (IntKind.i64.wrap (bk+1))<an bk)
def LK (al:Int→Prop) (an:Int→Nat) (a0:aK) (J:Frame) (a2:Int) (ae:Bool) (bk:Int):Prop:=
  ((decide (bk<((bS (nth a0.O a2)).length:Int)))=false→((wb J (nth a0.O a2).ad)∧((!(kq J (nth a0.O a2).ad))=true→wb J (nth a0.O a2).b4))∧(((!(kq J (nth a0.O a2).ad))&&(!(kq J (nth a0.O a2).b4)))=ae))∧((decide (bk<((bS (nth a0.O a2)).length:Int)))=true→LJ al an a0 J a2 ae bk)
def LI (a0:aK) (J:Frame) (a2:Int) (ae:Bool) (al:Int→Prop) (an:Int→Nat):Prop:=
 (0≤a2∧a2.toNat<a0.O.length)∧((yi (nth a0.O a2))∧((bS (nth a0.O a2)).length≤4611686018427387904→al 0∧ ∀(bk:Int),al bk→(LK al an a0 J a2 ae bk)))
theorem Xo (a0:aK) (J:Frame) (a2:Int) (ai:vN a0 J a2):bg Tryz.prog 122 [.agg (bW false a0),.agg (b9 false J),ax a2] (aA (g_ a0 J a2)):=(fun(al:Int→Prop) (an:Int→Nat) (h:LI a0 J a2 (g_ a0 J a2) al an)=>bg.run (ps:=[.eh,.frame,.int]) (rs:=[.bool]) (x:=(a0,J,a2,())) (r:=((g_ a0 J a2),())) ⟨47,cP,[Fj,XJ]⟩ ⟨[],[(5,Xp,Xq)],[],[],[]⟩ (eb [4,7,16,17] [(7,5),(4,4)] 18 al an fun _=> .nil) Tryz.func122 h) (cv (bS (nth a0.O a2)).length (fun j=> !((nth J.aq (nth (bS (nth a0.O a2)) j).be).cz==(nth (bS (nth a0.O a2)) j).bO&&(nth J.aq (nth (bS (nth a0.O a2)) j).be).a1==(nth (bS (nth a0.O a2)) j).bO))) (cK (bS (nth a0.O a2)).length) (by
 unfold LI
 obtain⟨eN,eo,aI,h1⟩:=ai
 have aX:a2.toNat<a0.O.length:=by omega
 have hw:=eR aX
 obtain⟨kh,hM,AX⟩:=eN.a1 _ hw
 have s5:=eo.aC
 have vg:wb J (nth a0.O a2).ad:=fun x hx=>by have:=(eN.ad _ hw).2.2 x hx;omega
 have VZ:wb J (nth a0.O a2).b4:=fun x hx=>by have:=(eN.b4 _ hw).2 x hx;omega
 refine⟨⟨aI,aX⟩,⟨by omega,by omega⟩,fun ao=>⟨dt (df _),fun v a_=> ?_⟩⟩
 unfold LK LJ
 have af: ∀l:cr,decide (nth J.aq l.be=⟨l.bO,l.bO⟩)=((nth J.aq l.be).cz==l.bO&&(nth J.aq l.be).a1==l.bO):=fun l=>by
  rcases nth J.aq l.be with⟨x,y⟩
  rw[Bool.eq_iff_iff];simp
 refine⟨fun hv=>⟨⟨vg,fun _=>VZ⟩,?_⟩,fun hv=>⟨⟨cG a_ hv,?_,fun hb=> ?_⟩,fun hb=> ?_⟩⟩
 ·have d_:=lB (q:=fun l:cr=> !((nth J.aq l.be).cz==l.bO&&(nth J.aq l.be).a1==l.bO)) (gr a_ hv)
  unfold g_
  have:(bS (nth a0.O a2)).all (fun l=>decide (nth J.aq l.be=⟨l.bO,l.bO⟩))=true:=by
   rw[List.all_eq_true]
   intro l aE
   rw[af]
   simpa using d_ l aE
  rw[this,Bool.true_and]
 ·have:=AX _ (eR (cG a_ hv).2)
  have h2:=eo.aq
  exact⟨this.1,by omega⟩
 ·unfold g_
  have:(bS (nth a0.O a2)).all (fun l=>decide (nth J.aq l.be=⟨l.bO,l.bO⟩))=false:=by
   rw[←Bool.not_eq_true,List.all_eq_true]
   intro aF
   have:=aF _ (eR (cG a_ hv).2)
   rw[af] at this
   rw[this] at hb;cases hb
  rw[this];rfl
 ·exact dl (c_ ao) a_ hv (not_eq hb))
noncomputable def Xz:Code:=jS Tryz.f95
def XF:List Item:=[aj 0,aj 1,aj 2,aj 3,aj 4,aj 5,aj 6,aj 7,aj 8,aj 9,aj 10,aj 11,aj 12,aj 13]
def XG:List (List Nat):=[[],[0],[0,1],[0,1,2],rg 0 4,rg 0 5,rg 0 6,rg 0 7,rg 0 6,rg 0 6++[8],rg 0 6++[8,9],rg 0 11,rg 0 12,rg 0 13]
def XB:List Item:=[aj 0,aj 1,aj 2,aj 3,aj 4,aj 5,aj 6,aj 7,aj 8,aj 9,aj 10,aj 11,aj 12,aj 13,aj 14,aj 15,aj 16,aj 17,aj 18,aj 19,aj 20,aj 21,aj 22,⟨23,true,false,[]⟩]
def XC:List (List Nat):=[[],[0],[0,1],[0,1,2],[],[],[5],[5,6],[5,6,7],[],rg 5 10,rg 5 11,rg 5 12,rg 5 13,rg 5 14,rg 5 13,rg 5 13,rg 5 13++[15,16],rg 5 13++[15,16,17],rg 5 19,rg 5 20,rg 5 21,rg 0 22,rg 0 23]
def XD:List Item:=[aj 0,aj 1,aj 2,aj 3,aj 4,aj 5,aj 6,aj 7,aj 8,aj 9,aj 10,aj 11,aj 12,aj 13,aj 14,aj 15,aj 16,aj 17,aj 18,aj 19,aj 20,aj 21,aj 22,aj 23,aj 24,aj 25,aj 26,aj 27,aj 28,aj 29,aj 30,aj 31,aj 32,aj 33,aj 34,aj 35,aj 36,aj 37,aj 38,aj 39,aj 40,aj 41,aj 42,aj 43,aj 44,aj 45,aj 46,aj 47,aj 48,aj 49,aj 50,aj 51,aj 52,aj 53,aj 54,aj 55]
def XE:List (List Nat):=[[],[0],[0,1],[0,1,2],[],[4],rg 0 6,rg 0 7,rg 0 8,rg 0 9,rg 0 10,rg 0 11,rg 0 8,rg 0 8++[12],rg 0 8++[12,13],rg 0 8++[12,13,14],rg 0 16,rg 0 17,rg 0 18,rg 0 19,rg 0 20,rg 0 21,rg 0 20,rg 0 20,rg 0 20++[23],rg 0 20++[23,24],rg 0 20++[23,24,25],rg 0 20++rg 22 27,rg 0 20++rg 22 28,rg 0 29,rg 0 30,rg 0 31,rg 0 32,rg 0 33,rg 0 34,rg 0 35,rg 0 36,rg 0 37,rg 0 34,rg 0 34++[38],rg 0 34++[38,39],rg 0 41,rg 0 42,rg 0 43,rg 0 44,rg 0 45,rg 0 46,rg 0 43,rg 0 43++[47],rg 0 43++[47,48],rg 0 43++[47,48,49],rg 0 43++rg 47 51,rg 0 52,rg 0 53,rg 0 54,rg 0 55]
def LN (a0:aK) (J:Frame) (ws2:List ac) (aT:List Nat) (U:Int):Prop:=
  (((nth ws2 U).az !=4)&&(nth (ak J).aC (nth (nth a0.O U).ad 0)))=true→(ws2.length=aT.length∧U.toNat<ws2.length)∧((ws2.set U.toNat (ac.mk 4 (nth ws2 U).ab (nth ws2 U).aa (nth ws2 U).ar (nth ws2 U).au)).length=aT.length∧U.toNat<(ws2.set U.toNat (ac.mk 4 (nth ws2 U).ab (nth ws2 U).aa (nth ws2 U).ar (nth ws2 U).au)).length)
def Fq (a0:aK) (J:Frame) (dd:List (List Bool)) (aT:List Nat) (U:Int) (ah:List ac):Prop:=
  (g_ a0 (Frame.mk (ak J).ok (ak J).aC (ak J).aq (view (ah.set U.toNat (ac.mk 1 (nth ah U).ab (nth ah U).aa (nth ah U).ar (nth ah U).au)) aT dd)) U)=true→((ah.set U.toNat (ac.mk 1 (nth ah U).ab (nth ah U).aa (nth ah U).ar (nth ah U).au)).length=aT.length∧U.toNat<(ah.set U.toNat (ac.mk 1 (nth ah U).ab (nth ah U).aa (nth ah U).ar (nth ah U).au)).length)∧(((ah.set U.toNat (ac.mk 1 (nth ah U).ab (nth ah U).aa (nth ah U).ar (nth ah U).au)).set U.toNat (ac.mk 2 (nth (ah.set U.toNat (ac.mk 1 (nth ah U).ab (nth ah U).aa (nth ah U).ar (nth ah U).au)) U).ab (nth (ah.set U.toNat (ac.mk 1 (nth ah U).ab (nth ah U).aa (nth ah U).ar (nth ah U).au)) U).aa (nth (ah.set U.toNat (ac.mk 1 (nth ah U).ab (nth ah U).aa (nth ah U).ar (nth ah U).au)) U).ar (nth (ah.set U.toNat (ac.mk 1 (nth ah U).ab (nth ah U).aa (nth ah U).ar (nth ah U).au)) U).au)).length=aT.length∧U.toNat<((ah.set U.toNat (ac.mk 1 (nth ah U).ab (nth ah U).aa (nth ah U).ar (nth ah U).au)).set U.toNat (ac.mk 2 (nth (ah.set U.toNat (ac.mk 1 (nth ah U).ab (nth ah U).aa (nth ah U).ar (nth ah U).au)) U).ab (nth (ah.set U.toNat (ac.mk 1 (nth ah U).ab (nth ah U).aa (nth ah U).ar (nth ah U).au)) U).aa (nth (ah.set U.toNat (ac.mk 1 (nth ah U).ab (nth ah U).aa (nth ah U).ar (nth ah U).au)) U).ar (nth (ah.set U.toNat (ac.mk 1 (nth ah U).ab (nth ah U).aa (nth ah U).ar (nth ah U).au)) U).au)).length)
def Fs (a0:aK) (J:Frame) (dd:List (List Bool)) (aT:List Nat) (U:Int) (ah:List ac):Prop:=
  ((ak J).aC.length≤4611686018427387904∧(ak J).aq.length≤4611686018427387904∧(mK (ah.set U.toNat (ac.mk 1 (nth ah U).ab (nth ah U).aa (nth ah U).ar (nth ah U).au)) aT dd∧(ah.set U.toNat (ac.mk 1 (nth ah U).ab (nth ah U).aa (nth ah U).ar (nth ah U).au)).length≤4611686018427387904∧(∀x∈dd,List.length x≤4611686018427387904))∧vN a0 (Frame.mk (ak J).ok (ak J).aC (ak J).aq (view (ah.set U.toNat (ac.mk 1 (nth ah U).ab (nth ah U).aa (nth ah U).ar (nth ah U).au)) aT dd)) U)∧(Fq a0 J dd aT U ah)
abbrev hj (r:Type):Type:=List (List Bool)→List Nat→Int→List ac→r
def Ft (al:hj Prop) (an:hj Nat) (a0:aK) (dd:List (List Bool)) (ws2:List ac) (aT:List Nat) (U:Int) (cm:List (List Bool)) (bu:List ac):Prop:=
  (((nth bu U).ab==((nth a0.O U).ad.length:Int))=true→(K5 a0 U)∧((bu.length=aT.length∧U.toNat<bu.length)∧(al (cm++[(dz a0 U).aa]) (aT.set U.toNat cm.length) (IntKind.i64.wrap (U+1)) (bu.set U.toNat (ac.mk (dz a0 U).az (dz a0 U).ab (dz a0 U).aa (dz a0 U).ar (dz a0 U).au))∧an (cm++[(dz a0 U).aa]) (aT.set U.toNat cm.length) (IntKind.i64.wrap (U+1)) (bu.set U.toNat (ac.mk (dz a0 U).az (dz a0 U).ab (dz a0 U).aa (dz a0 U).ar (dz a0 U).au))<an dd aT U ws2)))∧(((nth bu U).ab==((nth a0.O U).ad.length:Int))=false→al cm aT (IntKind.i64.wrap (U+1)) bu∧an cm aT (IntKind.i64.wrap (U+1)) bu<an dd aT U ws2)
def Fu (al:hj Prop) (an:hj Nat) (a0:aK) (J:Frame) (dd:List (List Bool)) (ws2:List ac) (aT:List Nat) (U:Int) (cm:List (List Bool)) (bu:List ac):Prop:=
  ((decide ((nth bu U).ab<((nth a0.O U).ad.length:Int)))&&((nth (cm.getD (nth aT U) []) (nth bu U).ab)&&((!(nth (ak J).aC (nth (nth a0.O U).ad (nth bu U).ab)))&&(((nth bu U).ab==(IntKind.i64.wrap (((nth a0.O U).ad.length:Int) - 1))) || (nth (cm.getD (nth aT U) []) (IntKind.i64.wrap ((nth bu U).ab+1)))))))=false→(bu.length=aT.length∧U.toNat<bu.length)∧(Ft al an a0 dd ws2 aT U cm bu)
abbrev ly (r:Type):Type:=List (List Bool)→List Nat→Int→List ac→List ac→List ac→List (List Bool)→Int→List ac→r
def Fv (bB:ly Prop) (bj:ly Nat) (dd:List (List Bool)) (dp:Int) (ws2:List ac) (aT:List Nat) (U:Int) (ah du:List ac) (cm:List (List Bool)) (bu:List ac):Prop:=
  (bu.length=aT.length∧U.toNat<bu.length)∧((bu.length=aT.length∧U.toNat<bu.length)∧(bB dd aT U ws2 ah du cm dp (bu.set U.toNat (ac.mk (nth bu U).az (IntKind.i64.wrap ((nth bu U).ab+1)) (nth bu U).aa (nth bu U).ar (nth bu U).au))∧bj dd aT U ws2 ah du cm dp (bu.set U.toNat (ac.mk (nth bu U).az (IntKind.i64.wrap ((nth bu U).ab+1)) (nth bu U).aa (nth bu U).ar (nth bu U).au))<bj dd aT U ws2 ah du cm dp bu))
def Fx (al:hj Prop) (an:hj Nat) (bB:ly Prop) (bj:ly Nat) (a0:aK) (J:Frame) (dd:List (List Bool)) (dp:Int) (ws2:List ac) (aT:List Nat) (U:Int) (ah du:List ac) (cm:List (List Bool)) (bu:List ac):Prop:=
  (((bu.length=aT.length∧U.toNat<bu.length)∧((decide ((nth bu U).ab<((nth a0.O U).ad.length:Int)))=true→(bu.length=aT.length∧U.toNat<bu.length)∧((bu.length=aT.length∧U.toNat<bu.length)∧((((nth aT U)<cm.length)∧(0≤(nth bu U).ab∧(nth bu U).ab.toNat<(nth bu U).aa.length))∧(((nth aT U)<cm.length∧(nth bu U).ab.toNat<(cm.getD (nth aT U) []).length)∧((nth (cm.getD (nth aT U) []) (nth bu U).ab)=true→(bu.length=aT.length∧U.toNat<bu.length)∧((0≤(nth bu U).ab∧(nth bu U).ab.toNat<(nth a0.O U).ad.length)∧((0≤(nth (nth a0.O U).ad (nth bu U).ab)∧(nth (nth a0.O U).ad (nth bu U).ab).toNat<(ak J).aC.length)∧((!(nth (ak J).aC (nth (nth a0.O U).ad (nth bu U).ab)))=true→(bu.length=aT.length∧U.toNat<bu.length)∧(((nth bu U).ab==(IntKind.i64.wrap (((nth a0.O U).ad.length:Int) - 1)))=false→(bu.length=aT.length∧U.toNat<bu.length)∧((bu.length=aT.length∧U.toNat<bu.length)∧((((nth aT U)<cm.length)∧(0≤(IntKind.i64.wrap ((nth bu U).ab+1))∧(IntKind.i64.wrap ((nth bu U).ab+1)).toNat<(nth bu U).aa.length))∧((nth aT U)<cm.length∧(IntKind.i64.wrap ((nth bu U).ab+1)).toNat<(cm.getD (nth aT U) []).length)))))))))))))∧(Fu al an a0 J dd ws2 aT U cm bu))∧(((decide ((nth bu U).ab<((nth a0.O U).ad.length:Int)))&&((nth (cm.getD (nth aT U) []) (nth bu U).ab)&&((!(nth (ak J).aC (nth (nth a0.O U).ad (nth bu U).ab)))&&(((nth bu U).ab==(IntKind.i64.wrap (((nth a0.O U).ad.length:Int) - 1))) || (nth (cm.getD (nth aT U) []) (IntKind.i64.wrap ((nth bu U).ab+1)))))))=true→Fv bB bj dd dp ws2 aT U ah du cm bu)
def Fy (a0:aK) (J:Frame) (dp:Int) (aT:List Nat) (U:Int) (du:List ac) (cm:List (List Bool)):Prop:=
  (du.length=aT.length∧U.toNat<du.length)∧((du.length=aT.length∧U.toNat<du.length)∧((((nth aT U)<cm.length)∧(0≤dp∧dp.toNat<(nth du U).aa.length))∧(((nth aT U)<cm.length∧dp.toNat<(cm.getD (nth aT U) []).length)∧(((nth (cm.getD (nth aT U) []) dp)=true→(((nth aT U)<cm.length)∧(0≤dp∧dp.toNat<(nth du U).aa.length))∧((nth aT U)<cm.length∧dp.toNat<(cm.getD (nth aT U) []).length))∧((nth (cm.getD (nth aT U) []) dp)=false→(0≤dp∧dp.toNat<(nth a0.O U).ad.length)∧((0≤(nth (nth a0.O U).ad dp)∧(nth (nth a0.O U).ad dp).toNat<(ak J).aC.length)∧((((nth aT U)<cm.length)∧(0≤dp∧dp.toNat<(nth du U).aa.length))∧((nth aT U)<cm.length∧dp.toNat<(cm.getD (nth aT U) []).length))))))))
abbrev mG (r:Type):Type:=List (List Bool)→List Nat→Int→List ac→List ac→List ac→List (List Bool)→Int→r
def Fz (a6:mG Prop) (aY:mG Nat) (a0:aK) (J:Frame) (dd:List (List Bool)) (dp:Int) (ws2:List ac) (aT:List Nat) (U:Int) (ah du:List ac) (cm:List (List Bool)):Prop:=
  (Fy a0 J dp aT U du cm)∧(∀ua:List (List Bool),(bif (nth (cm.getD (nth aT U) []) dp) then(cm.set (nth aT U) ((cm.getD (nth aT U) []).set dp.toNat true)) else(cm.set (nth aT U) ((cm.getD (nth aT U) []).set dp.toNat (nth (ak J).aC (nth (nth a0.O U).ad dp)))))=ua→(a6 dd aT U ws2 ah du ua (IntKind.i64.wrap (dp+1))∧aY dd aT U ws2 ah du ua (IntKind.i64.wrap (dp+1))<aY dd aT U ws2 ah du cm dp))
def Fl (al:hj Prop) (an:hj Nat) (a6:mG Prop) (aY:mG Nat) (bB:ly Prop) (bj:ly Nat) (a0:aK) (J:Frame) (dd:List (List Bool)) (ws2:List ac) (aT:List Nat) (U:Int) (ah du:List ac):Prop:=
  a6 dd aT U ws2 ah du dd 0∧ ∀(cm:List (List Bool)) (dp:Int),a6 dd aT U ws2 ah du cm dp→(((decide (dp<((nth a0.O U).ad.length:Int)))=false→bB dd aT U ws2 ah du cm dp du∧ ∀(bu:List ac),bB dd aT U ws2 ah du cm dp bu→(Fx al an bB bj a0 J dd dp ws2 aT U ah du cm bu))∧((decide (dp<((nth a0.O U).ad.length:Int)))=true→Fz a6 aY a0 J dd dp ws2 aT U ah du cm))
def Fm (al:hj Prop) (an:hj Nat) (a6:mG Prop) (aY:mG Nat) (bB:ly Prop) (bj:ly Nat) (a0:aK) (J:Frame) (dd:List (List Bool)) (ws2:List ac) (aT:List Nat) (U:Int) (ah:List ac):Prop:=
  (((ah.length=aT.length∧U.toNat<ah.length)∧(((nth ah U).az==1)=false→ah.length=aT.length∧U.toNat<ah.length))∧((((nth ah U).az==1) || ((nth ah U).az==2))=true→(ah.length=aT.length∧U.toNat<ah.length)∧(Fs a0 J dd aT U ah)))∧(∀du:List ac,(bif (((nth ah U).az==1) || ((nth ah U).az==2)) then(bif (g_ a0 (Frame.mk (ak J).ok (ak J).aC (ak J).aq (view (ah.set U.toNat (ac.mk 1 (nth ah U).ab (nth ah U).aa (nth ah U).ar (nth ah U).au)) aT dd)) U) then(((ah.set U.toNat (ac.mk 1 (nth ah U).ab (nth ah U).aa (nth ah U).ar (nth ah U).au)).set U.toNat (ac.mk 2 (nth (ah.set U.toNat (ac.mk 1 (nth ah U).ab (nth ah U).aa (nth ah U).ar (nth ah U).au)) U).ab (nth (ah.set U.toNat (ac.mk 1 (nth ah U).ab (nth ah U).aa (nth ah U).ar (nth ah U).au)) U).aa (nth (ah.set U.toNat (ac.mk 1 (nth ah U).ab (nth ah U).aa (nth ah U).ar (nth ah U).au)) U).ar (nth (ah.set U.toNat (ac.mk 1 (nth ah U).ab (nth ah U).aa (nth ah U).ar (nth ah U).au)) U).au)).set U.toNat (ac.mk (nth ((ah.set U.toNat (ac.mk 1 (nth ah U).ab (nth ah U).aa (nth ah U).ar (nth ah U).au)).set U.toNat (ac.mk 2 (nth (ah.set U.toNat (ac.mk 1 (nth ah U).ab (nth ah U).aa (nth ah U).ar (nth ah U).au)) U).ab (nth (ah.set U.toNat (ac.mk 1 (nth ah U).ab (nth ah U).aa (nth ah U).ar (nth ah U).au)) U).aa (nth (ah.set U.toNat (ac.mk 1 (nth ah U).ab (nth ah U).aa (nth ah U).ar (nth ah U).au)) U).ar (nth (ah.set U.toNat (ac.mk 1 (nth ah U).ab (nth ah U).aa (nth ah U).ar (nth ah U).au)) U).au)) U).az (nth ((ah.set U.toNat (ac.mk 1 (nth ah U).ab (nth ah U).aa (nth ah U).ar (nth ah U).au)).set U.toNat (ac.mk 2 (nth (ah.set U.toNat (ac.mk 1 (nth ah U).ab (nth ah U).aa (nth ah U).ar (nth ah U).au)) U).ab (nth (ah.set U.toNat (ac.mk 1 (nth ah U).ab (nth ah U).aa (nth ah U).ar (nth ah U).au)) U).aa (nth (ah.set U.toNat (ac.mk 1 (nth ah U).ab (nth ah U).aa (nth ah U).ar (nth ah U).au)) U).ar (nth (ah.set U.toNat (ac.mk 1 (nth ah U).ab (nth ah U).aa (nth ah U).ar (nth ah U).au)) U).au)) U).ab (nth ((ah.set U.toNat (ac.mk 1 (nth ah U).ab (nth ah U).aa (nth ah U).ar (nth ah U).au)).set U.toNat (ac.mk 2 (nth (ah.set U.toNat (ac.mk 1 (nth ah U).ab (nth ah U).aa (nth ah U).ar (nth ah U).au)) U).ab (nth (ah.set U.toNat (ac.mk 1 (nth ah U).ab (nth ah U).aa (nth ah U).ar (nth ah U).au)) U).aa (nth (ah.set U.toNat (ac.mk 1 (nth ah U).ab (nth ah U).aa (nth ah U).ar (nth ah U).au)) U).ar (nth (ah.set U.toNat (ac.mk 1 (nth ah U).ab (nth ah U).aa (nth ah U).ar (nth ah U).au)) U).au)) U).aa true (nth ((ah.set U.toNat (ac.mk 1 (nth ah U).ab (nth ah U).aa (nth ah U).ar (nth ah U).au)).set U.toNat (ac.mk 2 (nth (ah.set U.toNat (ac.mk 1 (nth ah U).ab (nth ah U).aa (nth ah U).ar (nth ah U).au)) U).ab (nth (ah.set U.toNat (ac.mk 1 (nth ah U).ab (nth ah U).aa (nth ah U).ar (nth ah U).au)) U).aa (nth (ah.set U.toNat (ac.mk 1 (nth ah U).ab (nth ah U).aa (nth ah U).ar (nth ah U).au)) U).ar (nth (ah.set U.toNat (ac.mk 1 (nth ah U).ab (nth ah U).aa (nth ah U).ar (nth ah U).au)) U).au)) U).au)) else(ah.set U.toNat (ac.mk 1 (nth ah U).ab (nth ah U).aa (nth ah U).ar (nth ah U).au))) else ah)=du→(((du.length=aT.length∧U.toNat<du.length)∧(((nth du U).az !=4)=true→al dd aT (IntKind.i64.wrap (U+1)) du∧an dd aT (IntKind.i64.wrap (U+1)) du<an dd aT U ws2))∧((!((nth du U).az !=4))=true→(nth a0.O U).ad.length≤4611686018427387904→Fl al an a6 aY bB bj a0 J dd ws2 aT U ah du)))
def Fo (al:hj Prop) (an:hj Nat) (a6:mG Prop) (aY:mG Nat) (bB:ly Prop) (bj:ly Nat) (a0:aK) (J:Frame) (dd:List (List Bool)) (ws2:List ac) (aT:List Nat) (U:Int):Prop:=
  (((ws2.length=aT.length∧U.toNat<ws2.length)∧(((nth ws2 U).az !=4)=true→((0:Int)≤0∧(0:Int).toNat<(nth a0.O U).ad.length)∧(0≤(nth (nth a0.O U).ad 0)∧(nth (nth a0.O U).ad 0).toNat<(ak J).aC.length)))∧(LN a0 J ws2 aT U))∧(∀ah:List ac,(bif (((nth ws2 U).az !=4)&&(nth (ak J).aC (nth (nth a0.O U).ad 0))) then((ws2.set U.toNat (ac.mk 4 (nth ws2 U).ab (nth ws2 U).aa (nth ws2 U).ar (nth ws2 U).au)).set U.toNat (ac.mk (nth (ws2.set U.toNat (ac.mk 4 (nth ws2 U).ab (nth ws2 U).aa (nth ws2 U).ar (nth ws2 U).au)) U).az (nth (ws2.set U.toNat (ac.mk 4 (nth ws2 U).ab (nth ws2 U).aa (nth ws2 U).ar (nth ws2 U).au)) U).ab (nth (ws2.set U.toNat (ac.mk 4 (nth ws2 U).ab (nth ws2 U).aa (nth ws2 U).ar (nth ws2 U).au)) U).aa (nth (ws2.set U.toNat (ac.mk 4 (nth ws2 U).ab (nth ws2 U).aa (nth ws2 U).ar (nth ws2 U).au)) U).ar 0)) else ws2)=ah→(Fm al an a6 aY bB bj a0 J dd ws2 aT U ah))
def Fp (al:hj Prop) (an:hj Nat) (a6:mG Prop) (aY:mG Nat) (bB:ly Prop) (bj:ly Nat) (a0:aK) (J ae:Frame) (dd:List (List Bool)) (ws2:List ac) (aT:List Nat) (U:Int):Prop:=
  ((decide (U<((ak J).O.length:Int)))=false→((ak J).ok=ae.ok)∧((ak J).aC.length≤4611686018427387904∧(ak J).aC=ae.aC)∧((ak J).aq.length≤4611686018427387904∧(ak J).aq=ae.aq)∧(mK ws2 aT dd∧ws2.length≤4611686018427387904∧(∀x∈dd,List.length x≤4611686018427387904)∧view ws2 aT dd=ae.O))∧((decide (U<((ak J).O.length:Int)))=true→(0≤U∧U.toNat<ws2.length)∧((0≤U∧U.toNat<a0.O.length)∧(((ws2.length=aT.length∧U.toNat<ws2.length)∧(((nth ws2 U).az==0)=true→al dd aT (IntKind.i64.wrap (U+1)) ws2∧an dd aT (IntKind.i64.wrap (U+1)) ws2<an dd aT U ws2))∧((!((nth ws2 U).az==0))=true→Fo al an a6 aY bB bj a0 J dd ws2 aT U))))
def Fk (a0:aK) (J:Frame) (ae:Frame) (al:hj Prop) (an:hj Nat) (a6:mG Prop) (aY:mG Nat) (bB:ly Prop) (bj:ly Nat):Prop:=
 (nr J)∧(al (List.map ac.aa (ak J).O) (List.range (ak J).O.length) 0 (ak J).O∧ ∀(dd:List (List Bool)) (aT:List Nat) (U:Int) (ws2:List ac),al dd aT U ws2→(Fp al an a6 aY bB bj a0 J ae dd ws2 aT U))
theorem XH (a0:aK) (J:Frame) (ae:Frame) (al:hj Prop) (an:hj Nat) (a6:mG Prop) (aY:mG Nat) (bB:ly Prop) (bj:ly Nat) (h:Fk a0 J ae al an a6 aY bB bj):bg Tryz.prog 95 [.agg (bW false a0),.agg (b9 false J)] (.agg (b9 true ae)):=by
 unfold Fk at h
 refine dw.go (fn:=Tryz.f95) [(0,.agg (bW false a0)),(1,.agg (b9 false J))] Tryz.func95 (fun _ _=> ?_)
 show WpS _ (bU Xz 1) _ ⟨bI 188 [(0,.agg (bW false a0)),(1,.agg (b9 false J))],[],[]⟩
 refine uG [] 0 [(4,bc 4 0),(3,bc 3 0),(2,bc 2 0)] [3] [] [(4,[aA false,bw,bw,bw]),(3,(b9 false J)),(2,(bW false a0))] [] ?_
 obtain⟨abj,h⟩:=h
 refine h7 [] [3] (fun L=>er 1 [aA (ak J).ok,aD 0 0 (ak J).aC.length,aD 1 0 (ak J).aq.length,aD 2 0 (ak J).O.length] L) (fun _=>(⟨0,1,List.map a7 (ak J).aC⟩::⟨0,2,List.map bH (ak J).aq⟩::⟨0,5,bp 3 (ak J).O (List.range (ak J).O.length)⟩::List.map bR (List.map ac.aa (ak J).O))) (True) ?_ (fun q2=> ?_)
 ·
  replace h:=abj
  refine cy [] 1 ?_
  have q3:=h
  refine BN 2 (some 10) [(9,.agg (b9 false J))] [.agg (b9 false J)] (.agg [aA (ak J).ok,aD 0 0 (ak J).aC.length,aD 1 0 (ak J).aq.length,aD 2 0 (ak J).O.length]) (⟨0,1,List.map a7 (ak J).aC⟩::⟨0,2,List.map bH (ak J).aq⟩::⟨0,5,bp 3 (ak J).O (List.range (ak J).O.length)⟩::List.map bR (List.map ac.aa (ak J).O)) (W0 J q3) (aO.cons (ey.agg (aO.cons (.bool _) (aO.cons gq (aO.cons gq (aO.cons gq aO.nil))))) aO.nil) N0 (by rw[List.nil_append];exact ab_ _) ?_ (er:=by simp[oV,q5,jH])
  exact dh [] trivial
 refine kc ?_
 refine iZ [] 2 [(14,ax 0),(13,ax ((ak J).O.length:Int)),(12,aD 2 0 (ak J).O.length),(11,bc 3 3)] [2] [3] ?_
 refine iY 0 ?_
 obtain⟨abi,h⟩:=h
 refine ob (fun(v:List (List Bool)×List Nat×Int×List ac)=>(⟨(bI 188 [(2,bc 2 0),(3,bc 3 0),(4,bc 4 0),(13,ax ((ak J).O.length:Int)),(14,ax (v.2.2.1))]),[(4,[aA false,bw,bw,bw]),(3,[aA (ak J).ok,aD 0 0 (ak J).aC.length,aD 1 0 (ak J).aq.length,aD 2 0 (v.2.2.2).length]),(2,(bW false a0))],(⟨0,1,List.map a7 (ak J).aC⟩::⟨0,2,List.map bH (ak J).aq⟩::⟨0,5,bp 3 (v.2.2.2) (v.2.1)⟩::List.map bR (v.1))⟩:St)) (fun(v:List (List Bool)×List Nat×Int×List ac)=>al (v.1) (v.2.1) (v.2.2.1) (v.2.2.2)) (fun(v:List (List Bool)×List Nat×Int×List ac)=>an (v.1) (v.2.1) (v.2.2.1) (v.2.2.2)) ((List.map ac.aa (ak J).O),(List.range (ak J).O.length),0,(ak J).O) (hR []) abi (fun v a_=> ?_)
 obtain⟨dd,aT,U,ws2⟩:=v
 replace h:=h dd aT U ws2 a_
 dsimp only
 refine iZ [] 3 [(15,aA (decide (U<((ak J).O.length:Int))))] [1] [5] ?_
 unfold Fp at h
 obtain⟨abh,h⟩:=h
 refine ek [] [0,1,5] ((decide (U<((ak J).O.length:Int)))=true) ?_ (fun cO=> ?_)
 ·
  replace h:=abh
  refine hF (fun hO=> ?_) (fun hO=> ?_)
  ·
   refine gl ?_
   exact di.normal (by simp only[hO]<;>rfl) gi
  ·
   replace h:=h hO
   refine mj 0 ?_
   refine di.exit ?_
   refine fi.exit ?_
   refine ej.here ?_
   refine eH.normal ?_
   refine lg ⟨(bI 188 [(4,bc 4 0)]),[(4,[aA (ak J).ok,aD 0 0 (ak J).aC.length,aD 1 0 (ak J).aq.length,aD 2 0 ws2.length]),(3,[aA (ak J).ok,aD 0 0 (ak J).aC.length,aD 1 0 (ak J).aq.length,aD 2 0 ws2.length]),(2,(bW false a0))],(⟨0,1,List.map a7 (ak J).aC⟩::⟨0,2,List.map bH (ak J).aq⟩::⟨0,5,bp 3 ws2 aT⟩::List.map bR dd)⟩ (True) ?_ (fun km=> ?_)
   ·
    refine cy [] 25 ?_
    exact dh [(187,.agg [aA (ak J).ok,aD 0 0 (ak J).aC.length,aD 1 0 (ak J).aq.length,aD 2 0 ws2.length])] trivial
   exact jT (tI (.agg [aA (ak J).ok,aD 0 0 (ak J).aC.length,aD 1 0 (ak J).aq.length,aD 2 0 ws2.length]) (jQ.agg (aO.cons (tS h.1) (aO.cons (BY (sz:=1) (by simp) rfl (CQ) h.2.1) (aO.cons (BY (sz:=2) (by simp) rfl (IW) h.2.2.1) (aO.cons (adW (s:=3) (ws:=ws2) (ids:=aT) (bs:=dd) (by simp) rfl (fun id k h=>by simpa using h) h.2.2.2) aO.nil))))))
 replace h:=h cO
 refine kc ?_
 refine iY 1 ?_
 refine iZ [] 4 [(5,ax U),(16,ax U)] [1] [5] ?_
 obtain⟨abg,h⟩:=h
 refine ek [(6,.ptr 2 0 (0+U.toNat) 0)] [6] (True) ?_ (fun ie=> ?_)
 ·
  replace h:=abg
  refine cy [] 5 ?_
  have aeM:=h
  refine GV 4 (some 20) [(19,ax U),(18,aD 2 0 ws2.length),(17,bc 3 3)] 2 0 5 aeM ?_
  exact dh [(6,.ptr 2 0 (0+U.toNat) 0)] trivial
 obtain⟨abf,h⟩:=h
 refine ek [(7,bG ct (nth a0.O U).ad)] [7] (True) ?_ (fun lr=> ?_)
 ·
  replace h:=abf
  refine cy [] 6 ?_
  have oM:=h
  refine oU 4 (some 24) [(23,ax U),(22,bG (en false) a0.O),(21,bc 2 2)] (en false) a0.O 5 oM ?_
  exact dh [(7,bG ct (nth a0.O U).ad),(26,bG ct (nth a0.O U).ad),(25,.da (en false (nth a0.O U)) 0)] trivial
 obtain⟨abe,h⟩:=h
 refine ek [] [8] ((!((nth ws2 U).az==0))=true) ?_ (fun gR=> ?_)
 ·
  replace h:=abe
  obtain⟨oN,h⟩:=h
  refine ek [(31,aA ((nth ws2 U).az==0))] [8] (True) ?_ (fun Bt=> ?_)
  ·
   replace h:=oN
   refine cy [] 7 ?_
   have qQ:=h
   refine l7 4 (some 30) [(29,.ptr 2 0 (0+U.toNat) 0),(28,.ptr 2 0 (0+U.toNat) 0),(27,.ptr 2 0 (0+U.toNat) 0)] (bp 3 ws2 aT) U 3 0 0 (ax (nth ws2 U).az) (e0 qQ.1 qQ.2) ?_
   exact dh [(31,aA ((nth ws2 U).az==0))] trivial
  refine hF (fun pI=> ?_) (fun pI=> ?_)
  ·
   replace h:=h pI
   refine mj 1 ?_
   refine di.exit ?_
   refine ej.here ?_
   refine eH.normal ?_
   refine cy [] 24 ?_
   refine gH [(14,ax (IntKind.i64.wrap (U+1))),(186,ax (IntKind.i64.wrap (U+1)))] ?_
   exact fi.again (dd,aT,(IntKind.i64.wrap (U+1)),ws2) h (hR [])
  ·
   refine gl ?_
   exact di.normal (by simp only[cO,pI]<;>rfl) gi
 replace h:=h gR
 unfold Fo at h
 obtain⟨abd,h⟩:=h
 obtain⟨ah,l2⟩: ∃w:List ac,(bif (((nth ws2 U).az !=4)&&(nth (ak J).aC (nth (nth a0.O U).ad 0))) then((ws2.set U.toNat (ac.mk 4 (nth ws2 U).ab (nth ws2 U).aa (nth ws2 U).ar (nth ws2 U).au)).set U.toNat (ac.mk (nth (ws2.set U.toNat (ac.mk 4 (nth ws2 U).ab (nth ws2 U).aa (nth ws2 U).ar (nth ws2 U).au)) U).az (nth (ws2.set U.toNat (ac.mk 4 (nth ws2 U).ab (nth ws2 U).aa (nth ws2 U).ar (nth ws2 U).au)) U).ab (nth (ws2.set U.toNat (ac.mk 4 (nth ws2 U).ab (nth ws2 U).aa (nth ws2 U).ar (nth ws2 U).au)) U).aa (nth (ws2.set U.toNat (ac.mk 4 (nth ws2 U).ab (nth ws2 U).aa (nth ws2 U).ar (nth ws2 U).au)) U).ar 0)) else ws2)=w:=⟨_,rfl⟩
 refine h7 [] [8] id (fun H=>eM 2 ⟨0,5,bp 3 ah aT⟩ H) (True) ?_ (fun nW=> ?_)
 ·
  replace h:=abd
  obtain⟨yn,h⟩:=h
  refine ek [(45,aA (((nth ws2 U).az !=4)&&(nth (ak J).aC (nth (nth a0.O U).ad 0))))] [8] (True) ?_ (fun oO=> ?_)
  ·
   replace h:=yn
   refine sc [] 8 XF XG [] ?_
   obtain⟨j7,h⟩:=h
   refine ns 4 (some 35) [(34,.ptr 2 0 (0+U.toNat) 0),(33,.ptr 2 0 (0+U.toNat) 0),(32,.ptr 2 0 (0+U.toNat) 0)] (bp 3 ws2 aT) U 3 0 0 (ax (nth ws2 U).az) (e0 j7.1 j7.2) ?_
   refine pS 2 37 ((nth ws2 U).az !=4) [(36,aA ((nth ws2 U).az !=4))] (fun mB=> ?_) (fun mB=> ?_)
   ·
    replace h:=h mB
    obtain⟨l3,h⟩:=h
    refine yR 4 (some 41) [(40,bG ct (nth a0.O U).ad),(39,aD 0 0 (ak J).aC.length),(38,bc 3 1)] ct (nth a0.O U).ad 1 l3 ?_
    have Rc:=h
    refine yQ 2 (some 43) [(42,ax (nth (nth a0.O U).ad 0))] 0 0 1 Rc ?_
    refine yS 1 (some 44) [] a7 (ak J).aC (nth (nth a0.O U).ad 0) 4 0 0 (aA (nth (ak J).aC (nth (nth a0.O U).ad 0))) (by simpa using Rc.2) ?_
    exact lv [(45,aA (nth (ak J).aC (nth (nth a0.O U).ad 0)))] trivial (by simp only[cO,gR,mB]<;>kernel_rfl)
   ·
    exact lv ([(45,aA false)]++gI [44,43,42,41,40,39,38]) trivial (by simp only[cO,gR,mB]<;>kernel_rfl)
  unfold LN at h
  refine hF (fun kG=> ?_) (fun kG=> ?_)
  ·
   replace h:=h kG
   refine cy [] 9 ?_
   obtain⟨r_,h⟩:=h
   refine mD 5 none [(49,.ptr 2 0 (0+U.toNat) 0),(48,.ptr 2 0 (0+U.toNat) 0),(47,.ptr 2 0 (0+U.toNat) 0),(46,.ptr 2 0 (0+U.toNat) 0)] (bp 3 ws2 aT) U 0 1 0 [ax 4] 2 (bp 3 (ws2.set U.toNat (ac.mk 4 (nth ws2 U).ab (nth ws2 U).aa (nth ws2 U).ar (nth ws2 U).au)) aT) (e0 r_.1 r_.2) (m4 r_.1 r_.2) ?_
   have l4:=h
   refine mD 3 none [(51,.ptr 2 0 (0+U.toNat) 4),(50,.ptr 2 0 (0+U.toNat) 0)] (bp 3 (ws2.set U.toNat (ac.mk 4 (nth ws2 U).ab (nth ws2 U).aa (nth ws2 U).ar (nth ws2 U).au)) aT) U 4 1 0 [ax 0] 2 (bp 3 ((ws2.set U.toNat (ac.mk 4 (nth ws2 U).ab (nth ws2 U).aa (nth ws2 U).ar (nth ws2 U).au)).set U.toNat (ac.mk (nth (ws2.set U.toNat (ac.mk 4 (nth ws2 U).ab (nth ws2 U).aa (nth ws2 U).ar (nth ws2 U).au)) U).az (nth (ws2.set U.toNat (ac.mk 4 (nth ws2 U).ab (nth ws2 U).aa (nth ws2 U).ar (nth ws2 U).au)) U).ab (nth (ws2.set U.toNat (ac.mk 4 (nth ws2 U).ab (nth ws2 U).aa (nth ws2 U).ar (nth ws2 U).au)) U).aa (nth (ws2.set U.toNat (ac.mk 4 (nth ws2 U).ab (nth ws2 U).aa (nth ws2 U).ar (nth ws2 U).au)) U).ar 0)) aT) (e0 l4.1 l4.2) (m4 l4.1 l4.2) ?_
   refine gH [] ?_
   exact di.normal trivial (by simp only[←l2,cO,gR,kG,cond_true,cond_false];exact gi)
  ·
   refine gl ?_
   exact di.normal trivial (by simp only[←l2,cO,gR,kG,cond_true,cond_false];exact gi)
 replace h:=h ah l2
 have rH:ah.length=ws2.length:=by rw[←l2];repeat' apply AY;all_goals simp
 unfold Fm at h
 obtain⟨abc,h⟩:=h
 obtain⟨du,oP⟩: ∃w:List ac,(bif (((nth ah U).az==1) || ((nth ah U).az==2)) then(bif (g_ a0 (Frame.mk (ak J).ok (ak J).aC (ak J).aq (view (ah.set U.toNat (ac.mk 1 (nth ah U).ab (nth ah U).aa (nth ah U).ar (nth ah U).au)) aT dd)) U) then(((ah.set U.toNat (ac.mk 1 (nth ah U).ab (nth ah U).aa (nth ah U).ar (nth ah U).au)).set U.toNat (ac.mk 2 (nth (ah.set U.toNat (ac.mk 1 (nth ah U).ab (nth ah U).aa (nth ah U).ar (nth ah U).au)) U).ab (nth (ah.set U.toNat (ac.mk 1 (nth ah U).ab (nth ah U).aa (nth ah U).ar (nth ah U).au)) U).aa (nth (ah.set U.toNat (ac.mk 1 (nth ah U).ab (nth ah U).aa (nth ah U).ar (nth ah U).au)) U).ar (nth (ah.set U.toNat (ac.mk 1 (nth ah U).ab (nth ah U).aa (nth ah U).ar (nth ah U).au)) U).au)).set U.toNat (ac.mk (nth ((ah.set U.toNat (ac.mk 1 (nth ah U).ab (nth ah U).aa (nth ah U).ar (nth ah U).au)).set U.toNat (ac.mk 2 (nth (ah.set U.toNat (ac.mk 1 (nth ah U).ab (nth ah U).aa (nth ah U).ar (nth ah U).au)) U).ab (nth (ah.set U.toNat (ac.mk 1 (nth ah U).ab (nth ah U).aa (nth ah U).ar (nth ah U).au)) U).aa (nth (ah.set U.toNat (ac.mk 1 (nth ah U).ab (nth ah U).aa (nth ah U).ar (nth ah U).au)) U).ar (nth (ah.set U.toNat (ac.mk 1 (nth ah U).ab (nth ah U).aa (nth ah U).ar (nth ah U).au)) U).au)) U).az (nth ((ah.set U.toNat (ac.mk 1 (nth ah U).ab (nth ah U).aa (nth ah U).ar (nth ah U).au)).set U.toNat (ac.mk 2 (nth (ah.set U.toNat (ac.mk 1 (nth ah U).ab (nth ah U).aa (nth ah U).ar (nth ah U).au)) U).ab (nth (ah.set U.toNat (ac.mk 1 (nth ah U).ab (nth ah U).aa (nth ah U).ar (nth ah U).au)) U).aa (nth (ah.set U.toNat (ac.mk 1 (nth ah U).ab (nth ah U).aa (nth ah U).ar (nth ah U).au)) U).ar (nth (ah.set U.toNat (ac.mk 1 (nth ah U).ab (nth ah U).aa (nth ah U).ar (nth ah U).au)) U).au)) U).ab (nth ((ah.set U.toNat (ac.mk 1 (nth ah U).ab (nth ah U).aa (nth ah U).ar (nth ah U).au)).set U.toNat (ac.mk 2 (nth (ah.set U.toNat (ac.mk 1 (nth ah U).ab (nth ah U).aa (nth ah U).ar (nth ah U).au)) U).ab (nth (ah.set U.toNat (ac.mk 1 (nth ah U).ab (nth ah U).aa (nth ah U).ar (nth ah U).au)) U).aa (nth (ah.set U.toNat (ac.mk 1 (nth ah U).ab (nth ah U).aa (nth ah U).ar (nth ah U).au)) U).ar (nth (ah.set U.toNat (ac.mk 1 (nth ah U).ab (nth ah U).aa (nth ah U).ar (nth ah U).au)) U).au)) U).aa true (nth ((ah.set U.toNat (ac.mk 1 (nth ah U).ab (nth ah U).aa (nth ah U).ar (nth ah U).au)).set U.toNat (ac.mk 2 (nth (ah.set U.toNat (ac.mk 1 (nth ah U).ab (nth ah U).aa (nth ah U).ar (nth ah U).au)) U).ab (nth (ah.set U.toNat (ac.mk 1 (nth ah U).ab (nth ah U).aa (nth ah U).ar (nth ah U).au)) U).aa (nth (ah.set U.toNat (ac.mk 1 (nth ah U).ab (nth ah U).aa (nth ah U).ar (nth ah U).au)) U).ar (nth (ah.set U.toNat (ac.mk 1 (nth ah U).ab (nth ah U).aa (nth ah U).ar (nth ah U).au)) U).au)) U).au)) else(ah.set U.toNat (ac.mk 1 (nth ah U).ab (nth ah U).aa (nth ah U).ar (nth ah U).au))) else ah)=w:=⟨_,rfl⟩
 refine h7 [] [8] id (fun H=>eM 2 ⟨0,5,bp 3 du aT⟩ H) (True) ?_ (fun Gw=> ?_)
 ·
  replace h:=abc
  obtain⟨nl,h⟩:=h
  refine ek [(63,aA (((nth ah U).az==1) || ((nth ah U).az==2)))] [8] (True) ?_ (fun pJ=> ?_)
  ·
   replace h:=nl
   refine cy [] 10 ?_
   obtain⟨l6,h⟩:=h
   refine l7 4 (some 55) [(54,.ptr 2 0 (0+U.toNat) 0),(53,.ptr 2 0 (0+U.toNat) 0),(52,.ptr 2 0 (0+U.toNat) 0)] (bp 3 ah aT) U 3 0 0 (ax (nth ah U).az) (e0 l6.1 l6.2) ?_
   refine pO 2 57 ((nth ah U).az==1) [(56,aA ((nth ah U).az==1))] (fun l5=> ?_) (fun l5=> ?_)
   ·
    exact dh ([(63,aA true)]++gI [62,61,60,59,58]) trivial (by simp only[cO,gR,l5]<;>kernel_rfl)
   ·
    replace h:=h l5
    have qR:=h
    refine l7 4 (some 61) [(60,.ptr 2 0 (0+U.toNat) 0),(59,.ptr 2 0 (0+U.toNat) 0),(58,.ptr 2 0 (0+U.toNat) 0)] (bp 3 ah aT) U 3 0 0 (ax (nth ah U).az) (e0 qR.1 qR.2) ?_
    exact dh [(63,aA ((nth ah U).az==2)),(62,aA ((nth ah U).az==2))] trivial (by simp only[cO,gR,l5]<;>kernel_rfl)
  refine hF (fun oQ=> ?_) (fun oQ=> ?_)
  ·
   replace h:=h oQ
   obtain⟨yo,h⟩:=h
   refine h7 [] [0,1,8] id (fun H=>eM 2 ⟨0,5,bp 3 (ah.set U.toNat (ac.mk 1 (nth ah U).ab (nth ah U).aa (nth ah U).ar (nth ah U).au)) aT⟩ H) (True) ?_ (fun qS=> ?_)
   ·
    replace h:=yo
    refine cy [] 11 ?_
    have qT:=h
    refine mD 4 none [(66,.ptr 2 0 (0+U.toNat) 0),(65,.ptr 2 0 (0+U.toNat) 0),(64,.ptr 2 0 (0+U.toNat) 0)] (bp 3 ah aT) U 0 1 0 [ax 1] 2 (bp 3 (ah.set U.toNat (ac.mk 1 (nth ah U).ab (nth ah U).aa (nth ah U).ar (nth ah U).au)) aT) (e0 qT.1 qT.2) (m4 qT.1 qT.2) ?_
    exact dh [] trivial
   unfold Fs at h
   obtain⟨qU,h⟩:=h
   refine ek [(70,aA (g_ a0 (Frame.mk (ak J).ok (ak J).aC (ak J).aq (view (ah.set U.toNat (ac.mk 1 (nth ah U).ab (nth ah U).aa (nth ah U).ar (nth ah U).au)) aT dd)) U))] [8] (True) ?_ (fun Bu=> ?_)
   ·
    replace h:=qU
    refine cy [] 12 ?_
    obtain⟨nj,tB,tC,mC⟩:=h
    refine vX 4 (some 70) [(69,ax U),(68,.agg [aA (ak J).ok,aD 0 0 (ak J).aC.length,aD 1 0 (ak J).aq.length,aD 2 0 ws2.length]),(67,.agg (bW false a0))] [.agg (bW false a0),.agg [aA (ak J).ok,aD 0 0 (ak J).aC.length,aD 1 0 (ak J).aq.length,aD 2 0 ws2.length],ax U] (Xo a0 (Frame.mk (ak J).ok (ak J).aC (ak J).aq (view (ah.set U.toNat (ac.mk 1 (nth ah U).ab (nth ah U).aa (nth ah U).ar (nth ah U).au)) aT dd)) U mC) (aO.cons (ey.agg (aO.cons (.int _ _) (aO.cons gq (aO.cons gq (aO.cons gq (aO.cons (.int _ _) aO.nil)))))) (aO.cons (ey.agg (aO.cons (.bool _) (aO.cons (tJ (sz:=1) (by simp[rH]) rfl (AM) nj) (aO.cons (tJ (sz:=2) (by simp[rH]) rfl (E5) tB) (aO.cons (BO (s:=3) (ws:=(ah.set U.toNat (ac.mk 1 (nth ah U).ab (nth ah U).aa (nth ah U).ar (nth ah U).au))) (ids:=aT) (bs:=dd) (by simp[rH]) rfl (fun id k h=>by simpa using h) tC.1 tC.2.1 tC.2.2) aO.nil))))) (aO.cons (ey.jD (.int _ _)) aO.nil))) ?_
    exact dh [] trivial
   unfold Fq at h
   refine hF (fun vP=> ?_) (fun vP=> ?_)
   ·
    replace h:=h vP
    refine cy [] 13 ?_
    obtain⟨oR,h⟩:=h
    refine mD 5 none [(74,.ptr 2 0 (0+U.toNat) 0),(73,.ptr 2 0 (0+U.toNat) 0),(72,.ptr 2 0 (0+U.toNat) 0),(71,.ptr 2 0 (0+U.toNat) 0)] (bp 3 (ah.set U.toNat (ac.mk 1 (nth ah U).ab (nth ah U).aa (nth ah U).ar (nth ah U).au)) aT) U 0 1 0 [ax 2] 2 (bp 3 ((ah.set U.toNat (ac.mk 1 (nth ah U).ab (nth ah U).aa (nth ah U).ar (nth ah U).au)).set U.toNat (ac.mk 2 (nth (ah.set U.toNat (ac.mk 1 (nth ah U).ab (nth ah U).aa (nth ah U).ar (nth ah U).au)) U).ab (nth (ah.set U.toNat (ac.mk 1 (nth ah U).ab (nth ah U).aa (nth ah U).ar (nth ah U).au)) U).aa (nth (ah.set U.toNat (ac.mk 1 (nth ah U).ab (nth ah U).aa (nth ah U).ar (nth ah U).au)) U).ar (nth (ah.set U.toNat (ac.mk 1 (nth ah U).ab (nth ah U).aa (nth ah U).ar (nth ah U).au)) U).au)) aT) (e0 oR.1 oR.2) (m4 oR.1 oR.2) ?_
    have nk:=h
    refine mD 3 none [(76,.ptr 2 0 (0+U.toNat) 3),(75,.ptr 2 0 (0+U.toNat) 0)] (bp 3 ((ah.set U.toNat (ac.mk 1 (nth ah U).ab (nth ah U).aa (nth ah U).ar (nth ah U).au)).set U.toNat (ac.mk 2 (nth (ah.set U.toNat (ac.mk 1 (nth ah U).ab (nth ah U).aa (nth ah U).ar (nth ah U).au)) U).ab (nth (ah.set U.toNat (ac.mk 1 (nth ah U).ab (nth ah U).aa (nth ah U).ar (nth ah U).au)) U).aa (nth (ah.set U.toNat (ac.mk 1 (nth ah U).ab (nth ah U).aa (nth ah U).ar (nth ah U).au)) U).ar (nth (ah.set U.toNat (ac.mk 1 (nth ah U).ab (nth ah U).aa (nth ah U).ar (nth ah U).au)) U).au)) aT) U 3 1 0 [aA true] 2 (bp 3 (((ah.set U.toNat (ac.mk 1 (nth ah U).ab (nth ah U).aa (nth ah U).ar (nth ah U).au)).set U.toNat (ac.mk 2 (nth (ah.set U.toNat (ac.mk 1 (nth ah U).ab (nth ah U).aa (nth ah U).ar (nth ah U).au)) U).ab (nth (ah.set U.toNat (ac.mk 1 (nth ah U).ab (nth ah U).aa (nth ah U).ar (nth ah U).au)) U).aa (nth (ah.set U.toNat (ac.mk 1 (nth ah U).ab (nth ah U).aa (nth ah U).ar (nth ah U).au)) U).ar (nth (ah.set U.toNat (ac.mk 1 (nth ah U).ab (nth ah U).aa (nth ah U).ar (nth ah U).au)) U).au)).set U.toNat (ac.mk (nth ((ah.set U.toNat (ac.mk 1 (nth ah U).ab (nth ah U).aa (nth ah U).ar (nth ah U).au)).set U.toNat (ac.mk 2 (nth (ah.set U.toNat (ac.mk 1 (nth ah U).ab (nth ah U).aa (nth ah U).ar (nth ah U).au)) U).ab (nth (ah.set U.toNat (ac.mk 1 (nth ah U).ab (nth ah U).aa (nth ah U).ar (nth ah U).au)) U).aa (nth (ah.set U.toNat (ac.mk 1 (nth ah U).ab (nth ah U).aa (nth ah U).ar (nth ah U).au)) U).ar (nth (ah.set U.toNat (ac.mk 1 (nth ah U).ab (nth ah U).aa (nth ah U).ar (nth ah U).au)) U).au)) U).az (nth ((ah.set U.toNat (ac.mk 1 (nth ah U).ab (nth ah U).aa (nth ah U).ar (nth ah U).au)).set U.toNat (ac.mk 2 (nth (ah.set U.toNat (ac.mk 1 (nth ah U).ab (nth ah U).aa (nth ah U).ar (nth ah U).au)) U).ab (nth (ah.set U.toNat (ac.mk 1 (nth ah U).ab (nth ah U).aa (nth ah U).ar (nth ah U).au)) U).aa (nth (ah.set U.toNat (ac.mk 1 (nth ah U).ab (nth ah U).aa (nth ah U).ar (nth ah U).au)) U).ar (nth (ah.set U.toNat (ac.mk 1 (nth ah U).ab (nth ah U).aa (nth ah U).ar (nth ah U).au)) U).au)) U).ab (nth ((ah.set U.toNat (ac.mk 1 (nth ah U).ab (nth ah U).aa (nth ah U).ar (nth ah U).au)).set U.toNat (ac.mk 2 (nth (ah.set U.toNat (ac.mk 1 (nth ah U).ab (nth ah U).aa (nth ah U).ar (nth ah U).au)) U).ab (nth (ah.set U.toNat (ac.mk 1 (nth ah U).ab (nth ah U).aa (nth ah U).ar (nth ah U).au)) U).aa (nth (ah.set U.toNat (ac.mk 1 (nth ah U).ab (nth ah U).aa (nth ah U).ar (nth ah U).au)) U).ar (nth (ah.set U.toNat (ac.mk 1 (nth ah U).ab (nth ah U).aa (nth ah U).ar (nth ah U).au)) U).au)) U).aa true (nth ((ah.set U.toNat (ac.mk 1 (nth ah U).ab (nth ah U).aa (nth ah U).ar (nth ah U).au)).set U.toNat (ac.mk 2 (nth (ah.set U.toNat (ac.mk 1 (nth ah U).ab (nth ah U).aa (nth ah U).ar (nth ah U).au)) U).ab (nth (ah.set U.toNat (ac.mk 1 (nth ah U).ab (nth ah U).aa (nth ah U).ar (nth ah U).au)) U).aa (nth (ah.set U.toNat (ac.mk 1 (nth ah U).ab (nth ah U).aa (nth ah U).ar (nth ah U).au)) U).ar (nth (ah.set U.toNat (ac.mk 1 (nth ah U).ab (nth ah U).aa (nth ah U).ar (nth ah U).au)) U).au)) U).au)) aT) (e0 nk.1 nk.2) (m4 nk.1 nk.2) ?_
    refine gH [] ?_
    exact di.normal trivial (by simp only[←oP,cO,gR,oQ,vP,cond_true,cond_false];exact gi)
   ·
    refine gl ?_
    exact di.normal trivial (by simp only[←oP,cO,gR,oQ,vP,cond_true,cond_false];exact gi)
  ·
   refine gl ?_
   exact di.normal trivial (by simp only[←oP,cO,gR,oQ,cond_true,cond_false];exact gi)
 replace h:=h du oP
 have AB:du.length=ws2.length:=by rw[←oP];repeat' apply AY;all_goals simp[rH]
 obtain⟨abb,h⟩:=h
 refine ek [] [8] ((!((nth du U).az !=4))=true) ?_ (fun kl=> ?_)
 ·
  replace h:=abb
  obtain⟨pL,h⟩:=h
  refine ek [(81,aA ((nth du U).az !=4))] [8] (True) ?_ (fun yp=> ?_)
  ·
   replace h:=pL
   refine cy [] 14 ?_
   have tD:=h
   refine l7 4 (some 80) [(79,.ptr 2 0 (0+U.toNat) 0),(78,.ptr 2 0 (0+U.toNat) 0),(77,.ptr 2 0 (0+U.toNat) 0)] (bp 3 du aT) U 3 0 0 (ax (nth du U).az) (e0 tD.1 tD.2) ?_
   exact dh [(81,aA ((nth du U).az !=4))] trivial
  refine hF (fun pK=> ?_) (fun pK=> ?_)
  ·
   replace h:=h pK
   refine mj 1 ?_
   refine di.exit ?_
   refine ej.here ?_
   refine eH.normal ?_
   refine cy [] 24 ?_
   refine gH [(14,ax (IntKind.i64.wrap (U+1))),(186,ax (IntKind.i64.wrap (U+1)))] ?_
   exact fi.again (dd,aT,(IntKind.i64.wrap (U+1)),du) h (o1 (s':=⟨(bI 188 [(2,bc 2 0),(3,bc 3 0),(4,bc 4 0),(13,ax ((ak J).O.length:Int)),(14,ax (IntKind.i64.wrap (U+1)))]),[(4,[aA false,bw,bw,bw]),(3,[aA (ak J).ok,aD 0 0 (ak J).aC.length,aD 1 0 (ak J).aq.length,aD 2 0 ws2.length]),(2,(bW false a0))],(⟨0,1,List.map a7 (ak J).aC⟩::⟨0,2,List.map bH (ak J).aq⟩::⟨0,5,bp 3 du aT⟩::List.map bR dd)⟩) (hR (n:=188) (A':=[(2,bc 2 0),(3,bc 3 0),(4,bc 4 0),(13,ax ((ak J).O.length:Int)),(14,ax (IntKind.i64.wrap (U+1)))]) (L':=[(4,[aA false,bw,bw,bw]),(3,[aA (ak J).ok,aD 0 0 (ak J).aC.length,aD 1 0 (ak J).aq.length,aD 2 0 ws2.length]),(2,(bW false a0))]) []) (congrArg (fun z=>(⟨(bI 188 [(2,bc 2 0),(3,bc 3 0),(4,bc 4 0),(13,ax ((ak J).O.length:Int)),(14,ax (IntKind.i64.wrap (U+1)))]),[(4,[aA false,bw,bw,bw]),(3,[aA (ak J).ok,aD 0 0 (ak J).aC.length,aD 1 0 (ak J).aq.length,aD 2 0 z]),(2,(bW false a0))],(⟨0,1,List.map a7 (ak J).aC⟩::⟨0,2,List.map bH (ak J).aq⟩::⟨0,5,bp 3 du aT⟩::List.map bR dd)⟩:St)) (show ws2.length=du.length by simp[rH,AB])))
  ·
   refine gl ?_
   exact di.normal (by simp only[cO,gR,pK]<;>rfl) gi
 replace h:=h kl
 refine kc ?_
 refine ek [(83,ax ((nth a0.O U).ad.length:Int)),(84,ax 0)] [8] ((nth a0.O U).ad.length≤4611686018427387904) ?_ (fun qV=> ?_)
 ·
  refine cy [] 15 ?_
  refine sLen 2 (some 83) [(82,bG ct (nth a0.O U).ad)] ct (nth a0.O U).ad (fun vQ=> ?_)
  exact dh [(84,ax 0)] vQ
 replace h:=h qV
 unfold Fl at h
 refine iY 2 ?_
 obtain⟨aba,h⟩:=h
 refine ob (fun(v:List (List Bool)×Int)=>(⟨(bI 188 [(2,bc 2 0),(3,bc 3 0),(4,bc 4 0),(5,ax U),(6,.ptr 2 0 (0+U.toNat) 0),(7,bG ct (nth a0.O U).ad),(13,ax ((ak J).O.length:Int)),(14,ax U),(83,ax ((nth a0.O U).ad.length:Int)),(84,ax (v.2))]),[(4,[aA false,bw,bw,bw]),(3,[aA (ak J).ok,aD 0 0 (ak J).aC.length,aD 1 0 (ak J).aq.length,aD 2 0 ws2.length]),(2,(bW false a0))],(⟨0,1,List.map a7 (ak J).aC⟩::⟨0,2,List.map bH (ak J).aq⟩::⟨0,5,bp 3 du aT⟩::List.map bR (v.1))⟩:St)) (fun(v:List (List Bool)×Int)=>a6 dd aT U ws2 ah du (v.1) (v.2)) (fun(v:List (List Bool)×Int)=>aY dd aT U ws2 ah du (v.1) (v.2)) (dd,0) (hR []) aba (fun v a_=> ?_)
 obtain⟨cm,dp⟩:=v
 replace h:=h cm dp a_
 dsimp only
 refine iZ [] 16 [(85,aA (decide (dp<((nth a0.O U).ad.length:Int))))] [1] [10] ?_
 obtain⟨aa_,h⟩:=h
 refine ek [] [0,1,10] ((decide (dp<((nth a0.O U).ad.length:Int)))=true) ?_ (fun tE=> ?_)
 ·
  replace h:=aa_
  refine hF (fun nm=> ?_) (fun nm=> ?_)
  ·
   refine gl ?_
   exact di.normal (by simp only[cO,gR,kl,nm]<;>rfl) gi
  ·
   replace h:=h nm
   refine mj 2 ?_
   refine di.exit ?_
   refine fi.exit ?_
   refine ej.here ?_
   refine eH.normal ?_
   refine kc ?_
   refine iY 4 ?_
   obtain⟨abq,h⟩:=h
   refine ob (fun(v:List ac)=>(⟨(bI 188 [(2,bc 2 0),(3,bc 3 0),(4,bc 4 0),(5,ax U),(6,.ptr 2 0 (0+U.toNat) 0),(7,bG ct (nth a0.O U).ad),(13,ax ((ak J).O.length:Int)),(14,ax U)]),[(4,[aA false,bw,bw,bw]),(3,[aA (ak J).ok,aD 0 0 (ak J).aC.length,aD 1 0 (ak J).aq.length,aD 2 0 v.length]),(2,(bW false a0))],(⟨0,1,List.map a7 (ak J).aC⟩::⟨0,2,List.map bH (ak J).aq⟩::⟨0,5,bp 3 v aT⟩::List.map bR cm)⟩:St)) (fun(v:List ac)=>bB dd aT U ws2 ah du cm dp v) (fun(v:List ac)=>bj dd aT U ws2 ah du cm dp v) du (o1 (s':=⟨(bI 188 [(2,bc 2 0),(3,bc 3 0),(4,bc 4 0),(5,ax U),(6,.ptr 2 0 (0+U.toNat) 0),(7,bG ct (nth a0.O U).ad),(13,ax ((ak J).O.length:Int)),(14,ax U)]),[(4,[aA false,bw,bw,bw]),(3,[aA (ak J).ok,aD 0 0 (ak J).aC.length,aD 1 0 (ak J).aq.length,aD 2 0 ws2.length]),(2,(bW false a0))],(⟨0,1,List.map a7 (ak J).aC⟩::⟨0,2,List.map bH (ak J).aq⟩::⟨0,5,bp 3 du aT⟩::List.map bR cm)⟩) (hR (n:=188) (A':=[(2,bc 2 0),(3,bc 3 0),(4,bc 4 0),(5,ax U),(6,.ptr 2 0 (0+U.toNat) 0),(7,bG ct (nth a0.O U).ad),(13,ax ((ak J).O.length:Int)),(14,ax U)]) (L':=[(4,[aA false,bw,bw,bw]),(3,[aA (ak J).ok,aD 0 0 (ak J).aC.length,aD 1 0 (ak J).aq.length,aD 2 0 ws2.length]),(2,(bW false a0))]) []) (congrArg (fun z=>(⟨(bI 188 [(2,bc 2 0),(3,bc 3 0),(4,bc 4 0),(5,ax U),(6,.ptr 2 0 (0+U.toNat) 0),(7,bG ct (nth a0.O U).ad),(13,ax ((ak J).O.length:Int)),(14,ax U)]),[(4,[aA false,bw,bw,bw]),(3,[aA (ak J).ok,aD 0 0 (ak J).aC.length,aD 1 0 (ak J).aq.length,aD 2 0 z]),(2,(bW false a0))],(⟨0,1,List.map a7 (ak J).aC⟩::⟨0,2,List.map bH (ak J).aq⟩::⟨0,5,bp 3 du aT⟩::List.map bR cm)⟩:St)) (show ws2.length=du.length by simp[rH,AB]))) abq (fun bu a_=> ?_)
   replace h:=h bu a_
   unfold Fx at h
   obtain⟨abp,h⟩:=h
   refine ek [] [8] (((decide ((nth bu U).ab<((nth a0.O U).ad.length:Int)))&&((nth (cm.getD (nth aT U) []) (nth bu U).ab)&&((!(nth (ak J).aC (nth (nth a0.O U).ad (nth bu U).ab)))&&(((nth bu U).ab==(IntKind.i64.wrap (((nth a0.O U).ad.length:Int) - 1))) || (nth (cm.getD (nth aT U) []) (IntKind.i64.wrap ((nth bu U).ab+1)))))))=true) ?_ (fun yq=> ?_)
   ·
    replace h:=abp
    obtain⟨abo,h⟩:=h
    refine ek [(166,aA ((decide ((nth bu U).ab<((nth a0.O U).ad.length:Int)))&&((nth (cm.getD (nth aT U) []) (nth bu U).ab)&&((!(nth (ak J).aC (nth (nth a0.O U).ad (nth bu U).ab)))&&(((nth bu U).ab==(IntKind.i64.wrap (((nth a0.O U).ad.length:Int) - 1))) || (nth (cm.getD (nth aT U) []) (IntKind.i64.wrap ((nth bu U).ab+1))))))))] [8] (True) ?_ (fun vR=> ?_)
    ·
     replace h:=abo
     refine sc [] 20 XD XE [] ?_
     obtain⟨Bz,h⟩:=h
     refine ns 4 (some 114) [(113,.ptr 2 0 (0+U.toNat) 1),(112,.ptr 2 0 (0+U.toNat) 0),(111,.ptr 2 0 (0+U.toNat) 0)] (bp 3 bu aT) U 3 1 0 (ax (nth bu U).ab) (e0 Bz.1 Bz.2) ?_
     refine QI 2 (some 116) [(115,bG ct (nth a0.O U).ad)] ct (nth a0.O U).ad ?_
     refine pS 2 118 (decide ((nth bu U).ab<((nth a0.O U).ad.length:Int))) [(117,aA (decide ((nth bu U).ab<((nth a0.O U).ad.length:Int))))] (fun oS=> ?_) (fun oS=> ?_)
     ·
      replace h:=h oS
      obtain⟨By,h⟩:=h
      refine ns 4 (some 122) [(121,.ptr 2 0 (0+U.toNat) 2),(120,.ptr 2 0 (0+U.toNat) 0),(119,.ptr 2 0 (0+U.toNat) 0)] (bp 3 bu aT) U 27 2 0 (aD ((nth aT U)+3) 0 (nth bu U).aa.length) (e0 By.1 By.2) ?_
      obtain⟨Bx,h⟩:=h
      refine ns 4 (some 126) [(125,.ptr 2 0 (0+U.toNat) 1),(124,.ptr 2 0 (0+U.toNat) 0),(123,.ptr 2 0 (0+U.toNat) 0)] (bp 3 bu aT) U 3 1 0 (ax (nth bu U).ab) (e0 Bx.1 Bx.2) ?_
      obtain⟨⟨yr,aeJ⟩,h⟩:=h
      refine tX 1 (some 127) [] cm (nth aT U) 3 yr aeJ ?_
      obtain⟨OA,h⟩:=h
      refine yT 1 (some 128) [] cm (nth aT U) (nth bu U).ab 4 OA.1 OA.2 ?_
      refine pS 2 130 (nth (cm.getD (nth aT U) []) (nth bu U).ab) [(129,aA (nth (cm.getD (nth aT U) []) (nth bu U).ab))] (fun pM=> ?_) (fun pM=> ?_)
      ·
       replace h:=h pM
       obtain⟨vT,h⟩:=h
       refine ns 7 (some 137) [(136,.ptr 2 0 (0+U.toNat) 1),(135,.ptr 2 0 (0+U.toNat) 0),(134,.ptr 2 0 (0+U.toNat) 0),(133,bG ct (nth a0.O U).ad),(132,aD 0 0 (ak J).aC.length),(131,bc 3 1)] (bp 3 bu aT) U 3 1 0 (ax (nth bu U).ab) (e0 vT.1 vT.2) ?_
       obtain⟨yt,h⟩:=h
       refine yR 1 (some 138) [] ct (nth a0.O U).ad 1 yt ?_
       obtain⟨Ra,h⟩:=h
       refine yQ 2 (some 140) [(139,ax (nth (nth a0.O U).ad (nth bu U).ab))] 0 0 1 Ra ?_
       refine yS 1 (some 141) [] a7 (ak J).aC (nth (nth a0.O U).ad (nth bu U).ab) 4 0 0 (aA (nth (ak J).aC (nth (nth a0.O U).ad (nth bu U).ab))) (by simpa using Ra.2) ?_
       refine pS 3 144 (!(nth (ak J).aC (nth (nth a0.O U).ad (nth bu U).ab))) [(143,aA (!(nth (ak J).aC (nth (nth a0.O U).ad (nth bu U).ab)))),(142,aA (!(nth (ak J).aC (nth (nth a0.O U).ad (nth bu U).ab))))] (fun qW=> ?_) (fun qW=> ?_)
       ·
        replace h:=h qW
        obtain⟨GA,h⟩:=h
        refine ns 4 (some 148) [(147,.ptr 2 0 (0+U.toNat) 1),(146,.ptr 2 0 (0+U.toNat) 0),(145,.ptr 2 0 (0+U.toNat) 0)] (bp 3 bu aT) U 3 1 0 (ax (nth bu U).ab) (e0 GA.1 GA.2) ?_
        refine QI 2 (some 150) [(149,bG ct (nth a0.O U).ad)] ct (nth a0.O U).ad ?_
        refine pS 3 153 ((nth bu U).ab==(IntKind.i64.wrap (((nth a0.O U).ad.length:Int) - 1))) [(152,aA ((nth bu U).ab==(IntKind.i64.wrap (((nth a0.O U).ad.length:Int) - 1)))),(151,ax (IntKind.i64.wrap (((nth a0.O U).ad.length:Int) - 1)))] (fun vS=> ?_) (fun vS=> ?_)
        ·
         exact lv ([(166,aA true),(165,aA true)]++gI [164,163,162,161,160,159,158,157,156,155,154]) trivial (by simp only[cO,gR,kl,nm,oS,pM,qW,vS]<;>kernel_rfl)
        ·
         replace h:=h vS
         obtain⟨Bw,h⟩:=h
         refine ns 4 (some 157) [(156,.ptr 2 0 (0+U.toNat) 2),(155,.ptr 2 0 (0+U.toNat) 0),(154,.ptr 2 0 (0+U.toNat) 0)] (bp 3 bu aT) U 27 2 0 (aD ((nth aT U)+3) 0 (nth bu U).aa.length) (e0 Bw.1 Bw.2) ?_
         obtain⟨Gz,h⟩:=h
         refine ns 4 (some 161) [(160,.ptr 2 0 (0+U.toNat) 1),(159,.ptr 2 0 (0+U.toNat) 0),(158,.ptr 2 0 (0+U.toNat) 0)] (bp 3 bu aT) U 3 1 0 (ax (nth bu U).ab) (e0 Gz.1 Gz.2) ?_
         obtain⟨⟨Gy,aeK⟩,h⟩:=h
         refine tX 2 (some 163) [(162,ax (IntKind.i64.wrap ((nth bu U).ab+1)))] cm (nth aT U) 3 Gy aeK ?_
         have Bv:=h
         refine yT 1 (some 164) [] cm (nth aT U) (IntKind.i64.wrap ((nth bu U).ab+1)) 4 Bv.1 Bv.2 ?_
         exact lv [(166,aA (nth (cm.getD (nth aT U) []) (IntKind.i64.wrap ((nth bu U).ab+1)))),(165,aA (nth (cm.getD (nth aT U) []) (IntKind.i64.wrap ((nth bu U).ab+1))))] trivial (by simp only[cO,gR,kl,nm,oS,pM,qW,vS]<;>kernel_rfl)
       ·
        exact lv ([(166,aA false)]++gI [165,164,163,162,161,160,159,158,157,156,155,154,153,152,151,150,149,148,147,146,145]) trivial (by simp only[cO,gR,kl,nm,oS,pM,qW]<;>kernel_rfl)
      ·
       exact lv ([(166,aA false)]++gI [165,164,163,162,161,160,159,158,157,156,155,154,153,152,151,150,149,148,147,146,145]++[(144,aA false),(143,aA false)]++gI [142,141,140,139,138,137,136,135,134,133,132,131]) trivial (by simp only[cO,gR,kl,nm,oS,pM]<;>kernel_rfl)
     ·
      exact lv ([(166,aA false)]++gI [165,164,163,162,161,160,159,158,157,156,155,154,153,152,151,150,149,148,147,146,145]++[(144,aA false),(143,aA false)]++gI [142,141,140,139,138,137,136,135,134,133,132,131]++[(130,aA false),(129,aA false)]++gI [128,127,126,125,124,123,122,121,120,119]) trivial (by simp only[cO,gR,kl,nm,oS]<;>kernel_rfl)
    unfold Fu at h
    refine hF (fun yu=> ?_) (fun yu=> ?_)
    ·
     refine gl ?_
     exact di.normal (by simp only[cO,gR,kl,nm,yu]<;>rfl) gi
    ·
     replace h:=h yu
     refine mj 4 ?_
     refine di.exit ?_
     refine fi.exit ?_
     refine ej.here ?_
     refine eH.normal ?_
     obtain⟨abn,h⟩:=h
     refine lg ⟨(bI 188 [(2,bc 2 0),(3,bc 3 0),(4,bc 4 0),(5,ax U),(6,.ptr 2 0 (0+U.toNat) 0),(13,ax ((ak J).O.length:Int)),(14,ax U),(180,aA ((nth bu U).ab==((nth a0.O U).ad.length:Int)))]),[(4,[aA false,bw,bw,bw]),(3,[aA (ak J).ok,aD 0 0 (ak J).aC.length,aD 1 0 (ak J).aq.length,aD 2 0 bu.length]),(2,(bW false a0))],(⟨0,1,List.map a7 (ak J).aC⟩::⟨0,2,List.map bH (ak J).aq⟩::⟨0,5,bp 3 bu aT⟩::List.map bR cm)⟩ (True) ?_ (fun OB=> ?_)
     ·
      replace h:=abn
      refine cy [] 22 ?_
      have OC:=h
      refine l7 4 (some 177) [(176,.ptr 2 0 (0+U.toNat) 1),(175,.ptr 2 0 (0+U.toNat) 0),(174,.ptr 2 0 (0+U.toNat) 0)] (bp 3 bu aT) U 3 1 0 (ax (nth bu U).ab) (e0 OC.1 OC.2) ?_
      refine sLen 2 (some 179) [(178,bG ct (nth a0.O U).ad)] ct (nth a0.O U).ad (fun afm=> ?_)
      exact dh [(180,aA ((nth bu U).ab==((nth a0.O U).ad.length:Int)))] trivial
     unfold Ft at h
     refine rp (.tmp 180) ((nth bu U).ab==((nth a0.O U).ad.length:Int)) (fun GB=> ?_) (fun GB=> ?_)
     ·
      replace h:=h.1 GB
      refine cy [] 23 ?_
      obtain⟨abm,h⟩:=h
      refine BN 4 (some 184) [(183,ax U),(182,.agg (bW false a0)),(181,.ptr 2 0 (0+U.toNat) 0)] [.agg (bW false a0),ax U] (.agg [ax (dz a0 U).az,ax (dz a0 U).ab,aD (cm.length+3) 0 (dz a0 U).aa.length,aA (dz a0 U).ar,ax (dz a0 U).au]) (⟨0,1,List.map a7 (ak J).aC⟩::⟨0,2,List.map bH (ak J).aq⟩::⟨0,5,bp 3 bu aT⟩::List.map bR (cm++[(dz a0 U).aa])) (W6 a0 U abm) (aO.cons (ey.agg (aO.cons (.int _ _) (aO.cons gq (aO.cons gq (aO.cons gq (aO.cons (.int _ _) aO.nil)))))) (aO.cons (ey.jD (.int _ _)) aO.nil)) (tu (fun _=>rfl) rfl) (wa (tQ (fun _=>rfl) rfl) (by simp only[List.cons_append,List.map_nil,w8])) ?_ (er:=by simp[oV,q5,jH])
      obtain⟨GC,h⟩:=h
      refine mD 2 none [(185,.ptr 2 0 (0+U.toNat) 0)] (bp 3 bu aT) U 0 5 0 [ax (dz a0 U).az,ax (dz a0 U).ab,aD (cm.length+3) 0 (dz a0 U).aa.length,aA (dz a0 U).ar,ax (dz a0 U).au] 2 (bp 3 (bu.set U.toNat (ac.mk (dz a0 U).az (dz a0 U).ab (dz a0 U).aa (dz a0 U).ar (dz a0 U).au)) (aT.set U.toNat cm.length)) (e0 GC.1 GC.2) (Ai GC.1) ?_
      refine gH [] ?_
      refine ej.normal ?_
      refine eH.normal ?_
      refine cy [] 24 ?_
      refine gH [(14,ax (IntKind.i64.wrap (U+1))),(186,ax (IntKind.i64.wrap (U+1)))] ?_
      exact fi.again ((cm++[(dz a0 U).aa]),(aT.set U.toNat cm.length),(IntKind.i64.wrap (U+1)),(bu.set U.toNat (ac.mk (dz a0 U).az (dz a0 U).ab (dz a0 U).aa (dz a0 U).ar (dz a0 U).au))) h (o1 (s':=⟨(bI 188 [(2,bc 2 0),(3,bc 3 0),(4,bc 4 0),(13,ax ((ak J).O.length:Int)),(14,ax (IntKind.i64.wrap (U+1)))]),[(4,[aA false,bw,bw,bw]),(3,[aA (ak J).ok,aD 0 0 (ak J).aC.length,aD 1 0 (ak J).aq.length,aD 2 0 bu.length]),(2,(bW false a0))],(⟨0,1,List.map a7 (ak J).aC⟩::⟨0,2,List.map bH (ak J).aq⟩::⟨0,5,bp 3 (bu.set U.toNat (ac.mk (dz a0 U).az (dz a0 U).ab (dz a0 U).aa (dz a0 U).ar (dz a0 U).au)) (aT.set U.toNat cm.length)⟩::List.map bR (cm++[(dz a0 U).aa]))⟩) (hR (n:=188) (A':=[(2,bc 2 0),(3,bc 3 0),(4,bc 4 0),(13,ax ((ak J).O.length:Int)),(14,ax (IntKind.i64.wrap (U+1)))]) (L':=[(4,[aA false,bw,bw,bw]),(3,[aA (ak J).ok,aD 0 0 (ak J).aC.length,aD 1 0 (ak J).aq.length,aD 2 0 bu.length]),(2,(bW false a0))]) []) (congrArg (fun z=>(⟨(bI 188 [(2,bc 2 0),(3,bc 3 0),(4,bc 4 0),(13,ax ((ak J).O.length:Int)),(14,ax (IntKind.i64.wrap (U+1)))]),[(4,[aA false,bw,bw,bw]),(3,[aA (ak J).ok,aD 0 0 (ak J).aC.length,aD 1 0 (ak J).aq.length,aD 2 0 z]),(2,(bW false a0))],(⟨0,1,List.map a7 (ak J).aC⟩::⟨0,2,List.map bH (ak J).aq⟩::⟨0,5,bp 3 (bu.set U.toNat (ac.mk (dz a0 U).az (dz a0 U).ab (dz a0 U).aa (dz a0 U).ar (dz a0 U).au)) (aT.set U.toNat cm.length)⟩::List.map bR (cm++[(dz a0 U).aa]))⟩:St)) (show bu.length=(bu.set U.toNat (ac.mk (dz a0 U).az (dz a0 U).ab (dz a0 U).aa (dz a0 U).ar (dz a0 U).au)).length by simp[rH,AB])))
     ·
      replace h:=h.2 GB
      refine gl ?_
      refine ej.normal ?_
      refine eH.normal ?_
      refine cy [] 24 ?_
      refine gH [(14,ax (IntKind.i64.wrap (U+1))),(186,ax (IntKind.i64.wrap (U+1)))] ?_
      exact fi.again (cm,aT,(IntKind.i64.wrap (U+1)),bu) h (hR [])
   replace h:=h yq
   unfold Fv at h
   refine iY 5 ?_
   refine cy [] 21 ?_
   obtain⟨OD,h⟩:=h
   refine l7 4 (some 170) [(169,.ptr 2 0 (0+U.toNat) 1),(168,.ptr 2 0 (0+U.toNat) 0),(167,.ptr 2 0 (0+U.toNat) 0)] (bp 3 bu aT) U 3 1 0 (ax (nth bu U).ab) (e0 OD.1 OD.2) ?_
   obtain⟨BA,h⟩:=h
   refine mD 4 none [(173,.ptr 2 0 (0+U.toNat) 1),(172,.ptr 2 0 (0+U.toNat) 0),(171,ax (IntKind.i64.wrap ((nth bu U).ab+1)))] (bp 3 bu aT) U 1 1 0 [ax (IntKind.i64.wrap ((nth bu U).ab+1))] 2 (bp 3 (bu.set U.toNat (ac.mk (nth bu U).az (IntKind.i64.wrap ((nth bu U).ab+1)) (nth bu U).aa (nth bu U).ar (nth bu U).au)) aT) (e0 BA.1 BA.2) (m4 BA.1 BA.2) ?_
   refine gH [] ?_
   refine ej.normal ?_
   exact fi.again (bu.set U.toNat (ac.mk (nth bu U).az (IntKind.i64.wrap ((nth bu U).ab+1)) (nth bu U).aa (nth bu U).ar (nth bu U).au)) h (o1 (s':=⟨(bI 188 [(2,bc 2 0),(3,bc 3 0),(4,bc 4 0),(5,ax U),(6,.ptr 2 0 (0+U.toNat) 0),(7,bG ct (nth a0.O U).ad),(13,ax ((ak J).O.length:Int)),(14,ax U)]),[(4,[aA false,bw,bw,bw]),(3,[aA (ak J).ok,aD 0 0 (ak J).aC.length,aD 1 0 (ak J).aq.length,aD 2 0 bu.length]),(2,(bW false a0))],(⟨0,1,List.map a7 (ak J).aC⟩::⟨0,2,List.map bH (ak J).aq⟩::⟨0,5,bp 3 (bu.set U.toNat (ac.mk (nth bu U).az (IntKind.i64.wrap ((nth bu U).ab+1)) (nth bu U).aa (nth bu U).ar (nth bu U).au)) aT⟩::List.map bR cm)⟩) (hR (n:=188) (A':=[(2,bc 2 0),(3,bc 3 0),(4,bc 4 0),(5,ax U),(6,.ptr 2 0 (0+U.toNat) 0),(7,bG ct (nth a0.O U).ad),(13,ax ((ak J).O.length:Int)),(14,ax U)]) (L':=[(4,[aA false,bw,bw,bw]),(3,[aA (ak J).ok,aD 0 0 (ak J).aC.length,aD 1 0 (ak J).aq.length,aD 2 0 bu.length]),(2,(bW false a0))]) []) (congrArg (fun z=>(⟨(bI 188 [(2,bc 2 0),(3,bc 3 0),(4,bc 4 0),(5,ax U),(6,.ptr 2 0 (0+U.toNat) 0),(7,bG ct (nth a0.O U).ad),(13,ax ((ak J).O.length:Int)),(14,ax U)]),[(4,[aA false,bw,bw,bw]),(3,[aA (ak J).ok,aD 0 0 (ak J).aC.length,aD 1 0 (ak J).aq.length,aD 2 0 z]),(2,(bW false a0))],(⟨0,1,List.map a7 (ak J).aC⟩::⟨0,2,List.map bH (ak J).aq⟩::⟨0,5,bp 3 (bu.set U.toNat (ac.mk (nth bu U).az (IntKind.i64.wrap ((nth bu U).ab+1)) (nth bu U).aa (nth bu U).ar (nth bu U).au)) aT⟩::List.map bR cm)⟩:St)) (show bu.length=(bu.set U.toNat (ac.mk (nth bu U).az (IntKind.i64.wrap ((nth bu U).ab+1)) (nth bu U).aa (nth bu U).ar (nth bu U).au)).length by simp[rH,AB])))
 replace h:=h tE
 unfold Fz at h
 obtain⟨aa9,h⟩:=h
 obtain⟨ua,GD⟩: ∃w:List (List Bool),(bif (nth (cm.getD (nth aT U) []) dp) then(cm.set (nth aT U) ((cm.getD (nth aT U) []).set dp.toNat true)) else(cm.set (nth aT U) ((cm.getD (nth aT U) []).set dp.toNat (nth (ak J).aC (nth (nth a0.O U).ad dp)))))=w:=⟨_,rfl⟩
 refine h7 [] [10] id (fun _=>(⟨0,1,List.map a7 (ak J).aC⟩::⟨0,2,List.map bH (ak J).aq⟩::⟨0,5,bp 3 du aT⟩::List.map bR ua)) (True) ?_ (fun afn=> ?_)
 ·
  replace h:=aa9
  refine iY 3 ?_
  refine iZ [] 17 [(8,ax dp),(86,ax dp)] [1] [10] ?_
  unfold Fy at h
  refine sc [] 18 XB XC [] ?_
  obtain⟨Oy,h⟩:=h
  refine ns 4 (some 90) [(89,.ptr 2 0 (0+U.toNat) 2),(88,.ptr 2 0 (0+U.toNat) 0),(87,.ptr 2 0 (0+U.toNat) 0)] (bp 3 du aT) U 27 2 0 (aD ((nth aT U)+3) 0 (nth du U).aa.length) (e0 Oy.1 Oy.2) ?_
  obtain⟨Ox,h⟩:=h
  refine ns 5 (some 95) [(94,.ptr 2 0 (0+U.toNat) 2),(93,.ptr 2 0 (0+U.toNat) 0),(92,.ptr 2 0 (0+U.toNat) 0),(91,ax dp)] (bp 3 du aT) U 27 2 0 (aD ((nth aT U)+3) 0 (nth du U).aa.length) (e0 Ox.1 Ox.2) ?_
  obtain⟨⟨abr,aeQ⟩,h⟩:=h
  refine tX 2 (some 97) [(96,ax dp)] cm (nth aT U) 3 abr aeQ ?_
  obtain⟨Ow,h⟩:=h
  refine yT 1 (some 98) [] cm (nth aT U) dp 4 Ow.1 Ow.2 ?_
  refine pS 1 99 (nth (cm.getD (nth aT U) []) dp) [] (fun yv=> ?_) (fun yv=> ?_)
  ·
   replace h:=h.1 yv
   obtain⟨⟨abt,H_⟩,h⟩:=h
   refine tX 10 (some 109) [(108,aA true),(107,t0),(106,t0),(105,t0),(104,t0),(103,t0),(102,t0),(101,t0),(100,t0)] cm (nth aT U) 3 abt H_ ?_
   have Ou:=h
   refine QJ 1 none [] cm (nth aT U) dp true (fun _=>True) (fun r=>(⟨0,1,List.map a7 (ak J).aC⟩::⟨0,2,List.map bH (ak J).aq⟩::⟨0,5,bp 3 du aT⟩::r)) Ou.1 Ou.2 trivial ?_
   refine QH [] ?_
   refine ej.normal ?_
   exact di.normal trivial (by simp only[←GD,cO,gR,kl,tE,yv,cond_true,cond_false];exact gi)
  ·
   replace h:=h.2 yv
   obtain⟨aa8,h⟩:=h
   refine yR 5 (some 104) [(103,ax dp),(102,bG ct (nth a0.O U).ad),(101,aD 0 0 (ak J).aC.length),(100,bc 3 1)] ct (nth a0.O U).ad 1 aa8 ?_
   obtain⟨Q_,h⟩:=h
   refine yQ 2 (some 106) [(105,ax (nth (nth a0.O U).ad dp))] 0 0 1 Q_ ?_
   refine yS 1 (some 107) [] a7 (ak J).aC (nth (nth a0.O U).ad dp) 4 0 0 (aA (nth (ak J).aC (nth (nth a0.O U).ad dp))) (by simpa using Q_.2) ?_
   obtain⟨⟨aa7,H_⟩,h⟩:=h
   refine tX 2 (some 109) [(108,aA (nth (ak J).aC (nth (nth a0.O U).ad dp)))] cm (nth aT U) 3 aa7 H_ ?_
   have Ov:=h
   refine QJ 1 none [] cm (nth aT U) dp (nth (ak J).aC (nth (nth a0.O U).ad dp)) (fun _=>True) (fun r=>(⟨0,1,List.map a7 (ak J).aC⟩::⟨0,2,List.map bH (ak J).aq⟩::⟨0,5,bp 3 du aT⟩::r)) Ov.1 Ov.2 trivial ?_
   refine QH [] ?_
   refine ej.normal ?_
   exact di.normal trivial (by simp only[←GD,cO,gR,kl,tE,yv,cond_true,cond_false];exact gi)
 replace h:=h ua GD
 refine cy [] 19 ?_
 refine gH [(84,ax (IntKind.i64.wrap (dp+1))),(110,ax (IntKind.i64.wrap (dp+1)))] ?_
 exact fi.again (ua,(IntKind.i64.wrap (dp+1))) h (hR [])
theorem Xy (a0:aK) (J:Frame) (ai:yH a0 J):bg Tryz.prog 95 [.agg (bW false a0),.agg (b9 false J)] (.agg (b9 true (mE a0 J))):=XH a0 J (mE a0 J) (G3 a0 J) (fun _ _ v _=>cK J.O.length v) (fun _ is v _ _ t_ bs k=>cv (cQ a0 v).length (fun _=>false) k∧dc (dn a0 J v).O is v {fZ a0 J v with aa:=jl (cQ a0 v) (dn a0 J v) (fZ a0 J v).aa k.toNat} t_ bs) (fun _ _ v _ _ _ _ k=>cK (cQ a0 v).length k) (fun _ is v _ _ _ bs _ ws=> ∃g,uW (cQ a0 v) (dn a0 J v) (o7 a0 J v) (fZ a0 J v).ab g∧dc (dn a0 J v).O is v {fZ a0 J v with aa:=o7 a0 J v,ab:=g} ws bs) (fun _ _ v _ _ _ _ _ ws=>(((cQ a0 v).length:Int) - (nth ws v).ab).toNat) (by
 obtain⟨eN,eo⟩:=ai
 have Wq:=eo.O
 have ve:=eN.O
 have Ky:=eo.aC
 have Kz:=eo.aq
 have V9:=eN.cQ
 have EP:=eN.be
 have gz: ∀h∈J.O,h.aa.length≤30:=fun h bD=>by
  obtain⟨i,hi,rfl⟩:=List.mem_iff_getElem.1 bD
  have h1:i<a0.O.length:=by omega
  rw[eo.aa i _ _ (List.getElem?_eq_getElem hi) (List.getElem?_eq_getElem h1)]
  exact(eN.ad _ (List.getElem_mem h1)).2.1
 have Wf:nr J:=⟨by omega,by omega,by omega,fun h bD=>by have:=gz h bD;omega⟩
 unfold Fk
 obtain⟨cZ,dg,fK⟩:=JF J.O
 refine⟨Wf,⟨dt (df _),cZ,dg,fK,fun b hb=> ?_⟩,fun bs is v ws a_=> ?_⟩
 ·obtain⟨h,bD,rfl⟩:=List.mem_map.1 hb
  have:=gz h bD;omega
 have xi:=a_
 obtain⟨fS,fj,h_,qD,hlen⟩:=xi
 have ao:(J.O.length:Int)≤4611686018427387904:=by omega
 obtain⟨s1,s2,k6⟩:=BR a0 J v.toNat
 have Ws:ws.length=J.O.length:=by rw[←jJ fj,qD,tO]
 unfold Fp
 refine⟨fun hv=> ?_,fun hv=> ?_⟩
 ·have qC: ¬v<(J.O.length:Int):=by
   have hv:decide (v<(J.O.length:Int))=false:=hv
   simpa using hv
  have h1:=fS.2.1
  have aI:=fS.1
  have:v.toNat=J.O.length:=by omega
  rw[this] at s1 s2 k6 qD
  exact⟨s1.symm,⟨by show J.aC.length≤_;omega,s2.symm⟩,⟨by show J.aq.length≤_;omega,k6.symm⟩,fj,by omega,fun b hb=>by have:=hlen b hb;omega,qD⟩
 have dx:=cG fS hv
 have aI:=dx.1
 have aX:v.toNat<ws.length:=by omega
 have kC:v.toNat<a0.O.length:=by omega
 have qi:=BQ eo v.toNat
 have lh:(dn a0 J v).O.length=J.O.length:=tO _ _ _
 have hs:(cQ a0 v)≠[]∧(cQ a0 v).length≤30∧ ∀x∈cQ a0 v,0≤x∧x<a0.ad:=eN.ad _ (eR kC)
 have k2:(dn a0 J v).O[v.toNat]?=some (nth (dn a0 J v).O v):=gZ (by omega)
 have sQ:(nth (dn a0 J v).O v).aa.length=(cQ a0 v).length:=qi.aa _ _ _ k2 (gZ kC)
 have sY:=qi.ab _ (List.mem_of_getElem? k2)
 have vh:0<(cQ a0 v).length:=List.length_pos_iff.2 hs.1
 have qy: ∀k:Int,0≤k→k.toNat<(cQ a0 v).length→0≤nth (cQ a0 v) k∧(nth (cQ a0 v) k).toNat<J.aC.length:=fun k bf dA=>by
  have:=hs.2.2 _ (eR dA);omega
 have cL:dc (dn a0 J v).O is v (nth (dn a0 J v).O v) ws bs:=dc.start fj h_ aX qD hlen
 have fg:=QC (p:=a0) (f:=J) aI
 refine⟨⟨aI,aX⟩,⟨aI,kC⟩,⟨cL.hV,fun aH=> ?_⟩,fun aH=> ?_⟩
 ·rw[cL.az] at aH
  exact tN ao fS hv cL (by rw[fg,if_pos (by simpa using aH)])
 have aH: ¬(nth (dn a0 J v).O v).az=0:=by rw[cL.az] at aH;simpa using aH
 rw[if_neg aH] at fg
 unfold Fo
 refine⟨⟨⟨cL.hV,fun _=>⟨⟨Int.le_refl _,vh⟩,qy 0 (Int.le_refl _) vh⟩⟩,fun _=>⟨cL.hV,(cL.setState 4).hV⟩⟩,fun fs EX=> ?_⟩
 have cI:dc (dn a0 J v).O is v (hy a0 J v) fs bs:=by
  rw[←EX,cL.az]
  unfold hy
  simp only
  have hc:((nth (dn a0 J v).O v).az≠4∧fm (dn a0 J v) (nth (cQ a0 v) 0)=true)↔((((nth (dn a0 J v).O v).az !=4)&&(nth (ak J).aC (nth (nth a0.O v).ad 0)))=true):=by
   rw[Bool.and_eq_true,bne_iff_ne]
   unfold fm
   rw[show(dn a0 J v).aC=J.aC from s2];rfl
  by_cases hb:((nth (dn a0 J v).O v).az≠4∧fm (dn a0 J v) (nth (cQ a0 v) 0)=true)
  ·rw[if_pos hb,hc.1 hb]
   exact(cL.setState 4).Pa 0
  ·rw[if_neg hb,Bool.eq_false_iff.2 (fun h=>hb (hc.2 h))]
   exact cL
 unfold Fm
 have xJ:vN a0 ({ok:=(ak J).ok,aC:=(ak J).aC,aq:=(ak J).aq,O:=view (fs.set v.toNat ({az:=1,ab:=(nth fs v).ab,aa:=(nth fs v).aa,ar:=(nth fs v).ar,au:=(nth fs v).au}:ac)) is bs}:Frame) v:=by
  have kN:=cI.setState 1
  refine⟨eN,⟨eo.aC,eo.aq,?_,fun i h w aR e2=> ?_,fun h bD=> ?_⟩,aI,by omega⟩
  ·show(view _ is bs).length=_
   rw[jJ kN.ok,List.length_set];have:=cI.sk;omega
  ·replace aR:(view _ is bs)[i]?=some h:=aR
   rw[kN.iy,List.getElem?_set] at aR
   split at aR
   ·rename_i hi;subst hi
    split at aR
    ·cases aR
     have:=gZ kC
     rw[e2] at this
     cases this
     show(hy a0 J v).aa.length=_
     rw[r9.1];exact sQ
    ·cases aR
   ·exact qi.aa i h w aR e2
  ·replace bD:h∈view _ is bs:=bD
   rw[kN.iy] at bD
   rcases List.mem_or_eq_of_mem_set bD with bD | rfl
   ·exact qi.ab h bD
   ·show 0≤(hy a0 J v).ab∧(hy a0 J v).ab≤(hy a0 J v).aa.length
    rw[r9.1,r9.2];exact sY
 have EG:g_ a0 ({ok:=(ak J).ok,aC:=(ak J).aC,aq:=(ak J).aq,O:=view (fs.set v.toNat ({az:=1,ab:=(nth fs v).ab,aa:=(nth fs v).aa,ar:=(nth fs v).ar,au:=(nth fs v).au}:ac)) is bs}:Frame) v=g_ a0 (dn a0 J v) v:=Og s2.symm k6.symm
 refine⟨⟨⟨cI.hV,fun _=>cI.hV⟩,fun _=>⟨cI.hV,?_⟩⟩,fun t_ EY=> ?_⟩
 ·unfold Fs Fq
  have kN:=cI.setState 1
  refine⟨⟨by show J.aC.length≤_;omega,by show J.aq.length≤_;omega,⟨kN.ok,?_,fun b hb=>by have:=hlen b hb;omega⟩,xJ⟩,fun _=>⟨kN.hV,(kN.setState 2).hV⟩⟩
  rw[List.length_set];have:=cI.sk;omega
 have c1:dc (dn a0 J v).O is v (fZ a0 J v) t_ bs:=by
  rw[←EY,EG,cI.az]
  unfold fZ
  simp only
  by_cases hb:(hy a0 J v).az=1∨(hy a0 J v).az=2
  ·rw[if_pos hb,show(((hy a0 J v).az==1) || ((hy a0 J v).az==2))=true by simpa using hb]
   cases af:g_ a0 (dn a0 J v) v with
   | true=>exact((cI.setState 1).setState 2).O_ true
   | false=>exact cI.setState 1
  ·rw[if_neg hb,show(((hy a0 J v).az==1) || ((hy a0 J v).az==2))=false by simpa using hb]
   exact cI
 have s6:(fZ a0 J v).aa.length=(cQ a0 v).length:=by rw[Bp.1];exact sQ
 have KU:(cQ a0 v).length≤1048576:=by omega
 refine⟨⟨c1.hV,fun bx=> ?_⟩,fun bx=> ?_⟩
 ·rw[c1.az] at bx
  exact tN ao fS hv c1 (by rw[fg,if_neg (by simpa using bx)])
 have bx:(fZ a0 J v).az=4:=by rw[c1.az] at bx;simpa using bx
 rw[if_pos bx] at fg
 unfold Fl
 intro _
 refine⟨⟨dt (df _),by rw[Int.toNat_zero,QT];exact c1⟩,fun rm k ff=>⟨fun hk=> ?_,fun hk=> ?_⟩⟩
 ·
  obtain⟨Ah,j_⟩:=ff
  have jb: ¬k<((cQ a0 v).length:Int):=by
   have hk:decide (k<((cQ a0 v).length:Int))=false:=hk
   simpa using hk
  have bf:=Ah.1
  rw[QV s6 (by omega)] at j_
  have u2:(List.zipWith (fun b x=>b || fm (dn a0 J v) x) (fZ a0 J v).aa (cQ a0 v))=o7 a0 J v:=rfl
  rw[u2] at j_
  have Vh:(o7 a0 J v).length=(cQ a0 v).length:=by unfold o7;rw[List.length_zipWith];omega
  have xI:0≤(fZ a0 J v).ab∧(fZ a0 J v).ab≤(cQ a0 v).length:=by rw[Bp.2,←sQ];exact sY
  refine⟨⟨(fZ a0 J v).ab,J6 xI.1 xI.2,j_⟩,fun nu bN=> ?_⟩
  obtain⟨g,rG,ka⟩:=bN
  unfold Fx
  have aR:(nth nu v).ab=g:=ka.ab
  have e2:rm.getD (nth is v) []=o7 a0 J v:=ka.aa
  have dq:(nth nu v).aa.length=(cQ a0 v).length:=ka.o8.trans Vh
  have rB: ∀b,((decide (g<((nth a0.O v).ad.length:Int)))&&((nth (o7 a0 J v) g)&&((!(nth (ak J).aC (nth (nth a0.O v).ad g)))&&((g==(IntKind.i64.wrap (((nth a0.O v).ad.length:Int) - 1))) || (nth (o7 a0 J v) (IntKind.i64.wrap (g+1)))))))=b→mr (cQ a0 v) (dn a0 J v) (o7 a0 J v) g=b:=fun b hb=>by
   unfold mr
   rw[show(dn a0 J v).aC=J.aC from s2];exact hb
  have Ev:=rG
  obtain⟨g0,g1,-⟩:=Ev
  rw[aR,e2]
  have jv:=ka.hV
  have hid:=ka.py
  have bz:IntKind.i64.wrap (((nth a0.O v).ad.length:Int) - 1)=((cQ a0 v).length:Int) - 1:=iU (by show _≤((cQ a0 v).length:Int) - 1;omega) (by show((cQ a0 v).length:Int) - 1≤_;omega)
  refine⟨⟨⟨jv,fun hc=> ?_⟩,?_⟩,fun hc=> ?_⟩
  ·replace hc:decide (g<((cQ a0 v).length:Int))=true:=hc
   have KC:g<((cQ a0 v).length:Int):=by simpa using hc
   refine⟨jv,jv,⟨hid,g0,by omega⟩,⟨hid,by omega⟩,fun _=>⟨jv,⟨g0,by show g.toNat<(cQ a0 v).length;omega⟩,qy g g0 (by omega),fun _=>⟨jv,fun bY=> ?_⟩⟩⟩
   rw[bz] at bY
   have bY: ¬g=((cQ a0 v).length:Int) - 1:=by simpa using bY
   have bM:IntKind.i64.wrap (g+1)=g+1:=iU (by omega) (by omega)
   rw[bM]
   exact⟨jv,jv,⟨hid,by omega,by omega⟩,hid,by omega⟩
  ·unfold Fu Ft
   rw[aR,e2]
   intro hc
   have hL:=D5 KU rG (rB _ hc)
   refine⟨jv,fun he=>⟨⟨eN,aI,by omega⟩,jv,?_⟩,fun he=> ?_⟩
   ·have he:g=((cQ a0 v).length:Int):=by
     have he:(g==((cQ a0 v).length:Int))=true:=he
     simpa using he
    refine tN ao fS hv (h:=dz a0 v) (ka.new (dz a0 v) ?_) ?_
    ·show(List.replicate (cQ a0 v).length false).length≤_
     rw[List.length_replicate];omega
    ·rw[fg]
     unfold mz
     simp only
     rw[if_pos]
     ·rfl
     ·show jt (cQ a0 v) (dn a0 J v) (o7 a0 J v) (cQ a0 v).length (fZ a0 J v).ab.toNat=_
      omega
   ·have he: ¬g=((cQ a0 v).length:Int):=by
     have he:(g==((cQ a0 v).length:Int))=false:=he
     simpa using he
    refine tN ao fS hv ka ?_
    rw[fg]
    unfold mz
    simp only
    have hL:(jt (cQ a0 v) (dn a0 J v) (List.zipWith (fun b x=>b || fm (dn a0 J v) x) (fZ a0 J v).aa (cQ a0 v)) (cQ a0 v).length (fZ a0 J v).ab.toNat:Int)=g:=hL
    rw[if_neg (by omega),hL]
    rfl
  ·obtain⟨a8,KC⟩:=J7 KU rG (rB _ hc)
   unfold Fv
   rw[aR]
   have bM:IntKind.i64.wrap (g+1)=g+1:=iU (by omega) (by omega)
   have wz:=ka.O7 (IntKind.i64.wrap (g+1))
   refine⟨jv,jv,⟨_,a8,wz⟩,?_⟩
   have hI:(nth (nu.set v.toNat ({az:=(nth nu v).az,ab:=IntKind.i64.wrap (g+1),aa:=(nth nu v).aa,ar:=(nth nu v).ar,au:=(nth nu v).au}:ac)) v).ab=IntKind.i64.wrap (g+1):=wz.ab
   show(((cQ a0 v).length:Int) - (nth (nu.set v.toNat _) v).ab).toNat<(((cQ a0 v).length:Int) - (nth nu v).ab).toNat
   rw[hI,aR,bM];omega
 ·
  obtain⟨Ah,j_⟩:=ff
  replace hk:decide (k<((cQ a0 v).length:Int))=true:=hk
  have k3:k<((cQ a0 v).length:Int):=by simpa using hk
  have bf:=Ah.1
  have AI:(jl (cQ a0 v) (dn a0 J v) (fZ a0 J v).aa k.toNat).length=(cQ a0 v).length:=by rw[H2 s6 (by omega),s6]
  have e2:rm.getD (nth is v) []=jl (cQ a0 v) (dn a0 J v) (fZ a0 J v).aa k.toNat:=j_.aa
  have dq:(nth t_ v).aa.length=(cQ a0 v).length:=j_.o8.trans AI
  have jv:=j_.hV
  have hid:=j_.py
  unfold Fz Fy
  rw[e2]
  have bL:(nth is v)<rm.length∧(0≤k∧k.toNat<(nth t_ v).aa.length):=⟨hid,bf,by omega⟩
  have bK:(nth is v)<rm.length∧k.toNat<(jl (cQ a0 v) (dn a0 J v) (fZ a0 J v).aa k.toNat).length:=⟨hid,by omega⟩
  refine⟨⟨jv,jv,bL,bK,fun _=>⟨bL,bK⟩,fun _=>⟨⟨bf,by show k.toNat<(cQ a0 v).length;omega⟩,qy k bf (by omega),bL,bK⟩⟩,fun afB hw=> ?_⟩
  have a8:=dl (by omega) Ah hk rfl
  refine⟨⟨a8.1,?_⟩,a8.2⟩
  rw[mJ (by omega) bf k3,show(k+1).toNat=k.toNat+1 by omega,←QW s6 (by omega),←hw]
  have oq:=QU (s:=cQ a0 v) (f:=dn a0 J v) (b:=(fZ a0 J v).aa) s6 (show k.toNat<_ by omega)
  rw[nR bf] at oq
  have ka:=j_.G1 ((jl (cQ a0 v) (dn a0 J v) (fZ a0 J v).aa k.toNat).set k.toNat ((fZ a0 J v).aa[k.toNat]'(by omega) || fm (dn a0 J v) ((cQ a0 v)[k.toNat]'(by omega)))) (by rw[List.length_set])
  have s5:nth (ak J).aC (nth (nth a0.O v).ad k)=fm (dn a0 J v) ((cQ a0 v)[k.toNat]'(by omega)):=by
   unfold fm
   rw[show(dn a0 J v).aC=J.aC from s2,←hW (by omega)];rfl
  rw[oq,s5]
  cases hb:(fZ a0 J v).aa[k.toNat]'(by omega) with
  | true=>rw[hb,Bool.true_or] at ka;exact ka
  | false=>rw[hb,Bool.false_or] at ka;exact ka)
def XA:cY Tryz.prog:=⟨95,[.eh,.frame],[.frame],some fun x=>yH x.1 x.2.1,fun x=>((mE x.1 x.2.1),()),fun x h=>Xy x.1 x.2.1 h⟩
end Go.Proofs.YtglpfccgmfhkdaaGreat.Fw
