/- The machine, part G: code, loops, functions. -/
import Derived.Test.YtejmihecgodhnaaGreatM3
set_option linter.unusedVariables false
namespace Go.Proofs.YtejmihecgodhnaaGreat.Fw
open Go
theorem J1 {c3:List Nat}: ∀(L:List (Nat×List AV)) (t:Nat),c3.contains t=true→eR (p6 c3 L) t=none
 | [],t,h=>rfl
 | (k,c)::L,t,h=>by
  unfold p6
  split
  ·exact J1 L t h
  ·rename_i hk
   have:t≠k:=fun e=>by subst e;rw[h] at hk;cases hk
   simp only[eR,if_neg this];exact J1 L t h
def Kz:Bool→Bool→Bool
 | _,false=>true
 | a,true=>a
theorem Sp {a b:Bool} (h:Kz a b=true):b=true→a=true:=fun e=>by subst e;exact h
def mG (a b:AV):Prop:=b=a∨b= .undef∨ ∃rows full fr ph,a= .aZ rows full fr∧b= .aZ rows false ph∧(ph=true→fr=true)
theorem mG.Yr {w:World} {PA PF:Nat→Prop} {rows:List (List AV)} {full fr ph:Bool} {v:Value} (ab: ∀c,PF c→PA c) (hf:ph=true→fr=true) (h:aP w PA PF (.aZ rows full fr) v):aP w PA PF (.aZ rows false ph) v:=by
 cases h with
 | aZ fH fw gP cm eH hrel=>
  refine .aZ (fun c hc=> ?_) fw (fun h=>by cases h) cm eH hrel
  have:=fH c hc
  cases ph with
  | true=>rw[hf rfl] at this;exact this
  | false=>
   cases fr with
   | true=>exact ab c this
   | false=>exact this
theorem mG.v1 {E:Env} {a b:AV} {v:Value} (ab: ∀c,E.PF c→E.PA c) (h:mG a b) (hv:b4 E a v):b4 E b v:=by
 rcases h with rfl | rfl | ⟨rows,full,fr,ph,rfl,rfl,hf⟩
 ·exact hv
 ·exact b4.undef _ _
 ·exact mG.Yr ab hf hv
theorem mG.v3 {E:Env} {a b:AV} {v:Value} (ab: ∀c,E.PF c→E.PA c) (h:mG a b) (hv:V3 E a v):V3 E b v:=by
 rcases h with rfl | rfl | ⟨rows,full,fr,ph,rfl,rfl,hf⟩
 ·exact hv
 ·exact V3.undef _ _
 ·exact mG.Yr ab hf hv
theorem mG.of {a b:AV} (h:b=a∨b= .undef):mG a b:=h.imp_right .inl
theorem Weak.amD [cH] {T T':List AV} {L:List (Nat×List AV)} {H:List Blk} (aw:T'.length=T.length) (h: ∀t,mG (T.getD t .undef) (T'.getD t .undef)):Weak ⟨T,L,H⟩ ⟨T',L,H⟩:=fun cr E tmps g s=>
 ⟨E,rfl,g,s.h,s.l,fun t=>(h t).v3 s.h.dU (s.jt t),by show T'.length=_;rw[aw];exact s.size⟩
theorem Weak.cells [cH] {T:List AV} {L L':List (Nat×List AV)} {H:List Blk} (bJ: ∀t cells,eR L t=some cells→ ∃hU,eR L' t=some hU∧hU.length=cells.length∧ ∀(i:Nat) (a:AV),hU[i]?=some a→ ∃b,cells[i]?=some b∧mG b a):Weak ⟨T,L,H⟩ ⟨T,L',H⟩:=fun cr E tmps g s=>
 ⟨E,rfl,g,s.h,fun t c hm=>by
  obtain⟨cells,al,ty,q1,q2,q3⟩:=s.l t c hm
  obtain⟨hU,cP,dd,dV⟩:=bJ t cells q1
  refine⟨hU,al,ty,cP,q2,by rw[dd];exact q3.1,fun i a v ar hv=> ?_⟩
  obtain⟨b,hb,q⟩:=dV i a ar
  exact q.v1 s.h.dU (q3.2 i b v hb hv),s.jt,s.size⟩
theorem aoO [cH] {T T':List AV} {L L':List (Nat×List AV)} {H:List Blk} (aw:T'.length=T.length) (ci: ∀t,mG (T.getD t .undef) (T'.getD t .undef)) (c3:List Nat) (ab:T'.all (q0 c3)=true)
  (bJ: ∀t cells,c3.contains t=false→eR L t=some cells→ ∃hU,eR L' t=some hU∧hU.length=cells.length∧ ∀(i:Nat) (a:AV),hU[i]?=some a→ ∃b,cells[i]?=some b∧mG b a):Weak ⟨T,L,H⟩ ⟨T',L',H⟩:=by
 refine(Weak.amD aw ci).trans ((Weak.p6 c3 ab).trans (Weak.cells fun t cells h=> ?_))
 cases aY:c3.contains t with
 | true=>rw[J1 L t aY] at h;cases h
 | false=>rw[FL L t aY] at h;exact bJ t cells aY h
theorem WA (l:List (Nat×TV)) (k:Nat) (d:TV):(∃v,(k,v)∈l∧h6 l k d=v)∨h6 l k d=d:=by
 induction l with
 | nil=>exact .inr rfl
 | cons p r bz=>
  obtain⟨a,w⟩:=p
  rw[ih]
  by_cases e:a=k
  ·subst e;exact .inl ⟨w,List.mem_cons_self ..,if_pos rfl⟩
  ·rw[if_neg e]
   rcases bz with⟨v,h1,h2⟩ | h
   ·exact .inl ⟨v,List.mem_cons_of_mem _ h1,h2⟩
   ·exact .inr h
theorem JB (s:TS) (v:Nat): ∀(c m:Nat),(iI s v c m).length=m
 | _,0=>rfl
 | c,m+1=>by rw[iI,List.length_cons,JB s v (c+1) m]
theorem FB (s:TS) (v:Nat): ∀(m c i:Nat),(cU (iI s v c m))[i]?=if i<m then some (s.get (kI v (c+i))).bp else none
 | 0,c,i=>by simp[iI,cU]
 | m+1,c,i=>by
  rw[iI,cU]
  cases i with
  | zero=>simp
  | succ i=>
   rw[List.getElem?_cons_succ,FB s v m (c+1) i,show c+1+i=c+(i+1) by omega]
   by_cases h:i<m
   ·rw[if_pos h,if_pos (by omega)]
   ·rw[if_neg h,if_neg (by omega)]
theorem Ip [FZ] (n:Nat) (s:TS):s.ap n=⟨(s.ap n).T,(s.ap n).L,(s.ap n).H⟩:=rfl
theorem aaH [cH] [FZ] {n:Nat} {s S:TS} (dj:kg S=kg s) (ci: ∀t,t<n→mG (s.get t).bp (S.get t).bp) (c3:List Nat) (ab:(S.ap n).T.all (q0 c3)=true)
  (hv: ∀v m,c3.contains v=false→l3 s.vs v=some m→l3 S.vs v=some m∧ ∀c,mG (s.get (kI v c)).bp (S.get (kI v c)).bp)
  (hb:S.be=s.be) (dq: ∀b,b<s.be→(S.get (bI b)).eE=(s.get (bI b)).eE):Weak (s.ap n) (S.ap n):=by
 have ax:(S.ap n).H=(s.ap n).H:=by
  show S.hA++ig S=s.hA++ig s
  have e2:ig S=ig s:=by unfold ig;rw[dj]
  rw[e2]
  congr 1
  apply List.ext_getElem?
  intro b
  rw[si,si,hb]
  by_cases h:b<s.be
  ·rw[if_pos h,if_pos h,dq b h]
  ·rw[if_neg h,if_neg h]
 rw[Ip n s,Ip n S,ax]
 refine aoO (by show((List.range n).map _).length=((List.range n).map _).length;simp) (fun t=> ?_) c3 ab fun t cells aY h=> ?_
 ·rw[EK,EK]
  by_cases h:t<n
  ·rw[if_pos h,if_pos h];exact ci t h
  ·rw[if_neg h,if_neg h];exact .inl rfl
 ·rw[yZ] at h
  cases hm:l3 s.vs t with
  | none=>rw[hm] at h;cases h
  | some m=>
   rw[hm] at h
   cases h
   obtain⟨q1,q2⟩:=hv t m aY hm
   refine⟨cU (iI S t 0 m),by rw[yZ,q1];rfl,?_,fun i a ar=> ?_⟩
   ·show(cU _).length=(cU _).length
    rw[p1,p1,List.length_map,List.length_map,JB,JB]
   ·rw[FB] at ar ⊢
    by_cases hi:i<m
    ·rw[if_pos hi] at ar ⊢
     cases ar
     exact⟨_,rfl,q2 (0+i)⟩
    ·rw[if_neg hi] at ar;cases ar
theorem aj8 (l:List AV):l.all (q0 [])=true:=by
 have aA: ∀a,yn [] a=true:=fun a=>by cases a<;>rfl
 have h1: ∀a,vT [] a=true:=fun a=>by
  unfold vT
  split
  ·exact List.all_eq_true.2 fun x _=>aA x
  ·exact aA _
 have h2: ∀a,vU [] a=true:=fun a=>by
  unfold vU
  split
  ·exact List.all_eq_true.2 fun x _=>h1 x
  ·exact h1 _
 have aD: ∀a,q0 [] a=true:=fun a=>by
  unfold q0
  split
  ·exact List.all_eq_true.2 fun x _=>h2 x
  ·exact h2 _
 exact List.all_eq_true.2 fun x _=>aD x
theorem Fits.le [FZ] {s S:TS} (h:s.hJ S) (f:Fits s):Fits S:=f.congr fun k h1 h2=>(h.get k).resolve_right fun q=>by
 rcases q with q | q
 ·have:=q.1;omega
 ·have:=q.1;omega
theorem aoP [cH] [FZ] {n:Nat} (af:n≤1000000) {s S:TS} (h:s.hJ S):Weak (s.ap n) (S.ap n):=by
 have Q9: ∀k,¬k<1000000→S.get k=s.get k∨(1000010≤k∧QN (s.get k) (S.get k)):=fun k hk=>(h.get k).imp_right fun q=>q.resolve_left fun q=>hk q.1
 have Db: ∀k,¬k<1000000→(S.get k).bp=(s.get k).bp∧(S.get k).eE=(s.get k).eE:=fun k hk=>by
  rcases Q9 k hk with e | ⟨_,g,c,ct,aG,e2,dg⟩
  ·rw[e];exact⟨rfl,rfl⟩
  ·rw[aG,e2]
   refine⟨rfl,?_⟩
   show Blk.mk g ct.length [cU ct]=Blk.mk g c.length [cU c]
   have aw:ct.length=c.length:=by have:=congrArg List.length dg;rwa [p1,p1,List.length_map,List.length_map] at this
   rw[dg,aw]
 have az:S.get dM=s.get dM:=(Q9 dM (by unfold dM;omega)).resolve_right fun q=>by have:=q.1;unfold dM at this;omega
 refine aaH (Hp az) (fun t aY=> ?_) [] (aj8 _) (fun v m _ hm=>⟨by rw[h.vs];exact hm,fun c=> .inl (Db _ (by unfold kI;omega)).1⟩) h.be fun b _=>(Db _ (by unfold bI;omega)).2
 rcases h.get t with e | ⟨_,e⟩ | ⟨e,_⟩
 ·exact .inl (by rw[e])
 ·exact .of e
 ·omega
inductive mF:Type 1 where
 | nil
 | zC (a b:mF)
 | lp (nc:List (Nat×Nat×aR)) (cZ:List Nat) (lB:List (Nat×Nat)) (lQ:List aR) (rd:List Nat) (jU:cL lQ→List (Nat×TV)) (I:cL lQ→Prop) (m:cL lQ→Nat) (b:cL lQ→mF)
def mF.fst:mF→mF
 | .zC a _=>a
 | a=>a
def mF.snd:mF→mF
 | .zC _ b=>b
 | a=>a
def Jd:(lQ:List aR)→(cL lQ→aI)→aI
 | [],F=>F ()
 | e::r,F=> .all e.T fun x=>Jd r fun y=>F (x,y)
theorem QX {R:Exit→TS→Prop}: ∀{lQ:List aR} {F:cL lQ→aI},(Jd lQ F).den R→ ∀v,(F v).den R
 | [],F,h,()=>h
 | e::r,F,h,(x,y)=>QX (h x) y
def N7:(e:aR)→TV→(e.T→aI)→aI
 | .int,v,K=>(match v with
  | .i _ m=>K m
  | _=> .no)
 | .u64,v,K=>(match v with
  | .i _ m=>K m
  | _=> .no)
 | .bool,v,K=>(match v with
  | .b x=>K x.den
  | _=> .no)
 | .str,v,K=>(match v with
  | .s x=>K x
  | _=> .no)
 | .nat,v,K=>(match v with
  | .blk g _ _ _ _=>K g
  | _=> .no)
 | .hV,v,K=>(match v with
  | .dr _ c=>K (aR.mk .hV (rH aR.hV.bV c))
  | _=> .no)
 | .l e,v,K=>(match v with
  | .l bZ xs _ _=>if h:bZ=e then K (ni h xs) else .no
  | .blk _ bZ xs _ _=>if h:bZ=e then K (ni h xs) else .no
  | .nil _ _=>K []
  | _=> .no)
 | _,_,_=> .no
def HP (s:TS):(lQ:List aR)→List Nat→(cL lQ→aI)→aI
 | [],_,K=>K ()
 | e::r,k::G9,K=>N7 e (s.get k) fun x=>HP s r G9 fun y=>K (x,y)
 | _,_,_=> .no
theorem alu {R:Exit→TS→Prop} {e:aR} {v:TV} {K:e.T→aI} (h:(N7 e v K).den R): ∃x,(K x).den R:=by
 cases e with
 | int=>
  have h:(match v with
   | .i _ m=>K m
   | _=>aI.no).den R:=h
  split at h
  ·exact⟨_,h⟩
  ·exact h.elim
 | u64=>
  have h:(match v with
   | .i _ m=>K m
   | _=>aI.no).den R:=h
  split at h
  ·exact⟨_,h⟩
  ·exact h.elim
 | bool=>
  have h:(match v with
   | .b x=>K x.den
   | _=>aI.no).den R:=h
  split at h
  ·exact⟨_,h⟩
  ·exact h.elim
 | str=>
  have h:(match v with
   | .s x=>K x
   | _=>aI.no).den R:=h
  split at h
  ·exact⟨_,h⟩
  ·exact h.elim
 | nat=>
  have h:(match v with
   | .blk g _ _ _ _=>K g
   | _=>aI.no).den R:=h
  split at h
  ·exact⟨_,h⟩
  ·exact h.elim
 | hV=>
  have h:(match v with
   | .dr _ c=>K (aR.mk .hV (rH aR.hV.bV c))
   | _=>aI.no).den R:=h
  split at h
  ·exact⟨_,h⟩
  ·exact h.elim
 | l e=>
  have h:(match v with
   | .l bZ xs _ _=>if h:bZ=e then K (ni h xs) else aI.no
   | .blk _ bZ xs _ _=>if h:bZ=e then K (ni h xs) else aI.no
   | .nil _ _=>K []
   | _=>aI.no).den R:=h
  split at h
  ·split at h
   ·exact⟨_,h⟩
   ·exact h.elim
  ·split at h
   ·exact⟨_,h⟩
   ·exact h.elim
  ·exact⟨_,h⟩
  ·exact h.elim
 | _=>exact h.elim
theorem N8 {R:Exit→TS→Prop} {s:TS}: ∀{lQ:List aR} {G9:List Nat} {K:cL lQ→aI},(HP s lQ G9 K).den R→ ∃v,(K v).den R
 | [],_,K,h=>⟨(),h⟩
 | e::r,k::G9,K,h=>by
  obtain⟨x,h⟩:=alu (show(N7 e (s.get k) _).den R from h)
  obtain⟨y,h⟩:=N8 h
  exact⟨(x,y),h⟩
 | e::r,[],K,h=>h.elim
def JI (s:TS) (k:Nat) (w:TV) (t:aI):aI:=match w with
 | .ref b g m f=>(match s.get k with
  | .ref bU dD fK F3=>(match s.get (bI b) with
   | .blk _ _ xs WN _=> .eq bU b (.eq F3 f (.eq dD g (.eq fK WN (.eq m xs.length t))))
   | _=> .no)
  | _=> .no)
 | .blk g e xs _ _=>(match s.get k with
  | .blk dD bZ y_ _ _=>if h:bZ=e then .eq dD g (.eq (ni h y_) xs t) else .no
  | _=> .no)
 | .b y=>(match s.get k with
  | .b x=> .eq x.den y.den t
  | _=> .no)
 | .dr g c=>(match s.get k with
  | .dr dD ct=> .eq dD g (.eq (cU ct) (cU c) (.eq ct.length c.length t))
  | _=> .no)
 | .l e xs dP fr=>(match dP with
  | true=> .eq (s.get k) (.l e xs true fr) t
  | false=>match s.get k with
   | .l bZ y_ _ ph=>if h:bZ=e then .eq (Kz ph fr) true (.eq (ni h y_) xs t) else .no
   | .nil _ ph=> .eq (Kz ph fr) true (.eq [] xs t)
   | _=> .no)
 | w=> .eq (s.get k) w t
def G6:TV→Bool
 | .blk _ _ _ _ _=>true
 | .dr _ _=>true
 | .lK _ _ _=>true
 | _=>false
def M1:TV→Bool
 | .hW _ _ _ _=>true
 | .new _ _=>true
 | _=>false
theorem acI [FZ] {R:Exit→TS→Prop} {s:TS} {k:Nat} {w:TV} {t:aI} (h:(JI s k w t).den R):(mG (s.get k).bp w.bp∧(G6 w=true→w.eE=(s.get k).eE)∧(M1 w=true→s.get k=w))∧t.den R:=by
 unfold JI at h
 split at h
 ·split at h
  ·rename_i bU dD fK F3 hk
   split at h
   ·rename_i g0 cx xs WN aw hb
    obtain⟨h1,h2,aD,bj,cl,cC⟩:=h
    subst h1;subst h2;subst aD;subst bj;subst cl
    refine⟨⟨.inl ?_,(fun q=>by cases q),fun q=>by cases q⟩,cC⟩
    rw[hk,aw]
   ·exact h.elim
  ·exact h.elim
 ·split at h
  ·rename_i dD bZ y_ fK Gt hk
   split at h
   ·rename_i he
    subst he
    obtain⟨h1,h2,aD⟩:=h
    subst h1
    have h2:y_=_:=h2
    subst h2
    refine⟨⟨.inl ?_,fun _=> ?_,fun q=>by cases q⟩,aD⟩<;>rw[hk]<;>rfl
   ·exact h.elim
  ·exact h.elim
 ·split at h
  ·rename_i y _ x hk
   obtain⟨h1,h2⟩:=h
   refine⟨⟨.inl ?_,(fun q=>by cases q),fun q=>by cases q⟩,h2⟩
   rw[hk];show AV.bool y.den= .bool x.den;rw[h1]
  ·exact h.elim
 ·split at h
  ·rename_i dD ct hk
   obtain⟨h1,h2,aD,bj⟩:=h
   refine⟨⟨.inl (by rw[hk];rfl),fun _=> ?_,fun q=>by cases q⟩,bj⟩
   rw[hk]
   show(⟨_,_,_⟩:Blk)=⟨_,_,_⟩
   rw[h1,h2,aD]
  ·exact h.elim
 ·split at h
  ·obtain⟨h1,h2⟩:=h
   exact⟨⟨.inl (by rw[h1]),(fun _=>by rw[h1]),fun _=>h1⟩,h2⟩
  ·split at h
   ·rename_i bZ y_ aep ph hk
    split at h
    ·rename_i he
     subst he
     obtain⟨h1,h2,aD⟩:=h
     have h2:y_=_:=h2
     subst h2
     exact⟨⟨.inr (.inr ⟨_,_,_,_,by rw[hk];rfl,rfl,Sp h1⟩),(fun q=>by cases q),fun q=>by cases q⟩,aD⟩
    ·exact h.elim
   ·rename_i aep ph hk
    obtain⟨h1,h2,aD⟩:=h
    subst h2
    exact⟨⟨.inr (.inr ⟨[],_,_,_,by rw[hk];rfl,rfl,Sp h1⟩),(fun q=>by cases q),fun q=>by cases q⟩,aD⟩
   ·exact h.elim
 ·obtain⟨h1,h2⟩:=h
  exact⟨⟨.inl (by rw[h1]),(fun _=>by rw[h1]),fun _=>h1⟩,h2⟩
def JJ (s:TS):List (Nat×TV)→aI→aI
 | [],t=>t
 | (k,w)::r,t=>JI s k w (JJ s r t)
theorem Rx [FZ] {R:Exit→TS→Prop} {s:TS} {t:aI}: ∀{l:List (Nat×TV)},(JJ s l t).den R→(∀k w,(k,w)∈l→mG (s.get k).bp w.bp∧(G6 w=true→w.eE=(s.get k).eE)∧(M1 w=true→s.get k=w))∧t.den R
 | [],h=>⟨(fun k w h=>by cases h),h⟩
 | (k,w)::r,h=>by
  obtain⟨h1,h2⟩:=acI h
  obtain⟨aD,bj⟩:=Rx h2
  refine⟨fun kH w' hm=> ?_,bj⟩
  rcases List.mem_cons.1 hm with e | hm
  ·cases e;exact h1
  ·exact aD kH w' hm
def Ir (vs:List (Nat×Nat)):List (Nat×Nat)→Bool
 | []=>true
 | (v,m)::r=>(match l3 vs v with
  | some fK=>Nat.beq m fK
  | none=>false)&&Ir vs r
def Ff (s:TS):Nat→Bool
 | 0=>true
 | b+1=>G6 (s.get (bI b))&&Ff s b
def zI (lB:List (Nat×Nat)):List (Nat×Nat)→List Nat
 | []=>[]
 | (v,_)::r=>match(l3 lB v).isSome with
  | true=>zI lB r
  | false=>v::zI lB r
def K3 (s S:TS) (t:aI):aI:=
 .eq (Ir s.vs S.vs) true (.eq (Nat.beq S.be s.be) true (.eq (Ff S s.be) true (.eq (S.T.all fun p=>q0 (zI S.vs s.vs) p.2.bp) true (.eq (kg S) (kg s) (JJ s S.T t)))))
theorem Np: ∀{l:List (Nat×Nat)} {v m:Nat},l3 l v=some m→(v,m)∈l
 | [],_,_,h=>by cases h
 | (k,fK)::r,v,m,h=>by
  unfold l3 at h
  split at h
  ·rename_i hk;cases h;rw[Nat.eq_of_beq_eq_true hk];exact List.mem_cons_self ..
  ·exact List.mem_cons_of_mem _ (Np h)
theorem J2 {lB:List (Nat×Nat)}: ∀{l:List (Nat×Nat)} {v m:Nat},(zI lB l).contains v=false→(v,m)∈l→(l3 lB v).isSome=true
 | [],_,_,_,h=>by cases h
 | (k,fK)::r,v,m,aW,h=>by
  unfold zI at aW
  split at aW
  ·rename_i hk
   rcases List.mem_cons.1 h with e | h
   ·cases e;exact hk
   ·exact J2 aW h
  ·rename_i hk
   simp only[List.contains_cons,Bool.or_eq_false_iff] at aW
   rcases List.mem_cons.1 h with e | h
   ·cases e;simp at aW
   ·exact J2 aW.2 h
theorem aak {vs:List (Nat×Nat)}: ∀{l:List (Nat×Nat)},Ir vs l=true→ ∀v m,(v,m)∈l→l3 vs v=some m
 | [],_,_,_,h=>by cases h
 | (k,fK)::r,hs,v,m,h=>by
  simp only[Ir,Bool.and_eq_true] at hs
  rcases List.mem_cons.1 h with e | h
  ·cases e
   have h1:=hs.1
   split at h1
   ·rename_i bx hm;rw[hm,Nat.eq_of_beq_eq_true h1]
   ·cases h1
  ·exact aak hs.2 v m h
theorem QW {s:TS}: ∀{n:Nat},Ff s n=true→ ∀b,b<n→G6 (s.get (bI b))=true
 | 0,_,b,h=>by omega
 | n+1,hs,b,h=>by
  simp only[Ff,Bool.and_eq_true] at hs
  rcases Nat.lt_or_ge b n with q | q
  ·exact QW hs.2 b q
  ·have:b=n:=by omega
   subst this;exact hs.1
theorem S0 [cH] [FZ] {n:Nat} {s S:TS} {t:aI} {R:Exit→TS→Prop} (dq:S.B=[]) (az:Fits s) (h:(K3 s S t).den R):Weak (s.ap n) (S.ap n)∧Fits S∧t.den R:=by
 obtain⟨h1,h2,aD,bj,dj,cl⟩:=h
 obtain⟨cC,hM⟩:=Rx cl
 have Ah:=Nat.eq_of_beq_eq_true h2
 have h5: ∀k,(∃v,(k,v)∈S.T∧S.get k=v)∨S.get k= .u:=fun k=>by
  unfold TS.get;rw[dq];exact WA ..
 have SV: ∀k,mG (s.get k).bp (S.get k).bp:=fun k=>by
  rcases h5 k with⟨v,hm,e⟩ | e
  ·rw[e];exact(cC k v hm).1
  ·rw[e];exact .inr (.inl rfl)
 have Ao: ∀k,M1 (S.get k)=true→s.get k=S.get k:=fun k hk=>by
  rcases h5 k with⟨v,hm,e⟩ | e
  ·rw[e] at hk ⊢;exact(cC k v hm).2.2 hk
  ·rw[e] at hk;cases hk
 have aeW:Fits S:=fun V ids kJ h' nS=>by
  have e:=Ao dM (by rw[nS];rfl)
  obtain⟨q1,q2,q3⟩:=az V ids kJ h' (by rw[e,nS])
  exact⟨q1,q2,fun id xs jW=>q3 id xs (by rw[Ao gQ (by rw[jW];rfl),jW])⟩
 refine⟨aaH dj (fun t _=>SV t) (zI S.vs s.vs) ?_ (fun v m aW hm=> ?_) Ah (fun b hb=> ?_),aeW,hM⟩
 ·rw[List.all_eq_true]
  intro a ar
  obtain⟨k,_,rfl⟩:=List.mem_map.1 (show a∈(List.range n).map fun t=>(S.get t).bp from ar)
  rcases h5 k with⟨v,hm,e⟩ | e
  ·rw[e];exact List.all_eq_true.1 bj (k,v) hm
  ·rw[e];rfl
 ·have hs:=J2 aW (Np hm)
  cases U:l3 S.vs v with
  | none=>rw[U] at hs;cases hs
  | some fK=>
   have:=aak h1 v fK (Np U)
   rw[hm] at this
   cases this
   exact⟨rfl,fun c=>SV _⟩
 ·have hi:=QW aD b hb
  rcases h5 (bI b) with⟨v,hm,e⟩ | e
  ·rw[e] at hi ⊢;exact(cC _ v hm).2.1 hi
  ·rw[e] at hi;cases hi
def F1 (s:TS):Nat→Nat→List (Nat×TV)
 | _,0=>[]
 | b,k+1=>(bI b,s.get (bI b))::F1 s (b+1) k
def ot (s S:TS):TS:=⟨S.T++F1 s S.be (s.be - S.be),[],S.vs,s.be⟩
def X2 (n:Nat):TV→Bool
 | .dr _ c=>(cU c).all (sc n)
 | .lK _ _ _=>false
 | _=>true
def RE (k3:Option Nat) (S:TS) (m:Nat):Bool:=match k3 with
 | some k=>Nat.ble k S.be&&Nat.ble S.be m&&kg S&&S.T.all fun p=>Bl S.be p.2.bp&&X2 S.be p.2
 | none=>false
def toHead (k3:Option Nat) (s S:TS) (t:aI):aI:=match Nat.beq S.be s.be with
 | true=>K3 s S t
 | false=>K3 s (ot s S) (.eq (ot s S).cj S.cj (.eq (RE k3 S s.be) true t))
theorem R7 (s:TS): ∀(k b:Nat) (j:Nat),(j<bI b)→ ∀v,(j,v) ∉ F1 s b k
 | 0,b,j,h,v,hm=>by cases hm
 | k+1,b,j,h,v,hm=>by
  rcases List.mem_cons.1 hm with e | hm
  ·cases e;exact absurd h (Nat.lt_irrefl _)
  ·exact R7 s k (b+1) j (by unfold bI at h ⊢;omega) v hm
theorem aoR {s S:TS} (dq:S.B=[]) {j:Nat} (h:j<bI S.be):(ot s S).get j=S.get j:=by
 show h6 (S.T++F1 s S.be (s.be - S.be)) j (h6 [] j .u)=h6 S.T j (h6 S.B j .u)
 rw[ym,dq,vS (R7 s _ _ j h)]
theorem adl {n:Nat} (fr:Bool) (e:aR) (x:e.T):(cy fr e x).all (sc n)=true:=by cases e<;>rfl
theorem alG {n:Nat} {a:AV} (h:Bl n a=true):sc n a=true:=by cases a<;>first | exact h | rfl
theorem toHead_sound [jR:cH] [FZ] {n:Nat} (af:n≤1000000) {k3:Option Nat} (gX: ∀k,k3=some k→jR.n≤k) {s S:TS} {t:aI} {R:Exit→TS→Prop} (dq:S.B=[]) (az:Fits s) (h:(toHead k3 s S t).den R):Weak (s.ap n) (S.ap n)∧Fits S∧t.den R:=by
 unfold toHead at h
 split at h
 ·exact S0 dq az h
 ·obtain⟨w,hf,gO,h1,h2⟩:=S0 (n:=n) (S:=ot s S) rfl az h
  unfold RE at h1
  split at h1
  ·rename_i k
   simp only[Bool.and_eq_true] at h1
   obtain⟨⟨⟨q1,q2⟩,q3⟩,q4⟩:=h1
   have q1:=Nat.le_of_ble_eq_true q1
   have q2:=Nat.le_of_ble_eq_true q2
   have aE: ∀j,j<bI S.be→(ot s S).get j=S.get j:=fun j h=>aoR dq h
   have Gr: ∀b,b<S.be→bI b<bI S.be:=fun b h=>by unfold bI;omega
   have agC:dM<bI S.be:=by unfold dM bI;omega
   have afO:kg (ot s S)=true:=by rw[Hp (aE dM agC)];exact q3
   have eT:(ot s S).tT n=S.tT n:=List.map_congr_left fun t aY=>by rw[aE t (by have:=List.mem_range.1 aY;unfold bI;omega)]
   have h5: ∀k,(∃v,(k,v)∈S.T∧S.get k=v)∨S.get k= .u:=fun k=>by
    unfold TS.get;rw[dq];exact WA ..
   have Lt: ∀k,Bl S.be (S.get k).bp=true∧X2 S.be (S.get k)=true:=fun k=>by
    rcases h5 k with⟨v,hm,e⟩ | e
    ·have:=List.all_eq_true.1 q4 _ hm
     rw[Bool.and_eq_true] at this
     rw[e];exact this
    ·rw[e];exact⟨rfl,rfl⟩
   have ax: ∀b,((ot s S).ap n).H[b]?=if b<s.be then some ((ot s S).get (bI b)).eE else none:=fun b=>by
    show((ot s S).hA++ig (ot s S))[b]?=_
    have:ig (ot s S)=[]:=by unfold ig;rw[afO]
    rw[this,List.append_nil,si];rfl
   have RH:=Weak.cut (T:=S.tT n) (L:=S.cj) (H:=((ot s S).ap n).H) S.be (Nat.le_trans (gX k rfl) q1) (fun t=> ?_) (fun t cells hc=> ?_) (fun b blk hb Db row aj=> ?_)
   ·have aG:(ot s S).ap n=⟨S.tT n,S.cj,((ot s S).ap n).H⟩:=by rw[←eT,←gO];rfl
    have e2:(⟨S.tT n,S.cj,((ot s S).ap n).H.take S.be⟩:St)=S.ap n:=by
     show _=(⟨S.tT n,S.cj,S.hA++ig S⟩:St)
     have:ig S=[]:=by unfold ig;rw[q3]
     rw[this,List.append_nil]
     congr 1
     apply List.ext_getElem?
     intro b
     rw[List.getElem?_take,ax,si]
     by_cases hb:b<S.be
     ·rw[if_pos hb,if_pos (by omega),if_pos hb,aE _ (Gr b hb)]
     ·rw[if_neg hb,if_neg hb]
    rw[aG] at w
    rw[e2] at RH
    exact⟨w.trans RH,hf.congr fun k h1 h2=>(aE k (by unfold bI;omega)).symm,h2⟩
   ·have:=EK (n:=n) (s:=S) t
    have this:(S.tT n).getD t .undef=_:=this
    rw[this]
    split
    ·exact(Lt t).1
    ·rfl
   ·have:=yZ (n:=n) (s:=S) t
    have this:eR S.cj t=_:=this
    rw[this] at hc
    cases hm:l3 S.vs t with
    | none=>rw[hm] at hc;cases hc
    | some m=>
     rw[hm] at hc
     cases hc
     rw[List.all_eq_true]
     intro a ar
     obtain⟨i,hi⟩:=List.mem_iff_getElem?.1 ar
     rw[FB] at hi
     split at hi
     ·cases hi;exact alG (Lt _).1
     ·cases hi
   ·rw[ax,if_pos (by omega),aE _ (Gr b hb)] at Db
    cases Db
    have U:=(Lt (bI b)).2
    revert aj U
    cases S.get (bI b) with
    | blk g e xs m h=>
     intro aj _
     obtain⟨x,_,rfl⟩:=List.mem_map.1 (show row∈xs.map (cy true e) from aj)
     exact adl true e x
    | dr g c=>
     intro aj U
     rw[List.mem_singleton.1 (show row∈[cU c] from aj)];exact U
    | lK g m ids=>intro _ U;cases U
    | _=>intro aj _;cases aj
  ·cases h1
def zq (n:Nat):List (Nat×Nat×aR)→TS→(TS→aI)→aI
 | [],s,K=>K s
 | p::r,s,K=>
  let s1:=s.hT s.be (s.be+1) (.blk 0 p.2.2 [] 0 rfl)
  match p.1 with
  | 0=> .eq (uD (cM n s (.tmp p.2.1)).bp) true (.eq s1.cj s.cj (.eq (kg s) true (zq n r (lI n s1 (some p.2.1) (.ref s.be 0 0 false)) K)))
  | v+1=>
   let s2:=s1.add [(kI v p.2.1,.ref s.be 0 0 false)] s1.vs s1.be
   match l3 s.vs v with
   | some m=> .eq (uD ((cU (iI s v 0 m)).getD p.2.1 .undef)) true (.eq s2.cj (mw s.cj v ((cU (iI s v 0 m)).set p.2.1 (.ref s.be 0 0 0 false))) (.eq (rA [(kI v p.2.1,.ref s.be 0 0 false)]) true (.eq (kg s) true (zq n r s2 K))))
   | none=> .no
theorem Fe [cH] [FZ] {n:Nat} (af:n≤1000000) {R:Exit→TS→Prop} {K:TS→aI}: ∀{l:List (Nat×Nat×aR)} {s:TS},Fits s→(zq n l s K).den R→ ∃s',Weak (s.ap n) (s'.ap n)∧Fits s'∧(K s').den R
 | [],s,az,h=>⟨s,.refl _,az,h⟩
 | (p,q,e)::r,s,az,h=>by
  unfold zq at h
  simp only at h
  split at h
  ·obtain⟨h1,h2,dj,h⟩:=h
   obtain⟨s',w,hf,h⟩:=Fe af (Eb af (sD az)) h
   refine⟨s',Weak.trans ?_ w,hf,h⟩
   have ci:(cM n s (.tmp q)).bp=(s.ap n).T.getD q .undef:=(congrFun (mm n s) (.tmp q)).symm
   rw[ci] at h1
   have:=Weak.abA q e.kK (L:=(s.ap n).L) (H:=(s.ap n).H) h1
   rw[Ec af]
   show Weak _ ⟨putA ((s.hT s.be (s.be+1) _).tT n) _ _,(s.hT s.be (s.be+1) _).cj,((s.hT s.be (s.be+1) _).ap n).H⟩
   rw[sC af,h2,Ft dj]
   rw[Iq dj] at this
   exact this
  ·rename_i v
   split at h
   ·rename_i m hm
    obtain⟨h1,h2,dq,dj,h⟩:=h
    obtain⟨s',w,hf,h⟩:=Fe af (CE dq (sD az)) h
    refine⟨s',Weak.trans ?_ w,hf,h⟩
    have:=Weak.Jc v q e.kK (T:=(s.ap n).T) (H:=(s.ap n).H) (show eR (s.ap n).L v=some (cU (iI s v 0 m)) by rw[yZ,hm];rfl) h1
    rw[Iq dj] at this
    show Weak _ ⟨(TS.add _ _ _ _).tT n,(TS.add _ _ _ _).cj,((TS.add _ _ _ _).ap n).H⟩
    rw[h2,CD af dq,sC af]
    have dg:=CC (n:=n) (s:=s.hT s.be (s.be+1) (.blk 0 e [] 0 rfl)) (vs:=(s.hT s.be (s.be+1) (.blk 0 e [] 0 rfl)).vs) dq
    rw[dg,Ft dj]
    exact this
   ·exact h.elim
theorem adk {e:aR} (h:e.q5=true) (x:e.T): ∀a∈cy true e x,ky a=true∧p_ a=true:=by
 have key:(cy true e x).all (fun a=>ky a&&p_ a)=true:=by cases e<;>first | rfl | cases h
 intro a ar
 have:=List.all_eq_true.1 key a ar
 rwa [Bool.and_eq_true] at this
theorem aoB (e:aR) (x:e.T):(cy true e x).map j4=cy false e x:=by
 rw[←pf,←pf]
 have key: ∀(es:List aR) (y:cL es),(jV true es y).map j4=jV false es y:=by
  intro es
  induction es with
  | nil=>intro y;rfl
  | cons e r bz=>
   intro y
   show j4 (kA true e y.1)::(jV true r y.2).map j4=_
   rw[bz,jV]
   congr 1
   cases e<;>rfl
 exact key _ _
def CY (k3:Option Nat) (n:Nat):List (Nat×Nat)→TS→(TS→aI)→aI
 | [],s,K=>K s
 | p::r,s,K=>match s.get (match p.1 with
   | 0=>p.2
   | v+1=>kI v p.2) with
  | .ref b g m _=>(match k3 with
   | some k=>(match Nat.ble k b with
    | true=>tO s b g fun e xs fK h=>
     let s1:=s.hT b s.be (.blk (g+1) e [] 0 rfl)
     match p.1 with
     | 0=> .eq (Nat.blt p.2 n) true (.eq fK m (.eq e.q5 true (.eq s1.cj s.cj (.p (xs.length≤4611686018427387904) (CY k3 n r (lI n s1 (some p.2) (.l e xs false true)) K)))))
     | v+1=>
      let s2:=s1.add [(kI v p.2,.l e xs false true)] s1.vs s1.be
      match l3 s.vs v with
      | some iA=> .eq (Nat.blt p.2 iA&&rA [(kI v p.2,TV.l e xs false true)]) true (.eq fK m (.eq e.q5 true (.eq s2.cj (mw s.cj v ((cU (iI s v 0 iA)).set p.2 (TV.l e xs false true).bp)) (.p (xs.length≤4611686018427387904) (CY k3 n r s2 K)))))
      | none=> .no
    | false=> .no)
   | none=> .no)
  | _=> .no
theorem KB [jR:cH] [FZ] {n:Nat} (af:n≤1000000) {k3:Option Nat} (gX: ∀k,k3=some k→jR.n≤k) {R:Exit→TS→Prop} {K:TS→aI}: ∀{l:List (Nat×Nat)} {s:TS},Fits s→(CY k3 n l s K).den R→ ∃s',Weak (s.ap n) (s'.ap n)∧Fits s'∧(K s').den R
 | [],s,az,h=>⟨s,.refl _,az,h⟩
 | (p,q)::r,s,az,h=>by
  unfold CY at h
  simp only at h
  split at h
  ·rename_i b g m dP qR
   split at h
   ·rename_i k
    split at h
    ·rename_i Gr
     have SP:=Nat.le_trans (gX k rfl) (Nat.le_of_ble_eq_true Gr)
     obtain⟨e,xs,fK,hm,h,hb,ax⟩:=zy (n:=n) h
     have hq: ∀row∈xs.map (cy true e),e.q5=true→ ∀a∈row,ky a=true∧p_ a=true:=fun row aj an a ar=>by
      obtain⟨x,_,rfl⟩:=List.mem_map.1 aj
      exact adk an x a ar
     have sX:(xs.map (cy true e)).map (fun row=>row.map j4)=xs.map (cy false e):=by
      rw[List.map_map];exact List.map_congr_left fun x _=>aoB e x
     cases p with
     | zero=>
      obtain⟨aA,h1,h2,aD,bj,h⟩:=h
      replace qR:s.get q= .ref b g m dP:=qR
      obtain⟨s',w,hf,h⟩:=KB af gX (Eb af (sD az)) h
      refine⟨s',Weak.trans ?_ w,hf,h⟩
      have U:q<n:=by rw[Nat.blt_eq] at aA;exact aA
      have ci:(s.ap n).T.getD q .undef= .ref b g 0 m dP:=by
       rw[EK,if_pos U,qR];rfl
      have:=Weak.aeo q (L:=(s.ap n).L) ci (by rw[List.length_map,←h1];exact hm.symm) ax SP (fun row aj a ar=>hq row aj h2 a ar) (by rw[List.length_map];exact bj)
      rw[sX] at this
      rw[Ec af]
      show Weak _ ⟨putA ((s.hT b s.be _).tT n) _ _,(s.hT b s.be _).cj,((s.hT b s.be _).ap n).H⟩
      rw[sC af,aD,zx hb]
      exact this
     | succ v=>
      replace qR:s.get (kI v q)= .ref b g m dP:=qR
      simp only at h
      split at h
      ·rename_i iA ug
       obtain⟨aA,h1,h2,aD,bj,h⟩:=h
       rw[Bool.and_eq_true,Nat.blt_eq] at aA
       obtain⟨s',w,hf,h⟩:=KB af gX (CE aA.2 (sD az)) h
       refine⟨s',Weak.trans ?_ w,hf,h⟩
       have hc:eR (s.ap n).L v=some (cU (iI s v 0 iA)):=by rw[yZ,ug];rfl
       have ci:(cU (iI s v 0 iA)).getD q .undef= .ref b g 0 m dP:=by
        rw[List.getD_eq_getElem?_getD,FB,if_pos aA.1,Nat.zero_add,qR];rfl
       have:=Weak.aen v q (T:=(s.ap n).T) hc ci (by rw[List.length_map,←h1];exact hm.symm) ax SP (fun row aj a ar=>hq row aj h2 a ar) (by rw[List.length_map];exact bj)
       rw[sX] at this
       show Weak _ ⟨(TS.add _ _ _ _).tT n,(TS.add _ _ _ _).cj,((TS.add _ _ _ _).ap n).H⟩
       have dg:=CC (n:=n) (s:=s.hT b s.be (.blk (g+1) e [] 0 rfl)) (vs:=(s.hT b s.be (.blk (g+1) e [] 0 rfl)).vs) aA.2
       rw[aD,CD af aA.2,sC af,dg,zx hb]
       exact this
      ·exact h.elim
    ·exact h.elim
   ·exact h.elim
  ·exact h.elim
def U_ (k:Nat):List (Nat×TV)→Bool
 | []=>false
 | p::r=>match Nat.beq p.1 k with
  | true=>true
  | false=>U_ k r
def M6 (s:TS) (jU:List (Nat×TV)):List Nat→List (Nat×TV)
 | []=>[]
 | k::r=>match U_ k jU with
  | true=>M6 s jU r
  | false=>(k,s.get k)::M6 s jU r
def aaD (v:Nat):Nat→Nat→List Nat
 | _,0=>[]
 | c,m+1=>kI v c::aaD v (c+1) m
def Vg:List (Nat×Nat)→List Nat
 | []=>[]
 | p::r=>aaD p.1 0 p.2++Vg r
def Rh:Nat→List Nat
 | 0=>[]
 | b+1=>bI b::Rh b
def eY (cZ:List Nat) (lB:List (Nat×Nat)) (k:Nat) (I:Int→Prop) (m:Int→Nat) (b:Int→mF):mF:= .lp [] cZ lB [.int] [k] (fun v=>[(k,.i .i64 v.1)]) (fun v=>I v.1) (fun v=>m v.1) fun v=>b v.1
def aI.F2:aI→Bool
 | .l2 ex _=>(match ex with
  | .normal=>false
  | _=>true)
 | .iE | .no | .all _ _=>false
 | .p _ t | .kY _ t | .eq _ _ t=>t.F2
 | .jX _ _ x y | .two x y | .iz x _ _ y=>(match x.F2 with
  | true=>true
  | false=>y.F2)
def xq:Code→Bool
 | .loop _=>true
 | .seq x y=>xq x || xq y
 | .cond _ x y=>xq x || xq y
 | .block _ x=>xq x
 | .scope x=>xq x
 | _=>false
def Kb (kO:List (List (Nat×TV)×List (Nat×TV))) (t:aI):aI:=match kO with
 | []=>t
 | p::r=> .eq p.1 p.2 (Kb r t)
theorem RU {R:Exit→TS→Prop} {t:aI}: ∀{kO:List (List (Nat×TV)×List (Nat×TV))},(Kb kO t).den R→(∀p∈kO,p.1=p.2)∧t.den R
 | [],h=>⟨(fun p h=>by cases h),h⟩
 | p::r,h=>by
  obtain⟨h1,h2⟩:=h
  obtain⟨aD,bj⟩:=RU h2
  exact⟨fun q U=>by
   rcases List.mem_cons.1 U with rfl | U
   ·exact h1
   ·exact aD q U,bj⟩
structure zk (P:Program) where
 len:List Nat
 ac2:List (Nat×List Item×List (List Nat))
 rk:List (vb P)
 Iz:List (sq P)
 XU:List (Nat×List (Nat×Nat)×List (Nat×Nat×aR))
def Hc:List (Nat×List Item×List (List Nat))→Nat→(List Item→List (List Nat)→aI)→aI
 | [],_,_=> .no
 | p::r,id,K=>match Nat.beq p.1 id with
  | true=>K p.2.1 p.2.2
  | false=>Hc r id K
def No:List (Nat×List (Nat×Nat)×List (Nat×Nat×aR))→Nat→List (Nat×Nat)×List (Nat×Nat×aR)
 | [],_=>([],[])
 | p::r,id=>match Nat.beq p.1 id with
  | true=>p.2
  | false=>No r id
section
variable {P:Program} (cf:h0 P) (eI:zk P) (k3:Option Nat)
def Dc (s:TS) (cZ:List Nat) (lB:List (Nat×Nat)) (jU:List (Nat×TV)):TS:=⟨jU++M6 s jU (cZ++(Vg lB++(dM::Rh s.be))),[],lB,s.be⟩
def la:Code→TS→mF→(Exit→TS→mF→aI)→aI
 | .skip,s,a,K=>K .normal s a
 | .ret,s,a,K=>K .ret s a
 | .exit id,s,a,K=>K (.exit id) s a
 | .region id ops draw,s,a,K=>CY k3 cf.n (No eI.XU id).1 s fun s=>zq cf.n (No eI.XU id).2 s fun s=>(match draw with
  | false=>HV cf ⟨eI.len,eI.rk,eI.Iz⟩ ops ops.toList s fun s=>K .normal s a
  | true=>Hc eI.ac2 id fun ord lb=>J0 cf ⟨eI.len,eI.rk,eI.Iz⟩ ops ord lb s fun s=>K .normal s a)
 | .seq x y,s,a,K=>(match xq x with
  | true=>la x s a fun ex s a=>match ex with
   | .normal=>la y s a K
   | ex=>K ex s a
  | false=>match(la x s a fun ex s _=> .l2 ex s).oO with
   | .some S kO=>Kb kO (.iz ((la x s a fun ex s _=> .l2 ex s).bind fun ex s=>match ex with
    | .normal=> .iE
    | ex=>K ex s a.fst) (la x s a fun ex s _=> .l2 ex s).facts (la x s a fun ex s _=> .l2 ex s).mM (la y S (match(la x s a fun ex s _=> .l2 ex s).F2 with
    | true=>a.snd
    | false=>a) K))
   | _=>la x s a fun ex s a=>match ex with
    | .normal=>la y s a K
    | ex=>K ex s a)
 | .cond c x y,s,a,K=>(match cM cf.n s c with
  | .b z=>Ik z s fun b s=>match b with
   | true=>la x s a.fst K
   | false=>la y s a.snd K
  | _=> .no)
 | .block id c,s,a,K=>la c s a fun ex s a=>match ex with
  | .exit gC=>(match Nat.beq gC id with
   | true=>K .normal s a
   | false=>K (.exit gC) s a)
  | ex=>K ex s a
 | .loop c,s,a,K=>(match a with
  | .lp nc cZ lB lQ rd jU I m b=>zq cf.n nc s fun s=>HP s lQ rd fun v0=>toHead k3 s (Dc s cZ lB (jU v0)) (.p (I v0) (Jd lQ fun v=> .kY (I v) (la c (Dc s cZ lB (jU v)) (b v) fun ex s' a=>match ex with
   | .normal=>HP s' lQ rd fun eM=>toHead k3 s' (Dc s cZ lB (jU eM)) (.p (I eM∧m eM<m v) .iE)
   | ex=>K ex s' a)))
  | _=> .no)
 | _,_,_,_=> .no
end
section
variable {P:Program} {cf:h0 P} {eI:zk P}
theorem aj1 {R:Exit→TS→Prop} {l:List (Nat×List Item×List (List Nat))} {id:Nat} {K:List Item→List (List Nat)→aI} (h:(Hc l id K).den R): ∃o A,(K o A).den R:=by
 induction l with
 | nil=>exact h.elim
 | cons p r bz=>
  unfold Hc at h
  split at h
  ·exact⟨_,_,h⟩
  ·exact bz h
theorem ac3 [cH] (af:cf.n≤1000000) {eI:st P} {R:Exit→TS→Prop} {ops:Array Oper} {ord:List Item} {lb:List (List Nat)} {s:TS} {K:TS→aI} {Q:Exit→St→Prop} {id:Nat} (hK: ∀s (Z:FZ),(K s).den R→ @Fits Z s→Q .normal (@TS.ap Z cf.n s)) (Z:FZ) (az:Fits s) (h:(J0 cf eI ops ord lb s K).den R):WpS P (.region id ops true) Q (s.ap cf.n):=by
 unfold J0 at h
 simp only at h
 split at h
 ·exact h.elim
 ·rename_i hb
  obtain⟨h1,h2,aD,bj,cl,hM,tZ,h⟩:=h
  rw[Ip]
  refine WpS.Yf (esc:=[]) ord lb h1 h2 aD rfl _ hM tZ ?_
  have:=Yj af (Kp:=fun T L H=>Q .normal ⟨T,L,H⟩) (fun s Z hs hf=>hK s Z hs hf) ord Z _ (CE hb az) bj h
  rw[cl,CC hb,CD af hb] at this
  exact this
theorem aaI [jR:cH] (af:cf.n≤1000000) {k3:Option Nat} (gX: ∀k,k3=some k→jR.n≤k): ∀(c:Code) {R:Exit→TS→Prop} {s:TS} {a:mF} {K:Exit→TS→mF→aI} {Q:Exit→St→Prop},(∀ex s a (Z:FZ),(K ex s a).den R→ @Fits Z s→Q ex (@TS.ap Z cf.n s))→ ∀Z:FZ,@Fits Z s→(la cf eI k3 c s a K).den R→WpS P c Q (@TS.ap Z cf.n s):=by
 intro c
 induction c with
 | skip=>intro R s a K Q hK Z az h;exact WpS.skip (hK _ _ _ Z h az)
 | ret=>intro R s a K Q hK Z az h;exact WpS.ret (hK _ _ _ Z h az)
 | exit id=>intro R s a K Q hK Z az h;exact WpS.exit (hK _ _ _ Z h az)
 | region id ops draw=>
  intro R s a K Q hK Z az h
  obtain⟨s1,bn,s3,h⟩:=KB af gX az h
  obtain⟨s2,bK,vF,h⟩:=Fe af s3 h
  refine WpS.so ?_ (bn.trans bK)
  cases draw with
  | false=>
   rw[Ip]
   refine WpS.Yg (esc:=[]) rfl ?_
   exact Oe af (Kp:=fun T L H=>Q .normal ⟨T,L,H⟩) (fun s Z hs hf=>hK _ s _ Z hs hf) ops.toList Z s2 vF h
  | true=>
   obtain⟨ord,lb,h⟩:=aj1 h
   exact ac3 af (fun s Z hs hf=>hK _ s _ Z hs hf) Z vF h
 | cond c x y iK ix=>
  intro R s a K Q hK Z az h
  unfold la at h
  split at h
  ·rename_i z s0
   obtain⟨s',aG,e2,h⟩:=P3 (n:=cf.n) h
   have hf:=az.congr fun k _ _=>e2 k
   rw[←aG]
   have hc:ch (s'.ap cf.n).T c= .bool z.den:=by
    rw[aG,congrFun (mm cf.n s) c]
    show(cM cf.n s c).bp=_
    rw[s0];rfl
   refine WpS.cond ?_
   rw[hc]
   refine⟨fun hb=> ?_,fun hb=> ?_⟩
   ·rw[hb] at h;exact iK hK Z hf h
   ·rw[hb] at h;exact ix hK Z hf h
  ·exact h.elim
 | block id c bz=>
  intro R s a K Q hK Z az h
  refine WpS.block (bz (K:=fun ex s a=>match ex with
   | .exit gC=>(match Nat.beq gC id with
    | true=>K .normal s a
    | false=>K (.exit gC) s a)
   | ex=>K ex s a) (fun ex s a Z hs hf=> ?_) Z az h)
  cases ex with
  | exit gC=>
   show if gC=id then _ else _
   have hs:(match Nat.beq gC id with
    | true=>K .normal s a
    | false=>K (.exit gC) s a).den R:=hs
   split at hs
   ·rename_i hb;rw[if_pos (Nat.eq_of_beq_eq_true hb)];exact hK _ _ _ Z hs hf
   ·rename_i hb
    rw[if_neg fun e=>by subst e;rw[Nat.beq_refl] at hb;cases hb];exact hK _ _ _ Z hs hf
  | _=>exact hK _ _ _ Z hs hf
 | seq x y TH TI=>
  intro R s a K Q hK Z az h
  have RD:(la cf eI k3 x s a fun ex s a=>match ex with
   | .normal=>la cf eI k3 y s a K
   | ex=>K ex s a).den R→WpS P (.seq x y) Q (s.ap cf.n):=fun h=>by
   refine WpS.seq (TH (fun ex s a Z hs hf=> ?_) Z az h)
   cases ex with
   | normal=>exact TI hK Z hf hs
   | _=>exact hK _ _ _ Z hs hf
  unfold la at h
  split at h
  ·exact RD h
  ·split at h
   ·rename_i S kO hm
    obtain⟨U,h⟩:=RU h
    obtain⟨h1,h2⟩:=h
    rw[aI.abV] at h1
    have aD:=aI.akg hm U h1
    refine WpS.seq (TH (K:=fun ex s _=> .l2 ex s) (fun ex s' hL Z hs hf=> ?_) Z az aD)
    have hs:_∧(ex= .normal→s'.hJ S∧_∧_):=hs
    cases ex with
    | normal=>
     obtain⟨q1,q2,q3⟩:=hs.2 rfl
     exact WpS.so (TI hK Z (hf.le q1) (h2 (ady q3 q2))) (aoP af q1)
    | _=>exact hK _ _ _ Z hs.1 hf
   ·exact RD h
 | loop c bz=>
  intro R s a K Q hK Z az h
  unfold la at h
  split at h
  ·rename_i nc cZ lB lQ rd jU I m b
   obtain⟨s1,bn,s3,h⟩:=Fe af az h
   obtain⟨v0,h⟩:=N8 h
   obtain⟨bK,vF,h⟩:=toHead_sound (n:=cf.n) af gX rfl s3 h
   obtain⟨aA,h⟩:=h
   have hv:=QX h
   refine WpS.WC (V:=cL lQ×FZ) (fun v=> @TS.ap v.2 cf.n (Dc s1 cZ lB (jU v.1))) (fun v=>I v.1∧ @Fits v.2 (Dc s1 cZ lB (jU v.1))) (fun v=>m v.1) rfl (v0,Z) (bn.trans bK) ⟨aA,vF⟩ fun v aN=> ?_
   refine bz (fun ex s' a Z' hs hf=> ?_) v.2 aN.2 (hv v.1 aN.1)
   cases ex with
   | normal=>
    obtain⟨eM,hs⟩:=N8 hs
    obtain⟨da,Gi,hs⟩:=toHead_sound (n:=cf.n) af gX rfl hf hs
    exact⟨(eM,Z'),⟨hs.1.1,Gi⟩,hs.1.2,da⟩
   | _=>exact hK _ _ _ Z' hs hf
  ·exact h.elim
 | _=>intro R s a K Q hK Z az h;exact h.elim
end
def A7:(e:aR)→e.T→TV
 | .ptr e,x=> .dz e x 0
 | .jj f .unit,_=> .fn f []
 | .jj f e,x=> .fn f [A7 e x]
 | e,x=>match e.isS with
  | true=> .agg (kz false e x)
  | false=>EO false e x
theorem ak1: ∀(e:aR) (x:e.T),(A7 e x).bp=p7 e x:=by
 have bm: ∀(e:aR) (x:e.T),(match e.isS with
  | true=>TV.agg (kz false e x)
  | false=>EO false e x).bp=match e.isS with
  | true=> .agg (cy false e x)
  | false=>kA false e x:=fun e x=>by
  cases e.isS with
  | true=>show AV.agg (cU _)=_;rw[FA]
  | false=>exact Qk false e x
 intro e
 induction e with
 | jj f e bz=>
  intro x
  have key:A7 (.jj f e) x= .fn f [A7 e x]→p7 (.jj f e) x= .fn f [p7 e x]→(A7 (.jj f e) x).bp=p7 (.jj f e) x:=fun h1 h2=>by
   rw[h1,h2,←bz x];rfl
  cases e with
  | unit=>rfl
  | _=>exact key rfl rfl
 | ptr e bz=>intro x;rfl
 | _=>intro x;exact bm _ x
def yA:Nat→(es:List aR)→cL es→List (Nat×TV)
 | _,[],_=>[]
 | i,e::r,x=>(i,A7 e x.1)::yA (i+1) r x.2
def qX (ps:List aR) (x:cL ps):TS:=⟨yA 0 ps x,[],[],0⟩
theorem Xw: ∀(es:List aR) (x:cL es) (i t:Nat),(h6 (yA i es x) t .u).bp=if t<i then .undef else(pg es x).getD (t - i) .undef
 | [],x,i,t=>by
  show AV.undef=_
  split<;>simp[pg]
 | e::r,x,i,t=>by
  rw[yA,ih,pg]
  by_cases h:i=t
  ·subst h
   rw[if_pos rfl,if_neg (by omega),Nat.sub_self,ak1];rfl
  ·rw[if_neg h,Xw r x.2 (i+1) t]
   by_cases h2:t<i
   ·rw[if_pos (by omega),if_pos h2]
   ·rw[if_neg (by omega),if_neg h2,show t - i=(t - (i+1))+1 by omega];rfl
theorem RQ: ∀(es:List aR) (x:cL es),(pg es x).length=es.length
 | [],_=>rfl
 | e::r,x=>by rw[pg,List.length_cons,List.length_cons,RQ r]
theorem M0 (ps:List aR) (x:cL ps) (h:ps.length≤1000000):kg (qX ps x)=true:=by
 have key: ∀(es:List aR) (y:cL es) (i:Nat),i+es.length≤1000000→ ∀v,(dM,v) ∉ yA i es y:=by
  intro es
  induction es with
  | nil=>intro y i _ v hv;cases hv
  | cons e r bz=>
   intro y i hi v hv
   simp only[List.length_cons] at hi
   rcases List.mem_cons.1 hv with e | hv
   ·injection e with e _;unfold dM at e;omega
   ·exact bz y.2 (i+1) (by omega) v hv
 unfold kg
 have:(qX ps x).get dM= .u:=by
  show h6 (yA 0 ps x) dM (h6 [] dM .u)=_
  rw[vS (key ps x 0 (by omega))];rfl
 rw[this]
theorem Va [FZ] {fn:Func} {ps:List aR} {x:cL ps} (h:ps.length≤fn.ntmps) (aw:ps.length≤1000000):G5 fn (pg ps x) []=(qX ps x).ap fn.ntmps:=by
 have ci:pg ps x++List.replicate (fn.ntmps - (pg ps x).length) AV.undef=((qX ps x).ap fn.ntmps).T:=by
  apply List.ext_getElem?
  intro t
  show _=((List.range fn.ntmps).map fun t=>((qX ps x).get t).bp)[t]?
  rw[List.getElem?_map]
  rcases Nat.lt_or_ge t fn.ntmps with aw | aw
  ·rw[List.getElem?_range aw]
   show _=some (h6 (yA 0 ps x) t .u).bp
   rw[Xw,if_neg (by omega),Nat.sub_zero]
   rcases Nat.lt_or_ge t (pg ps x).length with h1 | h1
   ·rw[List.getElem?_append_left h1,List.getD_eq_getElem?_getD,List.getElem?_eq_getElem h1];rfl
   ·rw[List.getElem?_append_right h1,List.getElem?_replicate,if_pos (by omega),List.getD_eq_getElem?_getD,List.getElem?_eq_none h1];rfl
  ·rw[List.getElem?_eq_none (l:=List.range fn.ntmps) (by simpa using aw),List.getElem?_eq_none]
   ·rfl
   ·rw[List.length_append,List.length_replicate,RQ];omega
 have ax:((qX ps x).ap fn.ntmps).H=[]:=by
  show(qX ps x).hA++ig (qX ps x)=[]
  unfold ig;rw[M0 ps x aw];rfl
 show(⟨_,[],[]⟩:St)=⟨((qX ps x).ap fn.ntmps).T,[],((qX ps x).ap fn.ntmps).H⟩
 rw[ci,ax]
def F8 (s:TS):(e:aR)→TV→e.T→aI→aI
 | .int,v,r,t=>(match v with
  | .i k m=>if k= .i64 then .p (m=r) t else .no
  | _=> .no)
 | .u64,v,r,t=>(match v with
  | .i k m=>if k= .u64 then .p (m=r) t else .no
  | _=> .no)
 | .bool,v,r,t=>(match v with
  | .b x=> .p (x.den=r) t
  | _=> .no)
 | .str,v,r,t=>(match v with
  | .s x=> .p (x=r) t
  | _=> .no)
 | .l e,v,r,t=>(match v with
  | .l bZ xs _ fr=>(match fr with
   | true=>if h:bZ=e then .p (ni h xs=r) t else .no
   | false=> .no)
  | .nil _ _=> .p ([]=r) t
  | .ref b g m _=>tO s b g fun bZ xs fK _=>if h:bZ=e then .eq e.q5 true (.eq fK m (.p (xs.length≤4611686018427387904∧ni h xs=r) t)) else .no
  | _=> .no)
 | _,_,_,_=> .no
def Kt (s:TS):(es:List aR)→List TV→cL es→aI→aI
 | [],[],_,t=>t
 | e::r,v::vs,x,t=>F8 s e v x.1 (Kt s r vs x.2 t)
 | _,_,_,_=> .no
def F9 (s:TS) (e:aR) (v:TV) (r:e.T) (t:aI):aI:=match e.isS with
 | true=>(match v with
  | .agg c=>Kt s e.bV c (e.un r) t
  | _=> .no)
 | false=>F8 s e v r t
def Ks (s:TS):(es:List aR)→List TV→cL es→aI→aI
 | [],[],_,t=>t
 | e::r,v::vs,x,t=>F9 s e v x.1 (Ks s r vs x.2 t)
 | _,_,_,_=> .no
def N_ (P:Program) (n:Nat) (s:TS):ResultVar→TV
 | .tmp t=>cM n s (.tmp t)
 | .cell a t=>(match cM n s (.tmp a) with
  | .lp v c=>(match l3 s.vs v with
   | some m=>y4 P t (iI s v 0 m) c
   | none=> .u)
  | _=> .u)
def tR (P:Program) (n:Nat) (fn:Func) (rs:List aR) (r:cL rs) (s:TS):aI:=
 let vs:=fn.results.toList.map (N_ P n s)
 .eq (fun H Q=>uR P ⟨s.tT n,s.cj,H⟩ fn.results.toList Q) (fun _ Q=>Q (cU vs)) (.eq ((cU vs).all lE) true (Ks s rs vs r .iE))
section
variable {n:Nat} {s:TS} {R:Exit→TS→Prop} {t:aI}
theorem acu {H:List Blk} (e:aR) (x:e.T) (h:e.q5=true):mc H (cy true e x) (cy false e x):=by
 cases e with
 | int=>exact ab8 x
 | u64=>exact .cons (.int _ _) rfl .nil
 | u8=>exact ab_ x
 | bool=>exact CL x
 | str=>exact ab9 x
 | a1=>exact Rm x
 | e6=>exact aca x
 | eL=>exact .cons (.int _ _) rfl (.cons (lS _) rfl (.cons (lS _) rfl (.cons (lS _) rfl (.cons (.int _ _) rfl .nil))))
 | ll=>exact ab6 x
 | dx=>exact Fz x
 | held=>exact ab7 x
 | frame=>exact .cons (.bool _) rfl (.cons (lS _) rfl (.cons (lS _) rfl (.cons (lS _) rfl .nil)))
 | done=>exact ab5 x
 | fault=>exact .cons (.int _ _) rfl (.cons (.int _ _) rfl .nil)
 | stays=>exact .cons (lS _) rfl (.cons (lS _) rfl (.cons (lS _) rfl .nil))
 | hV=>exact .cons (lS _) rfl (.cons (.int _ _) rfl (.cons (.int _ _) rfl .nil))
 | l e=>exact .cons (lS _) rfl .nil
 | _=>cases h
end
section
variable [FZ] {n:Nat} {s:TS} {R:Exit→TS→Prop} {t:aI}
theorem Sa {e:aR} {v:TV} {r:e.T} (h:(F8 s e v r t).den R):ho (s.ap n).H v.bp (kA true e r)∧t.den R:=by
 cases e with
 | int=>
  have h:(match v with
   | .i k m=>if k=IntKind.i64 then aI.p (m=r) t else .no
   | _=> .no).den R:=h
  split at h
  ·split at h
   ·rename_i hk;subst hk;exact⟨BS h.1,h.2⟩
   ·exact h.elim
  ·exact h.elim
 | u64=>
  have h:(match v with
   | .i k m=>if k=IntKind.u64 then aI.p (m=r) t else .no
   | _=> .no).den R:=h
  split at h
  ·split at h
   ·rename_i hk;subst hk;exact⟨BS h.1,h.2⟩
   ·exact h.elim
  ·exact h.elim
 | bool=>
  have h:(match v with
   | .b x=>aI.p (x.den=r) t
   | _=> .no).den R:=h
  split at h
  ·exact⟨tv h.1,h.2⟩
  ·exact h.elim
 | str=>
  have h:(match v with
   | .s x=>aI.p (x=r) t
   | _=> .no).den R:=h
  split at h
  ·exact⟨anY h.1,h.2⟩
  ·exact h.elim
 | l e=>
  have h:(match v with
   | .l bZ xs _ fr=>(match fr with
    | true=>if h:bZ=e then aI.p (ni h xs=r) t else .no
    | false=> .no)
   | .nil _ _=> .p ([]=r) t
   | .ref b g m _=>tO s b g fun bZ xs fK _=>if h:bZ=e then .eq e.q5 true (.eq fK m (.p (xs.length≤4611686018427387904∧ni h xs=r) t)) else .no
   | _=> .no).den R:=h
  split at h
  ·split at h
   ·split at h
    ·rename_i he;subst he;exact⟨anX (e:=cy false _) h.1,h.2⟩
    ·exact h.elim
   ·exact h.elim
  ·exact⟨Il (e:=cy false e) h.1,h.2⟩
  ·rename_i b g m dP
   obtain⟨bZ,xs,fK,hm,h,hb,ax⟩:=zy (n:=n) h
   split at h
   ·rename_i he
    subst he
    obtain⟨aA,h1,h2,aD⟩:=h
    subst h1
    subst hm
    exact⟨aae (eT:=cy true bZ) (eF:=cy false bZ) ax (fun x=>acu bZ x aA) h2,aD⟩
   ·exact h.elim
  ·exact h.elim
 | _=>exact h.elim
theorem Sc: ∀{es:List aR} {vs:List TV} {r:cL es},(Kt s es vs r t).den R→ak (ho (s.ap n).H) (cU vs) (jV true es r)∧t.den R
 | [],[],_,h=>⟨ak.nil,h⟩
 | e::r,v::vs,x,h=>by
  obtain⟨h1,h2⟩:=Sa (n:=n) (show(F8 s e v x.1 _).den R from h)
  obtain⟨aD,bj⟩:=Sc h2
  exact⟨ak.cons h1 aD,bj⟩
 | [],_::_,_,h=>h.elim
 | _::_,[],_,h=>h.elim
theorem adH {e:aR} {v:TV} {r:e.T} (h:(F9 s e v r t).den R):w7 (s.ap n).H v.bp (p8 e r)∧t.den R:=by
 unfold F9 at h
 unfold p8
 cases ds:e.isS with
 | true=>
  rw[ds] at h
  simp only at h
  split at h
  ·rename_i c
   obtain⟨h1,h2⟩:=Sc (n:=n) h
   refine⟨.inl ⟨cU c,cy true e r,rfl,rfl,?_⟩,h2⟩
   rw[←pf];exact h1
  ·exact h.elim
 | false=>
  rw[ds] at h
  obtain⟨h1,h2⟩:=Sa (n:=n) h
  exact⟨.inr h1,h2⟩
theorem Sb: ∀{es:List aR} {vs:List TV} {r:cL es},(Ks s es vs r t).den R→ak (w7 (s.ap n).H) (cU vs) (rC es r)∧t.den R
 | [],[],_,h=>⟨ak.nil,h⟩
 | e::r,v::vs,x,h=>by
  obtain⟨h1,h2⟩:=adH (n:=n) (show(F9 s e v x.1 _).den R from h)
  obtain⟨aD,bj⟩:=Sb h2
  exact⟨ak.cons h1 aD,bj⟩
 | [],_::_,_,h=>h.elim
 | _::_,[],_,h=>h.elim
theorem Ku {P:Program} {fn:Func} {rs:List aR} {r:cL rs} (h:(tR P n fn rs r s).den R):wv P fn (s.ap n) fun v H=>j7 H v (sH rs r):=by
 unfold tR at h
 simp only at h
 obtain⟨h1,h2,aD⟩:=h
 unfold wv
 have sN:uR P (s.ap n) fn.results.toList=_:=congrFun h1 (s.ap n).H
 rw[congrFun sN]
 refine⟨h2,?_⟩
 obtain⟨bj,_⟩:=Sb (n:=n) aD
 have key: ∀(rs:List aR) (r:cL rs) (l:List AV),ak (w7 (s.ap n).H) l (rC rs r)→j7 (s.ap n).H (tB l) (sH rs r):=by
  intro rs r l ab
  match rs,r,l with
  | [],_,[]=>exact .inl ⟨[],[],rfl,rfl,ak.nil⟩
  | [],_,_::_=>have:=ab.1;simp[rC] at this
  | [e],r,[]=>have:=ab.1;simp[rC] at this
  | [e],r,[v]=>exact .inr ab.head
  | [e],r,_::_::_=>have:=ab.1;simp[rC] at this
  | e::bZ::rs,r,[]=>have:=ab.1;simp[rC] at this
  | e::bZ::rs,r,[v]=>have:=ab.1;simp[rC] at this
  | e::bZ::rs,r,v::w::l=>exact .inl ⟨_,_,rfl,rfl,ab⟩
 exact key rs r _ bj
end
def Qh {P:Program} (cf:h0 P) (eI:zk P) (fn:Func) (ps rs:List aR) (x:cL ps) (r:cL rs) (a:mF):aI:=la cf eI (some 0) (j8 fn) (qX ps x) a fun ex s _=>match ex with
 | .normal=>tR P cf.n fn rs r s
 | .ret=>tR P cf.n fn rs r s
 | _=> .no
theorem bf.run {P:Program} {f:FuncId} {fn:Func} {ps rs:List aR} {x:cL ps} {r:cL rs} (cf:h0 P) (eI:zk P) (a:mF) {C:Prop} (hf:P.funcs[f]?=some fn) (h:C) (e:C=(Qh cf eI fn ps rs x r a).p3.den:=by kernel_rfl)
  (e2:(Qh cf eI fn ps rs x r a).lhs=(Qh cf eI fn ps rs x r a).rhs:=by kernel_rfl) (hb:fn.body=some (j8 fn):=by kernel_rfl) (hm:(fn.name== "runtime.NumGoroutine")=false:=by kernel_rfl)
  (af:(Nat.beq cf.n fn.ntmps&&Nat.ble cf.n 1000000&&Nat.ble ps.length cf.n)=true:=by kernel_rfl):bf P f (pg ps x) (sH rs r):=by
 simp only[Bool.and_eq_true] at af
 have h1:=Nat.eq_of_beq_eq_true af.1.1
 have h2:=Nat.le_of_ble_eq_true af.1.2
 have aD:=Nat.le_of_ble_eq_true af.2
 refine de.NE hf hb hm fun jR gX=> ?_
 rw[@Va ⟨[],[]⟩ fn ps x (by rw[←h1];exact aD) (by omega),←h1]
 refine aaI h2 (fun k e=>by cases e;rw[gX];exact Nat.le_refl _) (j8 fn) (R:=fun _ _=>True) (K:=fun ex s _=>match ex with
  | .normal=>tR P cf.n fn rs r s
  | .ret=>tR P cf.n fn rs r s
  | _=> .no) (fun ex s _ Z hs hf=> ?_) ⟨[],[]⟩ (@Fits.none ⟨[],[]⟩ _ (M0 ps x (by omega))) (aI.full (e▸h) e2)
 cases ex with
 | normal=>exact Ku hs
 | ret=>exact Ku hs
 | _=>exact hs.elim
def c5:List (Nat×aR):=[(22,.int),(23,.e6),(24,(.l .bool)),(27,.bool),(28,.dx),(29,.held),(37,.e6),(41,.dx),(42,.held),(53,.ll),(55,.done),(57,.ll),(120,.a1),(126,.a1),(129,(.l .a1)),(162,(.l .int))]
def Ow (b0 b1 b2 s:Nat) (ids:List Nat):Nat→Option Nat
 | 0=>some b0
 | 1=>some b1
 | 2=>some b2
 | j+3=>(ids[j]?).map fun id=>id+s
theorem akV {R:Frame} {ok:Bool} {aB:List Bool} {mq:List bP} {ws:List av} {ids:List Nat} {bs:List (List Bool)} {H:List Blk} {b0 b1 b2 g0 g1 g2 s bM b5 n2:Nat} {f0 f1 f2:Bool} {pre pre':List Int}
  (bc:H[b0]?=some ⟨g0,1,List.map aT aB⟩) (dA:H[b1]?=some ⟨g1,2,List.map bh mq⟩) (g_:H[b2]?=some ⟨g2,5,aU s ws ids⟩) (bq:b0≠b1∧b0≠b2∧b1≠b2∧b0<s∧b1<s∧b2<s)
  (hf: ∀(id:Nat) (k:Blk),(List.map br bs)[id]?=some k→H[id+s]?=some k) (G:gL ws ids bs)
  (h:pre=pre'∧ok=R.ok∧aB=R.aB∧mq=R.au∧view ws ids bs=R.O) (aA:bM=aB.length) (h1:b5=mq.length) (h2:n2=ws.length):
  ∃db,tK H
   (⟨0,1,List.map aT R.aB⟩::⟨0,2,List.map bh R.au⟩::⟨0,5,aU 3 R.O (List.range R.O.length)⟩::List.map br (List.map av.ae R.O)) db∧
   E9 H
    (⟨0,1,List.map aT R.aB⟩::⟨0,2,List.map bh R.au⟩::⟨0,5,aU 3 R.O (List.range R.O.length)⟩::List.map br (List.map av.ae R.O)).length db (.agg (pre.map (AV.int .i64)++[.bool ok,.ref b0 g0 0 bM f0,.ref b1 g1 0 b5 f1,.ref b2 g2 0 n2 f2]))
    (.agg (pre'.map (AV.int .i64)++[.bool R.ok,.ref 0 0 0 R.aB.length false,.ref 1 0 0 R.au.length false,.ref 2 0 0 R.O.length false])):=by
 obtain⟨rfl,rfl,rfl,rfl,hv⟩:=h
 subst aA;subst h1;subst h2
 obtain⟨WO,WQ,WR,apK,vR,n6⟩:=bq
 have pt:R.O.length=ws.length:=by rw[←hv];exact jJ G.ok
 have hlen:(⟨0,1,List.map aT R.aB⟩::⟨0,2,List.map bh R.au⟩::⟨0,5,aU 3 R.O (List.range R.O.length)⟩::List.map br (List.map av.ae R.O):List Blk).length=R.O.length+3:=by simp
 have Tz: ∀i,i<ws.length→ ∃x id,ws[i]?=some x∧ids[i]?=some id∧id<bs.length∧R.O[i]?=some {x with ae:=bs.getD id []}∧x.ae.length=(bs.getD id []).length:=fun i hi=>by
  have e2:ids[i]?=some (ids[i]'(by have:=G.ok.len;omega)):=List.getElem?_eq_getElem _
  exact⟨_,_,List.getElem?_eq_getElem hi,e2,G.ok.lt i _ e2,by rw[←hv];exact wS (List.getElem?_eq_getElem hi) e2,G.ok.ae i _ _ (List.getElem?_eq_getElem hi) e2⟩
 have um: ∀j b,Ow b0 b1 b2 s ids (j+3)=some b→ ∃id,ids[j]?=some id∧b=id+s:=fun j b e=>by
  have e:(ids[j]?).map (fun id=>id+s)=some b:=e
  cases q:ids[j]? with
  | none=>rw[q] at e;cases e
  | some id=>rw[q] at e;cases e;exact⟨id,rfl,rfl⟩
 refine⟨Ow b0 b1 b2 s ids,⟨fun i j b hi ah aG e2=> ?_,fun j k hk=> ?_,fun j b k hk e=> ?_⟩,.inl ⟨_,_,rfl,rfl,?_⟩⟩
 ·match i,j,aG,e2 with
  | 0,0,_,_=>rfl
  | 1,1,_,_=>rfl
  | 2,2,_,_=>rfl
  | 0,1,aG,e2=>cases aG;cases e2;exact absurd rfl WO
  | 1,0,aG,e2=>cases aG;cases e2;exact absurd rfl WO
  | 0,2,aG,e2=>cases aG;cases e2;exact absurd rfl WQ
  | 2,0,aG,e2=>cases aG;cases e2;exact absurd rfl WQ
  | 1,2,aG,e2=>cases aG;cases e2;exact absurd rfl WR
  | 2,1,aG,e2=>cases aG;cases e2;exact absurd rfl WR
  | 0,j+3,aG,e2=>obtain⟨id,_,h⟩:=um j b e2;cases aG;omega
  | 1,j+3,aG,e2=>obtain⟨id,_,h⟩:=um j b e2;cases aG;omega
  | 2,j+3,aG,e2=>obtain⟨id,_,h⟩:=um j b e2;cases aG;omega
  | i+3,0,aG,e2=>obtain⟨id,_,h⟩:=um i b aG;cases e2;omega
  | i+3,1,aG,e2=>obtain⟨id,_,h⟩:=um i b aG;cases e2;omega
  | i+3,2,aG,e2=>obtain⟨id,_,h⟩:=um i b aG;cases e2;omega
  | i+3,j+3,aG,e2=>
   obtain⟨id,q1,h⟩:=um i b aG
   obtain⟨gC,q2,h'⟩:=um j b e2
   obtain rfl:id=gC:=by omega
   rw[G.lD i j id q1 q2]
 ·match j,hk with
  | 0,hk=>simp at hk;subst hk;rfl
  | 1,hk=>simp at hk;subst hk;rfl
  | 2,hk=>simp at hk;subst hk;rfl
  | j+3,hk=>simp at hk;obtain⟨x,_,rfl⟩:=hk;rfl
 ·rw[hlen]
  match j,hk,e with
  | 0,hk,e=>simp at hk;subst hk;cases e;exact qs (b:=b0) bc yw rfl
  | 1,hk,e=>simp at hk;subst hk;cases e;exact qs (b:=b1) dA Ht rfl
  | 2,hk,e=>
   simp at hk;subst hk;cases e
   refine⟨_,g_,rfl,⟨by rw[xo G.ok.len,xo (by simp),pt],fun i N6 dr ar hb=> ?_⟩⟩
   obtain⟨x,id,hx,aW,rfl⟩:=tn ar
   obtain⟨iX,gC,jz,pk,rfl⟩:=tn hb
   have sS:i<ws.length:=(List.getElem?_eq_some_iff.1 hx).1
   obtain⟨y,agH,jE,m0,D7,yz,Xu⟩:=Tz i sS
   rw[hx] at jE;cases jE
   rw[aW] at m0;cases m0
   rw[yz] at jz;cases jz
   obtain rfl:i=gC:=by rw[List.getElem?_range (by omega)] at pk;exact Option.some.inj pk
   refine .cons (.int _ _) (.cons (.int _ _) (.cons ?_ (.cons (.bool _) (.cons (.int _ _) .nil))))
   show iH H _ _ (.ref (id+s) 0 0 x.ae.length false) (.ref (i+3) 0 0 (bs.getD id []).length false)
   rw[Xu]
   refine iH.ref (blk:=br (bs.getD id [])) (by omega) ?_ (hf id _ (sJ D7)) rfl
   show(ids[i]?).map (fun id=>id+s)=_
   rw[aW];rfl
  | j+3,hk,e=>
   obtain⟨id,q1,rfl⟩:=um j b e
   have hk:(List.map br (List.map av.ae R.O))[j]?=some k:=by simpa using hk
   have lX:j<ws.length:=by have:=(List.getElem?_eq_some_iff.1 q1).1;have:=G.ok.len;omega
   obtain⟨y,agH,jE,m0,D7,yz,Xu⟩:=Tz j lX
   rw[q1] at m0;cases m0
   rw[List.getElem?_map,List.getElem?_map,yz] at hk
   cases hk
   exact qs (b:=id+s) (hf id _ (sJ D7)) yw rfl
 ·rw[hlen]
  have key: ∀l:List Int,ak (iH H (R.O.length+3) (Ow b0 b1 b2 s ids)) (l.map (AV.int .i64)++[.bool R.ok,.ref b0 g0 0 R.aB.length f0,.ref b1 g1 0 R.au.length f1,.ref b2 g2 0 ws.length f2]) (l.map (AV.int .i64)++[.bool R.ok,.ref 0 0 0 R.aB.length false,.ref 1 0 0 R.au.length false,.ref 2 0 0 R.O.length false]):=fun l=>by
   induction l with
   | nil=>
    rw[pt]
    exact .cons (.bool _) (.cons (.ref (by omega) rfl bc rfl) (.cons (.ref (by omega) rfl dA rfl) (.cons (.ref (by omega) rfl g_ rfl) .nil)))
   | cons x r bz=>exact .cons (.int _ _) bz
  exact key pre
def j0 (F:Frame):List Blk:=⟨0,1,List.map aT F.aB⟩::⟨0,2,List.map bh F.au⟩::⟨0,5,aU 3 F.O (List.range F.O.length)⟩::List.map br (List.map av.ae F.O)
theorem Xq (F:Frame):(j0 F).length=F.O.length+3:=by simp[j0]
theorem NH (F:Frame) {j:Nat} {k:Blk} (h:(j0 F)[j]?=some k):k.bm=0∧ ∀row∈k.rows,∀a∈row,(∃q n,a= .int q n)∨(∃b,a= .bool b)∨ ∃i n,i<F.O.length+3∧a= .ref i 0 0 n false:=by
 match j,h with
 | 0,h=>
  cases h
  refine⟨rfl,fun row aj a ar=> ?_⟩
  obtain⟨b,_,rfl⟩:=List.mem_map.1 aj
  rw[List.mem_singleton.1 ar];exact .inr (.inl ⟨_,rfl⟩)
 | 1,h=>
  cases h
  refine⟨rfl,fun row aj a ar=> ?_⟩
  obtain⟨b,_,rfl⟩:=List.mem_map.1 aj
  rcases List.mem_cons.1 ar with rfl | ar
  ·exact .inl ⟨_,_,rfl⟩
  ·rw[List.mem_singleton.1 ar];exact .inl ⟨_,_,rfl⟩
 | 2,h=>
  cases h
  refine⟨rfl,fun row aj a ar=> ?_⟩
  obtain⟨i,hi⟩:=List.mem_iff_getElem?.1 aj
  obtain⟨x,id,hx,aW,rfl⟩:=tn hi
  have sS:=(List.getElem?_eq_some_iff.1 hx).1
  rw[List.getElem?_range sS] at aW
  cases aW
  have ar:a∈[AV.int .i64 x.aJ,.int .i64 x.ba,.ref (i+3) 0 0 x.ae.length false,.bool x.bS,.int .i64 x.bR]:=ar
  simp only[List.mem_cons,List.not_mem_nil,or_false] at ar
  rcases ar with rfl | rfl | rfl | rfl | rfl
  ·exact .inl ⟨_,_,rfl⟩
  ·exact .inl ⟨_,_,rfl⟩
  ·exact .inr (.inr ⟨_,_,by omega,rfl⟩)
  ·exact .inr (.inl ⟨_,rfl⟩)
  ·exact .inl ⟨_,_,rfl⟩
 | j+3,h=>
  have h:(List.map br (List.map av.ae F.O))[j]?=some k:=h
  rw[List.getElem?_map] at h
  cases q:(List.map av.ae F.O)[j]? with
  | none=>rw[q] at h;cases h
  | some x=>
   rw[q] at h;cases h
   refine⟨rfl,fun row aj a ar=> ?_⟩
   obtain⟨b,_,rfl⟩:=List.mem_map.1 aj
   rw[List.mem_singleton.1 ar];exact .inr (.inl ⟨_,rfl⟩)
theorem Xt {R T:Frame} {H:List Blk} {pre pre':List Int} (h:pre=pre'∧T=R):
  ∃db,tK (H++(j0 T).map (iD H.length)) (j0 R) db∧
   E9 (H++(j0 T).map (iD H.length)) (j0 R).length db (.agg (pre.map (AV.int .i64)++[.bool T.ok,.ref (H.length+0) 0 0 T.aB.length false,.ref (H.length+1) 0 0 T.au.length false,.ref (H.length+2) 0 0 T.O.length false]))
    (.agg (pre'.map (AV.int .i64)++[.bool R.ok,.ref 0 0 0 R.aB.length false,.ref 1 0 0 R.au.length false,.ref 2 0 0 R.O.length false])):=by
 obtain⟨rfl,rfl⟩:=h
 have hs: ∀j b,(if j<(j0 T).length then some (H.length+j) else none)=some b→j<(j0 T).length∧b=H.length+j:=fun j b e=>by
  split at e
  ·cases e;exact⟨‹_›,rfl⟩
  ·cases e
 have get: ∀j,(H++(j0 T).map (iD H.length))[H.length+j]?=((j0 T)[j]?).map (iD H.length):=fun j=>by
  rw[List.getElem?_append_right (Nat.le_add_right _ _),Nat.add_sub_cancel_left,List.getElem?_map]
 have cell: ∀a:AV,((∃q n,a= .int q n)∨(∃b,a= .bool b)∨ ∃i n,i<T.O.length+3∧a= .ref i 0 0 n false)→iH (H++(j0 T).map (iD H.length)) (j0 T).length (fun j=>if j<(j0 T).length then some (H.length+j) else none) (js H.length a) a:=fun a ar=>by
  rcases ar with⟨q,n,rfl⟩ | ⟨b,rfl⟩ | ⟨i,n,hi,rfl⟩
  ·exact .int _ _
  ·exact .bool _
  ·rw[←Xq] at hi
   refine iH.ref (blk:=iD H.length (j0 T)[i]) hi (if_pos hi) ?_ (NH T (List.getElem?_eq_getElem hi)).1
   rw[get,List.getElem?_eq_getElem hi];rfl
 refine⟨fun j=>if j<(j0 T).length then some (H.length+j) else none,⟨fun i j b hi ah aG e2=> ?_,fun j k hk=>(NH T hk).1,fun j b k hk e=> ?_⟩,.inl ⟨_,_,rfl,rfl,?_⟩⟩
 ·have:=(hs i b aG).2
  have:=(hs j b e2).2
  omega
 ·obtain⟨_,rfl⟩:=hs j b e
  refine⟨iD H.length k,by rw[get,hk];rfl,rfl,by show(List.map _ _).length=_;rw[List.length_map],fun i N6 dr ar hb=> ?_⟩
  have ar:(List.map (fun row=>row.map (js H.length)) k.rows)[i]?=some N6:=ar
  rw[List.getElem?_map,hb] at ar
  cases ar
  refine⟨by rw[List.length_map],fun l x y hx aX=> ?_⟩
  rw[List.getElem?_map,aX] at hx
  cases hx
  exact cell y ((NH T hk).2 dr (List.mem_of_getElem? hb) y (List.mem_of_getElem? aX))
 ·have aw:=Xq T
  have key: ∀l:List Int,ak (iH (H++(j0 T).map (iD H.length)) (j0 T).length (fun j=>if j<(j0 T).length then some (H.length+j) else none)) (l.map (AV.int .i64)++[.bool T.ok,.ref (H.length+0) 0 0 T.aB.length false,.ref (H.length+1) 0 0 T.au.length false,.ref (H.length+2) 0 0 T.O.length false]) (l.map (AV.int .i64)++[.bool T.ok,.ref 0 0 0 T.aB.length false,.ref 1 0 0 T.au.length false,.ref 2 0 0 T.O.length false]):=fun l=>by
   induction l with
   | nil=>exact .cons (.bool _) (.cons (cell (.ref 0 0 0 _ false) (.inr (.inr ⟨_,_,by omega,rfl⟩))) (.cons (cell (.ref 1 0 0 _ false) (.inr (.inr ⟨_,_,by omega,rfl⟩))) (.cons (cell (.ref 2 0 0 _ false) (.inr (.inr ⟨_,_,by omega,rfl⟩))) .nil)))
   | cons x r bz=>exact .cons (.int _ _) bz
  exact key pre
theorem bf.akG {P:Program} {f:FuncId} {args:List AV} {F:Frame} {l:List Int} (h:de P f args [] fun r H=>r= .agg (l.map (AV.int .i64)++[.bool F.ok,.ref 0 0 0 F.aB.length false,.ref 1 0 0 F.au.length false,.ref 2 0 0 F.O.length false])∧H=j0 F)
  (aA:F.aB.length≤4611686018427387904) (h1:F.au.length≤4611686018427387904) (h2:F.O.length≤4611686018427387904) (aD: ∀h∈F.O,h.ae.length≤4611686018427387904):bf P f args (.agg (l.map (AV.int .i64)++b9 true F)):=by
 refine h.mono fun r H ⟨aG,e2⟩=> ?_
 subst aG;subst e2
 obtain⟨cP,dd,dV⟩:=CT F.O
 have key: ∀l:List Int,ak (ho (j0 F)) (l.map (AV.int .i64)++[.bool F.ok,.ref 0 0 0 F.aB.length false,.ref 1 0 0 F.au.length false,.ref 2 0 0 F.O.length false]) (l.map (AV.int .i64)++b9 true F):=fun l=>by
  induction l with
  | nil=>
   refine ak.cons (tv rfl) (ak.cons (wN (sz:=1) rfl rfl CL ⟨aA,rfl⟩) (ak.cons (wN (sz:=2) rfl rfl Fz ⟨h1,rfl⟩) (ak.cons (P4 (s:=3) (ws:=F.O) (ids:=List.range F.O.length) (bs:=F.O.map av.ae) rfl rfl (fun id k h=>h) ⟨cP,h2,fun x hx=> ?_,dV⟩) ak.nil)))
   obtain⟨q,U,rfl⟩:=List.mem_map.1 hx
   exact aD q U
  | cons x r bz=>exact .cons (BS rfl) bz
 exact j7.agg (key l)
theorem tS {α:Type} {xs:List α} {q:α→Bool} (h:first xs q=none): ∀x∈xs,q x=false:=by
 unfold first at h;rwa [List.findIdx?_eq_none_iff] at h
theorem D_ {p:aQ} (h:iB p=true):mn p=true∧(∀s∈p.a_,cb s 0 (p.ao - 1)=true)∧(∀w∈p.O,iW p w=true)∧p.bu.length=p.O.length∧
  (∀b∈p.bu,b.length=p.O.length)∧ ∀i k:Nat,i<p.O.length→k<p.O.length→rz p i k=false:=by
 have hb:=ala h
 have aA:iO p=⟨0,0⟩:=by simpa[iB] using h
 rw[NO hb] at aA
 unfold A8 at aA
 split at aA
 ·cases aA
 rename_i h1
 unfold A9 at aA
 split at aA
 ·cases aA
 rename_i h2
 unfold q6 at aA
 split at aA
 ·rename_i aD
  split at aA
  ·cases aA
  rename_i bj
  split at aA
  ·cases aA
  rename_i cl
  refine⟨hb,fun s hs=>by simpa using tS h1 s hs,fun w hw=>by simpa using tS h2 w hw,aD,fun b U=>by simpa using tS bj b U,fun i k hi hk=> ?_⟩
  have:=tS cl i (List.mem_range.2 hi)
  rw[List.any_eq_false] at this
  simpa using this k (List.mem_range.2 hk)
 ·cases aA
def ow (p:aQ) (i k:Int):Bool:=nth (nth p.bu i) k
structure QM (p:aQ):Prop where
 len:p.bu.length=p.O.length
 row: ∀i:Int,0≤i→i<p.O.length→(nth p.bu i).length=p.O.length
 sym: ∀i k:Int,0≤i→i<p.O.length→0≤k→k<p.O.length→ow p i k=ow p k i
 apL: ∀i k:Int,0≤i→i<p.O.length→0≤k→k<p.O.length→i≠k→meets (nth p.O i).ao (nth p.O k).ao=true→ow p i k=true
theorem vN {x n:Int} (h:cb x 0 (n - 1)=true):0≤x∧x<n:=by have:=uC.1 h;omega
theorem Nk {l:List Int} {n:Int} (h:jb l n=true):l.length≤30∧ ∀x∈l,0≤x∧x<n:=by
 have:=yk.1 h
 exact⟨this.1,fun x hx=>vN (this.2.1 x hx)⟩
theorem NM {p:aQ} (h:iB p=true):tL p:=by
 obtain⟨h1,h2,aD,bj,cl,cC⟩:=D_ h
 have hb:=yE.1 h1
 have hw: ∀w∈p.O,_:=fun w hw=>ru.1 (aD w hw)
 refine⟨by omega,hb.2.2.2,hb.2.2.1,fun w m=>⟨(hw w m).1,Nk (hw w m).2.1⟩,fun w m=>Nk (hw w m).2.2.1,fun w m=>Nk (hw w m).2.2.2.1,fun w m=> ?_,fun x hx=>vN (h2 x hx)⟩
 have aw:=pA.1 (hw w m).2.2.2.2.1
 have hf:=pA.1 (hw w m).2.2.2.2.2.1
 refine⟨aw.1,hf.1,fun x hx=> ?_⟩
 rcases List.mem_append.1 hx with hx | hx
 ·have:=aw.2.1 x hx
  rw[Bool.and_eq_true] at this;exact vN this.1
 ·have:=hf.2.1 x hx
  rw[Bool.and_eq_true] at this;exact vN this.1
theorem HD {p:aQ} (h:iB p=true):QM p:=by
 obtain⟨h1,h2,aD,bj,cl,cC⟩:=D_ h
 have key: ∀i k:Int,0≤i→i<p.O.length→0≤k→k<p.O.length→ow p i k=ow p k i∧(i≠k→meets (nth p.O i).ao (nth p.O k).ao=true→ow p i k=true):=fun i k i0 i1 bc dA=>by
  have:=cC i.toNat k.toNat (by omega) (by omega)
  unfold rz vg at this
  rw[ml i0,ml bc,ml i0,ml bc,ml i0,ml bc] at this
  rw[Bool.or_eq_false_iff] at this
  refine⟨by unfold ow;simpa using this.1,fun bq hm=> ?_⟩
  have h2:=this.2
  rw[hm,Bool.and_true] at h2
  have aW:decide (i.toNat≠k.toNat)=true:=by simpa using(show i.toNat≠k.toNat by omega)
  rw[aW] at h2
  unfold ow
  simpa using h2
 exact⟨bj,fun i i0 i1=>cl _ (ee (by omega)),fun i k i0 i1 bc dA=>(key i k i0 i1 bc dA).1,fun i k i0 i1 bc dA=>(key i k i0 i1 bc dA).2⟩
def vt (p:aQ) (f:Frame) (i:Int):Bool:= !((decide ((nth f.O i).aJ<0)) || ((decide ((nth f.O i).aJ>4)) || ((((nth f.O i).ae.length:Int) !=((nth p.O i).ao.length:Int)) || ((decide ((nth f.O i).ba<0)) || (decide ((nth f.O i).ba ≥ ((nth p.O i).ao.length:Int)))))))
def xB (f:Frame) (i:Int):Bool:=bif ((nth f.O i).aJ !=4) then(!(((nth f.O i).ba !=0) || (lU (nth f.O i).ae true))) else(!(lU ((nth f.O i).ae.take (nth f.O i).ba.toNat) false))
def xC (p:aQ) (f:Frame) (i:Int):Bool:=bif ((nth f.O i).aJ==3) then(!((decide ((nth f.O i).bR<1)) || (decide ((nth f.O i).bR>p.cv)))) else(!((nth f.O i).bR !=0))
def xD (f:Frame) (i:Int):Bool:=bif ((nth f.O i).aJ==0) then(!(nth f.O i).bS) else(!(bif ((nth f.O i).aJ==2) then((nth f.O i).aJ==2) else((nth f.O i).aJ==3)) || (!(!(nth f.O i).bS)))
theorem Gh (p:aQ) (f:Frame) (i:Int):h4 p f i=(vt p f i&&(xB f i&&(xC p f i&&xD f i))):=by
 unfold h4 vt xB xC xD
 simp only
 generalize nth f.O i=h
 generalize (nth p.O i).ao.length=n
 rcases h with⟨s,g,b,d,t⟩
 have aG:b.all (fun x=> !x)= !lU b true:=by
  cases h:lU b true with
  | true=>
   rw[List.all_eq_false.2 ⟨true,z1.1 h,by simp⟩];rfl
  | false=>
   rw[List.all_eq_true.2 fun x hx=>by
    cases x with
    | false=>rfl
    | true=>rw[z1.2 hx] at h;cases h];rfl
 have e2:(b.take g.toNat).all (fun x=>x)= !lU (b.take g.toNat) false:=by
  cases h:lU (b.take g.toNat) false with
  | true=>
   rw[List.all_eq_false.2 ⟨false,z1.1 h,by simp⟩];rfl
  | false=>
   rw[List.all_eq_true.2 fun x hx=>by
    cases x with
    | true=>rfl
    | false=>rw[z1.2 hx] at h;cases h];rfl
 simp only
 rw[aG,e2]
 have cP:cb s 0 4= !((decide (s<0)) || (decide (s>4))):=by unfold cb;rw[Bool.eq_iff_iff];simp
 have dd:decide (b.length=n)= !((b.length:Int) !=(n:Int)):=by rw[Bool.eq_iff_iff];simp;omega
 have dV:cb g 0 ((n:Int) - 1)= !((decide (g<0)) || (decide (g ≥ (n:Int)))):=by unfold cb;rw[Bool.eq_iff_iff];simp;omega
 have j3:cb t 1 p.cv= !((decide (t<1)) || (decide (t>p.cv))):=by unfold cb;rw[Bool.eq_iff_iff];simp
 rw[cP,dd,dV,j3]
 generalize lU b true=B
 have aE:g=0→lU (b.take g.toNat) false=false:=fun h=>by subst h;rfl
 generalize lU (b.take g.toNat) false=C at aE
 generalize (decide (s<0))=aO
 generalize (decide (s>4))=bC
 generalize ((b.length:Int) !=(n:Int))=aaM
 generalize (decide (g<0))=ap7
 generalize (decide (g ≥ (n:Int)))=ap8
 generalize (decide (t<1))=ap9
 generalize (decide (t>p.cv))=ap_
 have hs:s=0∨s=2∨s=3∨s=4∨(s≠0∧s≠2∧s≠3∧s≠4):=by omega
 have aW:decide (t=0)= !(t !=0):=by rw[Bool.eq_iff_iff];simp
 have xz:decide (g=0)= !(g !=0):=by rw[Bool.eq_iff_iff];simp
 rw[aW,xz]
 cases S7:(g !=0) with
 | false=>
  have:C=false:=aE (by simpa using S7)
  subst this
  generalize (t !=0)=aoT
  rcases hs with rfl | rfl | rfl | rfl | ⟨aA,h2,aD,bj⟩
  ·cases B<;>cases d<;>simp[Bool.and_assoc]
  ·cases B<;>cases d<;>simp[Bool.and_assoc]
  ·cases B<;>cases d<;>simp[Bool.and_assoc]
  ·cases B<;>cases d<;>simp[Bool.and_assoc]
  ·have z0:(s==0)=false:=by simpa using aA
   have z2:(s==2)=false:=by simpa using h2
   have z3:(s==3)=false:=by simpa using aD
   have z4:(s !=4)=true:=by simpa using bj
   rw[z0,z2,z3,z4]
   simp only[aA,h2,aD,bj,if_false,decide_false,decide_true,ne_eq,not_false_eq_true]
   cases B<;>cases d<;>simp[Bool.and_assoc]
 | true=>
  clear aE S7
  generalize (t !=0)=aoT
  rcases hs with rfl | rfl | rfl | rfl | ⟨aA,h2,aD,bj⟩
  ·cases B<;>cases C<;>cases d<;>simp[Bool.and_assoc]
  ·cases B<;>cases C<;>cases d<;>simp[Bool.and_assoc]
  ·cases B<;>cases C<;>cases d<;>simp[Bool.and_assoc]
  ·cases B<;>cases C<;>cases d<;>simp[Bool.and_assoc]
  ·have z0:(s==0)=false:=by simpa using aA
   have z2:(s==2)=false:=by simpa using h2
   have z3:(s==3)=false:=by simpa using aD
   have z4:(s !=4)=true:=by simpa using bj
   rw[z0,z2,z3,z4]
   simp only[aA,h2,aD,bj,if_false,decide_false,decide_true,ne_eq,not_false_eq_true]
   cases B<;>cases C<;>cases d<;>simp[Bool.and_assoc]
def pF (x:bP):Bool:=cb x.c6 1 2&&cb x.bA 0 2
def mH (p:aQ) (f:Frame) (i k:Int):Bool:=(i !=k)&&(ow p i k&&(((nth f.O i).aJ !=0)&&((nth f.O k).aJ !=0)))
def tV (p:aQ) (f:Frame):Bool:= !((!(iB p)) || ((!f.ok) || (((f.aB.length:Int) !=p.ao) || (((f.au.length:Int) !=(p.a_.length:Int)) || ((f.O.length:Int) !=(p.O.length:Int))))))
theorem CX {p:aQ} {f:Frame}:tV p f=true↔iB p=true∧f.ok=true∧(f.aB.length:Int)=p.ao∧f.au.length=p.a_.length∧f.O.length=p.O.length:=by
 unfold tV
 simp only[Bool.not_eq_true',Bool.or_eq_false_iff,Bool.not_eq_false',bne_eq_false_iff_eq]
 constructor
 ·rintro⟨a,b,c,d,e⟩;exact⟨a,b,c,by omega,by omega⟩
 ·rintro⟨a,b,c,d,e⟩;exact⟨a,b,c,by omega,by omega⟩
theorem abP {p:aQ} {f:Frame}:Jj p f=true↔ ∀i k:Int,0≤i→i<f.O.length→0≤k→k<f.O.length→mH p f i k=false:=by
 unfold Jj
 rw[List.all_eq_true]
 have key: ∀i k:Nat,(decide (i=k) || !vg p i k || decide ((nth f.O i).aJ=0) || decide ((nth f.O k).aJ=0))= !mH p f i k:=fun i k=>by
  unfold mH ow vg
  have aG:decide (i=k)= !((i:Int) !=(k:Int)):=by rw[Bool.eq_iff_iff];simp;omega
  have e2: ∀x:Int,decide (x=0)= !(x !=0):=fun x=>by rw[Bool.eq_iff_iff];simp
  rw[aG,e2,e2]
  cases((i:Int) !=(k:Int))<;>cases nth (nth p.bu (i:Int)) (k:Int)<;>cases((nth f.O (i:Int)).aJ !=0)<;>cases((nth f.O (k:Int)).aJ !=0)<;>rfl
 constructor
 ·intro h i k i0 i1 bc dA
  have h1:=h i.toNat (List.mem_range.2 (by omega))
  rw[List.all_eq_true] at h1
  have h2:=h1 k.toNat (List.mem_range.2 (by omega))
  rw[key,Int.toNat_of_nonneg i0,Int.toNat_of_nonneg bc] at h2
  simpa using h2
 ·intro h i hi
  rw[List.all_eq_true]
  intro k hk
  rw[key,h i k (by omega) (by have:=List.mem_range.1 hi;omega) (by omega) (by have:=List.mem_range.1 hk;omega)];rfl
theorem zS {p:aQ} {f:Frame}:h3 p f=true↔tV p f=true∧(∀x∈f.au,pF x=true)∧(∀i:Int,0≤i→i<f.O.length→h4 p f i=true)∧
  (∀i k:Int,0≤i→i<f.O.length→0≤k→k<f.O.length→mH p f i k=false)∧f.O=(eJ p f).O:=by
 unfold h3 qu
 rw[CX,←abP]
 simp only[Bool.and_eq_true,decide_eq_true_eq,List.all_eq_true,List.mem_range]
 constructor
 ·rintro⟨⟨⟨⟨⟨⟨⟨⟨a,b⟩,c⟩,d⟩,e⟩,g⟩,h⟩,i⟩,j⟩
  refine⟨⟨a,b,c,d,e⟩,fun x hx=>by unfold pF;rw[Bool.and_eq_true];exact g x hx,fun q b6 q1=> ?_,i,j⟩
  have:=h q.toNat (by omega)
  rwa [Int.toNat_of_nonneg b6] at this
 ·rintro⟨⟨a,b,c,d,e⟩,g,h,i,j⟩
  exact⟨⟨⟨⟨⟨⟨⟨⟨a,b⟩,c⟩,d⟩,e⟩,fun x hx=>by have:=g x hx;unfold pF at this;rwa [Bool.and_eq_true] at this⟩,fun q U=>h q (by omega) (by omega)⟩,i⟩,j⟩
theorem KA {p:aQ} {f:Frame} (hb:tV p f=true) (bw: ∀i:Int,0≤i→i<f.O.length→vt p f i=true):iG p f:=by
 obtain⟨h1,h2,aD,bj,cl⟩:=CX.1 hb
 have key: ∀i:Nat,i<f.O.length→((nth f.O i).ae.length:Int)=((nth p.O i).ao.length:Int)∧0≤(nth f.O i).ba∧(nth f.O i).ba<((nth p.O i).ao.length:Int):=fun i hi=>by
  have:=bw i (by omega) (by omega)
  unfold vt at this
  simp only[Bool.not_eq_true',Bool.or_eq_false_iff,bne_eq_false_iff_eq,decide_eq_false_iff_not] at this
  exact⟨this.2.2.1,by omega,by omega⟩
 refine⟨aD,bj,cl,fun i h w aG e2=> ?_,fun h hm=> ?_⟩
 ·have hi:=(List.getElem?_eq_some_iff.1 aG).1
  have ah:=(List.getElem?_eq_some_iff.1 e2).1
  have:=(key i hi).1
  rw[k2 hi,k2 ah,(List.getElem?_eq_some_iff.1 aG).2,(List.getElem?_eq_some_iff.1 e2).2] at this
  omega
 ·obtain⟨i,hi,rfl⟩:=List.mem_iff_getElem.1 hm
  have:=key i hi
  rw[k2 hi] at this
  omega
theorem abO {p:aQ} {f:Frame} {i k:Int} (dq:QM p) (aw:f.O.length=p.O.length) (i0:0≤i) (i1:i<f.O.length) (bc:0≤k) (dA:k<f.O.length):mH p f i k=mH p f k i:=by
 unfold mH
 rw[dq.sym i k i0 (by omega) bc (by omega),show(i !=k)=(k !=i) by rw[Bool.eq_iff_iff];simp;omega,Bool.and_comm ((nth f.O i).aJ !=0)]
def Bn (p:aQ) (f:Frame) (n:Nat) (i:Int):Bool:=(List.range n).any fun k=>mH p f i k
theorem ale (x:bP):(bif (x.c6 !=1) then((x.c6 !=2) || ((decide (x.bA<0)) || (decide (x.bA>2)))) else((decide (x.bA<0)) || (decide (x.bA>2))))= !pF x:=by
 unfold pF cb
 by_cases h:x.c6=1
 ·rw[h,Bool.eq_iff_iff];simp
 ·have:(x.c6 !=1)=true:=by simpa using h
  rw[this,Bool.eq_iff_iff];simp;omega
def Ex (h:av):Prop:=h.ae.length≤1048576
def H4 (w:List av):Prop:=xE w≤1048576
def H3 (f:Frame):Prop:=rG f≤1048576
theorem YY {f:Frame} (h:H3 f):my f:=by
 have h:f.aB.length+f.au.length+(f.O.length+(f.O.map fun h=>h.ae.length).sum)≤1048576:=h
 refine⟨by omega,by omega,by omega,fun x hx=> ?_⟩
 have:=DY (fun h:av=>h.ae.length) hx
 omega
structure Fit (p:aQ) (f:Frame):Prop where
 qb:iB p=true
 fr:iG p f
theorem Gc {p:aQ} {f:Frame} (h:h3 p f=true):Fit p f:=by
 obtain⟨h1,h2,aD,bj,cl⟩:=zS.1 h
 refine⟨(CX.1 h1).1,KA h1 fun i i0 i1=> ?_⟩
 have:=aD i i0 i1
 rw[Gh,Bool.and_eq_true] at this;exact this.1
theorem Fit.in {p:aQ} {f:Frame} (h:Fit p f):tL p:=NM h.qb
def kD (p:aQ) (f:Frame) (i s:Int):Bool:=((nth f.O i).aJ !=0)&&((nth p.O i).ao.drop (nth f.O i).ba.toNat).contains s
def Ak (p:aQ) (f:Frame) (i s:Int):Prop:=Fit p f∧0≤i∧i<p.O.length
theorem alZ {p:aQ} (h:iB p=true) {w:Way} (hw:w∈p.O):w.ao.Nodup:=(yk.1 (ru.1 ((D_ h).2.2.1 w hw)).2.1).2.2
theorem FM {l:List Int} {g:Nat} {s:Int}:(l.drop g).contains s=true↔ ∃k,g≤k∧ ∃h:k<l.length,l[k]=s:=by
 rw[List.contains_iff_mem,List.mem_iff_getElem]
 constructor
 ·rintro⟨i,hi,he⟩
  rw[List.length_drop] at hi
  rw[List.getElem_drop] at he
  exact⟨g+i,by omega,by omega,he⟩
 ·rintro⟨k,aE,hk,he⟩
  refine⟨k - g,by rw[List.length_drop];omega,?_⟩
  rw[List.getElem_drop]
  simp only[show g+(k - g)=k by omega];exact he
theorem has_eq {l:List Int} (af:l.Nodup) {g s:Int} (aA:0≤g):(decide (pv l s ≥ g)&&decide (pv l s ≥ 0))=(l.drop g.toNat).contains s:=by
 unfold pv
 cases h:first l (fun x=>s==x) with
 | none=>
  have:(l.drop g.toNat).contains s=false:=by
   rw[←Bool.not_eq_true,FM]
   rintro⟨k,_,hk,he⟩
   have:=tS h _ (List.getElem_mem hk)
   rw[he] at this;simp at this
  rw[this];simp[Hy]
 | some i=>
  unfold first at h
  rw[List.findIdx?_eq_some_iff_getElem] at h
  obtain⟨hi,hx,_⟩:=h
  have hx:s=l[i]:=by simpa using hx
  have hx:=hx.symm
  rw[Bool.eq_iff_iff,FM]
  show(decide ((i:Int) ≥ g)&&decide ((i:Int) ≥ 0))=true↔_
  simp only[Bool.and_eq_true,decide_eq_true_eq]
  constructor
  ·intro h;exact⟨i,by omega,hi,hx⟩
  ·rintro⟨k,aE,hk,he⟩
   have:k=i:=by
    exact(List.getElem_inj af).1 (he.trans hx.symm)
   omega
def ez (q:Int→Bool) (v:Int):List Int:=((List.range v.toNat).filter fun i=>q (i:Nat)).map fun i=>((i:Nat):Int)
theorem adG (q:Int→Bool):ez q 0=[]:=rfl
theorem CU {q:Int→Bool} {v:Int} (h:0≤v):ez q (v+1)=if q v=true then ez q v++[v] else ez q v:=by
 unfold ez
 rw[show(v+1).toNat=v.toNat+1 by omega,List.range_succ,List.filter_append,List.map_append]
 have hv:((v.toNat:Nat):Int)=v:=by omega
 cases U:q v with
 | true=>simp[hv,U]
 | false=>simp[hv,U]
theorem vp (q:Int→Bool) (v:Int):(ez q v).length≤v.toNat:=by
 unfold ez
 rw[List.length_map]
 exact Nat.le_trans (List.length_filter_le _ _) (by simp)
def yi (x:c8) (k:Int):Bool:=x.bi==k
def us (l:List c8) (k:Int):Int:=Hy (first l (fun x=>x.bi==k))
def mY (l:List c8) (k:Int):Bool:=l.any fun x=>x.bi==k
theorem agN (l:List c8) (k:Int):(decide (us l k ≥ 0))=mY l k:=by
 unfold us mY
 cases h:first l (fun x=>x.bi==k) with
 | none=>
  rw[List.any_eq_false.2 fun x hx=>by rw[tS h x hx];simp];rfl
 | some i=>
  unfold first at h
  rw[List.findIdx?_eq_some_iff_getElem] at h
  obtain⟨hi,hx,_⟩:=h
  rw[List.any_eq_true.2 ⟨_,List.getElem_mem hi,hx⟩]
  show decide ((i:Int) ≥ 0)=true
  simp
def oq (p:aQ) (f:Frame) (i k:Int):Bool:=((nth f.O i).aJ !=0)&&(mY (nth p.O i).cO k || (mY (nth p.O i).bA k&&kD p f i (nth p.a_ k)))
def ki (p:aQ) (f:Frame) (k:Int):List Int:=ez (fun i=>oq p f i k) p.O.length
def wh (p:aQ) (f:Frame) (k:Int):Prop:=Fit p f∧0≤k∧k<p.a_.length
def rr (p:aQ) (f:Frame) (i k:Int):Int:=if(nth f.O i).aJ=0 then 0 else match first (nth p.O i).cO (fun x=>x.bi==k) with
 | some j=>(nth (nth p.O i).cO j).a1
 | none=>match first (nth p.O i).bA (fun x=>x.bi==k&&kD p f i (nth p.a_ k)) with
  | some j=>(nth (nth p.O i).bA j).a1
  | none=>0
def Qt (p:aQ) (f:Frame) (i k:Int):Prop:=Fit p f∧0≤i∧i<p.O.length∧0≤k∧k<p.a_.length
theorem Ni {p:aQ} (h:iB p=true) {w:Way} (hw:w∈p.O) {l:c8} (aw:l∈bY w):l.a1=1∨l.a1=2:=by
 have aE:=ru.1 ((D_ h).2.2.1 w hw)
 have key: ∀{uI:List c8},n7 p uI=true→ ∀x∈uI,x.a1=1∨x.a1=2:=fun h x hx=>by
  have:=(pA.1 h).2.1 x hx
  rw[Bool.and_eq_true] at this
  have:=uC.1 this.2
  omega
 rcases List.mem_append.1 aw with aw | aw
 ·exact key aE.2.2.2.2.1 l aw
 ·exact key aE.2.2.2.2.2.1 l aw
theorem Kv {α:Type} [Inhabited α] {xs:List α} {q:α→Bool} {j:Nat} (h:first xs q=some j):nth xs j∈xs∧q (nth xs j)=true:=by
 unfold first at h
 rw[List.findIdx?_eq_some_iff_getElem] at h
 obtain⟨hi,hx,_⟩:=h
 rw[k2 hi]
 exact⟨List.getElem_mem hi,hx⟩
theorem aoM {p:aQ} {f:Frame} {i k:Int} (h:iB p=true) (hi:i.toNat<p.O.length):decide (rr p f i k>0)=oq p f i k:=by
 unfold rr oq mY
 by_cases hs:(nth f.O i).aJ=0
 ·rw[if_pos hs,show((nth f.O i).aJ !=0)=false by simpa using hs];rfl
 ·rw[if_neg hs,show((nth f.O i).aJ !=0)=true by simpa using hs,Bool.true_and]
  have hm:=ee hi
  cases h1:first (nth p.O i).cO (fun x=>x.bi==k) with
  | some j=>
   have:=Kv h1
   rw[List.any_eq_true.2 ⟨_,this⟩,Bool.true_or]
   have:=Ni h hm (List.mem_append_right _ this.1)
   simp only[decide_eq_true_eq];omega
  | none=>
   rw[List.any_eq_false.2 fun x hx=>by rw[tS h1 x hx];simp,Bool.false_or]
   cases h2:first (nth p.O i).bA (fun x=>x.bi==k&&kD p f i (nth p.a_ k)) with
   | some j=>
    have:=Kv h2
    have aD:=this.2
    rw[Bool.and_eq_true] at aD
    rw[List.any_eq_true.2 ⟨_,this.1,aD.1⟩,aD.2,Bool.true_and]
    have:=Ni h hm (List.mem_append_left _ this.1)
    simp only[decide_eq_true_eq];omega
   | none=>
    have:((nth p.O i).bA.any (fun x=>x.bi==k)&&kD p f i (nth p.a_ k))=false:=by
     rw[Bool.and_eq_false_iff]
     cases bw:kD p f i (nth p.a_ k) with
     | false=>exact .inr rfl
     | true=>
      refine .inl (List.any_eq_false.2 fun x hx=> ?_)
      have:=tS h2 x hx
      rw[bw,Bool.and_true] at this
      rw[this];simp
    rw[this];rfl
def nn (p:aQ) (f:Frame) (w k:Int):Bool:=(k !=w)&&(((nth f.O k).aJ !=0)&&(ow p w k || (meets (nth p.O w).ao (nth p.O k).dk || meets (nth p.O w).dk (nth p.O k).ao)))
def pn (p:aQ) (f:Frame) (w s:Int):Bool:=nth f.aB s&&(hF (nth p.O w).ao s || hF (nth p.O w).dk s)
def l4 (p:aQ) (f:Frame) (w k:Int):Bool:=(bY (nth p.O w)).any fun l=>l.bi==k&& !((nth f.au k).c6==l.a1)
def jZ (p:aQ) (f:Frame) (k:Int):Bool:=decide (((ki p f k).length:Int)>0)
def lF (p:aQ) (f:Frame) (k:Int):Bool:=nth f.aB (nth p.a_ k)
def mg (p:aQ) (f:Frame) (w k:Int):Bool:=l4 p f w k&&(jZ p f k || lF p f k)
def oi (p:aQ) (f:Frame) (w:Int):su:=⟨ez (nn p f w) p.O.length,ez (pn p f w) p.ao,ez (mg p f w) p.a_.length⟩
def CW (p:aQ) (f:Frame) (w:Int):Bool:= !(ez (fun k=>l4 p f w k&&jZ p f k) p.a_.length).isEmpty
def HZ (p:aQ) (f:Frame) (w:Int):Bool:= !(ez (fun k=>l4 p f w k&&lF p f k) p.a_.length).isEmpty
def jT (p:aQ) (f:Frame) (w:Int):su×Bool×Bool:=(oi p f w,CW p f w,HZ p f w)
def codeF (p:aQ) (f:Frame) (w:Int):Int:=if(oi p f w).O≠[] then 3 else if(oi p f w).ao≠[] then 4 else if CW p f w=true then 5 else if HZ p f w=true then 6 else 0
def wO (p:aQ) (f:Frame) (w:Int):su×Int:=(oi p f w,codeF p f w)
def h9 (p:aQ) (f:Frame) (w:Int):Int:=if(nth f.O w).aJ≠0 then 2 else codeF p f w
def sp (p:aQ) (f:Frame) (w:Int):Prop:=Fit p f∧0≤w∧w<p.O.length
theorem sL {q:Int→Bool} {N v:Int} (af:N≤4611686018427387904) (aN:cq N (fun _=>false) v) (hv:decide (v<N)=true):
  (q v=true→ez q v++[v]=ez q (IntKind.i64.wrap (v+1)))∧(q v=false→ez q v=ez q (IntKind.i64.wrap (v+1)))∧(!(ez q (IntKind.i64.wrap (v+1))).isEmpty)=(!(ez q v).isEmpty || q v):=by
 rw[mE af aN.1 (by simpa using hv),CU aN.1]
 refine⟨fun h=>by rw[if_pos h],fun h=>by rw[if_neg (by rw[h];simp)],?_⟩
 cases h:q v with
 | true=>simp
 | false=>simp
theorem zP {q:Int→Bool} {N v:Int} (aN:cq N (fun _=>false) v) (hv:decide (v<N)=false):ez q v=ez q N:=by
 have: ¬v<N:=by simpa using hv
 have h1:=aN.2.1
 rw[show v=N by omega]
def pB (p:aQ) (f:Frame) (w k:Int) (j:Nat):Bool:=((bY (nth p.O w)).take j).any fun l=>l.bi==k&& !((nth f.au k).c6==l.a1)
theorem al0 (p:aQ) (f:Frame) (w k:Int) {j:Nat} (h:(bY (nth p.O w)).length≤j):pB p f w k j=l4 p f w k:=by
 unfold pB l4;rw[List.take_of_length_le h]
theorem al2 {p:aQ} {f:Frame} {w k:Int} {j:Nat} (h:j<(bY (nth p.O w)).length):pB p f w k (j+1)=(pB p f w k j || ((bY (nth p.O w))[j].bi==k&& !((nth f.au k).c6==(bY (nth p.O w))[j].a1))):=by
 unfold pB;rw[List.take_succ_eq_append_getElem h,List.any_append];simp
theorem NA {p:aQ} (h:iB p=true) {w:Way} (hw:w∈p.O):((bY w).map (·.bi)).Nodup:=(ru.1 ((D_ h).2.2.1 w hw)).2.2.2.2.2.2.1
theorem al1 {p:aQ} {f:Frame} {w k:Int} {j:Nat} (af:((bY (nth p.O w)).map (·.bi)).Nodup) (h:j<(bY (nth p.O w)).length) (hk:((bY (nth p.O w))[j].bi==k)=true):pB p f w k j=false:=by
 unfold pB
 rw[List.any_eq_false]
 intro l aw
 obtain⟨i,hi,rfl⟩:=List.mem_take_iff_getElem.1 aw
 have fx:i<(bY (nth p.O w)).length:=by omega
 intro hc
 rw[Bool.and_eq_true] at hc
 have aG:(bY (nth p.O w))[i].bi=k:=by simpa using hc.1
 have e2:(bY (nth p.O w))[j].bi=k:=by simpa using hk
 have:=(List.getElem_inj (xs:=(bY (nth p.O w)).map (·.bi)) (i:=i) (j:=j) (h₀:=by simpa using fx) (h₁:=by simpa using h) af).1 (by simp[aG,e2])
 omega
def abY (p:aQ) (f:Frame) (w k:Int) (x:List Int) (a b:Bool) (iX:List Int) (j:Int) (hL bU:Bool):Prop:=
 cq (bY (nth p.O w)).length (fun _=>false) j∧iX=(if(pB p f w k j.toNat&&(jZ p f k || lF p f k))=true then x++[k] else x)∧hL=(a || (pB p f w k j.toNat&&jZ p f k))∧bU=(b || (pB p f w k j.toNat&&lF p f k))
def zQ (p:aQ) (f:Frame) (w v:Int):Bool:= !(ez (fun k=>l4 p f w k&&jZ p f k) v).isEmpty
def Ew (p:aQ) (f:Frame) (w v:Int):Bool:= !(ez (fun k=>l4 p f w k&&lF p f k) v).isEmpty
def Aa (p:aQ) (f:Frame) (w v:Int):Int:=if zQ p f w v=true then 5 else if Ew p f w v=true then 6 else 0
def te (a:Int) (l:List c8) (k:Int):Int:=l.foldl (fun a x=>bif x.bi==k then x.a1 else a) a
theorem Wv {l:List c8} {k:Int} (h: ∀x∈l,(x.bi==k)=false): ∀a,te a l k=a:=by
 induction l with
 | nil=>intro a;rfl
 | cons x l bz=>
  intro a
  show te (bif x.bi==k then x.a1 else a) l k=a
  rw[h x List.mem_cons_self]
  exact bz (fun y aX=>h y (List.mem_cons_of_mem _ aX)) a
theorem Nh {l:List c8} {k:Int} (af:(l.map (·.bi)).Nodup) {x:c8} (hx:x∈l) (hk:(x.bi==k)=true): ∀a,te a l k=x.a1:=by
 induction l with
 | nil=>cases hx
 | cons y l bz=>
  intro a
  show te (bif y.bi==k then y.a1 else a) l k=x.a1
  rw[List.map_cons,List.nodup_cons] at af
  rcases List.mem_cons.1 hx with rfl | hx
  ·rw[hk]
   refine Wv (fun z az=> ?_) _
   have hk:x.bi=k:=by simpa using hk
   rw[←hk,beq_eq_false_iff_ne]
   intro e
   exact af.1 (List.mem_map.2 ⟨z,az,e⟩)
  ·exact bz af.2 hx _
theorem ajS {p:aQ} {f:Frame} {w k:Int} (h:iB p=true) (hw:w.toNat<p.O.length):((te 0 (bY (nth p.O w)) k==0) || (te 0 (bY (nth p.O w)) k==(nth f.au k).c6))= !l4 p f w k:=by
 have hm:=ee hw
 have af:=NA h hm
 cases hf:first (bY (nth p.O w)) (fun x=>x.bi==k) with
 | none=>
  have eG:=tS hf
  rw[Wv eG,show l4 p f w k=false from List.any_eq_false.2 fun x hx=>by rw[eG x hx];simp];rfl
 | some j=>
  obtain⟨h1,h2⟩:=Kv hf
  have aw:=Ni h hm h1
  rw[Nh af h1 h2]
  have z:((nth (bY (nth p.O w)) (j:Int)).a1==0)=false:=by rw[beq_eq_false_iff_ne];omega
  rw[z,Bool.false_or]
  have an:l4 p f w k= !((nth f.au k).c6==(nth (bY (nth p.O w)) (j:Int)).a1):=by
   cases hb:((nth f.au k).c6==(nth (bY (nth p.O w)) (j:Int)).a1) with
   | false=>exact List.any_eq_true.2 ⟨_,h1,by rw[h2,hb];rfl⟩
   | true=>
    refine List.any_eq_false.2 fun x hx hc=> ?_
    rw[Bool.and_eq_true] at hc
    have aG:=Nh af hx hc.1 0
    rw[Nh af h1 h2] at aG
    rw[aG] at hb
    rw[hb] at hc;cases hc.2
  rw[an,Bool.not_not,Bool.eq_iff_iff,beq_iff_eq,beq_iff_eq]
  exact⟨Eq.symm,Eq.symm⟩
def l8 (l:List c8) (q:List bP):List bP:=l.foldl (fun q x=>q.set x.bi.toNat ⟨x.a1,(nth q x.bi).bA⟩) q
theorem HY (l:List c8): ∀q:List bP,(l8 l q).length=q.length:=by
 induction l with
 | nil=>intro q;rfl
 | cons x l bz=>intro q;show(l8 l _).length=_;rw[bz,List.length_set]
theorem YD {l:List c8} {q:List bP} {j:Nat} (h:j<l.length):l8 (l.take (j+1)) q=(l8 (l.take j) q).set l[j].bi.toNat ⟨l[j].a1,(nth (l8 (l.take j) q) l[j].bi).bA⟩:=by
 unfold l8
 rw[List.take_succ_eq_append_getElem h,List.foldl_append];rfl
def qz (p:aQ) (i:Nat) (h:av):av:=if h.aJ=3 then(if IntKind.i64.wrap (h.bR - 1)=0 then dE p i else{h with bR:=IntKind.i64.wrap (h.bR - 1)}) else h
def kp (p:aQ):Nat→List av→List av
 | 0,ws=>ws
 | n+1,ws=>let g:=kp p n ws;g.set n (qz p n (nth g n))
theorem Qg (p:aQ) (ws:List av): ∀n,(kp p n ws).length=ws.length
 | 0=>rfl
 | n+1=>by show(List.set _ _ _).length=_;rw[List.length_set];exact Qg p ws n
def gb (p:aQ) (f:Frame) (e:Event):Int:=
 if e.op=1 then h9 p f e.aC
 else if e.op=2 then(if(nth f.O e.aC).aJ≠1∧(nth f.O e.aC).aJ≠2 then 2 else 0)
 else if e.op=6 then(if jZ p f e.aC=true then 2 else if lF p f e.aC=true then 3 else 0)
 else 0
def jy (p:aQ) (f:Frame) (e:Event):Frame:=
 if e.op=1 then{f with au:=l8 (bY (nth p.O e.aC)) f.au,O:=f.O.set e.aC.toNat {nth f.O e.aC with aJ:=1}}
 else if e.op=2 then(if((nth f.O e.aC).bS&&h8 f (nth p.O e.aC).eb)=true then{f with O:=f.O.set e.aC.toNat {nth f.O e.aC with aJ:=3,bR:=p.cv}} else{f with O:=f.O.set e.aC.toNat (dE p e.aC)})
 else if e.op=3∨e.op=4 then{f with aB:=f.aB.set e.aC.toNat (e.op==3)}
 else if e.op=5 then{f with au:=f.au.set e.aC.toNat ⟨(nth f.au e.aC).c6,e.a1⟩}
 else if e.op=6 then{f with au:=f.au.set e.aC.toNat ⟨e.a1,(nth f.au e.aC).bA⟩}
 else if e.op=7 then{f with O:=kp p f.O.length f.O}
 else f
def lT (p:aQ) (f:Frame) (e:Event):jO:=if gb p f e≠0 then⟨gb p f e,f⟩ else⟨0,eJ p (jy p f e)⟩
def FK (p:aQ) (f:Frame) (e:Event):Prop:=Fit p f∧hE p e=true
theorem iG.tq {p:aQ} {f:Frame} (h:iG p f) {i:Nat} {x:av} (hx:i<f.O.length→x.ae.length=(nth p.O i).ao.length∧0≤x.ba∧x.ba≤x.ae.length):iG p {f with O:=f.O.set i x}:=by
 refine⟨h.aB,h.au,by rw[List.length_set];exact h.O,fun j y w h1 h2=> ?_,fun y aX=> ?_⟩
 ·replace h1:(f.O.set i x)[j]?=some y:=h1
  rw[List.getElem?_set] at h1
  split at h1
  ·rename_i e;subst e
   split at h1
   ·rename_i af
    cases h1
    rw[(hx af).1,k2 (by have:=h.O;omega)]
    rw[List.getElem?_eq_getElem (by have:=h.O;omega)] at h2
    cases h2;rfl
   ·cases h1
  ·exact h.ae j y w h1 h2
 ·rcases List.mem_or_eq_of_mem_set aX with aX | rfl
  ·exact h.ba y aX
  ·by_cases af:i<f.O.length
   ·exact(hx af).2
   ·rw[List.set_eq_of_length_le (by omega)] at aX
    exact h.ba _ aX
theorem iG.at {p:aQ} {f:Frame} (h:iG p f) {i:Nat} (hi:i<f.O.length):(nth f.O i).ae.length=(nth p.O i).ao.length∧0≤(nth f.O i).ba∧(nth f.O i).ba≤(nth f.O i).ae.length:=by
 have ah:i<p.O.length:=by have:=h.O;omega
 refine⟨h.ae i _ _ ?_ ?_,h.ba _ (ee (by simpa using hi))⟩
 ·rw[k2 hi];exact List.getElem?_eq_getElem hi
 ·rw[k2 ah];exact List.getElem?_eq_getElem ah
theorem TG (n:Nat):(pu n).ae.length=n∧0≤(pu n).ba∧(pu n).ba≤(pu n).ae.length:=by simp[pu]
theorem Qf {p:aQ} {f:Frame} (h:iG p f): ∀n,iG p {f with O:=kp p n f.O}
 | 0=>h
 | n+1=>by
  have bz:=Qf h n
  show iG p {f with O:=(kp p n f.O).set n (qz p n (nth (kp p n f.O) n))}
  refine iG.tq bz (i:=n) fun af=> ?_
  have ar:=bz.at af
  unfold qz
  split
  ·split
   ·exact TG _
   ·exact ar
  ·exact ar
theorem iG.mq {p:aQ} {f:Frame} (h:iG p f) {o:List Bool} {q:List bP} (an:o.length=f.aB.length) (U:q.length=f.au.length):iG p {f with aB:=o,au:=q}:=
 ⟨by show(o.length:Int)=_;rw[an];exact h.aB,by show q.length=_;rw[U];exact h.au,h.O,h.ae,h.ba⟩
theorem JZ {p:aQ} {f:Frame} {e:Event} (h:iG p f) (aA:e.op=1∨e.op=2→0≤e.aC∧e.aC<p.O.length):iG p (jy p f e):=by
 unfold jy
 split
 ·rename_i an
  have aY:=aA (.inl an)
  have aw:=h.O
  have ar:=h.at (i:=e.aC.toNat) (by omega)
  rw[ml aY.1] at ar
  exact iG.tq (h.mq rfl (HY _ _)) fun _=>ar
 ·split
  ·rename_i an
   have aY:=aA (.inr an)
   have aw:=h.O
   have ar:=h.at (i:=e.aC.toNat) (by omega)
   rw[ml aY.1] at ar
   split
   ·exact h.tq fun _=>ar
   ·refine h.tq fun _=> ?_
    have:=TG (nth p.O e.aC).ao.length
    rw[ml aY.1];exact this
  ·split
   ·exact h.mq (List.length_set) rfl
   ·split
    ·exact h.mq rfl (List.length_set)
    ·split
     ·exact h.mq rfl (List.length_set)
     ·split
      ·exact Qf h _
      ·exact h
theorem xg {p:aQ} {e:Event} (h:hE p e=true) (an:e.op=1∨e.op=2):0≤e.aC∧e.aC<p.O.length:=by
 rw[Kc an,Bool.and_eq_true] at h
 exact vN h.1
theorem Ki {p:aQ} {e:Event} (h:hE p e=true) (an:e.op=3∨e.op=4):0≤e.aC∧e.aC<p.ao:=by
 rw[Kd (by omega) an,Bool.and_eq_true] at h
 exact vN h.1
theorem F0 {p:aQ} {e:Event} (h:hE p e=true) (an:e.op=5∨e.op=6):0≤e.aC∧e.aC<p.a_.length:=by
 rcases an with an | an
 ·rw[Ke an,Bool.and_eq_true] at h;exact vN h.1
 ·rw[Kf an,Bool.and_eq_true] at h;exact vN h.1
theorem Sj {p:aQ} {f:Frame} (h:Fit p f):my f:=by
 have cF:=h.in
 have dj:=h.fr
 have h1:=cF.c0
 have h2:=cF.bi
 have aD:=cF.O
 have bj:=dj.aB
 have cl:=dj.au
 have cC:=dj.O
 refine⟨by omega,by omega,by omega,fun x hx=> ?_⟩
 obtain⟨i,hi,rfl⟩:=List.mem_iff_getElem.1 hx
 have ah:i<p.O.length:=by omega
 have:=(cF.ao _ (List.getElem_mem ah)).2.1
 rw[dj.ae i _ _ (List.getElem?_eq_getElem hi) (List.getElem?_eq_getElem ah)];omega
end Go.Proofs.YtejmihecgodhnaaGreat.Fw
set_option linter.unusedVariables false
set_option maxRecDepth 100000
set_option maxHeartbeats 4000000
set_option linter.unusedSimpArgs false
namespace Go.Proofs.YtejmihecgodhnaaGreat.Fw
open Go
attribute [local irreducible] evS evSD WpS Weak Oper.looksAt
section
variable (a0:(List Int)) (J aa:Int)
def VV:Prop:=
 a0.length≤4611686018427387904→((decide ((IntKind.i64.wrap (J - (a0.length:Int)))<0))=true→(-1)=aa)∧((!(decide ((IntKind.i64.wrap (J - (a0.length:Int)))<0)))=true→(IntKind.i64.wrap (J - (a0.length:Int)))=aa)
theorem ai4 (ab:gS a0 J):bf Tryz.prog 34 [bB cB a0,ai J] (ai (eA a0 J)):=(fun(h:VV a0 J (eA a0 J))=>bf.run (ps:=[(.l .int),.int]) (rs:=[.int]) (x:=(a0,J,())) (r:=((eA a0 J),())) ⟨12,c5,[]⟩ ⟨[],[],[],[],[]⟩ .nil Tryz.func34 h) (by
 unfold VV
 exact fun af=>Is ab af)
def VW:dl Tryz.prog:=⟨34,[(.l .int),.int],[.int],some fun x=>gS x.1 x.2.1,fun x=>((eA x.1 x.2.1),()),fun x h=>ai4 x.1 x.2.1 h⟩
end
section
variable (a0:(List c8)) (J aa:Int)
def VX:Prop:=
 a0.length≤4611686018427387904→((decide ((IntKind.i64.wrap (J - (a0.length:Int)))<0))=true→(-1)=aa)∧((!(decide ((IntKind.i64.wrap (J - (a0.length:Int)))<0)))=true→(IntKind.i64.wrap (J - (a0.length:Int)))=aa)
theorem ai5 (ab:gS a0 J):bf Tryz.prog 115 [bB c9 a0,ai J] (ai (eA a0 J)):=(fun(h:VX a0 J (eA a0 J))=>bf.run (ps:=[(.l .a1),.int]) (rs:=[.int]) (x:=(a0,J,())) (r:=((eA a0 J),())) ⟨12,c5,[]⟩ ⟨[],[],[],[],[]⟩ .nil Tryz.func115 h) (by
 unfold VX
 exact fun af=>Is ab af)
def ai6:dl Tryz.prog:=⟨115,[(.l .a1),.int],[.int],some fun x=>gS x.1 x.2.1,fun x=>((eA x.1 x.2.1),()),fun x h=>ai5 x.1 x.2.1 h⟩
end
section
variable (a0:Way) (J aa:Int)
abbrev DP:=eA a0.cO (eA a0.bA (eA a0.ao J))
abbrev yh:=eA a0.dk (DP a0 J)
def V6:Prop:=
  ((decide ((yh a0 J)<0))=true→(-1)=aa)∧((!(decide ((yh a0 J)<0)))=true→(gS a0.eb (yh a0 J))∧(((decide ((eA a0.eb (yh a0 J))<0))=true→(-1)=aa)∧((!(decide ((eA a0.eb (yh a0 J))<0)))=true→(eA a0.eb (yh a0 J))=aa)))
def V7:Prop:=
  ((decide ((eA a0.bA (eA a0.ao J))<0))=true→(-1)=aa)∧((!(decide ((eA a0.bA (eA a0.ao J))<0)))=true→(gS a0.cO (eA a0.bA (eA a0.ao J)))∧(((decide ((DP a0 J)<0))=true→(-1)=aa)∧((!(decide ((DP a0 J)<0)))=true→(gS a0.dk (DP a0 J))∧(V6 a0 J aa))))
def V5:Prop:=
 (gS a0.ao J)∧(((decide ((eA a0.ao J)<0))=true→(-1)=aa)∧((!(decide ((eA a0.ao J)<0)))=true→(gS a0.bA (eA a0.ao J))∧(V7 a0 J aa)))
theorem ajb (ab:gS a0 J):bf Tryz.prog 85 [.agg (dS false a0),ai J] (ai (tx a0 J)):=(fun(h:V5 a0 J (tx a0 J))=>bf.run (ps:=[.e6,.int]) (rs:=[.int]) (x:=(a0,J,())) (r:=((tx a0 J),())) ⟨36,c5,[VW,ai6]⟩ ⟨[],[],[],[],[]⟩ .nil Tryz.func85 h) (by
 unfold V5 V7 V6 yh DP tx u_ eA
 have ab:0≤J∧J≤1048576:=ab
 refine⟨ab,rj (m:=a0.bA.length+a0.cO.length+a0.dk.length+a0.eb.length) ab (by omega) fun c k=>⟨k,?_⟩⟩
 rw[uH ab.1 c]
 refine rj (m:=a0.cO.length+a0.dk.length+a0.eb.length) ab (by omega) fun c k=>⟨k,?_⟩
 rw[uH ab.1 c]
 refine rj (m:=a0.dk.length+a0.eb.length) ab (by omega) fun c k=>⟨k,?_⟩
 rw[uH ab.1 c]
 refine rj (m:=a0.eb.length) ab (by omega) fun c k=>⟨k,?_⟩
 rw[uH ab.1 c]
 exact rj (m:=0) ab (by omega) fun c k=>rfl)
def ajc:dl Tryz.prog:=⟨85,[.e6,.int],[.int],some fun x=>gS x.1 x.2.1,fun x=>((tx x.1 x.2.1),()),fun x h=>ajb x.1 x.2.1 h⟩
end
section
variable (ad:Int→Int→Prop) (ag:Int→Int→Nat) (a0:(List Way)) (J aa:Int)
def V4:Prop:=
  ad (IntKind.i64.wrap (J - (a0.length:Int))) 0∧ ∀(v1:Int) (v5:Int),ad v1 v5→(((decide (v5<(a0.length:Int)))=false→v1=aa)∧((decide (v5<(a0.length:Int)))=true→(((0≤v5∧v5.toNat<a0.length)∧(gS (nth a0 v5) v1))∧((decide ((tx (nth a0 v5) v1)<0))=true→(-1)=aa))∧((!(decide ((tx (nth a0 v5) v1)<0)))=true→ad (tx (nth a0 v5) v1) (IntKind.i64.wrap (v5+1))∧ag (tx (nth a0 v5) v1) (IntKind.i64.wrap (v5+1))<ag v1 v5)))
def V1 (a0:(List Way)) (J:Int) (aa:Int) (ad:Int→Int→Prop) (ag:Int→Int→Nat):Prop:=
 a0.length≤4611686018427387904→((decide ((IntKind.i64.wrap (J - (a0.length:Int)))<0))=true→(-1)=aa)∧((!(decide ((IntKind.i64.wrap (J - (a0.length:Int)))<0)))=true→V4 ad ag a0 J aa)
theorem ai_ (ab:gS a0 J):bf Tryz.prog 35 [bB (dS false) a0,ai J] (ai (BX a0 J)):=(fun(ad:Int→Int→Prop) (ag:Int→Int→Nat) (h:V1 a0 J (BX a0 J) ad ag)=>bf.run (ps:=[(.l .e6),.int]) (rs:=[.int]) (x:=(a0,J,())) (r:=((BX a0 J),())) ⟨27,c5,[ajc]⟩ ⟨[14],[],[],[],[]⟩ (.lp [] [0] [] [.int,.int] [1,5] (fun aL=>[(1,.i .i64 aL.1),(5,.i .i64 aL.2.1)]) (fun aL=>ad aL.1 aL.2.1) (fun aL=>ag aL.1 aL.2.1) fun _=> .nil) Tryz.func35 h) (BU a0 u_ J) (BV a0) (by
 unfold V1 V4
 exact fun af=>Qa (g:=tx) (fun _ _=>rfl) ab af)
def aja:dl Tryz.prog:=⟨35,[(.l .e6),.int],[.int],some fun x=>gS x.1 x.2.1,fun x=>((BX x.1 x.2.1),()),fun x h=>ai_ x.1 x.2.1 h⟩
end
section
variable (a0:(List Bool)) (J aa:Int)
def VP:Prop:=
 a0.length≤4611686018427387904→((decide ((IntKind.i64.wrap (J - (a0.length:Int)))<0))=true→(-1)=aa)∧((!(decide ((IntKind.i64.wrap (J - (a0.length:Int)))<0)))=true→(IntKind.i64.wrap (J - (a0.length:Int)))=aa)
theorem aiY (ab:gS a0 J):bf Tryz.prog 37 [bB aT a0,ai J] (ai (eA a0 J)):=(fun(h:VP a0 J (eA a0 J))=>bf.run (ps:=[(.l .bool),.int]) (rs:=[.int]) (x:=(a0,J,())) (r:=((eA a0 J),())) ⟨12,c5,[]⟩ ⟨[],[],[],[],[]⟩ .nil Tryz.func37 h) (by
 unfold VP
 exact fun af=>Is ab af)
def Nb:dl Tryz.prog:=⟨37,[(.l .bool),.int],[.int],some fun x=>gS x.1 x.2.1,fun x=>((eA x.1 x.2.1),()),fun x h=>aiY x.1 x.2.1 h⟩
end
section
variable (ad:Int→Int→Prop) (ag:Int→Int→Nat) (a0:(List (List Bool))) (J aa:Int)
def VO:Prop:=
  ad (IntKind.i64.wrap (J - (a0.length:Int))) 0∧ ∀(v1:Int) (v5:Int),ad v1 v5→(((decide (v5<(a0.length:Int)))=false→v1=aa)∧((decide (v5<(a0.length:Int)))=true→(((0≤v5∧v5.toNat<a0.length)∧(gS (nth a0 v5) v1))∧((decide ((eA (nth a0 v5) v1)<0))=true→(-1)=aa))∧((!(decide ((eA (nth a0 v5) v1)<0)))=true→ad (eA (nth a0 v5) v1) (IntKind.i64.wrap (v5+1))∧ag (eA (nth a0 v5) v1) (IntKind.i64.wrap (v5+1))<ag v1 v5)))
def VN (a0:(List (List Bool))) (J:Int) (aa:Int) (ad:Int→Int→Prop) (ag:Int→Int→Nat):Prop:=
 a0.length≤4611686018427387904→((decide ((IntKind.i64.wrap (J - (a0.length:Int)))<0))=true→(-1)=aa)∧((!(decide ((IntKind.i64.wrap (J - (a0.length:Int)))<0)))=true→VO ad ag a0 J aa)
theorem aiW (ab:gS a0 J):bf Tryz.prog 36 [bB (gO aT false) a0,ai J] (ai (wP a0 J)):=(fun(ad:Int→Int→Prop) (ag:Int→Int→Nat) (h:VN a0 J (wP a0 J) ad ag)=>bf.run (ps:=[(.l (.l .bool)),.int]) (rs:=[.int]) (x:=(a0,J,())) (r:=((wP a0 J),())) ⟨27,c5,[Nb]⟩ ⟨[14],[],[],[],[]⟩ (.lp [] [0] [] [.int,.int] [1,5] (fun aL=>[(1,.i .i64 aL.1),(5,.i .i64 aL.2.1)]) (fun aL=>ad aL.1 aL.2.1) (fun aL=>ag aL.1 aL.2.1) fun _=> .nil) Tryz.func36 h) (BU a0 List.length J) (BV a0) (by
 unfold VN VO
 exact fun af=>Qa (g:=eA) (fun _ _=>rfl) ab af)
def aiX:dl Tryz.prog:=⟨36,[(.l (.l .bool)),.int],[.int],some fun x=>gS x.1 x.2.1,fun x=>((wP x.1 x.2.1),()),fun x h=>aiW x.1 x.2.1 h⟩
end
section
variable (a0:aQ) (J aa:Int)
abbrev yg:=BX a0.O (eA a0.a_ J)
def VZ:Prop:=
  ((decide ((yg a0 J)<0))=true→(-1)=aa)∧((!(decide ((yg a0 J)<0)))=true→(gS a0.bu (yg a0 J))∧(((decide ((wP a0.bu (yg a0 J))<0))=true→(-1)=aa)∧((!(decide ((wP a0.bu (yg a0 J))<0)))=true→(wP a0.bu (yg a0 J))=aa)))
def VY:Prop:=
 (gS a0.a_ J)∧(((decide ((eA a0.a_ J)<0))=true→(-1)=aa)∧((!(decide ((eA a0.a_ J)<0)))=true→(gS a0.O (eA a0.a_ J))∧(VZ a0 J aa)))
theorem ai7 (ab:gS a0 J):bf Tryz.prog 6 [.agg (bH false a0),ai J] (ai (sg a0 J)):=(fun(h:VY a0 J (sg a0 J))=>bf.run (ps:=[.eL,.int]) (rs:=[.int]) (x:=(a0,J,())) (r:=((sg a0 J),())) ⟨24,c5,[VW,aja,aiX]⟩ ⟨[],[],[],[],[]⟩ .nil Tryz.func6 h) (by
 unfold VY VZ yg sg mo eA BX wP
 have ab:0≤J∧J≤1048576:=ab
 refine⟨ab,rj (m:=Ci a0.O+xb a0.bu) ab (by omega) fun c k=>⟨k,?_⟩⟩
 rw[uH ab.1 c]
 refine rj (m:=xb a0.bu) ab (by omega) fun c k=>⟨k,?_⟩
 rw[uH ab.1 c]
 exact rj (m:=0) ab (by omega) fun c k=>rfl)
end
section
variable (a0 J a2:Int) (aa:Bool)
def amX:Prop:=
 ((decide (a0 ≥ J))&&(decide (a0≤a2)))=aa
theorem O8:bf Tryz.prog 41 [ai a0,ai J,ai a2] (aq (cb a0 J a2)):=(fun(h:amX a0 J a2 (cb a0 J a2))=>bf.run (ps:=[.int,.int,.int]) (rs:=[.bool]) (x:=(a0,J,a2,())) (r:=((cb a0 J a2),())) ⟨15,c5,[]⟩ ⟨[],[],[],[],[]⟩ .nil Tryz.func41 h) (by
 rfl)
def EC:dl Tryz.prog:=⟨41,[.int,.int,.int],[.bool],none,fun x=>((cb x.1 x.2.1 x.2.2.1),()),fun x h=>O8 x.1 x.2.1 x.2.2.1⟩
end
section
variable (ad:Int→Prop) (ag:Int→Nat) (bd:Int→Int→Prop) (a6:Int→Int→Nat) (a0 J:(List Int)) (aa:Bool) (v11:Int)
def Zl:Prop:=
  bd v11 0∧ ∀(j5:Int),bd v11 j5→(((decide (j5<(J.length:Int)))=false→ad (IntKind.i64.wrap (v11+1))∧ag (IntKind.i64.wrap (v11+1))<ag v11)∧((decide (j5<(J.length:Int)))=true→((0≤j5∧j5.toNat<J.length)∧(((nth a0 v11)==(nth J j5))=true→true=aa))∧((!((nth a0 v11)==(nth J j5)))=true→bd v11 (IntKind.i64.wrap (j5+1))∧a6 v11 (IntKind.i64.wrap (j5+1))<a6 v11 j5)))
def Zk (a0:(List Int)) (J:(List Int)) (aa:Bool) (ad:Int→Prop) (ag:Int→Nat) (bd:Int→Int→Prop) (a6:Int→Int→Nat):Prop:=
 a0.length≤4611686018427387904→ad 0∧ ∀(v11:Int),ad v11→(((decide (v11<(a0.length:Int)))=false→false=aa)∧((decide (v11<(a0.length:Int)))=true→(0≤v11∧v11.toNat<a0.length)∧(J.length≤4611686018427387904→Zl ad ag bd a6 a0 J aa v11)))
theorem am4:bf Tryz.prog 89 [bB cB a0,bB cB J] (aq (meets a0 J)):=(fun(ad:Int→Prop) (ag:Int→Nat) (bd:Int→Int→Prop) (a6:Int→Int→Nat) (h:Zk a0 J (meets a0 J) ad ag bd a6)=>bf.run (ps:=[(.l .int),(.l .int)]) (rs:=[.bool]) (x:=(a0,J,())) (r:=((meets a0 J),())) ⟨26,c5,[]⟩ ⟨[],[],[],[],[]⟩ (eY [1,9,10] [] 11 ad ag fun aL=>(eY [1,6,9,10,11,15,16] [] 17 (bd aL) (a6 aL) fun _=> .nil)) Tryz.func89 h) (cq a0.length (fun j=>hF J (nth a0 j))) (cI a0.length) (fun v=>cq J.length (fun k=>nth a0 v==nth J k)) (fun v=>cI J.length) (by
 unfold Zk Zl
 intro af
 refine⟨dB (dt _),fun v aN=>⟨fun hv=> ?_,fun hv=>⟨cA aN hv,fun hm=>⟨dB (dt _),fun k hK=>⟨fun hk=> ?_,fun hk=>⟨⟨cA hK hk,fun ab=> ?_⟩,fun ab=>dn (c_ hm) hK hk (not_eq ab)⟩⟩⟩⟩⟩⟩
 ·exact(ES (q:=fun x=>hF J x) aN hv).symm
 ·exact dn (c_ af) aN hv (ae7 (hI hK hk))
 ·exact(IC (q:=fun x=>hF J x) aN hv (ae9 (cA hK hk).2 ab)).symm)
def O_:dl Tryz.prog:=⟨89,[(.l .int),(.l .int)],[.bool],none,fun x=>((meets x.1 x.2.1),()),fun x h=>am4 x.1 x.2.1⟩
end
section
variable (ad:(List Int)→Int→Prop) (ag:(List Int)→Int→Nat) (a0 aa:(List Int))
def Wg:Prop:=
  ad (List.replicate (a0.length:Int).toNat (0:Int)) 0∧ ∀(aF:(List Int)) (v4:Int),ad aF v4→(((decide (v4<(a0.length:Int)))=false→aF.length≤4611686018427387904∧aF=aa)∧((decide (v4<(a0.length:Int)))=true→((0≤v4∧v4.toNat<a0.length)∧((0≤v4∧v4.toNat<aF.length)∧(v4.toNat<aF.length)))∧(ad (aF.set v4.toNat (nth a0 v4)) (IntKind.i64.wrap (v4+1))∧ag (aF.set v4.toNat (nth a0 v4)) (IntKind.i64.wrap (v4+1))<ag aF v4)))
def Wf (a0:(List Int)) (aa:(List Int)) (ad:(List Int)→Int→Prop) (ag:(List Int)→Int→Nat):Prop:=
 (a0.length≤4611686018427387904→0≤(a0.length:Int)∧8*(a0.length:Int)≤140737488355328∧(a0.length:Int)≤4611686018427387904)∧(a0.length≤4611686018427387904→Wg ad ag a0 aa)
theorem ajo (ab:small a0):bf Tryz.prog 43 [bB cB a0] (pe cB (aK a0)):=(fun(ad:(List Int)→Int→Prop) (ag:(List Int)→Int→Nat) (h:Wf a0 (aK a0) ad ag)=>bf.run (ps:=[(.l .int)]) (rs:=[(.l .int)]) (x:=(a0,())) (r:=((aK a0),())) ⟨22,c5,[]⟩ ⟨[10],[],[],[],[]⟩ (.lp [] [0] [] [(.l .int),.int] [bI 0,4] (fun aL=>[(3,.ref 0 0 aL.1.length false),(4,.i .i64 aL.2.1),(bI 0,.blk 0 .int aL.1 _ rfl)]) (fun aL=>ad aL.1 aL.2.1) (fun aL=>ag aL.1 aL.2.1) fun _=> .nil) Tryz.func43 h) (p9 a0 (fun x=>x) (0:Int)) (qM a0) (by
 unfold Wf Wg
 have ab:a0.length≤1048576:=ab
 exact⟨fun af=>⟨dt _,by omega,by omega⟩,fun af=>F6 (f:=fun x=>x) af (by simp[aK])⟩)
def Wh:dl Tryz.prog:=⟨43,[(.l .int)],[(.l .int)],some fun x=>small x.1,fun x=>((aK x.1),()),fun x h=>ajo x.1 h⟩
end
section
variable (a0 aa:c8)
def ajr:Prop:=
 (a0.bi=aa.bi)∧(a0.a1=aa.a1)
theorem ajs:bf Tryz.prog 131 [.agg (c9 a0)] (.agg (c9 (aK a0))):=(fun(h:ajr a0 (aK a0))=>bf.run (ps:=[.a1]) (rs:=[.a1]) (x:=(a0,())) (r:=((aK a0),())) ⟨11,c5,[]⟩ ⟨[],[],[],[],[]⟩ .nil Tryz.func131 h) (by
 exact⟨rfl,rfl⟩)
def ajt:dl Tryz.prog:=⟨131,[.a1],[.a1],none,fun x=>((aK x.1),()),fun x h=>ajs x.1⟩
end
section
variable (ad:(List c8)→Int→Prop) (ag:(List c8)→Int→Nat) (a0 aa:(List c8))
def Wj:Prop:=
  ad (List.replicate (a0.length:Int).toNat ({bi:=(0:Int),a1:=(0:Int)}:c8)) 0∧ ∀(aF:(List c8)) (v4:Int),ad aF v4→(((decide (v4<(a0.length:Int)))=false→aF.length≤4611686018427387904∧aF=aa)∧((decide (v4<(a0.length:Int)))=true→((0≤v4∧v4.toNat<a0.length)∧((0≤v4∧v4.toNat<aF.length)∧(v4.toNat<aF.length)))∧(ad (aF.set v4.toNat (aK (nth a0 v4))) (IntKind.i64.wrap (v4+1))∧ag (aF.set v4.toNat (aK (nth a0 v4))) (IntKind.i64.wrap (v4+1))<ag aF v4)))
def Wi (a0:(List c8)) (aa:(List c8)) (ad:(List c8)→Int→Prop) (ag:(List c8)→Int→Nat):Prop:=
 (a0.length≤4611686018427387904→0≤(a0.length:Int)∧16*(a0.length:Int)≤140737488355328∧(a0.length:Int)≤4611686018427387904)∧(a0.length≤4611686018427387904→Wj ad ag a0 aa)
theorem ajp (ab:small a0):bf Tryz.prog 116 [bB c9 a0] (pe c9 (aK a0)):=(fun(ad:(List c8)→Int→Prop) (ag:(List c8)→Int→Nat) (h:Wi a0 (aK a0) ad ag)=>bf.run (ps:=[(.l .a1)]) (rs:=[(.l .a1)]) (x:=(a0,())) (r:=((aK a0),())) ⟨23,c5,[ajt]⟩ ⟨[10],[],[],[],[]⟩ (.lp [] [0] [] [(.l .a1),.int] [bI 0,4] (fun aL=>[(3,.ref 0 0 aL.1.length false),(4,.i .i64 aL.2.1),(bI 0,.blk 0 .a1 aL.1 _ rfl)]) (fun aL=>ad aL.1 aL.2.1) (fun aL=>ag aL.1 aL.2.1) fun _=> .nil) Tryz.func116 h) (p9 a0 (aK) ({bi:=(0:Int),a1:=(0:Int)}:c8)) (qM a0) (by
 unfold Wi Wj
 have ab:a0.length≤1048576:=ab
 exact⟨fun af=>⟨dt _,by omega,by omega⟩,fun af=>F6 (f:=aK) af (DX _)⟩)
def ajq:dl Tryz.prog:=⟨116,[(.l .a1)],[(.l .a1)],some fun x=>small x.1,fun x=>((aK x.1),()),fun x h=>ajp x.1 h⟩
end
section
variable (a0 aa:Way)
def Wq:Prop:=
 (small a0.ao)∧((small a0.bA)∧((small a0.cO)∧((small a0.dk)∧((small a0.eb)∧(((aK a0.ao)=aa.ao)∧((aK a0.bA)=aa.bA)∧((aK a0.cO)=aa.cO)∧((aK a0.dk)=aa.dk)∧((aK a0.eb)=aa.eb))))))
theorem ajC (ab:Ey a0):bf Tryz.prog 90 [.agg (dS false a0)] (.agg (dS true (aK a0))):=(fun(h:Wq a0 (aK a0))=>bf.run (ps:=[.e6]) (rs:=[.e6]) (x:=(a0,())) (r:=((aK a0),())) ⟨25,c5,[Wh,ajq]⟩ ⟨[],[],[],[],[]⟩ .nil Tryz.func90 h) (by
 have ab:a0.ao.length+a0.bA.length+a0.cO.length+a0.dk.length+a0.eb.length≤1048576:=ab
 unfold Wq small
 exact⟨by omega,by omega,by omega,by omega,by omega,rfl,rfl,rfl,rfl,rfl⟩)
def ajD:dl Tryz.prog:=⟨90,[.e6],[.e6],some fun x=>Ey x.1,fun x=>((aK x.1),()),fun x h=>ajC x.1 h⟩
end
section
variable (ad:(List Way)→Int→Prop) (ag:(List Way)→Int→Nat) (a0 aa aF:(List Way)) (v4:Int)
def Wo:Prop:=
  ((decide (v4<(a0.length:Int)))=false→aF.length≤4611686018427387904∧aF=aa)∧((decide (v4<(a0.length:Int)))=true→((0≤v4∧v4.toNat<a0.length)∧((Ey (nth a0 v4))∧((0≤v4∧v4.toNat<aF.length)∧(v4.toNat<aF.length))))∧(ad (aF.set v4.toNat (aK (nth a0 v4))) (IntKind.i64.wrap (v4+1))∧ag (aF.set v4.toNat (aK (nth a0 v4))) (IntKind.i64.wrap (v4+1))<ag aF v4))
def Wp:Prop:=
  (a0.length≤4611686018427387904→0≤(a0.length:Int)∧120*(a0.length:Int)≤140737488355328∧(a0.length:Int)≤4611686018427387904)∧(a0.length≤4611686018427387904→ad (List.replicate (a0.length:Int).toNat ({ao:=([]:(List Int)),bA:=([]:(List c8)),cO:=([]:(List c8)),dk:=([]:(List Int)),eb:=([]:(List Int))}:Way)) 0∧ ∀(aF:(List Way)) (v4:Int),ad aF v4→(Wo ad ag a0 aa aF v4))
def Wn (a0:(List Way)) (aa:(List Way)) (ad:(List Way)→Int→Prop) (ag:(List Way)→Int→Nat):Prop:=
 Wp ad ag a0 aa
theorem ajA (ab:H5 a0):bf Tryz.prog 44 [bB (dS false) a0] (pe (dS false) (aK a0)):=(fun(ad:(List Way)→Int→Prop) (ag:(List Way)→Int→Nat) (h:Wn a0 (aK a0) ad ag)=>bf.run (ps:=[(.l .e6)]) (rs:=[(.l .e6)]) (x:=(a0,())) (r:=((aK a0),())) ⟨23,c5,[ajD]⟩ ⟨[10],[],[],[],[]⟩ (.lp [] [0] [] [(.l .e6),.int] [bI 0,4] (fun aL=>[(3,.ref 0 0 aL.1.length false),(4,.i .i64 aL.2.1),(bI 0,.blk 0 .e6 aL.1 _ rfl)]) (fun aL=>ad aL.1 aL.2.1) (fun aL=>ag aL.1 aL.2.1) fun _=> .nil) Tryz.func44 h) (p9 a0 aK ({ao:=([]:(List Int)),bA:=([]:(List c8)),cO:=([]:(List c8)),dk:=([]:(List Int)),eb:=([]:(List Int))}:Way)) (qM a0) (by
 unfold Wn Wp Wo
 have ab:a0.length+(a0.map u_).sum≤1048576:=ab
 refine⟨fun af=>⟨dt _,by omega,by omega⟩,fun af=>F5 (f:=aK) (φ:=fun v=>Ey (nth a0 v)) af (DX _) fun v _ hv=> ?_⟩
 have:=DY u_ (ee hv)
 unfold Ey;omega)
def ajB:dl Tryz.prog:=⟨44,[(.l .e6)],[(.l .e6)],some fun x=>H5 x.1,fun x=>((aK x.1),()),fun x h=>ajA x.1 h⟩
end
section
variable (ad:(List Bool)→Int→Prop) (ag:(List Bool)→Int→Nat) (a0 aa:(List Bool))
def Wa:Prop:=
  ad (List.replicate (a0.length:Int).toNat false) 0∧ ∀(aF:(List Bool)) (v4:Int),ad aF v4→(((decide (v4<(a0.length:Int)))=false→aF.length≤4611686018427387904∧aF=aa)∧((decide (v4<(a0.length:Int)))=true→((0≤v4∧v4.toNat<a0.length)∧((0≤v4∧v4.toNat<aF.length)∧(v4.toNat<aF.length)))∧(ad (aF.set v4.toNat (nth a0 v4)) (IntKind.i64.wrap (v4+1))∧ag (aF.set v4.toNat (nth a0 v4)) (IntKind.i64.wrap (v4+1))<ag aF v4)))
def V_ (a0:(List Bool)) (aa:(List Bool)) (ad:(List Bool)→Int→Prop) (ag:(List Bool)→Int→Nat):Prop:=
 (a0.length≤4611686018427387904→0≤(a0.length:Int)∧1*(a0.length:Int)≤140737488355328∧(a0.length:Int)≤4611686018427387904)∧(a0.length≤4611686018427387904→Wa ad ag a0 aa)
theorem ajf (ab:small a0):bf Tryz.prog 46 [bB aT a0] (pe aT (aK a0)):=(fun(ad:(List Bool)→Int→Prop) (ag:(List Bool)→Int→Nat) (h:V_ a0 (aK a0) ad ag)=>bf.run (ps:=[(.l .bool)]) (rs:=[(.l .bool)]) (x:=(a0,())) (r:=((aK a0),())) ⟨22,c5,[]⟩ ⟨[10],[],[],[],[]⟩ (.lp [] [0] [] [(.l .bool),.int] [bI 0,4] (fun aL=>[(3,.ref 0 0 aL.1.length false),(4,.i .i64 aL.2.1),(bI 0,.blk 0 .bool aL.1 _ rfl)]) (fun aL=>ad aL.1 aL.2.1) (fun aL=>ag aL.1 aL.2.1) fun _=> .nil) Tryz.func46 h) (p9 a0 (fun x=>x) false) (qM a0) (by
 unfold V_ Wa
 have ab:a0.length≤1048576:=ab
 exact⟨fun af=>⟨dt _,by omega,by omega⟩,fun af=>F6 (f:=fun x=>x) af (by simp[aK])⟩)
def Nc:dl Tryz.prog:=⟨46,[(.l .bool)],[(.l .bool)],some fun x=>small x.1,fun x=>((aK x.1),()),fun x h=>ajf x.1 h⟩
end
section
variable (ad:(List (List Bool))→Int→Prop) (ag:(List (List Bool))→Int→Nat) (a0 aa aF:(List (List Bool))) (v4:Int)
def V9:Prop:=
  ((decide (v4<(a0.length:Int)))=false→aF.length≤4611686018427387904∧aF=aa)∧((decide (v4<(a0.length:Int)))=true→((0≤v4∧v4.toNat<a0.length)∧((small (nth a0 v4))∧((0≤v4∧v4.toNat<aF.length)∧(v4.toNat<aF.length))))∧(ad (aF.set v4.toNat (aK (nth a0 v4))) (IntKind.i64.wrap (v4+1))∧ag (aF.set v4.toNat (aK (nth a0 v4))) (IntKind.i64.wrap (v4+1))<ag aF v4))
def V8 (a0:(List (List Bool))) (aa:(List (List Bool))) (ad:(List (List Bool))→Int→Prop) (ag:(List (List Bool))→Int→Nat):Prop:=
 (a0.length≤4611686018427387904→0≤(a0.length:Int)∧24*(a0.length:Int)≤140737488355328∧(a0.length:Int)≤4611686018427387904)∧(a0.length≤4611686018427387904→ad (List.replicate (a0.length:Int).toNat ([]:(List Bool))) 0∧ ∀(aF:(List (List Bool))) (v4:Int),ad aF v4→(V9 ad ag a0 aa aF v4))
theorem ajd (ab:H2 a0):bf Tryz.prog 45 [bB (gO aT false) a0] (pe (gO aT false) (aK a0)):=(fun(ad:(List (List Bool))→Int→Prop) (ag:(List (List Bool))→Int→Nat) (h:V8 a0 (aK a0) ad ag)=>bf.run (ps:=[(.l (.l .bool))]) (rs:=[(.l (.l .bool))]) (x:=(a0,())) (r:=((aK a0),())) ⟨23,c5,[Nc]⟩ ⟨[10],[],[],[],[]⟩ (.lp [] [0] [] [(.l (.l .bool)),.int] [bI 0,4] (fun aL=>[(3,.ref 0 0 aL.1.length false),(4,.i .i64 aL.2.1),(bI 0,.blk 0 (.l .bool) aL.1 _ rfl)]) (fun aL=>ad aL.1 aL.2.1) (fun aL=>ag aL.1 aL.2.1) fun _=> .nil) Tryz.func45 h) (p9 a0 aK ([]:(List Bool))) (qM a0) (by
 unfold V8 V9
 have ab:a0.length+(a0.map List.length).sum≤1048576:=ab
 refine⟨fun af=>⟨dt _,by omega,by omega⟩,fun af=>F5 (f:=aK) (φ:=fun v=>small (nth a0 v)) af (DX _) fun v _ hv=> ?_⟩
 have:=DY List.length (ee hv)
 unfold small;omega)
def aje:dl Tryz.prog:=⟨45,[(.l (.l .bool))],[(.l (.l .bool))],some fun x=>H2 x.1,fun x=>((aK x.1),()),fun x h=>ajd x.1 h⟩
end
section
variable (a0 aa:aQ)
def Wk:Prop:=
 (small a0.a_)∧((H5 a0.O)∧((H2 a0.bu)∧((a0.ao=aa.ao)∧((aK a0.a_)=aa.a_)∧((aK a0.O)=aa.O)∧((aK a0.bu)=aa.bu)∧(a0.cv=aa.cv))))
theorem aju (ab:OF a0):bf Tryz.prog 9 [.agg (bH false a0)] (.agg (bH true (aK a0))):=(fun(h:Wk a0 (aK a0))=>bf.run (ps:=[.eL]) (rs:=[.eL]) (x:=(a0,())) (r:=((aK a0),())) ⟨23,c5,[Wh,ajB,aje]⟩ ⟨[],[],[],[],[]⟩ .nil Tryz.func9 h) (by
 have ab:a0.a_.length+Ci a0.O+xb a0.bu≤1048576:=ab
 unfold Wk small H5 H2
 exact⟨by omega,by omega,by omega,rfl,rfl,rfl,rfl,rfl⟩)
end
section
variable (a0:(List Int)) (J aa:Int) (ad:Int→Prop) (ag:Int→Nat)
def YT:Prop:=
 a0.length≤4611686018427387904→ad 0∧ ∀(cT:Int),ad cT→(((decide (cT<(a0.length:Int)))=false→(-1)=aa)∧((decide (cT<(a0.length:Int)))=true→((0≤cT∧cT.toNat<a0.length)∧((J==(nth a0 cT))=true→cT=aa))∧((!(J==(nth a0 cT)))=true→ad (IntKind.i64.wrap (cT+1))∧ag (IntKind.i64.wrap (cT+1))<ag cT)))
theorem amC:bf Tryz.prog 123 [bB cB a0,ai J] (ai (pv a0 J)):=(fun(ad:Int→Prop) (ag:Int→Nat) (h:YT a0 J (pv a0 J) ad ag)=>bf.run (ps:=[(.l .int),.int]) (rs:=[.int]) (x:=(a0,J,())) (r:=((pv a0 J),())) ⟨19,c5,[]⟩ ⟨[],[],[],[],[]⟩ (eY [0,1,7] [] 8 ad ag fun _=> .nil) Tryz.func123 h) (cq a0.length (fun j=>J==nth a0 j)) (cI a0.length) (by
 unfold YT
 intro af
 refine⟨dB (dt _),fun v aN=>⟨fun hv=> ?_,fun hv=>⟨⟨cA aN hv,fun ab=> ?_⟩,fun ab=>dn (c_ af) aN hv (not_eq ab)⟩⟩⟩
 ·unfold pv;rw[sk (q:=fun x=>J==x) aN hv];rfl
 ·unfold pv;rw[sj (q:=fun x=>J==x) aN hv ab]
  have:=aN.1
  show v=(v.toNat:Int)
  omega)
def YU:dl Tryz.prog:=⟨123,[(.l .int),.int],[.int],none,fun x=>((pv x.1 x.2.1),()),fun x h=>amC x.1 x.2.1⟩
end
section
variable (a0:(List Int)) (J:Int) (aa:Bool)
def YJ:Prop:=
 (decide ((pv a0 J) ≥ 0))=aa
theorem amo:bf Tryz.prog 97 [bB cB a0,ai J] (aq (hF a0 J)):=(fun(h:YJ a0 J (hF a0 J))=>bf.run (ps:=[(.l .int),.int]) (rs:=[.bool]) (x:=(a0,J,())) (r:=((hF a0 J),())) ⟨9,c5,[YU]⟩ ⟨[],[],[],[],[]⟩ .nil Tryz.func97 h) (by
 unfold YJ
 exact agM a0 J)
def H0:dl Tryz.prog:=⟨97,[(.l .int),.int],[.bool],none,fun x=>((hF x.1 x.2.1),()),fun x h=>amo x.1 x.2.1⟩
end
section
variable (a0 J:(List Int)) (aa:Bool) (ad:Int→Prop) (ag:Int→Nat)
def Ux:Prop:=
 a0.length≤4611686018427387904→ad 0∧ ∀(v9:Int),ad v9→(((decide (v9<(a0.length:Int)))=false→false=aa)∧((decide (v9<(a0.length:Int)))=true→((0≤v9∧v9.toNat<a0.length)∧((hF J (nth a0 v9))=true→true=aa))∧((!(hF J (nth a0 v9)))=true→ad (IntKind.i64.wrap (v9+1))∧ag (IntKind.i64.wrap (v9+1))<ag v9)))
theorem aht:bf Tryz.prog 96 [bB cB a0,bB cB J] (aq (meets a0 J)):=(fun(ad:Int→Prop) (ag:Int→Nat) (h:Ux a0 J (meets a0 J) ad ag)=>bf.run (ps:=[(.l .int),(.l .int)]) (rs:=[.bool]) (x:=(a0,J,())) (r:=((meets a0 J),())) ⟨17,c5,[H0]⟩ ⟨[],[],[],[],[]⟩ (eY [1,7,8] [] 9 ad ag fun _=> .nil) Tryz.func96 h) (cq a0.length (fun j=>hF J (nth a0 j))) (cI a0.length) (by
 unfold Ux
 intro af
 refine⟨dB (dt _),fun v aN=>⟨fun hv=> ?_,fun hv=>⟨⟨cA aN hv,fun ab=> ?_⟩,fun ab=>dn (c_ af) aN hv (not_eq ab)⟩⟩⟩
 ·exact(ES (q:=fun x=>hF J x) aN hv).symm
 ·exact(IC (q:=fun x=>hF J x) aN hv ab).symm)
def MB:dl Tryz.prog:=⟨96,[(.l .int),(.l .int)],[.bool],none,fun x=>((meets x.1 x.2.1),()),fun x h=>aht x.1 x.2.1⟩
end
section
variable (a0 aa:(List c8))
abbrev Oz:=a0.length*16≤140737488355328∧a0.length≤4611686018427387904
noncomputable def amc:Code:=j8 Tryz.f124
def Oy:Prop:=
 (a0≠[]→(Oz a0)∧(a0=aa))∧(a0=[]→ ∀b2:Bool,(b2=true→[]=aa)∧(b2=false→(Oz a0)∧(a0=aa)))
theorem amd (h:Oy a0 aa):de Tryz.prog 124 [bB c9 a0] [] (fun r H=>r=ay 0 0 aa.length∧H=[⟨0,2,List.map c9 aa⟩]):=by
 refine de.toOwn ?_
 unfold Oy at h
 refine de.go (fn:=Tryz.f124) [(0,bB c9 a0)] Tryz.func124 (fun _ _=> ?_)
 show WpS _ (bO amc 1) _ ⟨bt 8 [(0,bB c9 a0)],[],[]⟩
 refine eO [] 0 [(2,c7)] [] [1] ?_
 refine jx ?_
 refine jx ?_
 refine bE [] 1 ?_
 refine Ol 2 (some 4) [(3,bB c9 a0)] c9 a0 (fun hx=> ?_) (fun hx b2=> ?_)
 ·
  replace h:=h.1 hx
  refine ef [] ?_
  refine ej.normal ?_
  refine vj (.tmp 4) false (fun q3=> ?_) (fun q3=> ?_)
  ·
   cases q3
  ·
   refine eP ?_
   refine ej.normal ?_
   obtain⟨c2,h⟩:=h
   refine mI ⟨(bt 8 [(2,ay 0 0 a0.length)]),[],[⟨0,2,List.map c9 a0⟩]⟩ (True) ?_ (fun q4=> ?_)
   ·
    replace h:=c2
    refine bE [] 3 ?_
    have cN:=h
    refine wz 3 (some 7) [(6,bB c9 a0),(5,c7)] c9 a0 (od false (List.map c9 a0)) 0 2 16 (fun r=>[⟨0,2,r⟩]) rfl cN ?_
    exact ca [(2,ay 0 0 a0.length)] trivial
   refine ji ?_
   refine mu (ay 0 0 a0.length) [ay 0 0 a0.length] ?_
   exact⟨rb [some 0],tj [some 0] rfl (by decide) ⟨rfl,(qs (b:=0) (g:=0) (sz:=2) (xs:=a0) (ys:=aa) rfl Xg h),trivial⟩,(.inr (yy (by simp) rfl rfl (by have:=congrArg List.length h;simpa using this)))⟩
 ·
  replace h:=h.2 hx b2
  refine ef [] ?_
  refine ej.normal ?_
  refine vj (.tmp 4) b2 (fun hz=> ?_) (fun hz=> ?_)
  ·
   replace h:=h.1 hz
   refine mI ⟨(bt 8 [(2,c7)]),[],[]⟩ (True) ?_ (fun gT=> ?_)
   ·
    refine bE [] 2 ?_
    exact ca [(2,c7)] trivial
   refine ji ?_
   refine ej.ret ?_
   refine mu (c7) [c7] ?_
   exact⟨rb [none],tj [none] rfl (by decide) ⟨rfl,trivial,trivial⟩,(.inr (NG (by simp) rfl rfl (by rw[←h];rfl)))⟩
  ·
   replace h:=h.2 hz
   refine eP ?_
   refine ej.normal ?_
   obtain⟨kL,h⟩:=h
   refine mI ⟨(bt 8 [(2,ay 0 0 a0.length)]),[],[⟨0,2,List.map c9 a0⟩]⟩ (True) ?_ (fun k7=> ?_)
   ·
    replace h:=kL
    refine bE [] 3 ?_
    have hO:=h
    refine wz 3 (some 7) [(6,bB c9 a0),(5,c7)] c9 a0 (od false (List.map c9 a0)) 0 2 16 (fun r=>[⟨0,2,r⟩]) rfl hO ?_
    exact ca [(2,ay 0 0 a0.length)] trivial
   refine ji ?_
   refine mu (ay 0 0 a0.length) [ay 0 0 a0.length] ?_
   exact⟨rb [some 0],tj [some 0] rfl (by decide) ⟨rfl,(qs (b:=0) (g:=0) (sz:=2) (xs:=a0) (ys:=aa) rfl Xg h),trivial⟩,(.inr (yy (by simp) rfl rfl (by have:=congrArg List.length h;simpa using this)))⟩
theorem amb (ab:small a0):de Tryz.prog 124 [bB c9 a0] [] (fun r H=>r=ay 0 0 (aK a0).length∧H=[⟨0,2,List.map c9 (aK a0)⟩]):=amd a0 (aK a0) (by
 have ab:a0.length≤1048576:=ab
 unfold Oy Oz
 refine⟨fun h=>⟨⟨by omega,by omega⟩,rfl⟩,fun h b=>⟨fun _=> ?_,fun _=>⟨⟨by omega,by omega⟩,rfl⟩⟩⟩
 exact h.symm)
end
section
variable (a0:Way) (aa:(List c8))
abbrev x5:=(aK a0.bA)++a0.cO
noncomputable def Uz:Code:=j8 Tryz.f98
def ahu:List Item:=[cS 0,cS 1,cS 3,cS 4,⟨2,true,false,[3,4]⟩,⟨5,true,false,[]⟩,cS 6]
def ahv:List (List Nat):=[[],[0],[0,1],[],[3],rg 0 5,rg 0 6]
def MC:Prop:=
 ((small a0.bA)∧(((aK a0.bA).length+a0.cO.length)*16≤140737488355328∧(aK a0.bA).length+a0.cO.length≤4611686018427387904))∧((x5 a0).length≤4611686018427387904∧(x5 a0)=aa)
theorem ahw (h:MC a0 aa):bf Tryz.prog 98 [.agg (dS false a0)] (pe c9 aa):=by
 unfold MC at h
 refine de.go (fn:=Tryz.f98) [(0,.agg (dS false a0))] Tryz.func98 (fun _ _=> ?_)
 show WpS _ (bO Uz 1) _ ⟨bt 9 [(0,.agg (dS false a0))],[],[]⟩
 refine vl [] 0 [(2,c7),(1,aS 1 0)] [0,1,1] [] [(1,(dS false a0))] [] ?_
 obtain⟨cN,h⟩:=h
 refine fX [(2,ay 0 1 (x5 a0).length)] [] id (fun _=>[⟨1,2,List.map c9 (x5 a0)⟩]) (True) ?_ (fun q2=> ?_)
 ·
  replace h:=cN
  refine qq [] 1 ahu ahv [] ?_
  obtain⟨q3,h⟩:=h
  refine Qb 5 (some 5) [(7,bB c9 a0.cO),(6,aS 1 2),(4,bB c9 a0.bA),(3,aS 1 1)] [bB c9 a0.bA] (fun L H=>xi Tryz.prog (lH Uz 6) [3,4] [(7,bB c9 a0.cO),(6,aS 1 2),(4,bB c9 a0.bA),(3,aS 1 1),(1,aS 1 0)] L H) (ay 0 0 (aK a0.bA).length) [⟨0,2,List.map c9 (aK a0.bA)⟩] (amb a0.bA q3) (ak.cons (df.jc cW) ak.nil) (uL (fun _=>rfl) rfl) (uV (uU (fun _=>rfl) rfl) (by kernel_rfl)) (Hv (ψ:=((true=true∧true=true∧((aS 1 2:AV)=aS 1 2))∧((true=true∧true=true∧((bB c9 a0.cO:AV)=bB c9 a0.cO))∧True))) (by kernel_rfl) ⟨⟨rfl,rfl,rfl⟩,⟨⟨rfl,rfl,rfl⟩,trivial⟩⟩) ?_
  have q4:=h
  refine aom 1 (some 8) [] c9 (aK a0.bA) a0.cO (od false (List.map c9 a0.cO)) 0 0 2 16 (fun _=>True) (fun r=>[⟨1,2,r⟩]) rfl q4 trivial ?_
  exact ma [(2,ay 0 1 (x5 a0).length)] trivial
 exact ji (wy (ay 0 1 (x5 a0).length) (j7.jc (wN (sz:=2) (by simp) rfl (Rm) h)))
theorem Uy (ab:A_ a0):bf Tryz.prog 98 [.agg (dS false a0)] (pe c9 (bY a0)):=ahw a0 (bY a0) (by
 obtain⟨h1,h2⟩:=ab
 unfold MC x5 aK small
 exact⟨⟨h1,by omega,by omega⟩,by rw[List.length_append];omega,rfl⟩)
def MD:dl Tryz.prog:=⟨98,[.e6],[(.l .a1)],some fun x=>A_ x.1,fun x=>((bY x.1),()),fun x h=>Uy x.1 h⟩
end
section
variable (ad:Int→Prop) (ag:Int→Nat) (a0:(List Int)) (aa:Bool)
def ahX:List Item:=(List.range 8).map cS
def ahY:List (List Nat):=[[],[],[0,1],[],[],[3,4],[3,4,5],rg 0 7]
def UY:Prop:=
  a0.length≤4611686018427387904→ad 0∧ ∀(v6:Int),ad v6→(((decide (v6<(a0.length:Int)))=false→false=aa)∧((decide (v6<(a0.length:Int)))=true→(((0≤v6∧v6≤(a0.length:Int))∧(0≤v6∧v6.toNat<a0.length))∧((hF (a0.take v6.toNat) (nth a0 v6))=true→true=aa))∧((!(hF (a0.take v6.toNat) (nth a0 v6)))=true→ad (IntKind.i64.wrap (v6+1))∧ag (IntKind.i64.wrap (v6+1))<ag v6)))
def UX (a0:(List Int)) (aa:Bool) (ad:Int→Prop) (ag:Int→Nat):Prop:=
 UY ad ag a0 aa
theorem ahV:bf Tryz.prog 137 [bB cB a0] (aq (dup a0)):=(fun(ad:Int→Prop) (ag:Int→Nat) (h:UX a0 (dup a0) ad ag)=>bf.run (ps:=[(.l .int)]) (rs:=[.bool]) (x:=(a0,())) (r:=((dup a0),())) ⟨18,c5,[H0]⟩ ⟨[],[(4,ahX,ahY)],[],[],[]⟩ (eY [0,5] [] 6 ad ag fun _=> .nil) Tryz.func137 h) (cq a0.length (fun j=>hF (a0.take j.toNat) (nth a0 j))) (cI a0.length) (by
 unfold UX UY
 intro af
 refine⟨dB (dt _),fun v aN=>⟨fun hv=> ?_,fun hv=>⟨⟨⟨⟨aN.1,aN.2.1⟩,cA aN hv⟩,fun ab=> ?_⟩,fun ab=>dn (c_ af) aN hv (not_eq ab)⟩⟩⟩
 ·exact(RL (hI aN hv)).symm
 ·exact(ac9 (cA aN hv).1 (cA aN hv).2 ab).symm)
def ahW:dl Tryz.prog:=⟨137,[(.l .int)],[.bool],none,fun x=>((dup x.1),()),fun x h=>ahV x.1⟩

end
section
variable (ad:Int→Prop) (ag:Int→Nat) (a0 J:(List Int)) (aa:Bool)
def aiB:List Item:=(List.range 9).map cS
def aiC:List (List Nat):=[[],[],[0,1],[0,1,2],[],[],[4,5],[4,5,6],rg 0 8]
def Vz:Prop:=
  ((a0.length≤4611686018427387904)∧(J.length≤4611686018427387904)→((a0.length:Int) !=(J.length:Int))=true→false=aa)∧((a0.length≤4611686018427387904)∧(J.length≤4611686018427387904)∧((!((a0.length:Int) !=(J.length:Int)))=true)→ad 0∧ ∀(v5:Int),ad v5→(((decide (v5<(a0.length:Int)))=false→true=aa)∧((decide (v5<(a0.length:Int)))=true→(((0≤v5∧v5.toNat<a0.length)∧(0≤v5∧v5.toNat<J.length))∧(((nth a0 v5) !=(nth J v5))=true→false=aa))∧((!((nth a0 v5) !=(nth J v5)))=true→ad (IntKind.i64.wrap (v5+1))∧ag (IntKind.i64.wrap (v5+1))<ag v5))))
def Vy (a0:(List Int)) (J:(List Int)) (aa:Bool) (ad:Int→Prop) (ag:Int→Nat):Prop:=
 Vz ad ag a0 J aa
theorem aiA:bf Tryz.prog 52 [bB cB a0,bB cB J] (aq (eqv a0 J)):=(fun(ad:Int→Prop) (ag:Int→Nat) (h:Vy a0 J (eqv a0 J) ad ag)=>bf.run (ps:=[(.l .int),(.l .int)]) (rs:=[.bool]) (x:=(a0,J,())) (r:=((eqv a0 J),())) ⟨26,c5,[]⟩ ⟨[13],[(6,aiB,aiC)],[],[],[]⟩ (eY [0,1] [] 5 ad ag fun _=> .nil) Tryz.func52 h) (cq a0.length (fun v=>nth a0 v !=nth J v)) (cI a0.length) (by
 unfold Vy Vz
 exact sI (ne:=fun v=>nth a0 v !=nth J v) (fun v=>by simp[eqv]))
def VA:dl Tryz.prog:=⟨52,[(.l .int),(.l .int)],[.bool],none,fun x=>((eqv x.1 x.2.1),()),fun x h=>aiA x.1 x.2.1⟩
end
section
variable (a0 J:c8) (aa:Bool)
def VD:Prop:=
 ((a0.bi !=J.bi)=true→false=aa)∧((!(a0.bi !=J.bi))=true→((a0.a1 !=J.a1)=true→false=aa)∧((!(a0.a1 !=J.a1))=true→true=aa))
theorem aiH:bf Tryz.prog 134 [.agg (c9 a0),.agg (c9 J)] (aq (eqv a0 J)):=(fun(h:VD a0 J (eqv a0 J))=>bf.run (ps:=[.a1,.a1]) (rs:=[.bool]) (x:=(a0,J,())) (r:=((eqv a0 J),())) ⟨15,c5,[]⟩ ⟨[],[],[],[],[]⟩ .nil Tryz.func134 h) (by
 unfold VD
 obtain⟨c,p⟩:=a0
 obtain⟨ct,A6⟩:=J
 simp[eqv]
 intros
 simp_all)
def aiI:dl Tryz.prog:=⟨134,[.a1,.a1],[.bool],none,fun x=>((eqv x.1 x.2.1),()),fun x h=>aiH x.1 x.2.1⟩
end
section
variable (ad:Int→Prop) (ag:Int→Nat) (a0 J:(List c8)) (aa:Bool)
def aiF:List Item:=(List.range 10).map cS
def aiG:List (List Nat):=[[],[],[0,1],[0,1,2],[],[],[4,5],[4,5,6],rg 0 8,rg 0 9]
def VC:Prop:=
  ((a0.length≤4611686018427387904)∧(J.length≤4611686018427387904)→((a0.length:Int) !=(J.length:Int))=true→false=aa)∧((a0.length≤4611686018427387904)∧(J.length≤4611686018427387904)∧((!((a0.length:Int) !=(J.length:Int)))=true)→ad 0∧ ∀(v5:Int),ad v5→(((decide (v5<(a0.length:Int)))=false→true=aa)∧((decide (v5<(a0.length:Int)))=true→(((0≤v5∧v5.toNat<a0.length)∧(0≤v5∧v5.toNat<J.length))∧((!(eqv (nth a0 v5) (nth J v5)))=true→false=aa))∧((!(!(eqv (nth a0 v5) (nth J v5))))=true→ad (IntKind.i64.wrap (v5+1))∧ag (IntKind.i64.wrap (v5+1))<ag v5))))
def VB (a0:(List c8)) (J:(List c8)) (aa:Bool) (ad:Int→Prop) (ag:Int→Nat):Prop:=
 VC ad ag a0 J aa
theorem aiD:bf Tryz.prog 127 [bB c9 a0,bB c9 J] (aq (eqv a0 J)):=(fun(ad:Int→Prop) (ag:Int→Nat) (h:VB a0 J (eqv a0 J) ad ag)=>bf.run (ps:=[(.l .a1),(.l .a1)]) (rs:=[.bool]) (x:=(a0,J,())) (r:=((eqv a0 J),())) ⟨27,c5,[aiI]⟩ ⟨[13],[(6,aiF,aiG)],[],[],[]⟩ (eY [0,1] [] 5 ad ag fun _=> .nil) Tryz.func127 h) (cq a0.length (fun v=> !(eqv (nth a0 v) (nth J v)))) (cI a0.length) (by
 unfold VB VC
 exact sI (ne:=fun v=> !(eqv (nth a0 v) (nth J v))) (fun v=>by simp[eqv]))
def aiE:dl Tryz.prog:=⟨127,[(.l .a1),(.l .a1)],[.bool],none,fun x=>((eqv x.1 x.2.1),()),fun x h=>aiD x.1 x.2.1⟩
end
section
variable (a0 J:Way) (aa:Bool)
def VM:Prop:=
  ((!(eqv a0.ao J.ao))=true→false=aa)∧((!(!(eqv a0.ao J.ao)))=true→((!(eqv a0.bA J.bA))=true→false=aa)∧((!(!(eqv a0.bA J.bA)))=true→((!(eqv a0.cO J.cO))=true→false=aa)∧((!(!(eqv a0.cO J.cO)))=true→((!(eqv a0.dk J.dk))=true→false=aa)∧((!(!(eqv a0.dk J.dk)))=true→((!(eqv a0.eb J.eb))=true→false=aa)∧((!(!(eqv a0.eb J.eb)))=true→true=aa)))))
def VL:Prop:=
 VM a0 J aa
theorem aiU:bf Tryz.prog 100 [.agg (dS false a0),.agg (dS false J)] (aq (eqv a0 J)):=(fun(h:VL a0 J (eqv a0 J))=>bf.run (ps:=[.e6,.e6]) (rs:=[.bool]) (x:=(a0,J,())) (r:=((eqv a0 J),())) ⟨35,c5,[VA,aiE]⟩ ⟨[],[],[],[],[]⟩ .nil Tryz.func100 h) (by
 unfold VL VM
 obtain⟨a,b,c,d,e⟩:=a0
 obtain⟨hL,bU,ct,CQ,bZ⟩:=J
 simp[eqv]
 refine⟨fun h h1=>absurd h1 h,fun h=>⟨fun k _ dA=>absurd dA k,?_⟩⟩
 intros
 simp_all)
def aiV:dl Tryz.prog:=⟨100,[.e6,.e6],[.bool],none,fun x=>((eqv x.1 x.2.1),()),fun x h=>aiU x.1 x.2.1⟩
end
section
variable (ad:Int→Prop) (ag:Int→Nat) (a0 J:(List Way)) (aa:Bool)
def aiS:List Item:=(List.range 10).map cS
def aiT:List (List Nat):=[[],[],[0,1],[0,1,2],[],[],[4,5],[4,5,6],rg 0 8,rg 0 9]
def VK:Prop:=
  ((a0.length≤4611686018427387904)∧(J.length≤4611686018427387904)→((a0.length:Int) !=(J.length:Int))=true→false=aa)∧((a0.length≤4611686018427387904)∧(J.length≤4611686018427387904)∧((!((a0.length:Int) !=(J.length:Int)))=true)→ad 0∧ ∀(v5:Int),ad v5→(((decide (v5<(a0.length:Int)))=false→true=aa)∧((decide (v5<(a0.length:Int)))=true→(((0≤v5∧v5.toNat<a0.length)∧(0≤v5∧v5.toNat<J.length))∧((!(eqv (nth a0 v5) (nth J v5)))=true→false=aa))∧((!(!(eqv (nth a0 v5) (nth J v5))))=true→ad (IntKind.i64.wrap (v5+1))∧ag (IntKind.i64.wrap (v5+1))<ag v5))))
def VJ (a0:(List Way)) (J:(List Way)) (aa:Bool) (ad:Int→Prop) (ag:Int→Nat):Prop:=
 VK ad ag a0 J aa
theorem aiQ:bf Tryz.prog 53 [bB (dS false) a0,bB (dS false) J] (aq (eqv a0 J)):=(fun(ad:Int→Prop) (ag:Int→Nat) (h:VJ a0 J (eqv a0 J) ad ag)=>bf.run (ps:=[(.l .e6),(.l .e6)]) (rs:=[.bool]) (x:=(a0,J,())) (r:=((eqv a0 J),())) ⟨27,c5,[aiV]⟩ ⟨[13],[(6,aiS,aiT)],[],[],[]⟩ (eY [0,1] [] 5 ad ag fun _=> .nil) Tryz.func53 h) (cq a0.length (fun v=> !(eqv (nth a0 v) (nth J v)))) (cI a0.length) (by
 unfold VJ VK
 exact sI (ne:=fun v=> !(eqv (nth a0 v) (nth J v))) (fun v=>by simp[eqv]))
def aiR:dl Tryz.prog:=⟨53,[(.l .e6),(.l .e6)],[.bool],none,fun x=>((eqv x.1 x.2.1),()),fun x h=>aiQ x.1 x.2.1⟩
end
section
variable (ad:Int→Prop) (ag:Int→Nat) (a0 J:(List Bool)) (aa:Bool)
def aiq:List Item:=(List.range 9).map cS
def air:List (List Nat):=[[],[],[0,1],[0,1,2],[],[],[4,5],[4,5,6],rg 0 8]
def Vq:Prop:=
  ((a0.length≤4611686018427387904)∧(J.length≤4611686018427387904)→((a0.length:Int) !=(J.length:Int))=true→false=aa)∧((a0.length≤4611686018427387904)∧(J.length≤4611686018427387904)∧((!((a0.length:Int) !=(J.length:Int)))=true)→ad 0∧ ∀(v5:Int),ad v5→(((decide (v5<(a0.length:Int)))=false→true=aa)∧((decide (v5<(a0.length:Int)))=true→(((0≤v5∧v5.toNat<a0.length)∧(0≤v5∧v5.toNat<J.length))∧(((nth a0 v5) !=(nth J v5))=true→false=aa))∧((!((nth a0 v5) !=(nth J v5)))=true→ad (IntKind.i64.wrap (v5+1))∧ag (IntKind.i64.wrap (v5+1))<ag v5))))
def Vp (a0:(List Bool)) (J:(List Bool)) (aa:Bool) (ad:Int→Prop) (ag:Int→Nat):Prop:=
 Vq ad ag a0 J aa
theorem aip:bf Tryz.prog 55 [bB aT a0,bB aT J] (aq (eqv a0 J)):=(fun(ad:Int→Prop) (ag:Int→Nat) (h:Vp a0 J (eqv a0 J) ad ag)=>bf.run (ps:=[(.l .bool),(.l .bool)]) (rs:=[.bool]) (x:=(a0,J,())) (r:=((eqv a0 J),())) ⟨26,c5,[]⟩ ⟨[13],[(6,aiq,air)],[],[],[]⟩ (eY [0,1] [] 5 ad ag fun _=> .nil) Tryz.func55 h) (cq a0.length (fun v=>nth a0 v !=nth J v)) (cI a0.length) (by
 unfold Vp Vq
 exact sI (ne:=fun v=>nth a0 v !=nth J v) (fun v=>by simp[eqv]))
def Na:dl Tryz.prog:=⟨55,[(.l .bool),(.l .bool)],[.bool],none,fun x=>((eqv x.1 x.2.1),()),fun x h=>aip x.1 x.2.1⟩
end
section
variable (ad:Int→Prop) (ag:Int→Nat) (a0 J:(List (List Bool))) (aa:Bool)
def ain:List Item:=(List.range 10).map cS
def aio:List (List Nat):=[[],[],[0,1],[0,1,2],[],[],[4,5],[4,5,6],rg 0 8,rg 0 9]
def Vo:Prop:=
  ((a0.length≤4611686018427387904)∧(J.length≤4611686018427387904)→((a0.length:Int) !=(J.length:Int))=true→false=aa)∧((a0.length≤4611686018427387904)∧(J.length≤4611686018427387904)∧((!((a0.length:Int) !=(J.length:Int)))=true)→ad 0∧ ∀(v5:Int),ad v5→(((decide (v5<(a0.length:Int)))=false→true=aa)∧((decide (v5<(a0.length:Int)))=true→(((0≤v5∧v5.toNat<a0.length)∧(0≤v5∧v5.toNat<J.length))∧((!(eqv (nth a0 v5) (nth J v5)))=true→false=aa))∧((!(!(eqv (nth a0 v5) (nth J v5))))=true→ad (IntKind.i64.wrap (v5+1))∧ag (IntKind.i64.wrap (v5+1))<ag v5))))
def Vn (a0:(List (List Bool))) (J:(List (List Bool))) (aa:Bool) (ad:Int→Prop) (ag:Int→Nat):Prop:=
 Vo ad ag a0 J aa
theorem ail:bf Tryz.prog 54 [bB (gO aT false) a0,bB (gO aT false) J] (aq (eqv a0 J)):=(fun(ad:Int→Prop) (ag:Int→Nat) (h:Vn a0 J (eqv a0 J) ad ag)=>bf.run (ps:=[(.l (.l .bool)),(.l (.l .bool))]) (rs:=[.bool]) (x:=(a0,J,())) (r:=((eqv a0 J),())) ⟨27,c5,[Na]⟩ ⟨[13],[(6,ain,aio)],[],[],[]⟩ (eY [0,1] [] 5 ad ag fun _=> .nil) Tryz.func54 h) (cq a0.length (fun v=> !(eqv (nth a0 v) (nth J v)))) (cI a0.length) (by
 unfold Vn Vo
 exact sI (ne:=fun v=> !(eqv (nth a0 v) (nth J v))) (fun v=>by simp[eqv]))
def aim:dl Tryz.prog:=⟨54,[(.l (.l .bool)),(.l (.l .bool))],[.bool],none,fun x=>((eqv x.1 x.2.1),()),fun x h=>ail x.1 x.2.1⟩
end
section
variable (a0 J:aQ) (aa:Bool)
def VF:Prop:=
  ((a0.ao !=J.ao)=true→false=aa)∧((!(a0.ao !=J.ao))=true→((!(eqv a0.a_ J.a_))=true→false=aa)∧((!(!(eqv a0.a_ J.a_)))=true→((!(eqv a0.O J.O))=true→false=aa)∧((!(!(eqv a0.O J.O)))=true→((!(eqv a0.bu J.bu))=true→false=aa)∧((!(!(eqv a0.bu J.bu)))=true→((a0.cv !=J.cv)=true→false=aa)∧((!(a0.cv !=J.cv))=true→true=aa)))))
def VE:Prop:=
 VF a0 J aa
theorem aiJ:bf Tryz.prog 13 [.agg (bH false a0),.agg (bH false J)] (aq (eqv a0 J)):=(fun(h:VE a0 J (eqv a0 J))=>bf.run (ps:=[.eL,.eL]) (rs:=[.bool]) (x:=(a0,J,())) (r:=((eqv a0 J),())) ⟨33,c5,[VA,aiR,aim]⟩ ⟨[],[],[],[],[]⟩ .nil Tryz.func13 h) (by
 unfold VE VF
 obtain⟨a,b,c,d,e⟩:=a0
 obtain⟨hL,bU,ct,CQ,bZ⟩:=J
 simp[eqv]
 refine⟨fun h h1=>absurd h1 h,fun h=>⟨fun k _ dA=>absurd dA k,?_⟩⟩
 intros
 simp_all)
end
section
variable (ad:Int→Prop) (ag:Int→Nat) (bd:Int→Int→Prop) (a6:Int→Int→Nat) (a0:(List Int)) (J:Int) (aa:Bool) (v10:Int)
def Zj:Prop:=
  ((!(cb (nth a0 v10) 0 (IntKind.i64.wrap (J - 1))))=true→false=aa)∧((!(!(cb (nth a0 v10) 0 (IntKind.i64.wrap (J - 1)))))=true→bd v10 0∧ ∀(fV:Int),bd v10 fV→(((decide (fV<v10))=false→ad (IntKind.i64.wrap (v10+1))∧ag (IntKind.i64.wrap (v10+1))<ag v10)∧((decide (fV<v10))=true→((0≤fV∧fV.toNat<a0.length)∧(((nth a0 fV)==(nth a0 v10))=true→false=aa))∧((!((nth a0 fV)==(nth a0 v10)))=true→bd v10 (IntKind.i64.wrap (fV+1))∧a6 v10 (IntKind.i64.wrap (fV+1))<a6 v10 fV))))
def Zi (a0:(List Int)) (J:Int) (aa:Bool) (ad:Int→Prop) (ag:Int→Nat) (bd:Int→Int→Prop) (a6:Int→Int→Nat):Prop:=
 a0.length≤4611686018427387904→ad 0∧ ∀(v10:Int),ad v10→(((decide (v10<(a0.length:Int)))=false→(decide ((a0.length:Int)≤30))=aa)∧((decide (v10<(a0.length:Int)))=true→(0≤v10∧v10.toNat<a0.length)∧(Zj ad ag bd a6 a0 J aa v10)))
theorem am2 (ab:Ea a0 J):bf Tryz.prog 135 [bB cB a0,ai J] (aq (jb a0 J)):=(fun(ad:Int→Prop) (ag:Int→Nat) (bd:Int→Int→Prop) (a6:Int→Int→Nat) (h:Zi a0 J (jb a0 J) ad ag bd a6)=>bf.run (ps:=[(.l .int),.int]) (rs:=[.bool]) (x:=(a0,J,())) (r:=((jb a0 J),())) ⟨35,c5,[EC]⟩ ⟨[33],[],[],[],[]⟩ (eY [0,1,8,9] [] 10 ad ag fun aL=>(eY [0,1,5,6,8,9,10] [] 7 (bd aL) (a6 aL) fun _=> .nil)) Tryz.func135 h) (cq a0.length (fun j=> !cb (nth a0 j) 0 (J - 1) || hF (a0.take j.toNat) (nth a0 j))) (cI a0.length) (fun v=>cq v (fun k=>nth a0 k==nth a0 v)) (fun v=>cI v) (by
 have ab: -9223372036854775808<J∧J≤9223372036854775807:=ab
 unfold Zi Zj
 intro af
 refine⟨dB (dt _),fun v aN=>⟨fun hv=> ?_,fun hv=>⟨cA aN hv,?_⟩⟩⟩
 ·exact(WT 30).trans (ajX (hI aN hv)).symm
 ·have hi:=cA aN hv
  rw[jK (by omega) (by omega)]
  refine⟨fun h=>(Wx hi.2 h).symm,fun aj=>⟨dB aN.1,fun k hK=>⟨fun hk=> ?_,fun hk=> ?_⟩⟩⟩
  ·refine dn (c_ af) aN hv ?_
   rw[ae8 aN.1 (by simpa using hv) (hI hK hk),Bool.or_false]
   exact not_eq aj
  ·have kC:k<v:=by simpa using hk
   have:=hK.1
   exact⟨⟨⟨by omega,by omega⟩,fun he=>(ajW hK.1 kC (by omega) he).symm⟩,fun he=>dn (by omega) hK hk (not_eq he)⟩)
def am3:dl Tryz.prog:=⟨135,[(.l .int),.int],[.bool],some fun x=>Ea x.1 x.2.1,fun x=>((jb x.1 x.2.1),()),fun x h=>am2 x.1 x.2.1 h⟩
end
section
variable (ad:Int→Prop) (ag:Int→Nat) (bd:Int→Int→Prop) (a6:Int→Int→Nat) (a0:aQ) (J:(List c8)) (aa:Bool) (v10:Int)
abbrev O9:=(!(cb (nth J v10).bi 0 (IntKind.i64.wrap ((a0.a_.length:Int) - 1)))) || (!(cb (nth J v10).a1 1 2))
def am0:List Item:=(List.range 8).map cS
def am1:List (List Nat):=[[],[],[0,1],[0,1,2],rg 0 4,[],[5],rg 0 7]
def Zg:Prop:=
  bd v10 0∧ ∀(fV:Int),bd v10 fV→(((decide (fV<v10))=false→ad (IntKind.i64.wrap (v10+1))∧ag (IntKind.i64.wrap (v10+1))<ag v10)∧((decide (fV<v10))=true→((0≤fV∧fV.toNat<J.length)∧(((nth J fV).bi==(nth J v10).bi)=true→false=aa))∧((!((nth J fV).bi==(nth J v10).bi))=true→bd v10 (IntKind.i64.wrap (fV+1))∧a6 v10 (IntKind.i64.wrap (fV+1))<a6 v10 fV)))
def Zh:Prop:=
  (a0.a_.length≤4611686018427387904→(O9 a0 J v10)=true→false=aa)∧((a0.a_.length≤4611686018427387904)∧((!(O9 a0 J v10))=true)→Zg ad ag bd a6 J aa v10)
def Zf (a0:aQ) (J:(List c8)) (aa:Bool) (ad:Int→Prop) (ag:Int→Nat) (bd:Int→Int→Prop) (a6:Int→Int→Nat):Prop:=
 J.length≤4611686018427387904→ad 0∧ ∀(v10:Int),ad v10→(((decide (v10<(J.length:Int)))=false→(decide ((J.length:Int)≤30))=aa)∧((decide (v10<(J.length:Int)))=true→(0≤v10∧v10.toNat<J.length)∧(Zh ad ag bd a6 a0 J aa v10)))
theorem amY:bf Tryz.prog 136 [.agg (bH false a0),bB c9 J] (aq (n7 a0 J)):=(fun(ad:Int→Prop) (ag:Int→Nat) (bd:Int→Int→Prop) (a6:Int→Int→Nat) (h:Zf a0 J (n7 a0 J) ad ag bd a6)=>bf.run (ps:=[.eL,(.l .a1)]) (rs:=[.bool]) (x:=(a0,J,())) (r:=((n7 a0 J),())) ⟨46,c5,[EC]⟩ ⟨[44],[(9,am0,am1)],[],[],[]⟩ (eY [1,2,8,9] [(2,5)] 10 ad ag fun aL=>(eY [1,2,5,6,8,9,10] [(6,2),(2,5)] 7 (bd aL) (a6 aL) fun _=> .nil)) Tryz.func136 h) (cq J.length (fun j=>qZ a0 (nth J j) || DS J j)) (cI J.length) (fun v=>cq v (fun k=>(nth J k).bi==(nth J v).bi)) (fun v=>cI v) (by
 unfold Zf Zh Zg O9
 intro af
 refine⟨dB (dt _),fun v aN=>⟨fun hv=> ?_,fun hv=>⟨cA aN hv,?_⟩⟩⟩
 ·exact(WT 30).trans (ajU (hI aN hv)).symm
 ·have hi:=cA aN hv
  refine⟨fun hs h=> ?_,fun⟨hs,aj⟩=>⟨dB aN.1,fun k hK=>⟨fun hk=> ?_,fun hk=> ?_⟩⟩⟩
  ·rw[jK (by omega) (by omega)] at h
   exact(ajV hi.2 h).symm
  ·rw[jK (by omega) (by omega)] at aj
   refine dn (c_ af) aN hv ?_
   rw[ajR aN.1 (by simpa using hv) (hI hK hk),Bool.or_false]
   exact not_eq aj
  ·have kC:k<v:=by simpa using hk
   have:=hK.1
   exact⟨⟨⟨by omega,by omega⟩,fun he=>(ajT hK.1 kC (by omega) he).symm⟩,fun he=>dn (by omega) hK hk (not_eq he)⟩)
def amZ:dl Tryz.prog:=⟨136,[.eL,(.l .a1)],[.bool],none,fun x=>((n7 x.1 x.2.1),()),fun x h=>amY x.1 x.2.1⟩
end
section
variable (ad:Int→Prop) (ag:Int→Nat) (bd:Int→Int→Prop) (a6:Int→Int→Nat) (a0:aQ) (J:Way) (aa:Bool) (rp gW:Int)
abbrev Pa:=((J.ao.length:Int)==0) || ((!(jb J.ao a0.ao)) || ((!(jb J.dk a0.ao)) || ((!(jb J.eb a0.ao)) || ((!(n7 a0 J.bA)) || (!(n7 a0 J.cO))))))
def am9:List Item:=(List.range 11).map cS
def am_:List (List Nat):=[[],[0],[],[2],rg 0 4,rg 0 5,rg 0 6,[],[7],rg 0 9,rg 0 10]
def Zn:Prop:=
  ((decide (rp<(J.cO.length:Int)))=false→(0≤(nth J.bA gW).bi∧(nth J.bA gW).bi.toNat<a0.a_.length)∧(((!(meets [(nth a0.a_ (nth J.bA gW).bi)] J.ao))=true→false=aa)∧((!(meets [(nth a0.a_ (nth J.bA gW).bi)] J.ao))=false→ad (IntKind.i64.wrap (gW+1))∧ag (IntKind.i64.wrap (gW+1))<ag gW)))∧((decide (rp<(J.cO.length:Int)))=true→((0≤rp∧rp.toNat<J.cO.length)∧(((nth J.bA gW).bi==(nth J.cO rp).bi)=true→false=aa))∧((!((nth J.bA gW).bi==(nth J.cO rp).bi))=true→bd gW (IntKind.i64.wrap (rp+1))∧a6 gW (IntKind.i64.wrap (rp+1))<a6 gW rp))
def Zo:Prop:=
  ((J.ao.length≤4611686018427387904→((J.ao.length:Int)==0)=false→(Ea J.ao a0.ao)∧((!(jb J.ao a0.ao))=false→(Ea J.dk a0.ao)∧((!(jb J.dk a0.ao))=false→Ea J.eb a0.ao)))∧(J.ao.length≤4611686018427387904→(Pa a0 J)=true→false=aa))∧((J.ao.length≤4611686018427387904)∧((!(Pa a0 J))=true)→J.bA.length≤4611686018427387904→ad 0∧ ∀(gW:Int),ad gW→(((decide (gW<(J.bA.length:Int)))=false→(!(meets J.dk J.ao))=aa)∧((decide (gW<(J.bA.length:Int)))=true→(0≤gW∧gW.toNat<J.bA.length)∧(J.cO.length≤4611686018427387904→bd gW 0∧ ∀(rp:Int),bd gW rp→(Zn ad ag bd a6 a0 J aa rp gW)))))
def Zm (a0:aQ) (J:Way) (aa:Bool) (ad:Int→Prop) (ag:Int→Nat) (bd:Int→Int→Prop) (a6:Int→Int→Nat):Prop:=
 Zo ad ag bd a6 a0 J aa
theorem am7 (ab:NR a0 J):bf Tryz.prog 128 [.agg (bH false a0),.agg (dS false J)] (aq (iW a0 J)):=(fun(ad:Int→Prop) (ag:Int→Nat) (bd:Int→Int→Prop) (a6:Int→Int→Nat) (h:Zm a0 J (iW a0 J) ad ag bd a6)=>bf.run (ps:=[.eL,.e6]) (rs:=[.bool]) (x:=(a0,J,())) (r:=((iW a0 J),())) ⟨89,c5,[am3,amZ,O_]⟩ ⟨[],[(12,am9,am_)],[],[],[]⟩ (eY [2,3,52,53] [(3,5),(2,5)] 54 ad ag fun aL=>(eY [2,3,6,52,53,54,59,60] [(6,2),(3,5),(2,5)] 61 (bd aL) (a6 aL) fun _=> .nil)) Tryz.func128 h) (cq J.bA.length (fun j=>J.cO.any (fun y=>(nth J.bA j).bi==y.bi) || !(J.ao.contains (nth a0.a_ (nth J.bA j).bi)))) (cI J.bA.length) (fun v=>cq J.cO.length (fun k=>(nth J.bA v).bi==(nth J.cO k).bi)) (fun v=>cI J.cO.length) (by
 unfold Zm Zo Zn Pa
 refine⟨⟨fun _ _=>⟨ab,fun _=>⟨ab,fun _=>ab⟩⟩,fun af h=> ?_⟩,fun⟨af,h⟩ aw=> ?_⟩
 ·symm
  rw[←Bool.not_eq_true,ru]
  rintro⟨h1,h2,aD,bj,cl,cC,-⟩
  have az:J.ao.length≠0:=fun e=>h1 (List.eq_nil_of_length_eq_zero e)
  simp only[h2,aD,bj,cl,cC,Bool.not_true,Bool.or_false] at h
  simp at h
  exact h1 h
 ·simp only[Bool.not_eq_true',Bool.or_eq_false_iff,Bool.not_eq_false'] at h
  obtain⟨h1,h2,aD,bj,cl,cC⟩:=h
  have h1:J.ao≠[]:=fun e=>by rw[e] at h1;simp at h1
  have Tb:=pA.1 cl
  have afH:=pA.1 cC
  refine⟨dB (dt _),fun v aN=>⟨fun hv=> ?_,fun hv=>⟨cA aN hv,fun hf=>⟨dB (dt _),fun k hK=>⟨fun hk=> ?_,fun hk=>⟨⟨cA hK hk,fun he=> ?_⟩,fun he=>dn (c_ hf) hK hk (not_eq he)⟩⟩⟩⟩⟩⟩
  ·have eG:=hI aN hv
   have aW:((bY J).map (·.bi)).Nodup:=by
    rw[Nz]
    refine⟨Tb.2.2,afH.2.2,fun x hx y aX he=> ?_⟩
    have:=nI (q:=fun x=>J.cO.any (fun y=>x.bi==y.bi) || !(J.ao.contains (nth a0.a_ x.bi))) eG x hx
    simp only[Bool.or_eq_false_iff] at this
    have:=this.1
    rw[List.any_eq_false] at this
    exact this y aX (by simpa using he)
   have hc: ∀x∈J.bA,J.ao.contains (nth a0.a_ x.bi)=true:=fun x hx=>by
    have:=nI (q:=fun x=>J.cO.any (fun y=>x.bi==y.bi) || !(J.ao.contains (nth a0.a_ x.bi))) eG x hx
    simp only[Bool.or_eq_false_iff] at this
    simpa using this.2
   rw[ake,Bool.eq_iff_iff,ru]
   constructor
   ·intro hm;exact⟨h1,h2,aD,bj,cl,cC,aW,hc,by simpa using hm⟩
   ·rintro⟨-,-,-,-,-,-,-,-,hm⟩;rw[hm];rfl
  ·have cz:=Tb.2.1 _ (ee (cA aN hv).2)
   rw[Bool.and_eq_true,uC] at cz
   refine⟨⟨cz.1.1,by omega⟩,fun hm=> ?_,fun hm=> ?_⟩
   ·symm
    rw[←Bool.not_eq_true,ru]
    rintro⟨-,-,-,-,-,-,-,hc,-⟩
    rw[AQ,hc _ (ee (cA aN hv).2)] at hm
    cases hm
   ·refine dn (c_ aw) aN hv ?_
    rw[AQ] at hm
    rw[hm,Bool.or_false]
    have:=nI (q:=fun y:c8=>(nth J.bA v).bi==y.bi) (hI hK hk)
    rw[List.any_eq_false]
    intro y aX
    rw[this y aX];simp
  ·symm
   rw[←Bool.not_eq_true,ru]
   rintro⟨-,-,-,-,-,-,aW,-,-⟩
   exact(Nz.1 aW).2.2 _ (ee (cA aN hv).2) _ (ee (cA hK hk).2) (by simpa using he))
def am8:dl Tryz.prog:=⟨128,[.eL,.e6],[.bool],some fun x=>NR x.1 x.2.1,fun x=>((iW x.1 x.2.1),()),fun x h=>am7 x.1 x.2.1 h⟩
end
section
abbrev Cb (r:Type):Type:=Int→Nat→(List Int)→Int→r
variable (ad:Int→Prop) (ag:Int→Nat) (bd:Cb Prop) (a6:Cb Nat) (bX:Int→Int→Prop) (bx:Int→Int→Nat) (a0:aQ) (J:Way) (aa:Bool) (v49 hh:Int) (g0:Nat) (aF:(List Int)) (im:Int)
abbrev G1:=(decide ((nth (bY J) im).bi<0)) || ((decide ((nth (bY J) im).bi ≥ (a0.a_.length:Int))) || (((nth (bY J) im).a1 !=1)&&((nth (bY J) im).a1 !=2)))
abbrev ya:=[J.ao,J.dk,J.eb]
abbrev ta:=nth (ya J) hh
abbrev G2:=(decide (im<(J.bA.length:Int)))&&(!(hF J.ao (nth a0.a_ (nth (bY J) im).bi)))
abbrev MV:=((J.ao.length:Int)==0) || ((decide ((J.bA.length:Int)>30)) || (decide ((J.cO.length:Int)>30)))
abbrev MW:=(decide ((nth (ta J hh) v49)<0)) || (decide ((nth (ta J hh) v49) ≥ a0.ao))
abbrev MX:=(decide (((ta J hh).length:Int)>30)) || (dup (ta J hh))
def ah1:List Item:=(List.range 17).map cS
def ah2:List (List Nat):=[[],[],[1],[1,2],rg 0 4,rg 0 5,rg 0 6,rg 0 7,rg 0 6,rg 0 6++[8],rg 0 6,rg 0 6++[10],rg 0 6++rg 8 12,rg 0 6++rg 8 13,rg 0 14,rg 0 15,rg 0 16]
def U0:Prop:=
  (((decide (im<(J.bA.length:Int)))=true→0≤(nth (bY J) im).bi∧(nth (bY J) im).bi.toNat<a0.a_.length)∧((G2 a0 J im)=true→false=aa))∧((!(G2 a0 J im))=true→(aF.length+[(nth (bY J) im).bi].length)*8≤140737488355328∧aF.length+[(nth (bY J) im).bi].length≤4611686018427387904)
def U1:Prop:=
  ((G1 a0 J im)=true→false=aa)∧((!(G1 a0 J im))=true→U0 a0 J aa aF im)
def U2:Prop:=
  ((0≤im∧im.toNat<(bY J).length)∧(U1 a0 J aa aF im))∧(((!(G1 a0 J im))&&(!(G2 a0 J im)))=true→bd hh (g0+1) (aF++[(nth (bY J) im).bi]) (IntKind.i64.wrap (im+1))∧a6 hh (g0+1) (aF++[(nth (bY J) im).bi]) (IntKind.i64.wrap (im+1))<a6 hh g0 aF im)
def U3:Prop:=
  (A_ J)∧((bY J).length≤4611686018427387904→bd hh 0 ([]:List Int) 0∧ ∀(g0:Nat) (aF:(List Int)) (im:Int),bd hh g0 aF im→(((decide (im<((bY J).length:Int)))=false→(aF.length≤4611686018427387904)∧(((!(dup aF))&&(!(meets J.ao J.dk)))=aa))∧((decide (im<((bY J).length:Int)))=true→U2 bd a6 a0 J aa hh g0 aF im)))
def U4:Prop:=
  ((0≤v49∧v49.toNat<(ta J hh).length)∧((MW a0 J v49 hh)=true→false=aa))∧((!(MW a0 J v49 hh))=true→bX hh (IntKind.i64.wrap (v49+1))∧bx hh (IntKind.i64.wrap (v49+1))<bx hh v49)
def U5:Prop:=
  ((ta J hh).length≤4611686018427387904→(MX J hh)=true→false=aa)∧(((ta J hh).length≤4611686018427387904)∧((!(MX J hh))=true)→bX hh 0∧ ∀(v49:Int),bX hh v49→(((decide (v49<((ta J hh).length:Int)))=false→ad (IntKind.i64.wrap (hh+1))∧ag (IntKind.i64.wrap (hh+1))<ag hh)∧((decide (v49<((ta J hh).length:Int)))=true→U4 bX bx a0 J aa v49 hh)))
def U6:Prop:=
  (J.ao.length≤4611686018427387904→(MV J)=true→false=aa)∧((J.ao.length≤4611686018427387904)∧((!(MV J))=true)→(ya J).length≤4611686018427387904→ad 0∧ ∀(hh:Int),ad hh→(((decide (hh<((ya J).length:Int)))=false→U3 bd a6 a0 J aa hh)∧((decide (hh<((ya J).length:Int)))=true→(0≤hh∧hh.toNat<(ya J).length)∧(U5 ad ag bX bx a0 J aa hh))))
def UZ (a0:aQ) (J:Way) (aa:Bool) (ad:Int→Prop) (ag:Int→Nat) (bd:Cb Prop) (a6:Cb Nat) (bX:Int→Int→Prop) (bx:Int→Int→Nat):Prop:=
 U6 ad ag bd a6 bX bx a0 J aa
theorem ahZ:bf Tryz.prog 129 [.agg (bH false a0),.agg (dS false J)] (aq (iW a0 J)):=(fun(ad:Int→Prop) (ag:Int→Nat) (bd:Cb Prop) (a6:Cb Nat) (bX:Int→Int→Prop) (bx:Int→Int→Nat) (h:UZ a0 J (iW a0 J) ad ag bd a6 bX bx)=>bf.run (ps:=[.eL,.e6]) (rs:=[.bool]) (x:=(a0,J,())) (r:=((iW a0 J),())) ⟨126,c5,[MD,ahW,MB,H0]⟩ ⟨[48],[(21,ah1,ah2)],[],[],[]⟩ (eY [2,3,34,35] [(3,5),(2,5)] 36 ad ag fun aL=>(.zC (.lp [(0,9,.int)] [2,3,64,65] [(3,5),(2,5)] [.nat,(.l .int),.int] [bI 0,bI 0,66] (fun bn=>[(9,.ref 0 bn.1 bn.2.1.length false),(66,.i .i64 bn.2.2.1),(bI 0,.blk bn.1 .int bn.2.1 _ rfl)]) (fun bn=>bd aL bn.1 bn.2.1 bn.2.2.1) (fun bn=>a6 aL bn.1 bn.2.1 bn.2.2.1) fun _=> .nil) (eY [2,3,34,35,36,47,48] [(3,5),(2,5)] 49 (bX aL) (bx aL) fun _=> .nil))) Tryz.func129 h) (cq ([J.ao,J.dk,J.eb].length:Int) (fun k=> !jb (nth [J.ao,J.dk,J.eb] k) a0.ao)) (cI ([J.ao,J.dk,J.eb].length:Int)) (fun _ _ x v=>cq (bY J).length (r2 a0 J) v∧x=((bY J).take v.toNat).map (·.bi)) (fun _ _ _ v=>cI (bY J).length v) (fun i=>cq (nth [J.ao,J.dk,J.eb] i).length (fun j=> !cb (nth (nth [J.ao,J.dk,J.eb] i) j) 0 (a0.ao - 1))) (fun i=>cI (nth [J.ao,J.dk,J.eb] i).length) (by
 unfold UZ U6 MV ya
 have hlen:J.bA.length≤30→J.cO.length≤30→(bY J).length≤60:=by unfold bY;rw[List.length_append];omega
 refine⟨fun af h=> ?_,fun⟨af,h⟩ bJ=> ?_⟩
 ·symm
  rw[←Bool.not_eq_true,ru]
  rintro⟨h1,-,-,-,cl,cC,-⟩
  have:=(pA.1 cl).1
  have:=(pA.1 cC).1
  simp at h
  rcases h with h | h | h
  ·exact h1 h
  ·omega
  ·omega
 ·simp at h
  obtain⟨h1,h2,aD⟩:=h
  have h2:J.bA.length≤30:=by omega
  have aD:J.cO.length≤30:=by omega
  have apv:=hlen h2 aD
  refine⟨dB (dt _),fun i aN=>⟨fun hi=> ?_,fun hi=>⟨cA aN hi,?_⟩⟩⟩
  ·have eG: ∀l∈[J.ao,J.dk,J.eb],jb l a0.ao=true:=fun l aw=>by
    have:=nI (q:=fun l=> !jb l a0.ao) (hI aN hi) l aw
    simpa using this
   unfold U3
   refine⟨⟨by omega,by omega⟩,fun jW=>⟨⟨dB (dt _),rfl⟩,fun g x v ⟨eh,hx⟩=>⟨fun hv=> ?_,fun hv=> ?_⟩⟩⟩
   ·have ly: ¬v<((bY J).length:Int):=by simpa using hv
    rw[List.take_of_length_le (by have:=eh.1;omega)] at hx
    subst hx
    exact⟨by rw[List.length_map];omega,aeu h1 eG h2 aD (hI eh hv)⟩
   ·have cz:=cA eh hv
    have rV:x.length≤60:=by rw[hx,List.length_map,List.length_take];omega
    have bad:r2 a0 J v=true→false=iW a0 J:=fun hb=>by
     symm
     rw[←Bool.not_eq_true]
     intro aE
     rw[aew aE cz.1 cz.2] at hb
     cases hb
    unfold U2 U1 U0 G2 G1
    rw[ajQ]
    refine⟨⟨cz,fun hb=>bad (by unfold r2;rw[hb];rfl),fun hb=>⟨⟨fun aw=> ?_,fun hc=>bad (by unfold r2;rw[hc,Bool.or_true])⟩,fun _=> ?_⟩⟩,fun hb=> ?_⟩
    ·have hb:qZ a0 (nth (bY J) v)=false:=not_eq hb
     rw[DR] at hb
     simp only[Bool.not_eq_false',Bool.and_eq_true,uC] at hb
     exact⟨hb.1.1,by omega⟩
    ·simp only[List.length_cons,List.length_nil];omega
    ·have hb:r2 a0 J v=false:=by
      unfold r2
      rw[Bool.and_eq_true] at hb
      rw[not_eq hb.1,not_eq hb.2];rfl
     have a7:=dn (c_ jW) eh hv hb
     have hw:IntKind.i64.wrap (v+1)=v+1:=jK (by omega) (by omega)
     refine⟨⟨a7.1,?_⟩,a7.2⟩
     rw[hw,hx,show(v+1).toNat=v.toNat+1 by omega,List.take_succ_eq_append_getElem cz.2,List.map_append,←iN cz.2]
     rfl
  ·have Dh:=cA aN hi
   have Q5:jb (nth [J.ao,J.dk,J.eb] i) a0.ao=false→false=iW a0 J:=fun hb=>by
    symm
    rw[←Bool.not_eq_true]
    intro aE
    rw[aev aE _ (ee Dh.2)] at hb
    cases hb
   unfold U5 U4 MX MW ta ya
   refine⟨fun af h=>Q5 ?_,fun⟨af,h⟩=>⟨dB (dt _),fun v nS=>⟨fun hv=> ?_,fun hv=> ?_⟩⟩⟩
   ·rw[←Bool.not_eq_true,yk]
    rintro⟨q1,-,q3⟩
    simp only[Bool.or_eq_true,decide_eq_true_eq] at h
    rcases h with h | h
    ·omega
    ·unfold dup at h;simp[q3] at h
   ·refine dn (by simp) aN hi ?_
    simp only[Bool.not_eq_true',Bool.or_eq_false_iff,decide_eq_false_iff_not] at h
    have aW:(nth [J.ao,J.dk,J.eb] i).Nodup:=by have:=h.2;unfold dup at this;simpa using this
    have:jb (nth [J.ao,J.dk,J.eb] i) a0.ao=true:=by
     rw[yk]
     refine⟨by omega,fun x hx=> ?_,aW⟩
     have:=nI (q:=fun x=> !cb x 0 (a0.ao - 1)) (hI nS hv) x hx
     simpa using this
    rw[this];rfl
   ·rw[Of]
    exact⟨⟨cA nS hv,fun h=>Q5 (Wx (cA nS hv).2 h)⟩,fun h=>dn (c_ af) nS hv (not_eq h)⟩)
def ah0:dl Tryz.prog:=⟨129,[.eL,.e6],[.bool],none,fun x=>((iW x.1 x.2.1),()),fun x h=>ahZ x.1 x.2.1⟩
end
section
abbrev iF (r:Type):Type:=Int→Int→Int→r
abbrev rl (r:Type):Type:=Int→Int→Int→Int→r
abbrev rm (r:Type):Type:=Int→Int→Int→Int→Int→r
variable (ad:Int→Prop) (ag:Int→Nat) (bd:Int→Int→Prop) (a6:Int→Int→Nat) (bX:iF Prop) (bx:iF Nat) (dI:rl Prop) (dF:rl Nat) (fW:rm Prop) (f_:rm Nat) (a0:aQ) (aa:rv) (eN il v87 iV hB:Int)
abbrev nZ:=(a0.O.length:Int)
abbrev LY:=(decide (a0.ao<1)) || ((decide (a0.ao>60)) || ((decide (a0.cv<1)) || ((decide (a0.cv>300)) || ((decide ((a0.a_.length:Int)>40)) || (decide ((nZ a0)>100))))))
abbrev LZ:=((nth (nth a0.bu hB) iV) !=(nth (nth a0.bu iV) hB)) || ((hB !=iV)&&((!(nth (nth a0.bu hB) iV))&&(meets (nth a0.O hB).ao (nth a0.O iV).ao)))
abbrev L0:=(decide ((nth a0.a_ eN)<0)) || (decide ((nth a0.a_ eN) ≥ a0.ao))
def agW:List Item:=(List.range 48).map cS
def agX:List (List Nat):=[[],[0],[],[0,1,2],rg 0 4,[],rg 0 6,rg 0 7,[],[8],[],[8,9,10],rg 8 12,[],rg 8 14,rg 8 15,rg 0 16,rg 0 17,rg 0 18,rg 0 18,rg 0 20,rg 0 21,rg 0 22,rg 0 23,rg 0 22,rg 0 25,rg 0 26,rg 0 22,rg 0 28,rg 0 29,rg 0 30,rg 0 31,rg 0 32,rg 0 33,rg 0 34,rg 0 33,rg 0 36,rg 0 37,rg 0 38,rg 0 33,rg 0 33++[39],rg 0 33,rg 0 33++[39,40,41],rg 0 33++rg 39 43,rg 0 33++rg 39 44,rg 0 45,rg 0 46,rg 0 47]
def TW:Prop:=
  ((0≤hB∧hB.toNat<a0.bu.length)∧((0≤iV∧iV.toNat<(nth a0.bu hB).length)∧((0≤iV∧iV.toNat<a0.bu.length)∧((0≤hB∧hB.toNat<(nth a0.bu iV).length)∧(((nth (nth a0.bu hB) iV) !=(nth (nth a0.bu iV) hB))=false→(hB !=iV)=true→(0≤hB∧hB.toNat<a0.bu.length)∧((0≤iV∧iV.toNat<(nth a0.bu hB).length)∧((!(nth (nth a0.bu hB) iV))=true→(0≤hB∧hB.toNat<a0.O.length)∧(0≤iV∧iV.toNat<a0.O.length))))))))∧((LZ a0 iV hB)=true→(5=aa.code)∧(hB=aa.pos))
def TX:Prop:=
  ((decide (iV<(nZ a0)))=false→dI eN il v87 (IntKind.i64.wrap (hB+1))∧dF eN il v87 (IntKind.i64.wrap (hB+1))<dF eN il v87 hB)∧((decide (iV<(nZ a0)))=true→(TW a0 aa iV hB)∧((!(LZ a0 iV hB))=true→fW eN il v87 hB (IntKind.i64.wrap (iV+1))∧f_ eN il v87 hB (IntKind.i64.wrap (iV+1))<f_ eN il v87 hB iV))
def TY:Prop:=
  ((0≤v87∧v87.toNat<a0.bu.length)∧((nth a0.bu v87).length≤4611686018427387904→(((nth a0.bu v87).length:Int) !=(nZ a0))=true→(4=aa.code)∧(v87=aa.pos)))∧(((nth a0.bu v87).length≤4611686018427387904)∧((!(((nth a0.bu v87).length:Int) !=(nZ a0)))=true)→bX eN il (IntKind.i64.wrap (v87+1))∧bx eN il (IntKind.i64.wrap (v87+1))<bx eN il v87)
def TZ:Prop:=
  ((decide (v87<(a0.bu.length:Int)))=false→dI eN il v87 0∧ ∀(hB:Int),dI eN il v87 hB→(((decide (hB<(nZ a0)))=false→(0=aa.code)∧(0=aa.pos))∧((decide (hB<(nZ a0)))=true→fW eN il v87 hB 0∧ ∀(iV:Int),fW eN il v87 hB iV→(TX dI dF fW f_ a0 aa eN il v87 iV hB))))∧((decide (v87<(a0.bu.length:Int)))=true→TY bX bx a0 aa eN il v87)
def T0:Prop:=
  ((decide (il<(nZ a0)))=false→(a0.bu.length≤4611686018427387904→((a0.bu.length:Int) !=(nZ a0))=true→(4=aa.code)∧(0=aa.pos))∧((a0.bu.length≤4611686018427387904)∧((!((a0.bu.length:Int) !=(nZ a0)))=true)→bX eN il 0∧ ∀(v87:Int),bX eN il v87→(TZ bX bx dI dF fW f_ a0 aa eN il v87)))∧((decide (il<(nZ a0)))=true→((0≤il∧il.toNat<a0.O.length)∧((!(iW a0 (nth a0.O il)))=true→(3=aa.code)∧(il=aa.pos)))∧((!(!(iW a0 (nth a0.O il))))=true→bd eN (IntKind.i64.wrap (il+1))∧a6 eN (IntKind.i64.wrap (il+1))<a6 eN il))
def T1:Prop:=
  ((decide (eN<(a0.a_.length:Int)))=false→a0.O.length≤4611686018427387904→bd eN 0∧ ∀(il:Int),bd eN il→(T0 bd a6 bX bx dI dF fW f_ a0 aa eN il))∧((decide (eN<(a0.a_.length:Int)))=true→((0≤eN∧eN.toNat<a0.a_.length)∧((L0 a0 eN)=true→(2=aa.code)∧(eN=aa.pos)))∧((!(L0 a0 eN))=true→ad (IntKind.i64.wrap (eN+1))∧ag (IntKind.i64.wrap (eN+1))<ag eN))
def T2:Prop:=
  ((LY a0)=true→(1=aa.code)∧(0=aa.pos))∧((!(LY a0))=true→a0.a_.length≤4611686018427387904→ad 0∧ ∀(eN:Int),ad eN→(T1 ad ag bd a6 bX bx dI dF fW f_ a0 aa eN))
def TU (a0:aQ) (aa:rv) (ad:Int→Prop) (ag:Int→Nat) (bd:Int→Int→Prop) (a6:Int→Int→Nat) (bX:iF Prop) (bx:iF Nat) (dI:rl Prop) (dF:rl Nat) (fW:rm Prop) (f_:rm Nat):Prop:=
 T2 ad ag bd a6 bX bx dI dF fW f_ a0 aa
theorem agU:bf Tryz.prog 105 [.agg (bH false a0)] (.agg (J4 (iO a0))):=(fun(ad:Int→Prop) (ag:Int→Nat) (bd:Int→Int→Prop) (a6:Int→Int→Nat) (bX:iF Prop) (bx:iF Nat) (dI:rl Prop) (dF:rl Nat) (fW:rm Prop) (f_:rm Nat) (h:TU a0 (iO a0) ad ag bd a6 bX bx dI dF fW f_)=>bf.run (ps:=[.eL]) (rs:=[.fault]) (x:=(a0,())) (r:=((iO a0),())) ⟨166,c5,[MB,ah0]⟩ ⟨[81,86,96,103,109],[(29,agW,agX)],[],[],[]⟩ (eY [1,2,43,44] [(2,2),(1,5)] 45 ad ag fun aL=>(eY [1,2,62,63] [(2,2),(1,5)] 64 (bd aL) (a6 aL) fun bn=>(eY [1,2,85,86] [(2,2),(1,5)] 87 (bX aL bn) (bx aL bn) fun bK=>(eY [1,2,103] [(2,2),(1,5)] 104 (dI aL bn bK) (dF aL bn bK) fun da=>(eY [1,2,9,103,104,109] [(2,2),(1,5)] 110 (fW aL bn bK da) (f_ aL bn bK da) fun _=> .nil))))) Tryz.func105 h) (cq a0.a_.length (fun j=> !cb (nth a0.a_ j) 0 (a0.ao - 1))) (cI a0.a_.length) (fun _=>cq a0.O.length (fun j=> !iW a0 (nth a0.O j))) (fun _=>cI a0.O.length) (fun _ _=>cq a0.bu.length (fun j=>decide ((nth a0.bu j).length≠a0.O.length))) (fun _ _=>cI a0.bu.length) (fun _ _ _=>cq a0.O.length (fun i=>(List.range a0.O.length).any fun k=>rz a0 i.toNat k)) (fun _ _ _=>cI a0.O.length) (fun _ _ _ i=>cq a0.O.length (fun k=>rz a0 i.toNat k.toNat)) (fun _ _ _ _=>cI a0.O.length) (by
 unfold TU T2 LY nZ
 refine⟨fun h=> ?_,fun h nW=> ?_⟩
 ·have hb:mn a0=false:=by
   rw[←Bool.not_eq_true,yE]
   intro hb
   simp[mn] at h
   omega
  rw[NN hb];exact⟨rfl,rfl⟩
 ·have hb:mn a0=true:=by
   rw[yE]
   simp[mn] at h
   omega
  have dq:=yE.1 hb
  refine⟨dB (dt _),fun v0 rI=> ?_⟩
  unfold T1 L0
  refine⟨fun cx GA=> ?_,fun jo=> ?_⟩
  case refine_2=>
   rw[Of]
   refine⟨⟨cA rI jo,fun oB=> ?_⟩,fun gB=>dn (c_ nW) rI jo (not_eq gB)⟩
   rw[XE hb (sj (q:=fun s=> !cb s 0 (a0.ao - 1)) rI jo oB)]
   have:=rI.1
   exact⟨rfl,by show v0=(v0.toNat:Int);omega⟩
  have f0:=sk (q:=fun s=> !cb s 0 (a0.ao - 1)) rI cx
  refine⟨dB (dt _),fun v1 rJ=> ?_⟩
  unfold T0 nZ
  refine⟨fun aG=> ?_,fun mi=> ?_⟩
  case refine_2=>
   refine⟨⟨cA rJ mi,  fun oB=> ?_⟩,fun gB=>dn (c_ GA) rJ mi (not_eq gB)⟩
   rw[XF hb f0 (sj (q:=fun w=> !iW a0 w) rJ mi oB)]
   have:=rJ.1
   exact⟨rfl,by show v1=(v1.toNat:Int);omega⟩
  have f1:=sk (q:=fun w=> !iW a0 w) rJ aG
  rw[XG hb f0 f1]
  refine⟨fun hm bq=> ?_,fun⟨hm,bq⟩=> ?_⟩
  ·have bq:a0.bu.length≠a0.O.length:=by
    intro e;rw[e] at bq;simp at bq
   rw[XD bq];exact⟨rfl,rfl⟩
  have aw:a0.bu.length=a0.O.length:=by
   have:(a0.bu.length:Int)=a0.O.length:=by simpa using bq
   omega
  refine⟨dB (dt _),fun v2 qc=> ?_⟩
  unfold TZ nZ
  refine⟨fun e2=> ?_,fun hv2=> ?_⟩
  case refine_2=>
   have qP:(((nth a0.bu v2).length:Int) !=(a0.O.length:Int))=decide ((nth a0.bu v2).length≠a0.O.length):=by
    rw[Bool.eq_iff_iff];simp;omega
   unfold TY nZ
   rw[qP]
   refine⟨⟨cA qc hv2,fun aj oB=> ?_⟩,fun⟨aj,gB⟩=>dn (c_ hm) qc hv2 (not_eq gB)⟩
   rw[XB aw (sj (q:=fun b=>decide (b.length≠a0.O.length)) qc hv2 oB)]
   have:=qc.1
   exact⟨rfl,by show v2=(v2.toNat:Int);omega⟩
  have f2:=sk (q:=fun b:List Bool=>decide (b.length≠a0.O.length)) qc e2
  have Em: ∀i:Int,0≤i→i<a0.O.length→(nth a0.bu i).length=a0.O.length:=fun i i0 i1=>by
   have:=hI qc e2 i i0 (by omega)
   simpa using this
  refine⟨dB (dt _),fun v3 qd=>⟨fun dg=> ?_,fun lZ=> ?_⟩⟩
  ·skip
   rw[XA aw f2 (Sh fun j cg eX=>hI qd dg j cg eX)]
   exact⟨rfl,rfl⟩
  ·have Aq:v3<(a0.O.length:Int):=by simpa using lZ
   have qN:=qd.1
   refine⟨dB (dt _),fun v4 rK=> ?_⟩
   unfold TX TW LZ nZ
   rw[Q7 qd.1 rK.1]
   have sO:=rK.1
   refine⟨fun hD=>dn (by omega) qd lZ (WS fun j cg eX=>hI rK hD j cg eX),fun Dx=> ?_⟩
   have Dy:v4<(a0.O.length:Int):=by simpa using Dx
   have dV:=Em v3 qd.1 Aq
   have j3:=Em v4 rK.1 Dy
   refine⟨⟨⟨⟨qN,by omega⟩,⟨sO,by omega⟩,⟨sO,by omega⟩,⟨qN,by omega⟩,fun _ _=>⟨⟨qN,by omega⟩,⟨sO,by omega⟩,fun _=>⟨⟨qN,by omega⟩,⟨sO,by omega⟩⟩⟩⟩,fun oB=> ?_⟩,fun gB=>dn (by omega) rK Dx (not_eq gB)⟩
   rw[XC aw f2 (Si qN Aq (fun j cg eX=>qd.2.2 j cg eX) (QZ sO Dy oB))]
   exact⟨rfl,by show v3=(v3.toNat:Int);omega⟩)
def agV:dl Tryz.prog:=⟨105,[.eL],[.fault],none,fun x=>((iO x.1),()),fun x h=>agU x.1⟩
end
section
variable (ad:Int→Prop) (ag:Int→Nat) (bd:Int→Int→Prop) (a6:Int→Int→Nat) (bX:iF Prop) (bx:iF Nat) (dI:rl Prop) (dF:rl Nat) (fW:rm Prop) (f_:rm Nat) (a0:aQ) (aa:rv) (gV hZ jg ju hj:Int)
abbrev O6:=((nth (nth a0.bu hj) ju) !=(nth (nth a0.bu ju) hj)) || ((hj !=ju)&&((!(nth (nth a0.bu hj) ju))&&(meets (nth a0.O hj).ao (nth a0.O ju).ao)))
abbrev O7:=(!(cb a0.ao 1 60)) || ((decide ((a0.a_.length:Int)>40)) || ((decide ((a0.O.length:Int)>100)) || (!(cb a0.cv 1 300))))
def amV:List Item:=(List.range 34).map cS
def amW:List (List Nat):=[[],[],[1],[],[1,2,3],rg 1 5,[],rg 1 7,rg 1 8,rg 0 9,rg 0 10,rg 0 11,rg 0 11,rg 0 13,rg 0 14,rg 0 15,rg 0 16,rg 0 17,rg 0 18,rg 0 19,rg 0 20,rg 0 19,rg 0 22,rg 0 23,rg 0 24,rg 0 19,rg 0 19++[25],rg 0 19,rg 0 19++[25,26,27],rg 0 19++rg 25 29,rg 0 19++rg 25 30,rg 0 31,rg 0 32,rg 0 33]
def Y8:Prop:=
  ((0≤ju∧ju.toNat<a0.bu.length)∧((0≤hj∧hj.toNat<(nth a0.bu ju).length)∧(((nth (nth a0.bu hj) ju) !=(nth (nth a0.bu ju) hj))=false→(hj !=ju)=true→(!(nth (nth a0.bu hj) ju))=true→(0≤hj∧hj.toNat<a0.O.length)∧(0≤ju∧ju.toNat<a0.O.length))))∧((O6 a0 ju hj)=true→(5=aa.code)∧(hj=aa.pos))
def Y9:Prop:=
  ((0≤ju∧ju.toNat<(nth a0.bu hj).length)∧(Y8 a0 aa ju hj))∧((!(O6 a0 ju hj))=true→fW gV hZ jg hj (IntKind.i64.wrap (ju+1))∧f_ gV hZ jg hj (IntKind.i64.wrap (ju+1))<f_ gV hZ jg hj ju)
def Y_:Prop:=
  (nth a0.bu hj).length≤4611686018427387904→fW gV hZ jg hj 0∧ ∀(ju:Int),fW gV hZ jg hj ju→(((decide (ju<((nth a0.bu hj).length:Int)))=false→dI gV hZ jg (IntKind.i64.wrap (hj+1))∧dF gV hZ jg (IntKind.i64.wrap (hj+1))<dF gV hZ jg hj)∧((decide (ju<((nth a0.bu hj).length:Int)))=true→Y9 fW f_ a0 aa gV hZ jg ju hj))
def Za:Prop:=
  ((0≤jg∧jg.toNat<a0.bu.length)∧((nth a0.bu jg).length≤4611686018427387904→(((nth a0.bu jg).length:Int) !=(a0.O.length:Int))=true→(4=aa.code)∧(jg=aa.pos)))∧(((nth a0.bu jg).length≤4611686018427387904)∧((!(((nth a0.bu jg).length:Int) !=(a0.O.length:Int)))=true)→bX gV hZ (IntKind.i64.wrap (jg+1))∧bx gV hZ (IntKind.i64.wrap (jg+1))<bx gV hZ jg)
def Zb:Prop:=
  ((decide (jg<(a0.bu.length:Int)))=false→dI gV hZ jg 0∧ ∀(hj:Int),dI gV hZ jg hj→(((decide (hj<(a0.bu.length:Int)))=false→(0=aa.code)∧(0=aa.pos))∧((decide (hj<(a0.bu.length:Int)))=true→(0≤hj∧hj.toNat<a0.bu.length)∧(Y_ dI dF fW f_ a0 aa gV hZ jg hj))))∧((decide (jg<(a0.bu.length:Int)))=true→Za bX bx a0 aa gV hZ jg)
def Zc:Prop:=
  ((decide (hZ<(a0.O.length:Int)))=false→(a0.bu.length≤4611686018427387904→((a0.bu.length:Int) !=(a0.O.length:Int))=true→(4=aa.code)∧(0=aa.pos))∧((a0.bu.length≤4611686018427387904)∧((!((a0.bu.length:Int) !=(a0.O.length:Int)))=true)→bX gV hZ 0∧ ∀(jg:Int),bX gV hZ jg→(Zb bX bx dI dF fW f_ a0 aa gV hZ jg)))∧((decide (hZ<(a0.O.length:Int)))=true→((0≤hZ∧hZ.toNat<a0.O.length)∧((NR a0 (nth a0.O hZ))∧((!(iW a0 (nth a0.O hZ)))=true→(3=aa.code)∧(hZ=aa.pos))))∧((!(!(iW a0 (nth a0.O hZ))))=true→bd gV (IntKind.i64.wrap (hZ+1))∧a6 gV (IntKind.i64.wrap (hZ+1))<a6 gV hZ))
def Zd:Prop:=
  ((decide (gV<(a0.a_.length:Int)))=false→a0.O.length≤4611686018427387904→bd gV 0∧ ∀(hZ:Int),bd gV hZ→(Zc bd a6 bX bx dI dF fW f_ a0 aa gV hZ))∧((decide (gV<(a0.a_.length:Int)))=true→((0≤gV∧gV.toNat<a0.a_.length)∧((!(cb (nth a0.a_ gV) 0 (IntKind.i64.wrap (a0.ao - 1))))=true→(2=aa.code)∧(gV=aa.pos)))∧((!(!(cb (nth a0.a_ gV) 0 (IntKind.i64.wrap (a0.ao - 1)))))=true→ad (IntKind.i64.wrap (gV+1))∧ag (IntKind.i64.wrap (gV+1))<ag gV))
def Ze:Prop:=
  ((O7 a0)=true→(1=aa.code)∧(0=aa.pos))∧((!(O7 a0))=true→a0.a_.length≤4611686018427387904→ad 0∧ ∀(gV:Int),ad gV→(Zd ad ag bd a6 bX bx dI dF fW f_ a0 aa gV))
def Y7 (a0:aQ) (aa:rv) (ad:Int→Prop) (ag:Int→Nat) (bd:Int→Int→Prop) (a6:Int→Int→Nat) (bX:iF Prop) (bx:iF Nat) (dI:rl Prop) (dF:rl Nat) (fW:rm Prop) (f_:rm Nat):Prop:=
 Ze ad ag bd a6 bX bx dI dF fW f_ a0 aa
theorem amT:bf Tryz.prog 104 [.agg (bH false a0)] (.agg (J4 (iO a0))):=(fun(ad:Int→Prop) (ag:Int→Nat) (bd:Int→Int→Prop) (a6:Int→Int→Nat) (bX:iF Prop) (bx:iF Nat) (dI:rl Prop) (dF:rl Nat) (fW:rm Prop) (f_:rm Nat) (h:Y7 a0 (iO a0) ad ag bd a6 bX bx dI dF fW f_)=>bf.run (ps:=[.eL]) (rs:=[.fault]) (x:=(a0,())) (r:=((iO a0),())) ⟨147,c5,[EC,O_,am8]⟩ ⟨[73,78,88,95],[(29,amV,amW)],[],[],[]⟩ (eY [1,2,37,38] [(2,2),(1,5)] 39 ad ag fun aL=>(eY [1,2,54,55] [(2,2),(1,5)] 56 (bd aL) (a6 aL) fun bn=>(eY [1,2,77,78] [(2,2),(1,5)] 79 (bX aL bn) (bx aL bn) fun bK=>(eY [1,2,94,95] [(2,2),(1,5)] 96 (dI aL bn bK) (dF aL bn bK) fun da=>(eY [1,2,9,94,95,96,101,102] [(2,2),(1,5)] 103 (fW aL bn bK da) (f_ aL bn bK da) fun _=> .nil))))) Tryz.func104 h) (cq a0.a_.length (fun j=> !cb (nth a0.a_ j) 0 (a0.ao - 1))) (cI a0.a_.length) (fun _=>cq a0.O.length (fun j=> !iW a0 (nth a0.O j))) (fun _=>cI a0.O.length) (fun _ _=>cq a0.bu.length (fun j=>decide ((nth a0.bu j).length≠a0.O.length))) (fun _ _=>cI a0.bu.length) (fun _ _ _=>cq a0.O.length (fun i=>(List.range a0.O.length).any fun k=>rz a0 i.toNat k)) (fun _ _ _=>cI a0.O.length) (fun _ _ _ i=>cq a0.O.length (fun k=>rz a0 i.toNat k.toNat)) (fun _ _ _ _=>cI a0.O.length) (by
 unfold Y7 Ze O7
 refine⟨fun h=> ?_,fun h nW=> ?_⟩
 ·have hb:mn a0=false:=by
   rw[←Bool.not_eq_true,yE]
   intro hb
   simp[cb] at h
   omega
  rw[NN hb];exact⟨rfl,rfl⟩
 ·have hb:mn a0=true:=by
   rw[yE]
   simp[cb] at h
   omega
  have dq:=yE.1 hb
  refine⟨dB (dt _),fun v0 rI=> ?_⟩
  unfold Zd
  refine⟨fun cx GA=> ?_,fun jo=> ?_⟩
  case refine_2=>
   rw[jK (n:=a0.ao - 1) (by omega) (by omega)]
   refine⟨⟨cA rI jo,fun oB=> ?_⟩,fun gB=>dn (c_ nW) rI jo (not_eq gB)⟩
   rw[XE hb (sj (q:=fun s=> !cb s 0 (a0.ao - 1)) rI jo oB)]
   have:=rI.1
   exact⟨rfl,by show v0=(v0.toNat:Int);omega⟩
  have f0:=sk (q:=fun s=> !cb s 0 (a0.ao - 1)) rI cx
  refine⟨dB (dt _),fun v1 rJ=> ?_⟩
  unfold Zc
  refine⟨fun aG=> ?_,fun mi=> ?_⟩
  case refine_2=>
   refine⟨⟨cA rJ mi,⟨by omega,by omega⟩,fun oB=> ?_⟩,fun gB=>dn (c_ GA) rJ mi (not_eq gB)⟩
   rw[XF hb f0 (sj (q:=fun w=> !iW a0 w) rJ mi oB)]
   have:=rJ.1
   exact⟨rfl,by show v1=(v1.toNat:Int);omega⟩
  have f1:=sk (q:=fun w=> !iW a0 w) rJ aG
  rw[XG hb f0 f1]
  refine⟨fun hm bq=> ?_,fun⟨hm,bq⟩=> ?_⟩
  ·have bq:a0.bu.length≠a0.O.length:=by
    intro e;rw[e] at bq;simp at bq
   rw[XD bq];exact⟨rfl,rfl⟩
  have aw:a0.bu.length=a0.O.length:=by
   have:(a0.bu.length:Int)=a0.O.length:=by simpa using bq
   omega
  refine⟨dB (dt _),fun v2 qc=> ?_⟩
  unfold Zb
  refine⟨fun e2=> ?_,fun hv2=> ?_⟩
  case refine_2=>
   have qP:(((nth a0.bu v2).length:Int) !=(a0.O.length:Int))=decide ((nth a0.bu v2).length≠a0.O.length):=by
    rw[Bool.eq_iff_iff];simp;omega
   unfold Za
   rw[qP]
   refine⟨⟨cA qc hv2,fun aj oB=> ?_⟩,fun⟨aj,gB⟩=>dn (c_ hm) qc hv2 (not_eq gB)⟩
   rw[XB aw (sj (q:=fun b=>decide (b.length≠a0.O.length)) qc hv2 oB)]
   have:=qc.1
   exact⟨rfl,by show v2=(v2.toNat:Int);omega⟩
  have f2:=sk (q:=fun b:List Bool=>decide (b.length≠a0.O.length)) qc e2
  have Em: ∀i:Int,0≤i→i<a0.O.length→(nth a0.bu i).length=a0.O.length:=fun i i0 i1=>by
   have:=hI qc e2 i i0 (by omega)
   simpa using this
  refine⟨dB (dt _),fun v3 qd=>⟨fun dg=> ?_,fun lZ=> ?_⟩⟩
  ·have dg:decide (v3<(a0.O.length:Int))=false:=by rw[←aw];exact dg
   rw[XA aw f2 (Sh fun j cg eX=>hI qd dg j cg eX)]
   exact⟨rfl,rfl⟩
  ·have Aq:v3<(a0.O.length:Int):=by rw[←aw];simpa using lZ
   have qN:=qd.1
   have dV:=Em v3 qd.1 Aq
   refine⟨⟨qN,by omega⟩,?_⟩
   unfold Y_
   rw[dV]
   intro _
   refine⟨dB (dt _),fun v4 rK=> ?_⟩
   unfold Y9 Y8 O6
   rw[Q7 qd.1 rK.1,dV]
   have sO:=rK.1
   refine⟨fun hD=>dn (by omega) qd (by simpa using Aq) (WS fun j cg eX=>hI rK hD j cg eX),fun Dx=> ?_⟩
   have Dy:v4<(a0.O.length:Int):=by simpa using Dx
   have j3:=Em v4 rK.1 Dy
   refine⟨⟨⟨sO,by omega⟩,⟨⟨sO,by omega⟩,⟨qN,by omega⟩,fun _ _ _=>⟨⟨qN,by omega⟩,⟨sO,by omega⟩⟩⟩,fun oB=> ?_⟩,fun gB=>dn (by omega) rK Dx (not_eq gB)⟩
   rw[XC aw f2 (Si qN Aq (fun j cg eX=>qd.2.2 j cg eX) (QZ sO Dy oB))]
   exact⟨rfl,by show v3=(v3.toNat:Int);omega⟩)
def amU:dl Tryz.prog:=⟨104,[.eL],[.fault],none,fun x=>((iO x.1),()),fun x h=>amT x.1⟩
end
section
variable (a0:aQ) (aa:Bool)
def am5:Prop:=
 ((iO a0).code==0)=aa
theorem am6:bf Tryz.prog 65 [.agg (bH false a0)] (aq (iB a0)):=(fun(h:am5 a0 (iB a0))=>bf.run (ps:=[.eL]) (rs:=[.bool]) (x:=(a0,())) (r:=((iB a0),())) ⟨9,c5,[amU]⟩ ⟨[],[],[],[],[]⟩ .nil Tryz.func65 h) (by
 exact alc a0)
end
section
variable (a0:aQ) (J:Event) (aa:Bool)
abbrev Ia:=bif (J.op==1) then(J.op==1) else(J.op==2)
abbrev Ib:=bif (J.op==3) then(J.op==3) else(J.op==4)
def Zu:Prop:=
  ((J.op==5)=true→a0.a_.length≤4611686018427387904→((cb J.aC 0 (IntKind.i64.wrap ((a0.a_.length:Int) - 1)))&&(cb J.a1 0 2))=aa)∧((J.op==5)=false→((J.op==6)=true→a0.a_.length≤4611686018427387904→((cb J.aC 0 (IntKind.i64.wrap ((a0.a_.length:Int) - 1)))&&(cb J.a1 1 2))=aa)∧((J.op==6)=false→(J.op==7)=true→((J.aC==0)&&(J.a1==0))=aa))
def Zv:Prop:=
  ((Ia J)=true→a0.O.length≤4611686018427387904→((cb J.aC 0 (IntKind.i64.wrap ((a0.O.length:Int) - 1)))&&(J.a1==0))=aa)∧((Ia J)=false→((Ib J)=true→((cb J.aC 0 (IntKind.i64.wrap (a0.ao - 1)))&&(J.a1==0))=aa)∧((Ib J)=false→Zu a0 J aa))
def Zt:Prop:=
 (Zv a0 J aa)∧((!(Ia J)&&(!(Ib J)&&(!(J.op==5)&&(!(J.op==6)&&(!(J.op==7))))))=true→false=aa)
theorem ang (ab:XI a0 J):bf Tryz.prog 77 [.agg (bH false a0),.agg (ie J)] (aq (hE a0 J)):=(fun(h:Zt a0 J (hE a0 J))=>bf.run (ps:=[.eL,.ll]) (rs:=[.bool]) (x:=(a0,J,())) (r:=((hE a0 J),())) ⟨74,c5,[EC]⟩ ⟨[],[],[],[],[]⟩ .nil Tryz.func77 h) (by
 have ab: -9223372036854775808<a0.ao∧a0.ao≤9223372036854775807:=ab
 unfold Zt Zv Zu Ib Ia
 rw[D6,D6,sA,sA,sA,sA,sA]
 simp only[decide_eq_true_eq,decide_eq_false_iff_not]
 refine⟨⟨fun h aw=> ?_,fun h1=>⟨fun h=> ?_,fun aD=>⟨fun h aw=> ?_,fun cl=>⟨fun h aw=> ?_,fun cC h=> ?_⟩⟩⟩⟩,fun h=> ?_⟩
 ·rw[jK (by omega) (by omega),Kc h]
 ·rw[jK (by omega) (by omega),Kd h1 h]
 ·rw[jK (by omega) (by omega),Ke h]
 ·rw[jK (by omega) (by omega),Kf h]
 ·rw[RX h]
 ·simp only[Bool.and_eq_true,Bool.not_eq_true',decide_eq_false_iff_not] at h
  exact(RZ h.1 h.2.1 h.2.2.1 h.2.2.2.1 h.2.2.2.2).symm)
end
section
variable (a0 aa:Event)
def ajg:Prop:=
 (a0.op=aa.op)∧(a0.aC=aa.aC)∧(a0.a1=aa.a1)
theorem ajh:bf Tryz.prog 29 [.agg (ie a0)] (.agg (ie (aK a0))):=(fun(h:ajg a0 (aK a0))=>bf.run (ps:=[.ll]) (rs:=[.ll]) (x:=(a0,())) (r:=((aK a0),())) ⟨14,c5,[]⟩ ⟨[],[],[],[],[]⟩ .nil Tryz.func29 h) (by
 exact⟨rfl,rfl,rfl⟩)
end
section
variable (a0:aQ) (aa:Bool)
def ahD:Prop:=
 ((iO a0).code==0&&(iO a0).pos==0)=aa
theorem ahE:bf Tryz.prog 68 [.agg (bH false a0)] (aq (iB a0)):=(fun(h:ahD a0 (iB a0))=>bf.run (ps:=[.eL]) (rs:=[.bool]) (x:=(a0,())) (r:=((iB a0),())) ⟨7,c5,[agV]⟩ ⟨[],[],[],[],[]⟩ .nil Tryz.func68 h) (by
 exact alb a0)
def ahF:dl Tryz.prog:=⟨68,[.eL],[.bool],none,fun x=>((iB x.1),()),fun x h=>ahE x.1⟩
end
section
variable (a0:Int) (J:Event) (aa:Bool)
def ahf:Prop:=
 ((decide (J.aC ≥ 0))&&(decide (J.aC<a0)))=aa
theorem ahg:bf Tryz.prog 109 [ai a0,.dz (ie J) 0] (aq (tb a0 J)):=(fun(h:ahf a0 J (tb a0 J))=>bf.run (ps:=[.int,(.ptr .ll)]) (rs:=[.bool]) (x:=(a0,J,())) (r:=((tb a0 J),())) ⟨13,c5,[]⟩ ⟨[],[],[],[],[]⟩ .nil Tryz.func109 h) (by
 rfl)
def ahh:dl Tryz.prog:=⟨109,[.int,(.ptr .ll)],[.bool],none,fun x=>((tb x.1 x.2.1),()),fun x h=>ahg x.1 x.2.1⟩
end
section
variable (a0:aQ) (J:Event) (aa:Bool)
abbrev GV:=bif (J.op==1) then(J.op==1) else(J.op==2)
abbrev GW:=bif (J.op==3) then(J.op==3) else(J.op==4)
def Uu:Prop:=
  ((J.op==5)=true→a0.a_.length≤4611686018427387904→((tb (a0.a_.length:Int) J)&&((decide (J.a1 ≥ 0))&&(decide (J.a1≤2))))=aa)∧((J.op==5)=false→((J.op==6)=true→a0.a_.length≤4611686018427387904→((tb (a0.a_.length:Int) J)&&((decide (J.a1 ≥ 1))&&(decide (J.a1≤2))))=aa)∧((J.op==6)=false→(J.op==7)=true→((J.aC==0)&&(J.a1==0))=aa))
def Uv:Prop:=
  ((GV J)=true→a0.O.length≤4611686018427387904→((tb (a0.O.length:Int) J)&&(J.a1==0))=aa)∧((GV J)=false→((GW J)=true→((tb a0.ao J)&&(J.a1==0))=aa)∧((GW J)=false→Uu a0 J aa))
def Ut:Prop:=
 (Uv a0 J aa)∧((!(GV J)&&(!(GW J)&&(!(J.op==5)&&(!(J.op==6)&&(!(J.op==7))))))=true→false=aa)
theorem ahi:bf Tryz.prog 71 [.agg (bH false a0),.agg (ie J)] (aq (hE a0 J)):=(fun(h:Ut a0 J (hE a0 J))=>bf.run (ps:=[.eL,.ll]) (rs:=[.bool]) (x:=(a0,J,())) (r:=((hE a0 J),())) ⟨78,c5,[ahh]⟩ ⟨[],[],[],[],[]⟩ .nil Tryz.func71 h) (by
 unfold Ut Uv Uu GW GV
 rw[D6,D6,sA,sA,sA,sA,sA,Qe,Qe,Qe]
 simp only[decide_eq_true_eq,decide_eq_false_iff_not]
 refine⟨⟨fun h aw=> ?_,fun h1=>⟨fun h=> ?_,fun aD=>⟨fun h aw=> ?_,fun cl=>⟨fun h aw=> ?_,fun cC h=> ?_⟩⟩⟩⟩,fun h=> ?_⟩
 ·rw[Kc h]
 ·rw[Kd h1 h]
 ·rw[Ke h];rfl
 ·rw[Kf h];rfl
 ·rw[RX h]
 ·simp only[Bool.and_eq_true,Bool.not_eq_true',decide_eq_false_iff_not] at h
  exact(RZ h.1 h.2.1 h.2.2.1 h.2.2.2.1 h.2.2.2.2).symm)
end
section
variable (a0 aa:(List Bool))
abbrev OD:=a0.length*1≤140737488355328∧a0.length≤4611686018427387904
noncomputable def amh:Code:=j8 Tryz.f107
def OC:Prop:=
 (a0≠[]→(OD a0)∧(a0=aa))∧(a0=[]→ ∀b2:Bool,(b2=true→[]=aa)∧(b2=false→(OD a0)∧(a0=aa)))
theorem ami (h:OC a0 aa):de Tryz.prog 107 [bB aT a0] [] (fun r H=>r=ay 0 0 aa.length∧H=[⟨0,1,List.map aT aa⟩]):=by
 refine de.toOwn ?_
 unfold OC at h
 refine de.go (fn:=Tryz.f107) [(0,bB aT a0)] Tryz.func107 (fun _ _=> ?_)
 show WpS _ (bO amh 1) _ ⟨bt 8 [(0,bB aT a0)],[],[]⟩
 refine eO [] 0 [(2,c7)] [] [1] ?_
 refine jx ?_
 refine jx ?_
 refine bE [] 1 ?_
 refine Ol 2 (some 4) [(3,bB aT a0)] aT a0 (fun hx=> ?_) (fun hx b2=> ?_)
 ·
  replace h:=h.1 hx
  refine ef [] ?_
  refine ej.normal ?_
  refine vj (.tmp 4) false (fun q3=> ?_) (fun q3=> ?_)
  ·
   cases q3
  ·
   refine eP ?_
   refine ej.normal ?_
   obtain⟨c2,h⟩:=h
   refine mI ⟨(bt 8 [(2,ay 0 0 a0.length)]),[],[⟨0,1,List.map aT a0⟩]⟩ (True) ?_ (fun q4=> ?_)
   ·
    replace h:=c2
    refine bE [] 3 ?_
    have cN:=h
    refine wz 3 (some 7) [(6,bB aT a0),(5,c7)] aT a0 (od false (List.map aT a0)) 0 1 1 (fun r=>[⟨0,1,r⟩]) rfl cN ?_
    exact ca [(2,ay 0 0 a0.length)] trivial
   refine ji ?_
   refine mu (ay 0 0 a0.length) [ay 0 0 a0.length] ?_
   exact⟨rb [some 0],tj [some 0] rfl (by decide) ⟨rfl,(qs (b:=0) (g:=0) (sz:=1) (xs:=a0) (ys:=aa) rfl yw h),trivial⟩,(.inr (yy (by simp) rfl rfl (by have:=congrArg List.length h;simpa using this)))⟩
 ·
  replace h:=h.2 hx b2
  refine ef [] ?_
  refine ej.normal ?_
  refine vj (.tmp 4) b2 (fun hz=> ?_) (fun hz=> ?_)
  ·
   replace h:=h.1 hz
   refine mI ⟨(bt 8 [(2,c7)]),[],[]⟩ (True) ?_ (fun gT=> ?_)
   ·
    refine bE [] 2 ?_
    exact ca [(2,c7)] trivial
   refine ji ?_
   refine ej.ret ?_
   refine mu (c7) [c7] ?_
   exact⟨rb [none],tj [none] rfl (by decide) ⟨rfl,trivial,trivial⟩,(.inr (NG (by simp) rfl rfl (by rw[←h];rfl)))⟩
  ·
   replace h:=h.2 hz
   refine eP ?_
   refine ej.normal ?_
   obtain⟨kL,h⟩:=h
   refine mI ⟨(bt 8 [(2,ay 0 0 a0.length)]),[],[⟨0,1,List.map aT a0⟩]⟩ (True) ?_ (fun k7=> ?_)
   ·
    replace h:=kL
    refine bE [] 3 ?_
    have hO:=h
    refine wz 3 (some 7) [(6,bB aT a0),(5,c7)] aT a0 (od false (List.map aT a0)) 0 1 1 (fun r=>[⟨0,1,r⟩]) rfl hO ?_
    exact ca [(2,ay 0 0 a0.length)] trivial
   refine ji ?_
   refine mu (ay 0 0 a0.length) [ay 0 0 a0.length] ?_
   exact⟨rb [some 0],tj [some 0] rfl (by decide) ⟨rfl,(qs (b:=0) (g:=0) (sz:=1) (xs:=a0) (ys:=aa) rfl yw h),trivial⟩,(.inr (yy (by simp) rfl rfl (by have:=congrArg List.length h;simpa using this)))⟩
theorem YH (ab:small a0):de Tryz.prog 107 [bB aT a0] [] (fun r H=>r=ay 0 0 (aK a0).length∧H=[⟨0,1,List.map aT (aK a0)⟩]):=ami a0 (aK a0) (by
 have ab:a0.length≤1048576:=ab
 unfold OC OD
 exact⟨fun h=>⟨⟨by omega,by omega⟩,rfl⟩,fun h b=>⟨fun _=>h.symm,fun _=>⟨⟨by omega,by omega⟩,rfl⟩⟩⟩)
end
section
variable (a0 aa:(List bP))
abbrev OB:=a0.length*16≤140737488355328∧a0.length≤4611686018427387904
noncomputable def amf:Code:=j8 Tryz.f108
def OA:Prop:=
 (a0≠[]→(OB a0)∧(a0=aa))∧(a0=[]→ ∀b2:Bool,(b2=true→[]=aa)∧(b2=false→(OB a0)∧(a0=aa)))
theorem amg (h:OA a0 aa):de Tryz.prog 108 [bB bh a0] [] (fun r H=>r=ay 0 0 aa.length∧H=[⟨0,2,List.map bh aa⟩]):=by
 refine de.toOwn ?_
 unfold OA at h
 refine de.go (fn:=Tryz.f108) [(0,bB bh a0)] Tryz.func108 (fun _ _=> ?_)
 show WpS _ (bO amf 1) _ ⟨bt 8 [(0,bB bh a0)],[],[]⟩
 refine eO [] 0 [(2,c7)] [] [1] ?_
 refine jx ?_
 refine jx ?_
 refine bE [] 1 ?_
 refine Ol 2 (some 4) [(3,bB bh a0)] bh a0 (fun hx=> ?_) (fun hx b2=> ?_)
 ·
  replace h:=h.1 hx
  refine ef [] ?_
  refine ej.normal ?_
  refine vj (.tmp 4) false (fun q3=> ?_) (fun q3=> ?_)
  ·
   cases q3
  ·
   refine eP ?_
   refine ej.normal ?_
   obtain⟨c2,h⟩:=h
   refine mI ⟨(bt 8 [(2,ay 0 0 a0.length)]),[],[⟨0,2,List.map bh a0⟩]⟩ (True) ?_ (fun q4=> ?_)
   ·
    replace h:=c2
    refine bE [] 3 ?_
    have cN:=h
    refine wz 3 (some 7) [(6,bB bh a0),(5,c7)] bh a0 (od false (List.map bh a0)) 0 2 16 (fun r=>[⟨0,2,r⟩]) rfl cN ?_
    exact ca [(2,ay 0 0 a0.length)] trivial
   refine ji ?_
   refine mu (ay 0 0 a0.length) [ay 0 0 a0.length] ?_
   exact⟨rb [some 0],tj [some 0] rfl (by decide) ⟨rfl,(qs (b:=0) (g:=0) (sz:=2) (xs:=a0) (ys:=aa) rfl Ht h),trivial⟩,(.inr (yy (by simp) rfl rfl (by have:=congrArg List.length h;simpa using this)))⟩
 ·
  replace h:=h.2 hx b2
  refine ef [] ?_
  refine ej.normal ?_
  refine vj (.tmp 4) b2 (fun hz=> ?_) (fun hz=> ?_)
  ·
   replace h:=h.1 hz
   refine mI ⟨(bt 8 [(2,c7)]),[],[]⟩ (True) ?_ (fun gT=> ?_)
   ·
    refine bE [] 2 ?_
    exact ca [(2,c7)] trivial
   refine ji ?_
   refine ej.ret ?_
   refine mu (c7) [c7] ?_
   exact⟨rb [none],tj [none] rfl (by decide) ⟨rfl,trivial,trivial⟩,(.inr (NG (by simp) rfl rfl (by rw[←h];rfl)))⟩
  ·
   replace h:=h.2 hz
   refine eP ?_
   refine ej.normal ?_
   obtain⟨kL,h⟩:=h
   refine mI ⟨(bt 8 [(2,ay 0 0 a0.length)]),[],[⟨0,2,List.map bh a0⟩]⟩ (True) ?_ (fun k7=> ?_)
   ·
    replace h:=kL
    refine bE [] 3 ?_
    have hO:=h
    refine wz 3 (some 7) [(6,bB bh a0),(5,c7)] bh a0 (od false (List.map bh a0)) 0 2 16 (fun r=>[⟨0,2,r⟩]) rfl hO ?_
    exact ca [(2,ay 0 0 a0.length)] trivial
   refine ji ?_
   refine mu (ay 0 0 a0.length) [ay 0 0 a0.length] ?_
   exact⟨rb [some 0],tj [some 0] rfl (by decide) ⟨rfl,(qs (b:=0) (g:=0) (sz:=2) (xs:=a0) (ys:=aa) rfl Ht h),trivial⟩,(.inr (yy (by simp) rfl rfl (by have:=congrArg List.length h;simpa using this)))⟩
theorem ame (ab:small a0):de Tryz.prog 108 [bB bh a0] [] (fun r H=>r=ay 0 0 (aK a0).length∧H=[⟨0,2,List.map bh (aK a0)⟩]):=amg a0 (aK a0) (by
 have ab:a0.length≤1048576:=ab
 unfold OA OB
 exact⟨fun h=>⟨⟨by omega,by omega⟩,rfl⟩,fun h b=>⟨fun _=>h.symm,fun _=>⟨⟨by omega,by omega⟩,rfl⟩⟩⟩)
end
section
abbrev rn (r:Type):Type:=List (List Bool)→Nat→Nat→List Nat→Int→List av→r
variable (ad:rn Prop) (ag:rn Nat) (a0 aa:Frame) (bb:List (List Bool)) (g2 g3:Nat) (aH:List Nat) (cG:Int) (ws2:List av)
abbrev vJ:List AV:=[ai (nth a0.O cG).aJ,ai (nth a0.O cG).ba,ay (bb.length+4) 0 (aK (nth a0.O cG).ae).length,aq (nth a0.O cG).bS,ai (nth a0.O cG).bR]
abbrev uw:=av.mk (nth a0.O cG).aJ (nth a0.O cG).ba (aK (nth a0.O cG).ae) (nth a0.O cG).bS (nth a0.O cG).bR
abbrev Aw:List AV:=[aq a0.ok,ay 0 0 (aK a0.aB).length,ay 1 0 (aK a0.au).length,ay 2 g2 ws2.length]
abbrev GO:=bt 34 [(16,bB (e3 false) a0.O),(17,ai (a0.O.length:Int)),(18,ai 0),(3,aS 3 0),(2,aS 2 0)]
abbrev vK:List AV:=[aq false,c7,c7,c7]
abbrev L9:List (Nat×List AV):=[(3,[aq a0.ok,ay 0 0 (aK a0.aB).length,ay 1 0 (aK a0.au).length,ay 2 0 ([]:List av).length]),(2,vK),(1,(b9 false a0))]
abbrev DD:List AV:=[aq a0.ok,ay 0 0 (aK a0.aB).length,ay 1 0 (aK a0.au).length,c7]
abbrev uu:=bb++[(aK (nth a0.O cG).ae)]
abbrev L_:List Blk:=(⟨0,1,List.map aT (aK a0.aB)⟩::⟨0,2,List.map bh (aK a0.au)⟩::⟨(g2+1),5,aU 4 (ws2++[(uw a0 cG)]) (aH++[bb.length])⟩::⟨(g3+1),5,[(vJ a0 bb cG)]⟩::List.map br (uu a0 bb cG))
abbrev Ma:List (Nat×List AV):=[(5,(vJ a0 bb cG)),(3,[aq a0.ok,ay 0 0 (aK a0.aB).length,ay 1 0 (aK a0.au).length,ay 2 (g2+1) (ws2++[(uw a0 cG)]).length]),(2,vK)]
abbrev GP:List Blk:=[⟨0,1,List.map aT (aK a0.aB)⟩,⟨0,2,List.map bh (aK a0.au)⟩]
abbrev vL:=IntKind.i64.wrap (cG+1)
abbrev Ub:=bt 34 [(18,ai (vL cG)),(32,ai (vL cG)),(2,aS 2 0),(3,aS 3 0),(16,bB (e3 false) a0.O),(17,ai (a0.O.length:Int))]
abbrev Uc:List Blk:=(⟨0,1,List.map aT (aK a0.aB)⟩::⟨0,2,List.map bh (aK a0.au)⟩::⟨g2,5,aU 4 ws2 aH⟩::⟨g3,5,[]⟩::List.map br (uu a0 bb cG))
abbrev Ud:List Blk:=[⟨0,1,List.map aT (aK a0.aB)⟩,⟨0,2,List.map bh (aK a0.au)⟩,⟨0,5,aU 4 ([]:List av) ([]:List Nat)⟩]
abbrev uv:=[1000003]
abbrev Ue:=true=true∧true=true∧((aS 1 0:AV)=aS 1 0)
abbrev Uf:=true=true∧true=true∧((aS 3 0:AV)=aS 3 0)
abbrev Ug:=true=true∧true=true∧((aq a0.ok:AV)=aq a0.ok)
abbrev DC:=decide (cG<(a0.O.length:Int))
noncomputable def L8:Code:=j8 Tryz.f70
def ag5:List Item:=[cS 0,cS 1,cS 2,cS 3,cS 5,cS 6,cS 9,⟨4,true,false,[0,1,5,6,9]⟩,⟨7,true,false,[0,1,9]⟩,cS 8,⟨10,true,false,[]⟩]
def ag6:List (List Nat):=[[],[0],[],[2],[2,3],[],[5],rg 2 7,rg 0 8,[],rg 0 10]
def L5:Prop:=
  ad (uu a0 bb cG) (g2+1) (g3+1) (aH++[bb.length]) (vL cG) (ws2++[(uw a0 cG)])∧ag (uu a0 bb cG) (g2+1) (g3+1) (aH++[bb.length]) (vL cG) (ws2++[(uw a0 cG)])<ag bb g2 g3 aH cG ws2
def L6:Prop:=
  ((DC a0 cG)=false→a0.ok=aa.ok∧(aK a0.aB)=aa.aB∧(aK a0.au)=aa.au∧ws2=aa.O∧aH=List.range ws2.length∧bb=ws2.map av.ae)∧((DC a0 cG)=true→((0≤cG∧cG.toNat<a0.O.length)∧((small (nth a0.O cG).ae)∧(ws2.length=aH.length∧((ws2.length+1)*56≤140737488355328∧ws2.length+1≤4611686018427387904))))∧(L5 ad ag a0 bb g2 g3 aH cG ws2))
def L4 (a0:Frame) (aa:Frame) (ad:rn Prop) (ag:rn Nat):Prop:=
 ((small a0.aB)∧(small a0.au))∧(a0.O.length≤4611686018427387904→ad ([]:List (List Bool)) 0 0 ([]:List Nat) 0 ([]:List av)∧ ∀(bb:List (List Bool)) (g2:Nat) (g3:Nat) (aH:List Nat) (cG:Int) (ws2:List av),ad bb g2 g3 aH cG ws2→(L6 ad ag a0 aa bb g2 g3 aH cG ws2))
theorem ag7 (a0:Frame) (aa:Frame) (ad:rn Prop) (ag:rn Nat) (h:L4 a0 aa ad ag):de Tryz.prog 70 [.agg (b9 false a0)] [] (fun r H=>r= .agg [aq aa.ok,ay 0 0 aa.aB.length,ay 1 0 aa.au.length,ay 2 0 aa.O.length]∧H=(⟨0,1,List.map aT aa.aB⟩::⟨0,2,List.map bh aa.au⟩::⟨0,5,aU 3 aa.O (List.range aa.O.length)⟩::List.map br (List.map av.ae aa.O))):=by
 refine de.toOwn ?_
 unfold L4 at h
 refine de.go (fn:=Tryz.f70) [(0,.agg (b9 false a0))] Tryz.func70 (fun _ _=> ?_)
 show WpS _ (bO L8 1) _ ⟨bt 34 [(0,.agg (b9 false a0))],[],[]⟩
 refine vl uv 0 [(2,aS 2 0),(1,aS 1 0)] [2] [] [(2,vK),(1,(b9 false a0))] [] ?_
 obtain⟨l5,h⟩:=h
 refine fX [(3,aS 3 0)] [2] (fun L=>(3,(DD a0))::L) (fun _=>(GP a0)) (True) ?_ (fun q2=> ?_)
 ·
  replace h:=l5
  refine qq uv 1 ag5 ag6 [(3,vK)] ?_
  obtain⟨q3,h⟩:=h
  refine Qb 8 (some 10) [(3,aS 3 0),(12,bB bh a0.au),(11,aS 1 2),(9,bB aT a0.aB),(8,aS 1 1),(7,aq a0.ok),(6,aS 1 0)] [bB aT a0.aB] (fun L H=>xi Tryz.prog (lH L8 6) [0,1,5,6,9] [(3,aS 3 0),(12,bB bh a0.au),(11,aS 1 2),(9,bB aT a0.aB),(8,aS 1 1),(7,aq a0.ok),(6,aS 1 0),(2,aS 2 0),(1,aS 1 0)] L H) (ay 0 0 (aK a0.aB).length) [⟨0,1,List.map aT (aK a0.aB)⟩] (YH a0.aB q3) (ak.cons (df.jc cW) ak.nil) (uL (fun _=>rfl) rfl) (uV (uU (fun _=>rfl) rfl) (by kernel_rfl)) (Hv (ψ:=(Ue∧((Ug a0)∧((true=true∧true=true∧((aS 1 2:AV)=aS 1 2))∧((true=true∧true=true∧((bB bh a0.au:AV)=bB bh a0.au))∧(Uf∧True)))))) (by kernel_rfl) ⟨⟨rfl,rfl,rfl⟩,⟨⟨rfl,rfl,rfl⟩,⟨⟨rfl,rfl,rfl⟩,⟨⟨rfl,rfl,rfl⟩,⟨⟨rfl,rfl,rfl⟩,trivial⟩⟩⟩⟩⟩) ?_
  have q4:=h
  refine Qb 1 (some 13) [] [bB bh a0.au] (fun L H=>xi Tryz.prog (lH L8 6) [0,1,9] [(10,ay 0 0 (aK a0.aB).length),(3,aS 3 0),(12,bB bh a0.au),(11,aS 1 2),(9,bB aT a0.aB),(8,aS 1 1),(7,aq a0.ok),(6,aS 1 0),(2,aS 2 0),(1,aS 1 0)] L H) (ay 1 0 (aK a0.au).length) (GP a0) (ame a0.au q4) (ak.cons (df.jc cW) ak.nil) (uL (fun _=>rfl) rfl) (uV (uU (fun _=>rfl) rfl) (by kernel_rfl)) (Hv (ψ:=(Ue∧((Ug a0)∧(Uf∧True)))) (by kernel_rfl) ⟨⟨rfl,rfl,rfl⟩,⟨⟨rfl,rfl,rfl⟩,⟨⟨rfl,rfl,rfl⟩,trivial⟩⟩⟩) ?_
  refine aon 2 [(14,.agg (DD a0))] [(3,(DD a0)),(2,vK),(1,(b9 false a0))] (GP a0) (φ:=True) trivial ?_
  exact ma [] trivial
 refine jx ?_
 refine cR [(16,bB (e3 false) a0.O),(17,ai (a0.O.length:Int)),(18,ai 0)] [2] (a0.O.length≤4611686018427387904) ?_ (fun cN=> ?_)
 ·
  refine bE uv 2 ?_
  refine sLen 3 (some 17) [(16,bB (e3 false) a0.O),(15,aS 1 3)] (e3 false) a0.O (fun c2=> ?_)
  exact ca [(18,ai 0)] c2
 replace h:=h cN
 refine hp 0 ?_
 refine WpS.so ?_ (jM (s'':=⟨(GO a0),(L9 a0),(Ud a0)⟩) (Weak.Jc (T:=(GO a0)) (L:=[(3,(DD a0)),(2,vK),(1,(b9 false a0))]) (H:=(GP a0)) (cells:=(DD a0)) 3 3 5 (by kernel_rfl) (by kernel_rfl)) (by kernel_rfl))
 refine WpS.so ?_ (jM (s'':=⟨(GO a0),(L9 a0),(⟨0,1,List.map aT (aK a0.aB)⟩::⟨0,2,List.map bh (aK a0.au)⟩::⟨0,5,aU 4 ([]:List av) ([]:List Nat)⟩::⟨0,5,[]⟩::List.map br ([]:List (List Bool)))⟩) (Weak.Hm (T:=(GO a0)) (L:=(L9 a0)) (H:=(Ud a0)) 5) (by kernel_rfl))
 obtain⟨nv,h⟩:=h
 refine ng (fun(v:List (List Bool)×Nat×Nat×List Nat×Int×List av)=>(⟨(bt 34 [(2,aS 2 0),(3,aS 3 0),(16,bB (e3 false) a0.O),(17,ai (a0.O.length:Int)),(18,ai (v.2.2.2.2.1))]),[(3,[aq a0.ok,ay 0 0 (aK a0.aB).length,ay 1 0 (aK a0.au).length,ay 2 (v.2.1) (v.2.2.2.2.2).length]),(2,vK)],(⟨0,1,List.map aT (aK a0.aB)⟩::⟨0,2,List.map bh (aK a0.au)⟩::⟨(v.2.1),5,aU 4 (v.2.2.2.2.2) (v.2.2.2.1)⟩::⟨(v.2.2.1),5,[]⟩::List.map br (v.1))⟩:St)) (fun(v:List (List Bool)×Nat×Nat×List Nat×Int×List av)=>ad (v.1) (v.2.1) (v.2.2.1) (v.2.2.2.1) (v.2.2.2.2.1) (v.2.2.2.2.2)) (fun(v:List (List Bool)×Nat×Nat×List Nat×Int×List av)=>ag (v.1) (v.2.1) (v.2.2.1) (v.2.2.2.1) (v.2.2.2.2.1) (v.2.2.2.2.2)) (([]:List (List Bool)),0,0,([]:List Nat),0,([]:List av)) (dX [1]) nv (fun v aN=> ?_)
 obtain⟨bb,g2,g3,aH,cG,ws2⟩:=v
 replace h:=h bb g2 g3 aH cG ws2 aN
 dsimp only
 refine eO uv 3 [(19,aq (DC a0 cG))] [1] [5] ?_
 unfold L6 at h
 obtain⟨jF,h⟩:=h
 refine cR [] [0,1,5] ((DC a0 cG)=true) ?_ (fun gT=> ?_)
 ·
  replace h:=jF
  refine dZ (fun k7=> ?_) (fun k7=> ?_)
  ·
   refine eP ?_
   exact cE.normal (by simp only[k7]<;>rfl) e1
  ·
   replace h:=h k7
   refine lh 0 ?_
   refine cE.exit ?_
   refine eC.exit ?_
   refine cs.here ?_
   refine ej.normal ?_
   refine mI ⟨(bt 34 [(2,aS 2 0)]),[(3,(Aw a0 g2 ws2)),(2,(Aw a0 g2 ws2))],(⟨0,1,List.map aT (aK a0.aB)⟩::⟨0,2,List.map bh (aK a0.au)⟩::⟨g2,5,aU 4 ws2 aH⟩::⟨g3,5,[]⟩::List.map br bb)⟩ (True) ?_ (fun hO=> ?_)
   ·
    refine bE uv 8 ?_
    exact ca [(33,.agg (Aw a0 g2 ws2))] trivial
   refine ji ?_
   refine mu (.agg (Aw a0 g2 ws2)) [.agg (Aw a0 g2 ws2)] ?_
   exact Xr h rfl rfl rfl rfl
 replace h:=h gT
 obtain⟨iQ,h⟩:=h
 refine fX [] [5] (fun L=>(5,(vJ a0 bb cG))::jU 0 3 (ay 2 (g2+1) (ws2++[(uw a0 cG)]).length) L) (fun _=>(L_ a0 bb g2 g3 aH cG ws2)) (True) ?_ (fun kL=> ?_)
 ·
  replace h:=iQ
  refine hp 1 ?_
  obtain⟨oQ,h⟩:=h
  refine fX [(5,aS 5 0)] [5] (fun L=>(5,(e3 false (nth a0.O cG)))::L) id (True) ?_ (fun mr=> ?_)
  ·
   replace h:=oQ
   refine bE uv 4 ?_
   have hd:=h
   refine m5 1 (some 20) [] (e3 false) a0.O 5 hd ?_
   exact ca [(5,aS 5 0),(21,.agg (e3 false (nth a0.O cG)))] trivial
  obtain⟨k5,h⟩:=h
  refine fX [] [6] (fun L=>er 0 (vJ a0 bb cG) L) (fun _=>(Uc a0 bb g2 g3 aH cG ws2)) (True) ?_ (fun Bd=> ?_)
  ·
   replace h:=k5
   refine bE uv 5 ?_
   have j1:=h
   refine tp 3 (some 24) [(23,bB aT (nth a0.O cG).ae),(22,aS 5 2)] [bB aT (nth a0.O cG).ae] (ay (bb.length+4) 0 (aK (nth a0.O cG).ae).length) (Uc a0 bb g2 g3 aH cG ws2) (YH (nth a0.O cG).ae j1) (ak.cons (df.jc cW) ak.nil) (uL (fun _=>rfl) rfl) (uV (uU (fun _=>rfl) rfl) (by simp only[List.cons_append,List.map_nil,xh])) ?_ (er:=by simp[oX,qv,js])
   exact ca [(25,aS 5 2)] trivial
  refine bE uv 6 ?_
  refine HX 4 [(29,.ref 3 (g3+1) 0 1 true),(28,.agg (vJ a0 bb cG)),(27,ay 2 g2 ws2.length),(26,aS 3 3)] [(5,(vJ a0 bb cG)),(3,(Aw a0 g2 ws2)),(2,vK)] (⟨0,1,List.map aT (aK a0.aB)⟩::⟨0,2,List.map bh (aK a0.au)⟩::⟨g2,5,aU 4 ws2 aH⟩::⟨(g3+1),5,[(vJ a0 bb cG)]⟩::List.map br (uu a0 bb cG)) ?_
  have m1:=h
  refine Yu 1 (some 30) [] 4 2 g2 (g3+1) 56 ws2 aH (uw a0 cG) bb.length (fun r=>(⟨0,1,List.map aT (aK a0.aB)⟩::⟨0,2,List.map bh (aK a0.au)⟩::⟨(g2+1),5,r⟩::⟨(g3+1),5,[(vJ a0 bb cG)]⟩::List.map br (uu a0 bb cG))) m1.1 m1.2 ?_
  refine Yv [(31,aS 3 3)] (Ma a0 bb g2 cG ws2) (L_ a0 bb g2 g3 aH cG ws2) ?_
  refine cs.normal ?_
  exact cE.normal trivial e1
 unfold L5 at h
 refine bE uv 7 ?_
 refine ef [(18,ai (vL cG)),(32,ai (vL cG))] ?_
 exact eC.again ((uu a0 bb cG),(g2+1),(g3+1),(aH++[bb.length]),(vL cG),(ws2++[(uw a0 cG)])) h ((Weak.clear 3 rfl:Weak ⟨(Ub a0 cG),(Ma a0 bb g2 cG ws2),(L_ a0 bb g2 g3 aH cG ws2)⟩ ⟨(Ub a0 cG),(Ma a0 bb g2 cG ws2),(⟨0,1,List.map aT (aK a0.aB)⟩::⟨0,2,List.map bh (aK a0.au)⟩::⟨(g2+1),5,aU 4 (ws2++[(uw a0 cG)]) (aH++[bb.length])⟩::⟨(g3+1),5,[]⟩::List.map br (uu a0 bb cG))⟩).trans (dX [5]))
theorem L7 (ab:my a0):de Tryz.prog 70 [.agg (b9 false a0)] [] (fun r H=>r= .agg [aq (aK a0).ok,ay 0 0 (aK a0).aB.length,ay 1 0 (aK a0).au.length,ay 2 0 (aK a0).O.length]∧H=(⟨0,1,List.map aT (aK a0).aB⟩::⟨0,2,List.map bh (aK a0).au⟩::⟨0,5,aU 3 (aK a0).O (List.range (aK a0).O.length)⟩::List.map br (List.map av.ae (aK a0).O))):=ag7 a0 (aK a0) (fun bs _ _ is v ws=>cq a0.O.length (fun _=>false) v∧ws=a0.O.take v.toNat∧is=List.range ws.length∧bs=ws.map av.ae) (fun _ _ _ _ v _=>cI a0.O.length v) (by
 unfold L4
 obtain⟨jE,m0,D7,yz⟩:=ab
 refine⟨⟨jE,m0⟩,fun af=>⟨⟨dB (dt _),rfl,rfl,rfl⟩,fun bs g2 g3 is v ws aN=> ?_⟩⟩
 unfold L6 L5 DC vL uu uw
 obtain⟨aN,rfl,hi,hb⟩:=aN
 refine⟨fun hv=> ?_,fun hv=>⟨⟨cA aN hv,yz _ (ee (cA aN hv).2),?_,?_,?_⟩,⟨(dn (c_ af) aN hv rfl).1,?_,?_,?_⟩,(dn (c_ af) aN hv rfl).2⟩⟩
 ·have: ¬v<(a0.O.length:Int):=by simpa using hv
  have h1:=aN.1
  rw[List.take_of_length_le (by omega)] at hi hb ⊢
  exact⟨rfl,rfl,rfl,rfl,hi,hb⟩
 ·rw[hi];simp
 ·rw[List.length_take];omega
 ·rw[List.length_take];omega
 ·have cz:=cA aN hv
  rw[mE (c_ af) cz.1 (by omega),show(v+1).toNat=v.toNat+1 by omega,List.take_succ_eq_append_getElem cz.2,←iN cz.2];rfl
 ·rw[hi,hb];simp[List.range_succ]
 ·rw[hb,List.map_append];rfl)
end
section
variable (a0:aQ) (J:Int) (aa:av)
abbrev s9:=(nth a0.O J).ao
abbrev AE:=List.replicate ((s9 a0 J).length:Int).toNat false
abbrev MA:List AV:=[ai 0,ai 0,ay 0 0 (AE a0 J).length,aq false,ai 0]
noncomputable def ahl:Code:=j8 Tryz.f106
def My:Prop:=
  ((0≤J∧J.toNat<a0.O.length)∧((s9 a0 J).length≤4611686018427387904→0≤((s9 a0 J).length:Int)∧1*((s9 a0 J).length:Int)≤140737488355328∧((s9 a0 J).length:Int)≤4611686018427387904))∧((s9 a0 J).length≤4611686018427387904→(0=aa.aJ)∧(0=aa.ba)∧((AE a0 J)=aa.ae)∧(false=aa.bS)∧(0=aa.bR))
def Mx:Prop:=
 My a0 J aa
theorem ahm (h:Mx a0 J aa):de Tryz.prog 106 [.agg (bH false a0),ai J] [] (fun r H=>r= .agg [ai aa.aJ,ai aa.ba,ay 0 0 aa.ae.length,aq aa.bS,ai aa.bR]∧H=[⟨0,1,List.map aT aa.ae⟩]):=by
 refine de.toOwn ?_
 unfold Mx at h
 refine de.go (fn:=Tryz.f106) [(0,.agg (bH false a0)),(1,ai J)] Tryz.func106 (fun _ _=> ?_)
 show WpS _ (bO ahl 1) _ ⟨bt 14 [(0,.agg (bH false a0)),(1,ai J)],[],[]⟩
 refine vl [] 0 [(4,aS 4 0),(2,aS 2 0)] [2] [0,1,1] [(4,[ai 0,ai 0,c7,aq false,ai 0]),(2,(bH false a0))] [] ?_
 unfold My at h
 obtain⟨c2,h⟩:=h
 refine fX [] [1] (fun L=>jU 0 2 (ay 0 0 (AE a0 J).length) L) (fun _=>[⟨0,1,List.map aT (AE a0 J)⟩]) ((s9 a0 J).length≤4611686018427387904) ?_ (fun q2=> ?_)
 ·
  replace h:=c2
  refine bE [] 1 ?_
  obtain⟨cN,h⟩:=h
  refine m5 4 (some 8) [(7,ai J),(6,bB (dS false) a0.O),(5,aS 2 2)] (dS false) a0.O 5 cN ?_
  refine sLen 3 (some 11) [(10,bB cB (s9 a0 J)),(9,.dz (dS false (nth a0.O J)) 0)] cB (s9 a0 J) (fun q3=> ?_)
  replace h:=h q3
  have q4:=h
  refine alT 1 (some 12) [] aT 1 [aq false] 0 (fun r=>[⟨0,1,r⟩]) false q4 ?_
  exact ca [(13,.agg (MA a0 J))] q3
 replace h:=h q2
 refine ji ?_
 refine mu (.agg (MA a0 J)) [.agg (MA a0 J)] ?_
 exact⟨rb [some 0],tj [some 0] rfl (by decide) ⟨rfl,(qs (b:=0) (g:=0) (sz:=1) (xs:=(AE a0 J)) (ys:=aa.ae) rfl yw (h.2.2.1)),trivial⟩,(.inl ⟨_,_,rfl,rfl,(ak.cons (NF (a:=0) (b:=aa.aJ) (h.1)) (ak.cons (NF (a:=0) (b:=aa.ba) (h.2.1)) (ak.cons (yy (by simp) rfl rfl (by have:=congrArg List.length (h.2.2.1);simpa using this)) (ak.cons (akT (a:=false) (b:=aa.bS) (h.2.2.2.1)) (ak.cons (NF (a:=0) (b:=aa.bR) (h.2.2.2.2)) ak.nil)))))⟩)⟩
theorem Mz (ab:DB a0 J):de Tryz.prog 106 [.agg (bH false a0),ai J] [] (fun r H=>r= .agg [ai (dE a0 J).aJ,ai (dE a0 J).ba,ay 0 0 (dE a0 J).ae.length,aq (dE a0 J).bS,ai (dE a0 J).bR]∧H=[⟨0,1,List.map aT (dE a0 J).ae⟩]):=ahm a0 J (dE a0 J) (by
 unfold Mx My AE s9
 obtain⟨cF,aA,h1⟩:=ab
 have aM:J.toNat<a0.O.length:=by omega
 have:=(cF.ao _ (ee aM)).2.1
 exact⟨⟨⟨aA,aM⟩,fun _=>⟨dt _,by omega,by omega⟩⟩,fun _=>⟨rfl,rfl,by show List.replicate _ _=List.replicate _ _;simp,rfl,rfl⟩⟩)
end
section
variable (ad:Int→Prop) (ag:Int→Nat) (a0:Frame) (J:(List Int)) (aa:Bool)
def UU:Prop:=
  J.length≤4611686018427387904→ad 0∧ ∀(v9:Int),ad v9→(((decide (v9<(J.length:Int)))=false→false=aa)∧((decide (v9<(J.length:Int)))=true→((0≤v9∧v9.toNat<J.length)∧((0≤(nth J v9)∧(nth J v9).toNat<a0.aB.length)∧((nth a0.aB (nth J v9))=true→true=aa)))∧((!(nth a0.aB (nth J v9)))=true→ad (IntKind.i64.wrap (v9+1))∧ag (IntKind.i64.wrap (v9+1))<ag v9)))
def UT (a0:Frame) (J:(List Int)) (aa:Bool) (ad:Int→Prop) (ag:Int→Nat):Prop:=
 UU ad ag a0 J aa
theorem UW (ab:yQ a0 J):bf Tryz.prog 111 [.agg (b9 false a0),bB cB J] (aq (h8 a0 J)):=(fun(ad:Int→Prop) (ag:Int→Nat) (h:UT a0 J (h8 a0 J) ad ag)=>bf.run (ps:=[.frame,(.l .int)]) (rs:=[.bool]) (x:=(a0,J,())) (r:=((h8 a0 J),())) ⟨19,c5,[]⟩ ⟨[],[],[],[],[]⟩ (eY [2,7,8] [(2,4)] 9 ad ag fun _=> .nil) Tryz.func111 h) (cq J.length (fun j=>gE a0 (nth J j))) (cI J.length) (by
 unfold UT UU
 intro af
 refine⟨dB (dt _),fun v aN=>⟨fun hv=> ?_,fun hv=>⟨⟨cA aN hv,?_,fun hb=> ?_⟩,fun hb=>dn (c_ af) aN hv (not_eq hb)⟩⟩⟩
 ·exact(ES (q:=fun x=>gE a0 x) aN hv).symm
 ·have:=ab _ (ee (cA aN hv).2)
  exact⟨this.1,by omega⟩
 ·exact(IC (q:=fun x=>gE a0 x) aN hv hb).symm)
def ahU:dl Tryz.prog:=⟨111,[.frame,(.l .int)],[.bool],some fun x=>yQ x.1 x.2.1,fun x=>((h8 x.1 x.2.1),()),fun x h=>UW x.1 x.2.1 h⟩
end
section
variable (ad:Int→Prop) (ag:Int→Nat) (a0:aQ) (J:Frame) (a2:Int) (aa:Bool) (cG:Int)
abbrev MF:= !((nth J.au (nth (bY (nth a0.O a2)) cG).bi).c6==(nth (bY (nth a0.O a2)) cG).a1&&(nth J.au (nth (bY (nth a0.O a2)) cG).bi).bA==(nth (bY (nth a0.O a2)) cG).a1)
def ahB:List Item:=(List.range 12).map cS
def ahC:List (List Nat):=[[],[0],[],[2],rg 0 4,rg 0 5,[],[6],[],[8],rg 6 10,rg 0 11]
def UF:Prop:=
  ((0≤cG∧cG.toNat<(bY (nth a0.O a2)).length)∧((0≤(nth (bY (nth a0.O a2)) cG).bi∧(nth (bY (nth a0.O a2)) cG).bi.toNat<J.au.length)∧((MF a0 J a2 cG)=true→false=aa)))∧((!(MF a0 J a2 cG))=true→ad (IntKind.i64.wrap (cG+1))∧ag (IntKind.i64.wrap (cG+1))<ag cG)
def UG:Prop:=
  ((decide (cG<((bY (nth a0.O a2)).length:Int)))=false→((yQ J (nth a0.O a2).ao)∧((!(h8 J (nth a0.O a2).ao))=true→yQ J (nth a0.O a2).dk))∧(((!(h8 J (nth a0.O a2).ao))&&(!(h8 J (nth a0.O a2).dk)))=aa))∧((decide (cG<((bY (nth a0.O a2)).length:Int)))=true→UF ad ag a0 J a2 aa cG)
def UE (a0:aQ) (J:Frame) (a2:Int) (aa:Bool) (ad:Int→Prop) (ag:Int→Nat):Prop:=
 (0≤a2∧a2.toNat<a0.O.length)∧((A_ (nth a0.O a2))∧((bY (nth a0.O a2)).length≤4611686018427387904→ad 0∧ ∀(cG:Int),ad cG→(UG ad ag a0 J a2 aa cG)))
theorem ahA (ab:Ba a0 J a2):bf Tryz.prog 122 [.agg (bH false a0),.agg (b9 false J),ai a2] (aq (jd a0 J a2)):=(fun(ad:Int→Prop) (ag:Int→Nat) (h:UE a0 J a2 (jd a0 J a2) ad ag)=>bf.run (ps:=[.eL,.frame,.int]) (rs:=[.bool]) (x:=(a0,J,a2,())) (r:=((jd a0 J a2),())) ⟨47,c5,[MD,ahU]⟩ ⟨[],[(5,ahB,ahC)],[],[],[]⟩ (eY [4,7,16,17] [(7,5),(4,4)] 18 ad ag fun _=> .nil) Tryz.func122 h) (cq (bY (nth a0.O a2)).length (fun j=> !((nth J.au (nth (bY (nth a0.O a2)) j).bi).c6==(nth (bY (nth a0.O a2)) j).a1&&(nth J.au (nth (bY (nth a0.O a2)) j).bi).bA==(nth (bY (nth a0.O a2)) j).a1))) (cI (bY (nth a0.O a2)).length) (by
 unfold UE
 obtain⟨cF,dj,aA,h1⟩:=ab
 have aM:a2.toNat<a0.O.length:=by omega
 have hw:=ee aM
 obtain⟨vR,n6,M9⟩:=cF.bA _ hw
 have sU:=dj.aB
 have ul:yQ J (nth a0.O a2).ao:=fun x hx=>by have:=(cF.ao _ hw).2.2 x hx;omega
 have afZ:yQ J (nth a0.O a2).dk:=fun x hx=>by have:=(cF.dk _ hw).2 x hx;omega
 refine⟨⟨aA,aM⟩,⟨by omega,by omega⟩,fun af=>⟨dB (dt _),fun v aN=> ?_⟩⟩
 unfold UG UF MF
 have U: ∀l:c8,decide (nth J.au l.bi=⟨l.a1,l.a1⟩)=((nth J.au l.bi).c6==l.a1&&(nth J.au l.bi).bA==l.a1):=fun l=>by
  rcases nth J.au l.bi with⟨x,y⟩
  rw[Bool.eq_iff_iff];simp
 refine⟨fun hv=>⟨⟨ul,fun _=>afZ⟩,?_⟩,fun hv=>⟨⟨cA aN hv,?_,fun hb=> ?_⟩,fun hb=> ?_⟩⟩
 ·have eG:=nI (q:=fun l:c8=> !((nth J.au l.bi).c6==l.a1&&(nth J.au l.bi).bA==l.a1)) (hI aN hv)
  unfold jd
  have:(bY (nth a0.O a2)).all (fun l=>decide (nth J.au l.bi=⟨l.a1,l.a1⟩))=true:=by
   rw[List.all_eq_true]
   intro l aw
   rw[U]
   simpa using eG l aw
  rw[this,Bool.true_and]
 ·have:=M9 _ (ee (cA aN hv).2)
  have h2:=dj.au
  exact⟨this.1,by omega⟩
 ·unfold jd
  have:(bY (nth a0.O a2)).all (fun l=>decide (nth J.au l.bi=⟨l.a1,l.a1⟩))=false:=by
   rw[←Bool.not_eq_true,List.all_eq_true]
   intro ar
   have:=ar _ (ee (cA aN hv).2)
   rw[U] at this
   rw[this] at hb;cases hb
  rw[this];rfl
 ·exact dn (c_ af) aN hv (not_eq hb))
end
end Go.Proofs.YtejmihecgodhnaaGreat.Fw
