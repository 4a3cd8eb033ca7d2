/- The machine, part G: code, loops, functions. -/
import Derived.Test.YtejmihecgodhnaaGreatDoorM3
set_option linter.unusedVariables false
namespace Go.Proofs.YtejmihecgodhnaaGreatDoor.Fw
open Go
theorem IU {cI:List Nat}: ∀(L:List (Nat×List AV)) (t:Nat),cI.contains t=true→eB (pq cI L) t=none
 | [],t,h=>rfl
 | (k,c)::L,t,h=>by
  unfold pq
  split
  ·exact IU L t h
  ·rename_i hk
   have:t≠k:=fun e=>by subst e;rw[h] at hk;cases hk
   simp only[eB,if_neg this];exact IU L t h
def Js:Bool→Bool→Bool
 | _,false=>true
 | a,true=>a
theorem Rp {a b:Bool} (h:Js a b=true):b=true→a=true:=fun e=>by subst e;exact h
def lO (a b:AV):Prop:=b=a∨b= .undef∨ ∃rows full fr oy,a= .aX rows full fr∧b= .aX rows false oy∧(oy=true→fr=true)
theorem lO.XD {w:World} {PA PF:Nat→Prop} {rows:List (List AV)} {full fr oy:Bool} {v:Value} (ae: ∀c,PF c→PA c) (hf:oy=true→fr=true) (h:aY w PA PF (.aX rows full fr) v):aY w PA PF (.aX rows false oy) v:=by
 cases h with
 | aX eW fl fK b9 dt hrel=>
  refine .aX (fun c hc=> ?_) fl (fun h=>by cases h) b9 dt hrel
  have:=eW c hc
  cases oy with
  | true=>rw[hf rfl] at this;exact this
  | false=>
   cases fr with
   | true=>exact ae c this
   | false=>exact this
theorem lO.v1 {E:Env} {a b:AV} {v:Value} (ae: ∀c,E.PF c→E.PA c) (h:lO a b) (hv:bZ E a v):bZ E b v:=by
 rcases h with rfl | rfl | ⟨rows,full,fr,oy,rfl,rfl,hf⟩
 ·exact hv
 ·exact bZ.undef _ _
 ·exact lO.XD ae hf hv
theorem lO.v3 {E:Env} {a b:AV} {v:Value} (ae: ∀c,E.PF c→E.PA c) (h:lO a b) (hv:V3 E a v):V3 E b v:=by
 rcases h with rfl | rfl | ⟨rows,full,fr,oy,rfl,rfl,hf⟩
 ·exact hv
 ·exact V3.undef _ _
 ·exact lO.XD ae hf hv
theorem lO.of {a b:AV} (h:b=a∨b= .undef):lO a b:=h.imp_right .inl
theorem Weak.aly [cl] {T T':List AV} {L:List (Nat×List AV)} {H:List Blk} (aw:T'.length=T.length) (h: ∀t,lO (T.getD t .undef) (T'.getD t .undef)):Weak ⟨T,L,H⟩ ⟨T',L,H⟩:=fun b_ E tmps g s=>
 ⟨E,rfl,g,s.h,s.l,fun t=>(h t).v3 s.h.dA (s.iI t),by show T'.length=_;rw[aw];exact s.size⟩
theorem Weak.cells [cl] {T:List AV} {L L':List (Nat×List AV)} {H:List Blk} (bC: ∀t cells,eB L t=some cells→ ∃gL,eB L' t=some gL∧gL.length=cells.length∧ ∀(i:Nat) (a:AV),gL[i]?=some a→ ∃b,cells[i]?=some b∧lO b a):Weak ⟨T,L,H⟩ ⟨T,L',H⟩:=fun b_ E tmps g s=>
 ⟨E,rfl,g,s.h,fun t c hm=>by
  obtain⟨cells,ay,ty,q1,q2,q3⟩:=s.l t c hm
  obtain⟨gL,dG,et,eN⟩:=bC t cells q1
  refine⟨gL,ay,ty,dG,q2,by rw[et];exact q3.1,fun i a v aG hv=> ?_⟩
  obtain⟨b,hb,q⟩:=eN i a aG
  exact q.v1 s.h.dA (q3.2 i b v hb hv),s.iI,s.size⟩
theorem anE [cl] {T T':List AV} {L L':List (Nat×List AV)} {H:List Blk} (aw:T'.length=T.length) (b7: ∀t,lO (T.getD t .undef) (T'.getD t .undef)) (cI:List Nat) (ae:T'.all (qi cI)=true)
  (bC: ∀t cells,cI.contains t=false→eB L t=some cells→ ∃gL,eB L' t=some gL∧gL.length=cells.length∧ ∀(i:Nat) (a:AV),gL[i]?=some a→ ∃b,cells[i]?=some b∧lO b a):Weak ⟨T,L,H⟩ ⟨T',L',H⟩:=by
 refine(Weak.aly aw b7).trans ((Weak.pq cI ae).trans (Weak.cells fun t cells h=> ?_))
 cases a6:cI.contains t with
 | true=>rw[IU L t a6] at h;cases h
 | false=>rw[EU L t a6] at h;exact bC t cells a6 h
theorem VR (l:List (Nat×TV)) (k:Nat) (d:TV):(∃v,(k,v)∈l∧g_ l k d=v)∨g_ l k d=d:=by
 induction l with
 | nil=>exact .inr rfl
 | cons p r br=>
  obtain⟨a,w⟩:=p
  rw[hl]
  by_cases e:a=k
  ·subst e;exact .inl ⟨w,List.mem_cons_self ..,if_pos rfl⟩
  ·rw[if_neg e]
   rcases br with⟨v,h1,h2⟩ | h
   ·exact .inl ⟨v,List.mem_cons_of_mem _ h1,h2⟩
   ·exact .inr h
theorem Iw (s:TS) (v:Nat): ∀(c m:Nat),(hN s v c m).length=m
 | _,0=>rfl
 | c,m+1=>by rw[hN,List.length_cons,Iw s v (c+1) m]
theorem EN (s:TS) (v:Nat): ∀(m c i:Nat),(cz (hN s v c m))[i]?=if i<m then some (s.get (fF v (c+i))).bk else none
 | 0,c,i=>by simp[hN,cz]
 | m+1,c,i=>by
  rw[hN,cz]
  cases i with
  | zero=>simp
  | succ i=>
   rw[List.getElem?_cons_succ,EN s v m (c+1) i,show c+1+i=c+(i+1) by omega]
   by_cases h:i<m
   ·rw[if_pos h,if_pos (by omega)]
   ·rw[if_neg h,if_neg (by omega)]
theorem HJ [FZ] (n:Nat) (s:TS):s.aj n=⟨(s.aj n).T,(s.aj n).L,(s.aj n).H⟩:=rfl
theorem aad [cl] [FZ] {n:Nat} {s S:TS} (cO:ju S=ju s) (b7: ∀t,t<n→lO (s.get t).bk (S.get t).bk) (cI:List Nat) (ae:(S.aj n).T.all (qi cI)=true)
  (hv: ∀v m,cI.contains v=false→k6 s.vs v=some m→k6 S.vs v=some m∧ ∀c,lO (s.get (fF v c)).bk (S.get (fF v c)).bk)
  (hb:S.a_=s.a_) (dD: ∀b,b<s.a_→(S.get (bw b)).eh=(s.get (bw b)).eh):Weak (s.aj n) (S.aj n):=by
 have av:(S.aj n).H=(s.aj n).H:=by
  show S.gw++hj S=s.gw++hj s
  have e2:hj S=hj s:=by unfold hj;rw[cO]
  rw[e2]
  congr 1
  apply List.ext_getElem?
  intro b
  rw[rH,rH,hb]
  by_cases h:b<s.a_
  ·rw[if_pos h,if_pos h,dD b h]
  ·rw[if_neg h,if_neg h]
 rw[HJ n s,HJ n S,av]
 refine anE (by show((List.range n).map _).length=((List.range n).map _).length;simp) (fun t=> ?_) cI ae fun t cells a6 h=> ?_
 ·rw[D4,D4]
  by_cases h:t<n
  ·rw[if_pos h,if_pos h];exact b7 t h
  ·rw[if_neg h,if_neg h];exact .inl rfl
 ·rw[yj] at h
  cases hm:k6 s.vs t with
  | none=>rw[hm] at h;cases h
  | some m=>
   rw[hm] at h
   cases h
   obtain⟨q1,q2⟩:=hv t m a6 hm
   refine⟨cz (hN S t 0 m),by rw[yj,q1];rfl,?_,fun i a aG=> ?_⟩
   ·show(cz _).length=(cz _).length
    rw[pi,pi,List.length_map,List.length_map,Iw,Iw]
   ·rw[EN] at aG ⊢
    by_cases hi:i<m
    ·rw[if_pos hi] at aG ⊢
     cases aG
     exact⟨_,rfl,q2 (0+i)⟩
    ·rw[if_neg hi] at aG;cases aG
theorem ajj (l:List AV):l.all (qi [])=true:=by
 have az: ∀a,xJ [] a=true:=fun a=>by cases a<;>rfl
 have h1: ∀a,vr [] a=true:=fun a=>by
  unfold vr
  split
  ·exact List.all_eq_true.2 fun x _=>az x
  ·exact az _
 have h2: ∀a,vt [] a=true:=fun a=>by
  unfold vt
  split
  ·exact List.all_eq_true.2 fun x _=>h1 x
  ·exact h1 _
 have au: ∀a,qi [] a=true:=fun a=>by
  unfold qi
  split
  ·exact List.all_eq_true.2 fun x _=>h2 x
  ·exact h2 _
 exact List.all_eq_true.2 fun x _=>au x
theorem Fits.le [FZ] {s S:TS} (h:s.gy S) (f:Fits s):Fits S:=f.congr fun k h1 h2=>(h.get k).resolve_right fun q=>by
 rcases q with q | q
 ·have:=q.1;omega
 ·have:=q.1;omega
theorem anF [cl] [FZ] {n:Nat} (ag:n≤1000000) {s S:TS} (h:s.gy S):Weak (s.aj n) (S.aj n):=by
 have Qe: ∀k,¬k<1000000→S.get k=s.get k∨(1000010≤k∧PP (s.get k) (S.get k)):=fun k hk=>(h.get k).imp_right fun q=>q.resolve_left fun q=>hk q.1
 have mV: ∀k,¬k<1000000→(S.get k).bk=(s.get k).bk∧(S.get k).eh=(s.get k).eh:=fun k hk=>by
  rcases Qe k hk with e | ⟨_,g,c,cn,aW,e2,cF⟩
  ·rw[e];exact⟨rfl,rfl⟩
  ·rw[aW,e2]
   refine⟨rfl,?_⟩
   show Blk.mk g cn.length [cz cn]=Blk.mk g c.length [cz c]
   have aw:cn.length=c.length:=by have:=congrArg List.length cF;rwa [pi,pi,List.length_map,List.length_map] at this
   rw[cF,aw]
 have aB:S.get dy=s.get dy:=(Qe dy (by unfold dy;omega)).resolve_right fun q=>by have:=q.1;unfold dy at this;omega
 refine aad (GD aB) (fun t a6=> ?_) [] (ajj _) (fun v m _ hm=>⟨by rw[h.vs];exact hm,fun c=> .inl (mV _ (by unfold fF;omega)).1⟩) h.a_ fun b _=>(mV _ (by unfold bw;omega)).2
 rcases h.get t with e | ⟨_,e⟩ | ⟨e,_⟩
 ·exact .inl (by rw[e])
 ·exact .of e
 ·omega
inductive lN:Type 1 where
 | nil
 | wJ (a b:lN)
 | lp (mf:List (Nat×Nat×bg)) (dF:List Nat) (ls:List (Nat×Nat)) (kT:List bg) (rd:List Nat) (hP:ck kT→List (Nat×TV)) (I:ck kT→Prop) (m:ck kT→Nat) (b:ck kT→lN)
def lN.fst:lN→lN
 | .wJ a _=>a
 | a=>a
def lN.snd:lN→lN
 | .wJ _ b=>b
 | a=>a
def Ig:(kT:List bg)→(ck kT→aI)→aI
 | [],F=>F ()
 | e::r,F=> .all e.T fun x=>Ig r fun y=>F (x,y)
theorem PX {R:Exit→TS→Prop}: ∀{kT:List bg} {F:ck kT→aI},(Ig kT F).den R→ ∀v,(F v).den R
 | [],F,h,()=>h
 | e::r,F,h,(x,y)=>PX (h x) y
def MP:(e:bg)→TV→(e.T→aI)→aI
 | .int,v,K=>(match v with
  | .i _ m=>K m
  | _=> .no)
 | .u64,v,K=>(match v with
  | .i _ m=>K m
  | _=> .no)
 | .bool,v,K=>(match v with
  | .b x=>K x.den
  | _=> .no)
 | .str,v,K=>(match v with
  | .s x=>K x
  | _=> .no)
 | .nat,v,K=>(match v with
  | .blk g _ _ _ _=>K g
  | _=> .no)
 | .fx,v,K=>(match v with
  | .fc _ c=>K (bg.mk .fx (qW bg.fx.ew c))
  | _=> .no)
 | .l e,v,K=>(match v with
  | .l cA xs _ _=>if h:cA=e then K (mi h xs) else .no
  | .blk _ cA xs _ _=>if h:cA=e then K (mi h xs) else .no
  | .nil _ _=>K []
  | _=> .no)
 | _,_,_=> .no
def G8 (s:TS):(kT:List bg)→List Nat→(ck kT→aI)→aI
 | [],_,K=>K ()
 | e::r,k::Gq,K=>MP e (s.get k) fun x=>G8 s r Gq fun y=>K (x,y)
 | _,_,_=> .no
theorem akj {R:Exit→TS→Prop} {e:bg} {v:TV} {K:e.T→aI} (h:(MP e v K).den R): ∃x,(K x).den R:=by
 cases e with
 | int=>
  have h:(match v with
   | .i _ m=>K m
   | _=>aI.no).den R:=h
  split at h
  ·exact⟨_,h⟩
  ·exact h.elim
 | u64=>
  have h:(match v with
   | .i _ m=>K m
   | _=>aI.no).den R:=h
  split at h
  ·exact⟨_,h⟩
  ·exact h.elim
 | bool=>
  have h:(match v with
   | .b x=>K x.den
   | _=>aI.no).den R:=h
  split at h
  ·exact⟨_,h⟩
  ·exact h.elim
 | str=>
  have h:(match v with
   | .s x=>K x
   | _=>aI.no).den R:=h
  split at h
  ·exact⟨_,h⟩
  ·exact h.elim
 | nat=>
  have h:(match v with
   | .blk g _ _ _ _=>K g
   | _=>aI.no).den R:=h
  split at h
  ·exact⟨_,h⟩
  ·exact h.elim
 | fx=>
  have h:(match v with
   | .fc _ c=>K (bg.mk .fx (qW bg.fx.ew c))
   | _=>aI.no).den R:=h
  split at h
  ·exact⟨_,h⟩
  ·exact h.elim
 | l e=>
  have h:(match v with
   | .l cA xs _ _=>if h:cA=e then K (mi h xs) else aI.no
   | .blk _ cA xs _ _=>if h:cA=e then K (mi h xs) else aI.no
   | .nil _ _=>K []
   | _=>aI.no).den R:=h
  split at h
  ·split at h
   ·exact⟨_,h⟩
   ·exact h.elim
  ·split at h
   ·exact⟨_,h⟩
   ·exact h.elim
  ·exact⟨_,h⟩
  ·exact h.elim
 | _=>exact h.elim
theorem MQ {R:Exit→TS→Prop} {s:TS}: ∀{kT:List bg} {Gq:List Nat} {K:ck kT→aI},(G8 s kT Gq K).den R→ ∃v,(K v).den R
 | [],_,K,h=>⟨(),h⟩
 | e::r,k::Gq,K,h=>by
  obtain⟨x,h⟩:=akj (show(MP e (s.get k) _).den R from h)
  obtain⟨y,h⟩:=MQ h
  exact⟨(x,y),h⟩
 | e::r,[],K,h=>h.elim
def Iz (s:TS) (k:Nat) (w:TV) (t:aI):aI:=match w with
 | .ref b g m f=>(match s.get k with
  | .ref bS dq fh Fc=>(match s.get (bw b) with
   | .blk _ _ xs V1 _=> .eq bS b (.eq Fc f (.eq dq g (.eq fh V1 (.eq m xs.length t))))
   | _=> .no)
  | _=> .no)
 | .blk g e xs _ _=>(match s.get k with
  | .blk dq cA yx _ _=>if h:cA=e then .eq dq g (.eq (mi h yx) xs t) else .no
  | _=> .no)
 | .b y=>(match s.get k with
  | .b x=> .eq x.den y.den t
  | _=> .no)
 | .fc g c=>(match s.get k with
  | .fc dq cn=> .eq dq g (.eq (cz cn) (cz c) (.eq cn.length c.length t))
  | _=> .no)
 | .l e xs dK fr=>(match dK with
  | true=> .eq (s.get k) (.l e xs true fr) t
  | false=>match s.get k with
   | .l cA yx _ oy=>if h:cA=e then .eq (Js oy fr) true (.eq (mi h yx) xs t) else .no
   | .nil _ oy=> .eq (Js oy fr) true (.eq [] xs t)
   | _=> .no)
 | w=> .eq (s.get k) w t
def Gm:TV→Bool
 | .blk _ _ _ _ _=>true
 | .fc _ _=>true
 | .kO _ _ _=>true
 | _=>false
def LN:TV→Bool
 | .gM _ _ _ _=>true
 | .new _ _=>true
 | _=>false
theorem ab0 [FZ] {R:Exit→TS→Prop} {s:TS} {k:Nat} {w:TV} {t:aI} (h:(Iz s k w t).den R):(lO (s.get k).bk w.bk∧(Gm w=true→w.eh=(s.get k).eh)∧(LN w=true→s.get k=w))∧t.den R:=by
 unfold Iz at h
 split at h
 ·split at h
  ·rename_i bS dq fh Fc hk
   split at h
   ·rename_i g0 iQ xs V1 aw hb
    obtain⟨h1,h2,au,a8,bQ,cv⟩:=h
    subst h1;subst h2;subst au;subst a8;subst bQ
    refine⟨⟨.inl ?_,(fun q=>by cases q),fun q=>by cases q⟩,cv⟩
    rw[hk,aw]
   ·exact h.elim
  ·exact h.elim
 ·split at h
  ·rename_i dq cA yx fh FJ hk
   split at h
   ·rename_i he
    subst he
    obtain⟨h1,h2,au⟩:=h
    subst h1
    have h2:yx=_:=h2
    subst h2
    refine⟨⟨.inl ?_,fun _=> ?_,fun q=>by cases q⟩,au⟩<;>rw[hk]<;>rfl
   ·exact h.elim
  ·exact h.elim
 ·split at h
  ·rename_i y _ x hk
   obtain⟨h1,h2⟩:=h
   refine⟨⟨.inl ?_,(fun q=>by cases q),fun q=>by cases q⟩,h2⟩
   rw[hk];show AV.bool y.den= .bool x.den;rw[h1]
  ·exact h.elim
 ·split at h
  ·rename_i dq cn hk
   obtain⟨h1,h2,au,a8⟩:=h
   refine⟨⟨.inl (by rw[hk];rfl),fun _=> ?_,fun q=>by cases q⟩,a8⟩
   rw[hk]
   show(⟨_,_,_⟩:Blk)=⟨_,_,_⟩
   rw[h1,h2,au]
  ·exact h.elim
 ·split at h
  ·obtain⟨h1,h2⟩:=h
   exact⟨⟨.inl (by rw[h1]),(fun _=>by rw[h1]),fun _=>h1⟩,h2⟩
  ·split at h
   ·rename_i cA yx ad1 oy hk
    split at h
    ·rename_i he
     subst he
     obtain⟨h1,h2,au⟩:=h
     have h2:yx=_:=h2
     subst h2
     exact⟨⟨.inr (.inr ⟨_,_,_,_,by rw[hk];rfl,rfl,Rp h1⟩),(fun q=>by cases q),fun q=>by cases q⟩,au⟩
    ·exact h.elim
   ·rename_i ad1 oy hk
    obtain⟨h1,h2,au⟩:=h
    subst h2
    exact⟨⟨.inr (.inr ⟨[],_,_,_,by rw[hk];rfl,rfl,Rp h1⟩),(fun q=>by cases q),fun q=>by cases q⟩,au⟩
   ·exact h.elim
 ·obtain⟨h1,h2⟩:=h
  exact⟨⟨.inl (by rw[h1]),(fun _=>by rw[h1]),fun _=>h1⟩,h2⟩
def IA (s:TS):List (Nat×TV)→aI→aI
 | [],t=>t
 | (k,w)::r,t=>Iz s k w (IA s r t)
theorem QA [FZ] {R:Exit→TS→Prop} {s:TS} {t:aI}: ∀{l:List (Nat×TV)},(IA s l t).den R→(∀k w,(k,w)∈l→lO (s.get k).bk w.bk∧(Gm w=true→w.eh=(s.get k).eh)∧(LN w=true→s.get k=w))∧t.den R
 | [],h=>⟨(fun k w h=>by cases h),h⟩
 | (k,w)::r,h=>by
  obtain⟨h1,h2⟩:=ab0 h
  obtain⟨au,a8⟩:=QA h2
  refine⟨fun k2 w' hm=> ?_,a8⟩
  rcases List.mem_cons.1 hm with e | hm
  ·cases e;exact h1
  ·exact au k2 w' hm
def HM (vs:List (Nat×Nat)):List (Nat×Nat)→Bool
 | []=>true
 | (v,m)::r=>(match k6 vs v with
  | some fh=>Nat.beq m fh
  | none=>false)&&HM vs r
def Ew (s:TS):Nat→Bool
 | 0=>true
 | b+1=>Gm (s.get (bw b))&&Ew s b
def y4 (ls:List (Nat×Nat)):List (Nat×Nat)→List Nat
 | []=>[]
 | (v,_)::r=>match(k6 ls v).isSome with
  | true=>y4 ls r
  | false=>v::y4 ls r
def JU (s S:TS) (t:aI):aI:=
 .eq (HM s.vs S.vs) true (.eq (Nat.beq S.a_ s.a_) true (.eq (Ew S s.a_) true (.eq (S.T.all fun p=>qi (y4 S.vs s.vs) p.2.bk) true (.eq (ju S) (ju s) (IA s S.T t)))))
theorem L7: ∀{l:List (Nat×Nat)} {v m:Nat},k6 l v=some m→(v,m)∈l
 | [],_,_,h=>by cases h
 | (k,fh)::r,v,m,h=>by
  unfold k6 at h
  split at h
  ·rename_i hk;cases h;rw[Nat.eq_of_beq_eq_true hk];exact List.mem_cons_self ..
  ·exact List.mem_cons_of_mem _ (L7 h)
theorem IV {ls:List (Nat×Nat)}: ∀{l:List (Nat×Nat)} {v m:Nat},(y4 ls l).contains v=false→(v,m)∈l→(k6 ls v).isSome=true
 | [],_,_,_,h=>by cases h
 | (k,fh)::r,v,m,aV,h=>by
  unfold y4 at aV
  split at aV
  ·rename_i hk
   rcases List.mem_cons.1 h with e | h
   ·cases e;exact hk
   ·exact IV aV h
  ·rename_i hk
   simp only[List.contains_cons,Bool.or_eq_false_iff] at aV
   rcases List.mem_cons.1 h with e | h
   ·cases e;simp at aV
   ·exact IV aV.2 h
theorem ZP {vs:List (Nat×Nat)}: ∀{l:List (Nat×Nat)},HM vs l=true→ ∀v m,(v,m)∈l→k6 vs v=some m
 | [],_,_,_,h=>by cases h
 | (k,fh)::r,hs,v,m,h=>by
  simp only[HM,Bool.and_eq_true] at hs
  rcases List.mem_cons.1 h with e | h
  ·cases e
   have h1:=hs.1
   split at h1
   ·rename_i m2 hm;rw[hm,Nat.eq_of_beq_eq_true h1]
   ·cases h1
  ·exact ZP hs.2 v m h
theorem PW {s:TS}: ∀{n:Nat},Ew s n=true→ ∀b,b<n→Gm (s.get (bw b))=true
 | 0,_,b,h=>by omega
 | n+1,hs,b,h=>by
  simp only[Ew,Bool.and_eq_true] at hs
  rcases Nat.lt_or_ge b n with q | q
  ·exact PW hs.2 b q
  ·have:b=n:=by omega
   subst this;exact hs.1
theorem Sc [cl] [FZ] {n:Nat} {s S:TS} {t:aI} {R:Exit→TS→Prop} (dD:S.B=[]) (aB:Fits s) (h:(JU s S t).den R):Weak (s.aj n) (S.aj n)∧Fits S∧t.den R:=by
 obtain⟨h1,h2,au,a8,cO,bQ⟩:=h
 obtain⟨cv,gO⟩:=QA bQ
 have zv:=Nat.eq_of_beq_eq_true h2
 have gY: ∀k,(∃v,(k,v)∈S.T∧S.get k=v)∨S.get k= .u:=fun k=>by
  unfold TS.get;rw[dD];exact VR ..
 have R2: ∀k,lO (s.get k).bk (S.get k).bk:=fun k=>by
  rcases gY k with⟨v,hm,e⟩ | e
  ·rw[e];exact(cv k v hm).1
  ·rw[e];exact .inr (.inl rfl)
 have xb: ∀k,LN (S.get k)=true→s.get k=S.get k:=fun k hk=>by
  rcases gY k with⟨v,hm,e⟩ | e
  ·rw[e] at hk ⊢;exact(cv k v hm).2.2 hk
  ·rw[e] at hk;cases hk
 have aew:Fits S:=fun V ids iU h' kx=>by
  have e:=xb dy (by rw[kx];rfl)
  obtain⟨q1,q2,q3⟩:=aB V ids iU h' (by rw[e,kx])
  exact⟨q1,q2,fun id xs jh=>q3 id xs (by rw[xb fS (by rw[jh];rfl),jh])⟩
 refine⟨aad cO (fun t _=>R2 t) (y4 S.vs s.vs) ?_ (fun v m aV hm=> ?_) zv (fun b hb=> ?_),aew,gO⟩
 ·rw[List.all_eq_true]
  intro a aG
  obtain⟨k,_,rfl⟩:=List.mem_map.1 (show a∈(List.range n).map fun t=>(S.get t).bk from aG)
  rcases gY k with⟨v,hm,e⟩ | e
  ·rw[e];exact List.all_eq_true.1 a8 (k,v) hm
  ·rw[e];rfl
 ·have hs:=IV aV (L7 hm)
  cases U:k6 S.vs v with
  | none=>rw[U] at hs;cases hs
  | some fh=>
   have:=ZP h1 v fh (L7 U)
   rw[hm] at this
   cases this
   exact⟨rfl,fun c=>R2 _⟩
 ·have hi:=PW au b hb
  rcases gY (bw b) with⟨v,hm,e⟩ | e
  ·rw[e] at hi ⊢;exact(cv _ v hm).2.1 hi
  ·rw[e] at hi;cases hi
def Fa (s:TS):Nat→Nat→List (Nat×TV)
 | _,0=>[]
 | b,k+1=>(bw b,s.get (bw b))::Fa s (b+1) k
def nE (s S:TS):TS:=⟨S.T++Fa s S.a_ (s.a_ - S.a_),[],S.vs,s.a_⟩
def Xd (n:Nat):TV→Bool
 | .fc _ c=>(cz c).all (rB n)
 | .kO _ _ _=>false
 | _=>true
def QH (kg:Option Nat) (S:TS) (m:Nat):Bool:=match kg with
 | some k=>Nat.ble k S.a_&&Nat.ble S.a_ m&&ju S&&S.T.all fun p=>AE S.a_ p.2.bk&&Xd S.a_ p.2
 | none=>false
def toHead (kg:Option Nat) (s S:TS) (t:aI):aI:=match Nat.beq S.a_ s.a_ with
 | true=>JU s S t
 | false=>JU s (nE s S) (.eq (nE s S).b8 S.b8 (.eq (QH kg S s.a_) true t))
theorem Q_ (s:TS): ∀(k b:Nat) (j:Nat),(j<bw b)→ ∀v,(j,v) ∉ Fa s b k
 | 0,b,j,h,v,hm=>by cases hm
 | k+1,b,j,h,v,hm=>by
  rcases List.mem_cons.1 hm with e | hm
  ·cases e;exact absurd h (Nat.lt_irrefl _)
  ·exact Q_ s k (b+1) j (by unfold bw at h ⊢;omega) v hm
theorem anH {s S:TS} (dD:S.B=[]) {j:Nat} (h:j<bw S.a_):(nE s S).get j=S.get j:=by
 show g_ (S.T++Fa s S.a_ (s.a_ - S.a_)) j (g_ [] j .u)=g_ S.T j (g_ S.B j .u)
 rw[xI,dD,vq (Q_ s _ _ j h)]
theorem acR {n:Nat} (fr:Bool) (e:bg) (x:e.T):(cu fr e x).all (rB n)=true:=by cases e<;>rfl
theorem akv {n:Nat} {a:AV} (h:AE n a=true):rB n a=true:=by cases a<;>first | exact h | rfl
theorem toHead_sound [jc:cl] [FZ] {n:Nat} (ag:n≤1000000) {kg:Option Nat} (fZ: ∀k,kg=some k→jc.n≤k) {s S:TS} {t:aI} {R:Exit→TS→Prop} (dD:S.B=[]) (aB:Fits s) (h:(toHead kg s S t).den R):Weak (s.aj n) (S.aj n)∧Fits S∧t.den R:=by
 unfold toHead at h
 split at h
 ·exact Sc dD aB h
 ·obtain⟨w,hf,gW,h1,h2⟩:=Sc (n:=n) (S:=nE s S) rfl aB h
  unfold QH at h1
  split at h1
  ·rename_i k
   simp only[Bool.and_eq_true] at h1
   obtain⟨⟨⟨q1,q2⟩,q3⟩,q4⟩:=h1
   have q1:=Nat.le_of_ble_eq_true q1
   have q2:=Nat.le_of_ble_eq_true q2
   have ax: ∀j,j<bw S.a_→(nE s S).get j=S.get j:=fun j h=>anH dD h
   have q9: ∀b,b<S.a_→bw b<bw S.a_:=fun b h=>by unfold bw;omega
   have sl:dy<bw S.a_:=by unfold dy bw;omega
   have afg:ju (nE s S)=true:=by rw[GD (ax dy sl)];exact q3
   have eT:(nE s S).tT n=S.tT n:=List.map_congr_left fun t a6=>by rw[ax t (by have:=List.mem_range.1 a6;unfold bw;omega)]
   have gY: ∀k,(∃v,(k,v)∈S.T∧S.get k=v)∨S.get k= .u:=fun k=>by
    unfold TS.get;rw[dD];exact VR ..
   have Kf: ∀k,AE S.a_ (S.get k).bk=true∧Xd S.a_ (S.get k)=true:=fun k=>by
    rcases gY k with⟨v,hm,e⟩ | e
    ·have:=List.all_eq_true.1 q4 _ hm
     rw[Bool.and_eq_true] at this
     rw[e];exact this
    ·rw[e];exact⟨rfl,rfl⟩
   have av: ∀b,((nE s S).aj n).H[b]?=if b<s.a_ then some ((nE s S).get (bw b)).eh else none:=fun b=>by
    show((nE s S).gw++hj (nE s S))[b]?=_
    have:hj (nE s S)=[]:=by unfold hj;rw[afg]
    rw[this,List.append_nil,rH];rfl
   have QK:=Weak.cut (T:=S.tT n) (L:=S.b8) (H:=((nE s S).aj n).H) S.a_ (Nat.le_trans (fZ k rfl) q1) (fun t=> ?_) (fun t cells hc=> ?_) (fun b blk hb mV row ao=> ?_)
   ·have aW:(nE s S).aj n=⟨S.tT n,S.b8,((nE s S).aj n).H⟩:=by rw[←eT,←gW];rfl
    have e2:(⟨S.tT n,S.b8,((nE s S).aj n).H.take S.a_⟩:St)=S.aj n:=by
     show _=(⟨S.tT n,S.b8,S.gw++hj S⟩:St)
     have:hj S=[]:=by unfold hj;rw[q3]
     rw[this,List.append_nil]
     congr 1
     apply List.ext_getElem?
     intro b
     rw[List.getElem?_take,av,rH]
     by_cases hb:b<S.a_
     ·rw[if_pos hb,if_pos (by omega),if_pos hb,ax _ (q9 b hb)]
     ·rw[if_neg hb,if_neg hb]
    rw[aW] at w
    rw[e2] at QK
    exact⟨w.trans QK,hf.congr fun k h1 h2=>(ax k (by unfold bw;omega)).symm,h2⟩
   ·have:=D4 (n:=n) (s:=S) t
    have this:(S.tT n).getD t .undef=_:=this
    rw[this]
    split
    ·exact(Kf t).1
    ·rfl
   ·have:=yj (n:=n) (s:=S) t
    have this:eB S.b8 t=_:=this
    rw[this] at hc
    cases hm:k6 S.vs t with
    | none=>rw[hm] at hc;cases hc
    | some m=>
     rw[hm] at hc
     cases hc
     rw[List.all_eq_true]
     intro a aG
     obtain⟨i,hi⟩:=List.mem_iff_getElem?.1 aG
     rw[EN] at hi
     split at hi
     ·cases hi;exact akv (Kf _).1
     ·cases hi
   ·rw[av,if_pos (by omega),ax _ (q9 b hb)] at mV
    cases mV
    have U:=(Kf (bw b)).2
    revert ao U
    cases S.get (bw b) with
    | blk g e xs m h=>
     intro ao _
     obtain⟨x,_,rfl⟩:=List.mem_map.1 (show row∈xs.map (cu true e) from ao)
     exact acR true e x
    | fc g c=>
     intro ao U
     rw[List.mem_singleton.1 (show row∈[cz c] from ao)];exact U
    | kO g m ids=>intro _ U;cases U
    | _=>intro ao _;cases ao
  ·cases h1
def yN (n:Nat):List (Nat×Nat×bg)→TS→(TS→aI)→aI
 | [],s,K=>K s
 | p::r,s,K=>
  let s1:=s.gJ s.a_ (s.a_+1) (.blk 0 p.2.2 [] 0 rfl)
  match p.1 with
  | 0=> .eq (tW (cr n s (.tmp p.2.1)).bk) true (.eq s1.b8 s.b8 (.eq (ju s) true (yN n r (kK n s1 (some p.2.1) (.ref s.a_ 0 0 false)) K)))
  | v+1=>
   let s2:=s1.add [(fF v p.2.1,.ref s.a_ 0 0 false)] s1.vs s1.a_
   match k6 s.vs v with
   | some m=> .eq (tW ((cz (hN s v 0 m)).getD p.2.1 .undef)) true (.eq s2.b8 (lE s.b8 v ((cz (hN s v 0 m)).set p.2.1 (.ref s.a_ 0 0 0 false))) (.eq (qN [(fF v p.2.1,.ref s.a_ 0 0 false)]) true (.eq (ju s) true (yN n r s2 K))))
   | none=> .no
theorem Ev [cl] [FZ] {n:Nat} (ag:n≤1000000) {R:Exit→TS→Prop} {K:TS→aI}: ∀{l:List (Nat×Nat×bg)} {s:TS},Fits s→(yN n l s K).den R→ ∃s',Weak (s.aj n) (s'.aj n)∧Fits s'∧(K s').den R
 | [],s,aB,h=>⟨s,.refl _,aB,h⟩
 | (p,q,e)::r,s,aB,h=>by
  unfold yN at h
  simp only at h
  split at h
  ·obtain⟨h1,h2,cO,h⟩:=h
   obtain⟨s',w,hf,h⟩:=Ev ag (Dm ag (rW aB)) h
   refine⟨s',Weak.trans ?_ w,hf,h⟩
   have b7:(cr n s (.tmp q)).bk=(s.aj n).T.getD q .undef:=(congrFun (lu n s) (.tmp q)).symm
   rw[b7] at h1
   have:=Weak.aaZ q e.mA (L:=(s.aj n).L) (H:=(s.aj n).H) h1
   rw[Dn ag]
   show Weak _ ⟨putA ((s.gJ s.a_ (s.a_+1) _).tT n) _ _,(s.gJ s.a_ (s.a_+1) _).b8,((s.gJ s.a_ (s.a_+1) _).aj n).H⟩
   rw[rV ag,h2,EH cO]
   rw[HK cO] at this
   exact this
  ·rename_i v
   split at h
   ·rename_i m hm
    obtain⟨h1,h2,dD,cO,h⟩:=h
    obtain⟨s',w,hf,h⟩:=Ev ag (BN dD (rW aB)) h
    refine⟨s',Weak.trans ?_ w,hf,h⟩
    have:=Weak.wD v q e.mA (T:=(s.aj n).T) (H:=(s.aj n).H) (show eB (s.aj n).L v=some (cz (hN s v 0 m)) by rw[yj,hm];rfl) h1
    rw[HK cO] at this
    show Weak _ ⟨(TS.add _ _ _ _).tT n,(TS.add _ _ _ _).b8,((TS.add _ _ _ _).aj n).H⟩
    rw[h2,BM ag dD,rV ag]
    have cF:=BL (n:=n) (s:=s.gJ s.a_ (s.a_+1) (.blk 0 e [] 0 rfl)) (vs:=(s.gJ s.a_ (s.a_+1) (.blk 0 e [] 0 rfl)).vs) dD
    rw[cF,EH cO]
    exact this
   ·exact h.elim
theorem acQ {e:bg} (h:e.qj=true) (x:e.T): ∀a∈cu true e x,jQ a=true∧pt a=true:=by
 have key:(cu true e x).all (fun a=>jQ a&&pt a)=true:=by cases e<;>first | rfl | cases h
 intro a aG
 have:=List.all_eq_true.1 key a aG
 rwa [Bool.and_eq_true] at this
theorem ant (e:bg) (x:e.T):(cu true e x).map jL=cu false e x:=by
 rw[←p7,←p7]
 have key: ∀(es:List bg) (y:ck es),(jT true es y).map jL=jT false es y:=by
  intro es
  induction es with
  | nil=>intro y;rfl
  | cons e r br=>
   intro y
   show jL (ks true e y.1)::(jT true r y.2).map jL=_
   rw[br,jT]
   congr 1
   cases e<;>rfl
 exact key _ _
def B8 (kg:Option Nat) (n:Nat):List (Nat×Nat)→TS→(TS→aI)→aI
 | [],s,K=>K s
 | p::r,s,K=>match s.get (match p.1 with
   | 0=>p.2
   | v+1=>fF v p.2) with
  | .ref b g m _=>(match kg with
   | some k=>(match Nat.ble k b with
    | true=>tc s b g fun e xs fh h=>
     let s1:=s.gJ b s.a_ (.blk (g+1) e [] 0 rfl)
     match p.1 with
     | 0=> .eq (Nat.blt p.2 n) true (.eq fh m (.eq e.qj true (.eq s1.b8 s.b8 (.p (xs.length≤4611686018427387904) (B8 kg n r (kK n s1 (some p.2) (.l e xs false true)) K)))))
     | v+1=>
      let s2:=s1.add [(fF v p.2,.l e xs false true)] s1.vs s1.a_
      match k6 s.vs v with
      | some hE=> .eq (Nat.blt p.2 hE&&qN [(fF v p.2,TV.l e xs false true)]) true (.eq fh m (.eq e.qj true (.eq s2.b8 (lE s.b8 v ((cz (hN s v 0 hE)).set p.2 (TV.l e xs false true).bk)) (.p (xs.length≤4611686018427387904) (B8 kg n r s2 K)))))
      | none=> .no
    | false=> .no)
   | none=> .no)
  | _=> .no
theorem Jt [jc:cl] [FZ] {n:Nat} (ag:n≤1000000) {kg:Option Nat} (fZ: ∀k,kg=some k→jc.n≤k) {R:Exit→TS→Prop} {K:TS→aI}: ∀{l:List (Nat×Nat)} {s:TS},Fits s→(B8 kg n l s K).den R→ ∃s',Weak (s.aj n) (s'.aj n)∧Fits s'∧(K s').den R
 | [],s,aB,h=>⟨s,.refl _,aB,h⟩
 | (p,q)::r,s,aB,h=>by
  unfold B8 at h
  simp only at h
  split at h
  ·rename_i b g m dK sb
   split at h
   ·rename_i k
    split at h
    ·rename_i q9
     have RX:=Nat.le_trans (fZ k rfl) (Nat.le_of_ble_eq_true q9)
     obtain⟨e,xs,fh,hm,h,hb,av⟩:=yV (n:=n) h
     have gn: ∀row∈xs.map (cu true e),e.qj=true→ ∀a∈row,jQ a=true∧pt a=true:=fun row ao ai a aG=>by
      obtain⟨x,_,rfl⟩:=List.mem_map.1 ao
      exact acQ ai x a aG
     have sh:(xs.map (cu true e)).map (fun row=>row.map jL)=xs.map (cu false e):=by
      rw[List.map_map];exact List.map_congr_left fun x _=>ant e x
     cases p with
     | zero=>
      obtain⟨az,h1,h2,au,a8,h⟩:=h
      replace sb:s.get q= .ref b g m dK:=sb
      obtain⟨s',w,hf,h⟩:=Jt ag fZ (Dm ag (rW aB)) h
      refine⟨s',Weak.trans ?_ w,hf,h⟩
      have U:q<n:=by rw[Nat.blt_eq] at az;exact az
      have b7:(s.aj n).T.getD q .undef= .ref b g 0 m dK:=by
       rw[D4,if_pos U,sb];rfl
      have:=Weak.ad0 q (L:=(s.aj n).L) b7 (by rw[List.length_map,←h1];exact hm.symm) av RX (fun row ao a aG=>gn row ao h2 a aG) (by rw[List.length_map];exact a8)
      rw[sh] at this
      rw[Dn ag]
      show Weak _ ⟨putA ((s.gJ b s.a_ _).tT n) _ _,(s.gJ b s.a_ _).b8,((s.gJ b s.a_ _).aj n).H⟩
      rw[rV ag,au,yU hb]
      exact this
     | succ v=>
      replace sb:s.get (fF v q)= .ref b g m dK:=sb
      simp only at h
      split at h
      ·rename_i hE tx
       obtain⟨az,h1,h2,au,a8,h⟩:=h
       rw[Bool.and_eq_true,Nat.blt_eq] at az
       obtain⟨s',w,hf,h⟩:=Jt ag fZ (BN az.2 (rW aB)) h
       refine⟨s',Weak.trans ?_ w,hf,h⟩
       have hc:eB (s.aj n).L v=some (cz (hN s v 0 hE)):=by rw[yj,tx];rfl
       have b7:(cz (hN s v 0 hE)).getD q .undef= .ref b g 0 m dK:=by
        rw[List.getD_eq_getElem?_getD,EN,if_pos az.1,Nat.zero_add,sb];rfl
       have:=Weak.adZ v q (T:=(s.aj n).T) hc b7 (by rw[List.length_map,←h1];exact hm.symm) av RX (fun row ao a aG=>gn row ao h2 a aG) (by rw[List.length_map];exact a8)
       rw[sh] at this
       show Weak _ ⟨(TS.add _ _ _ _).tT n,(TS.add _ _ _ _).b8,((TS.add _ _ _ _).aj n).H⟩
       have cF:=BL (n:=n) (s:=s.gJ b s.a_ (.blk (g+1) e [] 0 rfl)) (vs:=(s.gJ b s.a_ (.blk (g+1) e [] 0 rfl)).vs) az.2
       rw[au,BM ag az.2,rV ag,cF,yU hb]
       exact this
      ·exact h.elim
    ·exact h.elim
   ·exact h.elim
  ·exact h.elim
def UD (k:Nat):List (Nat×TV)→Bool
 | []=>false
 | p::r=>match Nat.beq p.1 k with
  | true=>true
  | false=>UD k r
def LS (s:TS) (hP:List (Nat×TV)):List Nat→List (Nat×TV)
 | []=>[]
 | k::r=>match UD k hP with
  | true=>LS s hP r
  | false=>(k,s.get k)::LS s hP r
def aaa (v:Nat):Nat→Nat→List Nat
 | _,0=>[]
 | c,m+1=>fF v c::aaa v (c+1) m
def UL:List (Nat×Nat)→List Nat
 | []=>[]
 | p::r=>aaa p.1 0 p.2++UL r
def Qp:Nat→List Nat
 | 0=>[]
 | b+1=>bw b::Qp b
def fb (dF:List Nat) (ls:List (Nat×Nat)) (k:Nat) (I:Int→Prop) (m:Int→Nat) (b:Int→lN):lN:= .lp [] dF ls [.int] [k] (fun v=>[(k,.i .i64 v.1)]) (fun v=>I v.1) (fun v=>m v.1) fun v=>b v.1
def aI.Fb:aI→Bool
 | .k5 ex _=>(match ex with
  | .normal=>false
  | _=>true)
 | .hJ | .no | .all _ _=>false
 | .p _ t | .kd _ t | .eq _ _ t=>t.Fb
 | .jj _ _ x y | .two x y | .hD x _ _ y=>(match x.Fb with
  | true=>true
  | false=>y.Fb)
def wU:Code→Bool
 | .loop _=>true
 | .seq x y=>wU x || wU y
 | .cond _ x y=>wU x || wU y
 | .block _ x=>wU x
 | .scope x=>wU x
 | _=>false
def I5 (j1:List (List (Nat×TV)×List (Nat×TV))) (t:aI):aI:=match j1 with
 | []=>t
 | p::r=> .eq p.1 p.2 (I5 r t)
theorem QX {R:Exit→TS→Prop} {t:aI}: ∀{j1:List (List (Nat×TV)×List (Nat×TV))},(I5 j1 t).den R→(∀p∈j1,p.1=p.2)∧t.den R
 | [],h=>⟨(fun p h=>by cases h),h⟩
 | p::r,h=>by
  obtain⟨h1,h2⟩:=h
  obtain⟨au,a8⟩:=QX h2
  exact⟨fun q U=>by
   rcases List.mem_cons.1 U with rfl | U
   ·exact h1
   ·exact au q U,a8⟩
structure yJ (P:Program) where
 len:List Nat
 acA:List (Nat×List Item×List (List Nat))
 oj:List (uC P)
 HT:List (rN P)
 W6:List (Nat×List (Nat×Nat)×List (Nat×Nat×bg))
def Gv:List (Nat×List Item×List (List Nat))→Nat→(List Item→List (List Nat)→aI)→aI
 | [],_,_=> .no
 | p::r,id,K=>match Nat.beq p.1 id with
  | true=>K p.2.1 p.2.2
  | false=>Gv r id K
def L6:List (Nat×List (Nat×Nat)×List (Nat×Nat×bg))→Nat→List (Nat×Nat)×List (Nat×Nat×bg)
 | [],_=>([],[])
 | p::r,id=>match Nat.beq p.1 id with
  | true=>p.2
  | false=>L6 r id
section
variable {P:Program} (cf:gV P) (ep:yJ P) (kg:Option Nat)
def Ck (s:TS) (dF:List Nat) (ls:List (Nat×Nat)) (hP:List (Nat×TV)):TS:=⟨hP++LS s hP (dF++(UL ls++(dy::Qp s.a_))),[],ls,s.a_⟩
def kk:Code→TS→lN→(Exit→TS→lN→aI)→aI
 | .skip,s,a,K=>K .normal s a
 | .ret,s,a,K=>K .ret s a
 | .exit id,s,a,K=>K (.exit id) s a
 | .region id ops draw,s,a,K=>B8 kg cf.n (L6 ep.W6 id).1 s fun s=>yN cf.n (L6 ep.W6 id).2 s fun s=>(match draw with
  | false=>Hd cf ⟨ep.len,ep.oj,ep.HT⟩ ops ops.toList s fun s=>K .normal s a
  | true=>Gv ep.acA id fun ord km=>IT cf ⟨ep.len,ep.oj,ep.HT⟩ ops ord km s fun s=>K .normal s a)
 | .seq x y,s,a,K=>(match wU x with
  | true=>kk x s a fun ex s a=>match ex with
   | .normal=>kk y s a K
   | ex=>K ex s a
  | false=>match(kk x s a fun ex s _=> .k5 ex s).n1 with
   | .some S j1=>I5 j1 (.hD ((kk x s a fun ex s _=> .k5 ex s).bind fun ex s=>match ex with
    | .normal=> .hJ
    | ex=>K ex s a.fst) (kk x s a fun ex s _=> .k5 ex s).facts (kk x s a fun ex s _=> .k5 ex s).lT (kk y S (match(kk x s a fun ex s _=> .k5 ex s).Fb with
    | true=>a.snd
    | false=>a) K))
   | _=>kk x s a fun ex s a=>match ex with
    | .normal=>kk y s a K
    | ex=>K ex s a)
 | .cond c x y,s,a,K=>(match cr cf.n s c with
  | .b z=>HF z s fun b s=>match b with
   | true=>kk x s a.fst K
   | false=>kk y s a.snd K
  | _=> .no)
 | .block id c,s,a,K=>kk c s a fun ex s a=>match ex with
  | .exit fE=>(match Nat.beq fE id with
   | true=>K .normal s a
   | false=>K (.exit fE) s a)
  | ex=>K ex s a
 | .loop c,s,a,K=>(match a with
  | .lp mf dF ls kT rd hP I m b=>yN cf.n mf s fun s=>G8 s kT rd fun v0=>toHead kg s (Ck s dF ls (hP v0)) (.p (I v0) (Ig kT fun v=> .kd (I v) (kk c (Ck s dF ls (hP v)) (b v) fun ex s' a=>match ex with
   | .normal=>G8 s' kT rd fun eu=>toHead kg s' (Ck s dF ls (hP eu)) (.p (I eu∧m eu<m v) .hJ)
   | ex=>K ex s' a)))
  | _=> .no)
 | _,_,_,_=> .no
end
section
variable {P:Program} {cf:gV P} {ep:yJ P}
theorem ajb {R:Exit→TS→Prop} {l:List (Nat×List Item×List (List Nat))} {id:Nat} {K:List Item→List (List Nat)→aI} (h:(Gv l id K).den R): ∃o A,(K o A).den R:=by
 induction l with
 | nil=>exact h.elim
 | cons p r br=>
  unfold Gv at h
  split at h
  ·exact⟨_,_,h⟩
  ·exact br h
theorem acB [cl] (ag:cf.n≤1000000) {ep:rO P} {R:Exit→TS→Prop} {ops:Array Oper} {ord:List Item} {km:List (List Nat)} {s:TS} {K:TS→aI} {Q:Exit→St→Prop} {id:Nat} (hK: ∀s (Z:FZ),(K s).den R→ @Fits Z s→Q .normal (@TS.aj Z cf.n s)) (Z:FZ) (aB:Fits s) (h:(IT cf ep ops ord km s K).den R):WpS P (.region id ops true) Q (s.aj cf.n):=by
 unfold IT at h
 simp only at h
 split at h
 ·exact h.elim
 ·rename_i hb
  obtain⟨h1,h2,au,a8,bQ,gO,tp,h⟩:=h
  rw[HJ]
  refine WpS.Xp (esc:=[]) ord km h1 h2 au rfl _ gO tp ?_
  have:=Xt ag (Kp:=fun T L H=>Q .normal ⟨T,L,H⟩) (fun s Z hs hf=>hK s Z hs hf) ord Z _ (BN hb aB) a8 h
  rw[bQ,BL hb,BM ag hb] at this
  exact this
theorem aae [jc:cl] (ag:cf.n≤1000000) {kg:Option Nat} (fZ: ∀k,kg=some k→jc.n≤k): ∀(c:Code) {R:Exit→TS→Prop} {s:TS} {a:lN} {K:Exit→TS→lN→aI} {Q:Exit→St→Prop},(∀ex s a (Z:FZ),(K ex s a).den R→ @Fits Z s→Q ex (@TS.aj Z cf.n s))→ ∀Z:FZ,@Fits Z s→(kk cf ep kg c s a K).den R→WpS P c Q (@TS.aj Z cf.n s):=by
 intro c
 induction c with
 | skip=>intro R s a K Q hK Z aB h;exact WpS.skip (hK _ _ _ Z h aB)
 | ret=>intro R s a K Q hK Z aB h;exact WpS.ret (hK _ _ _ Z h aB)
 | exit id=>intro R s a K Q hK Z aB h;exact WpS.exit (hK _ _ _ Z h aB)
 | region id ops draw=>
  intro R s a K Q hK Z aB h
  obtain⟨s1,bp,nb,h⟩:=Jt ag fZ aB h
  obtain⟨s2,bn,nc,h⟩:=Ev ag nb h
  refine WpS.mP ?_ (bp.trans bn)
  cases draw with
  | false=>
   rw[HJ]
   refine WpS.Xq (esc:=[]) rfl ?_
   exact MX ag (Kp:=fun T L H=>Q .normal ⟨T,L,H⟩) (fun s Z hs hf=>hK _ s _ Z hs hf) ops.toList Z s2 nc h
  | true=>
   obtain⟨ord,km,h⟩:=ajb h
   exact acB ag (fun s Z hs hf=>hK _ s _ Z hs hf) Z nc h
 | cond c x y hT hA=>
  intro R s a K Q hK Z aB h
  unfold kk at h
  split at h
  ·rename_i z sk
   obtain⟨s',aW,e2,h⟩:=O5 (n:=cf.n) h
   have hf:=aB.congr fun k _ _=>e2 k
   rw[←aW]
   have hc:b6 (s'.aj cf.n).T c= .bool z.den:=by
    rw[aW,congrFun (lu cf.n s) c]
    show(cr cf.n s c).bk=_
    rw[sk];rfl
   refine WpS.cond ?_
   rw[hc]
   refine⟨fun hb=> ?_,fun hb=> ?_⟩
   ·rw[hb] at h;exact hT hK Z hf h
   ·rw[hb] at h;exact hA hK Z hf h
  ·exact h.elim
 | block id c br=>
  intro R s a K Q hK Z aB h
  refine WpS.block (br (K:=fun ex s a=>match ex with
   | .exit fE=>(match Nat.beq fE id with
    | true=>K .normal s a
    | false=>K (.exit fE) s a)
   | ex=>K ex s a) (fun ex s a Z hs hf=> ?_) Z aB h)
  cases ex with
  | exit fE=>
   show if fE=id then _ else _
   have hs:(match Nat.beq fE id with
    | true=>K .normal s a
    | false=>K (.exit fE) s a).den R:=hs
   split at hs
   ·rename_i hb;rw[if_pos (Nat.eq_of_beq_eq_true hb)];exact hK _ _ _ Z hs hf
   ·rename_i hb
    rw[if_neg fun e=>by subst e;rw[Nat.beq_refl] at hb;cases hb];exact hK _ _ _ Z hs hf
  | _=>exact hK _ _ _ Z hs hf
 | seq x y S5 S6=>
  intro R s a K Q hK Z aB h
  have QG:(kk cf ep kg x s a fun ex s a=>match ex with
   | .normal=>kk cf ep kg y s a K
   | ex=>K ex s a).den R→WpS P (.seq x y) Q (s.aj cf.n):=fun h=>by
   refine WpS.seq (S5 (fun ex s a Z hs hf=> ?_) Z aB h)
   cases ex with
   | normal=>exact S6 hK Z hf hs
   | _=>exact hK _ _ _ Z hs hf
  unfold kk at h
  split at h
  ·exact QG h
  ·split at h
   ·rename_i S j1 hm
    obtain⟨U,h⟩:=QX h
    obtain⟨h1,h2⟩:=h
    rw[aI.abl] at h1
    have au:=aI.ajq hm U h1
    refine WpS.seq (S5 (K:=fun ex s _=> .k5 ex s) (fun ex s' ib Z hs hf=> ?_) Z aB au)
    have hs:_∧(ex= .normal→s'.gy S∧_∧_):=hs
    cases ex with
    | normal=>
     obtain⟨q1,q2,q3⟩:=hs.2 rfl
     exact WpS.mP (S6 hK Z (hf.le q1) (h2 (ac4 q3 q2))) (anF ag q1)
    | _=>exact hK _ _ _ Z hs.1 hf
   ·exact QG h
 | loop c br=>
  intro R s a K Q hK Z aB h
  unfold kk at h
  split at h
  ·rename_i mf dF ls kT rd hP I m b
   obtain⟨s1,bp,nb,h⟩:=Ev ag aB h
   obtain⟨v0,h⟩:=MQ h
   obtain⟨bn,nc,h⟩:=toHead_sound (n:=cf.n) ag fZ rfl nb h
   obtain⟨az,h⟩:=h
   have hv:=PX h
   refine WpS.VT (V:=ck kT×FZ) (fun v=> @TS.aj v.2 cf.n (Ck s1 dF ls (hP v.1))) (fun v=>I v.1∧ @Fits v.2 (Ck s1 dF ls (hP v.1))) (fun v=>m v.1) rfl (v0,Z) (bp.trans bn) ⟨az,nc⟩ fun v aJ=> ?_
   refine br (fun ex s' a Z' hs hf=> ?_) v.2 aJ.2 (hv v.1 aJ.1)
   cases ex with
   | normal=>
    obtain⟨eu,hs⟩:=MQ hs
    obtain⟨en,FA,hs⟩:=toHead_sound (n:=cf.n) ag fZ rfl hf hs
    exact⟨(eu,Z'),⟨hs.1.1,FA⟩,hs.1.2,en⟩
   | _=>exact hK _ _ _ Z' hs hf
  ·exact h.elim
 | _=>intro R s a K Q hK Z aB h;exact h.elim
end
def Ap:(e:bg)→e.T→TV
 | .ptr e,x=> .dh e x 0
 | .jg f .unit,_=> .fn f []
 | .jg f e,x=> .fn f [Ap e x]
 | e,x=>match e.isS with
  | true=> .agg (jR false e x)
  | false=>Ea false e x
theorem ajP: ∀(e:bg) (x:e.T),(Ap e x).bk=pr e x:=by
 have bf: ∀(e:bg) (x:e.T),(match e.isS with
  | true=>TV.agg (jR false e x)
  | false=>Ea false e x).bk=match e.isS with
  | true=> .agg (cu false e x)
  | false=>ks false e x:=fun e x=>by
  cases e.isS with
  | true=>show AV.agg (cz _)=_;rw[EM]
  | false=>exact Po false e x
 intro e
 induction e with
 | jg f e br=>
  intro x
  have key:Ap (.jg f e) x= .fn f [Ap e x]→pr (.jg f e) x= .fn f [pr e x]→(Ap (.jg f e) x).bk=pr (.jg f e) x:=fun h1 h2=>by
   rw[h1,h2,←br x];rfl
  cases e with
  | unit=>rfl
  | _=>exact key rfl rfl
 | ptr e br=>intro x;rfl
 | _=>intro x;exact bf _ x
def xO:Nat→(es:List bg)→ck es→List (Nat×TV)
 | _,[],_=>[]
 | i,e::r,x=>(i,Ap e x.1)::xO (i+1) r x.2
def qe (ps:List bg) (x:ck ps):TS:=⟨xO 0 ps x,[],[],0⟩
theorem WA: ∀(es:List bg) (x:ck es) (i t:Nat),(g_ (xO i es x) t .u).bk=if t<i then .undef else(ox es x).getD (t - i) .undef
 | [],x,i,t=>by
  show AV.undef=_
  split<;>simp[ox]
 | e::r,x,i,t=>by
  rw[xO,hl,ox]
  by_cases h:i=t
  ·subst h
   rw[if_pos rfl,if_neg (by omega),Nat.sub_self,ajP];rfl
  ·rw[if_neg h,WA r x.2 (i+1) t]
   by_cases h2:t<i
   ·rw[if_pos (by omega),if_pos h2]
   ·rw[if_neg (by omega),if_neg h2,show t - i=(t - (i+1))+1 by omega];rfl
theorem QT: ∀(es:List bg) (x:ck es),(ox es x).length=es.length
 | [],_=>rfl
 | e::r,x=>by rw[ox,List.length_cons,List.length_cons,QT r]
theorem LM (ps:List bg) (x:ck ps) (h:ps.length≤1000000):ju (qe ps x)=true:=by
 have key: ∀(es:List bg) (y:ck es) (i:Nat),i+es.length≤1000000→ ∀v,(dy,v) ∉ xO i es y:=by
  intro es
  induction es with
  | nil=>intro y i _ v hv;cases hv
  | cons e r br=>
   intro y i hi v hv
   simp only[List.length_cons] at hi
   rcases List.mem_cons.1 hv with e | hv
   ·injection e with e _;unfold dy at e;omega
   ·exact br y.2 (i+1) (by omega) v hv
 unfold ju
 have:(qe ps x).get dy= .u:=by
  show g_ (xO 0 ps x) dy (g_ [] dy .u)=_
  rw[vq (key ps x 0 (by omega))];rfl
 rw[this]
theorem UE [FZ] {fn:Func} {ps:List bg} {x:ck ps} (h:ps.length≤fn.ntmps) (aw:ps.length≤1000000):Gl fn (ox ps x) []=(qe ps x).aj fn.ntmps:=by
 have b7:ox ps x++List.replicate (fn.ntmps - (ox ps x).length) AV.undef=((qe ps x).aj fn.ntmps).T:=by
  apply List.ext_getElem?
  intro t
  show _=((List.range fn.ntmps).map fun t=>((qe ps x).get t).bk)[t]?
  rw[List.getElem?_map]
  rcases Nat.lt_or_ge t fn.ntmps with aw | aw
  ·rw[List.getElem?_range aw]
   show _=some (g_ (xO 0 ps x) t .u).bk
   rw[WA,if_neg (by omega),Nat.sub_zero]
   rcases Nat.lt_or_ge t (ox ps x).length with h1 | h1
   ·rw[List.getElem?_append_left h1,List.getD_eq_getElem?_getD,List.getElem?_eq_getElem h1];rfl
   ·rw[List.getElem?_append_right h1,List.getElem?_replicate,if_pos (by omega),List.getD_eq_getElem?_getD,List.getElem?_eq_none h1];rfl
  ·rw[List.getElem?_eq_none (l:=List.range fn.ntmps) (by simpa using aw),List.getElem?_eq_none]
   ·rfl
   ·rw[List.length_append,List.length_replicate,QT];omega
 have av:((qe ps x).aj fn.ntmps).H=[]:=by
  show(qe ps x).gw++hj (qe ps x)=[]
  unfold hj;rw[LM ps x aw];rfl
 show(⟨_,[],[]⟩:St)=⟨((qe ps x).aj fn.ntmps).T,[],((qe ps x).aj fn.ntmps).H⟩
 rw[b7,av]
def Fh (s:TS):(e:bg)→TV→e.T→aI→aI
 | .int,v,r,t=>(match v with
  | .i k m=>if k= .i64 then .p (m=r) t else .no
  | _=> .no)
 | .u64,v,r,t=>(match v with
  | .i k m=>if k= .u64 then .p (m=r) t else .no
  | _=> .no)
 | .bool,v,r,t=>(match v with
  | .b x=> .p (x.den=r) t
  | _=> .no)
 | .str,v,r,t=>(match v with
  | .s x=> .p (x=r) t
  | _=> .no)
 | .l e,v,r,t=>(match v with
  | .l cA xs _ fr=>(match fr with
   | true=>if h:cA=e then .p (mi h xs=r) t else .no
   | false=> .no)
  | .nil _ _=> .p ([]=r) t
  | .ref b g m _=>tc s b g fun cA xs fh _=>if h:cA=e then .eq e.qj true (.eq fh m (.p (xs.length≤4611686018427387904∧mi h xs=r) t)) else .no
  | _=> .no)
 | _,_,_,_=> .no
def Jk (s:TS):(es:List bg)→List TV→ck es→aI→aI
 | [],[],_,t=>t
 | e::r,v::vs,x,t=>Fh s e v x.1 (Jk s r vs x.2 t)
 | _,_,_,_=> .no
def Fi (s:TS) (e:bg) (v:TV) (r:e.T) (t:aI):aI:=match e.isS with
 | true=>(match v with
  | .agg c=>Jk s e.ew c (e.un r) t
  | _=> .no)
 | false=>Fh s e v r t
def Jj (s:TS):(es:List bg)→List TV→ck es→aI→aI
 | [],[],_,t=>t
 | e::r,v::vs,x,t=>Fi s e v x.1 (Jj s r vs x.2 t)
 | _,_,_,_=> .no
def MS (P:Program) (n:Nat) (s:TS):ResultVar→TV
 | .tmp t=>cr n s (.tmp t)
 | .cell a t=>(match cr n s (.tmp a) with
  | .lp v c=>(match k6 s.vs v with
   | some m=>yn P t (hN s v 0 m) c
   | none=> .u)
  | _=> .u)
def tj (P:Program) (n:Nat) (fn:Func) (rs:List bg) (r:ck rs) (s:TS):aI:=
 let vs:=fn.results.toList.map (MS P n s)
 .eq (fun H Q=>ui P ⟨s.tT n,s.b8,H⟩ fn.results.toList Q) (fun _ Q=>Q (cz vs)) (.eq ((cz vs).all kG) true (Jj s rs vs r .hJ))
section
variable {n:Nat} {s:TS} {R:Exit→TS→Prop} {t:aI}
theorem abW {H:List Blk} (e:bg) (x:e.T) (h:e.qj=true):ld H (cu true e x) (cu false e x):=by
 cases e with
 | int=>exact abD x
 | u64=>exact .cons (.int _ _) rfl .nil
 | u8=>exact abF x
 | bool=>exact y1 x
 | str=>exact abE x
 | bj=>exact Qs x
 | fB=>exact abG x
 | dl=>exact .cons (.int _ _) rfl (.cons (kU _) rfl (.cons (kU _) rfl (.cons (kU _) rfl (.cons (.int _ _) rfl .nil))))
 | e3=>exact abB x
 | ij=>exact BW x
 | held=>exact abC x
 | frame=>exact .cons (.bool _) rfl (.cons (kU _) rfl (.cons (kU _) rfl (.cons (kU _) rfl .nil)))
 | done=>exact abA x
 | fault=>exact .cons (.int _ _) rfl (.cons (.int _ _) rfl .nil)
 | stays=>exact .cons (kU _) rfl (.cons (kU _) rfl (.cons (kU _) rfl .nil))
 | fx=>exact .cons (kU _) rfl (.cons (.int _ _) rfl (.cons (.int _ _) rfl .nil))
 | l e=>exact .cons (kU _) rfl .nil
 | _=>cases h
end
section
variable [FZ] {n:Nat} {s:TS} {R:Exit→TS→Prop} {t:aI}
theorem Rd {e:bg} {v:TV} {r:e.T} (h:(Fh s e v r t).den R):gk (s.aj n).H v.bk (ks true e r)∧t.den R:=by
 cases e with
 | int=>
  have h:(match v with
   | .i k m=>if k=IntKind.i64 then aI.p (m=r) t else .no
   | _=> .no).den R:=h
  split at h
  ·split at h
   ·rename_i hk;subst hk;exact⟨yg h.1,h.2⟩
   ·exact h.elim
  ·exact h.elim
 | u64=>
  have h:(match v with
   | .i k m=>if k=IntKind.u64 then aI.p (m=r) t else .no
   | _=> .no).den R:=h
  split at h
  ·split at h
   ·rename_i hk;subst hk;exact⟨yg h.1,h.2⟩
   ·exact h.elim
  ·exact h.elim
 | bool=>
  have h:(match v with
   | .b x=>aI.p (x.den=r) t
   | _=> .no).den R:=h
  split at h
  ·exact⟨oh h.1,h.2⟩
  ·exact h.elim
 | str=>
  have h:(match v with
   | .s x=>aI.p (x=r) t
   | _=> .no).den R:=h
  split at h
  ·exact⟨am2 h.1,h.2⟩
  ·exact h.elim
 | l e=>
  have h:(match v with
   | .l cA xs _ fr=>(match fr with
    | true=>if h:cA=e then aI.p (mi h xs=r) t else .no
    | false=> .no)
   | .nil _ _=> .p ([]=r) t
   | .ref b g m _=>tc s b g fun cA xs fh _=>if h:cA=e then .eq e.qj true (.eq fh m (.p (xs.length≤4611686018427387904∧mi h xs=r) t)) else .no
   | _=> .no).den R:=h
  split at h
  ·split at h
   ·split at h
    ·rename_i he;subst he;exact⟨yh (e:=cu false _) h.1,h.2⟩
    ·exact h.elim
   ·exact h.elim
  ·exact⟨sV (e:=cu false e) h.1,h.2⟩
  ·rename_i b g m dK
   obtain⟨cA,xs,fh,hm,h,hb,av⟩:=yV (n:=n) h
   split at h
   ·rename_i he
    subst he
    obtain⟨az,h1,h2,au⟩:=h
    subst h1
    subst hm
    exact⟨ZH (eT:=cu true cA) (eF:=cu false cA) av (fun x=>abW cA x az) h2,au⟩
   ·exact h.elim
  ·exact h.elim
 | _=>exact h.elim
theorem Rf: ∀{es:List bg} {vs:List TV} {r:ck es},(Jk s es vs r t).den R→af (gk (s.aj n).H) (cz vs) (jT true es r)∧t.den R
 | [],[],_,h=>⟨af.nil,h⟩
 | e::r,v::vs,x,h=>by
  obtain⟨h1,h2⟩:=Rd (n:=n) (show(Fh s e v x.1 _).den R from h)
  obtain⟨au,a8⟩:=Rf h2
  exact⟨af.cons h1 au,a8⟩
 | [],_::_,_,h=>h.elim
 | _::_,[],_,h=>h.elim
theorem adf {e:bg} {v:TV} {r:e.T} (h:(Fi s e v r t).den R):wC (s.aj n).H v.bk (r1 e r)∧t.den R:=by
 unfold Fi at h
 unfold r1
 cases ic:e.isS with
 | true=>
  rw[ic] at h
  simp only at h
  split at h
  ·rename_i c
   obtain⟨h1,h2⟩:=Rf (n:=n) h
   refine⟨.inl ⟨cz c,cu true e r,rfl,rfl,?_⟩,h2⟩
   rw[←p7];exact h1
  ·exact h.elim
 | false=>
  rw[ic] at h
  obtain⟨h1,h2⟩:=Rd (n:=n) h
  exact⟨.inr h1,h2⟩
theorem Re: ∀{es:List bg} {vs:List TV} {r:ck es},(Jj s es vs r t).den R→af (wC (s.aj n).H) (cz vs) (qQ es r)∧t.den R
 | [],[],_,h=>⟨af.nil,h⟩
 | e::r,v::vs,x,h=>by
  obtain⟨h1,h2⟩:=adf (n:=n) (show(Fi s e v x.1 _).den R from h)
  obtain⟨au,a8⟩:=Re h2
  exact⟨af.cons h1 au,a8⟩
 | [],_::_,_,h=>h.elim
 | _::_,[],_,h=>h.elim
theorem Jl {P:Program} {fn:Func} {rs:List bg} {r:ck rs} (h:(tj P n fn rs r s).den R):vL P fn (s.aj n) fun v H=>iw H v (r2 rs r):=by
 unfold tj at h
 simp only at h
 obtain⟨h1,h2,au⟩:=h
 unfold vL
 have JC:ui P (s.aj n) fn.results.toList=_:=congrFun h1 (s.aj n).H
 rw[congrFun JC]
 refine⟨h2,?_⟩
 obtain⟨a8,_⟩:=Re (n:=n) au
 have key: ∀(rs:List bg) (r:ck rs) (l:List AV),af (wC (s.aj n).H) l (qQ rs r)→iw (s.aj n).H (s0 l) (r2 rs r):=by
  intro rs r l ae
  match rs,r,l with
  | [],_,[]=>exact .inl ⟨[],[],rfl,rfl,af.nil⟩
  | [],_,_::_=>have:=ae.1;simp[qQ] at this
  | [e],r,[]=>have:=ae.1;simp[qQ] at this
  | [e],r,[v]=>exact .inr ae.head
  | [e],r,_::_::_=>have:=ae.1;simp[qQ] at this
  | e::cA::rs,r,[]=>have:=ae.1;simp[qQ] at this
  | e::cA::rs,r,[v]=>have:=ae.1;simp[qQ] at this
  | e::cA::rs,r,v::w::l=>exact .inl ⟨_,_,rfl,rfl,ae⟩
 exact key rs r _ a8
end
def Pm {P:Program} (cf:gV P) (ep:yJ P) (fn:Func) (ps rs:List bg) (x:ck ps) (r:ck rs) (a:lN):aI:=kk cf ep (some 0) (iP fn) (qe ps x) a fun ex s _=>match ex with
 | .normal=>tj P cf.n fn rs r s
 | .ret=>tj P cf.n fn rs r s
 | _=> .no
theorem bc.run {P:Program} {f:FuncId} {fn:Func} {ps rs:List bg} {x:ck ps} {r:ck rs} (cf:gV P) (ep:yJ P) (a:lN) {C:Prop} (hf:P.funcs[f]?=some fn) (h:C) (e:C=(Pm cf ep fn ps rs x r a).pk.den:=by kernel_rfl)
  (e2:(Pm cf ep fn ps rs x r a).lhs=(Pm cf ep fn ps rs x r a).rhs:=by kernel_rfl) (hb:fn.body=some (iP fn):=by kernel_rfl) (hm:(fn.name== "runtime.NumGoroutine")=false:=by kernel_rfl)
  (ag:(Nat.beq cf.n fn.ntmps&&Nat.ble cf.n 1000000&&Nat.ble ps.length cf.n)=true:=by kernel_rfl):bc P f (ox ps x) (r2 rs r):=by
 simp only[Bool.and_eq_true] at ag
 have h1:=Nat.eq_of_beq_eq_true ag.1.1
 have h2:=Nat.le_of_ble_eq_true ag.1.2
 have au:=Nat.le_of_ble_eq_true ag.2
 refine c0.Mk hf hb hm fun jc fZ=> ?_
 rw[@UE ⟨[],[]⟩ fn ps x (by rw[←h1];exact au) (by omega),←h1]
 refine aae h2 (fun k e=>by cases e;rw[fZ];exact Nat.le_refl _) (iP fn) (R:=fun _ _=>True) (K:=fun ex s _=>match ex with
  | .normal=>tj P cf.n fn rs r s
  | .ret=>tj P cf.n fn rs r s
  | _=> .no) (fun ex s _ Z hs hf=> ?_) ⟨[],[]⟩ (@Fits.none ⟨[],[]⟩ _ (LM ps x (by omega))) (aI.full (e▸h) e2)
 cases ex with
 | normal=>exact Jl hs
 | ret=>exact Jl hs
 | _=>exact hs.elim
def dj:List (Nat×bg):=[(22,.u8),(23,.int),(24,.fB),(25,(.l .bool)),(28,.e3),(31,.done),(36,.bool),(37,.ij),(38,.held),(49,.fB),(52,.e3),(83,.bj),(127,.str),(134,.bj),(147,(.l .bj)),(163,(.l .int))]
end Go.Proofs.YtejmihecgodhnaaGreatDoor.Fw
set_option linter.unusedVariables false
set_option maxRecDepth 100000
set_option maxHeartbeats 4000000
set_option linter.unusedSimpArgs false
namespace Go.Proofs.YtejmihecgodhnaaGreatDoor.Fw
open Go
attribute [local irreducible] evS evSD WpS Weak Oper.looksAt
section
variable (a0:(List Int)) (J aa:Int)
def Vf:Prop:=
 a0.length≤4611686018427387904→((decide ((IntKind.i64.wrap (J - (a0.length:Int)))<0))=true→(-1)=aa)∧((!(decide ((IntKind.i64.wrap (J - (a0.length:Int)))<0)))=true→(IntKind.i64.wrap (J - (a0.length:Int)))=aa)
theorem aik (ae:hX a0 J):bc Tryz.prog 40 [bq cd a0,ab J] (ab (eY a0 J)):=(fun(h:Vf a0 J (eY a0 J))=>bc.run (ps:=[(.l .int),.int]) (rs:=[.int]) (x:=(a0,J,())) (r:=((eY a0 J),())) ⟨12,dj,[]⟩ ⟨[],[],[],[],[]⟩ .nil Tryz.func40 h) (by
 unfold Vf
 exact fun ag=>HN ae ag)
def Vg:cZ Tryz.prog:=⟨40,[(.l .int),.int],[.int],some fun x=>hX x.1 x.2.1,fun x=>((eY x.1 x.2.1),()),fun x h=>aik x.1 x.2.1 h⟩
end
section
variable (a0:(List cU)) (J aa:Int)
def Vh:Prop:=
 a0.length≤4611686018427387904→((decide ((IntKind.i64.wrap (J - (a0.length:Int)))<0))=true→(-1)=aa)∧((!(decide ((IntKind.i64.wrap (J - (a0.length:Int)))<0)))=true→(IntKind.i64.wrap (J - (a0.length:Int)))=aa)
theorem ail (ae:hX a0 J):bc Tryz.prog 109 [bq cQ a0,ab J] (ab (eY a0 J)):=(fun(h:Vh a0 J (eY a0 J))=>bc.run (ps:=[(.l .bj),.int]) (rs:=[.int]) (x:=(a0,J,())) (r:=((eY a0 J),())) ⟨12,dj,[]⟩ ⟨[],[],[],[],[]⟩ .nil Tryz.func109 h) (by
 unfold Vh
 exact fun ag=>HN ae ag)
def aim:cZ Tryz.prog:=⟨109,[(.l .bj),.int],[.int],some fun x=>hX x.1 x.2.1,fun x=>((eY x.1 x.2.1),()),fun x h=>ail x.1 x.2.1 h⟩
end
section
variable (a0:Way) (J aa:Int)
abbrev C0:=eY a0.cB (eY a0.bm (eY a0.ak J))
abbrev xC:=eY a0.over (C0 a0 J)
def Vn:Prop:=
  ((decide ((xC a0 J)<0))=true→(-1)=aa)∧((!(decide ((xC a0 J)<0)))=true→(hX a0.ei (xC a0 J))∧(((decide ((eY a0.ei (xC a0 J))<0))=true→(-1)=aa)∧((!(decide ((eY a0.ei (xC a0 J))<0)))=true→(eY a0.ei (xC a0 J))=aa)))
def Vo:Prop:=
  ((decide ((eY a0.bm (eY a0.ak J))<0))=true→(-1)=aa)∧((!(decide ((eY a0.bm (eY a0.ak J))<0)))=true→(hX a0.cB (eY a0.bm (eY a0.ak J)))∧(((decide ((C0 a0 J)<0))=true→(-1)=aa)∧((!(decide ((C0 a0 J)<0)))=true→(hX a0.over (C0 a0 J))∧(Vn a0 J aa))))
def Vm:Prop:=
 (hX a0.ak J)∧(((decide ((eY a0.ak J)<0))=true→(-1)=aa)∧((!(decide ((eY a0.ak J)<0)))=true→(hX a0.bm (eY a0.ak J))∧(Vo a0 J aa)))
theorem air (ae:hX a0 J):bc Tryz.prog 85 [.agg (da false a0),ab J] (ab (sW a0 J)):=(fun(h:Vm a0 J (sW a0 J))=>bc.run (ps:=[.fB,.int]) (rs:=[.int]) (x:=(a0,J,())) (r:=((sW a0 J),())) ⟨36,dj,[Vg,aim]⟩ ⟨[],[],[],[],[]⟩ .nil Tryz.func85 h) (by
 unfold Vm Vo Vn xC C0 sW yw eY
 have ae:0≤J∧J≤1048576:=ae
 refine⟨ae,wi (m:=a0.bm.length+a0.cB.length+a0.over.length+a0.ei.length) ae (by omega) fun c k=>⟨k,?_⟩⟩
 rw[xD ae.1 c]
 refine wi (m:=a0.cB.length+a0.over.length+a0.ei.length) ae (by omega) fun c k=>⟨k,?_⟩
 rw[xD ae.1 c]
 refine wi (m:=a0.over.length+a0.ei.length) ae (by omega) fun c k=>⟨k,?_⟩
 rw[xD ae.1 c]
 refine wi (m:=a0.ei.length) ae (by omega) fun c k=>⟨k,?_⟩
 rw[xD ae.1 c]
 exact wi (m:=0) ae (by omega) fun c k=>rfl)
def ais:cZ Tryz.prog:=⟨85,[.fB,.int],[.int],some fun x=>hX x.1 x.2.1,fun x=>((sW x.1 x.2.1),()),fun x h=>air x.1 x.2.1 h⟩
end
section
variable (ad:Int→Int→Prop) (m0:Int→Int→Nat) (a0:(List Way)) (J aa:Int)
def Vl:Prop:=
  ad (IntKind.i64.wrap (J - (a0.length:Int))) 0∧ ∀(v1:Int) (v5:Int),ad v1 v5→(((decide (v5<(a0.length:Int)))=false→v1=aa)∧((decide (v5<(a0.length:Int)))=true→(((0≤v5∧v5.toNat<a0.length)∧(hX (nth a0 v5) v1))∧((decide ((sW (nth a0 v5) v1)<0))=true→(-1)=aa))∧((!(decide ((sW (nth a0 v5) v1)<0)))=true→ad (sW (nth a0 v5) v1) (IntKind.i64.wrap (v5+1))∧m0 (sW (nth a0 v5) v1) (IntKind.i64.wrap (v5+1))<m0 v1 v5)))
def Vk (a0:(List Way)) (J:Int) (aa:Int) (ad:Int→Int→Prop) (m0:Int→Int→Nat):Prop:=
 a0.length≤4611686018427387904→((decide ((IntKind.i64.wrap (J - (a0.length:Int)))<0))=true→(-1)=aa)∧((!(decide ((IntKind.i64.wrap (J - (a0.length:Int)))<0)))=true→Vl ad m0 a0 J aa)
theorem aip (ae:hX a0 J):bc Tryz.prog 41 [bq (da false) a0,ab J] (ab (Bg a0 J)):=(fun(ad:Int→Int→Prop) (m0:Int→Int→Nat) (h:Vk a0 J (Bg a0 J) ad m0)=>bc.run (ps:=[(.l .fB),.int]) (rs:=[.int]) (x:=(a0,J,())) (r:=((Bg a0 J),())) ⟨27,dj,[ais]⟩ ⟨[14],[],[],[],[]⟩ (.lp [] [0] [] [.int,.int] [1,5] (fun aD=>[(1,.i .i64 aD.1),(5,.i .i64 aD.2.1)]) (fun aD=>ad aD.1 aD.2.1) (fun aD=>m0 aD.1 aD.2.1) fun _=> .nil) Tryz.func41 h) (D6 a0 yw J) (D7 a0) (by
 unfold Vk Vl
 exact fun ag=>ZQ (g:=sW) (fun _ _=>rfl) ae ag)
def aiq:cZ Tryz.prog:=⟨41,[(.l .fB),.int],[.int],some fun x=>hX x.1 x.2.1,fun x=>((Bg x.1 x.2.1),()),fun x h=>aip x.1 x.2.1 h⟩
end
section
variable (a0:(List Bool)) (J aa:Int)
def Vd:Prop:=
 a0.length≤4611686018427387904→((decide ((IntKind.i64.wrap (J - (a0.length:Int)))<0))=true→(-1)=aa)∧((!(decide ((IntKind.i64.wrap (J - (a0.length:Int)))<0)))=true→(IntKind.i64.wrap (J - (a0.length:Int)))=aa)
theorem aif (ae:hX a0 J):bc Tryz.prog 86 [bq aP a0,ab J] (ab (eY a0 J)):=(fun(h:Vd a0 J (eY a0 J))=>bc.run (ps:=[(.l .bool),.int]) (rs:=[.int]) (x:=(a0,J,())) (r:=((eY a0 J),())) ⟨12,dj,[]⟩ ⟨[],[],[],[],[]⟩ .nil Tryz.func86 h) (by
 unfold Vd
 exact fun ag=>HN ae ag)
def aih:cZ Tryz.prog:=⟨86,[(.l .bool),.int],[.int],some fun x=>hX x.1 x.2.1,fun x=>((eY x.1 x.2.1),()),fun x h=>aif x.1 x.2.1 h⟩
end
section
variable (ad:Int→Int→Prop) (m0:Int→Int→Nat) (a0:(List (List Bool))) (J aa:Int)
def Vc:Prop:=
  ad (IntKind.i64.wrap (J - (a0.length:Int))) 0∧ ∀(v1:Int) (v5:Int),ad v1 v5→(((decide (v5<(a0.length:Int)))=false→v1=aa)∧((decide (v5<(a0.length:Int)))=true→(((0≤v5∧v5.toNat<a0.length)∧(hX (nth a0 v5) v1))∧((decide ((eY (nth a0 v5) v1)<0))=true→(-1)=aa))∧((!(decide ((eY (nth a0 v5) v1)<0)))=true→ad (eY (nth a0 v5) v1) (IntKind.i64.wrap (v5+1))∧m0 (eY (nth a0 v5) v1) (IntKind.i64.wrap (v5+1))<m0 v1 v5)))
def Vb (a0:(List (List Bool))) (J:Int) (aa:Int) (ad:Int→Int→Prop) (m0:Int→Int→Nat):Prop:=
 a0.length≤4611686018427387904→((decide ((IntKind.i64.wrap (J - (a0.length:Int)))<0))=true→(-1)=aa)∧((!(decide ((IntKind.i64.wrap (J - (a0.length:Int)))<0)))=true→Vc ad m0 a0 J aa)
theorem aid (ae:hX a0 J):bc Tryz.prog 42 [bq (gW aP false) a0,ab J] (ab (wh a0 J)):=(fun(ad:Int→Int→Prop) (m0:Int→Int→Nat) (h:Vb a0 J (wh a0 J) ad m0)=>bc.run (ps:=[(.l (.l .bool)),.int]) (rs:=[.int]) (x:=(a0,J,())) (r:=((wh a0 J),())) ⟨27,dj,[aih]⟩ ⟨[14],[],[],[],[]⟩ (.lp [] [0] [] [.int,.int] [1,5] (fun aD=>[(1,.i .i64 aD.1),(5,.i .i64 aD.2.1)]) (fun aD=>ad aD.1 aD.2.1) (fun aD=>m0 aD.1 aD.2.1) fun _=> .nil) Tryz.func42 h) (D6 a0 List.length J) (D7 a0) (by
 unfold Vb Vc
 exact fun ag=>ZQ (g:=eY) (fun _ _=>rfl) ae ag)
def aie:cZ Tryz.prog:=⟨42,[(.l (.l .bool)),.int],[.int],some fun x=>hX x.1 x.2.1,fun x=>((wh x.1 x.2.1),()),fun x h=>aid x.1 x.2.1 h⟩
end
section
variable (a0:aC) (J aa:Int)
abbrev xB:=Bg a0.O (eY a0.bb J)
def Vj:Prop:=
  ((decide ((xB a0 J)<0))=true→(-1)=aa)∧((!(decide ((xB a0 J)<0)))=true→(hX a0.bF (xB a0 J))∧(((decide ((wh a0.bF (xB a0 J))<0))=true→(-1)=aa)∧((!(decide ((wh a0.bF (xB a0 J))<0)))=true→(wh a0.bF (xB a0 J))=aa)))
def Vi:Prop:=
 (hX a0.bb J)∧(((decide ((eY a0.bb J)<0))=true→(-1)=aa)∧((!(decide ((eY a0.bb J)<0)))=true→(hX a0.O (eY a0.bb J))∧(Vj a0 J aa)))
theorem ain (ae:hX a0 J):bc Tryz.prog 13 [.agg (bA false a0),ab J] (ab (qx a0 J)):=(fun(h:Vi a0 J (qx a0 J))=>bc.run (ps:=[.dl,.int]) (rs:=[.int]) (x:=(a0,J,())) (r:=((qx a0 J),())) ⟨24,dj,[Vg,aiq,aie]⟩ ⟨[],[],[],[],[]⟩ .nil Tryz.func13 h) (by
 unfold Vi Vj xB qx Dj eY Bg wh
 have ae:0≤J∧J≤1048576:=ae
 refine⟨ae,wi (m:=Ef a0.O+yR a0.bF) ae (by omega) fun c k=>⟨k,?_⟩⟩
 rw[xD ae.1 c]
 refine wi (m:=yR a0.bF) ae (by omega) fun c k=>⟨k,?_⟩
 rw[xD ae.1 c]
 exact wi (m:=0) ae (by omega) fun c k=>rfl)
def aio:cZ Tryz.prog:=⟨13,[.dl,.int],[.int],some fun x=>hX x.1 x.2.1,fun x=>((qx x.1 x.2.1),()),fun x h=>ain x.1 x.2.1 h⟩
end
section
variable (a0 J a2:Int) (aa:Bool)
def al3:Prop:=
 ((decide (a0 ≥ J))&&(decide (a0≤a2)))=aa
theorem N9:bc Tryz.prog 93 [ab a0,ab J,ab a2] (an (bN a0 J a2)):=(fun(h:al3 a0 J a2 (bN a0 J a2))=>bc.run (ps:=[.int,.int,.int]) (rs:=[.bool]) (x:=(a0,J,a2,())) (r:=((bN a0 J a2),())) ⟨15,dj,[]⟩ ⟨[],[],[],[],[]⟩ .nil Tryz.func93 h) (by
 rfl)
def DU:cZ Tryz.prog:=⟨93,[.int,.int,.int],[.bool],none,fun x=>((bN x.1 x.2.1 x.2.2.1),()),fun x h=>N9 x.1 x.2.1 x.2.2.1⟩
end
section
variable (ad:Int→Prop) (m0:Int→Nat) (aU:Int→Int→Prop) (m1:Int→Int→Nat) (a0 J:(List Int)) (aa:Bool) (v11:Int)
def YF:Prop:=
  aU v11 0∧ ∀(cY:Int),aU v11 cY→(((decide (cY<(J.length:Int)))=false→ad (IntKind.i64.wrap (v11+1))∧m0 (IntKind.i64.wrap (v11+1))<m0 v11)∧((decide (cY<(J.length:Int)))=true→((0≤cY∧cY.toNat<J.length)∧(((nth a0 v11)==(nth J cY))=true→true=aa))∧((!((nth a0 v11)==(nth J cY)))=true→aU v11 (IntKind.i64.wrap (cY+1))∧m1 v11 (IntKind.i64.wrap (cY+1))<m1 v11 cY)))
def YE (a0:(List Int)) (J:(List Int)) (aa:Bool) (ad:Int→Prop) (m0:Int→Nat) (aU:Int→Int→Prop) (m1:Int→Int→Nat):Prop:=
 a0.length≤4611686018427387904→ad 0∧ ∀(v11:Int),ad v11→(((decide (v11<(a0.length:Int)))=false→false=aa)∧((decide (v11<(a0.length:Int)))=true→(0≤v11∧v11.toNat<a0.length)∧(J.length≤4611686018427387904→YF ad m0 aU m1 a0 J aa v11)))
theorem al_:bc Tryz.prog 53 [bq cd a0,bq cd J] (an (meets a0 J)):=(fun(ad:Int→Prop) (m0:Int→Nat) (aU:Int→Int→Prop) (m1:Int→Int→Nat) (h:YE a0 J (meets a0 J) ad m0 aU m1)=>bc.run (ps:=[(.l .int),(.l .int)]) (rs:=[.bool]) (x:=(a0,J,())) (r:=((meets a0 J),())) ⟨26,dj,[]⟩ ⟨[],[],[],[],[]⟩ (fb [1,9,10] [] 11 ad m0 fun aD=>(fb [1,6,9,10,11,15,16] [] 17 (aU aD) (m1 aD) fun _=> .nil)) Tryz.func53 h) (bW a0.length (fun j=>gA J (nth a0 j))) (cg a0.length) (fun v=>bW J.length (fun k=>nth a0 v==nth J k)) (fun v=>cg J.length) (by
 unfold YE YF
 intro ag
 refine⟨cT (cN _),fun v aJ=>⟨fun hv=> ?_,fun hv=>⟨bX aJ hv,fun hm=>⟨cT (cN _),fun k hK=>⟨fun hk=> ?_,fun hk=>⟨⟨bX hK hk,fun ae=> ?_⟩,fun ae=>cw (b5 hm) hK hk (not_eq ae)⟩⟩⟩⟩⟩⟩
 ·exact(Ec (q:=fun x=>gA J x) aJ hv).symm
 ·exact cw (b5 ag) aJ hv (aeF (gT hK hk))
 ·exact(HW (q:=fun x=>gA J x) aJ hv (aeH (bX hK hk).2 ae)).symm)
def Oa:cZ Tryz.prog:=⟨53,[(.l .int),(.l .int)],[.bool],none,fun x=>((meets x.1 x.2.1),()),fun x h=>al_ x.1 x.2.1⟩
end
section
variable (ad:(List Int)→Int→Prop) (m0:(List Int)→Int→Nat) (a0 aa:(List Int))
def Vw:Prop:=
  ad (List.replicate (a0.length:Int).toNat (0:Int)) 0∧ ∀(aM:(List Int)) (v4:Int),ad aM v4→(((decide (v4<(a0.length:Int)))=false→aM.length≤4611686018427387904∧aM=aa)∧((decide (v4<(a0.length:Int)))=true→((0≤v4∧v4.toNat<a0.length)∧((0≤v4∧v4.toNat<aM.length)∧(v4.toNat<aM.length)))∧(ad (aM.set v4.toNat (nth a0 v4)) (IntKind.i64.wrap (v4+1))∧m0 (aM.set v4.toNat (nth a0 v4)) (IntKind.i64.wrap (v4+1))<m0 aM v4)))
def Vv (a0:(List Int)) (aa:(List Int)) (ad:(List Int)→Int→Prop) (m0:(List Int)→Int→Nat):Prop:=
 (a0.length≤4611686018427387904→0≤(a0.length:Int)∧8*(a0.length:Int)≤140737488355328∧(a0.length:Int)≤4611686018427387904)∧(a0.length≤4611686018427387904→Vw ad m0 a0 aa)
theorem aiC (ae:small a0):bc Tryz.prog 43 [bq cd a0] (jP cd (aK a0)):=(fun(ad:(List Int)→Int→Prop) (m0:(List Int)→Int→Nat) (h:Vv a0 (aK a0) ad m0)=>bc.run (ps:=[(.l .int)]) (rs:=[(.l .int)]) (x:=(a0,())) (r:=((aK a0),())) ⟨22,dj,[]⟩ ⟨[10],[],[],[],[]⟩ (.lp [] [0] [] [(.l .int),.int] [bw 0,4] (fun aD=>[(3,.ref 0 0 aD.1.length false),(4,.i .i64 aD.2.1),(bw 0,.blk 0 .int aD.1 _ rfl)]) (fun aD=>ad aD.1 aD.2.1) (fun aD=>m0 aD.1 aD.2.1) fun _=> .nil) Tryz.func43 h) (p8 a0 (fun x=>x) (0:Int)) (qS a0) (by
 unfold Vv Vw
 have ae:a0.length≤1048576:=ae
 exact⟨fun ag=>⟨cN _,by omega,by omega⟩,fun ag=>Ff (f:=fun x=>x) ag (by simp[aK])⟩)
def Vx:cZ Tryz.prog:=⟨43,[(.l .int)],[(.l .int)],some fun x=>small x.1,fun x=>((aK x.1),()),fun x h=>aiC x.1 h⟩
end
section
variable (a0 aa:cU)
def aiF:Prop:=
 (a0.be=aa.be)∧(a0.bj=aa.bj)
theorem aiG:bc Tryz.prog 123 [.agg (cQ a0)] (.agg (cQ (aK a0))):=(fun(h:aiF a0 (aK a0))=>bc.run (ps:=[.bj]) (rs:=[.bj]) (x:=(a0,())) (r:=((aK a0),())) ⟨11,dj,[]⟩ ⟨[],[],[],[],[]⟩ .nil Tryz.func123 h) (by
 exact⟨rfl,rfl⟩)
def aiH:cZ Tryz.prog:=⟨123,[.bj],[.bj],none,fun x=>((aK x.1),()),fun x h=>aiG x.1⟩
end
section
variable (ad:(List cU)→Int→Prop) (m0:(List cU)→Int→Nat) (a0 aa:(List cU))
def Vz:Prop:=
  ad (List.replicate (a0.length:Int).toNat ({be:=(0:Int),bj:=(0:Int)}:cU)) 0∧ ∀(aM:(List cU)) (v4:Int),ad aM v4→(((decide (v4<(a0.length:Int)))=false→aM.length≤4611686018427387904∧aM=aa)∧((decide (v4<(a0.length:Int)))=true→((0≤v4∧v4.toNat<a0.length)∧((0≤v4∧v4.toNat<aM.length)∧(v4.toNat<aM.length)))∧(ad (aM.set v4.toNat (aK (nth a0 v4))) (IntKind.i64.wrap (v4+1))∧m0 (aM.set v4.toNat (aK (nth a0 v4))) (IntKind.i64.wrap (v4+1))<m0 aM v4)))
def Vy (a0:(List cU)) (aa:(List cU)) (ad:(List cU)→Int→Prop) (m0:(List cU)→Int→Nat):Prop:=
 (a0.length≤4611686018427387904→0≤(a0.length:Int)∧16*(a0.length:Int)≤140737488355328∧(a0.length:Int)≤4611686018427387904)∧(a0.length≤4611686018427387904→Vz ad m0 a0 aa)
theorem aiD (ae:small a0):bc Tryz.prog 110 [bq cQ a0] (jP cQ (aK a0)):=(fun(ad:(List cU)→Int→Prop) (m0:(List cU)→Int→Nat) (h:Vy a0 (aK a0) ad m0)=>bc.run (ps:=[(.l .bj)]) (rs:=[(.l .bj)]) (x:=(a0,())) (r:=((aK a0),())) ⟨23,dj,[aiH]⟩ ⟨[10],[],[],[],[]⟩ (.lp [] [0] [] [(.l .bj),.int] [bw 0,4] (fun aD=>[(3,.ref 0 0 aD.1.length false),(4,.i .i64 aD.2.1),(bw 0,.blk 0 .bj aD.1 _ rfl)]) (fun aD=>ad aD.1 aD.2.1) (fun aD=>m0 aD.1 aD.2.1) fun _=> .nil) Tryz.func110 h) (p8 a0 (aK) ({be:=(0:Int),bj:=(0:Int)}:cU)) (qS a0) (by
 unfold Vy Vz
 have ae:a0.length≤1048576:=ae
 exact⟨fun ag=>⟨cN _,by omega,by omega⟩,fun ag=>Ff (f:=aK) ag (Gx _)⟩)
def aiE:cZ Tryz.prog:=⟨110,[(.l .bj)],[(.l .bj)],some fun x=>small x.1,fun x=>((aK x.1),()),fun x h=>aiD x.1 h⟩
end
section
variable (a0 aa:Way)
def VE:Prop:=
 (small a0.ak)∧((small a0.bm)∧((small a0.cB)∧((small a0.over)∧((small a0.ei)∧(((aK a0.ak)=aa.ak)∧((aK a0.bm)=aa.bm)∧((aK a0.cB)=aa.cB)∧((aK a0.over)=aa.over)∧((aK a0.ei)=aa.ei))))))
theorem aiM (ae:DL a0):bc Tryz.prog 87 [.agg (da false a0)] (.agg (da true (aK a0))):=(fun(h:VE a0 (aK a0))=>bc.run (ps:=[.fB]) (rs:=[.fB]) (x:=(a0,())) (r:=((aK a0),())) ⟨25,dj,[Vx,aiE]⟩ ⟨[],[],[],[],[]⟩ .nil Tryz.func87 h) (by
 have ae:a0.ak.length+a0.bm.length+a0.cB.length+a0.over.length+a0.ei.length≤1048576:=ae
 unfold VE small
 exact⟨by omega,by omega,by omega,by omega,by omega,rfl,rfl,rfl,rfl,rfl⟩)
def aiN:cZ Tryz.prog:=⟨87,[.fB],[.fB],some fun x=>DL x.1,fun x=>((aK x.1),()),fun x h=>aiM x.1 h⟩
end
section
variable (ad:(List Way)→Int→Prop) (m0:(List Way)→Int→Nat) (a0 aa aM:(List Way)) (v4:Int)
def VC:Prop:=
  ((decide (v4<(a0.length:Int)))=false→aM.length≤4611686018427387904∧aM=aa)∧((decide (v4<(a0.length:Int)))=true→((0≤v4∧v4.toNat<a0.length)∧((DL (nth a0 v4))∧((0≤v4∧v4.toNat<aM.length)∧(v4.toNat<aM.length))))∧(ad (aM.set v4.toNat (aK (nth a0 v4))) (IntKind.i64.wrap (v4+1))∧m0 (aM.set v4.toNat (aK (nth a0 v4))) (IntKind.i64.wrap (v4+1))<m0 aM v4))
def VD:Prop:=
  (a0.length≤4611686018427387904→0≤(a0.length:Int)∧120*(a0.length:Int)≤140737488355328∧(a0.length:Int)≤4611686018427387904)∧(a0.length≤4611686018427387904→ad (List.replicate (a0.length:Int).toNat ({ak:=([]:(List Int)),bm:=([]:(List cU)),cB:=([]:(List cU)),over:=([]:(List Int)),ei:=([]:(List Int))}:Way)) 0∧ ∀(aM:(List Way)) (v4:Int),ad aM v4→(VC ad m0 a0 aa aM v4))
def VB (a0:(List Way)) (aa:(List Way)) (ad:(List Way)→Int→Prop) (m0:(List Way)→Int→Nat):Prop:=
 VD ad m0 a0 aa
theorem aiK (ae:Ho a0):bc Tryz.prog 44 [bq (da false) a0] (jP (da false) (aK a0)):=(fun(ad:(List Way)→Int→Prop) (m0:(List Way)→Int→Nat) (h:VB a0 (aK a0) ad m0)=>bc.run (ps:=[(.l .fB)]) (rs:=[(.l .fB)]) (x:=(a0,())) (r:=((aK a0),())) ⟨23,dj,[aiN]⟩ ⟨[10],[],[],[],[]⟩ (.lp [] [0] [] [(.l .fB),.int] [bw 0,4] (fun aD=>[(3,.ref 0 0 aD.1.length false),(4,.i .i64 aD.2.1),(bw 0,.blk 0 .fB aD.1 _ rfl)]) (fun aD=>ad aD.1 aD.2.1) (fun aD=>m0 aD.1 aD.2.1) fun _=> .nil) Tryz.func44 h) (p8 a0 aK ({ak:=([]:(List Int)),bm:=([]:(List cU)),cB:=([]:(List cU)),over:=([]:(List Int)),ei:=([]:(List Int))}:Way)) (qS a0) (by
 unfold VB VD VC
 have ae:a0.length+(a0.map yw).sum≤1048576:=ae
 refine⟨fun ag=>⟨cN _,by omega,by omega⟩,fun ag=>Ji (f:=aK) (φ:=fun v=>DL (nth a0 v)) ag (Gx _) fun v _ hv=> ?_⟩
 have:=Mb yw (dz hv)
 unfold DL;omega)
def aiL:cZ Tryz.prog:=⟨44,[(.l .fB)],[(.l .fB)],some fun x=>Ho x.1,fun x=>((aK x.1),()),fun x h=>aiK x.1 h⟩
end
section
variable (ad:(List Bool)→Int→Prop) (m0:(List Bool)→Int→Nat) (a0 aa:(List Bool))
def Vs:Prop:=
  ad (List.replicate (a0.length:Int).toNat false) 0∧ ∀(aM:(List Bool)) (v4:Int),ad aM v4→(((decide (v4<(a0.length:Int)))=false→aM.length≤4611686018427387904∧aM=aa)∧((decide (v4<(a0.length:Int)))=true→((0≤v4∧v4.toNat<a0.length)∧((0≤v4∧v4.toNat<aM.length)∧(v4.toNat<aM.length)))∧(ad (aM.set v4.toNat (nth a0 v4)) (IntKind.i64.wrap (v4+1))∧m0 (aM.set v4.toNat (nth a0 v4)) (IntKind.i64.wrap (v4+1))<m0 aM v4)))
def Vr (a0:(List Bool)) (aa:(List Bool)) (ad:(List Bool)→Int→Prop) (m0:(List Bool)→Int→Nat):Prop:=
 (a0.length≤4611686018427387904→0≤(a0.length:Int)∧1*(a0.length:Int)≤140737488355328∧(a0.length:Int)≤4611686018427387904)∧(a0.length≤4611686018427387904→Vs ad m0 a0 aa)
theorem aiv (ae:small a0):bc Tryz.prog 88 [bq aP a0] (jP aP (aK a0)):=(fun(ad:(List Bool)→Int→Prop) (m0:(List Bool)→Int→Nat) (h:Vr a0 (aK a0) ad m0)=>bc.run (ps:=[(.l .bool)]) (rs:=[(.l .bool)]) (x:=(a0,())) (r:=((aK a0),())) ⟨22,dj,[]⟩ ⟨[10],[],[],[],[]⟩ (.lp [] [0] [] [(.l .bool),.int] [bw 0,4] (fun aD=>[(3,.ref 0 0 aD.1.length false),(4,.i .i64 aD.2.1),(bw 0,.blk 0 .bool aD.1 _ rfl)]) (fun aD=>ad aD.1 aD.2.1) (fun aD=>m0 aD.1 aD.2.1) fun _=> .nil) Tryz.func88 h) (p8 a0 (fun x=>x) false) (qS a0) (by
 unfold Vr Vs
 have ae:a0.length≤1048576:=ae
 exact⟨fun ag=>⟨cN _,by omega,by omega⟩,fun ag=>Ff (f:=fun x=>x) ag (by simp[aK])⟩)
def aiw:cZ Tryz.prog:=⟨88,[(.l .bool)],[(.l .bool)],some fun x=>small x.1,fun x=>((aK x.1),()),fun x h=>aiv x.1 h⟩
end
section
variable (ad:(List (List Bool))→Int→Prop) (m0:(List (List Bool))→Int→Nat) (a0 aa aM:(List (List Bool))) (v4:Int)
def Vq:Prop:=
  ((decide (v4<(a0.length:Int)))=false→aM.length≤4611686018427387904∧aM=aa)∧((decide (v4<(a0.length:Int)))=true→((0≤v4∧v4.toNat<a0.length)∧((small (nth a0 v4))∧((0≤v4∧v4.toNat<aM.length)∧(v4.toNat<aM.length))))∧(ad (aM.set v4.toNat (aK (nth a0 v4))) (IntKind.i64.wrap (v4+1))∧m0 (aM.set v4.toNat (aK (nth a0 v4))) (IntKind.i64.wrap (v4+1))<m0 aM v4))
def Vp (a0:(List (List Bool))) (aa:(List (List Bool))) (ad:(List (List Bool))→Int→Prop) (m0:(List (List Bool))→Int→Nat):Prop:=
 (a0.length≤4611686018427387904→0≤(a0.length:Int)∧24*(a0.length:Int)≤140737488355328∧(a0.length:Int)≤4611686018427387904)∧(a0.length≤4611686018427387904→ad (List.replicate (a0.length:Int).toNat ([]:(List Bool))) 0∧ ∀(aM:(List (List Bool))) (v4:Int),ad aM v4→(Vq ad m0 a0 aa aM v4))
theorem ait (ae:Hn a0):bc Tryz.prog 45 [bq (gW aP false) a0] (jP (gW aP false) (aK a0)):=(fun(ad:(List (List Bool))→Int→Prop) (m0:(List (List Bool))→Int→Nat) (h:Vp a0 (aK a0) ad m0)=>bc.run (ps:=[(.l (.l .bool))]) (rs:=[(.l (.l .bool))]) (x:=(a0,())) (r:=((aK a0),())) ⟨23,dj,[aiw]⟩ ⟨[10],[],[],[],[]⟩ (.lp [] [0] [] [(.l (.l .bool)),.int] [bw 0,4] (fun aD=>[(3,.ref 0 0 aD.1.length false),(4,.i .i64 aD.2.1),(bw 0,.blk 0 (.l .bool) aD.1 _ rfl)]) (fun aD=>ad aD.1 aD.2.1) (fun aD=>m0 aD.1 aD.2.1) fun _=> .nil) Tryz.func45 h) (p8 a0 aK ([]:(List Bool))) (qS a0) (by
 unfold Vp Vq
 have ae:a0.length+(a0.map List.length).sum≤1048576:=ae
 refine⟨fun ag=>⟨cN _,by omega,by omega⟩,fun ag=>Ji (f:=aK) (φ:=fun v=>small (nth a0 v)) ag (Gx _) fun v _ hv=> ?_⟩
 have:=Mb List.length (dz hv)
 unfold small;omega)
def aiu:cZ Tryz.prog:=⟨45,[(.l (.l .bool))],[(.l (.l .bool))],some fun x=>Hn x.1,fun x=>((aK x.1),()),fun x h=>ait x.1 h⟩
end
section
variable (a0 aa:aC)
def VA:Prop:=
 (small a0.bb)∧((Ho a0.O)∧((Hn a0.bF)∧((a0.ak=aa.ak)∧((aK a0.bb)=aa.bb)∧((aK a0.O)=aa.O)∧((aK a0.bF)=aa.bF)∧(a0.ct=aa.ct))))
theorem aiI (ae:x5 a0):bc Tryz.prog 15 [.agg (bA false a0)] (.agg (bA true (aK a0))):=(fun(h:VA a0 (aK a0))=>bc.run (ps:=[.dl]) (rs:=[.dl]) (x:=(a0,())) (r:=((aK a0),())) ⟨23,dj,[Vx,aiL,aiu]⟩ ⟨[],[],[],[],[]⟩ .nil Tryz.func15 h) (by
 have ae:a0.bb.length+Ef a0.O+yR a0.bF≤1048576:=ae
 unfold VA small Ho Hn
 exact⟨by omega,by omega,by omega,rfl,rfl,rfl,rfl,rfl⟩)
def aiJ:cZ Tryz.prog:=⟨15,[.dl],[.dl],some fun x=>x5 x.1,fun x=>((aK x.1),()),fun x h=>aiI x.1 h⟩
end
section
variable (a0:(List Int)) (J aa:Int) (ad:Int→Prop) (m0:Int→Nat)
def X2:Prop:=
 a0.length≤4611686018427387904→ad 0∧ ∀(db:Int),ad db→(((decide (db<(a0.length:Int)))=false→(-1)=aa)∧((decide (db<(a0.length:Int)))=true→((0≤db∧db.toNat<a0.length)∧((J==(nth a0 db))=true→db=aa))∧((!(J==(nth a0 db)))=true→ad (IntKind.i64.wrap (db+1))∧m0 (IntKind.i64.wrap (db+1))<m0 db)))
theorem alx:bc Tryz.prog 118 [bq cd a0,ab J] (ab (oH a0 J)):=(fun(ad:Int→Prop) (m0:Int→Nat) (h:X2 a0 J (oH a0 J) ad m0)=>bc.run (ps:=[(.l .int),.int]) (rs:=[.int]) (x:=(a0,J,())) (r:=((oH a0 J),())) ⟨19,dj,[]⟩ ⟨[],[],[],[],[]⟩ (fb [0,1,7] [] 8 ad m0 fun _=> .nil) Tryz.func118 h) (bW a0.length (fun j=>J==nth a0 j)) (cg a0.length) (by
 unfold X2
 intro ag
 refine⟨cT (cN _),fun v aJ=>⟨fun hv=> ?_,fun hv=>⟨⟨bX aJ hv,fun ae=> ?_⟩,fun ae=>cw (b5 ag) aJ hv (not_eq ae)⟩⟩⟩
 ·unfold oH;rw[sY (q:=fun x=>J==x) aJ hv];rfl
 ·unfold oH;rw[sX (q:=fun x=>J==x) aJ hv ae]
  have:=aJ.1
  show v=(v.toNat:Int)
  omega)
def X3:cZ Tryz.prog:=⟨118,[(.l .int),.int],[.int],none,fun x=>((oH x.1 x.2.1),()),fun x h=>alx x.1 x.2.1⟩
end
section
variable (a0:(List Int)) (J:Int) (aa:Bool)
def X0:Prop:=
 (decide ((oH a0 J) ≥ 0))=aa
theorem alu:bc Tryz.prog 115 [bq cd a0,ab J] (an (gA a0 J)):=(fun(h:X0 a0 J (gA a0 J))=>bc.run (ps:=[(.l .int),.int]) (rs:=[.bool]) (x:=(a0,J,())) (r:=((gA a0 J),())) ⟨9,dj,[X3]⟩ ⟨[],[],[],[],[]⟩ .nil Tryz.func115 h) (by
 unfold X0
 exact af8 a0 J)
def Hm:cZ Tryz.prog:=⟨115,[(.l .int),.int],[.bool],none,fun x=>((gA x.1 x.2.1),()),fun x h=>alu x.1 x.2.1⟩
end
section
variable (a0 J:(List Int)) (aa:Bool) (ad:Int→Prop) (m0:Int→Nat)
def T5:Prop:=
 a0.length≤4611686018427387904→ad 0∧ ∀(v9:Int),ad v9→(((decide (v9<(a0.length:Int)))=false→false=aa)∧((decide (v9<(a0.length:Int)))=true→((0≤v9∧v9.toNat<a0.length)∧((gA J (nth a0 v9))=true→true=aa))∧((!(gA J (nth a0 v9)))=true→ad (IntKind.i64.wrap (v9+1))∧m0 (IntKind.i64.wrap (v9+1))<m0 v9)))
theorem ag1:bc Tryz.prog 102 [bq cd a0,bq cd J] (an (meets a0 J)):=(fun(ad:Int→Prop) (m0:Int→Nat) (h:T5 a0 J (meets a0 J) ad m0)=>bc.run (ps:=[(.l .int),(.l .int)]) (rs:=[.bool]) (x:=(a0,J,())) (r:=((meets a0 J),())) ⟨17,dj,[Hm]⟩ ⟨[],[],[],[],[]⟩ (fb [1,7,8] [] 9 ad m0 fun _=> .nil) Tryz.func102 h) (bW a0.length (fun j=>gA J (nth a0 j))) (cg a0.length) (by
 unfold T5
 intro ag
 refine⟨cT (cN _),fun v aJ=>⟨fun hv=> ?_,fun hv=>⟨⟨bX aJ hv,fun ae=> ?_⟩,fun ae=>cw (b5 ag) aJ hv (not_eq ae)⟩⟩⟩
 ·exact(Ec (q:=fun x=>gA J x) aJ hv).symm
 ·exact(HW (q:=fun x=>gA J x) aJ hv ae).symm)
def Ln:cZ Tryz.prog:=⟨102,[(.l .int),(.l .int)],[.bool],none,fun x=>((meets x.1 x.2.1),()),fun x h=>ag1 x.1 x.2.1⟩
end
section
variable (a0 aa:(List cU))
abbrev No:=a0.length*16≤140737488355328∧a0.length≤4611686018427387904
noncomputable def alf:Code:=iP Tryz.f104
def Nn:Prop:=
 (a0≠[]→(No a0)∧(a0=aa))∧(a0=[]→ ∀b2:Bool,(b2=true→[]=aa)∧(b2=false→(No a0)∧(a0=aa)))
theorem alg (h:Nn a0 aa):c0 Tryz.prog 104 [bq cQ a0] [] (fun r H=>r=ap 0 0 aa.length∧H=[⟨0,2,List.map cQ aa⟩]):=by
 refine c0.toOwn ?_
 unfold Nn at h
 refine c0.go (fn:=Tryz.f104) [(0,bq cQ a0)] Tryz.func104 (fun _ _=> ?_)
 show WpS _ (bB alf 1) _ ⟨bd 8 [(0,bq cQ a0)],[],[]⟩
 refine dY [] 0 [(2,ca)] [] [1] ?_
 refine hz ?_
 refine hz ?_
 refine bo [] 1 ?_
 refine M7 2 (some 4) [(3,bq cQ a0)] cQ a0 (fun hx=> ?_) (fun hx b2=> ?_)
 ·
  replace h:=h.1 hx
  refine dM [] ?_
  refine dR.normal ?_
  refine uQ (.tmp 4) false (fun q3=> ?_) (fun q3=> ?_)
  ·
   cases q3
  ·
   refine d_ ?_
   refine dR.normal ?_
   obtain⟨cD,h⟩:=h
   refine j9 ⟨(bd 8 [(2,ap 0 0 a0.length)]),[],[⟨0,2,List.map cQ a0⟩]⟩ (True) ?_ (fun q4=> ?_)
   ·
    replace h:=cD
    refine bo [] 3 ?_
    have cs:=h
    refine vN 3 (some 7) [(6,bq cQ a0),(5,ca)] cQ a0 (l2 false (List.map cQ a0)) 0 2 16 (fun r=>[⟨0,2,r⟩]) rfl cs ?_
    exact bJ [(2,ap 0 0 a0.length)] trivial
   refine hh ?_
   refine mG (ap 0 0 a0.length) [ap 0 0 a0.length] ?_
   exact⟨qq [some 0],sE [some 0] rfl (by decide) ⟨rfl,(pM (b:=0) (g:=0) (sz:=2) (xs:=a0) (ys:=aa) rfl Wj h),trivial⟩,(.inr (xN (by simp) rfl rfl (by have:=congrArg List.length h;simpa using this)))⟩
 ·
  replace h:=h.2 hx b2
  refine dM [] ?_
  refine dR.normal ?_
  refine uQ (.tmp 4) b2 (fun fH=> ?_) (fun fH=> ?_)
  ·
   replace h:=h.1 fH
   refine j9 ⟨(bd 8 [(2,ca)]),[],[]⟩ (True) ?_ (fun fu=> ?_)
   ·
    refine bo [] 2 ?_
    exact bJ [(2,ca)] trivial
   refine hh ?_
   refine dR.ret ?_
   refine mG (ca) [ca] ?_
   exact⟨qq [none],sE [none] rfl (by decide) ⟨rfl,trivial,trivial⟩,(.inr (Mp (by simp) rfl rfl (by rw[←h];rfl)))⟩
  ·
   replace h:=h.2 fH
   refine d_ ?_
   refine dR.normal ?_
   obtain⟨iF,h⟩:=h
   refine j9 ⟨(bd 8 [(2,ap 0 0 a0.length)]),[],[⟨0,2,List.map cQ a0⟩]⟩ (True) ?_ (fun iV=> ?_)
   ·
    replace h:=iF
    refine bo [] 3 ?_
    have gG:=h
    refine vN 3 (some 7) [(6,bq cQ a0),(5,ca)] cQ a0 (l2 false (List.map cQ a0)) 0 2 16 (fun r=>[⟨0,2,r⟩]) rfl gG ?_
    exact bJ [(2,ap 0 0 a0.length)] trivial
   refine hh ?_
   refine mG (ap 0 0 a0.length) [ap 0 0 a0.length] ?_
   exact⟨qq [some 0],sE [some 0] rfl (by decide) ⟨rfl,(pM (b:=0) (g:=0) (sz:=2) (xs:=a0) (ys:=aa) rfl Wj h),trivial⟩,(.inr (xN (by simp) rfl rfl (by have:=congrArg List.length h;simpa using this)))⟩
theorem ale (ae:small a0):c0 Tryz.prog 104 [bq cQ a0] [] (fun r H=>r=ap 0 0 (aK a0).length∧H=[⟨0,2,List.map cQ (aK a0)⟩]):=alg a0 (aK a0) (by
 have ae:a0.length≤1048576:=ae
 unfold Nn No
 refine⟨fun h=>⟨⟨by omega,by omega⟩,rfl⟩,fun h b=>⟨fun _=> ?_,fun _=>⟨⟨by omega,by omega⟩,rfl⟩⟩⟩
 exact h.symm)
end
section
variable (a0:Way) (aa:(List cU))
abbrev xq:=(aK a0.bm)++a0.cB
noncomputable def T7:Code:=iP Tryz.f71
def ag2:List Item:=[bV 0,bV 1,bV 3,bV 4,⟨2,true,false,[3,4]⟩,⟨5,true,false,[]⟩,bV 6]
def ag3:List (List Nat):=[[],[0],[0,1],[],[3],rg 0 5,rg 0 6]
def Lo:Prop:=
 ((small a0.bm)∧(((aK a0.bm).length+a0.cB.length)*16≤140737488355328∧(aK a0.bm).length+a0.cB.length≤4611686018427387904))∧((xq a0).length≤4611686018427387904∧(xq a0)=aa)
theorem ag4 (h:Lo a0 aa):bc Tryz.prog 71 [.agg (da false a0)] (jP cQ aa):=by
 unfold Lo at h
 refine c0.go (fn:=Tryz.f71) [(0,.agg (da false a0))] Tryz.func71 (fun _ _=> ?_)
 show WpS _ (bB T7 1) _ ⟨bd 9 [(0,.agg (da false a0))],[],[]⟩
 refine rX [] 0 [(2,ca),(1,aF 1 0)] [0,1,1] [] [(1,(da false a0))] [] ?_
 obtain⟨cs,h⟩:=h
 refine eU [(2,ap 0 1 (xq a0).length)] [] id (fun _=>[⟨1,2,List.map cQ (xq a0)⟩]) (True) ?_ (fun q2=> ?_)
 ·
  replace h:=cs
  refine n9 [] 1 ag2 ag3 [] ?_
  obtain⟨q3,h⟩:=h
  refine HP 5 (some 5) [(7,bq cQ a0.cB),(6,aF 1 2),(4,bq cQ a0.bm),(3,aF 1 1)] [bq cQ a0.bm] (fun L H=>qU Tryz.prog (jm T7 6) [3,4] [(7,bq cQ a0.cB),(6,aF 1 2),(4,bq cQ a0.bm),(3,aF 1 1),(1,aF 1 0)] L H) (ap 0 0 (aK a0.bm).length) [⟨0,2,List.map cQ (aK a0.bm)⟩] (ale a0.bm q3) (af.cons (cL.hW cj) af.nil) (sD (fun _=>rfl) rfl) (sN (sM (fun _=>rfl) rfl) (by kernel_rfl)) (vz (ψ:=((true=true∧true=true∧((aF 1 2:AV)=aF 1 2))∧((true=true∧true=true∧((bq cQ a0.cB:AV)=bq cQ a0.cB))∧True))) (by kernel_rfl) ⟨⟨rfl,rfl,rfl⟩,⟨⟨rfl,rfl,rfl⟩,trivial⟩⟩) ?_
  have q4:=h
  refine ank 1 (some 8) [] cQ (aK a0.bm) a0.cB (l2 false (List.map cQ a0.cB)) 0 0 2 16 (fun _=>True) (fun r=>[⟨1,2,r⟩]) rfl q4 trivial ?_
  exact lb [(2,ap 0 1 (xq a0).length)] trivial
 exact hh (oW (ap 0 1 (xq a0).length) (iw.hW (sU (sz:=2) (by simp) rfl (Qs) h)))
theorem T6 (ae:At a0):bc Tryz.prog 71 [.agg (da false a0)] (jP cQ (bE a0)):=ag4 a0 (bE a0) (by
 obtain⟨h1,h2⟩:=ae
 unfold Lo xq aK small
 exact⟨⟨h1,by omega,by omega⟩,by rw[List.length_append];omega,rfl⟩)
def Lp:cZ Tryz.prog:=⟨71,[.fB],[(.l .bj)],some fun x=>At x.1,fun x=>((bE x.1),()),fun x h=>T6 x.1 h⟩
end
section
variable (ad:Int→Prop) (m0:Int→Nat) (a0:(List Int)) (aa:Bool)
def ahq:List Item:=(List.range 8).map bV
def ahr:List (List Nat):=[[],[],[0,1],[],[],[3,4],[3,4,5],rg 0 7]
def Ur:Prop:=
  a0.length≤4611686018427387904→ad 0∧ ∀(v6:Int),ad v6→(((decide (v6<(a0.length:Int)))=false→false=aa)∧((decide (v6<(a0.length:Int)))=true→(((0≤v6∧v6≤(a0.length:Int))∧(0≤v6∧v6.toNat<a0.length))∧((gA (a0.take v6.toNat) (nth a0 v6))=true→true=aa))∧((!(gA (a0.take v6.toNat) (nth a0 v6)))=true→ad (IntKind.i64.wrap (v6+1))∧m0 (IntKind.i64.wrap (v6+1))<m0 v6)))
def Uq (a0:(List Int)) (aa:Bool) (ad:Int→Prop) (m0:Int→Nat):Prop:=
 Ur ad m0 a0 aa
theorem aho:bc Tryz.prog 114 [bq cd a0] (an (dup a0)):=(fun(ad:Int→Prop) (m0:Int→Nat) (h:Uq a0 (dup a0) ad m0)=>bc.run (ps:=[(.l .int)]) (rs:=[.bool]) (x:=(a0,())) (r:=((dup a0),())) ⟨18,dj,[Hm]⟩ ⟨[],[(4,ahq,ahr)],[],[],[]⟩ (fb [0,5] [] 6 ad m0 fun _=> .nil) Tryz.func114 h) (bW a0.length (fun j=>gA (a0.take j.toNat) (nth a0 j))) (cg a0.length) (by
 unfold Uq Ur
 intro ag
 refine⟨cT (cN _),fun v aJ=>⟨fun hv=> ?_,fun hv=>⟨⟨⟨⟨aJ.1,aJ.2.1⟩,bX aJ hv⟩,fun ae=> ?_⟩,fun ae=>cw (b5 ag) aJ hv (not_eq ae)⟩⟩⟩
 ·exact(QP (gT aJ hv)).symm
 ·exact(acH (bX aJ hv).1 (bX aJ hv).2 ae).symm)
def ahp:cZ Tryz.prog:=⟨114,[(.l .int)],[.bool],none,fun x=>((dup x.1),()),fun x h=>aho x.1⟩

end
section
variable (ad:Int→Prop) (m0:Int→Nat) (a0 J:(List Int)) (aa:Bool)
def ahY:List Item:=(List.range 9).map bV
def ahZ:List (List Nat):=[[],[],[0,1],[0,1,2],[],[],[4,5],[4,5,6],rg 0 8]
def U1:Prop:=
  ((a0.length≤4611686018427387904)∧(J.length≤4611686018427387904)→((a0.length:Int) !=(J.length:Int))=true→false=aa)∧((a0.length≤4611686018427387904)∧(J.length≤4611686018427387904)∧((!((a0.length:Int) !=(J.length:Int)))=true)→ad 0∧ ∀(v5:Int),ad v5→(((decide (v5<(a0.length:Int)))=false→true=aa)∧((decide (v5<(a0.length:Int)))=true→(((0≤v5∧v5.toNat<a0.length)∧(0≤v5∧v5.toNat<J.length))∧(((nth a0 v5) !=(nth J v5))=true→false=aa))∧((!((nth a0 v5) !=(nth J v5)))=true→ad (IntKind.i64.wrap (v5+1))∧m0 (IntKind.i64.wrap (v5+1))<m0 v5))))
def U0 (a0:(List Int)) (J:(List Int)) (aa:Bool) (ad:Int→Prop) (m0:Int→Nat):Prop:=
 U1 ad m0 a0 J aa
theorem ahX:bc Tryz.prog 47 [bq cd a0,bq cd J] (an (eqv a0 J)):=(fun(ad:Int→Prop) (m0:Int→Nat) (h:U0 a0 J (eqv a0 J) ad m0)=>bc.run (ps:=[(.l .int),(.l .int)]) (rs:=[.bool]) (x:=(a0,J,())) (r:=((eqv a0 J),())) ⟨26,dj,[]⟩ ⟨[13],[(6,ahY,ahZ)],[],[],[]⟩ (fb [0,1] [] 5 ad m0 fun _=> .nil) Tryz.func47 h) (bW a0.length (fun v=>nth a0 v !=nth J v)) (cg a0.length) (by
 unfold U0 U1
 exact y8 (ne:=fun v=>nth a0 v !=nth J v) (fun v=>by simp[eqv]))
def U2:cZ Tryz.prog:=⟨47,[(.l .int),(.l .int)],[.bool],none,fun x=>((eqv x.1 x.2.1),()),fun x h=>ahX x.1 x.2.1⟩
end
section
variable (a0 J:cU) (aa:Bool)
def U5:Prop:=
 ((a0.be !=J.be)=true→false=aa)∧((!(a0.be !=J.be))=true→((a0.bj !=J.bj)=true→false=aa)∧((!(a0.bj !=J.bj))=true→true=aa))
theorem ah4:bc Tryz.prog 124 [.agg (cQ a0),.agg (cQ J)] (an (eqv a0 J)):=(fun(h:U5 a0 J (eqv a0 J))=>bc.run (ps:=[.bj,.bj]) (rs:=[.bool]) (x:=(a0,J,())) (r:=((eqv a0 J),())) ⟨15,dj,[]⟩ ⟨[],[],[],[],[]⟩ .nil Tryz.func124 h) (by
 unfold U5
 obtain⟨c,p⟩:=a0
 obtain⟨cn,Ao⟩:=J
 simp[eqv]
 intros
 simp_all)
def ah5:cZ Tryz.prog:=⟨124,[.bj,.bj],[.bool],none,fun x=>((eqv x.1 x.2.1),()),fun x h=>ah4 x.1 x.2.1⟩
end
section
variable (ad:Int→Prop) (m0:Int→Nat) (a0 J:(List cU)) (aa:Bool)
def ah2:List Item:=(List.range 10).map bV
def ah3:List (List Nat):=[[],[],[0,1],[0,1,2],[],[],[4,5],[4,5,6],rg 0 8,rg 0 9]
def U4:Prop:=
  ((a0.length≤4611686018427387904)∧(J.length≤4611686018427387904)→((a0.length:Int) !=(J.length:Int))=true→false=aa)∧((a0.length≤4611686018427387904)∧(J.length≤4611686018427387904)∧((!((a0.length:Int) !=(J.length:Int)))=true)→ad 0∧ ∀(v5:Int),ad v5→(((decide (v5<(a0.length:Int)))=false→true=aa)∧((decide (v5<(a0.length:Int)))=true→(((0≤v5∧v5.toNat<a0.length)∧(0≤v5∧v5.toNat<J.length))∧((!(eqv (nth a0 v5) (nth J v5)))=true→false=aa))∧((!(!(eqv (nth a0 v5) (nth J v5))))=true→ad (IntKind.i64.wrap (v5+1))∧m0 (IntKind.i64.wrap (v5+1))<m0 v5))))
def U3 (a0:(List cU)) (J:(List cU)) (aa:Bool) (ad:Int→Prop) (m0:Int→Nat):Prop:=
 U4 ad m0 a0 J aa
theorem ah0:bc Tryz.prog 111 [bq cQ a0,bq cQ J] (an (eqv a0 J)):=(fun(ad:Int→Prop) (m0:Int→Nat) (h:U3 a0 J (eqv a0 J) ad m0)=>bc.run (ps:=[(.l .bj),(.l .bj)]) (rs:=[.bool]) (x:=(a0,J,())) (r:=((eqv a0 J),())) ⟨27,dj,[ah5]⟩ ⟨[13],[(6,ah2,ah3)],[],[],[]⟩ (fb [0,1] [] 5 ad m0 fun _=> .nil) Tryz.func111 h) (bW a0.length (fun v=> !(eqv (nth a0 v) (nth J v)))) (cg a0.length) (by
 unfold U3 U4
 exact y8 (ne:=fun v=> !(eqv (nth a0 v) (nth J v))) (fun v=>by simp[eqv]))
def ah1:cZ Tryz.prog:=⟨111,[(.l .bj),(.l .bj)],[.bool],none,fun x=>((eqv x.1 x.2.1),()),fun x h=>ah0 x.1 x.2.1⟩
end
section
variable (a0 J:Way) (aa:Bool)
def Va:Prop:=
  ((!(eqv a0.ak J.ak))=true→false=aa)∧((!(!(eqv a0.ak J.ak)))=true→((!(eqv a0.bm J.bm))=true→false=aa)∧((!(!(eqv a0.bm J.bm)))=true→((!(eqv a0.cB J.cB))=true→false=aa)∧((!(!(eqv a0.cB J.cB)))=true→((!(eqv a0.over J.over))=true→false=aa)∧((!(!(eqv a0.over J.over)))=true→((!(eqv a0.ei J.ei))=true→false=aa)∧((!(!(eqv a0.ei J.ei)))=true→true=aa)))))
def U_:Prop:=
 Va a0 J aa
theorem aib:bc Tryz.prog 89 [.agg (da false a0),.agg (da false J)] (an (eqv a0 J)):=(fun(h:U_ a0 J (eqv a0 J))=>bc.run (ps:=[.fB,.fB]) (rs:=[.bool]) (x:=(a0,J,())) (r:=((eqv a0 J),())) ⟨35,dj,[U2,ah1]⟩ ⟨[],[],[],[],[]⟩ .nil Tryz.func89 h) (by
 unfold U_ Va
 obtain⟨a,b,c,d,e⟩:=a0
 obtain⟨ib,bS,cn,QL,cA⟩:=J
 simp[eqv]
 refine⟨fun h h1=>absurd h1 h,fun h=>⟨fun k _ dk=>absurd dk k,?_⟩⟩
 intros
 simp_all)
def aic:cZ Tryz.prog:=⟨89,[.fB,.fB],[.bool],none,fun x=>((eqv x.1 x.2.1),()),fun x h=>aib x.1 x.2.1⟩
end
section
variable (ad:Int→Prop) (m0:Int→Nat) (a0 J:(List Way)) (aa:Bool)
def ah_:List Item:=(List.range 10).map bV
def aia:List (List Nat):=[[],[],[0,1],[0,1,2],[],[],[4,5],[4,5,6],rg 0 8,rg 0 9]
def U9:Prop:=
  ((a0.length≤4611686018427387904)∧(J.length≤4611686018427387904)→((a0.length:Int) !=(J.length:Int))=true→false=aa)∧((a0.length≤4611686018427387904)∧(J.length≤4611686018427387904)∧((!((a0.length:Int) !=(J.length:Int)))=true)→ad 0∧ ∀(v5:Int),ad v5→(((decide (v5<(a0.length:Int)))=false→true=aa)∧((decide (v5<(a0.length:Int)))=true→(((0≤v5∧v5.toNat<a0.length)∧(0≤v5∧v5.toNat<J.length))∧((!(eqv (nth a0 v5) (nth J v5)))=true→false=aa))∧((!(!(eqv (nth a0 v5) (nth J v5))))=true→ad (IntKind.i64.wrap (v5+1))∧m0 (IntKind.i64.wrap (v5+1))<m0 v5))))
def U8 (a0:(List Way)) (J:(List Way)) (aa:Bool) (ad:Int→Prop) (m0:Int→Nat):Prop:=
 U9 ad m0 a0 J aa
theorem ah8:bc Tryz.prog 48 [bq (da false) a0,bq (da false) J] (an (eqv a0 J)):=(fun(ad:Int→Prop) (m0:Int→Nat) (h:U8 a0 J (eqv a0 J) ad m0)=>bc.run (ps:=[(.l .fB),(.l .fB)]) (rs:=[.bool]) (x:=(a0,J,())) (r:=((eqv a0 J),())) ⟨27,dj,[aic]⟩ ⟨[13],[(6,ah_,aia)],[],[],[]⟩ (fb [0,1] [] 5 ad m0 fun _=> .nil) Tryz.func48 h) (bW a0.length (fun v=> !(eqv (nth a0 v) (nth J v)))) (cg a0.length) (by
 unfold U8 U9
 exact y8 (ne:=fun v=> !(eqv (nth a0 v) (nth J v))) (fun v=>by simp[eqv]))
def ah9:cZ Tryz.prog:=⟨48,[(.l .fB),(.l .fB)],[.bool],none,fun x=>((eqv x.1 x.2.1),()),fun x h=>ah8 x.1 x.2.1⟩
end
section
variable (ad:Int→Prop) (m0:Int→Nat) (a0 J:(List Bool)) (aa:Bool)
def ahP:List Item:=(List.range 9).map bV
def ahQ:List (List Nat):=[[],[],[0,1],[0,1,2],[],[],[4,5],[4,5,6],rg 0 8]
def UW:Prop:=
  ((a0.length≤4611686018427387904)∧(J.length≤4611686018427387904)→((a0.length:Int) !=(J.length:Int))=true→false=aa)∧((a0.length≤4611686018427387904)∧(J.length≤4611686018427387904)∧((!((a0.length:Int) !=(J.length:Int)))=true)→ad 0∧ ∀(v5:Int),ad v5→(((decide (v5<(a0.length:Int)))=false→true=aa)∧((decide (v5<(a0.length:Int)))=true→(((0≤v5∧v5.toNat<a0.length)∧(0≤v5∧v5.toNat<J.length))∧(((nth a0 v5) !=(nth J v5))=true→false=aa))∧((!((nth a0 v5) !=(nth J v5)))=true→ad (IntKind.i64.wrap (v5+1))∧m0 (IntKind.i64.wrap (v5+1))<m0 v5))))
def UU (a0:(List Bool)) (J:(List Bool)) (aa:Bool) (ad:Int→Prop) (m0:Int→Nat):Prop:=
 UW ad m0 a0 J aa
theorem ahN:bc Tryz.prog 90 [bq aP a0,bq aP J] (an (eqv a0 J)):=(fun(ad:Int→Prop) (m0:Int→Nat) (h:UU a0 J (eqv a0 J) ad m0)=>bc.run (ps:=[(.l .bool),(.l .bool)]) (rs:=[.bool]) (x:=(a0,J,())) (r:=((eqv a0 J),())) ⟨26,dj,[]⟩ ⟨[13],[(6,ahP,ahQ)],[],[],[]⟩ (fb [0,1] [] 5 ad m0 fun _=> .nil) Tryz.func90 h) (bW a0.length (fun v=>nth a0 v !=nth J v)) (cg a0.length) (by
 unfold UU UW
 exact y8 (ne:=fun v=>nth a0 v !=nth J v) (fun v=>by simp[eqv]))
def ahO:cZ Tryz.prog:=⟨90,[(.l .bool),(.l .bool)],[.bool],none,fun x=>((eqv x.1 x.2.1),()),fun x h=>ahN x.1 x.2.1⟩
end
section
variable (ad:Int→Prop) (m0:Int→Nat) (a0 J:(List (List Bool))) (aa:Bool)
def ahL:List Item:=(List.range 10).map bV
def ahM:List (List Nat):=[[],[],[0,1],[0,1,2],[],[],[4,5],[4,5,6],rg 0 8,rg 0 9]
def UT:Prop:=
  ((a0.length≤4611686018427387904)∧(J.length≤4611686018427387904)→((a0.length:Int) !=(J.length:Int))=true→false=aa)∧((a0.length≤4611686018427387904)∧(J.length≤4611686018427387904)∧((!((a0.length:Int) !=(J.length:Int)))=true)→ad 0∧ ∀(v5:Int),ad v5→(((decide (v5<(a0.length:Int)))=false→true=aa)∧((decide (v5<(a0.length:Int)))=true→(((0≤v5∧v5.toNat<a0.length)∧(0≤v5∧v5.toNat<J.length))∧((!(eqv (nth a0 v5) (nth J v5)))=true→false=aa))∧((!(!(eqv (nth a0 v5) (nth J v5))))=true→ad (IntKind.i64.wrap (v5+1))∧m0 (IntKind.i64.wrap (v5+1))<m0 v5))))
def US (a0:(List (List Bool))) (J:(List (List Bool))) (aa:Bool) (ad:Int→Prop) (m0:Int→Nat):Prop:=
 UT ad m0 a0 J aa
theorem ahJ:bc Tryz.prog 49 [bq (gW aP false) a0,bq (gW aP false) J] (an (eqv a0 J)):=(fun(ad:Int→Prop) (m0:Int→Nat) (h:US a0 J (eqv a0 J) ad m0)=>bc.run (ps:=[(.l (.l .bool)),(.l (.l .bool))]) (rs:=[.bool]) (x:=(a0,J,())) (r:=((eqv a0 J),())) ⟨27,dj,[ahO]⟩ ⟨[13],[(6,ahL,ahM)],[],[],[]⟩ (fb [0,1] [] 5 ad m0 fun _=> .nil) Tryz.func49 h) (bW a0.length (fun v=> !(eqv (nth a0 v) (nth J v)))) (cg a0.length) (by
 unfold US UT
 exact y8 (ne:=fun v=> !(eqv (nth a0 v) (nth J v))) (fun v=>by simp[eqv]))
def ahK:cZ Tryz.prog:=⟨49,[(.l (.l .bool)),(.l (.l .bool))],[.bool],none,fun x=>((eqv x.1 x.2.1),()),fun x h=>ahJ x.1 x.2.1⟩
end
section
variable (a0 J:aC) (aa:Bool)
def U7:Prop:=
  ((a0.ak !=J.ak)=true→false=aa)∧((!(a0.ak !=J.ak))=true→((!(eqv a0.bb J.bb))=true→false=aa)∧((!(!(eqv a0.bb J.bb)))=true→((!(eqv a0.O J.O))=true→false=aa)∧((!(!(eqv a0.O J.O)))=true→((!(eqv a0.bF J.bF))=true→false=aa)∧((!(!(eqv a0.bF J.bF)))=true→((a0.ct !=J.ct)=true→false=aa)∧((!(a0.ct !=J.ct))=true→true=aa)))))
def U6:Prop:=
 U7 a0 J aa
theorem ah6:bc Tryz.prog 17 [.agg (bA false a0),.agg (bA false J)] (an (eqv a0 J)):=(fun(h:U6 a0 J (eqv a0 J))=>bc.run (ps:=[.dl,.dl]) (rs:=[.bool]) (x:=(a0,J,())) (r:=((eqv a0 J),())) ⟨33,dj,[U2,ah9,ahK]⟩ ⟨[],[],[],[],[]⟩ .nil Tryz.func17 h) (by
 unfold U6 U7
 obtain⟨a,b,c,d,e⟩:=a0
 obtain⟨ib,bS,cn,QL,cA⟩:=J
 simp[eqv]
 refine⟨fun h h1=>absurd h1 h,fun h=>⟨fun k _ dk=>absurd dk k,?_⟩⟩
 intros
 simp_all)
def ah7:cZ Tryz.prog:=⟨17,[.dl,.dl],[.bool],none,fun x=>((eqv x.1 x.2.1),()),fun x h=>ah6 x.1 x.2.1⟩
end
section
variable (ad:Int→Prop) (m0:Int→Nat) (aU:Int→Int→Prop) (m1:Int→Int→Nat) (a0:(List Int)) (J:Int) (aa:Bool) (v10:Int)
def YD:Prop:=
  ((!(bN (nth a0 v10) 0 (IntKind.i64.wrap (J - 1))))=true→false=aa)∧((!(!(bN (nth a0 v10) 0 (IntKind.i64.wrap (J - 1)))))=true→aU v10 0∧ ∀(eE:Int),aU v10 eE→(((decide (eE<v10))=false→ad (IntKind.i64.wrap (v10+1))∧m0 (IntKind.i64.wrap (v10+1))<m0 v10)∧((decide (eE<v10))=true→((0≤eE∧eE.toNat<a0.length)∧(((nth a0 eE)==(nth a0 v10))=true→false=aa))∧((!((nth a0 eE)==(nth a0 v10)))=true→aU v10 (IntKind.i64.wrap (eE+1))∧m1 v10 (IntKind.i64.wrap (eE+1))<m1 v10 eE))))
def YC (a0:(List Int)) (J:Int) (aa:Bool) (ad:Int→Prop) (m0:Int→Nat) (aU:Int→Int→Prop) (m1:Int→Int→Nat):Prop:=
 a0.length≤4611686018427387904→ad 0∧ ∀(v10:Int),ad v10→(((decide (v10<(a0.length:Int)))=false→(decide ((a0.length:Int)≤30))=aa)∧((decide (v10<(a0.length:Int)))=true→(0≤v10∧v10.toNat<a0.length)∧(YD ad m0 aU m1 a0 J aa v10)))
theorem al8 (ae:Dk a0 J):bc Tryz.prog 112 [bq cd a0,ab J] (an (ih a0 J)):=(fun(ad:Int→Prop) (m0:Int→Nat) (aU:Int→Int→Prop) (m1:Int→Int→Nat) (h:YC a0 J (ih a0 J) ad m0 aU m1)=>bc.run (ps:=[(.l .int),.int]) (rs:=[.bool]) (x:=(a0,J,())) (r:=((ih a0 J),())) ⟨35,dj,[DU]⟩ ⟨[33],[],[],[],[]⟩ (fb [0,1,8,9] [] 10 ad m0 fun aD=>(fb [0,1,5,6,8,9,10] [] 7 (aU aD) (m1 aD) fun _=> .nil)) Tryz.func112 h) (bW a0.length (fun j=> !bN (nth a0 j) 0 (J - 1) || gA (a0.take j.toNat) (nth a0 j))) (cg a0.length) (fun v=>bW v (fun k=>nth a0 k==nth a0 v)) (fun v=>cg v) (by
 have ae: -9223372036854775808<J∧J≤9223372036854775807:=ae
 unfold YC YD
 intro ag
 refine⟨cT (cN _),fun v aJ=>⟨fun hv=> ?_,fun hv=>⟨bX aJ hv,?_⟩⟩⟩
 ·exact(V8 30).trans (ai8 (gT aJ hv)).symm
 ·have hi:=bX aJ hv
  rw[j6 (by omega) (by omega)]
  refine⟨fun h=>(VO hi.2 h).symm,fun ao=>⟨cT aJ.1,fun k hK=>⟨fun hk=> ?_,fun hk=> ?_⟩⟩⟩
  ·refine cw (b5 ag) aJ hv ?_
   rw[aeG aJ.1 (by simpa using hv) (gT hK hk),Bool.or_false]
   exact not_eq ao
  ·have kz:k<v:=by simpa using hk
   have:=hK.1
   exact⟨⟨⟨by omega,by omega⟩,fun he=>(ai7 hK.1 kz (by omega) he).symm⟩,fun he=>cw (by omega) hK hk (not_eq he)⟩)
def al9:cZ Tryz.prog:=⟨112,[(.l .int),.int],[.bool],some fun x=>Dk x.1 x.2.1,fun x=>((ih x.1 x.2.1),()),fun x h=>al8 x.1 x.2.1 h⟩
end
section
variable (ad:Int→Prop) (m0:Int→Nat) (aU:Int→Int→Prop) (m1:Int→Int→Nat) (a0:aC) (J:(List cU)) (aa:Bool) (v10:Int)
abbrev N_:=(!(bN (nth J v10).be 0 (IntKind.i64.wrap ((a0.bb.length:Int) - 1)))) || (!(bN (nth J v10).bj 1 2))
def al6:List Item:=(List.range 8).map bV
def al7:List (List Nat):=[[],[],[0,1],[0,1,2],rg 0 4,[],[5],rg 0 7]
def YA:Prop:=
  aU v10 0∧ ∀(eE:Int),aU v10 eE→(((decide (eE<v10))=false→ad (IntKind.i64.wrap (v10+1))∧m0 (IntKind.i64.wrap (v10+1))<m0 v10)∧((decide (eE<v10))=true→((0≤eE∧eE.toNat<J.length)∧(((nth J eE).be==(nth J v10).be)=true→false=aa))∧((!((nth J eE).be==(nth J v10).be))=true→aU v10 (IntKind.i64.wrap (eE+1))∧m1 v10 (IntKind.i64.wrap (eE+1))<m1 v10 eE)))
def YB:Prop:=
  (a0.bb.length≤4611686018427387904→(N_ a0 J v10)=true→false=aa)∧((a0.bb.length≤4611686018427387904)∧((!(N_ a0 J v10))=true)→YA ad m0 aU m1 J aa v10)
def Yz (a0:aC) (J:(List cU)) (aa:Bool) (ad:Int→Prop) (m0:Int→Nat) (aU:Int→Int→Prop) (m1:Int→Int→Nat):Prop:=
 J.length≤4611686018427387904→ad 0∧ ∀(v10:Int),ad v10→(((decide (v10<(J.length:Int)))=false→(decide ((J.length:Int)≤30))=aa)∧((decide (v10<(J.length:Int)))=true→(0≤v10∧v10.toNat<J.length)∧(YB ad m0 aU m1 a0 J aa v10)))
theorem al4:bc Tryz.prog 113 [.agg (bA false a0),bq cQ J] (an (nj a0 J)):=(fun(ad:Int→Prop) (m0:Int→Nat) (aU:Int→Int→Prop) (m1:Int→Int→Nat) (h:Yz a0 J (nj a0 J) ad m0 aU m1)=>bc.run (ps:=[.dl,(.l .bj)]) (rs:=[.bool]) (x:=(a0,J,())) (r:=((nj a0 J),())) ⟨46,dj,[DU]⟩ ⟨[44],[(9,al6,al7)],[],[],[]⟩ (fb [1,2,8,9] [(2,5)] 10 ad m0 fun aD=>(fb [1,2,5,6,8,9,10] [(6,2),(2,5)] 7 (aU aD) (m1 aD) fun _=> .nil)) Tryz.func113 h) (bW J.length (fun j=>qh a0 (nth J j) || C4 J j)) (cg J.length) (fun v=>bW v (fun k=>(nth J k).be==(nth J v).be)) (fun v=>cg v) (by
 unfold Yz YB YA N_
 intro ag
 refine⟨cT (cN _),fun v aJ=>⟨fun hv=> ?_,fun hv=>⟨bX aJ hv,?_⟩⟩⟩
 ·exact(V8 30).trans (ai5 (gT aJ hv)).symm
 ·have hi:=bX aJ hv
  refine⟨fun hs h=> ?_,fun⟨hs,ao⟩=>⟨cT aJ.1,fun k hK=>⟨fun hk=> ?_,fun hk=> ?_⟩⟩⟩
  ·rw[j6 (by omega) (by omega)] at h
   exact(ai6 hi.2 h).symm
  ·rw[j6 (by omega) (by omega)] at ao
   refine cw (b5 ag) aJ hv ?_
   rw[ai2 aJ.1 (by simpa using hv) (gT hK hk),Bool.or_false]
   exact not_eq ao
  ·have kz:k<v:=by simpa using hk
   have:=hK.1
   exact⟨⟨⟨by omega,by omega⟩,fun he=>(ai4 hK.1 kz (by omega) he).symm⟩,fun he=>cw (by omega) hK hk (not_eq he)⟩)
def al5:cZ Tryz.prog:=⟨113,[.dl,(.l .bj)],[.bool],none,fun x=>((nj x.1 x.2.1),()),fun x h=>al4 x.1 x.2.1⟩
end
section
variable (ad:Int→Prop) (m0:Int→Nat) (aU:Int→Int→Prop) (m1:Int→Int→Nat) (a0:aC) (J:Way) (aa:Bool) (qF fX:Int)
abbrev Oc:=((J.ak.length:Int)==0) || ((!(ih J.ak a0.ak)) || ((!(ih J.over a0.ak)) || ((!(ih J.ei a0.ak)) || ((!(nj a0 J.bm)) || (!(nj a0 J.cB))))))
def ame:List Item:=(List.range 11).map bV
def amf:List (List Nat):=[[],[0],[],[2],rg 0 4,rg 0 5,rg 0 6,[],[7],rg 0 9,rg 0 10]
def YH:Prop:=
  ((decide (qF<(J.cB.length:Int)))=false→(0≤(nth J.bm fX).be∧(nth J.bm fX).be.toNat<a0.bb.length)∧(((!(meets [(nth a0.bb (nth J.bm fX).be)] J.ak))=true→false=aa)∧((!(meets [(nth a0.bb (nth J.bm fX).be)] J.ak))=false→ad (IntKind.i64.wrap (fX+1))∧m0 (IntKind.i64.wrap (fX+1))<m0 fX)))∧((decide (qF<(J.cB.length:Int)))=true→((0≤qF∧qF.toNat<J.cB.length)∧(((nth J.bm fX).be==(nth J.cB qF).be)=true→false=aa))∧((!((nth J.bm fX).be==(nth J.cB qF).be))=true→aU fX (IntKind.i64.wrap (qF+1))∧m1 fX (IntKind.i64.wrap (qF+1))<m1 fX qF))
def YI:Prop:=
  ((J.ak.length≤4611686018427387904→((J.ak.length:Int)==0)=false→(Dk J.ak a0.ak)∧((!(ih J.ak a0.ak))=false→(Dk J.over a0.ak)∧((!(ih J.over a0.ak))=false→Dk J.ei a0.ak)))∧(J.ak.length≤4611686018427387904→(Oc a0 J)=true→false=aa))∧((J.ak.length≤4611686018427387904)∧((!(Oc a0 J))=true)→J.bm.length≤4611686018427387904→ad 0∧ ∀(fX:Int),ad fX→(((decide (fX<(J.bm.length:Int)))=false→(!(meets J.over J.ak))=aa)∧((decide (fX<(J.bm.length:Int)))=true→(0≤fX∧fX.toNat<J.bm.length)∧(J.cB.length≤4611686018427387904→aU fX 0∧ ∀(qF:Int),aU fX qF→(YH ad m0 aU m1 a0 J aa qF fX)))))
def YG (a0:aC) (J:Way) (aa:Bool) (ad:Int→Prop) (m0:Int→Nat) (aU:Int→Int→Prop) (m1:Int→Int→Nat):Prop:=
 YI ad m0 aU m1 a0 J aa
theorem amc (ae:Mz a0 J):bc Tryz.prog 94 [.agg (bA false a0),.agg (da false J)] (an (h_ a0 J)):=(fun(ad:Int→Prop) (m0:Int→Nat) (aU:Int→Int→Prop) (m1:Int→Int→Nat) (h:YG a0 J (h_ a0 J) ad m0 aU m1)=>bc.run (ps:=[.dl,.fB]) (rs:=[.bool]) (x:=(a0,J,())) (r:=((h_ a0 J),())) ⟨89,dj,[al9,al5,Oa]⟩ ⟨[],[(12,ame,amf)],[],[],[]⟩ (fb [2,3,52,53] [(3,5),(2,5)] 54 ad m0 fun aD=>(fb [2,3,6,52,53,54,59,60] [(6,2),(3,5),(2,5)] 61 (aU aD) (m1 aD) fun _=> .nil)) Tryz.func94 h) (bW J.bm.length (fun j=>J.cB.any (fun y=>(nth J.bm j).be==y.be) || !(J.ak.contains (nth a0.bb (nth J.bm j).be)))) (cg J.bm.length) (fun v=>bW J.cB.length (fun k=>(nth J.bm v).be==(nth J.cB k).be)) (fun v=>cg J.cB.length) (by
 unfold YG YI YH Oc
 refine⟨⟨fun _ _=>⟨ae,fun _=>⟨ae,fun _=>ae⟩⟩,fun ag h=> ?_⟩,fun⟨ag,h⟩ aw=> ?_⟩
 ·symm
  rw[←Bool.not_eq_true,qH]
  rintro⟨h1,h2,au,a8,bQ,cv,-⟩
  have aB:J.ak.length≠0:=fun e=>h1 (List.eq_nil_of_length_eq_zero e)
  simp only[h2,au,a8,bQ,cv,Bool.not_true,Bool.or_false] at h
  simp at h
  exact h1 h
 ·simp only[Bool.not_eq_true',Bool.or_eq_false_iff,Bool.not_eq_false'] at h
  obtain⟨h1,h2,au,a8,bQ,cv⟩:=h
  have h1:J.ak≠[]:=fun e=>by rw[e] at h1;simp at h1
  have Sw:=oO.1 bQ
  have ae_:=oO.1 cv
  refine⟨cT (cN _),fun v aJ=>⟨fun hv=> ?_,fun hv=>⟨bX aJ hv,fun hf=>⟨cT (cN _),fun k hK=>⟨fun hk=> ?_,fun hk=>⟨⟨bX hK hk,fun he=> ?_⟩,fun he=>cw (b5 hf) hK hk (not_eq he)⟩⟩⟩⟩⟩⟩
  ·have dS:=gT aJ hv
   have aV:((bE J).map (·.be)).Nodup:=by
    rw[Mf]
    refine⟨Sw.2.2,ae_.2.2,fun x hx y bi he=> ?_⟩
    have:=ny (q:=fun x=>J.cB.any (fun y=>x.be==y.be) || !(J.ak.contains (nth a0.bb x.be))) dS x hx
    simp only[Bool.or_eq_false_iff] at this
    have:=this.1
    rw[List.any_eq_false] at this
    exact this y bi (by simpa using he)
   have hc: ∀x∈J.bm,J.ak.contains (nth a0.bb x.be)=true:=fun x hx=>by
    have:=ny (q:=fun x=>J.cB.any (fun y=>x.be==y.be) || !(J.ak.contains (nth a0.bb x.be))) dS x hx
    simp only[Bool.or_eq_false_iff] at this
    simpa using this.2
   rw[ajo,Bool.eq_iff_iff,qH]
   constructor
   ·intro hm;exact⟨h1,h2,au,a8,bQ,cv,aV,hc,by simpa using hm⟩
   ·rintro⟨-,-,-,-,-,-,-,-,hm⟩;rw[hm];rfl
  ·have b3:=Sw.2.1 _ (dz (bX aJ hv).2)
   rw[Bool.and_eq_true,lr] at b3
   refine⟨⟨b3.1.1,by omega⟩,fun hm=> ?_,fun hm=> ?_⟩
   ·symm
    rw[←Bool.not_eq_true,qH]
    rintro⟨-,-,-,-,-,-,-,hc,-⟩
    rw[Gy,hc _ (dz (bX aJ hv).2)] at hm
    cases hm
   ·refine cw (b5 aw) aJ hv ?_
    rw[Gy] at hm
    rw[hm,Bool.or_false]
    have:=ny (q:=fun y:cU=>(nth J.bm v).be==y.be) (gT hK hk)
    rw[List.any_eq_false]
    intro y bi
    rw[this y bi];simp
  ·symm
   rw[←Bool.not_eq_true,qH]
   rintro⟨-,-,-,-,-,-,aV,-,-⟩
   exact(Mf.1 aV).2.2 _ (dz (bX aJ hv).2) _ (dz (bX hK hk).2) (by simpa using he))
def amd:cZ Tryz.prog:=⟨94,[.dl,.fB],[.bool],some fun x=>Mz x.1 x.2.1,fun x=>((h_ x.1 x.2.1),()),fun x h=>amc x.1 x.2.1 h⟩
end
section
abbrev Bk (r:Type):Type:=Int→Nat→(List Int)→Int→r
variable (ad:Int→Prop) (m0:Int→Nat) (aU:Bk Prop) (m1:Bk Nat) (bH:Int→Int→Prop) (m2:Int→Int→Nat) (a0:aC) (J:Way) (aa:Bool) (v49 gh:Int) (g0:Nat) (aM:(List Int)) (hr:Int)
abbrev Gh:=(decide ((nth (bE J) hr).be<0)) || ((decide ((nth (bE J) hr).be ≥ (a0.bb.length:Int))) || (((nth (bE J) hr).bj !=1)&&((nth (bE J) hr).bj !=2)))
abbrev xx:=[J.ak,J.over,J.ei]
abbrev su:=nth (xx J) gh
abbrev Gi:=(decide (hr<(J.bm.length:Int)))&&(!(gA J.ak (nth a0.bb (nth (bE J) hr).be)))
abbrev LJ:=((J.ak.length:Int)==0) || ((decide ((J.bm.length:Int)>30)) || (decide ((J.cB.length:Int)>30)))
abbrev LK:=(decide ((nth (su J gh) v49)<0)) || (decide ((nth (su J gh) v49) ≥ a0.ak))
abbrev LL:=(decide (((su J gh).length:Int)>30)) || (dup (su J gh))
def ahu:List Item:=(List.range 17).map bV
def ahv:List (List Nat):=[[],[],[1],[1,2],rg 0 4,rg 0 5,rg 0 6,rg 0 7,rg 0 6,rg 0 6++[8],rg 0 6,rg 0 6++[10],rg 0 6++rg 8 12,rg 0 6++rg 8 13,rg 0 14,rg 0 15,rg 0 16]
def Ut:Prop:=
  (((decide (hr<(J.bm.length:Int)))=true→0≤(nth (bE J) hr).be∧(nth (bE J) hr).be.toNat<a0.bb.length)∧((Gi a0 J hr)=true→false=aa))∧((!(Gi a0 J hr))=true→(aM.length+[(nth (bE J) hr).be].length)*8≤140737488355328∧aM.length+[(nth (bE J) hr).be].length≤4611686018427387904)
def Uu:Prop:=
  ((Gh a0 J hr)=true→false=aa)∧((!(Gh a0 J hr))=true→Ut a0 J aa aM hr)
def Uv:Prop:=
  ((0≤hr∧hr.toNat<(bE J).length)∧(Uu a0 J aa aM hr))∧(((!(Gh a0 J hr))&&(!(Gi a0 J hr)))=true→aU gh (g0+1) (aM++[(nth (bE J) hr).be]) (IntKind.i64.wrap (hr+1))∧m1 gh (g0+1) (aM++[(nth (bE J) hr).be]) (IntKind.i64.wrap (hr+1))<m1 gh g0 aM hr)
def Uw:Prop:=
  (At J)∧((bE J).length≤4611686018427387904→aU gh 0 ([]:List Int) 0∧ ∀(g0:Nat) (aM:(List Int)) (hr:Int),aU gh g0 aM hr→(((decide (hr<((bE J).length:Int)))=false→(aM.length≤4611686018427387904)∧(((!(dup aM))&&(!(meets J.ak J.over)))=aa))∧((decide (hr<((bE J).length:Int)))=true→Uv aU m1 a0 J aa gh g0 aM hr)))
def Ux:Prop:=
  ((0≤v49∧v49.toNat<(su J gh).length)∧((LK a0 J v49 gh)=true→false=aa))∧((!(LK a0 J v49 gh))=true→bH gh (IntKind.i64.wrap (v49+1))∧m2 gh (IntKind.i64.wrap (v49+1))<m2 gh v49)
def Uy:Prop:=
  ((su J gh).length≤4611686018427387904→(LL J gh)=true→false=aa)∧(((su J gh).length≤4611686018427387904)∧((!(LL J gh))=true)→bH gh 0∧ ∀(v49:Int),bH gh v49→(((decide (v49<((su J gh).length:Int)))=false→ad (IntKind.i64.wrap (gh+1))∧m0 (IntKind.i64.wrap (gh+1))<m0 gh)∧((decide (v49<((su J gh).length:Int)))=true→Ux bH m2 a0 J aa v49 gh)))
def Uz:Prop:=
  (J.ak.length≤4611686018427387904→(LJ J)=true→false=aa)∧((J.ak.length≤4611686018427387904)∧((!(LJ J))=true)→(xx J).length≤4611686018427387904→ad 0∧ ∀(gh:Int),ad gh→(((decide (gh<((xx J).length:Int)))=false→Uw aU m1 a0 J aa gh)∧((decide (gh<((xx J).length:Int)))=true→(0≤gh∧gh.toNat<(xx J).length)∧(Uy ad m0 bH m2 a0 J aa gh))))
def Us (a0:aC) (J:Way) (aa:Bool) (ad:Int→Prop) (m0:Int→Nat) (aU:Bk Prop) (m1:Bk Nat) (bH:Int→Int→Prop) (m2:Int→Int→Nat):Prop:=
 Uz ad m0 aU m1 bH m2 a0 J aa
theorem ahs:bc Tryz.prog 101 [.agg (bA false a0),.agg (da false J)] (an (h_ a0 J)):=(fun(ad:Int→Prop) (m0:Int→Nat) (aU:Bk Prop) (m1:Bk Nat) (bH:Int→Int→Prop) (m2:Int→Int→Nat) (h:Us a0 J (h_ a0 J) ad m0 aU m1 bH m2)=>bc.run (ps:=[.dl,.fB]) (rs:=[.bool]) (x:=(a0,J,())) (r:=((h_ a0 J),())) ⟨126,dj,[Lp,ahp,Ln,Hm]⟩ ⟨[48],[(21,ahu,ahv)],[],[],[]⟩ (fb [2,3,34,35] [(3,5),(2,5)] 36 ad m0 fun aD=>(.wJ (.lp [(0,9,.int)] [2,3,64,65] [(3,5),(2,5)] [.nat,(.l .int),.int] [bw 0,bw 0,66] (fun bp=>[(9,.ref 0 bp.1 bp.2.1.length false),(66,.i .i64 bp.2.2.1),(bw 0,.blk bp.1 .int bp.2.1 _ rfl)]) (fun bp=>aU aD bp.1 bp.2.1 bp.2.2.1) (fun bp=>m1 aD bp.1 bp.2.1 bp.2.2.1) fun _=> .nil) (fb [2,3,34,35,36,47,48] [(3,5),(2,5)] 49 (bH aD) (m2 aD) fun _=> .nil))) Tryz.func101 h) (bW ([J.ak,J.over,J.ei].length:Int) (fun k=> !ih (nth [J.ak,J.over,J.ei] k) a0.ak)) (cg ([J.ak,J.over,J.ei].length:Int)) (fun _ _ x v=>bW (bE J).length (rl a0 J) v∧x=((bE J).take v.toNat).map (·.be)) (fun _ _ _ v=>cg (bE J).length v) (fun i=>bW (nth [J.ak,J.over,J.ei] i).length (fun j=> !bN (nth (nth [J.ak,J.over,J.ei] i) j) 0 (a0.ak - 1))) (fun i=>cg (nth [J.ak,J.over,J.ei] i).length) (by
 unfold Us Uz LJ xx
 have hlen:J.bm.length≤30→J.cB.length≤30→(bE J).length≤60:=by unfold bE;rw[List.length_append];omega
 refine⟨fun ag h=> ?_,fun⟨ag,h⟩ bC=> ?_⟩
 ·symm
  rw[←Bool.not_eq_true,qH]
  rintro⟨h1,-,-,-,bQ,cv,-⟩
  have:=(oO.1 bQ).1
  have:=(oO.1 cv).1
  simp at h
  rcases h with h | h | h
  ·exact h1 h
  ·omega
  ·omega
 ·simp at h
  obtain⟨h1,h2,au⟩:=h
  have h2:J.bm.length≤30:=by omega
  have au:J.cB.length≤30:=by omega
  have aoa:=hlen h2 au
  refine⟨cT (cN _),fun i aJ=>⟨fun hi=> ?_,fun hi=>⟨bX aJ hi,?_⟩⟩⟩
  ·have dS: ∀l∈[J.ak,J.over,J.ei],ih l a0.ak=true:=fun l aw=>by
    have:=ny (q:=fun l=> !ih l a0.ak) (gT aJ hi) l aw
    simpa using this
   unfold Uw
   refine⟨⟨by omega,by omega⟩,fun jh=>⟨⟨cT (cN _),rfl⟩,fun g x v ⟨cP,hx⟩=>⟨fun hv=> ?_,fun hv=> ?_⟩⟩⟩
   ·have jW: ¬v<((bE J).length:Int):=by simpa using hv
    rw[List.take_of_length_le (by have:=cP.1;omega)] at hx
    subst hx
    exact⟨by rw[List.length_map];omega,ad8 h1 dS h2 au (gT cP hv)⟩
   ·have b3:=bX cP hv
    have rc:x.length≤60:=by rw[hx,List.length_map,List.length_take];omega
    have bad:rl a0 J v=true→false=h_ a0 J:=fun hb=>by
     symm
     rw[←Bool.not_eq_true]
     intro ax
     rw[ad_ ax b3.1 b3.2] at hb
     cases hb
    unfold Uv Uu Ut Gi Gh
    rw[ai1]
    refine⟨⟨b3,fun hb=>bad (by unfold rl;rw[hb];rfl),fun hb=>⟨⟨fun aw=> ?_,fun hc=>bad (by unfold rl;rw[hc,Bool.or_true])⟩,fun _=> ?_⟩⟩,fun hb=> ?_⟩
    ·have hb:qh a0 (nth (bE J) v)=false:=not_eq hb
     rw[C3] at hb
     simp only[Bool.not_eq_false',Bool.and_eq_true,lr] at hb
     exact⟨hb.1.1,by omega⟩
    ·simp only[List.length_cons,List.length_nil];omega
    ·have hb:rl a0 J v=false:=by
      unfold rl
      rw[Bool.and_eq_true] at hb
      rw[not_eq hb.1,not_eq hb.2];rfl
     have aS:=cw (b5 jh) cP hv hb
     have hw:IntKind.i64.wrap (v+1)=v+1:=j6 (by omega) (by omega)
     refine⟨⟨aS.1,?_⟩,aS.2⟩
     rw[hw,hx,show(v+1).toNat=v.toNat+1 by omega,List.take_succ_eq_append_getElem b3.2,List.map_append,←fU b3.2]
     rfl
  ·have Cn:=bX aJ hi
   have P9:ih (nth [J.ak,J.over,J.ei] i) a0.ak=false→false=h_ a0 J:=fun hb=>by
    symm
    rw[←Bool.not_eq_true]
    intro ax
    rw[ad9 ax _ (dz Cn.2)] at hb
    cases hb
   unfold Uy Ux LL LK su xx
   refine⟨fun ag h=>P9 ?_,fun⟨ag,h⟩=>⟨cT (cN _),fun v kx=>⟨fun hv=> ?_,fun hv=> ?_⟩⟩⟩
   ·rw[←Bool.not_eq_true,xG]
    rintro⟨q1,-,q3⟩
    simp only[Bool.or_eq_true,decide_eq_true_eq] at h
    rcases h with h | h
    ·omega
    ·unfold dup at h;simp[q3] at h
   ·refine cw (by simp) aJ hi ?_
    simp only[Bool.not_eq_true',Bool.or_eq_false_iff,decide_eq_false_iff_not] at h
    have aV:(nth [J.ak,J.over,J.ei] i).Nodup:=by have:=h.2;unfold dup at this;simpa using this
    have:ih (nth [J.ak,J.over,J.ei] i) a0.ak=true:=by
     rw[xG]
     refine⟨by omega,fun x hx=> ?_,aV⟩
     have:=ny (q:=fun x=> !bN x 0 (a0.ak - 1)) (gT kx hv) x hx
     simpa using this
    rw[this];rfl
   ·rw[MY]
    exact⟨⟨bX kx hv,fun h=>P9 (VO (bX kx hv).2 h)⟩,fun h=>cw (b5 ag) kx hv (not_eq h)⟩)
def aht:cZ Tryz.prog:=⟨101,[.dl,.fB],[.bool],none,fun x=>((h_ x.1 x.2.1),()),fun x h=>ahs x.1 x.2.1⟩
end
section
abbrev jJ (r:Type):Type:=Int→Int→Int→r
abbrev qy (r:Type):Type:=Int→Int→Int→Int→r
abbrev qz (r:Type):Type:=Int→Int→Int→Int→Int→r
variable (ad:Int→Prop) (m0:Int→Nat) (aU:Int→Int→Prop) (m1:Int→Int→Nat) (bH:jJ Prop) (m2:jJ Nat) (cX:qy Prop) (m3:qy Nat) (fw:qz Prop) (m4:qz Nat) (a0:aC) (aa:qJ) (ey hq v87 h9 gx:Int)
abbrev nd:=(a0.O.length:Int)
abbrev KK:=(decide (a0.ak<1)) || ((decide (a0.ak>60)) || ((decide (a0.ct<1)) || ((decide (a0.ct>300)) || ((decide ((a0.bb.length:Int)>40)) || (decide ((nd a0)>100))))))
abbrev KL:=((nth (nth a0.bF gx) h9) !=(nth (nth a0.bF h9) gx)) || ((gx !=h9)&&((!(nth (nth a0.bF gx) h9))&&(meets (nth a0.O gx).ak (nth a0.O h9).ak)))
abbrev KM:=(decide ((nth a0.bb ey)<0)) || (decide ((nth a0.bb ey) ≥ a0.ak))
def agn:List Item:=(List.range 48).map bV
def ago:List (List Nat):=[[],[0],[],[0,1,2],rg 0 4,[],rg 0 6,rg 0 7,[],[8],[],[8,9,10],rg 8 12,[],rg 8 14,rg 8 15,rg 0 16,rg 0 17,rg 0 18,rg 0 18,rg 0 20,rg 0 21,rg 0 22,rg 0 23,rg 0 22,rg 0 25,rg 0 26,rg 0 22,rg 0 28,rg 0 29,rg 0 30,rg 0 31,rg 0 32,rg 0 33,rg 0 34,rg 0 33,rg 0 36,rg 0 37,rg 0 38,rg 0 33,rg 0 33++[39],rg 0 33,rg 0 33++[39,40,41],rg 0 33++rg 39 43,rg 0 33++rg 39 44,rg 0 45,rg 0 46,rg 0 47]
def Te:Prop:=
  ((0≤gx∧gx.toNat<a0.bF.length)∧((0≤h9∧h9.toNat<(nth a0.bF gx).length)∧((0≤h9∧h9.toNat<a0.bF.length)∧((0≤gx∧gx.toNat<(nth a0.bF h9).length)∧(((nth (nth a0.bF gx) h9) !=(nth (nth a0.bF h9) gx))=false→(gx !=h9)=true→(0≤gx∧gx.toNat<a0.bF.length)∧((0≤h9∧h9.toNat<(nth a0.bF gx).length)∧((!(nth (nth a0.bF gx) h9))=true→(0≤gx∧gx.toNat<a0.O.length)∧(0≤h9∧h9.toNat<a0.O.length))))))))∧((KL a0 h9 gx)=true→(5=aa.code)∧(gx=aa.pos))
def Tf:Prop:=
  ((decide (h9<(nd a0)))=false→cX ey hq v87 (IntKind.i64.wrap (gx+1))∧m3 ey hq v87 (IntKind.i64.wrap (gx+1))<m3 ey hq v87 gx)∧((decide (h9<(nd a0)))=true→(Te a0 aa h9 gx)∧((!(KL a0 h9 gx))=true→fw ey hq v87 gx (IntKind.i64.wrap (h9+1))∧m4 ey hq v87 gx (IntKind.i64.wrap (h9+1))<m4 ey hq v87 gx h9))
def Tg:Prop:=
  ((0≤v87∧v87.toNat<a0.bF.length)∧((nth a0.bF v87).length≤4611686018427387904→(((nth a0.bF v87).length:Int) !=(nd a0))=true→(4=aa.code)∧(v87=aa.pos)))∧(((nth a0.bF v87).length≤4611686018427387904)∧((!(((nth a0.bF v87).length:Int) !=(nd a0)))=true)→bH ey hq (IntKind.i64.wrap (v87+1))∧m2 ey hq (IntKind.i64.wrap (v87+1))<m2 ey hq v87)
def Th:Prop:=
  ((decide (v87<(a0.bF.length:Int)))=false→cX ey hq v87 0∧ ∀(gx:Int),cX ey hq v87 gx→(((decide (gx<(nd a0)))=false→(0=aa.code)∧(0=aa.pos))∧((decide (gx<(nd a0)))=true→fw ey hq v87 gx 0∧ ∀(h9:Int),fw ey hq v87 gx h9→(Tf cX m3 fw m4 a0 aa ey hq v87 h9 gx))))∧((decide (v87<(a0.bF.length:Int)))=true→Tg bH m2 a0 aa ey hq v87)
def Ti:Prop:=
  ((decide (hq<(nd a0)))=false→(a0.bF.length≤4611686018427387904→((a0.bF.length:Int) !=(nd a0))=true→(4=aa.code)∧(0=aa.pos))∧((a0.bF.length≤4611686018427387904)∧((!((a0.bF.length:Int) !=(nd a0)))=true)→bH ey hq 0∧ ∀(v87:Int),bH ey hq v87→(Th bH m2 cX m3 fw m4 a0 aa ey hq v87)))∧((decide (hq<(nd a0)))=true→((0≤hq∧hq.toNat<a0.O.length)∧((!(h_ a0 (nth a0.O hq)))=true→(3=aa.code)∧(hq=aa.pos)))∧((!(!(h_ a0 (nth a0.O hq))))=true→aU ey (IntKind.i64.wrap (hq+1))∧m1 ey (IntKind.i64.wrap (hq+1))<m1 ey hq))
def Tj:Prop:=
  ((decide (ey<(a0.bb.length:Int)))=false→a0.O.length≤4611686018427387904→aU ey 0∧ ∀(hq:Int),aU ey hq→(Ti aU m1 bH m2 cX m3 fw m4 a0 aa ey hq))∧((decide (ey<(a0.bb.length:Int)))=true→((0≤ey∧ey.toNat<a0.bb.length)∧((KM a0 ey)=true→(2=aa.code)∧(ey=aa.pos)))∧((!(KM a0 ey))=true→ad (IntKind.i64.wrap (ey+1))∧m0 (IntKind.i64.wrap (ey+1))<m0 ey))
def Tk:Prop:=
  ((KK a0)=true→(1=aa.code)∧(0=aa.pos))∧((!(KK a0))=true→a0.bb.length≤4611686018427387904→ad 0∧ ∀(ey:Int),ad ey→(Tj ad m0 aU m1 bH m2 cX m3 fw m4 a0 aa ey))
def Td (a0:aC) (aa:qJ) (ad:Int→Prop) (m0:Int→Nat) (aU:Int→Int→Prop) (m1:Int→Int→Nat) (bH:jJ Prop) (m2:jJ Nat) (cX:qy Prop) (m3:qy Nat) (fw:qz Prop) (m4:qz Nat):Prop:=
 Tk ad m0 aU m1 bH m2 cX m3 fw m4 a0 aa
theorem agl:bc Tryz.prog 65 [.agg (bA false a0)] (.agg (IX (hZ a0))):=(fun(ad:Int→Prop) (m0:Int→Nat) (aU:Int→Int→Prop) (m1:Int→Int→Nat) (bH:jJ Prop) (m2:jJ Nat) (cX:qy Prop) (m3:qy Nat) (fw:qz Prop) (m4:qz Nat) (h:Td a0 (hZ a0) ad m0 aU m1 bH m2 cX m3 fw m4)=>bc.run (ps:=[.dl]) (rs:=[.fault]) (x:=(a0,())) (r:=((hZ a0),())) ⟨166,dj,[Ln,aht]⟩ ⟨[81,86,96,103,109],[(29,agn,ago)],[],[],[]⟩ (fb [1,2,43,44] [(2,2),(1,5)] 45 ad m0 fun aD=>(fb [1,2,62,63] [(2,2),(1,5)] 64 (aU aD) (m1 aD) fun bp=>(fb [1,2,85,86] [(2,2),(1,5)] 87 (bH aD bp) (m2 aD bp) fun bn=>(fb [1,2,103] [(2,2),(1,5)] 104 (cX aD bp bn) (m3 aD bp bn) fun en=>(fb [1,2,9,103,104,109] [(2,2),(1,5)] 110 (fw aD bp bn en) (m4 aD bp bn en) fun _=> .nil))))) Tryz.func65 h) (bW a0.bb.length (fun j=> !bN (nth a0.bb j) 0 (a0.ak - 1))) (cg a0.bb.length) (fun _=>bW a0.O.length (fun j=> !h_ a0 (nth a0.O j))) (fun _=>cg a0.O.length) (fun _ _=>bW a0.bF.length (fun j=>decide ((nth a0.bF j).length≠a0.O.length))) (fun _ _=>cg a0.bF.length) (fun _ _ _=>bW a0.O.length (fun i=>(List.range a0.O.length).any fun k=>qM a0 i.toNat k)) (fun _ _ _=>cg a0.O.length) (fun _ _ _ i=>bW a0.O.length (fun k=>qM a0 i.toNat k.toNat)) (fun _ _ _ _=>cg a0.O.length) (by
 unfold Td Tk KK nd
 refine⟨fun h=> ?_,fun h mq=> ?_⟩
 ·have hb:k8 a0=false:=by
   rw[←Bool.not_eq_true,vD]
   intro hb
   simp[k8] at h
   omega
  rw[Mv hb];exact⟨rfl,rfl⟩
 ·have hb:k8 a0=true:=by
   rw[vD]
   simp[k8] at h
   omega
  have dD:=vD.1 hb
  refine⟨cT (cN _),fun v0 qX=> ?_⟩
  unfold Tj KM
  refine⟨fun iQ Ct=> ?_,fun gp=> ?_⟩
  case refine_2=>
   rw[MY]
   refine⟨⟨bX qX gp,fun nO=> ?_⟩,fun fD=>cw (b5 mq) qX gp (not_eq fD)⟩
   rw[WL hb (sX (q:=fun s=> !bN s 0 (a0.ak - 1)) qX gp nO)]
   have:=qX.1
   exact⟨rfl,by show v0=(v0.toNat:Int);omega⟩
  have f0:=sY (q:=fun s=> !bN s 0 (a0.ak - 1)) qX iQ
  refine⟨cT (cN _),fun v1 qY=> ?_⟩
  unfold Ti nd
  refine⟨fun aW=> ?_,fun kb=> ?_⟩
  case refine_2=>
   refine⟨⟨bX qY kb,  fun nO=> ?_⟩,fun fD=>cw (b5 Ct) qY kb (not_eq fD)⟩
   rw[WM hb f0 (sX (q:=fun w=> !h_ a0 w) qY kb nO)]
   have:=qY.1
   exact⟨rfl,by show v1=(v1.toNat:Int);omega⟩
  have f1:=sY (q:=fun w=> !h_ a0 w) qY aW
  rw[WN hb f0 f1]
  refine⟨fun hm bU=> ?_,fun⟨hm,bU⟩=> ?_⟩
  ·have bU:a0.bF.length≠a0.O.length:=by
    intro e;rw[e] at bU;simp at bU
   rw[WK bU];exact⟨rfl,rfl⟩
  have aw:a0.bF.length=a0.O.length:=by
   have:(a0.bF.length:Int)=a0.O.length:=by simpa using bU
   omega
  refine⟨cT (cN _),fun v2 kV=> ?_⟩
  unfold Th nd
  refine⟨fun e2=> ?_,fun hv2=> ?_⟩
  case refine_2=>
   have p9:(((nth a0.bF v2).length:Int) !=(a0.O.length:Int))=decide ((nth a0.bF v2).length≠a0.O.length):=by
    rw[Bool.eq_iff_iff];simp;omega
   unfold Tg nd
   rw[p9]
   refine⟨⟨bX kV hv2,fun ao nO=> ?_⟩,fun⟨ao,fD⟩=>cw (b5 hm) kV hv2 (not_eq fD)⟩
   rw[WI aw (sX (q:=fun b=>decide (b.length≠a0.O.length)) kV hv2 nO)]
   have:=kV.1
   exact⟨rfl,by show v2=(v2.toNat:Int);omega⟩
  have f2:=sY (q:=fun b:List Bool=>decide (b.length≠a0.O.length)) kV e2
  have Dy: ∀i:Int,0≤i→i<a0.O.length→(nth a0.bF i).length=a0.O.length:=fun i i0 i1=>by
   have:=gT kV e2 i i0 (by omega)
   simpa using this
  refine⟨cT (cN _),fun v3 kW=>⟨fun cF=> ?_,fun oF=> ?_⟩⟩
  ·skip
   rw[WH aw f2 (Jn fun j cq fm=>gT kW cF j cq fm)]
   exact⟨rfl,rfl⟩
  ·have zD:v3<(a0.O.length:Int):=by simpa using oF
   have nM:=kW.1
   refine⟨cT (cN _),fun v4 qZ=> ?_⟩
   unfold Tf Te KL nd
   rw[Qa kW.1 qZ.1]
   have r7:=qZ.1
   refine⟨fun iA=>cw (by omega) kW oF (V7 fun j cq fm=>gT qZ iA j cq fm),fun xc=> ?_⟩
   have CF:v4<(a0.O.length:Int):=by simpa using xc
   have eN:=Dy v3 kW.1 zD
   have rA:=Dy v4 qZ.1 CF
   refine⟨⟨⟨⟨nM,by omega⟩,⟨r7,by omega⟩,⟨r7,by omega⟩,⟨nM,by omega⟩,fun _ _=>⟨⟨nM,by omega⟩,⟨r7,by omega⟩,fun _=>⟨⟨nM,by omega⟩,⟨r7,by omega⟩⟩⟩⟩,fun nO=> ?_⟩,fun fD=>cw (by omega) qZ xc (not_eq fD)⟩
   rw[WJ aw f2 (Jo nM zD (fun j cq fm=>kW.2.2 j cq fm) (P3 r7 CF nO))]
   exact⟨rfl,by show v3=(v3.toNat:Int);omega⟩)
def agm:cZ Tryz.prog:=⟨65,[.dl],[.fault],none,fun x=>((hZ x.1),()),fun x h=>agl x.1⟩
end
section
variable (ad:Int→Prop) (m0:Int→Nat) (aU:Int→Int→Prop) (m1:Int→Int→Nat) (bH:jJ Prop) (m2:jJ Nat) (cX:qy Prop) (m3:qy Nat) (fw:qz Prop) (m4:qz Nat) (a0:aC) (aa:qJ) (fW gU ir iJ gi:Int)
abbrev N6:=((nth (nth a0.bF gi) iJ) !=(nth (nth a0.bF iJ) gi)) || ((gi !=iJ)&&((!(nth (nth a0.bF gi) iJ))&&(meets (nth a0.O gi).ak (nth a0.O iJ).ak)))
abbrev N7:=(!(bN a0.ak 1 60)) || ((decide ((a0.bb.length:Int)>40)) || ((decide ((a0.O.length:Int)>100)) || (!(bN a0.ct 1 300))))
def al0:List Item:=(List.range 34).map bV
def al1:List (List Nat):=[[],[],[1],[],[1,2,3],rg 1 5,[],rg 1 7,rg 1 8,rg 0 9,rg 0 10,rg 0 11,rg 0 11,rg 0 13,rg 0 14,rg 0 15,rg 0 16,rg 0 17,rg 0 18,rg 0 19,rg 0 20,rg 0 19,rg 0 22,rg 0 23,rg 0 24,rg 0 19,rg 0 19++[25],rg 0 19,rg 0 19++[25,26,27],rg 0 19++rg 25 29,rg 0 19++rg 25 30,rg 0 31,rg 0 32,rg 0 33]
def Ym:Prop:=
  ((0≤iJ∧iJ.toNat<a0.bF.length)∧((0≤gi∧gi.toNat<(nth a0.bF iJ).length)∧(((nth (nth a0.bF gi) iJ) !=(nth (nth a0.bF iJ) gi))=false→(gi !=iJ)=true→(!(nth (nth a0.bF gi) iJ))=true→(0≤gi∧gi.toNat<a0.O.length)∧(0≤iJ∧iJ.toNat<a0.O.length))))∧((N6 a0 iJ gi)=true→(5=aa.code)∧(gi=aa.pos))
def Yn:Prop:=
  ((0≤iJ∧iJ.toNat<(nth a0.bF gi).length)∧(Ym a0 aa iJ gi))∧((!(N6 a0 iJ gi))=true→fw fW gU ir gi (IntKind.i64.wrap (iJ+1))∧m4 fW gU ir gi (IntKind.i64.wrap (iJ+1))<m4 fW gU ir gi iJ)
def Yo:Prop:=
  (nth a0.bF gi).length≤4611686018427387904→fw fW gU ir gi 0∧ ∀(iJ:Int),fw fW gU ir gi iJ→(((decide (iJ<((nth a0.bF gi).length:Int)))=false→cX fW gU ir (IntKind.i64.wrap (gi+1))∧m3 fW gU ir (IntKind.i64.wrap (gi+1))<m3 fW gU ir gi)∧((decide (iJ<((nth a0.bF gi).length:Int)))=true→Yn fw m4 a0 aa fW gU ir iJ gi))
def Yp:Prop:=
  ((0≤ir∧ir.toNat<a0.bF.length)∧((nth a0.bF ir).length≤4611686018427387904→(((nth a0.bF ir).length:Int) !=(a0.O.length:Int))=true→(4=aa.code)∧(ir=aa.pos)))∧(((nth a0.bF ir).length≤4611686018427387904)∧((!(((nth a0.bF ir).length:Int) !=(a0.O.length:Int)))=true)→bH fW gU (IntKind.i64.wrap (ir+1))∧m2 fW gU (IntKind.i64.wrap (ir+1))<m2 fW gU ir)
def Yq:Prop:=
  ((decide (ir<(a0.bF.length:Int)))=false→cX fW gU ir 0∧ ∀(gi:Int),cX fW gU ir gi→(((decide (gi<(a0.bF.length:Int)))=false→(0=aa.code)∧(0=aa.pos))∧((decide (gi<(a0.bF.length:Int)))=true→(0≤gi∧gi.toNat<a0.bF.length)∧(Yo cX m3 fw m4 a0 aa fW gU ir gi))))∧((decide (ir<(a0.bF.length:Int)))=true→Yp bH m2 a0 aa fW gU ir)
def Yr:Prop:=
  ((decide (gU<(a0.O.length:Int)))=false→(a0.bF.length≤4611686018427387904→((a0.bF.length:Int) !=(a0.O.length:Int))=true→(4=aa.code)∧(0=aa.pos))∧((a0.bF.length≤4611686018427387904)∧((!((a0.bF.length:Int) !=(a0.O.length:Int)))=true)→bH fW gU 0∧ ∀(ir:Int),bH fW gU ir→(Yq bH m2 cX m3 fw m4 a0 aa fW gU ir)))∧((decide (gU<(a0.O.length:Int)))=true→((0≤gU∧gU.toNat<a0.O.length)∧((Mz a0 (nth a0.O gU))∧((!(h_ a0 (nth a0.O gU)))=true→(3=aa.code)∧(gU=aa.pos))))∧((!(!(h_ a0 (nth a0.O gU))))=true→aU fW (IntKind.i64.wrap (gU+1))∧m1 fW (IntKind.i64.wrap (gU+1))<m1 fW gU))
def Ys:Prop:=
  ((decide (fW<(a0.bb.length:Int)))=false→a0.O.length≤4611686018427387904→aU fW 0∧ ∀(gU:Int),aU fW gU→(Yr aU m1 bH m2 cX m3 fw m4 a0 aa fW gU))∧((decide (fW<(a0.bb.length:Int)))=true→((0≤fW∧fW.toNat<a0.bb.length)∧((!(bN (nth a0.bb fW) 0 (IntKind.i64.wrap (a0.ak - 1))))=true→(2=aa.code)∧(fW=aa.pos)))∧((!(!(bN (nth a0.bb fW) 0 (IntKind.i64.wrap (a0.ak - 1)))))=true→ad (IntKind.i64.wrap (fW+1))∧m0 (IntKind.i64.wrap (fW+1))<m0 fW))
def Yt:Prop:=
  ((N7 a0)=true→(1=aa.code)∧(0=aa.pos))∧((!(N7 a0))=true→a0.bb.length≤4611686018427387904→ad 0∧ ∀(fW:Int),ad fW→(Ys ad m0 aU m1 bH m2 cX m3 fw m4 a0 aa fW))
def Yl (a0:aC) (aa:qJ) (ad:Int→Prop) (m0:Int→Nat) (aU:Int→Int→Prop) (m1:Int→Int→Nat) (bH:jJ Prop) (m2:jJ Nat) (cX:qy Prop) (m3:qy Nat) (fw:qz Prop) (m4:qz Nat):Prop:=
 Yt ad m0 aU m1 bH m2 cX m3 fw m4 a0 aa
theorem alY:bc Tryz.prog 56 [.agg (bA false a0)] (.agg (IX (hZ a0))):=(fun(ad:Int→Prop) (m0:Int→Nat) (aU:Int→Int→Prop) (m1:Int→Int→Nat) (bH:jJ Prop) (m2:jJ Nat) (cX:qy Prop) (m3:qy Nat) (fw:qz Prop) (m4:qz Nat) (h:Yl a0 (hZ a0) ad m0 aU m1 bH m2 cX m3 fw m4)=>bc.run (ps:=[.dl]) (rs:=[.fault]) (x:=(a0,())) (r:=((hZ a0),())) ⟨147,dj,[DU,Oa,amd]⟩ ⟨[73,78,88,95],[(29,al0,al1)],[],[],[]⟩ (fb [1,2,37,38] [(2,2),(1,5)] 39 ad m0 fun aD=>(fb [1,2,54,55] [(2,2),(1,5)] 56 (aU aD) (m1 aD) fun bp=>(fb [1,2,77,78] [(2,2),(1,5)] 79 (bH aD bp) (m2 aD bp) fun bn=>(fb [1,2,94,95] [(2,2),(1,5)] 96 (cX aD bp bn) (m3 aD bp bn) fun en=>(fb [1,2,9,94,95,96,101,102] [(2,2),(1,5)] 103 (fw aD bp bn en) (m4 aD bp bn en) fun _=> .nil))))) Tryz.func56 h) (bW a0.bb.length (fun j=> !bN (nth a0.bb j) 0 (a0.ak - 1))) (cg a0.bb.length) (fun _=>bW a0.O.length (fun j=> !h_ a0 (nth a0.O j))) (fun _=>cg a0.O.length) (fun _ _=>bW a0.bF.length (fun j=>decide ((nth a0.bF j).length≠a0.O.length))) (fun _ _=>cg a0.bF.length) (fun _ _ _=>bW a0.O.length (fun i=>(List.range a0.O.length).any fun k=>qM a0 i.toNat k)) (fun _ _ _=>cg a0.O.length) (fun _ _ _ i=>bW a0.O.length (fun k=>qM a0 i.toNat k.toNat)) (fun _ _ _ _=>cg a0.O.length) (by
 unfold Yl Yt N7
 refine⟨fun h=> ?_,fun h mq=> ?_⟩
 ·have hb:k8 a0=false:=by
   rw[←Bool.not_eq_true,vD]
   intro hb
   simp[bN] at h
   omega
  rw[Mv hb];exact⟨rfl,rfl⟩
 ·have hb:k8 a0=true:=by
   rw[vD]
   simp[bN] at h
   omega
  have dD:=vD.1 hb
  refine⟨cT (cN _),fun v0 qX=> ?_⟩
  unfold Ys
  refine⟨fun iQ Ct=> ?_,fun gp=> ?_⟩
  case refine_2=>
   rw[j6 (n:=a0.ak - 1) (by omega) (by omega)]
   refine⟨⟨bX qX gp,fun nO=> ?_⟩,fun fD=>cw (b5 mq) qX gp (not_eq fD)⟩
   rw[WL hb (sX (q:=fun s=> !bN s 0 (a0.ak - 1)) qX gp nO)]
   have:=qX.1
   exact⟨rfl,by show v0=(v0.toNat:Int);omega⟩
  have f0:=sY (q:=fun s=> !bN s 0 (a0.ak - 1)) qX iQ
  refine⟨cT (cN _),fun v1 qY=> ?_⟩
  unfold Yr
  refine⟨fun aW=> ?_,fun kb=> ?_⟩
  case refine_2=>
   refine⟨⟨bX qY kb,⟨by omega,by omega⟩,fun nO=> ?_⟩,fun fD=>cw (b5 Ct) qY kb (not_eq fD)⟩
   rw[WM hb f0 (sX (q:=fun w=> !h_ a0 w) qY kb nO)]
   have:=qY.1
   exact⟨rfl,by show v1=(v1.toNat:Int);omega⟩
  have f1:=sY (q:=fun w=> !h_ a0 w) qY aW
  rw[WN hb f0 f1]
  refine⟨fun hm bU=> ?_,fun⟨hm,bU⟩=> ?_⟩
  ·have bU:a0.bF.length≠a0.O.length:=by
    intro e;rw[e] at bU;simp at bU
   rw[WK bU];exact⟨rfl,rfl⟩
  have aw:a0.bF.length=a0.O.length:=by
   have:(a0.bF.length:Int)=a0.O.length:=by simpa using bU
   omega
  refine⟨cT (cN _),fun v2 kV=> ?_⟩
  unfold Yq
  refine⟨fun e2=> ?_,fun hv2=> ?_⟩
  case refine_2=>
   have p9:(((nth a0.bF v2).length:Int) !=(a0.O.length:Int))=decide ((nth a0.bF v2).length≠a0.O.length):=by
    rw[Bool.eq_iff_iff];simp;omega
   unfold Yp
   rw[p9]
   refine⟨⟨bX kV hv2,fun ao nO=> ?_⟩,fun⟨ao,fD⟩=>cw (b5 hm) kV hv2 (not_eq fD)⟩
   rw[WI aw (sX (q:=fun b=>decide (b.length≠a0.O.length)) kV hv2 nO)]
   have:=kV.1
   exact⟨rfl,by show v2=(v2.toNat:Int);omega⟩
  have f2:=sY (q:=fun b:List Bool=>decide (b.length≠a0.O.length)) kV e2
  have Dy: ∀i:Int,0≤i→i<a0.O.length→(nth a0.bF i).length=a0.O.length:=fun i i0 i1=>by
   have:=gT kV e2 i i0 (by omega)
   simpa using this
  refine⟨cT (cN _),fun v3 kW=>⟨fun cF=> ?_,fun oF=> ?_⟩⟩
  ·have cF:decide (v3<(a0.O.length:Int))=false:=by rw[←aw];exact cF
   rw[WH aw f2 (Jn fun j cq fm=>gT kW cF j cq fm)]
   exact⟨rfl,rfl⟩
  ·have zD:v3<(a0.O.length:Int):=by rw[←aw];simpa using oF
   have nM:=kW.1
   have eN:=Dy v3 kW.1 zD
   refine⟨⟨nM,by omega⟩,?_⟩
   unfold Yo
   rw[eN]
   intro _
   refine⟨cT (cN _),fun v4 qZ=> ?_⟩
   unfold Yn Ym N6
   rw[Qa kW.1 qZ.1,eN]
   have r7:=qZ.1
   refine⟨fun iA=>cw (by omega) kW (by simpa using zD) (V7 fun j cq fm=>gT qZ iA j cq fm),fun xc=> ?_⟩
   have CF:v4<(a0.O.length:Int):=by simpa using xc
   have rA:=Dy v4 qZ.1 CF
   refine⟨⟨⟨r7,by omega⟩,⟨⟨r7,by omega⟩,⟨nM,by omega⟩,fun _ _ _=>⟨⟨nM,by omega⟩,⟨r7,by omega⟩⟩⟩,fun nO=> ?_⟩,fun fD=>cw (by omega) qZ xc (not_eq fD)⟩
   rw[WJ aw f2 (Jo nM zD (fun j cq fm=>kW.2.2 j cq fm) (P3 r7 CF nO))]
   exact⟨rfl,by show v3=(v3.toNat:Int);omega⟩)
def alZ:cZ Tryz.prog:=⟨56,[.dl],[.fault],none,fun x=>((hZ x.1),()),fun x h=>alY x.1⟩
end
section
variable (a0:aC) (aa:Bool)
def ama:Prop:=
 ((hZ a0).code==0)=aa
theorem Ob:bc Tryz.prog 21 [.agg (bA false a0)] (an (dV a0)):=(fun(h:ama a0 (dV a0))=>bc.run (ps:=[.dl]) (rs:=[.bool]) (x:=(a0,())) (r:=((dV a0),())) ⟨9,dj,[alZ]⟩ ⟨[],[],[],[],[]⟩ .nil Tryz.func21 h) (by
 exact aj0 a0)
def amb:cZ Tryz.prog:=⟨21,[.dl],[.bool],none,fun x=>((dV x.1),()),fun x h=>Ob x.1⟩
end
section
variable (a0:aC) (J:Event) (aa:Bool)
abbrev Hv:=bif (J.op==1) then(J.op==1) else(J.op==2)
abbrev Hw:=bif (J.op==3) then(J.op==3) else(J.op==4)
def YN:Prop:=
  ((J.op==5)=true→a0.bb.length≤4611686018427387904→((bN J.aA 0 (IntKind.i64.wrap ((a0.bb.length:Int) - 1)))&&(bN J.bj 0 2))=aa)∧((J.op==5)=false→((J.op==6)=true→a0.bb.length≤4611686018427387904→((bN J.aA 0 (IntKind.i64.wrap ((a0.bb.length:Int) - 1)))&&(bN J.bj 1 2))=aa)∧((J.op==6)=false→(J.op==7)=true→((J.aA==0)&&(J.bj==0))=aa))
def YO:Prop:=
  ((Hv J)=true→a0.O.length≤4611686018427387904→((bN J.aA 0 (IntKind.i64.wrap ((a0.O.length:Int) - 1)))&&(J.bj==0))=aa)∧((Hv J)=false→((Hw J)=true→((bN J.aA 0 (IntKind.i64.wrap (a0.ak - 1)))&&(J.bj==0))=aa)∧((Hw J)=false→YN a0 J aa))
def YM:Prop:=
 (YO a0 J aa)∧((!(Hv J)&&(!(Hw J)&&(!(J.op==5)&&(!(J.op==6)&&(!(J.op==7))))))=true→false=aa)
theorem amn (ae:WQ a0 J):bc Tryz.prog 58 [.agg (bA false a0),.agg (fJ J)] (an (e8 a0 J)):=(fun(h:YM a0 J (e8 a0 J))=>bc.run (ps:=[.dl,.e3]) (rs:=[.bool]) (x:=(a0,J,())) (r:=((e8 a0 J),())) ⟨74,dj,[DU]⟩ ⟨[],[],[],[],[]⟩ .nil Tryz.func58 h) (by
 have ae: -9223372036854775808<a0.ak∧a0.ak≤9223372036854775807:=ae
 unfold YM YO YN Hw Hv
 rw[Dg,Dg,rT,rT,rT,rT,rT]
 simp only[decide_eq_true_eq,decide_eq_false_iff_not]
 refine⟨⟨fun h aw=> ?_,fun h1=>⟨fun h=> ?_,fun au=>⟨fun h aw=> ?_,fun bQ=>⟨fun h aw=> ?_,fun cv h=> ?_⟩⟩⟩⟩,fun h=> ?_⟩
 ·rw[j6 (by omega) (by omega),I6 h]
 ·rw[j6 (by omega) (by omega),I7 h1 h]
 ·rw[j6 (by omega) (by omega),E7 h]
 ·rw[j6 (by omega) (by omega),E8 h]
 ·rw[Q0 h]
 ·simp only[Bool.and_eq_true,Bool.not_eq_true',decide_eq_false_iff_not] at h
  exact(Q2 h.1 h.2.1 h.2.2.1 h.2.2.2.1 h.2.2.2.2).symm)
end
section
variable (a0 aa:Event)
def aiz:Prop:=
 (a0.op=aa.op)∧(a0.aA=aa.aA)∧(a0.bj=aa.bj)
theorem aiA:bc Tryz.prog 46 [.agg (fJ a0)] (.agg (fJ (aK a0))):=(fun(h:aiz a0 (aK a0))=>bc.run (ps:=[.e3]) (rs:=[.e3]) (x:=(a0,())) (r:=((aK a0),())) ⟨14,dj,[]⟩ ⟨[],[],[],[],[]⟩ .nil Tryz.func46 h) (by
 exact⟨rfl,rfl,rfl⟩)
def aiB:cZ Tryz.prog:=⟨46,[.e3],[.e3],none,fun x=>((aK x.1),()),fun x h=>aiA x.1⟩
end
section
variable (a0:aC) (aa:Bool)
def aha:Prop:=
 ((hZ a0).code==0&&(hZ a0).pos==0)=aa
theorem Ud:bc Tryz.prog 25 [.agg (bA false a0)] (an (dV a0)):=(fun(h:aha a0 (dV a0))=>bc.run (ps:=[.dl]) (rs:=[.bool]) (x:=(a0,())) (r:=((dV a0),())) ⟨7,dj,[agm]⟩ ⟨[],[],[],[],[]⟩ .nil Tryz.func25 h) (by
 exact ajZ a0)
def ahb:cZ Tryz.prog:=⟨25,[.dl],[.bool],none,fun x=>((dV x.1),()),fun x h=>Ud x.1⟩
end
section
variable (a0:Int) (J:Event) (aa:Bool)
def agM:Prop:=
 ((decide (J.aA ≥ 0))&&(decide (J.aA<a0)))=aa
theorem agN:bc Tryz.prog 69 [ab a0,.dh (fJ J) 0] (an (sv a0 J)):=(fun(h:agM a0 J (sv a0 J))=>bc.run (ps:=[.int,(.ptr .e3)]) (rs:=[.bool]) (x:=(a0,J,())) (r:=((sv a0 J),())) ⟨13,dj,[]⟩ ⟨[],[],[],[],[]⟩ .nil Tryz.func69 h) (by
 rfl)
def agO:cZ Tryz.prog:=⟨69,[.int,(.ptr .e3)],[.bool],none,fun x=>((sv x.1 x.2.1),()),fun x h=>agN x.1 x.2.1⟩
end
section
variable (a0:aC) (J:Event) (aa:Bool)
abbrev Ga:=bif (J.op==1) then(J.op==1) else(J.op==2)
abbrev Gb:=bif (J.op==3) then(J.op==3) else(J.op==4)
def T0:Prop:=
  ((J.op==5)=true→a0.bb.length≤4611686018427387904→((sv (a0.bb.length:Int) J)&&((decide (J.bj ≥ 0))&&(decide (J.bj≤2))))=aa)∧((J.op==5)=false→((J.op==6)=true→a0.bb.length≤4611686018427387904→((sv (a0.bb.length:Int) J)&&((decide (J.bj ≥ 1))&&(decide (J.bj≤2))))=aa)∧((J.op==6)=false→(J.op==7)=true→((J.aA==0)&&(J.bj==0))=aa))
def T1:Prop:=
  ((Ga J)=true→a0.O.length≤4611686018427387904→((sv (a0.O.length:Int) J)&&(J.bj==0))=aa)∧((Ga J)=false→((Gb J)=true→((sv a0.ak J)&&(J.bj==0))=aa)∧((Gb J)=false→T0 a0 J aa))
def TZ:Prop:=
 (T1 a0 J aa)∧((!(Ga J)&&(!(Gb J)&&(!(J.op==5)&&(!(J.op==6)&&(!(J.op==7))))))=true→false=aa)
theorem agP:bc Tryz.prog 28 [.agg (bA false a0),.agg (fJ J)] (an (e8 a0 J)):=(fun(h:TZ a0 J (e8 a0 J))=>bc.run (ps:=[.dl,.e3]) (rs:=[.bool]) (x:=(a0,J,())) (r:=((e8 a0 J),())) ⟨78,dj,[agO]⟩ ⟨[],[],[],[],[]⟩ .nil Tryz.func28 h) (by
 unfold TZ T1 T0 Gb Ga
 rw[Dg,Dg,rT,rT,rT,rT,rT,Pj,Pj,Pj]
 simp only[decide_eq_true_eq,decide_eq_false_iff_not]
 refine⟨⟨fun h aw=> ?_,fun h1=>⟨fun h=> ?_,fun au=>⟨fun h aw=> ?_,fun bQ=>⟨fun h aw=> ?_,fun cv h=> ?_⟩⟩⟩⟩,fun h=> ?_⟩
 ·rw[I6 h]
 ·rw[I7 h1 h]
 ·rw[E7 h];rfl
 ·rw[E8 h];rfl
 ·rw[Q0 h]
 ·simp only[Bool.and_eq_true,Bool.not_eq_true',decide_eq_false_iff_not] at h
  exact(Q2 h.1 h.2.1 h.2.2.1 h.2.2.2.1 h.2.2.2.2).symm)
def agQ:cZ Tryz.prog:=⟨28,[.dl,.e3],[.bool],none,fun x=>((e8 x.1 x.2.1),()),fun x h=>agP x.1 x.2.1⟩

end
end Go.Proofs.YtejmihecgodhnaaGreatDoor.Fw
set_option linter.unusedVariables false
namespace Go.Proofs.YtejmihecgodhnaaGreatDoor.Fw
open Go
theorem tk {α:Type} {xs:List α} {q:α→Bool} (h:first xs q=none): ∀x∈xs,q x=false:=by
 unfold first at h;rwa [List.findIdx?_eq_none_iff] at h
theorem xT {p:aC} (h:dV p=true):k8 p=true∧(∀s∈p.bb,bN s 0 (p.ak - 1)=true)∧(∀w∈p.O,h_ p w=true)∧p.bF.length=p.O.length∧
  (∀b∈p.bF,b.length=p.O.length)∧ ∀i k:Nat,i<p.O.length→k<p.O.length→qM p i k=false:=by
 have hb:=ajY h
 have az:hZ p=⟨0,0⟩:=by simpa[dV] using h
 rw[Mw hb] at az
 unfold Ar at az
 split at az
 ·cases az
 rename_i h1
 unfold As at az
 split at az
 ·cases az
 rename_i h2
 unfold qk at az
 split at az
 ·rename_i au
  split at az
  ·cases az
  rename_i a8
  split at az
  ·cases az
  rename_i bQ
  refine⟨hb,fun s hs=>by simpa using tk h1 s hs,fun w hw=>by simpa using tk h2 w hw,au,fun b U=>by simpa using tk a8 b U,fun i k hi hk=> ?_⟩
  have:=tk bQ i (List.mem_range.2 hi)
  rw[List.any_eq_false] at this
  simpa using this k (List.mem_range.2 hk)
 ·cases az
def lP (p:aC) (i k:Int):Bool:=nth (nth p.bF i) k
structure aaT (p:aC):Prop where
 len:p.bF.length=p.O.length
 row: ∀i:Int,0≤i→i<p.O.length→(nth p.bF i).length=p.O.length
 sym: ∀i k:Int,0≤i→i<p.O.length→0≤k→k<p.O.length→lP p i k=lP p k i
 aon: ∀i k:Int,0≤i→i<p.O.length→0≤k→k<p.O.length→i≠k→meets (nth p.O i).ak (nth p.O k).ak=true→lP p i k=true
theorem vl {x n:Int} (h:bN x 0 (n - 1)=true):0≤x∧x<n:=by have:=lr.1 h;omega
theorem L3 {l:List Int} {n:Int} (h:ih l n=true):l.length≤30∧ ∀x∈l,0≤x∧x<n:=by
 have:=xG.1 h
 exact⟨this.1,fun x hx=>vl (this.2.1 x hx)⟩
theorem xS {p:aC} (h:dV p=true):uI p:=by
 obtain⟨h1,h2,au,a8,bQ,cv⟩:=xT h
 have hb:=vD.1 h1
 have hw: ∀w∈p.O,_:=fun w hw=>qH.1 (au w hw)
 refine⟨by omega,hb.2.2.2,hb.2.2.1,fun w m=>⟨(hw w m).1,L3 (hw w m).2.1⟩,fun w m=>L3 (hw w m).2.2.1,fun w m=>L3 (hw w m).2.2.2.1,fun w m=> ?_,fun x hx=>vl (h2 x hx)⟩
 have aw:=oO.1 (hw w m).2.2.2.2.1
 have hf:=oO.1 (hw w m).2.2.2.2.2.1
 refine⟨aw.1,hf.1,fun x hx=> ?_⟩
 rcases List.mem_append.1 hx with hx | hx
 ·have:=aw.2.1 x hx
  rw[Bool.and_eq_true] at this;exact vl this.1
 ·have:=hf.2.1 x hx
  rw[Bool.and_eq_true] at this;exact vl this.1
theorem GV {p:aC} (h:dV p=true):aaT p:=by
 obtain⟨h1,h2,au,a8,bQ,cv⟩:=xT h
 have key: ∀i k:Int,0≤i→i<p.O.length→0≤k→k<p.O.length→lP p i k=lP p k i∧(i≠k→meets (nth p.O i).ak (nth p.O k).ak=true→lP p i k=true):=fun i k i0 i1 aZ dk=>by
  have:=cv i.toNat k.toNat (by omega) (by omega)
  unfold qM uO at this
  rw[kH i0,kH aZ,kH i0,kH aZ,kH i0,kH aZ] at this
  rw[Bool.or_eq_false_iff] at this
  refine⟨by unfold lP;simpa using this.1,fun bU hm=> ?_⟩
  have h2:=this.2
  rw[hm,Bool.and_true] at h2
  have aV:decide (i.toNat≠k.toNat)=true:=by simpa using(show i.toNat≠k.toNat by omega)
  rw[aV] at h2
  unfold lP
  simpa using h2
 exact⟨a8,fun i i0 i1=>bQ _ (dz (by omega)),fun i k i0 i1 aZ dk=>(key i k i0 i1 aZ dk).1,fun i k i0 i1 aZ dk=>(key i k i0 i1 aZ dk).2⟩
def Fz (p:aC) (f:Frame) (i:Int):Bool:= !((decide ((nth f.O i).ar<0)) || ((decide ((nth f.O i).ar>4)) || ((((nth f.O i).ah.length:Int) !=((nth p.O i).ak.length:Int)) || ((decide ((nth f.O i).a7<0)) || (decide ((nth f.O i).a7 ≥ ((nth p.O i).ak.length:Int)))))))
def Sd (f:Frame) (i:Int):Bool:=bif ((nth f.O i).ar !=4) then(!(((nth f.O i).a7 !=0) || (q0 (nth f.O i).ah true))) else(!(q0 ((nth f.O i).ah.take (nth f.O i).a7.toNat) false))
def Se (p:aC) (f:Frame) (i:Int):Bool:=bif ((nth f.O i).ar==3) then(!((decide ((nth f.O i).bG<1)) || (decide ((nth f.O i).bG>p.ct)))) else(!((nth f.O i).bG !=0))
def Sf (f:Frame) (i:Int):Bool:=bif ((nth f.O i).ar==0) then(!(nth f.O i).bI) else(!(bif ((nth f.O i).ar==2) then((nth f.O i).ar==2) else((nth f.O i).ar==3)) || (!(!(nth f.O i).bI)))
theorem Sg (p:aC) (f:Frame) (i:Int):hR p f i=(Fz p f i&&(Sd f i&&(Se p f i&&Sf f i))):=by
 unfold hR Fz Sd Se Sf
 simp only
 generalize nth f.O i=h
 generalize (nth p.O i).ak.length=n
 rcases h with⟨s,g,b,d,t⟩
 have aW:b.all (fun x=> !x)= !q0 b true:=by
  cases h:q0 b true with
  | true=>
   rw[List.all_eq_false.2 ⟨true,Fx.1 h,by simp⟩];rfl
  | false=>
   rw[List.all_eq_true.2 fun x hx=>by
    cases x with
    | false=>rfl
    | true=>rw[Fx.2 hx] at h;cases h];rfl
 have e2:(b.take g.toNat).all (fun x=>x)= !q0 (b.take g.toNat) false:=by
  cases h:q0 (b.take g.toNat) false with
  | true=>
   rw[List.all_eq_false.2 ⟨false,Fx.1 h,by simp⟩];rfl
  | false=>
   rw[List.all_eq_true.2 fun x hx=>by
    cases x with
    | true=>rfl
    | false=>rw[Fx.2 hx] at h;cases h];rfl
 simp only
 rw[aW,e2]
 have dG:bN s 0 4= !((decide (s<0)) || (decide (s>4))):=by unfold bN;rw[Bool.eq_iff_iff];simp
 have et:decide (b.length=n)= !((b.length:Int) !=(n:Int)):=by rw[Bool.eq_iff_iff];simp;omega
 have eN:bN g 0 ((n:Int) - 1)= !((decide (g<0)) || (decide (g ≥ (n:Int)))):=by unfold bN;rw[Bool.eq_iff_iff];simp;omega
 have rA:bN t 1 p.ct= !((decide (t<1)) || (decide (t>p.ct))):=by unfold bN;rw[Bool.eq_iff_iff];simp
 rw[dG,et,eN,rA]
 generalize q0 b true=B
 have ax:g=0→q0 (b.take g.toNat) false=false:=fun h=>by subst h;rfl
 generalize q0 (b.take g.toNat) false=C at ax
 generalize (decide (s<0))=aL
 generalize (decide (s>4))=bO
 generalize ((b.length:Int) !=(n:Int))=aai
 generalize (decide (g<0))=aoA
 generalize (decide (g ≥ (n:Int)))=aoB
 generalize (decide (t<1))=aoC
 generalize (decide (t>p.ct))=aoD
 have hs:s=0∨s=2∨s=3∨s=4∨(s≠0∧s≠2∧s≠3∧s≠4):=by omega
 have aV:decide (t=0)= !(t !=0):=by rw[Bool.eq_iff_iff];simp
 have w1:decide (g=0)= !(g !=0):=by rw[Bool.eq_iff_iff];simp
 rw[aV,w1]
 cases So:(g !=0) with
 | false=>
  have:C=false:=ax (by simpa using So)
  subst this
  generalize (t !=0)=anK
  rcases hs with rfl | rfl | rfl | rfl | ⟨az,h2,au,a8⟩
  ·cases B<;>cases d<;>simp[Bool.and_assoc]
  ·cases B<;>cases d<;>simp[Bool.and_assoc]
  ·cases B<;>cases d<;>simp[Bool.and_assoc]
  ·cases B<;>cases d<;>simp[Bool.and_assoc]
  ·have z0:(s==0)=false:=by simpa using az
   have z2:(s==2)=false:=by simpa using h2
   have z3:(s==3)=false:=by simpa using au
   have z4:(s !=4)=true:=by simpa using a8
   rw[z0,z2,z3,z4]
   simp only[az,h2,au,a8,if_false,decide_false,decide_true,ne_eq,not_false_eq_true]
   cases B<;>cases d<;>simp[Bool.and_assoc]
 | true=>
  clear ax So
  generalize (t !=0)=anK
  rcases hs with rfl | rfl | rfl | rfl | ⟨az,h2,au,a8⟩
  ·cases B<;>cases C<;>cases d<;>simp[Bool.and_assoc]
  ·cases B<;>cases C<;>cases d<;>simp[Bool.and_assoc]
  ·cases B<;>cases C<;>cases d<;>simp[Bool.and_assoc]
  ·cases B<;>cases C<;>cases d<;>simp[Bool.and_assoc]
  ·have z0:(s==0)=false:=by simpa using az
   have z2:(s==2)=false:=by simpa using h2
   have z3:(s==3)=false:=by simpa using au
   have z4:(s !=4)=true:=by simpa using a8
   rw[z0,z2,z3,z4]
   simp only[az,h2,au,a8,if_false,decide_false,decide_true,ne_eq,not_false_eq_true]
   cases B<;>cases C<;>cases d<;>simp[Bool.and_assoc]
def lv (x:bx):Bool:=bN x.dc 1 2&&bN x.bm 0 2
def nG (p:aC) (f:Frame) (i k:Int):Bool:=(i !=k)&&(lP p i k&&(((nth f.O i).ar !=0)&&((nth f.O k).ar !=0)))
def wQ (p:aC) (f:Frame):Bool:= !((!(dV p)) || ((!f.ok) || (((f.aN.length:Int) !=p.ak) || (((f.aH.length:Int) !=(p.bb.length:Int)) || ((f.O.length:Int) !=(p.O.length:Int))))))
theorem oz {p:aC} {f:Frame}:wQ p f=true↔dV p=true∧f.ok=true∧(f.aN.length:Int)=p.ak∧f.aH.length=p.bb.length∧f.O.length=p.O.length:=by
 unfold wQ
 simp only[Bool.not_eq_true',Bool.or_eq_false_iff,Bool.not_eq_false',bne_eq_false_iff_eq]
 constructor
 ·rintro⟨a,b,c,d,e⟩;exact⟨a,b,c,by omega,by omega⟩
 ·rintro⟨a,b,c,d,e⟩;exact⟨a,b,c,by omega,by omega⟩
theorem abd {p:aC} {f:Frame}:Ii p f=true↔ ∀i k:Int,0≤i→i<f.O.length→0≤k→k<f.O.length→nG p f i k=false:=by
 unfold Ii
 rw[List.all_eq_true]
 have key: ∀i k:Nat,(decide (i=k) || !uO p i k || decide ((nth f.O i).ar=0) || decide ((nth f.O k).ar=0))= !nG p f i k:=fun i k=>by
  unfold nG lP uO
  have aW:decide (i=k)= !((i:Int) !=(k:Int)):=by rw[Bool.eq_iff_iff];simp;omega
  have e2: ∀x:Int,decide (x=0)= !(x !=0):=fun x=>by rw[Bool.eq_iff_iff];simp
  rw[aW,e2,e2]
  cases((i:Int) !=(k:Int))<;>cases nth (nth p.bF (i:Int)) (k:Int)<;>cases((nth f.O (i:Int)).ar !=0)<;>cases((nth f.O (k:Int)).ar !=0)<;>rfl
 constructor
 ·intro h i k i0 i1 aZ dk
  have h1:=h i.toNat (List.mem_range.2 (by omega))
  rw[List.all_eq_true] at h1
  have h2:=h1 k.toNat (List.mem_range.2 (by omega))
  rw[key,Int.toNat_of_nonneg i0,Int.toNat_of_nonneg aZ] at h2
  simpa using h2
 ·intro h i hi
  rw[List.all_eq_true]
  intro k hk
  rw[key,h i k (by omega) (by have:=List.mem_range.1 hi;omega) (by omega) (by have:=List.mem_range.1 hk;omega)];rfl
theorem zg {p:aC} {f:Frame}:gX p f=true↔wQ p f=true∧(∀x∈f.aH,lv x=true)∧(∀i:Int,0≤i→i<f.O.length→hR p f i=true)∧
  (∀i k:Int,0≤i→i<f.O.length→0≤k→k<f.O.length→nG p f i k=false)∧f.O=(ef p f).O:=by
 unfold gX pN
 rw[oz,←abd]
 simp only[Bool.and_eq_true,decide_eq_true_eq,List.all_eq_true,List.mem_range]
 constructor
 ·rintro⟨⟨⟨⟨⟨⟨⟨⟨a,b⟩,c⟩,d⟩,e⟩,g⟩,h⟩,i⟩,j⟩
  refine⟨⟨a,b,c,d,e⟩,fun x hx=>by unfold lv;rw[Bool.and_eq_true];exact g x hx,fun q cH q1=> ?_,i,j⟩
  have:=h q.toNat (by omega)
  rwa [Int.toNat_of_nonneg cH] at this
 ·rintro⟨⟨a,b,c,d,e⟩,g,h,i,j⟩
  exact⟨⟨⟨⟨⟨⟨⟨⟨a,b⟩,c⟩,d⟩,e⟩,fun x hx=>by have:=g x hx;unfold lv at this;rwa [Bool.and_eq_true] at this⟩,fun q U=>h q (by omega) (by omega)⟩,i⟩,j⟩
theorem Rs {p:aC} {f:Frame} (hb:wQ p f=true) (bz: ∀i:Int,0≤i→i<f.O.length→Fz p f i=true):iM p f:=by
 obtain⟨h1,h2,au,a8,bQ⟩:=oz.1 hb
 have key: ∀i:Nat,i<f.O.length→((nth f.O i).ah.length:Int)=((nth p.O i).ak.length:Int)∧0≤(nth f.O i).a7∧(nth f.O i).a7<((nth p.O i).ak.length:Int):=fun i hi=>by
  have:=bz i (by omega) (by omega)
  unfold Fz at this
  simp only[Bool.not_eq_true',Bool.or_eq_false_iff,bne_eq_false_iff_eq,decide_eq_false_iff_not] at this
  exact⟨this.2.2.1,by omega,by omega⟩
 refine⟨au,a8,bQ,fun i h w aW e2=> ?_,fun h hm=> ?_⟩
 ·have hi:=(List.getElem?_eq_some_iff.1 aW).1
  have al:=(List.getElem?_eq_some_iff.1 e2).1
  have:=(key i hi).1
  rw[jv hi,jv al,(List.getElem?_eq_some_iff.1 aW).2,(List.getElem?_eq_some_iff.1 e2).2] at this
  omega
 ·obtain⟨i,hi,rfl⟩:=List.mem_iff_getElem.1 hm
  have:=key i hi
  rw[jv hi] at this
  omega
def MZ (p:aC) (f:Frame) (n:Nat) (i:Int):Bool:=(List.range n).any fun k=>nG p f i k
theorem VG {n:Nat} {left:Int} (az:0≤left∧left≤1048576) (h:(!decide (e9 n left<0))=true):n≤1048576∧0≤e9 n left∧e9 n left≤1048576:=by
 have h: ¬e9 n left<0:=by simpa using h
 have h2:=h
 rw[VI az.1] at h2
 unfold e9 at h ⊢
 rw[if_neg h2] at h ⊢
 omega
end Go.Proofs.YtejmihecgodhnaaGreatDoor.Fw
set_option linter.unusedVariables false
set_option maxRecDepth 100000
set_option maxHeartbeats 4000000
set_option linter.unusedSimpArgs false
namespace Go.Proofs.YtejmihecgodhnaaGreatDoor.Fw
open Go
attribute [local irreducible] evS evSD WpS Weak Oper.looksAt















section
variable (a0:(List Event)) (J aa:Int)
def Ve:Prop:=
 a0.length≤4611686018427387904→((decide ((IntKind.i64.wrap (J - (a0.length:Int)))<0))=true→(-1)=aa)∧((!(decide ((IntKind.i64.wrap (J - (a0.length:Int)))<0)))=true→(IntKind.i64.wrap (J - (a0.length:Int)))=aa)
theorem aii (ae:hX a0 J):bc Tryz.prog 14 [bq fJ a0,ab J] (ab (eY a0 J)):=(fun(h:Ve a0 J (eY a0 J))=>bc.run (ps:=[(.l .e3),.int]) (rs:=[.int]) (x:=(a0,J,())) (r:=((eY a0 J),())) ⟨12,dj,[]⟩ ⟨[],[],[],[],[]⟩ .nil Tryz.func14 h) (by
 unfold Ve
 exact fun ag=>HN ae ag)
def aij:cZ Tryz.prog:=⟨14,[(.l .e3),.int],[.int],some fun x=>hX x.1 x.2.1,fun x=>((eY x.1 x.2.1),()),fun x h=>aii x.1 x.2.1 h⟩
end
section
variable (ad:(List Event)→Int→Prop) (m0:(List Event)→Int→Nat) (a0 aa:(List Event))
def Vu:Prop:=
  ad (List.replicate (a0.length:Int).toNat ({op:=(0:Int),aA:=(0:Int),bj:=(0:Int)}:Event)) 0∧ ∀(aM:(List Event)) (v4:Int),ad aM v4→(((decide (v4<(a0.length:Int)))=false→aM.length≤4611686018427387904∧aM=aa)∧((decide (v4<(a0.length:Int)))=true→((0≤v4∧v4.toNat<a0.length)∧((0≤v4∧v4.toNat<aM.length)∧(v4.toNat<aM.length)))∧(ad (aM.set v4.toNat (aK (nth a0 v4))) (IntKind.i64.wrap (v4+1))∧m0 (aM.set v4.toNat (aK (nth a0 v4))) (IntKind.i64.wrap (v4+1))<m0 aM v4)))
def Vt (a0:(List Event)) (aa:(List Event)) (ad:(List Event)→Int→Prop) (m0:(List Event)→Int→Nat):Prop:=
 (a0.length≤4611686018427387904→0≤(a0.length:Int)∧24*(a0.length:Int)≤140737488355328∧(a0.length:Int)≤4611686018427387904)∧(a0.length≤4611686018427387904→Vu ad m0 a0 aa)
theorem aix (ae:small a0):bc Tryz.prog 16 [bq fJ a0] (jP fJ (aK a0)):=(fun(ad:(List Event)→Int→Prop) (m0:(List Event)→Int→Nat) (h:Vt a0 (aK a0) ad m0)=>bc.run (ps:=[(.l .e3)]) (rs:=[(.l .e3)]) (x:=(a0,())) (r:=((aK a0),())) ⟨23,dj,[aiB]⟩ ⟨[10],[],[],[],[]⟩ (.lp [] [0] [] [(.l .e3),.int] [bw 0,4] (fun aD=>[(3,.ref 0 0 aD.1.length false),(4,.i .i64 aD.2.1),(bw 0,.blk 0 .e3 aD.1 _ rfl)]) (fun aD=>ad aD.1 aD.2.1) (fun aD=>m0 aD.1 aD.2.1) fun _=> .nil) Tryz.func16 h) (p8 a0 aK ({op:=(0:Int),aA:=(0:Int),bj:=(0:Int)}:Event)) (qS a0) (by
 unfold Vt Vu
 have ae:a0.length≤1048576:=ae
 exact⟨fun ag=>⟨cN _,by omega,by omega⟩,fun ag=>Ff (f:=aK) ag (Gx _)⟩)
def aiy:cZ Tryz.prog:=⟨16,[(.l .e3)],[(.l .e3)],some fun x=>small x.1,fun x=>((aK x.1),()),fun x h=>aix x.1 h⟩
end
section
variable (a0 J:Event) (aa:Bool)
def UZ:Prop:=
 ((a0.op !=J.op)=true→false=aa)∧((!(a0.op !=J.op))=true→((a0.aA !=J.aA)=true→false=aa)∧((!(a0.aA !=J.aA))=true→((a0.bj !=J.bj)=true→false=aa)∧((!(a0.bj !=J.bj))=true→true=aa)))
theorem ahV:bc Tryz.prog 50 [.agg (fJ a0),.agg (fJ J)] (an (eqv a0 J)):=(fun(h:UZ a0 J (eqv a0 J))=>bc.run (ps:=[.e3,.e3]) (rs:=[.bool]) (x:=(a0,J,())) (r:=((eqv a0 J),())) ⟨20,dj,[]⟩ ⟨[],[],[],[],[]⟩ .nil Tryz.func50 h) (by
 unfold UZ
 obtain⟨c,p,q⟩:=a0
 obtain⟨cn,Ao,uc⟩:=J
 simp[eqv]
 intros
 simp_all)
def ahW:cZ Tryz.prog:=⟨50,[.e3,.e3],[.bool],none,fun x=>((eqv x.1 x.2.1),()),fun x h=>ahV x.1 x.2.1⟩
end
section
variable (ad:Int→Prop) (m0:Int→Nat) (a0 J:(List Event)) (aa:Bool)
def ahT:List Item:=(List.range 10).map bV
def ahU:List (List Nat):=[[],[],[0,1],[0,1,2],[],[],[4,5],[4,5,6],rg 0 8,rg 0 9]
def UY:Prop:=
  ((a0.length≤4611686018427387904)∧(J.length≤4611686018427387904)→((a0.length:Int) !=(J.length:Int))=true→false=aa)∧((a0.length≤4611686018427387904)∧(J.length≤4611686018427387904)∧((!((a0.length:Int) !=(J.length:Int)))=true)→ad 0∧ ∀(v5:Int),ad v5→(((decide (v5<(a0.length:Int)))=false→true=aa)∧((decide (v5<(a0.length:Int)))=true→(((0≤v5∧v5.toNat<a0.length)∧(0≤v5∧v5.toNat<J.length))∧((!(eqv (nth a0 v5) (nth J v5)))=true→false=aa))∧((!(!(eqv (nth a0 v5) (nth J v5))))=true→ad (IntKind.i64.wrap (v5+1))∧m0 (IntKind.i64.wrap (v5+1))<m0 v5))))
def UX (a0:(List Event)) (J:(List Event)) (aa:Bool) (ad:Int→Prop) (m0:Int→Nat):Prop:=
 UY ad m0 a0 J aa
theorem ahR:bc Tryz.prog 18 [bq fJ a0,bq fJ J] (an (eqv a0 J)):=(fun(ad:Int→Prop) (m0:Int→Nat) (h:UX a0 J (eqv a0 J) ad m0)=>bc.run (ps:=[(.l .e3),(.l .e3)]) (rs:=[.bool]) (x:=(a0,J,())) (r:=((eqv a0 J),())) ⟨27,dj,[ahW]⟩ ⟨[13],[(6,ahT,ahU)],[],[],[]⟩ (fb [0,1] [] 5 ad m0 fun _=> .nil) Tryz.func18 h) (bW a0.length (fun v=> !(eqv (nth a0 v) (nth J v)))) (cg a0.length) (by
 unfold UX UY
 exact y8 (ne:=fun v=> !(eqv (nth a0 v) (nth J v))) (fun v=>by simp[eqv]))
def ahS:cZ Tryz.prog:=⟨18,[(.l .e3),(.l .e3)],[.bool],none,fun x=>((eqv x.1 x.2.1),()),fun x h=>ahR x.1 x.2.1⟩

end
end Go.Proofs.YtejmihecgodhnaaGreatDoor.Fw
set_option linter.unusedVariables false
namespace Go.Proofs.YtejmihecgodhnaaGreatDoor.Fw
open Go
def Env.wd (W:World):Env:={w:=W,PA:=fun c=>c<W.heap.size,PF:=fun c=>c<W.heap.size∧Plain W c,m:=fun _=>none,bf:=fun _=>0,sz:=fun _=>0,cp:=fun _=>0,mL:=fun _=>none}
theorem anC (W:World):SimH (Env.wd W) [] where
 heap:=fun b c hb=>by cases hb
 eV:=fun b blk hb=>by simp at hb
 ha:=fun b hb=>by cases hb
 fresh:=fun b _=>⟨rfl,rfl⟩
 hC:=fun b bS c hb=>by cases hb
 jt:=fun t jG c hb=>by cases hb
 gB:=fun b t c hb=>by cases hb
 hF:=fun c _ ⟨b,hb⟩=>by cases hb
 ii:=fun c _ ⟨b,hb⟩=>by cases hb
 dA:=fun c hc=>hc.1
 ft:=fun c hc=>hc.2
 dP:=fun c hc=>hc
 fq:=fun c ⟨b,hb⟩=>by cases hb
 gr:=fun c ⟨b,hb⟩=>by cases hb
theorem anA {w w':World} (h:RowKit.Below w.heap.size w w'):(Env.wd w).gy (Env.wd w'):=
 ⟨fun c hc=>Nat.lt_of_lt_of_le hc h.size,fun c hc=>⟨Nat.lt_of_lt_of_le hc.1 h.size,hc.2.same (h.block c hc.1)⟩,fun c hc=>h.block c hc,fun c hc=>h.block c hc.1,fun _=>Nat.le_refl _,(fun _ _ h _=>by cases h),(fun _ _ h=>by cases h)⟩
theorem SimH.S7 {E:Env} {H:List Blk} (hs:SimH E H) {c:Nat} (h:E.gq c):Plain E.w c:=by
 obtain⟨b,hb⟩:=h
 obtain⟨_,ay,ty,_,_,q,_⟩:=hs.heap b c hb
 exact⟨ay,ty,q⟩
theorem bc.world {P:Program} {f:FuncId} {args:List AV} {t:AV} (h:bc P f args t) {w:World} {vs:List Value} (aG:af (V2 (Env.wd w)) args vs):
  Calls P f vs.toArray w fun e w'=> ∃v,e= .returned v∧RowKit.Below w.heap.size w w'∧V3 (Env.wd w') t v:=by
 refine(h.2 (Env.wd w) vs (fun _=>rfl) (anC w) aG).mono ?_
 rintro e w' ⟨r,v,H',E',rfl,ao,rfl,ag,hs,hv,aS⟩
 refine⟨v,rfl,⟨aS.os,aS.tape,aS.output,aS.size,fun k hk=>aS.dF k hk (fun⟨b,hb⟩=>by cases hb) (fun⟨b,hb⟩=>by cases hb)⟩,Nv (E':=Env.wd E'.w) hs rfl (fun c hc=> ?_) ao hv⟩
 rcases hc with hc | hc
 ·exact⟨hs.dP c (hs.dA c hc),hs.dP c (hs.dA c hc),hs.ft c hc⟩
 ·exact⟨hs.fq c hc,hs.fq c hc,hs.S7 hc⟩
theorem e6.wd {E:Env} (av:SimH E []) (bC: ∀t,E.mL t=none) {a:AV} {v:Value} (h:e6 E a v):e6 (Env.wd E.w) a v:=by
 have nT: ∀a v,aY E.w E.PA E.PF a v→aY E.w (fun c=>c<E.w.heap.size) (fun c=>c<E.w.heap.size∧Plain E.w c) a v:=fun a v k=>k.mono (fun _ _=>rfl) (fun _ _=>rfl) av.dP (fun c hc=>⟨av.dP c (av.dA c hc),av.ft c hc⟩)
 have hm:=fun b=>av.fresh b (Nat.zero_le _)
 cases a with
 | ref b g off n full=>
  rcases h with⟨h,_⟩ | ⟨_,h⟩
  ·rw[(hm b).2] at h;cases h
  ·rcases h with⟨h,_⟩ | ⟨c,cap,h,_⟩<;>rw[(hm b).1] at h<;>cases h
 | ptr b g r c=>
  rcases h with⟨h,_⟩ | ⟨_,bl,h,_⟩
  ·rw[(hm b).2] at h;cases h
  ·rw[(hm b).1] at h;cases h
 | fp t c=>obtain⟨bl,h,_⟩:=h;rw[bC t] at h;cases h
 | _=>exact nT _ _ h
theorem bZ.wd {E:Env} (av:SimH E []) (bC: ∀t,E.mL t=none) {a:AV} {v:Value} (h:bZ E a v):bZ (Env.wd E.w) a v:=by
 by_cases hf: ∃f caps,a= .fn f caps
 ·obtain⟨f,caps,rfl⟩:=hf
  obtain⟨vs,e,ae⟩:=h
  exact⟨vs,e,ae.mono fun _ _ k=>k.wd av bC⟩
 ·rw[rQ fun f c e=>hf ⟨f,c,e⟩] at h ⊢
  exact h.wd av bC
theorem V2.wd {E:Env} (av:SimH E []) (bC: ∀t,E.mL t=none) {a:AV} {v:Value} (h:V2 E a v):V2 (Env.wd E.w) a v:=by
 by_cases hf: ∃l,a= .agg l
 ·obtain⟨l,rfl⟩:=hf
  obtain⟨vs,e,ae⟩:=h
  exact⟨vs,e,ae.mono fun _ _ k=>k.wd av bC⟩
 ·rw[p1 fun l e=>hf ⟨l,e⟩] at h ⊢
  exact h.wd av bC
theorem bc.Ml {P:Program} {f:FuncId} {args:List AV} {s:ByteArray} (fD:vA P f=true)
  (h: ∀(w:World) (vs:List Value),af (V2 (Env.wd w)) args vs→Calls P f vs.toArray w fun e w'=>e= .returned (.string s)∧RowKit.Below w.heap.size w w'):bc P f args (.str s):=by
 refine⟨fD,fun E vs bC av aG=>(h E.w vs (aG.mono fun _ _ k=>k.wd av bC)).mono ?_⟩
 rintro e w' ⟨rfl,hb⟩
 have hk: ∀c,E.PA c→w'.heap[c]?=E.w.heap[c]?:=fun c hc=>hb.block c (av.dP c hc)
 have hm:=fun b=>av.fresh b (Nat.zero_le _)
 refine⟨.str s,.string s,[],{E with w:=w'},rfl,.inr (.inr (.str s)),rfl,bC,{av with
  heap:=fun b c R5=>by rw[(hm b).1] at R5;cases R5
  dP:=fun c hc=>Nat.lt_of_lt_of_le (av.dP c hc) hb.size
  fq:=fun c hc=>Nat.lt_of_lt_of_le (av.fq c hc) hb.size
  gr:=fun c hc=>Nat.lt_of_lt_of_le (av.gr c hc) hb.size
  ft:=fun c hc=>(av.ft c hc).same (hk c (av.dA c hc))},aY.str s,?_⟩
 exact⟨⟨fun _ h=>h,fun _ h=>h,hk,fun c hc=>hk c (av.dA c hc),fun _=>Nat.le_refl _,fun _ _ h _=>⟨h,rfl,rfl⟩,fun _ _ h=>h⟩,hb.os,hb.tape,hb.output,hb.size,fun c hc _ _=>hb.block c hc,fun _ _ h=> .inl h,fun _ h=> .inl h,fun _ h=> .inl h,fun _ h=> .inl h⟩
theorem V3.anB {w:World} {rows:List (List AV)} {dK fr:Bool} {v:Value} (h:V3 (Env.wd w) (.aX rows dK fr) v): ∃A cap,v= .slice A rows.length cap:=by
 have h:aY w _ _ (.aX rows dK fr) v:=h
 cases h;exact⟨_,_,rfl⟩
theorem Wo {w:World} {l:List AV} {v:Value} (h:V2 (Env.wd w) (.agg l) v): ∃vs:List Value,v= .agg vs.toArray∧af (bZ (Env.wd w)) l vs:=h
def Rows (w:World) (A:Option Addr) (sz:Nat) (rows:List (List AV)):Prop:=rows=[]∨ ∃c o,A=some ⟨c,o,none⟩∧c<w.heap.size∧ ∀(i j:Nat) (row:List AV) (a:AV),rows[i]?=some row→row[j]?=some a→ ∃u,w.cell? ⟨c,o+(i*sz+j),none⟩=some u∧bZ (Env.wd w) a u
theorem Mn {w:World} {rows:List (List AV)} {dK fr:Bool} {sz:Nat} {v:Value} (h:bZ (Env.wd w) (.aX rows dK fr) v) (hs: ∀row∈rows,row.length=sz): ∃A cap,v= .slice A rows.length cap∧Rows w A sz rows:=by
 have h:aY w (fun c=>c<w.heap.size) (fun c=>c<w.heap.size∧Plain w c) (.aX rows dK fr) v:=h
 cases h with
 | @aX _ _ PB _ _ _ A cap ZS vs eW fl fK b9 dt hrel=>
  refine⟨A,cap,rfl,?_⟩
  by_cases ag:0<rows.length
  ·obtain⟨c,o,e,hc,dS⟩:=dt ag
   have az:rows[0]?=some rows[0]:=List.getElem?_eq_getElem ag
   have cA:ZS=sz:=by rw[←b9 0 _ az,hs _ (List.mem_of_getElem? az)]
   subst cA
   have aQ: ∀c,PB c→c<w.heap.size:=fun c hc=>by
    have:=eW c hc
    split at this
    ·exact this.1
    ·exact this
   refine .inr ⟨c,o,e,aQ c hc,fun i j row a ao aG=> ?_⟩
   have hi:=(List.getElem?_eq_some_iff.1 ao).1
   have al:j<ZS:=by rw[←b9 i row ao];exact(List.getElem?_eq_some_iff.1 aG).1
   exact⟨vs i j,dS i j hi al,aY.v1 (E:=Env.wd w) ((hrel i j row a ao aG).mono (fun _ _=>rfl) (fun _ h=>h.elim) aQ (fun _ h=>h.elim))⟩
  ·exact .inl (List.eq_nil_of_length_eq_zero (by omega))
open Go Go.RowKit Go.Shelf Go.Proofs
theorem Qj:(Tryz.prog.info? 75).map (·.size)=some 2:=by kernel_rfl
theorem Ip:(Tryz.prog.info? 5).map (fun i=>(i.zero,i.size,i.bytes))=some (some (.int .u8 0),1,1):=by kernel_rfl
set_option maxHeartbeats 1000000 in
set_option maxRecDepth 100000 in
theorem Ql (b:Nat) (w:World) (az:w.cell? ⟨b,0,none⟩=some (.pointer (some ⟨b,0,none⟩))):
    Calls Tryz.prog 74 #[.pointer (some ⟨b,0,none⟩)] w fun e w'=>e= .returned (.tuple #[])∧w'=w:=by
  obtain⟨j,al,_⟩:=Option.map_eq_some_iff.1 Qj
  go_enter Tryz.func74,Tryz.ntmps74
  go_wp2
  rw[Lib.run_neq_ptr_same w _ Tryz.underlying73 al]
  go_wp2
  go_end0
  exact⟨rfl,rfl⟩
set_option maxHeartbeats 1000000 in
set_option maxRecDepth 100000 in
theorem Qi (b:Nat) (w:World) (az:w.cell? ⟨b,0,none⟩=some (.pointer none)) (va:w.shape? b=some (75,2)) (ae3:w.frozen? ⟨b,0,none⟩=false):
    Calls Tryz.prog 74 #[.pointer (some ⟨b,0,none⟩)] w fun e w'=>e= .returned (.tuple #[])∧w'=w.setCell ⟨b,0,none⟩ (.pointer (some ⟨b,0,none⟩)):=by
  obtain⟨j,al,Ss⟩:=Option.map_eq_some_iff.1 Qj
  go_enter Tryz.func74,Tryz.ntmps74
  go_wp2
  rw[Lib.run_to_unsafe w ⟨b,0,none⟩ Tryz.underlying73 Tryz.underlying154 al (by rw[Ss];decide) va (Nat.zero_lt_succ 1)]
  simp only[Result.andThen]
  rw[Oper.upon_value]
  go_wp2
  rw[run_callFunc_extern Tryz.func107 (by kernel_rfl) (by kernel_rfl) (by kernel_rfl) (e:=Extern.AbiNoEscape.same) (by kernel_rfl)]
  rw[Lib.run_noEscape]
  simp only[Result.andThen]
  rw[Oper.upon_value]
  go_wp2
  rw[Lib.run_from_unsafe w ⟨b,0,none⟩ Tryz.underlying154 Tryz.underlying73 al va (by kernel_rfl)]
  simp only[Result.andThen]
  rw[Oper.upon_value]
  go_wp2
  go_end0
  exact⟨rfl,rfl⟩
theorem abq (B b:Nat) (bs:List Value) (w:World) (h:Lib.IsBuilder 75 5 B b bs w):
    Calls Tryz.prog 74 #[.pointer (some ⟨b,0,none⟩)] w fun e w'=>e= .returned (.tuple #[])∧(Lib.BuilderAt 75 5 B b (.pointer (some ⟨b,0,none⟩)) bs w'∧Below B w w'):=by
  rcases h with h | h
  · refine(Qi b w h.cell0 h.shape h.frozen0).mono ?_
    rintro e w' ⟨rfl,rfl⟩
    exact⟨rfl,h.used _,(Below.refl B w).setCell (p:=⟨b,0,none⟩) h.1 _⟩
  · refine(Ql b w h.cell0).mono ?_
    rintro e w' ⟨rfl,rfl⟩
    exact⟨rfl,h,Below.refl B _⟩
set_option maxHeartbeats 2000000 in
set_option maxRecDepth 100000 in
theorem tb (B b:Nat) (bs:List Value) (c:Int) (w:World) (h:Lib.IsBuilder 75 5 B b bs w) (hlen:bs.length+1≤140737488355328) (RP:B≤w.heap.size):
    Calls Tryz.prog 76 #[.pointer (some ⟨b,0,none⟩),.int .u8 c] w fun e w'=>e= .returned .nilIface∧(Lib.IsBuilder 75 5 B b (bs++[.int .u8 c]) w'∧Below B w w'):=by
  obtain⟨i0,hi,sl,nb,nc⟩:=info_parts Ip
  go_enter Tryz.func76,Tryz.ntmps76
  go_wp2_with (go_at_call 74;refine(abq B b bs _ h).mono ?_)
  rintro e bp ⟨rfl,h1,dT⟩
  obtain⟨dD,v,mV,qa,bU⟩:=h1
  have gK:bp.cell? ⟨b,0,none⟩=some (.pointer (some ⟨b,0,none⟩)):=by rw[Lib.cell_of_heap mV];rfl
  have c1:bp.cell? ⟨b,1,none⟩=some v:=by rw[Lib.cell_of_heap mV];rfl
  go_wp2_with (at_builtin;refine wpList_append_own _ rfl _ _ 22 rfl B 5 i0 (.int .u8 0) 1 1 Tryz.underlying22 hi sl nb nc rfl (by decide) _ _ _ rfl (qa.alloc _) ⟨bp.heap.size,0,none⟩ 1 1 [.int .u8 c] rfl rfl ?c1 ?c2 ?c3 ?c4 ?c5 ?_)
  case c1=>
    intro j u al
    match j,al with
    | 0,al=>simp at al;subst al;simp[Addr.add]
  case c2=>intro u hu;simp at hu;subst hu;rfl
  case c3=>unfold maxLen;omega
  case c4=>omega
  case c5=>have:=dT.size;simp;omega
  intro eu bn tA mW _
  have aQ:b<bp.heap.size:=by
    rcases Nat.lt_or_ge b bp.heap.size with h' | h'
    · exact h'
    · simp[Array.getElem?_eq_none h'] at mV
  have gm:bn.heap[b]?=some (.cells #[.pointer (some ⟨b,0,none⟩),v] 75 (0,0)):=by
    rw[mW.block b (by simp;omega) (fun e=>bU e.symm),Lib.alloc_old bp _ b aQ]
    exact mV
  have d0:bn.cell? ⟨b,0,none⟩=some (.pointer (some ⟨b,0,none⟩)):=by rw[Lib.cell_of_heap gm];rfl
  have d1:bn.cell? ⟨b,1,none⟩=some v:=by rw[Lib.cell_of_heap gm];rfl
  have f1:bn.frozen? ⟨b,1,none⟩=false:=Lib.frozen_of_heap gm 1
  obtain⟨g,cap,rfl⟩: ∃g cap,eu= .slice (some ⟨g,0,none⟩) (bs.length+1) cap:=by
    rcases tA.2 with⟨_,az⟩ | ⟨g,cap,fx,hv,_⟩
    · omega
    · exact⟨g,cap,hv⟩
  go_wp2
  go_ret
  refine⟨rfl,.inr ?_,?_⟩
  · exact Lib.BuilderAt.put (T:=75) (e:=5) dD gm (bs':=bs++[.int .u8 c]) (by simpa using tA) (by decide)
  · exact((dT.alloc (by have:=dT.size;omega) _).grown mW (by have:=dT.size;simp;omega) (fun k hk=>(qa.lt k hk).1)).setCell (p:=⟨b,1,none⟩) dD _
def Qh:Go.Shelf.Ren:=⟨fun | 169=>33 | n=>n,fun | 70=>73 | 9=>9 | 0=>0 | 72=>75 | 37=>22 | 127=>125 | 3=>3 | 5=>5 | n=>n,fun | n=>n⟩
theorem abo:Go.Proofs.Lays.n169 Tryz.prog Qh:={
  mixed:=by kernel_rfl
  f169:=Tryz.func33.trans (congrArg some (by kernel_rfl))
  t0:=Tryz.underlying0
  a0:=Tryz.isAgg0
  z0:=Tryz.sizeOf0
  v0:=Tryz.zeroValue0
  t3:=Tryz.underlying3
  a3:=Tryz.isAgg3
  z3:=Tryz.sizeOf3
  v3:=Tryz.zeroValue3
  t9:=Tryz.underlying9
  a9:=Tryz.isAgg9
  z9:=Tryz.sizeOf9
  v9:=Tryz.zeroValue9
  t37:=Tryz.underlying22
  a37:=Tryz.isAgg22
  z37:=Tryz.sizeOf22
  v37:=Tryz.zeroValue22
  t70:=Tryz.underlying73
  a70:=Tryz.isAgg73
  z70:=Tryz.sizeOf73
  v70:=Tryz.zeroValue73
  t72:=Tryz.underlying75
  a72:=Tryz.isAgg75
  z72:=Tryz.sizeOf75
  v72:=Tryz.zeroValue75
  t127:=Tryz.underlying125
  a127:=Tryz.isAgg125
  z127:=Tryz.sizeOf125
  v127:=Tryz.zeroValue125}
theorem abp:Builder.Extra Tryz.prog Qh:={
  sizeBuilder:=by kernel_rfl
  liesBuilder:=by kernel_rfl
  t5:=Tryz.underlying5
  a5:=Tryz.isAgg5
  z5:=Tryz.sizeOf5
  v5:=Tryz.zeroValue5
  infoByte:=by kernel_rfl
  cellsByte:=by kernel_rfl
  sizeByte:=by kernel_rfl
  neB5:=by decide}
theorem Qk (B b:Nat) (l:List UInt8) (w:World) (h:Lib.IsBuilder 75 5 B b (Lib.byteCells l) w) (RP:B≤w.heap.size):
    Calls Tryz.prog 33 #[.pointer (some ⟨b,0,none⟩)] w fun e w'=>e= .returned (.string ⟨l.toArray⟩)∧Below B w w':=Any.Builder_String_any abo abp B b l w h RP
structure Fit (p:aC) (f:Frame):Prop where
 nL:dV p=true
 fr:iM p f
theorem B7 {p:aC} {f:Frame} (h:gX p f=true):Fit p f:=by
 obtain⟨h1,h2,au,a8,bQ⟩:=zg.1 h
 refine⟨(oz.1 h1).1,Rs h1 fun i i0 i1=> ?_⟩
 have:=au i i0 i1
 rw[Sg,Bool.and_eq_true] at this;exact this.1
theorem adY {p:aC} {f:Frame} (h:gX p f=true):(f.aN.length:Int)=p.ak∧f.aH.length=p.bb.length∧f.O.length=p.O.length:=by
 have:=(B7 h).fr
 exact⟨this.aN,this.aH,this.O⟩
theorem Fit.in {p:aC} {f:Frame} (h:Fit p f):uI p:=xS h.nL
def ga (p:aC) (f:Frame) (i s:Int):Bool:=((nth f.O i).ar !=0)&&((nth p.O i).ak.drop (nth f.O i).a7.toNat).contains s
def u7 (p:aC) (f:Frame) (i s:Int):Prop:=Fit p f∧0≤i∧i<p.O.length
theorem akR {p:aC} (h:dV p=true) {w:Way} (hw:w∈p.O):w.ak.Nodup:=(xG.1 (qH.1 ((xT h).2.2.1 w hw)).2.1).2.2
theorem EV {l:List Int} {g:Nat} {s:Int}:(l.drop g).contains s=true↔ ∃k,g≤k∧ ∃h:k<l.length,l[k]=s:=by
 rw[List.contains_iff_mem,List.mem_iff_getElem]
 constructor
 ·rintro⟨i,hi,he⟩
  rw[List.length_drop] at hi
  rw[List.getElem_drop] at he
  exact⟨g+i,by omega,by omega,he⟩
 ·rintro⟨k,ax,hk,he⟩
  refine⟨k - g,by rw[List.length_drop];omega,?_⟩
  rw[List.getElem_drop]
  simp only[show g+(k - g)=k by omega];exact he
theorem has_eq {l:List Int} (ag:l.Nodup) {g s:Int} (az:0≤g):(decide (oH l s ≥ g)&&decide (oH l s ≥ 0))=(l.drop g.toNat).contains s:=by
 unfold oH
 cases h:first l (fun x=>s==x) with
 | none=>
  have:(l.drop g.toNat).contains s=false:=by
   rw[←Bool.not_eq_true,EV]
   rintro⟨k,_,hk,he⟩
   have:=tk h _ (List.getElem_mem hk)
   rw[he] at this;simp at this
  rw[this];simp[Df]
 | some i=>
  unfold first at h
  rw[List.findIdx?_eq_some_iff_getElem] at h
  obtain⟨hi,hx,_⟩:=h
  have hx:s=l[i]:=by simpa using hx
  have hx:=hx.symm
  rw[Bool.eq_iff_iff,EV]
  show(decide ((i:Int) ≥ g)&&decide ((i:Int) ≥ 0))=true↔_
  simp only[Bool.and_eq_true,decide_eq_true_eq]
  constructor
  ·intro h;exact⟨i,by omega,hi,hx⟩
  ·rintro⟨k,ax,hk,he⟩
   have:k=i:=by
    exact(List.getElem_inj ag).1 (he.trans hx.symm)
   omega
def tZ (p:aC) (f:Frame) (s:Int):Int:=Df (first (List.range p.O.length) (fun i=>ga p f i s))
def aje (p:aC) (f:Frame) (s:Int):Prop:=Fit p f
theorem akh {n:Nat} {q:Int→Bool} {v:Int} (h:bW n q v) (hv:decide (v<(n:Int))=true) (U:q v=true):first (List.range n) (fun i=>q i)=some v.toNat:=by
 have az:=h.1
 have hv:v<(n:Int):=by simpa using hv
 refine Jo az hv (fun j cq fm=> ?_) ?_
 ·show q (j.toNat:Int)=false
  rw[Int.toNat_of_nonneg cq];exact h.2.2 j cq fm
 ·show q (v.toNat:Int)=true
  rw[Int.toNat_of_nonneg az];exact U
theorem akg {n:Nat} {q:Int→Bool} {v:Int} (h:bW n q v) (hv:decide (v<(n:Int))=false):first (List.range n) (fun i=>q i)=none:=
 Jn fun j cq fm=>by
  show q (j.toNat:Int)=false
  rw[Int.toNat_of_nonneg cq];exact gT h hv j cq fm
def dZ (q:Int→Bool) (v:Int):List Int:=((List.range v.toNat).filter fun i=>q (i:Nat)).map fun i=>((i:Nat):Int)
theorem adb (q:Int→Bool):dZ q 0=[]:=rfl
theorem B4 {q:Int→Bool} {v:Int} (h:0≤v):dZ q (v+1)=if q v=true then dZ q v++[v] else dZ q v:=by
 unfold dZ
 rw[show(v+1).toNat=v.toNat+1 by omega,List.range_succ,List.filter_append,List.map_append]
 have hv:((v.toNat:Nat):Int)=v:=by omega
 cases U:q v with
 | true=>simp[hv,U]
 | false=>simp[hv,U]
theorem uV (q:Int→Bool) (v:Int):(dZ q v).length≤v.toNat:=by
 unfold dZ
 rw[List.length_map]
 exact Nat.le_trans (List.length_filter_le _ _) (by simp)
theorem Rc {q:Int→Bool} {v x:Int}:x∈dZ q v↔0≤x∧x<v∧q x=true:=by
 unfold dZ
 rw[List.mem_map]
 constructor
 ·rintro⟨i,hi,rfl⟩
  rw[List.mem_filter,List.mem_range] at hi
  exact⟨by omega,by omega,hi.2⟩
 ·rintro⟨az,h1,h2⟩
  refine⟨x.toNat,?_,by omega⟩
  rw[List.mem_filter,List.mem_range,Int.toNat_of_nonneg az]
  exact⟨by omega,h2⟩
theorem ade {q:Int→Bool} {v:Int}:dZ q v=[]↔ ∀x:Int,0≤x→x<v→q x=false:=by
 constructor
 ·intro h x az h1
  cases U:q x with
  | false=>rfl
  | true=>have:=Rc.2 ⟨az,h1,U⟩;rw[h] at this;cases this
 ·intro h
  rw[List.eq_nil_iff_forall_not_mem]
  intro x hx
  have:=Rc.1 hx
  rw[h x this.1 this.2.1] at this;cases this.2.2
def xE (x:cU) (k:Int):Bool:=x.be==k
def tK (l:List cU) (k:Int):Int:=Df (first l (fun x=>x.be==k))
def lY (l:List cU) (k:Int):Bool:=l.any fun x=>x.be==k
theorem af9 (l:List cU) (k:Int):(decide (tK l k ≥ 0))=lY l k:=by
 unfold tK lY
 cases h:first l (fun x=>x.be==k) with
 | none=>
  rw[List.any_eq_false.2 fun x hx=>by rw[tk h x hx];simp];rfl
 | some i=>
  unfold first at h
  rw[List.findIdx?_eq_some_iff_getElem] at h
  obtain⟨hi,hx,_⟩:=h
  rw[List.any_eq_true.2 ⟨_,List.getElem_mem hi,hx⟩]
  show decide ((i:Int) ≥ 0)=true
  simp
def nD (p:aC) (f:Frame) (i k:Int):Bool:=((nth f.O i).ar !=0)&&(lY (nth p.O i).cB k || (lY (nth p.O i).bm k&&ga p f i (nth p.bb k)))
def gC (p:aC) (f:Frame) (k:Int):List Int:=dZ (fun i=>nD p f i k) p.O.length
def sF (p:aC) (f:Frame) (k:Int):Prop:=Fit p f∧0≤k∧k<p.bb.length
def qG (p:aC) (f:Frame) (i k:Int):Int:=if(nth f.O i).ar=0 then 0 else match first (nth p.O i).cB (fun x=>x.be==k) with
 | some j=>(nth (nth p.O i).cB j).bj
 | none=>match first (nth p.O i).bm (fun x=>x.be==k&&ga p f i (nth p.bb k)) with
  | some j=>(nth (nth p.O i).bm j).bj
  | none=>0
def Pz (p:aC) (f:Frame) (i k:Int):Prop:=Fit p f∧0≤i∧i<p.O.length∧0≤k∧k<p.bb.length
theorem Gs {p:aC} (h:dV p=true) {w:Way} (hw:w∈p.O) {l:cU} (aw:l∈bE w):l.bj=1∨l.bj=2:=by
 have ax:=qH.1 ((xT h).2.2.1 w hw)
 have key: ∀{t_:List cU},nj p t_=true→ ∀x∈t_,x.bj=1∨x.bj=2:=fun h x hx=>by
  have:=(oO.1 h).2.1 x hx
  rw[Bool.and_eq_true] at this
  have:=lr.1 this.2
  omega
 rcases List.mem_append.1 aw with aw | aw
 ·exact key ax.2.2.2.2.1 l aw
 ·exact key ax.2.2.2.2.2.1 l aw
theorem Jm {α:Type} [Inhabited α] {xs:List α} {q:α→Bool} {j:Nat} (h:first xs q=some j):nth xs j∈xs∧q (nth xs j)=true:=by
 unfold first at h
 rw[List.findIdx?_eq_some_iff_getElem] at h
 obtain⟨hi,hx,_⟩:=h
 rw[jv hi]
 exact⟨List.getElem_mem hi,hx⟩
theorem anx {p:aC} {f:Frame} {i k:Int} (h:dV p=true) (hi:i.toNat<p.O.length):decide (qG p f i k>0)=nD p f i k:=by
 unfold qG nD lY
 by_cases hs:(nth f.O i).ar=0
 ·rw[if_pos hs,show((nth f.O i).ar !=0)=false by simpa using hs];rfl
 ·rw[if_neg hs,show((nth f.O i).ar !=0)=true by simpa using hs,Bool.true_and]
  have hm:=dz hi
  cases h1:first (nth p.O i).cB (fun x=>x.be==k) with
  | some j=>
   have:=Jm h1
   rw[List.any_eq_true.2 ⟨_,this⟩,Bool.true_or]
   have:=Gs h hm (List.mem_append_right _ this.1)
   simp only[decide_eq_true_eq];omega
  | none=>
   rw[List.any_eq_false.2 fun x hx=>by rw[tk h1 x hx];simp,Bool.false_or]
   cases h2:first (nth p.O i).bm (fun x=>x.be==k&&ga p f i (nth p.bb k)) with
   | some j=>
    have:=Jm h2
    have au:=this.2
    rw[Bool.and_eq_true] at au
    rw[List.any_eq_true.2 ⟨_,this.1,au.1⟩,au.2,Bool.true_and]
    have:=Gs h hm (List.mem_append_left _ this.1)
    simp only[decide_eq_true_eq];omega
   | none=>
    have:((nth p.O i).bm.any (fun x=>x.be==k)&&ga p f i (nth p.bb k))=false:=by
     rw[Bool.and_eq_false_iff]
     cases bz:ga p f i (nth p.bb k) with
     | false=>exact .inr rfl
     | true=>
      refine .inl (List.any_eq_false.2 fun x hx=> ?_)
      have:=tk h2 x hx
      rw[bz,Bool.and_true] at this
      rw[this];simp
    rw[this];rfl
def lk (p:aC) (f:Frame) (w k:Int):Bool:=(k !=w)&&(((nth f.O k).ar !=0)&&(lP p w k || (meets (nth p.O w).ak (nth p.O k).over || meets (nth p.O w).over (nth p.O k).ak)))
def oC (p:aC) (f:Frame) (w s:Int):Bool:=nth f.aN s&&(gA (nth p.O w).ak s || gA (nth p.O w).over s)
def k7 (p:aC) (f:Frame) (w k:Int):Bool:=(bE (nth p.O w)).any fun l=>l.be==k&& !((nth f.aH k).dc==l.bj)
def jl (p:aC) (f:Frame) (k:Int):Bool:=decide (((gC p f k).length:Int)>0)
def kI (p:aC) (f:Frame) (k:Int):Bool:=nth f.aN (nth p.bb k)
def lj (p:aC) (f:Frame) (w k:Int):Bool:=k7 p f w k&&(jl p f k || kI p f k)
def l7 (p:aC) (f:Frame) (w:Int):rP:=⟨dZ (lk p f w) p.O.length,dZ (oC p f w) p.ak,dZ (lj p f w) p.bb.length⟩
def B6 (p:aC) (f:Frame) (w:Int):Bool:= !(dZ (fun k=>k7 p f w k&&jl p f k) p.bb.length).isEmpty
def Hl (p:aC) (f:Frame) (w:Int):Bool:= !(dZ (fun k=>k7 p f w k&&kI p f k) p.bb.length).isEmpty
def je (p:aC) (f:Frame) (w:Int):rP×Bool×Bool:=(l7 p f w,B6 p f w,Hl p f w)
def codeF (p:aC) (f:Frame) (w:Int):Int:=if(l7 p f w).O≠[] then 3 else if(l7 p f w).ak≠[] then 4 else if B6 p f w=true then 5 else if Hl p f w=true then 6 else 0
def wg (p:aC) (f:Frame) (w:Int):rP×Int:=(l7 p f w,codeF p f w)
def gj (p:aC) (f:Frame) (w:Int):Int:=if(nth f.O w).ar≠0 then 2 else codeF p f w
def rM (p:aC) (f:Frame) (w:Int):Prop:=Fit p f∧0≤w∧w<p.O.length
theorem r5 {q:Int→Bool} {N v:Int} (ag:N≤4611686018427387904) (aJ:bW N (fun _=>false) v) (hv:decide (v<N)=true):
  (q v=true→dZ q v++[v]=dZ q (IntKind.i64.wrap (v+1)))∧(q v=false→dZ q v=dZ q (IntKind.i64.wrap (v+1)))∧(!(dZ q (IntKind.i64.wrap (v+1))).isEmpty)=(!(dZ q v).isEmpty || q v):=by
 rw[hL ag aJ.1 (by simpa using hv),B4 aJ.1]
 refine⟨fun h=>by rw[if_pos h],fun h=>by rw[if_neg (by rw[h];simp)],?_⟩
 cases h:q v with
 | true=>simp
 | false=>simp
theorem zc {q:Int→Bool} {N v:Int} (aJ:bW N (fun _=>false) v) (hv:decide (v<N)=false):dZ q v=dZ q N:=by
 have: ¬v<N:=by simpa using hv
 have h1:=aJ.2.1
 rw[show v=N by omega]
def oP (p:aC) (f:Frame) (w k:Int) (j:Nat):Bool:=((bE (nth p.O w)).take j).any fun l=>l.be==k&& !((nth f.aH k).dc==l.bj)
theorem akS (p:aC) (f:Frame) (w k:Int) {j:Nat} (h:(bE (nth p.O w)).length≤j):oP p f w k j=k7 p f w k:=by
 unfold oP k7;rw[List.take_of_length_le h]
theorem akU {p:aC} {f:Frame} {w k:Int} {j:Nat} (h:j<(bE (nth p.O w)).length):oP p f w k (j+1)=(oP p f w k j || ((bE (nth p.O w))[j].be==k&& !((nth f.aH k).dc==(bE (nth p.O w))[j].bj))):=by
 unfold oP;rw[List.take_succ_eq_append_getElem h,List.any_append];simp
theorem Mg {p:aC} (h:dV p=true) {w:Way} (hw:w∈p.O):((bE w).map (·.be)).Nodup:=(qH.1 ((xT h).2.2.1 w hw)).2.2.2.2.2.2.1
theorem akT {p:aC} {f:Frame} {w k:Int} {j:Nat} (ag:((bE (nth p.O w)).map (·.be)).Nodup) (h:j<(bE (nth p.O w)).length) (hk:((bE (nth p.O w))[j].be==k)=true):oP p f w k j=false:=by
 unfold oP
 rw[List.any_eq_false]
 intro l aw
 obtain⟨i,hi,rfl⟩:=List.mem_take_iff_getElem.1 aw
 have fC:i<(bE (nth p.O w)).length:=by omega
 intro hc
 rw[Bool.and_eq_true] at hc
 have aW:(bE (nth p.O w))[i].be=k:=by simpa using hc.1
 have e2:(bE (nth p.O w))[j].be=k:=by simpa using hk
 have:=(List.getElem_inj (xs:=(bE (nth p.O w)).map (·.be)) (i:=i) (j:=j) (h₀:=by simpa using fC) (h₁:=by simpa using h) ag).1 (by simp[aW,e2])
 omega
def abr (p:aC) (f:Frame) (w k:Int) (x:List Int) (a b:Bool) (lM:List Int) (j:Int) (ib bS:Bool):Prop:=
 bW (bE (nth p.O w)).length (fun _=>false) j∧lM=(if(oP p f w k j.toNat&&(jl p f k || kI p f k))=true then x++[k] else x)∧ib=(a || (oP p f w k j.toNat&&jl p f k))∧bS=(b || (oP p f w k j.toNat&&kI p f k))
def ze (p:aC) (f:Frame) (w v:Int):Bool:= !(dZ (fun k=>k7 p f w k&&jl p f k) v).isEmpty
def DK (p:aC) (f:Frame) (w v:Int):Bool:= !(dZ (fun k=>k7 p f w k&&kI p f k) v).isEmpty
def zo (p:aC) (f:Frame) (w v:Int):Int:=if ze p f w v=true then 5 else if DK p f w v=true then 6 else 0
def sx (a:Int) (l:List cU) (k:Int):Int:=l.foldl (fun a x=>bif x.be==k then x.bj else a) a
theorem VM {l:List cU} {k:Int} (h: ∀x∈l,(x.be==k)=false): ∀a,sx a l k=a:=by
 induction l with
 | nil=>intro a;rfl
 | cons x l br=>
  intro a
  show sx (bif x.be==k then x.bj else a) l k=a
  rw[h x List.mem_cons_self]
  exact br (fun y bi=>h y (List.mem_cons_of_mem _ bi)) a
theorem L1 {l:List cU} {k:Int} (ag:(l.map (·.be)).Nodup) {x:cU} (hx:x∈l) (hk:(x.be==k)=true): ∀a,sx a l k=x.bj:=by
 induction l with
 | nil=>cases hx
 | cons y l br=>
  intro a
  show sx (bif y.be==k then y.bj else a) l k=x.bj
  rw[List.map_cons,List.nodup_cons] at ag
  rcases List.mem_cons.1 hx with rfl | hx
  ·rw[hk]
   refine VM (fun z aB=> ?_) _
   have hk:x.be=k:=by simpa using hk
   rw[←hk,beq_eq_false_iff_ne]
   intro e
   exact ag.1 (List.mem_map.2 ⟨z,aB,e⟩)
  ·exact br ag.2 hx _
theorem ai3 {p:aC} {f:Frame} {w k:Int} (h:dV p=true) (hw:w.toNat<p.O.length):((sx 0 (bE (nth p.O w)) k==0) || (sx 0 (bE (nth p.O w)) k==(nth f.aH k).dc))= !k7 p f w k:=by
 have hm:=dz hw
 have ag:=Mg h hm
 cases hf:first (bE (nth p.O w)) (fun x=>x.be==k) with
 | none=>
  have dS:=tk hf
  rw[VM dS,show k7 p f w k=false from List.any_eq_false.2 fun x hx=>by rw[dS x hx];simp];rfl
 | some j=>
  obtain⟨h1,h2⟩:=Jm hf
  have aw:=Gs h hm h1
  rw[L1 ag h1 h2]
  have z:((nth (bE (nth p.O w)) (j:Int)).bj==0)=false:=by rw[beq_eq_false_iff_ne];omega
  rw[z,Bool.false_or]
  have ai:k7 p f w k= !((nth f.aH k).dc==(nth (bE (nth p.O w)) (j:Int)).bj):=by
   cases hb:((nth f.aH k).dc==(nth (bE (nth p.O w)) (j:Int)).bj) with
   | false=>exact List.any_eq_true.2 ⟨_,h1,by rw[h2,hb];rfl⟩
   | true=>
    refine List.any_eq_false.2 fun x hx hc=> ?_
    rw[Bool.and_eq_true] at hc
    have aW:=L1 ag hx hc.1 0
    rw[L1 ag h1 h2] at aW
    rw[aW] at hb
    rw[hb] at hc;cases hc.2
  rw[ai,Bool.not_not,Bool.eq_iff_iff,beq_iff_eq,beq_iff_eq]
  exact⟨Eq.symm,Eq.symm⟩
def dJ (p:aC):Frame:=if dV p=true then⟨true,List.replicate p.ak.toNat false,List.replicate p.bb.length ⟨1,1⟩,p.O.map fun w=>gZ w.ak.length⟩ else⟨false,[],[],[]⟩
def j2 (l:List cU) (q:List bx):List bx:=l.foldl (fun q x=>q.set x.be.toNat ⟨x.bj,(nth q x.be).bm⟩) q
theorem DG (l:List cU): ∀q:List bx,(j2 l q).length=q.length:=by
 induction l with
 | nil=>intro q;rfl
 | cons x l br=>intro q;show(j2 l _).length=_;rw[br,List.length_set]
theorem XP {l:List cU} {q:List bx} {j:Nat} (h:j<l.length):j2 (l.take (j+1)) q=(j2 (l.take j) q).set l[j].be.toNat ⟨l[j].bj,(nth (j2 (l.take j) q) l[j].be).bm⟩:=by
 unfold j2
 rw[List.take_succ_eq_append_getElem h,List.foldl_append];rfl
def l8 (p:aC) (i:Nat) (h:aq):aq:=if h.ar=3 then(if IntKind.i64.wrap (h.bG - 1)=0 then cM p i else{h with bG:=IntKind.i64.wrap (h.bG - 1)}) else h
def h8 (p:aC):Nat→List aq→List aq
 | 0,ws=>ws
 | n+1,ws=>let g:=h8 p n ws;g.set n (l8 p n (nth g n))
theorem D_ (p:aC) (ws:List aq): ∀n,(h8 p n ws).length=ws.length
 | 0=>rfl
 | n+1=>by show(List.set _ _ _).length=_;rw[List.length_set];exact D_ p ws n
def e1 (p:aC) (f:Frame) (e:Event):Int:=
 if e.op=1 then gj p f e.aA
 else if e.op=2 then(if(nth f.O e.aA).ar≠1∧(nth f.O e.aA).ar≠2 then 2 else 0)
 else if e.op=6 then(if jl p f e.aA=true then 2 else if kI p f e.aA=true then 3 else 0)
 else 0
def iz (p:aC) (f:Frame) (e:Event):Frame:=
 if e.op=1 then{f with aH:=j2 (bE (nth p.O e.aA)) f.aH,O:=f.O.set e.aA.toNat {nth f.O e.aA with ar:=1}}
 else if e.op=2 then(if((nth f.O e.aA).bI&&hd f (nth p.O e.aA).ei)=true then{f with O:=f.O.set e.aA.toNat {nth f.O e.aA with ar:=3,bG:=p.ct}} else{f with O:=f.O.set e.aA.toNat (cM p e.aA)})
 else if e.op=3∨e.op=4 then{f with aN:=f.aN.set e.aA.toNat (e.op==3)}
 else if e.op=5 then{f with aH:=f.aH.set e.aA.toNat ⟨(nth f.aH e.aA).dc,e.bj⟩}
 else if e.op=6 then{f with aH:=f.aH.set e.aA.toNat ⟨e.bj,(nth f.aH e.aA).bm⟩}
 else if e.op=7 then{f with O:=h8 p f.O.length f.O}
 else f
def lh (p:aC) (f:Frame) (e:Event):fv:=if e1 p f e≠0 then⟨e1 p f e,f⟩ else⟨0,ef p (iz p f e)⟩
def IS (p:aC) (f:Frame) (e:Event):Prop:=Fit p f∧e8 p e=true
theorem iM.sL {p:aC} {f:Frame} (h:iM p f) {i:Nat} {x:aq} (hx:i<f.O.length→x.ah.length=(nth p.O i).ak.length∧0≤x.a7∧x.a7≤x.ah.length):iM p {f with O:=f.O.set i x}:=by
 refine⟨h.aN,h.aH,by rw[List.length_set];exact h.O,fun j y w h1 h2=> ?_,fun y bi=> ?_⟩
 ·replace h1:(f.O.set i x)[j]?=some y:=h1
  rw[List.getElem?_set] at h1
  split at h1
  ·rename_i e;subst e
   split at h1
   ·rename_i ag
    cases h1
    rw[(hx ag).1,jv (by have:=h.O;omega)]
    rw[List.getElem?_eq_getElem (by have:=h.O;omega)] at h2
    cases h2;rfl
   ·cases h1
  ·exact h.ah j y w h1 h2
 ·rcases List.mem_or_eq_of_mem_set bi with bi | rfl
  ·exact h.a7 y bi
  ·by_cases ag:i<f.O.length
   ·exact(hx ag).2
   ·rw[List.set_eq_of_length_le (by omega)] at bi
    exact h.a7 _ bi
theorem iM.at {p:aC} {f:Frame} (h:iM p f) {i:Nat} (hi:i<f.O.length):(nth f.O i).ah.length=(nth p.O i).ak.length∧0≤(nth f.O i).a7∧(nth f.O i).a7≤(nth f.O i).ah.length:=by
 have al:i<p.O.length:=by have:=h.O;omega
 refine⟨h.ah i _ _ ?_ ?_,h.a7 _ (dz (by simpa using hi))⟩
 ·rw[jv hi];exact List.getElem?_eq_getElem hi
 ·rw[jv al];exact List.getElem?_eq_getElem al
theorem Ku (n:Nat):(gZ n).ah.length=n∧0≤(gZ n).a7∧(gZ n).a7≤(gZ n).ah.length:=by simp[gZ]
theorem Pk {p:aC} {f:Frame} (h:iM p f): ∀n,iM p {f with O:=h8 p n f.O}
 | 0=>h
 | n+1=>by
  have br:=Pk h n
  show iM p {f with O:=(h8 p n f.O).set n (l8 p n (nth (h8 p n f.O) n))}
  refine iM.sL br (i:=n) fun ag=> ?_
  have aG:=br.at ag
  unfold l8
  split
  ·split
   ·exact Ku _
   ·exact aG
  ·exact aG
theorem iM.ik {p:aC} {f:Frame} (h:iM p f) {o:List Bool} {q:List bx} (ai:o.length=f.aN.length) (U:q.length=f.aH.length):iM p {f with aN:=o,aH:=q}:=
 ⟨by show(o.length:Int)=_;rw[ai];exact h.aN,by show q.length=_;rw[U];exact h.aH,h.O,h.ah,h.a7⟩
theorem IR {p:aC} {f:Frame} {e:Event} (h:iM p f) (az:e.op=1∨e.op=2→0≤e.aA∧e.aA<p.O.length):iM p (iz p f e):=by
 unfold iz
 split
 ·rename_i ai
  have a6:=az (.inl ai)
  have aw:=h.O
  have aG:=h.at (i:=e.aA.toNat) (by omega)
  rw[kH a6.1] at aG
  exact iM.sL (h.ik rfl (DG _ _)) fun _=>aG
 ·split
  ·rename_i ai
   have a6:=az (.inr ai)
   have aw:=h.O
   have aG:=h.at (i:=e.aA.toNat) (by omega)
   rw[kH a6.1] at aG
   split
   ·exact h.sL fun _=>aG
   ·refine h.sL fun _=> ?_
    have:=Ku (nth p.O e.aA).ak.length
    rw[kH a6.1];exact this
  ·split
   ·exact h.ik (List.length_set) rfl
   ·split
    ·exact h.ik rfl (List.length_set)
    ·split
     ·exact h.ik rfl (List.length_set)
     ·split
      ·exact Pk h _
      ·exact h
theorem tg {p:aC} {e:Event} (h:e8 p e=true) (ai:e.op=1∨e.op=2):0≤e.aA∧e.aA<p.O.length:=by
 rw[I6 ai,Bool.and_eq_true] at h
 exact vl h.1
theorem I_ {p:aC} {e:Event} (h:e8 p e=true) (ai:e.op=3∨e.op=4):0≤e.aA∧e.aA<p.ak:=by
 rw[I7 (by omega) ai,Bool.and_eq_true] at h
 exact vl h.1
theorem za {p:aC} {e:Event} (h:e8 p e=true) (ai:e.op=5∨e.op=6):0≤e.aA∧e.aA<p.bb.length:=by
 rcases ai with ai | ai
 ·rw[E7 ai,Bool.and_eq_true] at h;exact vl h.1
 ·rw[E8 ai,Bool.and_eq_true] at h;exact vl h.1
theorem zd {p:aC} {f:Frame} (h:Fit p f):ho f:=by
 have ci:=h.in
 have cO:=h.fr
 have h1:=ci.cx
 have h2:=ci.be
 have au:=ci.O
 have a8:=cO.aN
 have bQ:=cO.aH
 have cv:=cO.O
 refine⟨by omega,by omega,by omega,fun x hx=> ?_⟩
 obtain⟨i,hi,rfl⟩:=List.mem_iff_getElem.1 hx
 have al:i<p.O.length:=by omega
 have:=(ci.ak _ (List.getElem_mem al)).2.1
 rw[cO.ah i _ _ (List.getElem?_eq_getElem hi) (List.getElem?_eq_getElem al)];omega
theorem QN {p:aC} {f:Frame} {e:Event} (h:Fit p f) (he:e8 p e=true):Fit p (lh p f e).frame:=by
 unfold lh
 split
 ·exact h
 ·exact⟨h.nL,x2 (IR h.fr (tg he)) _⟩
theorem Ij {p:aC} (h:dV p=true):Fit p (dJ p):=by
 have ci:=xS h
 have h1:=ci.cx
 unfold dJ
 rw[if_pos h]
 refine⟨h,by show((List.replicate _ _).length:Int)=_;rw[List.length_replicate];omega,by show(List.replicate _ _).length=_;rw[List.length_replicate],by show(List.map _ _).length=_;rw[List.length_map],fun i x w aW e2=> ?_,fun x hx=> ?_⟩
 ·replace aW:(List.map _ _)[i]?=some x:=aW
  rw[List.getElem?_map,e2] at aW
  cases aW;simp[gZ]
 ·obtain⟨w,_,rfl⟩:=List.mem_map.1 hx
  exact(Ku _).2
def lB (p:aC):Frame→List Event→List fv
 | _,[]=>[]
 | f,e::es=>if e8 p e=true then lh p f e::lB p (lh p f e).frame es else⟨1,f⟩::lB p f es
def k4 (p:aC):Frame→List Event→Frame
 | f,[]=>f
 | f,e::es=>k4 p (if e8 p e=true then(lh p f e).frame else f) es
def h4 (p:aC) (es:List Event):List fv:=if dV p=true∧es.length≤1000 then lB p (dJ p) es else[]
theorem Xw (p:aC) (e:Event): ∀(es:List Event) (f:Frame),lB p f (es++[e])=lB p f es++[if e8 p e=true then lh p (k4 p f es) e else⟨1,k4 p f es⟩]∧k4 p f (es++[e])=(if e8 p e=true then(lh p (k4 p f es) e).frame else k4 p f es)
 | [],f=>by
  show(if e8 p e=true then _ else _)=_∧_
  constructor
  ·by_cases h:e8 p e=true
   ·rw[if_pos h];simp[lB,k4,h]
   ·rw[if_neg h];simp[lB,k4,h]
  ·rfl
 | d::es,f=>by
  have br:=fun g=>Xw p e es g
  by_cases h:e8 p d=true
  ·simp only[List.cons_append,lB,k4,if_pos h]
   exact⟨by rw[(br _).1],(br _).2⟩
  ·simp only[List.cons_append,lB,k4,if_neg h]
   exact⟨by rw[(br _).1],(br _).2⟩
theorem LV {p:aC}: ∀(es:List Event) {f:Frame},Fit p f→Fit p (k4 p f es)
 | [],f,h=>h
 | e::es,f,h=>by
  unfold k4
  by_cases he:e8 p e=true
  ·rw[if_pos he];exact LV es (QN h he)
  ·rw[if_neg he];exact LV es h
theorem Hh (p:aC): ∀(es:List Event) (f:Frame),(lB p f es).length=es.length
 | [],f=>rfl
 | e::es,f=>by
  unfold lB
  split
  ·rw[List.length_cons,Hh p es];rfl
  ·rw[List.length_cons,Hh p es];rfl
section
variable {P:Program} {esc:List Nat} {ops:Array Oper} {n:Nat} {X:List Item} {i0:Nat} {A:List (Nat×AV)} {L:List (Nat×List AV)} {H:List Blk} {K:List (Nat×AV)→List (Nat×List AV)→List Blk→Prop}
theorem anl (aZ:Nat) (d:Option Nat) (N:List (Nat×AV)) {i:Int} (B:Int) (z:List AV) (F:List Blk→Prop) (m:Nat) (lf:List Blk) (az:0≤i∧B*i≤140737488355328∧i≤4611686018427387904) (aw:H.length=m) (hx:H++[⟨0,1,List.map aP (List.replicate i.toNat false)⟩]=lf) (cO:F lf)
  (h:evSD P esc ops n (X.drop (i0+aZ)) (cS d (.ref m 0 0 (List.replicate i.toNat false).length false) N A) L lf K) (aB:z=aP false:=by rfl)
  (e: ∀K,evSD P esc ops n ((X.drop i0).take aZ) A L H K=(0≤i∧i≤i∧B*i≤140737488355328∧i≤4611686018427387904∧F (H++[⟨0,1,List.replicate i.toNat z⟩])∧K (cS d (.ref H.length 0 0 i.toNat false) N A) L (H++[⟨0,1,List.replicate i.toNat z⟩])):=by intro K;kernel_rfl):evSD P esc ops n (X.drop i0) A L H K:=by
 rw[lS X i0 aZ,e]
 subst aw;subst hx;subst aB
 rw[List.length_replicate,List.map_replicate] at h
 rw[List.map_replicate] at cO
 exact⟨az.1,Int.le_refl _,az.2.1,az.2.2,⟨cO,h⟩⟩
end
theorem akV (a b:List cU) (q:List bx):j2 (a++b) q=j2 b (j2 a q):=by unfold j2;rw[List.foldl_append]
def lc (w:Way):List (List cU):=[w.bm,w.cB]
theorem ZY (w:Way):(lc w).flatten=bE w:=by simp[lc,bE]
theorem ano {w:Way} {j:Nat} {q:List bx} (h:j<(lc w).length):j2 ((lc w).take (j+1)).flatten q=j2 (lc w)[j] (j2 ((lc w).take j).flatten q):=by
 rw[List.take_succ_eq_append_getElem h,List.flatten_append,akV];simp
theorem anp {w:Way} {v:Int} {x:cU} (h:v.toNat<(lc w).length) (hx:x∈nth (lc w) v):x∈bE w:=by
 rw[←ZY];exact List.mem_flatten.2 ⟨_,dz h,hx⟩
def UO (p:aC) (t:Int) (k:Bool) (o:List Bool) (q:List bx) (w:List aq) (i:List Nat) (b:List (List Bool)):Prop:=
 fP w i b∧uI p∧0≤t∧t<w.length∧t<p.O.length∧q.length=p.bb.length
def Gr (p:aC) (t:Int) (k:Bool) (o:List Bool) (q:List bx) (w:List aq) (i:List Nat) (b:List (List Bool)) (lZ:List Bool) (uc:List bx) (w':List aq) (ji:List Nat) (bS:List (List Bool)):Prop:=
 uc=j2 (bE (nth p.O t)) q∧fP w' ji bS∧view w' ji bS=(view w i b).set t.toNat {nth (view w i b) t with ar:=1}
def UN (p:aC) (t:Int) (k:Bool) (o:List Bool) (q:List bx) (w:List aq) (i:List Nat) (b:List (List Bool)):Prop:=
 fP w i b∧uI p∧0≤t∧t<w.length∧t<p.O.length∧(o.length:Int)=p.ak
def EC (p:aC) (f:Frame) (t:Int):aq:=
 if((nth f.O t).bI&&hd f (nth p.O t).ei)=true then{nth f.O t with ar:=3,bG:=p.ct} else gZ (nth f.O t).ah.length
def uN (f:Frame) (t:Int):Int:=if(nth f.O t).ar≠1∧(nth f.O t).ar≠2 then 2 else 0
def xA (p:aC) (t:Int) (k:Bool) (o:List Bool) (q:List bx) (w:List aq) (i:List Nat) (b:List (List Bool)) (lZ:List Bool) (uc:List bx) (w':List aq) (ji:List Nat) (bS:List (List Bool)) (r:Int):Prop:=
 fP w' ji bS∧r=uN (cE k o q w i b) t∧view w' ji bS=(if uN (cE k o q w i b) t=0 then(view w i b).set t.toNat (EC p (cE k o q w i b) t) else view w i b)
def jZ (p:aC) (f:Frame) (e:Event):Frame:=if e1 p f e=0 then iz p f e else f
def l4 (p:aC) (f:Frame) (e:Event):fv:=if(gX p f&&e8 p e)=true then⟨e1 p f e,ef p (jZ p f e)⟩ else⟨1,⟨false,[],[],[]⟩⟩
def M5 (p:aC) (f:Frame) (e:Event):Prop:=ho f
theorem VY {p:aC} {f:Frame} {e:Event} (h:iM p f) (he:e8 p e=true):iM p (jZ p f e):=by
 unfold jZ
 split
 ·exact IR h (tg he)
 ·exact h
theorem S4 {p:aC} {f:Frame} (h:iM p f) {t:Int} (az:0≤t) (h1:t<p.O.length):gZ (nth f.O t).ah.length=cM p t:=by
 have aw:=h.O
 have aG:=h.at (i:=t.toNat) (by omega)
 rw[kH az,kH az] at aG
 unfold cM;rw[aG.1]
def oa (p:aC) (f:Frame) (e:Event):fv:=if(l4 p f e).code=1 then⟨(l4 p f e).code,f⟩ else l4 p f e
def o0 (p:aC):Frame→List Event→List fv
 | _,[]=>[]
 | f,e::es=>oa p f e::o0 p (oa p f e).frame es
def l5 (p:aC):Frame→List Event→Frame
 | f,[]=>f
 | f,e::es=>l5 p (oa p f e).frame es
def vU (p:aC) (es:List Event):List fv:=if dV p=true∧es.length≤1000 then o0 p (dJ p) es else[]
theorem alF {p:aC} {f:Frame} {e:Event} (hf:ho f):ho (l4 p f e).frame:=by
 unfold l4
 split
 ·rename_i h
  rw[Bool.and_eq_true] at h
  have hk:=B7 h.1
  exact zd ⟨hk.nL,x2 (VY hk.fr h.2) _⟩
 ·exact⟨Nat.zero_le _,Nat.zero_le _,Nat.zero_le _,fun h bz=>by cases bz⟩
theorem alH {p:aC} {f:Frame} {e:Event} (hf:ho f):ho (oa p f e).frame:=by
 unfold oa
 split
 ·exact hf
 ·exact alF hf
theorem Ya {p:aC}: ∀(es:List Event) {f:Frame},ho f→ho (l5 p f es)
 | [],f,h=>h
 | e::es,f,h=>Ya es (alH h)
theorem N8 (p:aC) (e:Event): ∀(es:List Event) (f:Frame),o0 p f (es++[e])=o0 p f es++[oa p (l5 p f es) e]∧l5 p f (es++[e])=(oa p (l5 p f es) e).frame
 | [],f=>⟨rfl,rfl⟩
 | d::es,f=>⟨by
   show oa p f d::o0 p _ (es++[e])=_
   rw[(N8 p e es _).1];rfl,by
   show l5 p _ (es++[e])=_
   rw[(N8 p e es _).2];rfl⟩
theorem X_ (p:aC): ∀(es:List Event) (f:Frame),(o0 p f es).length=es.length
 | [],f=>rfl
 | e::es,f=>by show(o0 p _ es).length+1=_;rw[X_ p es];rfl
def jF (p:aC) (f:Frame) (i:Nat) (h:aq):aq:=
 let s:=(nth p.O i).ak
 if h.ar=0 then h else
 let h:=if h.ar≠4∧eb f (nth s 0)=true then{h with ar:=4,bG:=0} else h
 let h:=if h.ar=1∨h.ar=2 then(if gD p f i=true then{h with ar:=2,bI:=true} else{h with ar:=1}) else h
 if h.ar=4 then hY s f h else h
theorem am8 (p:aC) (f:Frame) (i:Nat):mN p f i=jF p f i (nth f.O i):=rfl
theorem ZL {p:aC} {f g:Frame} {i:Nat} {h:aq} (h1:f.aN=g.aN) (h2:f.aH=g.aH):jF p f i h=jF p g i h:=by
 have aW: ∀x,eb f x=eb g x:=fun x=>by unfold eb;rw[h1]
 have e2: ∀s x,hY s f x=hY s g x:=fun s x=>WC h1
 have cF:gD p f i=gD p g i:=MB h1 h2
 unfold jF
 simp only[aW,e2,cF]
section
variable {p:aC} {f:Frame} {i:Nat} {h:aq}
theorem Bf (az:h.ar=0):jF p f i h=h:=by unfold jF;simp[az]
theorem Pb (az:h.ar=4):jF p f i h=hY (nth p.O i).ak f h:=by unfold jF;simp[az]
theorem ZR (az:h.ar≠0) (a8:h.ar≠4) (ai:eb f (nth (nth p.O i).ak 0)=true):jF p f i h=hY (nth p.O i).ak f {h with ar:=4,bG:=0}:=by unfold jF;simp[az,a8,ai]
theorem swp (az:h.ar=1∨h.ar=2) (ai:eb f (nth (nth p.O i).ak 0)=false) (ae:gD p f i=true):jF p f i h={h with ar:=2,bI:=true}:=by
 unfold jF
 rcases az with az | az<;>simp[az,ai,ae]
theorem Pc (az:h.ar=1∨h.ar=2) (ai:eb f (nth (nth p.O i).ak 0)=false) (ae:gD p f i=false):jF p f i h={h with ar:=1}:=by
 unfold jF
 rcases az with az | az<;>simp[az,ai,ae]
theorem Pd (h1:h.ar≠1) (h2:h.ar≠2) (a8:h.ar≠4) (ai:eb f (nth (nth p.O i).ak 0)=false):jF p f i h=h:=by
 unfold jF
 simp[h1,h2,a8,ai]
end
theorem aaC (f:Frame): ∀(b:List Bool) (s:List Int),List.zipWith (fun b x=>b || eb f x) (List.zipWith (fun b x=>b || eb f x) b s) s=List.zipWith (fun b x=>b || eb f x) b s
 | [],s=>rfl
 | b::bs,[]=>rfl
 | b::bs,x::s=>by
  simp only[List.zipWith_cons_cons,aaC f bs s]
  cases b<;>cases eb f x<;>rfl
theorem RE {s:List Int} {f:Frame} {ah:List Bool}: ∀(n g:Nat),s.length≤n+g→ ¬(gz s f ah n g<s.length∧ah.getD (gz s f ah n g) false=true∧eb f (s.getD (gz s f ah n g) 0)=false∧(gz s f ah n g+1=s.length∨ah.getD (gz s f ah n g+1) false=true))
 | 0,g,h=>fun bz=>by have:=bz.1;unfold gz at this;omega
 | n+1,g,h=>by
  by_cases hc:g<s.length∧ah.getD g false=true∧eb f (s.getD g 0)=false∧(g+1=s.length∨ah.getD (g+1) false=true)
  ·have e:gz s f ah (n+1) g=gz s f ah n (g+1):=if_pos hc
   rw[e];exact RE n (g+1) (by omega)
  ·have e:gz s f ah (n+1) g=g:=if_neg hc
   rw[e];exact hc
theorem ad7 {s:List Int} {f:Frame} {ah:List Bool} {n m g:Nat} (h:s.length≤n+g):gz s f ah m (gz s f ah n g)=gz s f ah n g:=Fo (RE n g h)
theorem RG {s:List Int} {f:Frame} {ah:List Bool}: ∀(n g:Nat),(∀j,j<g→ah.getD j false=true)→ ∀j,j<gz s f ah n g→ah.getD j false=true
 | 0,g,h=>h
 | n+1,g,h=>by
  unfold gz
  split
  ·rename_i hc
   refine RG n (g+1) fun j al=> ?_
   by_cases e:j=g
   ·subst e;exact hc.2.1
   ·exact h j (by omega)
  ·exact h
theorem ajR (s:List Int) (f:Frame) (h:aq) (a8:h.ar=4):(hY s f h=gZ s.length)∨((hY s f h).ar=4∧hY s f (hY s f h)=hY s f h):=by
 unfold hY
 simp only
 split
 ·exact .inl rfl
 ·rename_i ax
  refine .inr ⟨a8,?_⟩
  simp only[aaC,Int.toNat_natCast]
  rw[ad7 (by omega),if_neg ax]
theorem am_ (p:aC) (f:Frame) (i:Nat) (h:aq):jF p f i (jF p f i h)=jF p f i h:=by
 have key: ∀x:aq,x.ar=4→jF p f i (hY (nth p.O i).ak f x)=hY (nth p.O i).ak f x:=fun x hx=>by
  rcases ajR (nth p.O i).ak f x hx with e | ⟨aW,e2⟩
  ·rw[e];exact Bf rfl
  ·rw[Pb aW,e2]
 by_cases az:h.ar=0
 ·rw[Bf az,Bf az]
 by_cases a8:h.ar=4
 ·rw[Pb a8];exact key h a8
 cases ai:eb f (nth (nth p.O i).ak 0) with
 | true=>rw[ZR az a8 ai];exact key _ rfl
 | false=>
  by_cases pv:h.ar=1∨h.ar=2
  ·cases ae:gD p f i with
   | true=>rw[swp pv ai ae,swp (.inr rfl) ai ae]
   | false=>rw[Pc pv ai ae,Pc (.inl rfl) ai ae]
  ·rw[Pd (fun e=>pv (.inl e)) (fun e=>pv (.inr e)) a8 ai,Pd (fun e=>pv (.inl e)) (fun e=>pv (.inr e)) a8 ai]
theorem AK (p:aC) (f:Frame): ∀(n j:Nat),(io p n f).O[j]?=(f.O[j]?).map fun h=>if j<n then jF p f j h else h
 | 0,j=>by
  show f.O[j]?=_
  cases f.O[j]?<;>simp
 | n+1,j=>by
  show((io p n f).O.set n (mN p (io p n f) n))[j]?=_
  rw[List.getElem?_set]
  have s:=ul p f n
  split
  ·rename_i e;subst e
   have aw:=qp p f n
   by_cases ag:n<f.O.length
   ·rw[if_pos (by omega),am8,ZL s.2.1 s.2.2]
    have br:=AK p f n n
    rw[List.getElem?_eq_getElem ag,List.getElem?_eq_getElem (by omega)] at br
    have agc:(io p n f).O[n]=f.O[n]:=by simpa using br
    rw[jv (by omega),agc,List.getElem?_eq_getElem ag]
    simp
   ·rw[if_neg (by omega),List.getElem?_eq_none (by omega)];rfl
  ·rename_i bU
   rw[AK p f n j]
   congr 1
   funext h
   by_cases al:j<n
   ·rw[if_pos al,if_pos (by omega)]
   ·rw[if_neg al,if_neg (by omega)]
theorem XT {p:aC} {f:Frame} {i:Int} (az:0≤i) (h1:i<f.O.length):nth (ef p f).O i=jF p f i.toNat (nth f.O i):=by
 have e:=AK p f f.O.length i.toNat
 have aw:=qp p f f.O.length
 rw[List.getElem?_eq_getElem (by omega),List.getElem?_eq_getElem (show i.toNat<f.O.length by omega)] at e
 unfold ef
 rw[fU (by omega),fU (show i.toNat<f.O.length by omega)]
 simpa[show i.toNat<f.O.length by omega] using e
theorem akY (p:aC) (f:Frame):(ef p (ef p f)).O=(ef p f).O:=by
 apply List.ext_getElem?
 intro j
 have s:=ul p f f.O.length
 have aw:=qp p f f.O.length
 unfold ef
 rw[AK,AK,aw]
 cases h:f.O[j]? with
 | none=>rfl
 | some x=>
  have al:=(List.getElem?_eq_some_iff.1 h).1
  simp only[Option.map_some,if_pos al]
  rw[ZL s.2.1 s.2.2,am_]
structure pY (n:Nat) (ct:Int) (h:aq):Prop where
 aj:0≤h.ar∧h.ar≤4
 len:h.ah.length=n
 a7:0≤h.a7∧h.a7<n
 still:h.ar≠4→h.a7=0∧ ∀b∈h.ah,b=false
 ah: ∀j,j<h.a7.toNat→h.ah.getD j false=true
 t3:h.ar=3→h.bI=true∧1≤h.bG∧h.bG≤ct
 t:h.ar≠3→h.bG=0
 ej:h.ar=0→h.bI=false
 s2:h.ar=2→h.bI=true
theorem SI {p:aC} {f:Frame} {i:Int}:hR p f i=true↔pY (nth p.O i).ak.length p.ct (nth f.O i):=by
 unfold hR
 simp only
 generalize nth f.O i=h
 generalize (nth p.O i).ak.length=n
 have eT: ∀(l:List Bool) (k:Nat),k≤l.length→((l.take k).all (fun b=>b)=true↔ ∀j,j<k→l.getD j false=true):=fun l k hk=>by
  rw[List.all_eq_true]
  constructor
  ·intro h j al
   have:l[j]'(by omega)=true:=h _ (List.mem_take_iff_getElem.2 ⟨j,by omega,rfl⟩)
   rw[List.getD_eq_getElem?_getD,List.getElem?_eq_getElem (by omega)];exact this
  ·intro h x hx
   obtain⟨j,al,rfl⟩:=List.mem_take_iff_getElem.1 hx
   have:=h j (by omega)
   rw[List.getD_eq_getElem?_getD,List.getElem?_eq_getElem (by omega)] at this;exact this
 rw[Bool.and_eq_true,Bool.and_eq_true,Bool.and_eq_true,Bool.and_eq_true,Bool.and_eq_true,lr,lr,decide_eq_true_eq,Bool.or_eq_true,Bool.and_eq_true,decide_eq_true_eq,decide_eq_true_eq,List.all_eq_true]
 constructor
 ·rintro⟨⟨⟨⟨⟨h1,h2⟩,au⟩,a8⟩,bQ⟩,cv⟩
  refine⟨h1,h2,by omega,fun ag=> ?_,(eT _ _ (by omega)).1 bQ,fun e=> ?_,fun e=> ?_,fun e=> ?_,fun e=> ?_⟩
  ·rcases a8 with a8 | a8
   ·exact absurd a8 ag
   ·exact⟨a8.1,fun b hb=>by have:=a8.2 b hb;simpa using this⟩
  ·rw[if_pos e,Bool.and_eq_true,lr] at cv;exact cv
  ·rw[if_neg e] at cv;simp only[Bool.and_eq_true,decide_eq_true_eq] at cv;exact cv.1.1
  ·rw[if_neg (by omega)] at cv;simp only[Bool.and_eq_true,decide_eq_true_eq,Bool.or_eq_true,Bool.not_eq_true'] at cv
   rcases cv.1.2 with h | h
   ·exact absurd e h
   ·exact h
  ·rw[if_neg (by omega)] at cv;simp only[Bool.and_eq_true,decide_eq_true_eq,Bool.or_eq_true,Bool.not_eq_true'] at cv
   rcases cv.2 with h | h
   ·exact absurd e h
   ·exact h
 ·intro H
  have ax:=H.a7
  have aw:=H.len
  refine⟨⟨⟨⟨⟨H.aj,H.len⟩,by omega⟩,?_⟩,(eT _ _ (by omega)).2 H.ah⟩,?_⟩
  ·by_cases a8:h.ar=4
   ·exact .inl a8
   ·exact .inr ⟨(H.still a8).1,fun b hb=>by rw[(H.still a8).2 b hb];rfl⟩
  ·by_cases au:h.ar=3
   ·rw[if_pos au,Bool.and_eq_true,lr];exact H.t3 au
   ·rw[if_neg au];simp only[Bool.and_eq_true,decide_eq_true_eq,Bool.or_eq_true,Bool.not_eq_true']
    refine⟨⟨H.t au,?_⟩,?_⟩
    ·by_cases az:h.ar=0
     ·exact .inr (H.ej az)
     ·exact .inl az
    ·by_cases az:h.ar=2
     ·exact .inr (H.s2 az)
     ·exact .inl az
theorem FS {n:Nat} {ct:Int} (h:0<n):pY n ct (gZ n) where
 aj:=⟨show(0:Int)≤0 by decide,show(0:Int)≤4 by decide⟩
 len:=by simp[gZ]
 a7:=⟨Int.le_refl _,show(0:Int)<n by omega⟩
 still:=fun _=>⟨rfl,fun b hb=>(List.mem_replicate.1 hb).2⟩
 ah:=fun j al=>absurd al (Nat.not_lt_zero _)
 t3:=fun e=>absurd e (show ¬(0:Int)=3 by decide)
 t:=fun _=>rfl
 ej:=fun _=>rfl
 s2:=fun e=>absurd e (show ¬(0:Int)=2 by decide)
theorem SJ {n:Nat} {ct:Int} {s:List Int} {f:Frame} {h:aq} (ag:s.length=n) (az:0<n) (H:pY n ct h) (a8:h.ar=4):pY n ct (hY s f h):=by
 subst ag
 have aB:(List.zipWith (fun b x=>b || eb f x) h.ah s).length=s.length:=by rw[List.length_zipWith,H.len];omega
 have ax:=H.a7
 have u2:=(Jz (s:=s) (f:=f) (ah:=List.zipWith (fun b x=>b || eb f x) h.ah s) s.length h.a7.toNat (by omega)).2
 have nc: ∀j,h.ah.getD j false=true→(List.zipWith (fun b x=>b || eb f x) h.ah s).getD j false=true:=fun j al=>by
  have mY:j<h.ah.length:=by
   by_cases mY:j<h.ah.length
   ·exact mY
   ·rw[List.getD_eq_getElem?_getD,List.getElem?_eq_none (by omega)] at al;cases al
  have aw:=H.len
  rw[List.getD_eq_getElem?_getD,List.getElem?_eq_getElem mY] at al
  rw[List.getD_eq_getElem?_getD,List.getElem?_eq_getElem (by omega),List.getElem_zipWith]
  have al:h.ah[j]=true:=al
  rw[al];rfl
 unfold hY
 simp only
 split
 ·exact FS az
 ·rename_i bU
  exact⟨H.aj,aB,⟨Int.natCast_nonneg _,by simp only;omega⟩,fun e=>absurd a8 e,by
   simp only[Int.toNat_natCast]
   exact RG _ _ fun j al=>nc j (H.ah j al),H.t3,H.t,H.ej,H.s2⟩
theorem afp {p:aC} {f:Frame} {i:Nat} {h:aq} {n:Nat} (ag:(nth p.O i).ak.length=n) (az:0<n) (H:pY n p.ct h):pY n p.ct (jF p f i h):=by
 by_cases iQ:h.ar=0
 ·rw[Bf iQ];exact H
 by_cases a8:h.ar=4
 ·rw[Pb a8];exact SJ ag az H a8
 have aS:=H.aj
 cases ai:eb f (nth (nth p.O i).ak 0) with
 | true=>
  rw[ZR iQ a8 ai]
  refine SJ ag az ⟨⟨show(0:Int)≤4 by decide,show(4:Int)≤4 by decide⟩,H.len,H.a7,fun e=>absurd rfl e,H.ah,fun e=>absurd e (show ¬(4:Int)=3 by decide),fun _=>rfl,fun e=>absurd e (show ¬(4:Int)=0 by decide),fun e=>absurd e (show ¬(4:Int)=2 by decide)⟩ rfl
 | false=>
  by_cases pv:h.ar=1∨h.ar=2
  ·have hs:=H.still a8
   have a6:=H.t (by omega)
   cases ae:gD p f i with
   | true=>
    rw[swp pv ai ae]
    exact⟨⟨show(0:Int)≤2 by decide,show(2:Int)≤4 by decide⟩,H.len,H.a7,fun _=>hs,H.ah,fun e=>absurd e (show ¬(2:Int)=3 by decide),fun _=>a6,fun e=>absurd e (show ¬(2:Int)=0 by decide),fun _=>rfl⟩
   | false=>
    rw[Pc pv ai ae]
    exact⟨⟨show(0:Int)≤1 by decide,show(1:Int)≤4 by decide⟩,H.len,H.a7,fun _=>hs,H.ah,fun e=>absurd e (show ¬(1:Int)=3 by decide),fun _=>a6,fun e=>absurd e (show ¬(1:Int)=0 by decide),fun e=>absurd e (show ¬(1:Int)=2 by decide)⟩
  ·rw[Pd (fun e=>pv (.inl e)) (fun e=>pv (.inr e)) a8 ai];exact H
theorem anb {p:aC} {f:Frame} {i:Nat} {h:aq} (hs:(jF p f i h).ar≠0):h.ar≠0:=fun e=>hs (by rw[Bf e];exact e)
structure qL (p:aC) (f:Frame):Prop where
 base:wQ p f=true
 ik: ∀x∈f.aH,lv x=true
 held: ∀i:Int,0≤i→i<f.O.length→pY (nth p.O i).ak.length p.ct (nth f.O i)
 bF: ∀i k:Int,0≤i→i<f.O.length→0≤k→k<f.O.length→nG p f i k=false
theorem Wl {p:aC} {f:Frame} (h:gX p f=true):qL p f∧ef p f=f:=by
 obtain⟨a,b,c,d,e⟩:=zg.1 h
 refine⟨⟨a,b,fun i i0 i1=>SI.1 (c i i0 i1),d⟩,?_⟩
 have s:=ul p f f.O.length
 have h1:(ef p f).ok=f.ok:=s.1
 have h2:(ef p f).aN=f.aN:=s.2.1
 have au:(ef p f).aH=f.aH:=s.2.2
 generalize ef p f=g at e h1 h2 au
 cases g;cases f
 simp only at e h1 h2 au
 subst e;subst h1;subst h2;subst au;rfl
theorem Qb {p:aC} {f g:Frame} (aw:g.O.length=f.O.length) (hs: ∀i:Int,0≤i→i<f.O.length→(nth g.O i).ar≠0→(nth f.O i).ar≠0)
  (h: ∀i k:Int,0≤i→i<f.O.length→0≤k→k<f.O.length→nG p f i k=false): ∀i k:Int,0≤i→i<g.O.length→0≤k→k<g.O.length→nG p g i k=false:=fun i k i0 i1 aZ dk=>by
 have h1:=h i k i0 (by omega) aZ (by omega)
 cases hb:nG p g i k with
 | false=>rfl
 | true=>
  unfold nG at hb h1
  simp only[Bool.and_eq_true,bne_iff_ne,ne_eq] at hb
  have s1:=hs i i0 (by omega) hb.2.2.1
  have s2:=hs k aZ (by omega) hb.2.2.2
  rw[show(i !=k)=true by simpa using hb.1,hb.2.1,show((nth f.O i).ar !=0)=true by simpa using s1,show((nth f.O k).ar !=0)=true by simpa using s2] at h1
  cases h1
theorem Hk {p:aC} (h:dV p=true) {i:Int} (i0:0≤i) (i1:i<p.O.length):0<(nth p.O i).ak.length:=
 List.length_pos_iff.2 ((xS h).ak _ (dz (by omega))).1
theorem WR {p:aC} {f:Frame} (h:qL p f):gX p (ef p f)=true:=by
 obtain⟨b1,b2,rR,wH,uL⟩:=oz.1 h.base
 have s:=ul p f f.O.length
 have aw:(ef p f).O.length=f.O.length:=qp p f f.O.length
 have h1:(ef p f).ok=f.ok:=s.1
 have h2:(ef p f).aN=f.aN:=s.2.1
 have au:(ef p f).aH=f.aH:=s.2.2
 refine zg.2 ⟨oz.2 ⟨b1,by rw[h1];exact b2,by rw[h2];exact rR,by rw[au];exact wH,by rw[aw];exact uL⟩,by rw[au];exact h.ik,fun i i0 i1=> ?_,Qb aw (fun i i0 i1 hs=> ?_) h.bF,(akY p f).symm⟩
 ·have S1:i<f.O.length:=by omega
  rw[SI,XT i0 S1]
  exact afp (by rw[kH i0]) (Hk b1 i0 (by omega)) (h.held i i0 S1)
 ·rw[XT i0 i1] at hs;exact anb hs
theorem GJ {α:Type} [Inhabited α] {l:List α} {t i:Int} {x:α} (t0:0≤t) (i0:0≤i) (i1:i<l.length):nth (l.set t.toNat x) i=if i=t then x else nth l i:=by
 rw[fU (by rw[List.length_set];omega),fU (show i.toNat<l.length by omega),List.getElem_set]
 by_cases e:i=t
 ·rw[if_pos (by omega),if_pos e]
 ·rw[if_neg (by omega),if_neg e]
theorem HR {p:aC} {ws:List aq} {i:Int} (i0:0≤i) (i1:i<ws.length): ∀n:Nat,nth (h8 p n ws) i=if i<n then l8 p i.toNat (nth ws i) else nth ws i
 | 0=>by rw[if_neg (by omega)];rfl
 | n+1=>by
  show nth ((h8 p n ws).set n (l8 p n (nth (h8 p n ws) n))) i=_
  have aw:=D_ p ws n
  have e:=GJ (l:=h8 p n ws) (t:=(n:Int)) (i:=i) (x:=l8 p n (nth (h8 p n ws) n)) (by omega) i0 (by omega)
  rw[Int.toNat_natCast] at e
  rw[e]
  by_cases ag:i=n
  ·subst ag
   rw[if_pos rfl,if_pos (by omega),HR i0 i1 n,if_neg (by omega),Int.toNat_natCast]
  ·rw[if_neg ag,HR i0 i1 n]
   by_cases hi:i<n
   ·rw[if_pos hi,if_pos (by omega)]
   ·rw[if_neg hi,if_neg (by omega)]
theorem afq {p:aC} (h:dV p=true):1≤p.ct∧p.ct≤300:=(vD.1 (xT h).1).2.1
theorem XO: ∀(l:List cU) (q:List bx),(∀x∈l,0≤x.be∧x.be<q.length∧(x.bj=1∨x.bj=2))→(∀x∈q,lv x=true)→ ∀x∈j2 l q,lv x=true
 | [],q,_,h=>h
 | y::l,q,aw,h=>by
  show ∀x∈j2 l (q.set y.be.toNat ⟨y.bj,(nth q y.be).bm⟩),lv x=true
  have bi:=aw y (List.mem_cons_self ..)
  refine XO l _ (fun x hx=>by rw[List.length_set];exact aw x (List.mem_cons_of_mem _ hx)) fun x hx=> ?_
  rcases List.mem_or_eq_of_mem_set hx with hx | rfl
  ·exact h x hx
  ·have:=h _ (dz (show y.be.toNat<q.length by omega))
   unfold lv at this ⊢
   rw[Bool.and_eq_true,lr,lr] at this ⊢
   exact⟨by show 1≤y.bj∧y.bj≤2;omega,this.2⟩
theorem WT {p:aC} {f:Frame} (h:qL p f) {ws:List aq} (aw:ws.length=f.O.length) (hk: ∀i:Int,0≤i→i<f.O.length→pY (nth p.O i).ak.length p.ct (nth ws i))
  (hs: ∀i:Int,0≤i→i<f.O.length→(nth ws i).ar≠0→(nth f.O i).ar≠0):qL p {f with O:=ws}:=by
 obtain⟨b1,b2,rR,wH,uL⟩:=oz.1 h.base
 exact⟨oz.2 ⟨b1,b2,rR,wH,by show(ws.length:Nat)=_;omega⟩,h.ik,fun i i0 i1=>hk i i0 (by rw[←aw];exact i1),Qb (f:=f) aw hs h.bF⟩
theorem WS {p:aC} {f:Frame} (h:qL p f) {t:Int} {x:aq} (t0:0≤t) (hk:pY (nth p.O t).ak.length p.ct x) (hs:x.ar≠0→(nth f.O t).ar≠0):qL p {f with O:=f.O.set t.toNat x}:=by
 refine WT h (List.length_set ..) (fun i i0 i1=> ?_) fun i i0 i1=> ?_
 ·rw[GJ t0 i0 i1]
  split
  ·rename_i e;rw[e];exact hk
  ·exact h.held i i0 i1
 ·rw[GJ t0 i0 i1]
  split
  ·rename_i e;rw[e];exact hs
  ·exact _root_.id
theorem GX {p:aC} {f:Frame} (h:qL p f) {o:List Bool} {q:List bx} (ai:o.length=f.aN.length) (U:q.length=f.aH.length) (ae: ∀x∈q,lv x=true):qL p {f with aN:=o,aH:=q}:=by
 obtain⟨b1,b2,rR,wH,uL⟩:=oz.1 h.base
 exact⟨oz.2 ⟨b1,b2,by show(o.length:Int)=_;rw[ai];exact rR,by show q.length=_;rw[U];exact wH,uL⟩,ae,h.held,h.bF⟩
theorem XS {q:List bx} {k:Nat} {x:bx} (h: ∀x∈q,lv x=true) (hx:lv x=true): ∀y∈q.set k x,lv y=true:=fun y bi=>by
 rcases List.mem_or_eq_of_mem_set bi with bi | rfl
 ·exact h y bi
 ·exact hx
theorem afo {n:Nat} {ct:Int} {h:aq} (H:pY n ct h) {x:Int} (a8:h.ar≠4) (hx:x=1) (au:h.ar≠3):pY n ct {h with ar:=x}:=by
 subst hx
 exact⟨⟨show(0:Int)≤1 by decide,show(1:Int)≤4 by decide⟩,H.len,H.a7,fun _=>H.still a8,H.ah,fun e=>absurd e (show ¬(1:Int)=3 by decide),fun _=>H.t au,fun e=>absurd e (show ¬(1:Int)=0 by decide),fun e=>absurd e (show ¬(1:Int)=2 by decide)⟩
theorem aj2 {p:aC} {f:Frame} {e:Event} (h:qL p f) (he:e8 p e=true):qL p (jZ p f e):=by
 obtain⟨b1,b2,rR,wH,uL⟩:=oz.1 h.base
 have ci:=xS b1
 have dD:=GV b1
 have av:=afq b1
 unfold jZ
 split
 case isFalse=>exact h
 rename_i hc
 unfold iz
 split
 ·rename_i h1
  obtain⟨t0,t1⟩:=tg he (.inl h1)
  have Pe:e.aA<f.O.length:=by omega
  have hw:gj p f e.aA=0:=by unfold e1 at hc;rwa [if_pos h1] at hc
  have aS:(nth f.O e.aA).ar=0:=by
   unfold gj at hw
   by_cases az:(nth f.O e.aA).ar=0
   ·exact az
   ·rw[if_pos az] at hw;cases hw
  have aeQ:(l7 p f e.aA).O=[]:=by
   unfold gj at hw
   rw[if_neg (by rw[aS];simp)] at hw
   unfold codeF at hw
   by_cases U:(l7 p f e.aA).O=[]
   ·exact U
   ·rw[if_pos U] at hw;cases hw
  have ms:=ade.1 (show dZ (lk p f e.aA) p.O.length=[] from aeQ)
  have hk:=afo (x:=1) (h.held e.aA t0 Pe) (by omega) rfl (by omega)
  have RU:=GX h (o:=f.aN) (q:=j2 (bE (nth p.O e.aA)) f.aH) rfl (DG _ _) (XO _ _ (fun x hx=>by
   have:=(ci.bm _ (dz (show e.aA.toNat<p.O.length by omega))).2.2 x hx
   exact⟨this.1,by omega,Gs b1 (dz (by omega)) hx⟩) h.ik)
  have ln: ∀i:Int,0≤i→i<f.O.length→nth (f.O.set e.aA.toNat {nth f.O e.aA with ar:=1}) i=if i=e.aA then{nth f.O e.aA with ar:=1} else nth f.O i:=fun i i0 i1=>GJ t0 i0 i1
  obtain⟨c1,c2,c3,c4,c5⟩:=oz.1 RU.base
  have FT: ∀k:Int,0≤k→k<f.O.length→k≠e.aA→lP p e.aA k=true→(nth f.O k).ar≠0→False:=fun k aZ dk bU hb hs=>by
   have:=ms k aZ (by omega)
   unfold lk at this
   rw[show(k !=e.aA)=true by simpa using bU,hb,show((nth f.O k).ar !=0)=true by simpa using hs] at this
   cases this
  refine⟨oz.2 ⟨c1,c2,c3,c4,by show(f.O.set _ _).length=_;rw[List.length_set];exact uL⟩,RU.ik,fun i i0 i1=> ?_,fun i k i0 i1 aZ dk=> ?_⟩
  ·have i1:i<f.O.length:=by
    have i1:i<((f.O.set e.aA.toNat {nth f.O e.aA with ar:=1}).length:Int):=i1
    rw[List.length_set] at i1;exact i1
   show pY _ _ (nth (f.O.set e.aA.toNat {nth f.O e.aA with ar:=1}) i)
   rw[ln i i0 i1]
   split
   ·rename_i cA;rw[cA];exact hk
   ·exact h.held i i0 i1
  ·have i1:i<f.O.length:=by
    have i1:i<((f.O.set e.aA.toNat {nth f.O e.aA with ar:=1}).length:Int):=i1
    rw[List.length_set] at i1;exact i1
   have dk:k<f.O.length:=by
    have dk:k<((f.O.set e.aA.toNat {nth f.O e.aA with ar:=1}).length:Int):=dk
    rw[List.length_set] at dk;exact dk
   have ct:=h.bF i k i0 i1 aZ dk
   unfold nG at ct ⊢
   show((i !=k)&&(lP p i k&&(((nth (f.O.set e.aA.toNat {nth f.O e.aA with ar:=1}) i).ar !=0)&&((nth (f.O.set e.aA.toNat {nth f.O e.aA with ar:=1}) k).ar !=0))))=false
   rw[ln i i0 i1,ln k aZ dk]
   by_cases EZ:i=e.aA
   ·by_cases y6:k=e.aA
    ·rw[EZ,y6];simp
    ·rw[if_neg y6]
     cases hb:lP p i k with
     | false=>simp
     | true=>
      cases hs:((nth f.O k).ar !=0) with
      | false=>simp
      | true=>exact(FT k aZ dk y6 (by rw[←EZ];exact hb) (by simpa using hs)).elim
   ·rw[if_neg EZ]
    by_cases y6:k=e.aA
    ·cases hb:lP p i k with
     | false=>simp
     | true=>
      cases hs:((nth f.O i).ar !=0) with
      | false=>simp
      | true=>exact(FT i i0 i1 EZ (by rw[←y6,dD.sym k i aZ (by omega) i0 (by omega)];exact hb) (by simpa using hs)).elim
    ·rw[if_neg y6];exact ct
 rename_i h1
 split
 ·rename_i h2
  obtain⟨t0,t1⟩:=tg he (.inr h2)
  have Pe:e.aA<f.O.length:=by omega
  have aS: ¬((nth f.O e.aA).ar≠1∧(nth f.O e.aA).ar≠2):=by
   unfold e1 at hc
   rw[if_neg h1,if_pos h2] at hc
   intro bz;rw[if_pos bz] at hc;cases hc
  have aS:(nth f.O e.aA).ar=1∨(nth f.O e.aA).ar=2:=by omega
  have H:=h.held e.aA t0 Pe
  split
  ·rename_i U
   rw[Bool.and_eq_true] at U
   refine WS h t0 ⟨⟨show(0:Int)≤3 by decide,show(3:Int)≤4 by decide⟩,H.len,H.a7,fun _=>H.still (by omega),H.ah,fun _=>⟨U.1,av.1,Int.le_refl _⟩,fun e=>absurd rfl e,fun e=>absurd e (show ¬(3:Int)=0 by decide),fun e=>absurd e (show ¬(3:Int)=2 by decide)⟩ (fun _=>by omega)
  ·exact WS h t0 (FS (Hk b1 t0 t1)) (fun bz=>absurd rfl bz)
 rename_i h2
 split
 ·exact GX h (List.length_set ..) rfl h.ik
 rename_i au
 split
 ·rename_i bQ
  obtain⟨t0,t1⟩:=za he (.inl bQ)
  rw[E7 bQ,Bool.and_eq_true,lr,lr] at he
  refine GX h rfl (List.length_set ..) (XS h.ik ?_)
  have:=h.ik _ (dz (show e.aA.toNat<f.aH.length by omega))
  unfold lv at this ⊢
  rw[Bool.and_eq_true,lr,lr] at this ⊢
  exact⟨this.1,he.2⟩
 rename_i bQ
 split
 ·rename_i cv
  obtain⟨t0,t1⟩:=za he (.inr cv)
  rw[E8 cv,Bool.and_eq_true,lr,lr] at he
  refine GX h rfl (List.length_set ..) (XS h.ik ?_)
  have:=h.ik _ (dz (show e.aA.toNat<f.aH.length by omega))
  unfold lv at this ⊢
  rw[Bool.and_eq_true,lr,lr] at this ⊢
  exact⟨he.2,this.2⟩
 rename_i cv
 split
 ·refine WT h (D_ _ _ _) (fun i i0 i1=> ?_) fun i i0 i1=> ?_
  ·rw[HR i0 i1,if_pos i1]
   have H:=h.held i i0 i1
   unfold l8
   split
   ·rename_i hs
    have a6:=H.t3 hs
    have hw:IntKind.i64.wrap ((nth f.O i).bG - 1)=(nth f.O i).bG - 1:=j6 (by omega) (by omega)
    rw[hw]
    split
    ·unfold cM;rw[kH i0];exact FS (Hk b1 i0 (by omega))
    ·exact⟨H.aj,H.len,H.a7,H.still,H.ah,fun _=>⟨a6.1,by simp only;omega,by simp only;omega⟩,fun e=>absurd hs e,H.ej,H.s2⟩
   ·exact H
  ·rw[HR i0 i1,if_pos i1]
   unfold l8
   split
   ·rename_i hs
    split
    ·exact fun bz=>absurd rfl bz
    ·exact _root_.id
   ·exact _root_.id
 ·exact h
theorem Qc {p:aC} (h:dV p=true):gX p (dJ p)=true:=by
 have hf:=Ij h
 have aw:=hf.fr.O
 have e:dJ p=⟨true,List.replicate p.ak.toNat false,List.replicate p.bb.length ⟨1,1⟩,p.O.map fun w=>gZ w.ak.length⟩:=by unfold dJ;rw[if_pos h]
 have hw: ∀i:Int,0≤i→i<(dJ p).O.length→nth (dJ p).O i=gZ (nth p.O i).ak.length:=fun i i0 i1=>by
  rw[fU (by omega),fU (show i.toNat<p.O.length by omega)]
  simp only[e,List.getElem_map]
 have mU:qL p (dJ p):=by
  refine⟨oz.2 ⟨h,by rw[e],hf.fr.aN,hf.fr.aH,aw⟩,fun x hx=> ?_,fun i i0 i1=> ?_,fun i k i0 i1 aZ dk=> ?_⟩
  ·rw[e] at hx;rw[(List.mem_replicate.1 hx).2];decide
  ·rw[hw i i0 i1];exact FS (Hk h i0 (by omega))
  ·unfold nG
   rw[hw i i0 i1];simp[gZ]
 have hs:ef p (dJ p)=dJ p:=by
  have s:=ul p (dJ p) (dJ p).O.length
  have FY:(ef p (dJ p)).O=(dJ p).O:=by
   apply List.ext_getElem?
   intro j
   unfold ef
   rw[AK]
   cases hx:(dJ p).O[j]? with
   | none=>rfl
   | some x=>
    have al:=(List.getElem?_eq_some_iff.1 hx)
    have u4:=al.1
    have:=hw j (by omega) (by omega)
    rw[jv al.1,al.2] at this
    simp only[Option.map_some,if_pos al.1]
    rw[Bf (by rw[this];rfl)]
  have h1:(ef p (dJ p)).ok=(dJ p).ok:=s.1
  have h2:(ef p (dJ p)).aN=(dJ p).aN:=s.2.1
  have au:(ef p (dJ p)).aH=(dJ p).aH:=s.2.2
  generalize ef p (dJ p)=g at FY h1 h2 au
  generalize dJ p=b at FY h1 h2 au
  cases g;cases b
  simp only at FY h1 h2 au
  subst FY;subst h1;subst h2;subst au;rfl
 rw[←hs];exact WR mU
theorem ab2 (p:aC) (f:Frame) (e:Event):e1 p f e≠1:=by
 unfold e1 gj codeF
 repeat' split
 all_goals decide
theorem ajr {p:aC} {f:Frame} {e:Event} (h:gX p f=true):fv.mk (e1 p f e) (ef p (jZ p f e))=lh p f e:=by
 unfold lh jZ
 by_cases hc:e1 p f e=0
 ·rw[if_pos hc,if_neg (by rw[hc];simp),hc]
 ·rw[if_neg hc,if_pos hc,(Wl h).2]
theorem ZM {p:aC} {f:Frame} {e:Event} (h:gX p f=true):oa p f e=(if e8 p e=true then lh p f e else⟨1,f⟩)∧gX p (oa p f e).frame=true:=by
 unfold oa l4
 rw[h,Bool.true_and]
 by_cases he:e8 p e=true
 ·simp only[if_pos he]
  rw[if_neg (ab2 p f e)]
  exact⟨ajr h,WR (aj2 (Wl h).1 he)⟩
 ·simp only[if_neg he]
  exact⟨rfl,h⟩
theorem M3 {p:aC}: ∀(es:List Event) {f:Frame},gX p f=true→o0 p f es=lB p f es∧l5 p f es=k4 p f es∧gX p (k4 p f es)=true
 | [],f,h=>⟨rfl,rfl,h⟩
 | e::es,f,h=>by
  obtain⟨h1,h2⟩:=ZM (e:=e) h
  by_cases he:e8 p e=true
  ·rw[if_pos he] at h1
   rw[h1] at h2
   obtain⟨a,b,c⟩:=M3 es h2
   refine⟨?_,?_,?_⟩
   ·unfold o0 lB
    rw[if_pos he,h1,a]
   ·unfold l5 k4
    rw[if_pos he,h1,b]
   ·unfold k4
    rw[if_pos he];exact c
  ·rw[if_neg he] at h1
   rw[h1] at h2
   obtain⟨a,b,c⟩:=M3 es h2
   refine⟨?_,?_,?_⟩
   ·unfold o0 lB
    rw[if_neg he,h1]
    show _::o0 p f es=_
    rw[a]
   ·unfold l5 k4
    rw[if_neg he,h1]
    exact b
   ·unfold k4
    rw[if_neg he];exact c
theorem alG (p:aC) (es:List Event):vU p es=h4 p es:=by
 unfold vU h4
 by_cases h:dV p=true∧es.length≤1000
 ·rw[if_pos h,if_pos h];exact(M3 es (Qc h.1)).1
 ·rw[if_neg h,if_neg h]
end Go.Proofs.YtejmihecgodhnaaGreatDoor.Fw
