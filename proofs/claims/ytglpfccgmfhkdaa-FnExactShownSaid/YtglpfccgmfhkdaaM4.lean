/- The machine, part G: code, loops, functions. -/
import Derived.Test.YtglpfccgmfhkdaaM3
set_option linter.unusedVariables false
namespace Go.Proofs.Ytglpfccgmfhkdaa.Fw
open Go
theorem zT {cc:List Nat}: ∀(L:List (Nat×List AV)) (t:Nat),cc.contains t=true→dm (k4 cc L) t=none
 | [],t,h=>rfl
 | (k,c)::L,t,h=>by
  unfold k4
  split
  ·exact zT L t h
  ·rename_i hk
   have:t≠k:=fun e=>by subst e;rw[h] at hk;cases hk
   simp only[dm,if_neg this];exact zT L t h
def Aw:Bool→Bool→Bool
 | _,false=>true
 | a,true=>a
theorem FG {a b:Bool} (h:Aw a b=true):b=true→a=true:=fun e=>by subst e;exact h
def iW (a b:AV):Prop:=b=a∨b= .undef∨ ∃rows full fr kz,a= .a8 rows full fr∧b= .a8 rows false kz∧(kz=true→fr=true)
theorem iW.K0 {w:World} {PA PF:Nat→Prop} {rows:List (List AV)} {full fr kz:Bool} {v:Value} (ak: ∀c,PF c→PA c) (hf:kz=true→fr=true) (h:a1 w PA PF (.a8 rows full fr) v):a1 w PA PF (.a8 rows false kz) v:=by
 cases h with
 | a8 eh e5 fw bX dv hrel=>
  refine .a8 (fun c hc=> ?_) e5 (fun h=>by cases h) bX dv hrel
  have:=eh c hc
  cases kz with
  | true=>rw[hf rfl] at this;exact this
  | false=>
   cases fr with
   | true=>exact ak c this
   | false=>exact this
theorem iW.v1 {E:Env} {a b:AV} {v:Value} (ak: ∀c,E.PF c→E.PA c) (h:iW a b) (hv:bT E a v):bT E b v:=by
 rcases h with rfl | rfl | ⟨rows,full,fr,kz,rfl,rfl,hf⟩
 ·exact hv
 ·exact bT.undef _ _
 ·exact iW.K0 ak hf hv
theorem iW.v3 {E:Env} {a b:AV} {v:Value} (ak: ∀c,E.PF c→E.PA c) (h:iW a b) (hv:V3 E a v):V3 E b v:=by
 rcases h with rfl | rfl | ⟨rows,full,fr,kz,rfl,rfl,hf⟩
 ·exact hv
 ·exact V3.undef _ _
 ·exact iW.K0 ak hf hv
theorem iW.of {a b:AV} (h:b=a∨b= .undef):iW a b:=h.imp_right .inl
theorem Weak.Yf [bZ] {T T':List AV} {L:List (Nat×List AV)} {H:List Blk} (aE:T'.length=T.length) (h: ∀t,iW (T.getD t .undef) (T'.getD t .undef)):Weak ⟨T,L,H⟩ ⟨T',L,H⟩:=fun bR E tmps g s=>
 ⟨E,rfl,g,s.h,s.l,fun t=>(h t).v3 s.h.dc (s.gx t),by show T'.length=_;rw[aE];exact s.size⟩
theorem Weak.cells [bZ] {T:List AV} {L L':List (Nat×List AV)} {H:List Blk} (bF: ∀t cells,dm L t=some cells→ ∃fo,dm L' t=some fo∧fo.length=cells.length∧ ∀(i:Nat) (a:AV),fo[i]?=some a→ ∃b,cells[i]?=some b∧iW b a):Weak ⟨T,L,H⟩ ⟨T,L',H⟩:=fun bR E tmps g s=>
 ⟨E,rfl,g,s.h,fun t c hm=>by
  obtain⟨cells,aM,ty,q1,q2,q3⟩:=s.l t c hm
  obtain⟨fo,dr,dT,fh⟩:=bF t cells q1
  refine⟨fo,aM,ty,dr,q2,by rw[dT];exact q3.1,fun i a v aL hv=> ?_⟩
  obtain⟨b,hb,q⟩:=fh i a aL
  exact q.v1 s.h.dc (q3.2 i b v hb hv),s.gx,s.size⟩
theorem ZQ [bZ] {T T':List AV} {L L':List (Nat×List AV)} {H:List Blk} (aE:T'.length=T.length) (bM: ∀t,iW (T.getD t .undef) (T'.getD t .undef)) (cc:List Nat) (ak:T'.all (l1 cc)=true)
  (bF: ∀t cells,cc.contains t=false→dm L t=some cells→ ∃fo,dm L' t=some fo∧fo.length=cells.length∧ ∀(i:Nat) (a:AV),fo[i]?=some a→ ∃b,cells[i]?=some b∧iW b a):Weak ⟨T,L,H⟩ ⟨T',L',H⟩:=by
 refine(Weak.Yf aE bM).trans ((Weak.k4 cc ak).trans (Weak.cells fun t cells h=> ?_))
 cases bt:cc.contains t with
 | true=>rw[zT L t bt] at h;cases h
 | false=>rw[wT L t bt] at h;exact bF t cells bt h
theorem Jq (l:List (Nat×TV)) (k:Nat) (d:TV):(∃v,(k,v)∈l∧fy l k d=v)∨fy l k d=d:=by
 induction l with
 | nil=>exact .inr rfl
 | cons p r bx=>
  obtain⟨a,w⟩:=p
  rw[fH]
  by_cases e:a=k
  ·subst e;exact .inl ⟨w,List.mem_cons_self ..,if_pos rfl⟩
  ·rw[if_neg e]
   rcases bx with⟨v,h1,h2⟩ | h
   ·exact .inl ⟨v,List.mem_cons_of_mem _ h1,h2⟩
   ·exact .inr h
theorem zx (s:TS) (v:Nat): ∀(c m:Nat),(gb s v c m).length=m
 | _,0=>rfl
 | c,m+1=>by rw[gb,List.length_cons,zx s v (c+1) m]
theorem wM (s:TS) (v:Nat): ∀(m c i:Nat),(b9 (gb s v c m))[i]?=if i<m then some (s.get (jP v (c+i))).be else none
 | 0,c,i=>by simp[gb,b9]
 | m+1,c,i=>by
  rw[gb,b9]
  cases i with
  | zero=>simp
  | succ i=>
   rw[List.getElem?_cons_succ,wM s v m (c+1) i,show c+1+i=c+(i+1) by omega]
   by_cases h:i<m
   ·rw[if_pos h,if_pos (by omega)]
   ·rw[if_neg h,if_neg (by omega)]
theorem yP [FZ] (n:Nat) (s:TS):s.aq n=⟨(s.aq n).T,(s.aq n).L,(s.aq n).H⟩:=rfl
theorem MV [bZ] [FZ] {n:Nat} {s S:TS} (dn:gX S=gX s) (bM: ∀t,t<n→iW (s.get t).be (S.get t).be) (cc:List Nat) (ak:(S.aq n).T.all (l1 cc)=true)
  (hv: ∀v m,cc.contains v=false→iy s.vs v=some m→iy S.vs v=some m∧ ∀c,iW (s.get (jP v c)).be (S.get (jP v c)).be)
  (hb:S.aU=s.aU) (cV: ∀b,b<s.aU→(S.get (bB b)).dN=(s.get (bB b)).dN):Weak (s.aq n) (S.aq n):=by
 have az:(S.aq n).H=(s.aq n).H:=by
  show S.eW++fC S=s.eW++fC s
  have e2:fC S=fC s:=by unfold fC;rw[dn]
  rw[e2]
  congr 1
  apply List.ext_getElem?
  intro b
  rw[m6,m6,hb]
  by_cases h:b<s.aU
  ·rw[if_pos h,if_pos h,cV b h]
  ·rw[if_neg h,if_neg h]
 rw[yP n s,yP n S,az]
 refine ZQ (by show((List.range n).map _).length=((List.range n).map _).length;simp) (fun t=> ?_) cc ak fun t cells bt h=> ?_
 ·rw[vO,vO]
  by_cases h:t<n
  ·rw[if_pos h,if_pos h];exact bM t h
  ·rw[if_neg h,if_neg h];exact .inl rfl
 ·rw[ry] at h
  cases hm:iy s.vs t with
  | none=>rw[hm] at h;cases h
  | some m=>
   rw[hm] at h
   cases h
   obtain⟨q1,q2⟩:=hv t m bt hm
   refine⟨b9 (gb S t 0 m),by rw[ry,q1];rfl,?_,fun i a aL=> ?_⟩
   ·show(b9 _).length=(b9 _).length
    rw[k0,k0,List.length_map,List.length_map,zx,zx]
   ·rw[wM] at aL ⊢
    by_cases hi:i<m
    ·rw[if_pos hi] at aL ⊢
     cases aL
     exact⟨_,rfl,q2 (0+i)⟩
    ·rw[if_neg hi] at aL;cases aL
theorem VD (l:List AV):l.all (l1 [])=true:=by
 have aN: ∀a,qR [] a=true:=fun a=>by cases a<;>rfl
 have h1: ∀a,py [] a=true:=fun a=>by
  unfold py
  split
  ·exact List.all_eq_true.2 fun x _=>aN x
  ·exact aN _
 have h2: ∀a,pz [] a=true:=fun a=>by
  unfold pz
  split
  ·exact List.all_eq_true.2 fun x _=>h1 x
  ·exact h1 _
 have aJ: ∀a,l1 [] a=true:=fun a=>by
  unfold l1
  split
  ·exact List.all_eq_true.2 fun x _=>h2 x
  ·exact h2 _
 exact List.all_eq_true.2 fun x _=>aJ x
theorem Fits.le [FZ] {s S:TS} (h:s.eZ S) (f:Fits s):Fits S:=f.congr fun k h1 h2=>(h.get k).resolve_right fun q=>by
 rcases q with q | q
 ·have:=q.1;omega
 ·have:=q.1;omega
theorem ZR [bZ] [FZ] {n:Nat} (ap:n≤1000000) {s S:TS} (h:s.eZ S):Weak (s.aq n) (S.aq n):=by
 have Ey: ∀k,¬k<1000000→S.get k=s.get k∨(1000010≤k∧Ec (s.get k) (S.get k)):=fun k hk=>(h.get k).imp_right fun q=>q.resolve_left fun q=>hk q.1
 have lV: ∀k,¬k<1000000→(S.get k).be=(s.get k).be∧(S.get k).dN=(s.get k).dN:=fun k hk=>by
  rcases Ey k hk with e | ⟨_,g,c,ci,bi,e2,cE⟩
  ·rw[e];exact⟨rfl,rfl⟩
  ·rw[bi,e2]
   refine⟨rfl,?_⟩
   show Blk.mk g ci.length [b9 ci]=Blk.mk g c.length [b9 c]
   have aE:ci.length=c.length:=by have:=congrArg List.length cE;rwa [k0,k0,List.length_map,List.length_map] at this
   rw[cE,aE]
 have aH:S.get cM=s.get cM:=(Ey cM (by unfold cM;omega)).resolve_right fun q=>by have:=q.1;unfold cM at this;omega
 refine MV (x5 aH) (fun t bt=> ?_) [] (VD _) (fun v m _ hm=>⟨by rw[h.vs];exact hm,fun c=> .inl (lV _ (by unfold jP;omega)).1⟩) h.aU fun b _=>(lV _ (by unfold bB;omega)).2
 rcases h.get t with e | ⟨_,e⟩ | ⟨e,_⟩
 ·exact .inl (by rw[e])
 ·exact .of e
 ·omega
inductive jF:Type 1 where
 | nil
 | p9 (a b:jF)
 | lp (jl:List (Nat×Nat×bk)) (dM:List Nat) (iJ:List (Nat×Nat)) (ii:List bk) (rd:List Nat) (gT:cg ii→List (Nat×TV)) (I:cg ii→Prop) (m:cg ii→Nat) (b:cg ii→jF)
def jF.fst:jF→jF
 | .p9 a _=>a
 | a=>a
def jF.snd:jF→jF
 | .p9 _ b=>b
 | a=>a
def zg:(ii:List bk)→(cg ii→aD)→aD
 | [],F=>F ()
 | e::r,F=> .all e.T fun x=>zg r fun y=>F (x,y)
theorem Ek {R:Exit→TS→Prop}: ∀{ii:List bk} {F:cg ii→aD},(zg ii F).den R→ ∀v,(F v).den R
 | [],F,h,()=>h
 | e::r,F,h,(x,y)=>Ek (h x) y
def CK:(e:bk)→TV→(e.T→aD)→aD
 | .int,v,K=>(match v with
  | .i _ m=>K m
  | _=> .no)
 | .u64,v,K=>(match v with
  | .i _ m=>K m
  | _=> .no)
 | .bool,v,K=>(match v with
  | .b x=>K x.den
  | _=> .no)
 | .str,v,K=>(match v with
  | .s x=>K x
  | _=> .no)
 | .nat,v,K=>(match v with
  | .blk g _ _ _ _=>K g
  | _=> .no)
 | .fe,v,K=>(match v with
  | .eb _ c=>K (bk.mk .fe (ms bk.fe.iL c))
  | _=> .no)
 | .l e,v,K=>(match v with
  | .l cH xs _ _=>if h:cH=e then K (jq h xs) else .no
  | .blk _ cH xs _ _=>if h:cH=e then K (jq h xs) else .no
  | .nil _ _=>K []
  | _=> .no)
 | _,_,_=> .no
def yu (s:TS):(ii:List bk)→List Nat→(cg ii→aD)→aD
 | [],_,K=>K ()
 | e::r,k::xW,K=>CK e (s.get k) fun x=>yu s r xW fun y=>K (x,y)
 | _,_,_=> .no
theorem WU {R:Exit→TS→Prop} {e:bk} {v:TV} {K:e.T→aD} (h:(CK e v K).den R): ∃x,(K x).den R:=by
 cases e with
 | int=>
  have h:(match v with
   | .i _ m=>K m
   | _=>aD.no).den R:=h
  split at h
  ·exact⟨_,h⟩
  ·exact h.elim
 | u64=>
  have h:(match v with
   | .i _ m=>K m
   | _=>aD.no).den R:=h
  split at h
  ·exact⟨_,h⟩
  ·exact h.elim
 | bool=>
  have h:(match v with
   | .b x=>K x.den
   | _=>aD.no).den R:=h
  split at h
  ·exact⟨_,h⟩
  ·exact h.elim
 | str=>
  have h:(match v with
   | .s x=>K x
   | _=>aD.no).den R:=h
  split at h
  ·exact⟨_,h⟩
  ·exact h.elim
 | nat=>
  have h:(match v with
   | .blk g _ _ _ _=>K g
   | _=>aD.no).den R:=h
  split at h
  ·exact⟨_,h⟩
  ·exact h.elim
 | fe=>
  have h:(match v with
   | .eb _ c=>K (bk.mk .fe (ms bk.fe.iL c))
   | _=>aD.no).den R:=h
  split at h
  ·exact⟨_,h⟩
  ·exact h.elim
 | l e=>
  have h:(match v with
   | .l cH xs _ _=>if h:cH=e then K (jq h xs) else aD.no
   | .blk _ cH xs _ _=>if h:cH=e then K (jq h xs) else aD.no
   | .nil _ _=>K []
   | _=>aD.no).den R:=h
  split at h
  ·split at h
   ·exact⟨_,h⟩
   ·exact h.elim
  ·split at h
   ·exact⟨_,h⟩
   ·exact h.elim
  ·exact⟨_,h⟩
  ·exact h.elim
 | _=>exact h.elim
theorem CL {R:Exit→TS→Prop} {s:TS}: ∀{ii:List bk} {xW:List Nat} {K:cg ii→aD},(yu s ii xW K).den R→ ∃v,(K v).den R
 | [],_,K,h=>⟨(),h⟩
 | e::r,k::xW,K,h=>by
  obtain⟨x,h⟩:=WU (show(CK e (s.get k) _).den R from h)
  obtain⟨y,h⟩:=CL h
  exact⟨(x,y),h⟩
 | e::r,[],K,h=>h.elim
def zA (s:TS) (k:Nat) (w:TV) (t:aD):aD:=match w with
 | .ref b g m f=>(match s.get k with
  | .ref bS cC d_ w5=>(match s.get (bB b) with
   | .blk _ _ xs JA _=> .eq bS b (.eq w5 f (.eq cC g (.eq d_ JA (.eq m xs.length t))))
   | _=> .no)
  | _=> .no)
 | .blk g e xs _ _=>(match s.get k with
  | .blk cC cH rI _ _=>if h:cH=e then .eq cC g (.eq (jq h rI) xs t) else .no
  | _=> .no)
 | .b y=>(match s.get k with
  | .b x=> .eq x.den y.den t
  | _=> .no)
 | .eb g c=>(match s.get k with
  | .eb cC ci=> .eq cC g (.eq (b9 ci) (b9 c) (.eq ci.length c.length t))
  | _=> .no)
 | .l e xs cS fr=>(match cS with
  | true=> .eq (s.get k) (.l e xs true fr) t
  | false=>match s.get k with
   | .l cH rI _ kz=>if h:cH=e then .eq (Aw kz fr) true (.eq (jq h rI) xs t) else .no
   | .nil _ kz=> .eq (Aw kz fr) true (.eq [] xs t)
   | _=> .no)
 | w=> .eq (s.get k) w t
def xU:TV→Bool
 | .blk _ _ _ _ _=>true
 | .eb _ _=>true
 | .ia _ _ _=>true
 | _=>false
def BR:TV→Bool
 | .fp _ _ _ _=>true
 | .new _ _=>true
 | _=>false
theorem OB [FZ] {R:Exit→TS→Prop} {s:TS} {k:Nat} {w:TV} {t:aD} (h:(zA s k w t).den R):(iW (s.get k).be w.be∧(xU w=true→w.dN=(s.get k).dN)∧(BR w=true→s.get k=w))∧t.den R:=by
 unfold zA at h
 split at h
 ·split at h
  ·rename_i bS cC d_ w5 hk
   split at h
   ·rename_i g0 k5 xs JA aE hb
    obtain⟨h1,h2,aJ,bj,cP,eg⟩:=h
    subst h1;subst h2;subst aJ;subst bj;subst cP
    refine⟨⟨.inl ?_,(fun q=>by cases q),fun q=>by cases q⟩,eg⟩
    rw[hk,aE]
   ·exact h.elim
  ·exact h.elim
 ·split at h
  ·rename_i cC cH rI d_ xA hk
   split at h
   ·rename_i he
    subst he
    obtain⟨h1,h2,aJ⟩:=h
    subst h1
    have h2:rI=_:=h2
    subst h2
    refine⟨⟨.inl ?_,fun _=> ?_,fun q=>by cases q⟩,aJ⟩<;>rw[hk]<;>rfl
   ·exact h.elim
  ·exact h.elim
 ·split at h
  ·rename_i y _ x hk
   obtain⟨h1,h2⟩:=h
   refine⟨⟨.inl ?_,(fun q=>by cases q),fun q=>by cases q⟩,h2⟩
   rw[hk];show AV.bool y.den= .bool x.den;rw[h1]
  ·exact h.elim
 ·split at h
  ·rename_i cC ci hk
   obtain⟨h1,h2,aJ,bj⟩:=h
   refine⟨⟨.inl (by rw[hk];rfl),fun _=> ?_,fun q=>by cases q⟩,bj⟩
   rw[hk]
   show(⟨_,_,_⟩:Blk)=⟨_,_,_⟩
   rw[h1,h2,aJ]
  ·exact h.elim
 ·split at h
  ·obtain⟨h1,h2⟩:=h
   exact⟨⟨.inl (by rw[h1]),(fun _=>by rw[h1]),fun _=>h1⟩,h2⟩
  ·split at h
   ·rename_i cH rI Qg kz hk
    split at h
    ·rename_i he
     subst he
     obtain⟨h1,h2,aJ⟩:=h
     have h2:rI=_:=h2
     subst h2
     exact⟨⟨.inr (.inr ⟨_,_,_,_,by rw[hk];rfl,rfl,FG h1⟩),(fun q=>by cases q),fun q=>by cases q⟩,aJ⟩
    ·exact h.elim
   ·rename_i Qg kz hk
    obtain⟨h1,h2,aJ⟩:=h
    subst h2
    exact⟨⟨.inr (.inr ⟨[],_,_,_,by rw[hk];rfl,rfl,FG h1⟩),(fun q=>by cases q),fun q=>by cases q⟩,aJ⟩
   ·exact h.elim
 ·obtain⟨h1,h2⟩:=h
  exact⟨⟨.inl (by rw[h1]),(fun _=>by rw[h1]),fun _=>h1⟩,h2⟩
def zB (s:TS):List (Nat×TV)→aD→aD
 | [],t=>t
 | (k,w)::r,t=>zA s k w (zB s r t)
theorem EP [FZ] {R:Exit→TS→Prop} {s:TS} {t:aD}: ∀{l:List (Nat×TV)},(zB s l t).den R→(∀k w,(k,w)∈l→iW (s.get k).be w.be∧(xU w=true→w.dN=(s.get k).dN)∧(BR w=true→s.get k=w))∧t.den R
 | [],h=>⟨(fun k w h=>by cases h),h⟩
 | (k,w)::r,h=>by
  obtain⟨h1,h2⟩:=OB h
  obtain⟨aJ,bj⟩:=EP h2
  refine⟨fun iv w' hm=> ?_,bj⟩
  rcases List.mem_cons.1 hm with e | hm
  ·cases e;exact h1
  ·exact aJ iv w' hm
def yR (vs:List (Nat×Nat)):List (Nat×Nat)→Bool
 | []=>true
 | (v,m)::r=>(match iy vs v with
  | some d_=>Nat.beq m d_
  | none=>false)&&yR vs r
def wv (s:TS):Nat→Bool
 | 0=>true
 | b+1=>xU (s.get (bB b))&&wv s b
def sa (iJ:List (Nat×Nat)):List (Nat×Nat)→List Nat
 | []=>[]
 | (v,_)::r=>match(iy iJ v).isSome with
  | true=>sa iJ r
  | false=>v::sa iJ r
def AW (s S:TS) (t:aD):aD:=
 .eq (yR s.vs S.vs) true (.eq (Nat.beq S.aU s.aU) true (.eq (wv S s.aU) true (.eq (S.T.all fun p=>l1 (sa S.vs s.vs) p.2.be) true (.eq (gX S) (gX s) (zB s S.T t)))))
theorem Ca: ∀{l:List (Nat×Nat)} {v m:Nat},iy l v=some m→(v,m)∈l
 | [],_,_,h=>by cases h
 | (k,d_)::r,v,m,h=>by
  unfold iy at h
  split at h
  ·rename_i hk;cases h;rw[Nat.eq_of_beq_eq_true hk];exact List.mem_cons_self ..
  ·exact List.mem_cons_of_mem _ (Ca h)
theorem zU {iJ:List (Nat×Nat)}: ∀{l:List (Nat×Nat)} {v m:Nat},(sa iJ l).contains v=false→(v,m)∈l→(iy iJ v).isSome=true
 | [],_,_,_,h=>by cases h
 | (k,d_)::r,v,m,aZ,h=>by
  unfold sa at aZ
  split at aZ
  ·rename_i hk
   rcases List.mem_cons.1 h with e | h
   ·cases e;exact hk
   ·exact zU aZ h
  ·rename_i hk
   simp only[List.contains_cons,Bool.or_eq_false_iff] at aZ
   rcases List.mem_cons.1 h with e | h
   ·cases e;simp at aZ
   ·exact zU aZ.2 h
theorem MC {vs:List (Nat×Nat)}: ∀{l:List (Nat×Nat)},yR vs l=true→ ∀v m,(v,m)∈l→iy vs v=some m
 | [],_,_,_,h=>by cases h
 | (k,d_)::r,hs,v,m,h=>by
  simp only[yR,Bool.and_eq_true] at hs
  rcases List.mem_cons.1 h with e | h
  ·cases e
   have h1:=hs.1
   split at h1
   ·rename_i bu hm;rw[hm,Nat.eq_of_beq_eq_true h1]
   ·cases h1
  ·exact MC hs.2 v m h
theorem Ej {s:TS}: ∀{n:Nat},wv s n=true→ ∀b,b<n→xU (s.get (bB b))=true
 | 0,_,b,h=>by omega
 | n+1,hs,b,h=>by
  simp only[wv,Bool.and_eq_true] at hs
  rcases Nat.lt_or_ge b n with q | q
  ·exact Ej hs.2 b q
  ·have:b=n:=by omega
   subst this;exact hs.1
theorem Gn [bZ] [FZ] {n:Nat} {s S:TS} {t:aD} {R:Exit→TS→Prop} (cV:S.B=[]) (aH:Fits s) (h:(AW s S t).den R):Weak (s.aq n) (S.aq n)∧Fits S∧t.den R:=by
 obtain⟨h1,h2,aJ,bj,dn,cP⟩:=h
 obtain⟨eg,j8⟩:=EP cP
 have sx:=Nat.eq_of_beq_eq_true h2
 have fx: ∀k,(∃v,(k,v)∈S.T∧S.get k=v)∨S.get k= .u:=fun k=>by
  unfold TS.get;rw[cV];exact Jq ..
 have Gf: ∀k,iW (s.get k).be (S.get k).be:=fun k=>by
  rcases fx k with⟨v,hm,e⟩ | e
  ·rw[e];exact(eg k v hm).1
  ·rw[e];exact .inr (.inl rfl)
 have qE: ∀k,BR (S.get k)=true→s.get k=S.get k:=fun k hk=>by
  rcases fx k with⟨v,hm,e⟩ | e
  ·rw[e] at hk ⊢;exact(eg k v hm).2.2 hk
  ·rw[e] at hk;cases hk
 have QN:Fits S:=fun V ids lq h' jL=>by
  have e:=qE cM (by rw[jL];rfl)
  obtain⟨q1,q2,q3⟩:=aH V ids lq h' (by rw[e,jL])
  exact⟨q1,q2,fun id xs kB=>q3 id xs (by rw[qE eH (by rw[kB];rfl),kB])⟩
 refine⟨MV dn (fun t _=>Gf t) (sa S.vs s.vs) ?_ (fun v m aZ hm=> ?_) sx (fun b hb=> ?_),QN,j8⟩
 ·rw[List.all_eq_true]
  intro a aL
  obtain⟨k,_,rfl⟩:=List.mem_map.1 (show a∈(List.range n).map fun t=>(S.get t).be from aL)
  rcases fx k with⟨v,hm,e⟩ | e
  ·rw[e];exact List.all_eq_true.1 bj (k,v) hm
  ·rw[e];rfl
 ·have hs:=zU aZ (Ca hm)
  cases ag:iy S.vs v with
  | none=>rw[ag] at hs;cases hs
  | some d_=>
   have:=MC h1 v d_ (Ca ag)
   rw[hm] at this
   cases this
   exact⟨rfl,fun c=>Gf _⟩
 ·have hi:=Ej aJ b hb
  rcases fx (bB b) with⟨v,hm,e⟩ | e
  ·rw[e] at hi ⊢;exact(eg _ v hm).2.1 hi
  ·rw[e] at hi;cases hi
def w3 (s:TS):Nat→Nat→List (Nat×TV)
 | _,0=>[]
 | b,k+1=>(bB b,s.get (bB b))::w3 s (b+1) k
def j1 (s S:TS):TS:=⟨S.T++w3 s S.aU (s.aU - S.aU),[],S.vs,s.aU⟩
def KG (n:Nat):TV→Bool
 | .eb _ c=>(b9 c).all (m1 n)
 | .ia _ _ _=>false
 | _=>true
def EW (hL:Option Nat) (S:TS) (m:Nat):Bool:=match hL with
 | some k=>Nat.ble k S.aU&&Nat.ble S.aU m&&gX S&&S.T.all fun p=>th S.aU p.2.be&&KG S.aU p.2
 | none=>false
def toHead (hL:Option Nat) (s S:TS) (t:aD):aD:=match Nat.beq S.aU s.aU with
 | true=>AW s S t
 | false=>AW s (j1 s S) (.eq (j1 s S).bN S.bN (.eq (EW hL S s.aU) true t))
theorem Fl (s:TS): ∀(k b:Nat) (j:Nat),(j<bB b)→ ∀v,(j,v) ∉ w3 s b k
 | 0,b,j,h,v,hm=>by cases hm
 | k+1,b,j,h,v,hm=>by
  rcases List.mem_cons.1 hm with e | hm
  ·cases e;exact absurd h (Nat.lt_irrefl _)
  ·exact Fl s k (b+1) j (by unfold bB at h ⊢;omega) v hm
theorem ZT {s S:TS} (cV:S.B=[]) {j:Nat} (h:j<bB S.aU):(j1 s S).get j=S.get j:=by
 show fy (S.T++w3 s S.aU (s.aU - S.aU)) j (fy [] j .u)=fy S.T j (fy S.B j .u)
 rw[qQ,cV,px (Fl s _ _ j h)]
theorem O9 {n:Nat} (fr:Bool) (e:bk) (x:e.T):(cb fr e x).all (m1 n)=true:=by cases e<;>rfl
theorem W6 {n:Nat} {a:AV} (h:th n a=true):m1 n a=true:=by cases a<;>first | exact h | rfl
theorem toHead_sound [gR:bZ] [FZ] {n:Nat} (ap:n≤1000000) {hL:Option Nat} (e4: ∀k,hL=some k→gR.n≤k) {s S:TS} {t:aD} {R:Exit→TS→Prop} (cV:S.B=[]) (aH:Fits s) (h:(toHead hL s S t).den R):Weak (s.aq n) (S.aq n)∧Fits S∧t.den R:=by
 unfold toHead at h
 split at h
 ·exact Gn cV aH h
 ·obtain⟨w,hf,e3,h1,h2⟩:=Gn (n:=n) (S:=j1 s S) rfl aH h
  unfold EW at h1
  split at h1
  ·rename_i k
   simp only[Bool.and_eq_true] at h1
   obtain⟨⟨⟨q1,q2⟩,q3⟩,q4⟩:=h1
   have q1:=Nat.le_of_ble_eq_true q1
   have q2:=Nat.le_of_ble_eq_true q2
   have aI: ∀j,j<bB S.aU→(j1 s S).get j=S.get j:=fun j h=>ZT cV h
   have xy: ∀b,b<S.aU→bB b<bB S.aU:=fun b h=>by unfold bB;omega
   have Bo:cM<bB S.aU:=by unfold cM bB;omega
   have Rv:gX (j1 s S)=true:=by rw[x5 (aI cM Bo)];exact q3
   have eT:(j1 s S).tT n=S.tT n:=List.map_congr_left fun t bt=>by rw[aI t (by have:=List.mem_range.1 bt;unfold bB;omega)]
   have fx: ∀k,(∃v,(k,v)∈S.T∧S.get k=v)∨S.get k= .u:=fun k=>by
    unfold TS.get;rw[cV];exact Jq ..
   have Be: ∀k,th S.aU (S.get k).be=true∧KG S.aU (S.get k)=true:=fun k=>by
    rcases fx k with⟨v,hm,e⟩ | e
    ·have:=List.all_eq_true.1 q4 _ hm
     rw[Bool.and_eq_true] at this
     rw[e];exact this
    ·rw[e];exact⟨rfl,rfl⟩
   have az: ∀b,((j1 s S).aq n).H[b]?=if b<s.aU then some ((j1 s S).get (bB b)).dN else none:=fun b=>by
    show((j1 s S).eW++fC (j1 s S))[b]?=_
    have:fC (j1 s S)=[]:=by unfold fC;rw[Rv]
    rw[this,List.append_nil,m6];rfl
   have EZ:=Weak.cut (T:=S.tT n) (L:=S.bN) (H:=((j1 s S).aq n).H) S.aU (Nat.le_trans (e4 k rfl) q1) (fun t=> ?_) (fun t cells hc=> ?_) (fun b blk hb lV row aw=> ?_)
   ·have bi:(j1 s S).aq n=⟨S.tT n,S.bN,((j1 s S).aq n).H⟩:=by rw[←eT,←e3];rfl
    have e2:(⟨S.tT n,S.bN,((j1 s S).aq n).H.take S.aU⟩:St)=S.aq n:=by
     show _=(⟨S.tT n,S.bN,S.eW++fC S⟩:St)
     have:fC S=[]:=by unfold fC;rw[q3]
     rw[this,List.append_nil]
     congr 1
     apply List.ext_getElem?
     intro b
     rw[List.getElem?_take,az,m6]
     by_cases hb:b<S.aU
     ·rw[if_pos hb,if_pos (by omega),if_pos hb,aI _ (xy b hb)]
     ·rw[if_neg hb,if_neg hb]
    rw[bi] at w
    rw[e2] at EZ
    exact⟨w.trans EZ,hf.congr fun k h1 h2=>(aI k (by unfold bB;omega)).symm,h2⟩
   ·have:=vO (n:=n) (s:=S) t
    have this:(S.tT n).getD t .undef=_:=this
    rw[this]
    split
    ·exact(Be t).1
    ·rfl
   ·have:=ry (n:=n) (s:=S) t
    have this:dm S.bN t=_:=this
    rw[this] at hc
    cases hm:iy S.vs t with
    | none=>rw[hm] at hc;cases hc
    | some m=>
     rw[hm] at hc
     cases hc
     rw[List.all_eq_true]
     intro a aL
     obtain⟨i,hi⟩:=List.mem_iff_getElem?.1 aL
     rw[wM] at hi
     split at hi
     ·cases hi;exact W6 (Be _).1
     ·cases hi
   ·rw[az,if_pos (by omega),aI _ (xy b hb)] at lV
    cases lV
    have ag:=(Be (bB b)).2
    revert aw ag
    cases S.get (bB b) with
    | blk g e xs m h=>
     intro aw _
     obtain⟨x,_,rfl⟩:=List.mem_map.1 (show row∈xs.map (cb true e) from aw)
     exact O9 true e x
    | eb g c=>
     intro aw ag
     rw[List.mem_singleton.1 (show row∈[b9 c] from aw)];exact ag
    | ia g m ids=>intro _ ag;cases ag
    | _=>intro aw _;cases aw
  ·cases h1
def rV (n:Nat):List (Nat×Nat×bk)→TS→(TS→aD)→aD
 | [],s,K=>K s
 | p::r,s,K=>
  let s1:=s.fm s.aU (s.aU+1) (.blk 0 p.2.2 [] 0 rfl)
  match p.1 with
  | 0=> .eq (ov (b0 n s (.tmp p.2.1)).be) true (.eq s1.bN s.bN (.eq (gX s) true (rV n r (h5 n s1 (some p.2.1) (.ref s.aU 0 0 false)) K)))
  | v+1=>
   let s2:=s1.add [(jP v p.2.1,.ref s.aU 0 0 false)] s1.vs s1.aU
   match iy s.vs v with
   | some m=> .eq (ov ((b9 (gb s v 0 m)).getD p.2.1 .undef)) true (.eq s2.bN (iR s.bN v ((b9 (gb s v 0 m)).set p.2.1 (.ref s.aU 0 0 0 false))) (.eq (mg [(jP v p.2.1,.ref s.aU 0 0 false)]) true (.eq (gX s) true (rV n r s2 K))))
   | none=> .no
theorem wu [bZ] [FZ] {n:Nat} (ap:n≤1000000) {R:Exit→TS→Prop} {K:TS→aD}: ∀{l:List (Nat×Nat×bk)} {s:TS},Fits s→(rV n l s K).den R→ ∃s',Weak (s.aq n) (s'.aq n)∧Fits s'∧(K s').den R
 | [],s,aH,h=>⟨s,.refl _,aH,h⟩
 | (p,q,e)::r,s,aH,h=>by
  unfold rV at h
  simp only at h
  split at h
  ·obtain⟨h1,h2,dn,h⟩:=h
   obtain⟨s',w,hf,h⟩:=wu ap (vl ap (nj aH)) h
   refine⟨s',Weak.trans ?_ w,hf,h⟩
   have bM:(b0 n s (.tmp q)).be=(s.aq n).T.getD q .undef:=(congrFun (iN n s) (.tmp q)).symm
   rw[bM] at h1
   have:=Weak.Nw q e.jA (L:=(s.aq n).L) (H:=(s.aq n).H) h1
   rw[vm ap]
   show Weak _ ⟨putA ((s.fm s.aU (s.aU+1) _).tT n) _ _,(s.fm s.aU (s.aU+1) _).bN,((s.fm s.aU (s.aU+1) _).aq n).H⟩
   rw[ni ap,h2,wG dn]
   rw[yQ dn] at this
   exact this
  ·rename_i v
   split at h
   ·rename_i m hm
    obtain⟨h1,h2,cV,dn,h⟩:=h
    obtain⟨s',w,hf,h⟩:=wu ap (tP cV (nj aH)) h
    refine⟨s',Weak.trans ?_ w,hf,h⟩
    have:=Weak.zf v q e.jA (T:=(s.aq n).T) (H:=(s.aq n).H) (show dm (s.aq n).L v=some (b9 (gb s v 0 m)) by rw[ry,hm];rfl) h1
    rw[yQ dn] at this
    show Weak _ ⟨(TS.add _ _ _ _).tT n,(TS.add _ _ _ _).bN,((TS.add _ _ _ _).aq n).H⟩
    rw[h2,tO ap cV,ni ap]
    have cE:=tN (n:=n) (s:=s.fm s.aU (s.aU+1) (.blk 0 e [] 0 rfl)) (vs:=(s.fm s.aU (s.aU+1) (.blk 0 e [] 0 rfl)).vs) cV
    rw[cE,wG dn]
    exact this
   ·exact h.elim
theorem O8 {e:bk} (h:e.l3=true) (x:e.T): ∀a∈cb true e x,hh a=true∧lb a=true:=by
 have key:(cb true e x).all (fun a=>hh a&&lb a)=true:=by cases e<;>first | rfl | cases h
 intro a aL
 have:=List.all_eq_true.1 key a aL
 rwa [Bool.and_eq_true] at this
theorem ZH (e:bk) (x:e.T):(cb true e x).map h7=cb false e x:=by
 rw[←nn,←nn]
 have key: ∀(es:List bk) (y:cg es),(jt true es y).map h7=jt false es y:=by
  intro es
  induction es with
  | nil=>intro y;rfl
  | cons e r bx=>
   intro y
   show h7 (lT true e y.1)::(jt true r y.2).map h7=_
   rw[bx,jt]
   congr 1
   cases e<;>rfl
 exact key _ _
def ug (hL:Option Nat) (n:Nat):List (Nat×Nat)→TS→(TS→aD)→aD
 | [],s,K=>K s
 | p::r,s,K=>match s.get (match p.1 with
   | 0=>p.2
   | v+1=>jP v p.2) with
  | .ref b g m _=>(match hL with
   | some k=>(match Nat.ble k b with
    | true=>n6 s b g fun e xs d_ h=>
     let s1:=s.fm b s.aU (.blk (g+1) e [] 0 rfl)
     match p.1 with
     | 0=> .eq (Nat.blt p.2 n) true (.eq d_ m (.eq e.l3 true (.eq s1.bN s.bN (.p (xs.length≤4611686018427387904) (ug hL n r (h5 n s1 (some p.2) (.l e xs false true)) K)))))
     | v+1=>
      let s2:=s1.add [(jP v p.2,.l e xs false true)] s1.vs s1.aU
      match iy s.vs v with
      | some fU=> .eq (Nat.blt p.2 fU&&mg [(jP v p.2,TV.l e xs false true)]) true (.eq d_ m (.eq e.l3 true (.eq s2.bN (iR s.bN v ((b9 (gb s v 0 fU)).set p.2 (TV.l e xs false true).be)) (.p (xs.length≤4611686018427387904) (ug hL n r s2 K)))))
      | none=> .no
    | false=> .no)
   | none=> .no)
  | _=> .no
theorem Ay [gR:bZ] [FZ] {n:Nat} (ap:n≤1000000) {hL:Option Nat} (e4: ∀k,hL=some k→gR.n≤k) {R:Exit→TS→Prop} {K:TS→aD}: ∀{l:List (Nat×Nat)} {s:TS},Fits s→(ug hL n l s K).den R→ ∃s',Weak (s.aq n) (s'.aq n)∧Fits s'∧(K s').den R
 | [],s,aH,h=>⟨s,.refl _,aH,h⟩
 | (p,q)::r,s,aH,h=>by
  unfold ug at h
  simp only at h
  split at h
  ·rename_i b g m cS nw
   split at h
   ·rename_i k
    split at h
    ·rename_i xy
     have Gb:=Nat.le_trans (e4 k rfl) (Nat.le_of_ble_eq_true xy)
     obtain⟨e,xs,d_,hm,h,hb,az⟩:=r1 (n:=n) h
     have eO: ∀row∈xs.map (cb true e),e.l3=true→ ∀a∈row,hh a=true∧lb a=true:=fun row aw aB a aL=>by
      obtain⟨x,_,rfl⟩:=List.mem_map.1 aw
      exact O8 aB x a aL
     have nC:(xs.map (cb true e)).map (fun row=>row.map h7)=xs.map (cb false e):=by
      rw[List.map_map];exact List.map_congr_left fun x _=>ZH e x
     cases p with
     | zero=>
      obtain⟨aN,h1,h2,aJ,bj,h⟩:=h
      replace nw:s.get q= .ref b g m cS:=nw
      obtain⟨s',w,hf,h⟩:=Ay ap e4 (vl ap (nj aH)) h
      refine⟨s',Weak.trans ?_ w,hf,h⟩
      have ag:q<n:=by rw[Nat.blt_eq] at aN;exact aN
      have bM:(s.aq n).T.getD q .undef= .ref b g 0 m cS:=by
       rw[vO,if_pos ag,nw];rfl
      have:=Weak.Qf q (L:=(s.aq n).L) bM (by rw[List.length_map,←h1];exact hm.symm) az Gb (fun row aw a aL=>eO row aw h2 a aL) (by rw[List.length_map];exact bj)
      rw[nC] at this
      rw[vm ap]
      show Weak _ ⟨putA ((s.fm b s.aU _).tT n) _ _,(s.fm b s.aU _).bN,((s.fm b s.aU _).aq n).H⟩
      rw[ni ap,aJ,r0 hb]
      exact this
     | succ v=>
      replace nw:s.get (jP v q)= .ref b g m cS:=nw
      simp only at h
      split at h
      ·rename_i fU og
       obtain⟨aN,h1,h2,aJ,bj,h⟩:=h
       rw[Bool.and_eq_true,Nat.blt_eq] at aN
       obtain⟨s',w,hf,h⟩:=Ay ap e4 (tP aN.2 (nj aH)) h
       refine⟨s',Weak.trans ?_ w,hf,h⟩
       have hc:dm (s.aq n).L v=some (b9 (gb s v 0 fU)):=by rw[ry,og];rfl
       have bM:(b9 (gb s v 0 fU)).getD q .undef= .ref b g 0 m cS:=by
        rw[List.getD_eq_getElem?_getD,wM,if_pos aN.1,Nat.zero_add,nw];rfl
       have:=Weak.Qe v q (T:=(s.aq n).T) hc bM (by rw[List.length_map,←h1];exact hm.symm) az Gb (fun row aw a aL=>eO row aw h2 a aL) (by rw[List.length_map];exact bj)
       rw[nC] at this
       show Weak _ ⟨(TS.add _ _ _ _).tT n,(TS.add _ _ _ _).bN,((TS.add _ _ _ _).aq n).H⟩
       have cE:=tN (n:=n) (s:=s.fm b s.aU (.blk (g+1) e [] 0 rfl)) (vs:=(s.fm b s.aU (.blk (g+1) e [] 0 rfl)).vs) aN.2
       rw[aJ,tO ap aN.2,ni ap,cE,r0 hb]
       exact this
      ·exact h.elim
    ·exact h.elim
   ·exact h.elim
  ·exact h.elim
def HX (k:Nat):List (Nat×TV)→Bool
 | []=>false
 | p::r=>match Nat.beq p.1 k with
  | true=>true
  | false=>HX k r
def BX (s:TS) (gT:List (Nat×TV)):List Nat→List (Nat×TV)
 | []=>[]
 | k::r=>match HX k gT with
  | true=>BX s gT r
  | false=>(k,s.get k)::BX s gT r
def MS (v:Nat):Nat→Nat→List Nat
 | _,0=>[]
 | c,m+1=>jP v c::MS v (c+1) m
def H5:List (Nat×Nat)→List Nat
 | []=>[]
 | p::r=>MS p.1 0 p.2++H5 r
def EF:Nat→List Nat
 | 0=>[]
 | b+1=>bB b::EF b
def dq (dM:List Nat) (iJ:List (Nat×Nat)) (k:Nat) (I:Int→Prop) (m:Int→Nat) (b:Int→jF):jF:= .lp [] dM iJ [.int] [k] (fun v=>[(k,.i .i64 v.1)]) (fun v=>I v.1) (fun v=>m v.1) fun v=>b v.1
def aD.w4:aD→Bool
 | .iw ex _=>(match ex with
  | .normal=>false
  | _=>true)
 | .fY | .no | .all _ _=>false
 | .p _ t | .hI _ t | .eq _ _ t=>t.w4
 | .gK _ _ x y | .two x y | .fS x _ _ y=>(match x.w4 with
  | true=>true
  | false=>y.w4)
def qh:Code→Bool
 | .loop _=>true
 | .seq x y=>qh x || qh y
 | .cond _ x y=>qh x || qh y
 | .block _ x=>qh x
 | .scope x=>qh x
 | _=>false
def Ad (hy:List (List (Nat×TV)×List (Nat×TV))) (t:aD):aD:=match hy with
 | []=>t
 | p::r=> .eq p.1 p.2 (Ad r t)
theorem E_ {R:Exit→TS→Prop} {t:aD}: ∀{hy:List (List (Nat×TV)×List (Nat×TV))},(Ad hy t).den R→(∀p∈hy,p.1=p.2)∧t.den R
 | [],h=>⟨(fun p h=>by cases h),h⟩
 | p::r,h=>by
  obtain⟨h1,h2⟩:=h
  obtain⟨aJ,bj⟩:=E_ h2
  exact⟨fun q ag=>by
   rcases List.mem_cons.1 ag with rfl | ag
   ·exact h1
   ·exact aJ q ag,bj⟩
structure wl (P:Program) where
 len:List Nat
 OU:List (Nat×List Item×List (List Nat))
 kp:List (oU P)
 yU:List (nc P)
 Ku:List (Nat×List (Nat×Nat)×List (Nat×Nat×bk))
def xZ:List (Nat×List Item×List (List Nat))→Nat→(List Item→List (List Nat)→aD)→aD
 | [],_,_=> .no
 | p::r,id,K=>match Nat.beq p.1 id with
  | true=>K p.2.1 p.2.2
  | false=>xZ r id K
def B_:List (Nat×List (Nat×Nat)×List (Nat×Nat×bk))→Nat→List (Nat×Nat)×List (Nat×Nat×bk)
 | [],_=>([],[])
 | p::r,id=>match Nat.beq p.1 id with
  | true=>p.2
  | false=>B_ r id
section
variable {P:Program} (cf:fO P) (dF:wl P) (hL:Option Nat)
def ux (s:TS) (dM:List Nat) (iJ:List (Nat×Nat)) (gT:List (Nat×TV)):TS:=⟨gT++BX s gT (dM++(H5 iJ++(cM::EF s.aU))),[],iJ,s.aU⟩
def ib:Code→TS→jF→(Exit→TS→jF→aD)→aD
 | .skip,s,a,K=>K .normal s a
 | .ret,s,a,K=>K .ret s a
 | .exit id,s,a,K=>K (.exit id) s a
 | .region id ops draw,s,a,K=>ug hL cf.n (B_ dF.Ku id).1 s fun s=>rV cf.n (B_ dF.Ku id).2 s fun s=>(match draw with
  | false=>yz cf ⟨dF.len,dF.kp,dF.yU⟩ ops ops.toList s fun s=>K .normal s a
  | true=>xZ dF.OU id fun ord hP=>zS cf ⟨dF.len,dF.kp,dF.yU⟩ ops ord hP s fun s=>K .normal s a)
 | .seq x y,s,a,K=>(match qh x with
  | true=>ib x s a fun ex s a=>match ex with
   | .normal=>ib y s a K
   | ex=>K ex s a
  | false=>match(ib x s a fun ex s _=> .iw ex s).ke with
   | .some S hy=>Ad hy (.fS ((ib x s a fun ex s _=> .iw ex s).bind fun ex s=>match ex with
    | .normal=> .fY
    | ex=>K ex s a.fst) (ib x s a fun ex s _=> .iw ex s).facts (ib x s a fun ex s _=> .iw ex s).iZ (ib y S (match(ib x s a fun ex s _=> .iw ex s).w4 with
    | true=>a.snd
    | false=>a) K))
   | _=>ib x s a fun ex s a=>match ex with
    | .normal=>ib y s a K
    | ex=>K ex s a)
 | .cond c x y,s,a,K=>(match b0 cf.n s c with
  | .b z=>yL z s fun b s=>match b with
   | true=>ib x s a.fst K
   | false=>ib y s a.snd K
  | _=> .no)
 | .block id c,s,a,K=>ib c s a fun ex s a=>match ex with
  | .exit eP=>(match Nat.beq eP id with
   | true=>K .normal s a
   | false=>K (.exit eP) s a)
  | ex=>K ex s a
 | .loop c,s,a,K=>(match a with
  | .lp jl dM iJ ii rd gT I m b=>rV cf.n jl s fun s=>yu s ii rd fun v0=>toHead hL s (ux s dM iJ (gT v0)) (.p (I v0) (zg ii fun v=> .hI (I v) (ib c (ux s dM iJ (gT v)) (b v) fun ex s' a=>match ex with
   | .normal=>yu s' ii rd fun dx=>toHead hL s' (ux s dM iJ (gT dx)) (.p (I dx∧m dx<m v) .fY)
   | ex=>K ex s' a)))
  | _=> .no)
 | _,_,_,_=> .no
end
section
variable {P:Program} {cf:fO P} {dF:wl P}
theorem Vv {R:Exit→TS→Prop} {l:List (Nat×List Item×List (List Nat))} {id:Nat} {K:List Item→List (List Nat)→aD} (h:(xZ l id K).den R): ∃o A,(K o A).den R:=by
 induction l with
 | nil=>exact h.elim
 | cons p r bx=>
  unfold xZ at h
  split at h
  ·exact⟨_,_,h⟩
  ·exact bx h
theorem OV [bZ] (ap:cf.n≤1000000) {dF:nd P} {R:Exit→TS→Prop} {ops:Array Oper} {ord:List Item} {hP:List (List Nat)} {s:TS} {K:TS→aD} {Q:Exit→St→Prop} {id:Nat} (hK: ∀s (Z:FZ),(K s).den R→ @Fits Z s→Q .normal (@TS.aq Z cf.n s)) (Z:FZ) (aH:Fits s) (h:(zS cf dF ops ord hP s K).den R):WpS P (.region id ops true) Q (s.aq cf.n):=by
 unfold zS at h
 simp only at h
 split at h
 ·exact h.elim
 ·rename_i hb
  obtain⟨h1,h2,aJ,bj,cP,j8,ob,h⟩:=h
  rw[yP]
  refine WpS.KP (esc:=[]) ord hP h1 h2 aJ rfl _ j8 ob ?_
  have:=KT ap (Kp:=fun T L H=>Q .normal ⟨T,L,H⟩) (fun s Z hs hf=>hK s Z hs hf) ord Z _ (tP hb aH) bj h
  rw[cP,tN hb,tO ap hb] at this
  exact this
theorem ZU [gR:bZ] (ap:cf.n≤1000000) {hL:Option Nat} (e4: ∀k,hL=some k→gR.n≤k): ∀(c:Code) {R:Exit→TS→Prop} {s:TS} {a:jF} {K:Exit→TS→jF→aD} {Q:Exit→St→Prop},(∀ex s a (Z:FZ),(K ex s a).den R→ @Fits Z s→Q ex (@TS.aq Z cf.n s))→ ∀Z:FZ,@Fits Z s→(ib cf dF hL c s a K).den R→WpS P c Q (@TS.aq Z cf.n s):=by
 intro c
 induction c with
 | skip=>intro R s a K Q hK Z aH h;exact WpS.skip (hK _ _ _ Z h aH)
 | ret=>intro R s a K Q hK Z aH h;exact WpS.ret (hK _ _ _ Z h aH)
 | exit id=>intro R s a K Q hK Z aH h;exact WpS.exit (hK _ _ _ Z h aH)
 | region id ops draw=>
  intro R s a K Q hK Z aH h
  obtain⟨s1,bQ,oq,h⟩:=Ay ap e4 aH h
  obtain⟨s2,dy,qH,h⟩:=wu ap oq h
  refine WpS.oS ?_ (bQ.trans dy)
  cases draw with
  | false=>
   rw[yP]
   refine WpS.KQ (esc:=[]) rfl ?_
   exact CR ap (Kp:=fun T L H=>Q .normal ⟨T,L,H⟩) (fun s Z hs hf=>hK _ s _ Z hs hf) ops.toList Z s2 qH h
  | true=>
   obtain⟨ord,hP,h⟩:=Vv h
   exact OV ap (fun s Z hs hf=>hK _ s _ Z hs hf) Z qH h
 | cond c x y gg fQ=>
  intro R s a K Q hK Z aH h
  unfold ib at h
  split at h
  ·rename_i z nD
   obtain⟨s',bi,e2,h⟩:=DD (n:=cf.n) h
   have hf:=aH.congr fun k _ _=>e2 k
   rw[←bi]
   have hc:bL (s'.aq cf.n).T c= .bool z.den:=by
    rw[bi,congrFun (iN cf.n s) c]
    show(b0 cf.n s c).be=_
    rw[nD];rfl
   refine WpS.cond ?_
   rw[hc]
   refine⟨fun hb=> ?_,fun hb=> ?_⟩
   ·rw[hb] at h;exact gg hK Z hf h
   ·rw[hb] at h;exact fQ hK Z hf h
  ·exact h.elim
 | block id c bx=>
  intro R s a K Q hK Z aH h
  refine WpS.block (bx (K:=fun ex s a=>match ex with
   | .exit eP=>(match Nat.beq eP id with
    | true=>K .normal s a
    | false=>K (.exit eP) s a)
   | ex=>K ex s a) (fun ex s a Z hs hf=> ?_) Z aH h)
  cases ex with
  | exit eP=>
   show if eP=id then _ else _
   have hs:(match Nat.beq eP id with
    | true=>K .normal s a
    | false=>K (.exit eP) s a).den R:=hs
   split at hs
   ·rename_i hb;rw[if_pos (Nat.eq_of_beq_eq_true hb)];exact hK _ _ _ Z hs hf
   ·rename_i hb
    rw[if_neg fun e=>by subst e;rw[Nat.beq_refl] at hb;cases hb];exact hK _ _ _ Z hs hf
  | _=>exact hK _ _ _ Z hs hf
 | seq x y Hb Hc=>
  intro R s a K Q hK Z aH h
  have EV:(ib cf dF hL x s a fun ex s a=>match ex with
   | .normal=>ib cf dF hL y s a K
   | ex=>K ex s a).den R→WpS P (.seq x y) Q (s.aq cf.n):=fun h=>by
   refine WpS.seq (Hb (fun ex s a Z hs hf=> ?_) Z aH h)
   cases ex with
   | normal=>exact Hc hK Z hf hs
   | _=>exact hK _ _ _ Z hs hf
  unfold ib at h
  split at h
  ·exact EV h
  ·split at h
   ·rename_i S hy hm
    obtain⟨ag,h⟩:=E_ h
    obtain⟨h1,h2⟩:=h
    rw[aD.NR] at h1
    have aJ:=aD.VL hm ag h1
    refine WpS.seq (Hb (K:=fun ex s _=> .iw ex s) (fun ex s' gB Z hs hf=> ?_) Z aH aJ)
    have hs:_∧(ex= .normal→s'.eZ S∧_∧_):=hs
    cases ex with
    | normal=>
     obtain⟨q1,q2,q3⟩:=hs.2 rfl
     exact WpS.oS (Hc hK Z (hf.le q1) (h2 (Pm q3 q2))) (ZR ap q1)
    | _=>exact hK _ _ _ Z hs.1 hf
   ·exact EV h
 | loop c bx=>
  intro R s a K Q hK Z aH h
  unfold ib at h
  split at h
  ·rename_i jl dM iJ ii rd gT I m b
   obtain⟨s1,bQ,oq,h⟩:=wu ap aH h
   obtain⟨v0,h⟩:=CL h
   obtain⟨dy,qH,h⟩:=toHead_sound (n:=cf.n) ap e4 rfl oq h
   obtain⟨aN,h⟩:=h
   have hv:=Ek h
   refine WpS.Js (V:=cg ii×FZ) (fun v=> @TS.aq v.2 cf.n (ux s1 dM iJ (gT v.1))) (fun v=>I v.1∧ @Fits v.2 (ux s1 dM iJ (gT v.1))) (fun v=>m v.1) rfl (v0,Z) (bQ.trans dy) ⟨aN,qH⟩ fun v aV=> ?_
   refine bx (fun ex s' a Z' hs hf=> ?_) v.2 aV.2 (hv v.1 aV.1)
   cases ex with
   | normal=>
    obtain⟨dx,hs⟩:=CL hs
    obtain⟨gO,xq,hs⟩:=toHead_sound (n:=cf.n) ap e4 rfl hf hs
    exact⟨(dx,Z'),⟨hs.1.1,xq⟩,hs.1.2,gO⟩
   | _=>exact hK _ _ _ Z' hs hf
  ·exact h.elim
 | _=>intro R s a K Q hK Z aH h;exact h.elim
end
def s6:(e:bk)→e.T→TV
 | .ptr e,x=> .cD e x 0
 | .gr f .unit,_=> .fn f []
 | .gr f e,x=> .fn f [s6 e x]
 | e,x=>match e.isS with
  | true=> .agg (hj false e x)
  | false=>vU false e x
theorem Wb: ∀(e:bk) (x:e.T),(s6 e x).be=k6 e x:=by
 have ba: ∀(e:bk) (x:e.T),(match e.isS with
  | true=>TV.agg (hj false e x)
  | false=>vU false e x).be=match e.isS with
  | true=> .agg (cb false e x)
  | false=>lT false e x:=fun e x=>by
  cases e.isS with
  | true=>show AV.agg (b9 _)=_;rw[wL]
  | false=>exact DQ false e x
 intro e
 induction e with
 | gr f e bx=>
  intro x
  have key:s6 (.gr f e) x= .fn f [s6 e x]→k6 (.gr f e) x= .fn f [k6 e x]→(s6 (.gr f e) x).be=k6 (.gr f e) x:=fun h1 h2=>by
   rw[h1,h2,←bx x];rfl
  cases e with
  | unit=>rfl
  | _=>exact key rfl rfl
 | ptr e bx=>intro x;rfl
 | _=>intro x;exact ba _ x
def qX:Nat→(es:List bk)→cg es→List (Nat×TV)
 | _,[],_=>[]
 | i,e::r,x=>(i,s6 e x.1)::qX (i+1) r x.2
def mM (ps:List bk) (x:cg ps):TS:=⟨qX 0 ps x,[],[],0⟩
theorem J4: ∀(es:List bk) (x:cg es) (i t:Nat),(fy (qX i es x) t .u).be=if t<i then .undef else(k7 es x).getD (t - i) .undef
 | [],x,i,t=>by
  show AV.undef=_
  split<;>simp[k7]
 | e::r,x,i,t=>by
  rw[qX,fH,k7]
  by_cases h:i=t
  ·subst h
   rw[if_pos rfl,if_neg (by omega),Nat.sub_self,Wb];rfl
  ·rw[if_neg h,J4 r x.2 (i+1) t]
   by_cases h2:t<i
   ·rw[if_pos (by omega),if_pos h2]
   ·rw[if_neg (by omega),if_neg h2,show t - i=(t - (i+1))+1 by omega];rfl
theorem E6: ∀(es:List bk) (x:cg es),(k7 es x).length=es.length
 | [],_=>rfl
 | e::r,x=>by rw[k7,List.length_cons,List.length_cons,E6 r]
theorem HY (ps:List bk) (x:cg ps) (h:ps.length≤1000000):gX (mM ps x)=true:=by
 have key: ∀(es:List bk) (y:cg es) (i:Nat),i+es.length≤1000000→ ∀v,(cM,v) ∉ qX i es y:=by
  intro es
  induction es with
  | nil=>intro y i _ v hv;cases hv
  | cons e r bx=>
   intro y i hi v hv
   simp only[List.length_cons] at hi
   rcases List.mem_cons.1 hv with e | hv
   ·injection e with e _;unfold cM at e;omega
   ·exact bx y.2 (i+1) (by omega) v hv
 unfold gX
 have:(mM ps x).get cM= .u:=by
  show fy (qX 0 ps x) cM (fy [] cM .u)=_
  rw[px (key ps x 0 (by omega))];rfl
 rw[this]
theorem Tu [FZ] {fn:Func} {ps:List bk} {x:cg ps} (h:ps.length≤fn.ntmps) (aE:ps.length≤1000000):xT fn (k7 ps x) []=(mM ps x).aq fn.ntmps:=by
 have bM:k7 ps x++List.replicate (fn.ntmps - (k7 ps x).length) AV.undef=((mM ps x).aq fn.ntmps).T:=by
  apply List.ext_getElem?
  intro t
  show _=((List.range fn.ntmps).map fun t=>((mM ps x).get t).be)[t]?
  rw[List.getElem?_map]
  rcases Nat.lt_or_ge t fn.ntmps with aE | aE
  ·rw[List.getElem?_range aE]
   show _=some (fy (qX 0 ps x) t .u).be
   rw[J4,if_neg (by omega),Nat.sub_zero]
   rcases Nat.lt_or_ge t (k7 ps x).length with h1 | h1
   ·rw[List.getElem?_append_left h1,List.getD_eq_getElem?_getD,List.getElem?_eq_getElem h1];rfl
   ·rw[List.getElem?_append_right h1,List.getElem?_replicate,if_pos (by omega),List.getD_eq_getElem?_getD,List.getElem?_eq_none h1];rfl
  ·rw[List.getElem?_eq_none (l:=List.range fn.ntmps) (by simpa using aE),List.getElem?_eq_none]
   ·rfl
   ·rw[List.length_append,List.length_replicate,E6];omega
 have az:((mM ps x).aq fn.ntmps).H=[]:=by
  show(mM ps x).eW++fC (mM ps x)=[]
  unfold fC;rw[HY ps x aE];rfl
 show(⟨_,[],[]⟩:St)=⟨((mM ps x).aq fn.ntmps).T,[],((mM ps x).aq fn.ntmps).H⟩
 rw[bM,az]
def xa (s:TS):(e:bk)→TV→e.T→aD→aD
 | .int,v,r,t=>(match v with
  | .i k m=>if k= .i64 then .p (m=r) t else .no
  | _=> .no)
 | .u64,v,r,t=>(match v with
  | .i k m=>if k= .u64 then .p (m=r) t else .no
  | _=> .no)
 | .bool,v,r,t=>(match v with
  | .b x=> .p (x.den=r) t
  | _=> .no)
 | .str,v,r,t=>(match v with
  | .s x=> .p (x=r) t
  | _=> .no)
 | .l e,v,r,t=>(match v with
  | .l cH xs _ fr=>(match fr with
   | true=>if h:cH=e then .p (jq h xs=r) t else .no
   | false=> .no)
  | .nil _ _=> .p ([]=r) t
  | .ref b g m _=>n6 s b g fun cH xs d_ _=>if h:cH=e then .eq e.l3 true (.eq d_ m (.p (xs.length≤4611686018427387904∧jq h xs=r) t)) else .no
  | _=> .no)
 | _,_,_,_=> .no
def Aq (s:TS):(es:List bk)→List TV→cg es→aD→aD
 | [],[],_,t=>t
 | e::r,v::vs,x,t=>xa s e v x.1 (Aq s r vs x.2 t)
 | _,_,_,_=> .no
def xb (s:TS) (e:bk) (v:TV) (r:e.T) (t:aD):aD:=match e.isS with
 | true=>(match v with
  | .agg c=>Aq s e.iL c (e.un r) t
  | _=> .no)
 | false=>xa s e v r t
def Ap (s:TS):(es:List bk)→List TV→cg es→aD→aD
 | [],[],_,t=>t
 | e::r,v::vs,x,t=>xb s e v x.1 (Ap s r vs x.2 t)
 | _,_,_,_=> .no
def W3 (P:Program) (n:Nat) (s:TS):ResultVar→TV
 | .tmp t=>b0 n s (.tmp t)
 | .cell a t=>(match b0 n s (.tmp a) with
  | .lp v c=>(match iy s.vs v with
   | some m=>rC P t (gb s v 0 m) c
   | none=> .u)
  | _=> .u)
def sh (P:Program) (n:Nat) (fn:Func) (rs:List bk) (r:cg rs) (s:TS):aD:=
 let vs:=fn.results.toList.map (W3 P n s)
 .eq (fun H Q=>pK P ⟨s.tT n,s.bN,H⟩ fn.results.toList Q) (fun _ Q=>Q (b9 vs)) (.eq ((b9 vs).all hY) true (Ap s rs vs r .fY))
section
variable {n:Nat} {s:TS} {R:Exit→TS→Prop} {t:aD}
theorem Ox {H:List Blk} (e:bk) (x:e.T) (h:e.l3=true):iD H (cb true e x) (cb false e x):=by
 cases e with
 | int=>exact Ob x
 | u64=>exact .cons (.int _ _) rfl .nil
 | u8=>exact Od x
 | bool=>exact zs x
 | str=>exact Oc x
 | bJ=>exact EH x
 | ee=>exact Oe x
 | c7=>exact .cons (.int _ _) rfl (.cons (ik _) rfl (.cons (ik _) rfl (.cons (ik _) rfl (.cons (.int _ _) rfl .nil))))
 | k8=>exact N_ x
 | dS=>exact EI x
 | held=>exact Oa x
 | frame=>exact .cons (.bool _) rfl (.cons (ik _) rfl (.cons (ik _) rfl (.cons (ik _) rfl .nil)))
 | done=>exact N9 x
 | fault=>exact .cons (.int _ _) rfl (.cons (.int _ _) rfl .nil)
 | stays=>exact .cons (ik _) rfl (.cons (ik _) rfl (.cons (ik _) rfl .nil))
 | fe=>exact .cons (ik _) rfl (.cons (.int _ _) rfl (.cons (.int _ _) rfl .nil))
 | l e=>exact .cons (ik _) rfl .nil
 | _=>cases h
end
section
variable [FZ] {n:Nat} {s:TS} {R:Exit→TS→Prop} {t:aD}
theorem Fs {e:bk} {v:TV} {r:e.T} (h:(xa s e v r t).den R):e1 (s.aq n).H v.be (lT true e r)∧t.den R:=by
 cases e with
 | int=>
  have h:(match v with
   | .i k m=>if k=IntKind.i64 then aD.p (m=r) t else .no
   | _=> .no).den R:=h
  split at h
  ·split at h
   ·rename_i hk;subst hk;exact⟨Mw h.1,h.2⟩
   ·exact h.elim
  ·exact h.elim
 | u64=>
  have h:(match v with
   | .i k m=>if k=IntKind.u64 then aD.p (m=r) t else .no
   | _=> .no).den R:=h
  split at h
  ·split at h
   ·rename_i hk;subst hk;exact⟨Mw h.1,h.2⟩
   ·exact h.elim
  ·exact h.elim
 | bool=>
  have h:(match v with
   | .b x=>aD.p (x.den=r) t
   | _=> .no).den R:=h
  split at h
  ·exact⟨ru h.1,h.2⟩
  ·exact h.elim
 | str=>
  have h:(match v with
   | .s x=>aD.p (x=r) t
   | _=> .no).den R:=h
  split at h
  ·exact⟨Zn h.1,h.2⟩
  ·exact h.elim
 | l e=>
  have h:(match v with
   | .l cH xs _ fr=>(match fr with
    | true=>if h:cH=e then aD.p (jq h xs=r) t else .no
    | false=> .no)
   | .nil _ _=> .p ([]=r) t
   | .ref b g m _=>n6 s b g fun cH xs d_ _=>if h:cH=e then .eq e.l3 true (.eq d_ m (.p (xs.length≤4611686018427387904∧jq h xs=r) t)) else .no
   | _=> .no).den R:=h
  split at h
  ·split at h
   ·split at h
    ·rename_i he;subst he;exact⟨Zl (e:=cb false _) h.1,h.2⟩
    ·exact h.elim
   ·exact h.elim
  ·exact⟨Zm (e:=cb false e) h.1,h.2⟩
  ·rename_i b g m cS
   obtain⟨cH,xs,d_,hm,h,hb,az⟩:=r1 (n:=n) h
   split at h
   ·rename_i he
    subst he
    obtain⟨aN,h1,h2,aJ⟩:=h
    subst h1
    subst hm
    exact⟨Mv (eT:=cb true cH) (eF:=cb false cH) az (fun x=>Ox cH x aN) h2,aJ⟩
   ·exact h.elim
  ·exact h.elim
 | _=>exact h.elim
theorem Fu: ∀{es:List bk} {vs:List TV} {r:cg es},(Aq s es vs r t).den R→aK (e1 (s.aq n).H) (b9 vs) (jt true es r)∧t.den R
 | [],[],_,h=>⟨aK.nil,h⟩
 | e::r,v::vs,x,h=>by
  obtain⟨h1,h2⟩:=Fs (n:=n) (show(xa s e v x.1 _).den R from h)
  obtain⟨aJ,bj⟩:=Fu h2
  exact⟨aK.cons h1 aJ,bj⟩
 | [],_::_,_,h=>h.elim
 | _::_,[],_,h=>h.elim
theorem Pu {e:bk} {v:TV} {r:e.T} (h:(xb s e v r t).den R):p4 (s.aq n).H v.be (sc e r)∧t.den R:=by
 unfold xb at h
 unfold sc
 cases lf:e.isS with
 | true=>
  rw[lf] at h
  simp only at h
  split at h
  ·rename_i c
   obtain⟨h1,h2⟩:=Fu (n:=n) h
   refine⟨.inl ⟨b9 c,cb true e r,rfl,rfl,?_⟩,h2⟩
   rw[←nn];exact h1
  ·exact h.elim
 | false=>
  rw[lf] at h
  obtain⟨h1,h2⟩:=Fs (n:=n) h
  exact⟨.inr h1,h2⟩
theorem Ft: ∀{es:List bk} {vs:List TV} {r:cg es},(Ap s es vs r t).den R→aK (p4 (s.aq n).H) (b9 vs) (mn es r)∧t.den R
 | [],[],_,h=>⟨aK.nil,h⟩
 | e::r,v::vs,x,h=>by
  obtain⟨h1,h2⟩:=Pu (n:=n) (show(xb s e v x.1 _).den R from h)
  obtain⟨aJ,bj⟩:=Ft h2
  exact⟨aK.cons h1 aJ,bj⟩
 | [],_::_,_,h=>h.elim
 | _::_,[],_,h=>h.elim
theorem Fv {P:Program} {fn:Func} {rs:List bk} {r:cg rs} (h:(sh P n fn rs r s).den R):tf P fn (s.aq n) fun v H=>jj H v (o3 rs r):=by
 unfold sh at h
 simp only at h
 obtain⟨h1,h2,aJ⟩:=h
 unfold tf
 have Qq:pK P (s.aq n) fn.results.toList=_:=congrFun h1 (s.aq n).H
 rw[congrFun Qq]
 refine⟨h2,?_⟩
 obtain⟨bj,_⟩:=Ft (n:=n) aJ
 have key: ∀(rs:List bk) (r:cg rs) (l:List AV),aK (p4 (s.aq n).H) l (mn rs r)→jj (s.aq n).H (pW l) (o3 rs r):=by
  intro rs r l ak
  match rs,r,l with
  | [],_,[]=>exact .inl ⟨[],[],rfl,rfl,aK.nil⟩
  | [],_,_::_=>have:=ak.1;simp[mn] at this
  | [e],r,[]=>have:=ak.1;simp[mn] at this
  | [e],r,[v]=>exact .inr ak.head
  | [e],r,_::_::_=>have:=ak.1;simp[mn] at this
  | e::cH::rs,r,[]=>have:=ak.1;simp[mn] at this
  | e::cH::rs,r,[v]=>have:=ak.1;simp[mn] at this
  | e::cH::rs,r,v::w::l=>exact .inl ⟨_,_,rfl,rfl,ak⟩
 exact key rs r _ bj
end
def DP {P:Program} (cf:fO P) (dF:wl P) (fn:Func) (ps rs:List bk) (x:cg ps) (r:cg rs) (a:jF):aD:=ib cf dF (some 0) (jo fn) (mM ps x) a fun ex s _=>match ex with
 | .normal=>sh P cf.n fn rs r s
 | .ret=>sh P cf.n fn rs r s
 | _=> .no
theorem bf.run {P:Program} {f:FuncId} {fn:Func} {ps rs:List bk} {x:cg ps} {r:cg rs} (cf:fO P) (dF:wl P) (a:jF) {C:Prop} (hf:P.funcs[f]?=some fn) (h:C) (e:C=(DP cf dF fn ps rs x r a).lR.den:=by kernel_rfl)
  (e2:(DP cf dF fn ps rs x r a).lhs=(DP cf dF fn ps rs x r a).rhs:=by kernel_rfl) (hb:fn.body=some (jo fn):=by kernel_rfl) (hm:(fn.name== "runtime.NumGoroutine")=false:=by kernel_rfl)
  (ap:(Nat.beq cf.n fn.ntmps&&Nat.ble cf.n 1000000&&Nat.ble ps.length cf.n)=true:=by kernel_rfl):bf P f (k7 ps x) (o3 rs r):=by
 simp only[Bool.and_eq_true] at ap
 have h1:=Nat.eq_of_beq_eq_true ap.1.1
 have h2:=Nat.le_of_ble_eq_true ap.1.2
 have aJ:=Nat.le_of_ble_eq_true ap.2
 refine c8.JQ hf hb hm fun gR e4=> ?_
 rw[@Tu ⟨[],[]⟩ fn ps x (by rw[←h1];exact aJ) (by omega),←h1]
 refine ZU h2 (fun k e=>by cases e;rw[e4];exact Nat.le_refl _) (jo fn) (R:=fun _ _=>True) (K:=fun ex s _=>match ex with
  | .normal=>sh P cf.n fn rs r s
  | .ret=>sh P cf.n fn rs r s
  | _=> .no) (fun ex s _ Z hs hf=> ?_) ⟨[],[]⟩ (@Fits.none ⟨[],[]⟩ _ (HY ps x (by omega))) (aD.full (e▸h) e2)
 cases ex with
 | normal=>exact Fv hs
 | ret=>exact Fv hs
 | _=>exact hs.elim
def cm:List (Nat×bk):=[(23,.u8),(25,.int),(26,.ee),(27,(.l .bool)),(33,.done),(35,.k8),(36,.bool),(37,.dS),(38,.held),(46,.ee),(66,.dS),(67,.held),(78,.bJ),(138,.bJ),(144,(.l .int)),(161,(.l .bJ)),(170,.str)]
theorem o6 {α:Type} {xs:List α} {q:α→Bool} (h:first xs q=none): ∀x∈xs,q x=false:=by
 unfold first at h;rwa [List.findIdx?_eq_none_iff] at h
theorem vg {p:aG} (h:ft p=true):iA p=true∧(∀s∈p.bD,bK s 0 (p.ah - 1)=true)∧(∀w∈p.M,gj p w=true)∧p.bA.length=p.M.length∧
  (∀b∈p.bA,b.length=p.M.length)∧ ∀i k:Nat,i<p.M.length→k<p.M.length→mf p i k=false:=by
 have hb:=Wk h
 have aN:gh p=⟨0,0⟩:=by simpa[ft] using h
 rw[Cw hb] at aN
 unfold s7 at aN
 split at aN
 ·cases aN
 rename_i h1
 unfold s8 at aN
 split at aN
 ·cases aN
 rename_i h2
 unfold l4 at aN
 split at aN
 ·rename_i aJ
  split at aN
  ·cases aN
  rename_i bj
  split at aN
  ·cases aN
  rename_i cP
  refine⟨hb,fun s hs=>by simpa using o6 h1 s hs,fun w hw=>by simpa using o6 h2 w hw,aJ,fun b ag=>by simpa using o6 bj b ag,fun i k hi hk=> ?_⟩
  have:=o6 cP i (List.mem_range.2 hi)
  rw[List.any_eq_false] at this
  simpa using this k (List.mem_range.2 hk)
 ·cases aN
def kw (p:aG) (i k:Int):Bool:=nth (nth p.bA i) k
structure Eb (p:aG):Prop where
 len:p.bA.length=p.M.length
 row: ∀i:Int,0≤i→i<p.M.length→(nth p.bA i).length=p.M.length
 sym: ∀i k:Int,0≤i→i<p.M.length→0≤k→k<p.M.length→kw p i k=kw p k i
 aas: ∀i k:Int,0≤i→i<p.M.length→0≤k→k<p.M.length→i≠k→meets (nth p.M i).ah (nth p.M k).ah=true→kw p i k=true
theorem xS {x n:Int} (h:bK x 0 (n - 1)=true):0≤x∧x<n:=by have:=uS.1 h;omega
theorem B7 {l:List Int} {n:Int} (h:fG l n=true):l.length≤30∧ ∀x∈l,0≤x∧x<n:=by
 have:=qO.1 h
 exact⟨this.1,fun x hx=>xS (this.2.1 x hx)⟩
theorem Cu {p:aG} (h:ft p=true):rQ p:=by
 obtain⟨h1,h2,aJ,bj,cP,eg⟩:=vg h
 have hb:=q5.1 h1
 have hw: ∀w∈p.M,_:=fun w hw=>na.1 (aJ w hw)
 refine⟨by omega,hb.2.2.2,hb.2.2.1,fun w m=>⟨(hw w m).1,B7 (hw w m).2.1⟩,fun w m=>B7 (hw w m).2.2.1,fun w m=>B7 (hw w m).2.2.2.1,fun w m=> ?_,fun x hx=>xS (h2 x hx)⟩
 have aE:=kG.1 (hw w m).2.2.2.2.1
 have hf:=kG.1 (hw w m).2.2.2.2.2.1
 refine⟨aE.1,hf.1,fun x hx=> ?_⟩
 rcases List.mem_append.1 hx with hx | hx
 ·have:=aE.2.1 x hx
  rw[Bool.and_eq_true] at this;exact xS this.1
 ·have:=hf.2.1 x hx
  rw[Bool.and_eq_true] at this;exact xS this.1
theorem Kb {p:aG} (h:ft p=true):Eb p:=by
 obtain⟨h1,h2,aJ,bj,cP,eg⟩:=vg h
 have key: ∀i k:Int,0≤i→i<p.M.length→0≤k→k<p.M.length→kw p i k=kw p k i∧(i≠k→meets (nth p.M i).ah (nth p.M k).ah=true→kw p i k=true):=fun i k i0 i1 a7 cY=>by
  have:=eg i.toNat k.toNat (by omega) (by omega)
  unfold mf oY at this
  rw[l2 i0,l2 a7,l2 i0,l2 a7,l2 i0,l2 a7] at this
  rw[Bool.or_eq_false_iff] at this
  refine⟨by unfold kw;simpa using this.1,fun b2 hm=> ?_⟩
  have h2:=this.2
  rw[hm,Bool.and_true] at h2
  have aZ:decide (i.toNat≠k.toNat)=true:=by simpa using(show i.toNat≠k.toNat by omega)
  rw[aZ] at h2
  unfold kw
  simpa using h2
 exact⟨bj,fun i i0 i1=>cP _ (ek (by omega)),fun i k i0 i1 a7 cY=>(key i k i0 i1 a7 cY).1,fun i k i0 i1 a7 cY=>(key i k i0 i1 a7 cY).2⟩
def pe (p:aG) (f:Frame) (i:Int):Bool:= !((decide ((nth f.M i).au<0)) || ((decide ((nth f.M i).au>4)) || ((((nth f.M i).U.length:Int) !=((nth p.M i).ah.length:Int)) || ((decide ((nth f.M i).aa<0)) || (decide ((nth f.M i).aa ≥ ((nth p.M i).ah.length:Int)))))))
def qs (f:Frame) (i:Int):Bool:=bif ((nth f.M i).au !=4) then(!(((nth f.M i).aa !=0) || (hF (nth f.M i).U true))) else(!(hF ((nth f.M i).U.take (nth f.M i).aa.toNat) false))
def qt (p:aG) (f:Frame) (i:Int):Bool:=bif ((nth f.M i).au==3) then(!((decide ((nth f.M i).ao<1)) || (decide ((nth f.M i).ao>p.dV)))) else(!((nth f.M i).ao !=0))
def qu (f:Frame) (i:Int):Bool:=bif ((nth f.M i).au==0) then(!(nth f.M i).an) else(!(bif ((nth f.M i).au==2) then((nth f.M i).au==2) else((nth f.M i).au==3)) || (!(!(nth f.M i).an)))
theorem xp (p:aG) (f:Frame) (i:Int):fE p f i=(pe p f i&&(qs f i&&(qt p f i&&qu f i))):=by
 unfold fE pe qs qt qu
 simp only
 generalize nth f.M i=h
 generalize (nth p.M i).ah.length=n
 rcases h with⟨s,g,b,d,t⟩
 have bi:b.all (fun x=> !x)= !hF b true:=by
  cases h:hF b true with
  | true=>
   rw[List.all_eq_false.2 ⟨true,so.1 h,by simp⟩];rfl
  | false=>
   rw[List.all_eq_true.2 fun x hx=>by
    cases x with
    | false=>rfl
    | true=>rw[so.2 hx] at h;cases h];rfl
 have e2:(b.take g.toNat).all (fun x=>x)= !hF (b.take g.toNat) false:=by
  cases h:hF (b.take g.toNat) false with
  | true=>
   rw[List.all_eq_false.2 ⟨false,so.1 h,by simp⟩];rfl
  | false=>
   rw[List.all_eq_true.2 fun x hx=>by
    cases x with
    | true=>rfl
    | false=>rw[so.2 hx] at h;cases h];rfl
 simp only
 rw[bi,e2]
 have dr:bK s 0 4= !((decide (s<0)) || (decide (s>4))):=by unfold bK;rw[Bool.eq_iff_iff];simp
 have dT:decide (b.length=n)= !((b.length:Int) !=(n:Int)):=by rw[Bool.eq_iff_iff];simp;omega
 have fh:bK g 0 ((n:Int) - 1)= !((decide (g<0)) || (decide (g ≥ (n:Int)))):=by unfold bK;rw[Bool.eq_iff_iff];simp;omega
 have lA:bK t 1 p.dV= !((decide (t<1)) || (decide (t>p.dV))):=by unfold bK;rw[Bool.eq_iff_iff];simp
 rw[dr,dT,fh,lA]
 generalize hF b true=B
 have aI:g=0→hF (b.take g.toNat) false=false:=fun h=>by subst h;rfl
 generalize hF (b.take g.toNat) false=C at aI
 generalize (decide (s<0))=DZ
 generalize (decide (s>4))=MZ
 generalize ((b.length:Int) !=(n:Int))=M0
 generalize (decide (g<0))=aaH
 generalize (decide (g ≥ (n:Int)))=aaI
 generalize (decide (t<1))=aaJ
 generalize (decide (t>p.dV))=aaK
 have hs:s=0∨s=2∨s=3∨s=4∨(s≠0∧s≠2∧s≠3∧s≠4):=by omega
 have aZ:decide (t=0)= !(t !=0):=by rw[Bool.eq_iff_iff];simp
 have qp:decide (g=0)= !(g !=0):=by rw[Bool.eq_iff_iff];simp
 rw[aZ,qp]
 cases Gx:(g !=0) with
 | false=>
  have:C=false:=aI (by simpa using Gx)
  subst this
  generalize (t !=0)=ZX
  rcases hs with rfl | rfl | rfl | rfl | ⟨aN,h2,aJ,bj⟩
  ·cases B<;>cases d<;>simp[Bool.and_assoc]
  ·cases B<;>cases d<;>simp[Bool.and_assoc]
  ·cases B<;>cases d<;>simp[Bool.and_assoc]
  ·cases B<;>cases d<;>simp[Bool.and_assoc]
  ·have z0:(s==0)=false:=by simpa using aN
   have z2:(s==2)=false:=by simpa using h2
   have z3:(s==3)=false:=by simpa using aJ
   have z4:(s !=4)=true:=by simpa using bj
   rw[z0,z2,z3,z4]
   simp only[aN,h2,aJ,bj,if_false,decide_false,decide_true,ne_eq,not_false_eq_true]
   cases B<;>cases d<;>simp[Bool.and_assoc]
 | true=>
  clear aI Gx
  generalize (t !=0)=ZX
  rcases hs with rfl | rfl | rfl | rfl | ⟨aN,h2,aJ,bj⟩
  ·cases B<;>cases C<;>cases d<;>simp[Bool.and_assoc]
  ·cases B<;>cases C<;>cases d<;>simp[Bool.and_assoc]
  ·cases B<;>cases C<;>cases d<;>simp[Bool.and_assoc]
  ·cases B<;>cases C<;>cases d<;>simp[Bool.and_assoc]
  ·have z0:(s==0)=false:=by simpa using aN
   have z2:(s==2)=false:=by simpa using h2
   have z3:(s==3)=false:=by simpa using aJ
   have z4:(s !=4)=true:=by simpa using bj
   rw[z0,z2,z3,z4]
   simp only[aN,h2,aJ,bj,if_false,decide_false,decide_true,ne_eq,not_false_eq_true]
   cases B<;>cases C<;>cases d<;>simp[Bool.and_assoc]
def kK (x:b8):Bool:=bK x.b1 1 2&&bK x.aQ 0 2
def jn (p:aG) (f:Frame) (i k:Int):Bool:=(i !=k)&&(kw p i k&&(((nth f.M i).au !=0)&&((nth f.M k).au !=0)))
def o7 (p:aG) (f:Frame):Bool:= !((!(ft p)) || ((!f.ok) || (((f.aA.length:Int) !=p.ah) || (((f.av.length:Int) !=(p.bD.length:Int)) || ((f.M.length:Int) !=(p.M.length:Int))))))
theorem uf {p:aG} {f:Frame}:o7 p f=true↔ft p=true∧f.ok=true∧(f.aA.length:Int)=p.ah∧f.av.length=p.bD.length∧f.M.length=p.M.length:=by
 unfold o7
 simp only[Bool.not_eq_true',Bool.or_eq_false_iff,Bool.not_eq_false',bne_eq_false_iff_eq]
 constructor
 ·rintro⟨a,b,c,d,e⟩;exact⟨a,b,c,by omega,by omega⟩
 ·rintro⟨a,b,c,d,e⟩;exact⟨a,b,c,by omega,by omega⟩
theorem NL {p:aG} {f:Frame}:zj p f=true↔ ∀i k:Int,0≤i→i<f.M.length→0≤k→k<f.M.length→jn p f i k=false:=by
 unfold zj
 rw[List.all_eq_true]
 have key: ∀i k:Nat,(decide (i=k) || !oY p i k || decide ((nth f.M i).au=0) || decide ((nth f.M k).au=0))= !jn p f i k:=fun i k=>by
  unfold jn kw oY
  have bi:decide (i=k)= !((i:Int) !=(k:Int)):=by rw[Bool.eq_iff_iff];simp;omega
  have e2: ∀x:Int,decide (x=0)= !(x !=0):=fun x=>by rw[Bool.eq_iff_iff];simp
  rw[bi,e2,e2]
  cases((i:Int) !=(k:Int))<;>cases nth (nth p.bA (i:Int)) (k:Int)<;>cases((nth f.M (i:Int)).au !=0)<;>cases((nth f.M (k:Int)).au !=0)<;>rfl
 constructor
 ·intro h i k i0 i1 a7 cY
  have h1:=h i.toNat (List.mem_range.2 (by omega))
  rw[List.all_eq_true] at h1
  have h2:=h1 k.toNat (List.mem_range.2 (by omega))
  rw[key,Int.toNat_of_nonneg i0,Int.toNat_of_nonneg a7] at h2
  simpa using h2
 ·intro h i hi
  rw[List.all_eq_true]
  intro k hk
  rw[key,h i k (by omega) (by have:=List.mem_range.1 hi;omega) (by omega) (by have:=List.mem_range.1 hk;omega)];rfl
theorem sk {p:aG} {f:Frame}:gd p f=true↔o7 p f=true∧(∀x∈f.av,kK x=true)∧(∀i:Int,0≤i→i<f.M.length→fE p f i=true)∧
  (∀i k:Int,0≤i→i<f.M.length→0≤k→k<f.M.length→jn p f i k=false)∧f.M=(kO p f).M:=by
 unfold gd lC
 rw[uf,←NL]
 simp only[Bool.and_eq_true,decide_eq_true_eq,List.all_eq_true,List.mem_range]
 constructor
 ·rintro⟨⟨⟨⟨⟨⟨⟨⟨a,b⟩,c⟩,d⟩,e⟩,g⟩,h⟩,i⟩,j⟩
  refine⟨⟨a,b,c,d,e⟩,fun x hx=>by unfold kK;rw[Bool.and_eq_true];exact g x hx,fun q cj q1=> ?_,i,j⟩
  have:=h q.toNat (by omega)
  rwa [Int.toNat_of_nonneg cj] at this
 ·rintro⟨⟨a,b,c,d,e⟩,g,h,i,j⟩
  exact⟨⟨⟨⟨⟨⟨⟨⟨a,b⟩,c⟩,d⟩,e⟩,fun x hx=>by have:=g x hx;unfold kK at this;rwa [Bool.and_eq_true] at this⟩,fun q ag=>h q (by omega) (by omega)⟩,i⟩,j⟩
theorem Ax {p:aG} {f:Frame} (hb:o7 p f=true) (bH: ∀i:Int,0≤i→i<f.M.length→pe p f i=true):n3 p f:=by
 obtain⟨h1,h2,aJ,bj,cP⟩:=uf.1 hb
 have key: ∀i:Nat,i<f.M.length→((nth f.M i).U.length:Int)=((nth p.M i).ah.length:Int)∧0≤(nth f.M i).aa∧(nth f.M i).aa<((nth p.M i).ah.length:Int):=fun i hi=>by
  have:=bH i (by omega) (by omega)
  unfold pe at this
  simp only[Bool.not_eq_true',Bool.or_eq_false_iff,bne_eq_false_iff_eq,decide_eq_false_iff_not] at this
  exact⟨this.2.2.1,by omega,by omega⟩
 refine⟨aJ,bj,cP,fun i h w bi e2=> ?_,fun h hm=> ?_⟩
 ·have hi:=(List.getElem?_eq_some_iff.1 bi).1
  have aC:=(List.getElem?_eq_some_iff.1 e2).1
  have:=(key i hi).1
  rw[iM hi,iM aC,(List.getElem?_eq_some_iff.1 bi).2,(List.getElem?_eq_some_iff.1 e2).2] at this
  omega
 ·obtain⟨i,hi,rfl⟩:=List.mem_iff_getElem.1 hm
  have:=key i hi
  rw[iM hi] at this
  omega
theorem NK {p:aG} {f:Frame} {i k:Int} (cV:Eb p) (aE:f.M.length=p.M.length) (i0:0≤i) (i1:i<f.M.length) (a7:0≤k) (cY:k<f.M.length):jn p f i k=jn p f k i:=by
 unfold jn
 rw[cV.sym i k i0 (by omega) a7 (by omega),show(i !=k)=(k !=i) by rw[Bool.eq_iff_iff];simp;omega,Bool.and_comm ((nth f.M i).au !=0)]
def tj (p:aG) (f:Frame) (n:Nat) (i:Int):Bool:=(List.range n).any fun k=>jn p f i k
theorem Wo (x:b8):(bif (x.b1 !=1) then((x.b1 !=2) || ((decide (x.aQ<0)) || (decide (x.aQ>2)))) else((decide (x.aQ<0)) || (decide (x.aQ>2))))= !kK x:=by
 unfold kK bK
 by_cases h:x.b1=1
 ·rw[h,Bool.eq_iff_iff];simp
 ·have:(x.b1 !=1)=true:=by simpa using h
  rw[this,Bool.eq_iff_iff];simp;omega
def vL (h:ab):Prop:=h.U.length≤1048576
def yI (w:List ab):Prop:=sr w≤1048576
def rq (f:Frame):Prop:=xf f≤1048576
theorem Jf {n:Nat} {left:Int} (aN:0≤left∧left≤1048576) (h:(!decide (dG n left<0))=true):n≤1048576∧0≤dG n left∧dG n left≤1048576:=by
 have h: ¬dG n left<0:=by simpa using h
 have h2:=h
 rw[Jh aN.1] at h2
 unfold dG at h ⊢
 rw[if_neg h2] at h ⊢
 omega
theorem Yh {f:Frame} (h:rq f):l8 f:=by
 have h:f.aA.length+f.av.length+(f.M.length+(f.M.map fun h=>h.U.length).sum)≤1048576:=h
 refine⟨by omega,by omega,by omega,fun x hx=> ?_⟩
 have:=u3 (fun h:ab=>h.U.length) hx
 omega
end Go.Proofs.Ytglpfccgmfhkdaa.Fw
set_option linter.unusedVariables false
set_option maxRecDepth 100000
set_option maxHeartbeats 4000000
set_option linter.unusedSimpArgs false
namespace Go.Proofs.Ytglpfccgmfhkdaa.Fw
open Go
attribute [local irreducible] evS evSD WpS Weak Oper.looksAt
def IJ (a0:(List Int)) (J:Int) (ac:Int):Prop:=
 a0.length≤4611686018427387904→((decide ((IntKind.i64.wrap (J - (a0.length:Int)))<0))=true→(-1)=ac)∧((!(decide ((IntKind.i64.wrap (J - (a0.length:Int)))<0)))=true→(IntKind.i64.wrap (J - (a0.length:Int)))=ac)
theorem Uw (a0:(List Int)) (J:Int) (ak:eo a0 J):bf Try.prog 64 [bp ca a0,ar J] (ar (bP a0 J)):=(fun(h:IJ a0 J (bP a0 J))=>bf.run (ps:=[(.l .int),.int]) (rs:=[.int]) (x:=(a0,J,())) (r:=((bP a0 J),())) ⟨12,cm,[]⟩ ⟨[],[],[],[],[]⟩ .nil Try.func64 h) (by
 unfold IJ
 exact fun ap=>yS ak ap)
def IK:cd Try.prog:=⟨64,[(.l .int),.int],[.int],some fun x=>eo x.1 x.2.1,fun x=>((bP x.1 x.2.1),()),fun x h=>Uw x.1 x.2.1 h⟩
def IL (a0:(List b5)) (J:Int) (ac:Int):Prop:=
 a0.length≤4611686018427387904→((decide ((IntKind.i64.wrap (J - (a0.length:Int)))<0))=true→(-1)=ac)∧((!(decide ((IntKind.i64.wrap (J - (a0.length:Int)))<0)))=true→(IntKind.i64.wrap (J - (a0.length:Int)))=ac)
theorem Ux (a0:(List b5)) (J:Int) (ak:eo a0 J):bf Try.prog 159 [bp dh a0,ar J] (ar (bP a0 J)):=(fun(h:IL a0 J (bP a0 J))=>bf.run (ps:=[(.l .bJ),.int]) (rs:=[.int]) (x:=(a0,J,())) (r:=((bP a0 J),())) ⟨12,cm,[]⟩ ⟨[],[],[],[],[]⟩ .nil Try.func159 h) (by
 unfold IL
 exact fun ap=>yS ak ap)
def Uy:cd Try.prog:=⟨159,[(.l .bJ),.int],[.int],some fun x=>eo x.1 x.2.1,fun x=>((bP x.1 x.2.1),()),fun x h=>Ux x.1 x.2.1 h⟩
def IT (a0:Way) (J ac:Int):Prop:=
  ((decide ((bP a0.bV (bP a0.bI (bP a0.aQ (bP a0.ah J))))<0))=true→(-1)=ac)∧((!(decide ((bP a0.bV (bP a0.bI (bP a0.aQ (bP a0.ah J))))<0)))=true→(eo a0.c9 (bP a0.bV (bP a0.bI (bP a0.aQ (bP a0.ah J)))))∧(((decide ((bP a0.c9 (bP a0.bV (bP a0.bI (bP a0.aQ (bP a0.ah J)))))<0))=true→(-1)=ac)∧((!(decide ((bP a0.c9 (bP a0.bV (bP a0.bI (bP a0.aQ (bP a0.ah J)))))<0)))=true→(bP a0.c9 (bP a0.bV (bP a0.bI (bP a0.aQ (bP a0.ah J)))))=ac)))
def IU (a0:Way) (J ac:Int):Prop:=
  ((decide ((bP a0.aQ (bP a0.ah J))<0))=true→(-1)=ac)∧((!(decide ((bP a0.aQ (bP a0.ah J))<0)))=true→(eo a0.bI (bP a0.aQ (bP a0.ah J)))∧(((decide ((bP a0.bI (bP a0.aQ (bP a0.ah J)))<0))=true→(-1)=ac)∧((!(decide ((bP a0.bI (bP a0.aQ (bP a0.ah J)))<0)))=true→(eo a0.bV (bP a0.bI (bP a0.aQ (bP a0.ah J))))∧(IT a0 J ac))))
def IS (a0:Way) (J:Int) (ac:Int):Prop:=
 (eo a0.ah J)∧(((decide ((bP a0.ah J)<0))=true→(-1)=ac)∧((!(decide ((bP a0.ah J)<0)))=true→(eo a0.aQ (bP a0.ah J))∧(IU a0 J ac)))
theorem UF (a0:Way) (J:Int) (ak:eo a0 J):bf Try.prog 125 [.agg (dI false a0),ar J] (ar (nV a0 J)):=(fun(h:IS a0 J (nV a0 J))=>bf.run (ps:=[.ee,.int]) (rs:=[.int]) (x:=(a0,J,())) (r:=((nV a0 J),())) ⟨36,cm,[IK,Uy]⟩ ⟨[],[],[],[],[]⟩ .nil Try.func125 h) (by
 unfold IS IU IT nV rH bP
 have ak:0≤J∧J≤1048576:=ak
 refine⟨ak,l_ (m:=a0.aQ.length+a0.bI.length+a0.bV.length+a0.c9.length) ak (by omega) fun c k=>⟨k,?_⟩⟩
 rw[oy ak.1 c]
 refine l_ (m:=a0.bI.length+a0.bV.length+a0.c9.length) ak (by omega) fun c k=>⟨k,?_⟩
 rw[oy ak.1 c]
 refine l_ (m:=a0.bV.length+a0.c9.length) ak (by omega) fun c k=>⟨k,?_⟩
 rw[oy ak.1 c]
 refine l_ (m:=a0.c9.length) ak (by omega) fun c k=>⟨k,?_⟩
 rw[oy ak.1 c]
 exact l_ (m:=0) ak (by omega) fun c k=>rfl)
def UG:cd Try.prog:=⟨125,[.ee,.int],[.int],some fun x=>eo x.1 x.2.1,fun x=>((nV x.1 x.2.1),()),fun x h=>UF x.1 x.2.1 h⟩
def IR (ai:Int→Int→Prop) (al:Int→Int→Nat) (a0:(List Way)) (J ac:Int):Prop:=
  ai (IntKind.i64.wrap (J - (a0.length:Int))) 0∧ ∀(v1:Int) (v5:Int),ai v1 v5→(((decide (v5<(a0.length:Int)))=false→v1=ac)∧((decide (v5<(a0.length:Int)))=true→(((0≤v5∧v5.toNat<a0.length)∧(eo (nth a0 v5) v1))∧((decide ((nV (nth a0 v5) v1)<0))=true→(-1)=ac))∧((!(decide ((nV (nth a0 v5) v1)<0)))=true→ai (nV (nth a0 v5) v1) (IntKind.i64.wrap (v5+1))∧al (nV (nth a0 v5) v1) (IntKind.i64.wrap (v5+1))<al v1 v5)))
def IQ (a0:(List Way)) (J:Int) (ac:Int) (ai:Int→Int→Prop) (al:Int→Int→Nat):Prop:=
 a0.length≤4611686018427387904→((decide ((IntKind.i64.wrap (J - (a0.length:Int)))<0))=true→(-1)=ac)∧((!(decide ((IntKind.i64.wrap (J - (a0.length:Int)))<0)))=true→IR ai al a0 J ac)
theorem UD (a0:(List Way)) (J:Int) (ak:eo a0 J):bf Try.prog 65 [bp (dI false) a0,ar J] (ar (m5 a0 J)):=(fun(ai:Int→Int→Prop) (al:Int→Int→Nat) (h:IQ a0 J (m5 a0 J) ai al)=>bf.run (ps:=[(.l .ee),.int]) (rs:=[.int]) (x:=(a0,J,())) (r:=((m5 a0 J),())) ⟨27,cm,[UG]⟩ ⟨[14],[],[],[],[]⟩ (.lp [] [0] [] [.int,.int] [1,5] (fun aS=>[(1,.i .i64 aS.1),(5,.i .i64 aS.2.1)]) (fun aS=>ai aS.1 aS.2.1) (fun aS=>al aS.1 aS.2.1) fun _=> .nil) Try.func65 h) (tw a0 rH J) (tx a0) (by
 unfold IQ IR
 exact fun ap=>DK (g:=nV) (fun _ _=>rfl) ak ap)
def UE:cd Try.prog:=⟨65,[(.l .ee),.int],[.int],some fun x=>eo x.1 x.2.1,fun x=>((m5 x.1 x.2.1),()),fun x h=>UD x.1 x.2.1 h⟩
def ID (a0:(List Bool)) (J:Int) (ac:Int):Prop:=
 a0.length≤4611686018427387904→((decide ((IntKind.i64.wrap (J - (a0.length:Int)))<0))=true→(-1)=ac)∧((!(decide ((IntKind.i64.wrap (J - (a0.length:Int)))<0)))=true→(IntKind.i64.wrap (J - (a0.length:Int)))=ac)
theorem Up (a0:(List Bool)) (J:Int) (ak:eo a0 J):bf Try.prog 94 [bp aT a0,ar J] (ar (bP a0 J)):=(fun(h:ID a0 J (bP a0 J))=>bf.run (ps:=[(.l .bool),.int]) (rs:=[.int]) (x:=(a0,J,())) (r:=((bP a0 J),())) ⟨12,cm,[]⟩ ⟨[],[],[],[],[]⟩ .nil Try.func94 h) (by
 unfold ID
 exact fun ap=>yS ak ap)
def B0:cd Try.prog:=⟨94,[(.l .bool),.int],[.int],some fun x=>eo x.1 x.2.1,fun x=>((bP x.1 x.2.1),()),fun x h=>Up x.1 x.2.1 h⟩
def IC (ai:Int→Int→Prop) (al:Int→Int→Nat) (a0:(List (List Bool))) (J ac:Int):Prop:=
  ai (IntKind.i64.wrap (J - (a0.length:Int))) 0∧ ∀(v1:Int) (v5:Int),ai v1 v5→(((decide (v5<(a0.length:Int)))=false→v1=ac)∧((decide (v5<(a0.length:Int)))=true→(((0≤v5∧v5.toNat<a0.length)∧(eo (nth a0 v5) v1))∧((decide ((bP (nth a0 v5) v1)<0))=true→(-1)=ac))∧((!(decide ((bP (nth a0 v5) v1)<0)))=true→ai (bP (nth a0 v5) v1) (IntKind.i64.wrap (v5+1))∧al (bP (nth a0 v5) v1) (IntKind.i64.wrap (v5+1))<al v1 v5)))
def IB (a0:(List (List Bool))) (J:Int) (ac:Int) (ai:Int→Int→Prop) (al:Int→Int→Nat):Prop:=
 a0.length≤4611686018427387904→((decide ((IntKind.i64.wrap (J - (a0.length:Int)))<0))=true→(-1)=ac)∧((!(decide ((IntKind.i64.wrap (J - (a0.length:Int)))<0)))=true→IC ai al a0 J ac)
theorem Un (a0:(List (List Bool))) (J:Int) (ak:eo a0 J):bf Try.prog 66 [bp (e3 aT false) a0,ar J] (ar (pR a0 J)):=(fun(ai:Int→Int→Prop) (al:Int→Int→Nat) (h:IB a0 J (pR a0 J) ai al)=>bf.run (ps:=[(.l (.l .bool)),.int]) (rs:=[.int]) (x:=(a0,J,())) (r:=((pR a0 J),())) ⟨27,cm,[B0]⟩ ⟨[14],[],[],[],[]⟩ (.lp [] [0] [] [.int,.int] [1,5] (fun aS=>[(1,.i .i64 aS.1),(5,.i .i64 aS.2.1)]) (fun aS=>ai aS.1 aS.2.1) (fun aS=>al aS.1 aS.2.1) fun _=> .nil) Try.func66 h) (tw a0 List.length J) (tx a0) (by
 unfold IB IC
 exact fun ap=>DK (g:=bP) (fun _ _=>rfl) ak ap)
def Uo:cd Try.prog:=⟨66,[(.l (.l .bool)),.int],[.int],some fun x=>eo x.1 x.2.1,fun x=>((pR x.1 x.2.1),()),fun x h=>Un x.1 x.2.1 h⟩
def IN (a0:aG) (J ac:Int):Prop:=
  ((decide ((m5 a0.M (bP a0.bD J))<0))=true→(-1)=ac)∧((!(decide ((m5 a0.M (bP a0.bD J))<0)))=true→(eo a0.bA (m5 a0.M (bP a0.bD J)))∧(((decide ((pR a0.bA (m5 a0.M (bP a0.bD J)))<0))=true→(-1)=ac)∧((!(decide ((pR a0.bA (m5 a0.M (bP a0.bD J)))<0)))=true→(pR a0.bA (m5 a0.M (bP a0.bD J)))=ac)))
def IM (a0:aG) (J:Int) (ac:Int):Prop:=
 (eo a0.bD J)∧(((decide ((bP a0.bD J)<0))=true→(-1)=ac)∧((!(decide ((bP a0.bD J)<0)))=true→(eo a0.M (bP a0.bD J))∧(IN a0 J ac)))
theorem Uz (a0:aG) (J:Int) (ak:eo a0 J):bf Try.prog 23 [.agg (bW false a0),ar J] (ar (l9 a0 J)):=(fun(h:IM a0 J (l9 a0 J))=>bf.run (ps:=[.c7,.int]) (rs:=[.int]) (x:=(a0,J,())) (r:=((l9 a0 J),())) ⟨24,cm,[IK,UE,Uo]⟩ ⟨[],[],[],[],[]⟩ .nil Try.func23 h) (by
 unfold IM IN l9 vh bP m5 pR
 have ak:0≤J∧J≤1048576:=ak
 refine⟨ak,l_ (m:=vZ a0.M+rX a0.bA) ak (by omega) fun c k=>⟨k,?_⟩⟩
 rw[oy ak.1 c]
 refine l_ (m:=rX a0.bA) ak (by omega) fun c k=>⟨k,?_⟩
 rw[oy ak.1 c]
 exact l_ (m:=0) ak (by omega) fun c k=>rfl)
def UA:cd Try.prog:=⟨23,[.c7,.int],[.int],some fun x=>eo x.1 x.2.1,fun x=>((l9 x.1 x.2.1),()),fun x h=>Uz x.1 x.2.1 h⟩
def Yx (a0:Int) (J:Int) (a2:Int) (ac:Bool):Prop:=
 ((decide (a0 ≥ J))&&(decide (a0≤a2)))=ac
theorem Dh (a0:Int) (J:Int) (a2:Int):bf Try.prog 67 [ar a0,ar J,ar a2] (ax (bK a0 J a2)):=(fun(h:Yx a0 J a2 (bK a0 J a2))=>bf.run (ps:=[.int,.int,.int]) (rs:=[.bool]) (x:=(a0,J,a2,())) (r:=((bK a0 J a2),())) ⟨15,cm,[]⟩ ⟨[],[],[],[],[]⟩ .nil Try.func67 h) (by
 rfl)
def yK:cd Try.prog:=⟨67,[.int,.int,.int],[.bool],none,fun x=>((bK x.1 x.2.1 x.2.2.1),()),fun x h=>Dh x.1 x.2.1 x.2.2.1⟩
def LQ (ai:Int→Prop) (al:Int→Nat) (aX:Int→Int→Prop) (aY:Int→Int→Nat) (a0 J:(List Int)) (ac:Bool) (v11:Int):Prop:=
  aX v11 0∧ ∀(cJ:Int),aX v11 cJ→(((decide (cJ<(J.length:Int)))=false→ai (IntKind.i64.wrap (v11+1))∧al (IntKind.i64.wrap (v11+1))<al v11)∧((decide (cJ<(J.length:Int)))=true→((0≤cJ∧cJ.toNat<J.length)∧(((nth a0 v11)==(nth J cJ))=true→true=ac))∧((!((nth a0 v11)==(nth J cJ)))=true→aX v11 (IntKind.i64.wrap (cJ+1))∧aY v11 (IntKind.i64.wrap (cJ+1))<aY v11 cJ)))
def LP (a0:(List Int)) (J:(List Int)) (ac:Bool) (ai:Int→Prop) (al:Int→Nat) (aX:Int→Int→Prop) (aY:Int→Int→Nat):Prop:=
 a0.length≤4611686018427387904→ai 0∧ ∀(v11:Int),ai v11→(((decide (v11<(a0.length:Int)))=false→false=ac)∧((decide (v11<(a0.length:Int)))=true→(0≤v11∧v11.toNat<a0.length)∧(J.length≤4611686018427387904→LQ ai al aX aY a0 J ac v11)))
theorem YE (a0:(List Int)) (J:(List Int)):bf Try.prog 69 [bp ca a0,bp ca J] (ax (meets a0 J)):=(fun(ai:Int→Prop) (al:Int→Nat) (aX:Int→Int→Prop) (aY:Int→Int→Nat) (h:LP a0 J (meets a0 J) ai al aX aY)=>bf.run (ps:=[(.l .int),(.l .int)]) (rs:=[.bool]) (x:=(a0,J,())) (r:=((meets a0 J),())) ⟨26,cm,[]⟩ ⟨[],[],[],[],[]⟩ (dq [1,9,10] [] 11 ai al fun aS=>(dq [1,6,9,10,11,15,16] [] 17 (aX aS) (aY aS) fun _=> .nil)) Try.func69 h) (b4 a0.length (fun j=>fq J (nth a0 j))) (cn a0.length) (fun v=>b4 J.length (fun k=>nth a0 v==nth J k)) (fun v=>cn J.length) (by
 unfold LP LQ
 intro ap
 refine⟨c6 (cQ _),fun v aV=>⟨fun hv=> ?_,fun hv=>⟨cq aV hv,fun hm=>⟨c6 (cQ _),fun k hK=>⟨fun hk=> ?_,fun hk=>⟨⟨cq hK hk,fun ak=> ?_⟩,fun ak=>cX (c0 hm) hK hk (not_eq ak)⟩⟩⟩⟩⟩⟩
 ·exact(vW (q:=fun x=>fq J x) aV hv).symm
 ·exact cX (c0 ap) aV hv (QW (e_ hK hk))
 ·exact(yX (q:=fun x=>fq J x) aV hv (QY (cq hK hk).2 ak)).symm)
def LR:cd Try.prog:=⟨69,[(.l .int),(.l .int)],[.bool],none,fun x=>((meets x.1 x.2.1),()),fun x h=>YE x.1 x.2.1⟩
def I4 (ai:(List Int)→Int→Prop) (al:(List Int)→Int→Nat) (a0 ac:(List Int)):Prop:=
  ai (List.replicate (a0.length:Int).toNat (0:Int)) 0∧ ∀(bE:(List Int)) (v4:Int),ai bE v4→(((decide (v4<(a0.length:Int)))=false→bE.length≤4611686018427387904∧bE=ac)∧((decide (v4<(a0.length:Int)))=true→((0≤v4∧v4.toNat<a0.length)∧((0≤v4∧v4.toNat<bE.length)∧(v4.toNat<bE.length)))∧(ai (bE.set v4.toNat (nth a0 v4)) (IntKind.i64.wrap (v4+1))∧al (bE.set v4.toNat (nth a0 v4)) (IntKind.i64.wrap (v4+1))<al bE v4)))
def I3 (a0:(List Int)) (ac:(List Int)) (ai:(List Int)→Int→Prop) (al:(List Int)→Int→Nat):Prop:=
 (a0.length≤4611686018427387904→0≤(a0.length:Int)∧8*(a0.length:Int)≤140737488355328∧(a0.length:Int)≤4611686018427387904)∧(a0.length≤4611686018427387904→I4 ai al a0 ac)
theorem UR (a0:(List Int)) (ak:small a0):bf Try.prog 70 [bp ca a0] (me ca (af a0)):=(fun(ai:(List Int)→Int→Prop) (al:(List Int)→Int→Nat) (h:I3 a0 (af a0) ai al)=>bf.run (ps:=[(.l .int)]) (rs:=[(.l .int)]) (x:=(a0,())) (r:=((af a0),())) ⟨22,cm,[]⟩ ⟨[10],[],[],[],[]⟩ (.lp [] [0] [] [(.l .int),.int] [bB 0,4] (fun aS=>[(3,.ref 0 0 aS.1.length false),(4,.i .i64 aS.2.1),(bB 0,.blk 0 .int aS.1 _ rfl)]) (fun aS=>ai aS.1 aS.2.1) (fun aS=>al aS.1 aS.2.1) fun _=> .nil) Try.func70 h) (k9 a0 (fun x=>x) (0:Int)) (lU a0) (by
 unfold I3 I4
 have ak:a0.length≤1048576:=ak
 exact⟨fun ap=>⟨cQ _,by omega,by omega⟩,fun ap=>w8 (f:=fun x=>x) ap (by simp[af])⟩)
def I5:cd Try.prog:=⟨70,[(.l .int)],[(.l .int)],some fun x=>small x.1,fun x=>((af x.1),()),fun x h=>UR x.1 h⟩
def UU (a0:b5) (ac:b5):Prop:=
 (a0.br=ac.br)∧(a0.bJ=ac.bJ)
theorem UW (a0:b5):bf Try.prog 168 [.agg (dh a0)] (.agg (dh (af a0))):=(fun(h:UU a0 (af a0))=>bf.run (ps:=[.bJ]) (rs:=[.bJ]) (x:=(a0,())) (r:=((af a0),())) ⟨11,cm,[]⟩ ⟨[],[],[],[],[]⟩ .nil Try.func168 h) (by
 exact⟨rfl,rfl⟩)
def UX:cd Try.prog:=⟨168,[.bJ],[.bJ],none,fun x=>((af x.1),()),fun x h=>UW x.1⟩
def I7 (ai:(List b5)→Int→Prop) (al:(List b5)→Int→Nat) (a0 ac:(List b5)):Prop:=
  ai (List.replicate (a0.length:Int).toNat ({br:=(0:Int),bJ:=(0:Int)}:b5)) 0∧ ∀(bE:(List b5)) (v4:Int),ai bE v4→(((decide (v4<(a0.length:Int)))=false→bE.length≤4611686018427387904∧bE=ac)∧((decide (v4<(a0.length:Int)))=true→((0≤v4∧v4.toNat<a0.length)∧((0≤v4∧v4.toNat<bE.length)∧(v4.toNat<bE.length)))∧(ai (bE.set v4.toNat (af (nth a0 v4))) (IntKind.i64.wrap (v4+1))∧al (bE.set v4.toNat (af (nth a0 v4))) (IntKind.i64.wrap (v4+1))<al bE v4)))
def I6 (a0:(List b5)) (ac:(List b5)) (ai:(List b5)→Int→Prop) (al:(List b5)→Int→Nat):Prop:=
 (a0.length≤4611686018427387904→0≤(a0.length:Int)∧16*(a0.length:Int)≤140737488355328∧(a0.length:Int)≤4611686018427387904)∧(a0.length≤4611686018427387904→I7 ai al a0 ac)
theorem US (a0:(List b5)) (ak:small a0):bf Try.prog 160 [bp dh a0] (me dh (af a0)):=(fun(ai:(List b5)→Int→Prop) (al:(List b5)→Int→Nat) (h:I6 a0 (af a0) ai al)=>bf.run (ps:=[(.l .bJ)]) (rs:=[(.l .bJ)]) (x:=(a0,())) (r:=((af a0),())) ⟨23,cm,[UX]⟩ ⟨[10],[],[],[],[]⟩ (.lp [] [0] [] [(.l .bJ),.int] [bB 0,4] (fun aS=>[(3,.ref 0 0 aS.1.length false),(4,.i .i64 aS.2.1),(bB 0,.blk 0 .bJ aS.1 _ rfl)]) (fun aS=>ai aS.1 aS.2.1) (fun aS=>al aS.1 aS.2.1) fun _=> .nil) Try.func160 h) (k9 a0 (af) ({br:=(0:Int),bJ:=(0:Int)}:b5)) (lU a0) (by
 unfold I6 I7
 have ak:a0.length≤1048576:=ak
 exact⟨fun ap=>⟨cQ _,by omega,by omega⟩,fun ap=>w8 (f:=af) ap (u2 _)⟩)
def UT:cd Try.prog:=⟨160,[(.l .bJ)],[(.l .bJ)],some fun x=>small x.1,fun x=>((af x.1),()),fun x h=>US x.1 h⟩
def Jd (a0:Way) (ac:Way):Prop:=
 (small a0.ah)∧((small a0.aQ)∧((small a0.bI)∧((small a0.bV)∧((small a0.c9)∧(((af a0.ah)=ac.ah)∧((af a0.aQ)=ac.aQ)∧((af a0.bI)=ac.bI)∧((af a0.bV)=ac.bV)∧((af a0.c9)=ac.c9))))))
theorem U7 (a0:Way) (ak:vM a0):bf Try.prog 128 [.agg (dI false a0)] (.agg (dI true (af a0))):=(fun(h:Jd a0 (af a0))=>bf.run (ps:=[.ee]) (rs:=[.ee]) (x:=(a0,())) (r:=((af a0),())) ⟨25,cm,[I5,UT]⟩ ⟨[],[],[],[],[]⟩ .nil Try.func128 h) (by
 have ak:a0.ah.length+a0.aQ.length+a0.bI.length+a0.bV.length+a0.c9.length≤1048576:=ak
 unfold Jd small
 exact⟨by omega,by omega,by omega,by omega,by omega,rfl,rfl,rfl,rfl,rfl⟩)
def U8:cd Try.prog:=⟨128,[.ee],[.ee],some fun x=>vM x.1,fun x=>((af x.1),()),fun x h=>U7 x.1 h⟩
def Jb (ai:(List Way)→Int→Prop) (al:(List Way)→Int→Nat) (a0 ac bE:(List Way)) (v4:Int):Prop:=
  ((decide (v4<(a0.length:Int)))=false→bE.length≤4611686018427387904∧bE=ac)∧((decide (v4<(a0.length:Int)))=true→((0≤v4∧v4.toNat<a0.length)∧((vM (nth a0 v4))∧((0≤v4∧v4.toNat<bE.length)∧(v4.toNat<bE.length))))∧(ai (bE.set v4.toNat (af (nth a0 v4))) (IntKind.i64.wrap (v4+1))∧al (bE.set v4.toNat (af (nth a0 v4))) (IntKind.i64.wrap (v4+1))<al bE v4))
def Jc (ai:(List Way)→Int→Prop) (al:(List Way)→Int→Nat) (a0 ac:(List Way)):Prop:=
  (a0.length≤4611686018427387904→0≤(a0.length:Int)∧120*(a0.length:Int)≤140737488355328∧(a0.length:Int)≤4611686018427387904)∧(a0.length≤4611686018427387904→ai (List.replicate (a0.length:Int).toNat ({ah:=([]:(List Int)),aQ:=([]:(List b5)),bI:=([]:(List b5)),bV:=([]:(List Int)),c9:=([]:(List Int))}:Way)) 0∧ ∀(bE:(List Way)) (v4:Int),ai bE v4→(Jb ai al a0 ac bE v4))
def Ja (a0:(List Way)) (ac:(List Way)) (ai:(List Way)→Int→Prop) (al:(List Way)→Int→Nat):Prop:=
 Jc ai al a0 ac
theorem U5 (a0:(List Way)) (ak:yJ a0):bf Try.prog 71 [bp (dI false) a0] (me (dI false) (af a0)):=(fun(ai:(List Way)→Int→Prop) (al:(List Way)→Int→Nat) (h:Ja a0 (af a0) ai al)=>bf.run (ps:=[(.l .ee)]) (rs:=[(.l .ee)]) (x:=(a0,())) (r:=((af a0),())) ⟨23,cm,[U8]⟩ ⟨[10],[],[],[],[]⟩ (.lp [] [0] [] [(.l .ee),.int] [bB 0,4] (fun aS=>[(3,.ref 0 0 aS.1.length false),(4,.i .i64 aS.2.1),(bB 0,.blk 0 .ee aS.1 _ rfl)]) (fun aS=>ai aS.1 aS.2.1) (fun aS=>al aS.1 aS.2.1) fun _=> .nil) Try.func71 h) (k9 a0 af ({ah:=([]:(List Int)),aQ:=([]:(List b5)),bI:=([]:(List b5)),bV:=([]:(List Int)),c9:=([]:(List Int))}:Way)) (lU a0) (by
 unfold Ja Jc Jb
 have ak:a0.length+(a0.map rH).sum≤1048576:=ak
 refine⟨fun ap=>⟨cQ _,by omega,by omega⟩,fun ap=>w7 (f:=af) (φ:=fun v=>vM (nth a0 v)) ap (u2 _) fun v _ hv=> ?_⟩
 have:=u3 rH (ek hv)
 unfold vM;omega)
def U6:cd Try.prog:=⟨71,[(.l .ee)],[(.l .ee)],some fun x=>yJ x.1,fun x=>((af x.1),()),fun x h=>U5 x.1 h⟩
def IY (ai:(List Bool)→Int→Prop) (al:(List Bool)→Int→Nat) (a0 ac:(List Bool)):Prop:=
  ai (List.replicate (a0.length:Int).toNat false) 0∧ ∀(bE:(List Bool)) (v4:Int),ai bE v4→(((decide (v4<(a0.length:Int)))=false→bE.length≤4611686018427387904∧bE=ac)∧((decide (v4<(a0.length:Int)))=true→((0≤v4∧v4.toNat<a0.length)∧((0≤v4∧v4.toNat<bE.length)∧(v4.toNat<bE.length)))∧(ai (bE.set v4.toNat (nth a0 v4)) (IntKind.i64.wrap (v4+1))∧al (bE.set v4.toNat (nth a0 v4)) (IntKind.i64.wrap (v4+1))<al bE v4)))
def IX (a0:(List Bool)) (ac:(List Bool)) (ai:(List Bool)→Int→Prop) (al:(List Bool)→Int→Nat):Prop:=
 (a0.length≤4611686018427387904→0≤(a0.length:Int)∧1*(a0.length:Int)≤140737488355328∧(a0.length:Int)≤4611686018427387904)∧(a0.length≤4611686018427387904→IY ai al a0 ac)
theorem UJ (a0:(List Bool)) (ak:small a0):bf Try.prog 100 [bp aT a0] (me aT (af a0)):=(fun(ai:(List Bool)→Int→Prop) (al:(List Bool)→Int→Nat) (h:IX a0 (af a0) ai al)=>bf.run (ps:=[(.l .bool)]) (rs:=[(.l .bool)]) (x:=(a0,())) (r:=((af a0),())) ⟨22,cm,[]⟩ ⟨[10],[],[],[],[]⟩ (.lp [] [0] [] [(.l .bool),.int] [bB 0,4] (fun aS=>[(3,.ref 0 0 aS.1.length false),(4,.i .i64 aS.2.1),(bB 0,.blk 0 .bool aS.1 _ rfl)]) (fun aS=>ai aS.1 aS.2.1) (fun aS=>al aS.1 aS.2.1) fun _=> .nil) Try.func100 h) (k9 a0 (fun x=>x) false) (lU a0) (by
 unfold IX IY
 have ak:a0.length≤1048576:=ak
 exact⟨fun ap=>⟨cQ _,by omega,by omega⟩,fun ap=>w8 (f:=fun x=>x) ap (by simp[af])⟩)
def B1:cd Try.prog:=⟨100,[(.l .bool)],[(.l .bool)],some fun x=>small x.1,fun x=>((af x.1),()),fun x h=>UJ x.1 h⟩
def IW (ai:(List (List Bool))→Int→Prop) (al:(List (List Bool))→Int→Nat) (a0 ac bE:(List (List Bool))) (v4:Int):Prop:=
  ((decide (v4<(a0.length:Int)))=false→bE.length≤4611686018427387904∧bE=ac)∧((decide (v4<(a0.length:Int)))=true→((0≤v4∧v4.toNat<a0.length)∧((small (nth a0 v4))∧((0≤v4∧v4.toNat<bE.length)∧(v4.toNat<bE.length))))∧(ai (bE.set v4.toNat (af (nth a0 v4))) (IntKind.i64.wrap (v4+1))∧al (bE.set v4.toNat (af (nth a0 v4))) (IntKind.i64.wrap (v4+1))<al bE v4))
def IV (a0:(List (List Bool))) (ac:(List (List Bool))) (ai:(List (List Bool))→Int→Prop) (al:(List (List Bool))→Int→Nat):Prop:=
 (a0.length≤4611686018427387904→0≤(a0.length:Int)∧24*(a0.length:Int)≤140737488355328∧(a0.length:Int)≤4611686018427387904)∧(a0.length≤4611686018427387904→ai (List.replicate (a0.length:Int).toNat ([]:(List Bool))) 0∧ ∀(bE:(List (List Bool))) (v4:Int),ai bE v4→(IW ai al a0 ac bE v4))
theorem UH (a0:(List (List Bool))) (ak:yH a0):bf Try.prog 72 [bp (e3 aT false) a0] (me (e3 aT false) (af a0)):=(fun(ai:(List (List Bool))→Int→Prop) (al:(List (List Bool))→Int→Nat) (h:IV a0 (af a0) ai al)=>bf.run (ps:=[(.l (.l .bool))]) (rs:=[(.l (.l .bool))]) (x:=(a0,())) (r:=((af a0),())) ⟨23,cm,[B1]⟩ ⟨[10],[],[],[],[]⟩ (.lp [] [0] [] [(.l (.l .bool)),.int] [bB 0,4] (fun aS=>[(3,.ref 0 0 aS.1.length false),(4,.i .i64 aS.2.1),(bB 0,.blk 0 (.l .bool) aS.1 _ rfl)]) (fun aS=>ai aS.1 aS.2.1) (fun aS=>al aS.1 aS.2.1) fun _=> .nil) Try.func72 h) (k9 a0 af ([]:(List Bool))) (lU a0) (by
 unfold IV IW
 have ak:a0.length+(a0.map List.length).sum≤1048576:=ak
 refine⟨fun ap=>⟨cQ _,by omega,by omega⟩,fun ap=>w7 (f:=af) (φ:=fun v=>small (nth a0 v)) ap (u2 _) fun v _ hv=> ?_⟩
 have:=u3 List.length (ek hv)
 unfold small;omega)
def UI:cd Try.prog:=⟨72,[(.l (.l .bool))],[(.l (.l .bool))],some fun x=>yH x.1,fun x=>((af x.1),()),fun x h=>UH x.1 h⟩
def I8 (a0:aG) (ac:aG):Prop:=
 (small a0.bD)∧((yJ a0.M)∧((yH a0.bA)∧((a0.ah=ac.ah)∧((af a0.bD)=ac.bD)∧((af a0.M)=ac.M)∧((af a0.bA)=ac.bA)∧(a0.dV=ac.dV))))
theorem UY (a0:aG) (ak:rr a0):bf Try.prog 25 [.agg (bW false a0)] (.agg (bW true (af a0))):=(fun(h:I8 a0 (af a0))=>bf.run (ps:=[.c7]) (rs:=[.c7]) (x:=(a0,())) (r:=((af a0),())) ⟨23,cm,[I5,U6,UI]⟩ ⟨[],[],[],[],[]⟩ .nil Try.func25 h) (by
 have ak:a0.bD.length+vZ a0.M+rX a0.bA≤1048576:=ak
 unfold I8 small yJ yH
 exact⟨by omega,by omega,by omega,rfl,rfl,rfl,rfl,rfl⟩)
def UZ:cd Try.prog:=⟨25,[.c7],[.c7],some fun x=>rr x.1,fun x=>((af x.1),()),fun x h=>UY x.1 h⟩
def Lo (a0:(List Int)) (J:Int) (ac:Int) (ai:Int→Prop) (al:Int→Nat):Prop:=
 a0.length≤4611686018427387904→ai 0∧ ∀(fa:Int),ai fa→(((decide (fa<(a0.length:Int)))=false→(-1)=ac)∧((decide (fa<(a0.length:Int)))=true→((0≤fa∧fa.toNat<a0.length)∧((J==(nth a0 fa))=true→fa=ac))∧((!(J==(nth a0 fa)))=true→ai (IntKind.i64.wrap (fa+1))∧al (IntKind.i64.wrap (fa+1))<al fa)))
theorem Ye (a0:(List Int)) (J:Int):bf Try.prog 161 [bp ca a0,ar J] (ar (kE a0 J)):=(fun(ai:Int→Prop) (al:Int→Nat) (h:Lo a0 J (kE a0 J) ai al)=>bf.run (ps:=[(.l .int),.int]) (rs:=[.int]) (x:=(a0,J,())) (r:=((kE a0 J),())) ⟨19,cm,[]⟩ ⟨[],[],[],[],[]⟩ (dq [0,1,7] [] 8 ai al fun _=> .nil) Try.func161 h) (b4 a0.length (fun j=>J==nth a0 j)) (cn a0.length) (by
 unfold Lo
 intro ap
 refine⟨c6 (cQ _),fun v aV=>⟨fun hv=> ?_,fun hv=>⟨⟨cq aV hv,fun ak=> ?_⟩,fun ak=>cX (c0 ap) aV hv (not_eq ak)⟩⟩⟩
 ·unfold kE;rw[m9 (q:=fun x=>J==x) aV hv];rfl
 ·unfold kE;rw[m8 (q:=fun x=>J==x) aV hv ak]
  have:=aV.1
  show v=(v.toNat:Int)
  omega)
def Lp:cd Try.prog:=⟨161,[(.l .int),.int],[.int],none,fun x=>((kE x.1 x.2.1),()),fun x h=>Ye x.1 x.2.1⟩
def Le (a0:(List Int)) (J:Int) (ac:Bool):Prop:=
 (decide ((kE a0 J) ≥ 0))=ac
theorem X1 (a0:(List Int)) (J:Int):bf Try.prog 130 [bp ca a0,ar J] (ax (fq a0 J)):=(fun(h:Le a0 J (fq a0 J))=>bf.run (ps:=[(.l .int),.int]) (rs:=[.bool]) (x:=(a0,J,())) (r:=((fq a0 J),())) ⟨9,cm,[Lp]⟩ ⟨[],[],[],[],[]⟩ .nil Try.func130 h) (by
 unfold Le
 exact Sk a0 J)
def Db:cd Try.prog:=⟨130,[(.l .int),.int],[.bool],none,fun x=>((fq x.1 x.2.1),()),fun x h=>X1 x.1 x.2.1⟩
def Hy (a0:(List Int)) (J:(List Int)) (ac:Bool) (ai:Int→Prop) (al:Int→Nat):Prop:=
 a0.length≤4611686018427387904→ai 0∧ ∀(v9:Int),ai v9→(((decide (v9<(a0.length:Int)))=false→false=ac)∧((decide (v9<(a0.length:Int)))=true→((0≤v9∧v9.toNat<a0.length)∧((fq J (nth a0 v9))=true→true=ac))∧((!(fq J (nth a0 v9)))=true→ai (IntKind.i64.wrap (v9+1))∧al (IntKind.i64.wrap (v9+1))<al v9)))
theorem SP (a0:(List Int)) (J:(List Int)):bf Try.prog 74 [bp ca a0,bp ca J] (ax (meets a0 J)):=(fun(ai:Int→Prop) (al:Int→Nat) (h:Hy a0 J (meets a0 J) ai al)=>bf.run (ps:=[(.l .int),(.l .int)]) (rs:=[.bool]) (x:=(a0,J,())) (r:=((meets a0 J),())) ⟨17,cm,[Db]⟩ ⟨[],[],[],[],[]⟩ (dq [1,7,8] [] 9 ai al fun _=> .nil) Try.func74 h) (b4 a0.length (fun j=>fq J (nth a0 j))) (cn a0.length) (by
 unfold Hy
 intro ap
 refine⟨c6 (cQ _),fun v aV=>⟨fun hv=> ?_,fun hv=>⟨⟨cq aV hv,fun ak=> ?_⟩,fun ak=>cX (c0 ap) aV hv (not_eq ak)⟩⟩⟩
 ·exact(vW (q:=fun x=>fq J x) aV hv).symm
 ·exact(yX (q:=fun x=>fq J x) aV hv ak).symm)
def Hz:cd Try.prog:=⟨74,[(.l .int),(.l .int)],[.bool],none,fun x=>((meets x.1 x.2.1),()),fun x h=>SP x.1 x.2.1⟩
noncomputable def XP:Code:=jo Try.f158
def C9 (a0:(List b5)) (ac:(List b5)):Prop:=
 (a0≠[]→(a0.length*16≤140737488355328∧a0.length≤4611686018427387904)∧(a0=ac))∧(a0=[]→ ∀b7:Bool,(b7=true→[]=ac)∧(b7=false→(a0.length*16≤140737488355328∧a0.length≤4611686018427387904)∧(a0=ac)))
theorem XQ (a0:(List b5)) (ac:(List b5)) (h:C9 a0 ac):c8 Try.prog 158 [bp dh a0] [] (fun r H=>r=ay 0 0 ac.length∧H=[⟨0,2,List.map dh ac⟩]):=by
 refine c8.toOwn ?_
 unfold C9 at h
 refine c8.go (fn:=Try.f158) [(0,bp dh a0)] Try.func158 (fun _ _=> ?_)
 show WpS _ (bC XP 1) _ ⟨bq 8 [(0,bp dh a0)],[],[]⟩
 refine hD [] 0 [(2,bh)] [] [1] ?_
 refine iF ?_
 refine iF ?_
 refine b3 [] 1 ?_
 refine CZ 2 (some 4) [(3,bp dh a0)] dh a0 (fun hx=> ?_) (fun hx b7=> ?_)
 ·
  replace h:=h.1 hx
  refine fA [] ?_
  refine dH.normal ?_
  refine o0 (.tmp 4) false (fun q3=> ?_) (fun q3=> ?_)
  ·
   cases q3
  ·
   refine fc ?_
   refine dH.normal ?_
   obtain⟨cr,h⟩:=h
   refine jK ⟨(bq 8 [(2,ay 0 0 a0.length)]),[],[⟨0,2,List.map dh a0⟩]⟩ (True) ?_ (fun q4=> ?_)
   ·
    replace h:=cr
    refine b3 [] 3 ?_
    have cw:=h
    refine pO 3 (some 7) [(6,bp dh a0),(5,bh)] dh a0 (jU false (List.map dh a0)) 0 2 16 (fun r=>[⟨0,2,r⟩]) rfl cw ?_
    exact cI [(2,ay 0 0 a0.length)] trivial
   refine ij ?_
   refine lB (ay 0 0 a0.length) [ay 0 0 a0.length] ?_
   exact⟨l7 [some 0],nL [some 0] rfl (by decide) ⟨rfl,(nR (b:=0) (g:=0) (sz:=2) (xs:=a0) (ys:=ac) rfl JP h),trivial⟩,(.inr (qV (by simp) rfl rfl (by have:=congrArg List.length h;simpa using this)))⟩
 ·
  replace h:=h.2 hx b7
  refine fA [] ?_
  refine dH.normal ?_
  refine o0 (.tmp 4) b7 (fun gw=> ?_) (fun gw=> ?_)
  ·
   replace h:=h.1 gw
   refine jK ⟨(bq 8 [(2,bh)]),[],[]⟩ (True) ?_ (fun iP=> ?_)
   ·
    refine b3 [] 2 ?_
    exact cI [(2,bh)] trivial
   refine ij ?_
   refine dH.ret ?_
   refine lB (bh) [bh] ?_
   exact⟨l7 [none],nL [none] rfl (by decide) ⟨rfl,trivial,trivial⟩,(.inr (Cq (by simp) rfl rfl (by rw[←h];rfl)))⟩
  ·
   replace h:=h.2 gw
   refine fc ?_
   refine dH.normal ?_
   obtain⟨jS,h⟩:=h
   refine jK ⟨(bq 8 [(2,ay 0 0 a0.length)]),[],[⟨0,2,List.map dh a0⟩]⟩ (True) ?_ (fun jT=> ?_)
   ·
    replace h:=jS
    refine b3 [] 3 ?_
    have gL:=h
    refine pO 3 (some 7) [(6,bp dh a0),(5,bh)] dh a0 (jU false (List.map dh a0)) 0 2 16 (fun r=>[⟨0,2,r⟩]) rfl gL ?_
    exact cI [(2,ay 0 0 a0.length)] trivial
   refine ij ?_
   refine lB (ay 0 0 a0.length) [ay 0 0 a0.length] ?_
   exact⟨l7 [some 0],nL [some 0] rfl (by decide) ⟨rfl,(nR (b:=0) (g:=0) (sz:=2) (xs:=a0) (ys:=ac) rfl JP h),trivial⟩,(.inr (qV (by simp) rfl rfl (by have:=congrArg List.length h;simpa using this)))⟩
theorem XO (a0:(List b5)) (ak:small a0):c8 Try.prog 158 [bp dh a0] [] (fun r H=>r=ay 0 0 (af a0).length∧H=[⟨0,2,List.map dh (af a0)⟩]):=XQ a0 (af a0) (by
 have ak:a0.length≤1048576:=ak
 unfold C9
 refine⟨fun h=>⟨⟨by omega,by omega⟩,rfl⟩,fun h b=>⟨fun _=> ?_,fun _=>⟨⟨by omega,by omega⟩,rfl⟩⟩⟩
 exact h.symm)
noncomputable def HA:Code:=jo Try.f123
def SR:List Item:=[aj 0,aj 1,aj 3,aj 4,⟨2,true,false,[3,4]⟩,⟨5,true,false,[]⟩,aj 6]
def SS:List (List Nat):=[[],[0],[0,1],[],[3],rg 0 5,rg 0 6]
def BD (a0:Way) (ac:(List b5)):Prop:=
 ((small a0.aQ)∧(((af a0.aQ).length+a0.bI.length)*16≤140737488355328∧(af a0.aQ).length+a0.bI.length≤4611686018427387904))∧(((af a0.aQ)++a0.bI).length≤4611686018427387904∧((af a0.aQ)++a0.bI)=ac)
theorem SU (a0:Way) (ac:(List b5)) (h:BD a0 ac):bf Try.prog 123 [.agg (dI false a0)] (me dh ac):=by
 unfold BD at h
 refine c8.go (fn:=Try.f123) [(0,.agg (dI false a0))] Try.func123 (fun _ _=> ?_)
 show WpS _ (bC HA 1) _ ⟨bq 9 [(0,.agg (dI false a0))],[],[]⟩
 refine r7 [] 0 [(2,bh),(1,aW 1 0)] [0,1,1] [] [(1,(dI false a0))] [] ?_
 obtain⟨cw,h⟩:=h
 refine gH [(2,ay 0 1 ((af a0.aQ)++a0.bI).length)] [] id (fun _=>[⟨1,2,List.map dh ((af a0.aQ)++a0.bI)⟩]) (True) ?_ (fun q2=> ?_)
 ·
  replace h:=cw
  refine pL [] 1 SR SS [] ?_
  obtain⟨q3,h⟩:=h
  refine DM 5 (some 5) [(7,bp dh a0.bI),(6,aW 1 2),(4,bp dh a0.aQ),(3,aW 1 1)] [bp dh a0.aQ] (fun L H=>si Try.prog (iz HA 6) [3,4] [(7,bp dh a0.bI),(6,aW 1 2),(4,bp dh a0.aQ),(3,aW 1 1),(1,aW 1 0)] L H) (ay 0 0 (af a0.aQ).length) [⟨0,2,List.map dh (af a0.aQ)⟩] (XO a0.aQ q3) (aK.cons (dE.h0 fi) aK.nil) (qW (fun _=>rfl) rfl) (tp (rn (fun _=>rfl) rfl) (by kernel_rfl)) (Cn (ψ:=((true=true∧true=true∧((aW 1 2:AV)=aW 1 2))∧((true=true∧true=true∧((bp dh a0.bI:AV)=bp dh a0.bI))∧True))) (by kernel_rfl) ⟨⟨rfl,rfl,rfl⟩,⟨⟨rfl,rfl,rfl⟩,trivial⟩⟩) ?_
  have q4:=h
  refine ZA 1 (some 8) [] dh (af a0.aQ) a0.bI (jU false (List.map dh a0.bI)) 0 0 2 16 (fun _=>True) (fun r=>[⟨1,2,r⟩]) rfl q4 trivial ?_
  exact jV [(2,ay 0 1 ((af a0.aQ)++a0.bI).length)] trivial
 exact ij (rc (ay 0 1 ((af a0.aQ)++a0.bI).length) (jj.h0 (yM (sz:=2) (by simp) rfl (EH) h)))
theorem SQ (a0:Way) (ak:yg a0):bf Try.prog 123 [.agg (dI false a0)] (me dh (b_ a0)):=SU a0 (b_ a0) (by
 obtain⟨h1,h2⟩:=ak
 unfold BD af small
 exact⟨⟨h1,by omega,by omega⟩,by rw[List.length_append];omega,rfl⟩)
def HB:cd Try.prog:=⟨123,[.ee],[(.l .bJ)],some fun x=>yg x.1,fun x=>((b_ x.1),()),fun x h=>SQ x.1 h⟩
def Tn:List Item:=[aj 0,aj 1,aj 2,aj 3,aj 4,aj 5,aj 6,aj 7]
def To:List (List Nat):=[[],[],[0,1],[],[],[3,4],[3,4,5],rg 0 7]
def HO (ai:Int→Prop) (al:Int→Nat) (a0:(List Int)) (ac:Bool):Prop:=
  a0.length≤4611686018427387904→ai 0∧ ∀(v6:Int),ai v6→(((decide (v6<(a0.length:Int)))=false→false=ac)∧((decide (v6<(a0.length:Int)))=true→(((0≤v6∧v6≤(a0.length:Int))∧(0≤v6∧v6.toNat<a0.length))∧((fq (a0.take v6.toNat) (nth a0 v6))=true→true=ac))∧((!(fq (a0.take v6.toNat) (nth a0 v6)))=true→ai (IntKind.i64.wrap (v6+1))∧al (IntKind.i64.wrap (v6+1))<al v6)))
def HN (a0:(List Int)) (ac:Bool) (ai:Int→Prop) (al:Int→Nat):Prop:=
 HO ai al a0 ac
theorem Tl (a0:(List Int)):bf Try.prog 129 [bp ca a0] (ax (dup a0)):=(fun(ai:Int→Prop) (al:Int→Nat) (h:HN a0 (dup a0) ai al)=>bf.run (ps:=[(.l .int)]) (rs:=[.bool]) (x:=(a0,())) (r:=((dup a0),())) ⟨18,cm,[Db]⟩ ⟨[],[(4,Tn,To)],[],[],[]⟩ (dq [0,5] [] 6 ai al fun _=> .nil) Try.func129 h) (b4 a0.length (fun j=>fq (a0.take j.toNat) (nth a0 j))) (cn a0.length) (by
 unfold HN HO
 intro ap
 refine⟨c6 (cQ _),fun v aV=>⟨fun hv=> ?_,fun hv=>⟨⟨⟨⟨aV.1,aV.2.1⟩,cq aV hv⟩,fun ak=> ?_⟩,fun ak=>cX (c0 ap) aV hv (not_eq ak)⟩⟩⟩
 ·exact(E3 (e_ aV hv)).symm
 ·exact(O1 (cq aV hv).1 (cq aV hv).2 ak).symm)
def Tm:cd Try.prog:=⟨129,[(.l .int)],[.bool],none,fun x=>((dup x.1),()),fun x h=>Tl x.1⟩
def T2:List Item:=[aj 0,aj 1,aj 2,aj 3,aj 4,aj 5,aj 6,aj 7,aj 8]
def T3:List (List Nat):=[[],[],[0,1],[0,1,2],[],[],[4,5],[4,5,6],rg 0 8]
def Im (ai:Int→Prop) (al:Int→Nat) (a0 J:(List Int)) (ac:Bool):Prop:=
  ((a0.length≤4611686018427387904)∧(J.length≤4611686018427387904)→((a0.length:Int) !=(J.length:Int))=true→false=ac)∧((a0.length≤4611686018427387904)∧(J.length≤4611686018427387904)∧((!((a0.length:Int) !=(J.length:Int)))=true)→ai 0∧ ∀(v5:Int),ai v5→(((decide (v5<(a0.length:Int)))=false→true=ac)∧((decide (v5<(a0.length:Int)))=true→(((0≤v5∧v5.toNat<a0.length)∧(0≤v5∧v5.toNat<J.length))∧(((nth a0 v5) !=(nth J v5))=true→false=ac))∧((!((nth a0 v5) !=(nth J v5)))=true→ai (IntKind.i64.wrap (v5+1))∧al (IntKind.i64.wrap (v5+1))<al v5))))
def Il (a0:(List Int)) (J:(List Int)) (ac:Bool) (ai:Int→Prop) (al:Int→Nat):Prop:=
 Im ai al a0 J ac
theorem T1 (a0:(List Int)) (J:(List Int)):bf Try.prog 55 [bp ca a0,bp ca J] (ax (eqv a0 J)):=(fun(ai:Int→Prop) (al:Int→Nat) (h:Il a0 J (eqv a0 J) ai al)=>bf.run (ps:=[(.l .int),(.l .int)]) (rs:=[.bool]) (x:=(a0,J,())) (r:=((eqv a0 J),())) ⟨26,cm,[]⟩ ⟨[13],[(6,T2,T3)],[],[],[]⟩ (dq [0,1] [] 5 ai al fun _=> .nil) Try.func55 h) (b4 a0.length (fun v=>nth a0 v !=nth J v)) (cn a0.length) (by
 unfold Il Im
 exact np (ne:=fun v=>nth a0 v !=nth J v) (fun v=>by simp[eqv]))
def Io:cd Try.prog:=⟨55,[(.l .int),(.l .int)],[.bool],none,fun x=>((eqv x.1 x.2.1),()),fun x h=>T1 x.1 x.2.1⟩
def Ir (a0:b5) (J:b5) (ac:Bool):Prop:=
 ((a0.br !=J.br)=true→false=ac)∧((!(a0.br !=J.br))=true→((a0.bJ !=J.bJ)=true→false=ac)∧((!(a0.bJ !=J.bJ))=true→true=ac))
theorem T8 (a0:b5) (J:b5):bf Try.prog 169 [.agg (dh a0),.agg (dh J)] (ax (eqv a0 J)):=(fun(h:Ir a0 J (eqv a0 J))=>bf.run (ps:=[.bJ,.bJ]) (rs:=[.bool]) (x:=(a0,J,())) (r:=((eqv a0 J),())) ⟨15,cm,[]⟩ ⟨[],[],[],[],[]⟩ .nil Try.func169 h) (by
 unfold Ir
 obtain⟨c,p⟩:=a0
 obtain⟨ci,s5⟩:=J
 simp[eqv]
 intros
 simp_all)
def T9:cd Try.prog:=⟨169,[.bJ,.bJ],[.bool],none,fun x=>((eqv x.1 x.2.1),()),fun x h=>T8 x.1 x.2.1⟩
def T6:List Item:=[aj 0,aj 1,aj 2,aj 3,aj 4,aj 5,aj 6,aj 7,aj 8,aj 9]
def T7:List (List Nat):=[[],[],[0,1],[0,1,2],[],[],[4,5],[4,5,6],rg 0 8,rg 0 9]
def Iq (ai:Int→Prop) (al:Int→Nat) (a0 J:(List b5)) (ac:Bool):Prop:=
  ((a0.length≤4611686018427387904)∧(J.length≤4611686018427387904)→((a0.length:Int) !=(J.length:Int))=true→false=ac)∧((a0.length≤4611686018427387904)∧(J.length≤4611686018427387904)∧((!((a0.length:Int) !=(J.length:Int)))=true)→ai 0∧ ∀(v5:Int),ai v5→(((decide (v5<(a0.length:Int)))=false→true=ac)∧((decide (v5<(a0.length:Int)))=true→(((0≤v5∧v5.toNat<a0.length)∧(0≤v5∧v5.toNat<J.length))∧((!(eqv (nth a0 v5) (nth J v5)))=true→false=ac))∧((!(!(eqv (nth a0 v5) (nth J v5))))=true→ai (IntKind.i64.wrap (v5+1))∧al (IntKind.i64.wrap (v5+1))<al v5))))
def Ip (a0:(List b5)) (J:(List b5)) (ac:Bool) (ai:Int→Prop) (al:Int→Nat):Prop:=
 Iq ai al a0 J ac
theorem T4 (a0:(List b5)) (J:(List b5)):bf Try.prog 162 [bp dh a0,bp dh J] (ax (eqv a0 J)):=(fun(ai:Int→Prop) (al:Int→Nat) (h:Ip a0 J (eqv a0 J) ai al)=>bf.run (ps:=[(.l .bJ),(.l .bJ)]) (rs:=[.bool]) (x:=(a0,J,())) (r:=((eqv a0 J),())) ⟨27,cm,[T9]⟩ ⟨[13],[(6,T6,T7)],[],[],[]⟩ (dq [0,1] [] 5 ai al fun _=> .nil) Try.func162 h) (b4 a0.length (fun v=> !(eqv (nth a0 v) (nth J v)))) (cn a0.length) (by
 unfold Ip Iq
 exact np (ne:=fun v=> !(eqv (nth a0 v) (nth J v))) (fun v=>by simp[eqv]))
def T5:cd Try.prog:=⟨162,[(.l .bJ),(.l .bJ)],[.bool],none,fun x=>((eqv x.1 x.2.1),()),fun x h=>T4 x.1 x.2.1⟩
def IA (a0 J:Way) (ac:Bool):Prop:=
  ((!(eqv a0.ah J.ah))=true→false=ac)∧((!(!(eqv a0.ah J.ah)))=true→((!(eqv a0.aQ J.aQ))=true→false=ac)∧((!(!(eqv a0.aQ J.aQ)))=true→((!(eqv a0.bI J.bI))=true→false=ac)∧((!(!(eqv a0.bI J.bI)))=true→((!(eqv a0.bV J.bV))=true→false=ac)∧((!(!(eqv a0.bV J.bV)))=true→((!(eqv a0.c9 J.c9))=true→false=ac)∧((!(!(eqv a0.c9 J.c9)))=true→true=ac)))))
def Iz (a0:Way) (J:Way) (ac:Bool):Prop:=
 IA a0 J ac
theorem Ul (a0:Way) (J:Way):bf Try.prog 131 [.agg (dI false a0),.agg (dI false J)] (ax (eqv a0 J)):=(fun(h:Iz a0 J (eqv a0 J))=>bf.run (ps:=[.ee,.ee]) (rs:=[.bool]) (x:=(a0,J,())) (r:=((eqv a0 J),())) ⟨35,cm,[Io,T5]⟩ ⟨[],[],[],[],[]⟩ .nil Try.func131 h) (by
 unfold Iz IA
 obtain⟨a,b,c,d,e⟩:=a0
 obtain⟨gB,bS,ci,ub,cH⟩:=J
 simp[eqv]
 refine⟨fun h h1=>absurd h1 h,fun h=>⟨fun k _ cY=>absurd cY k,?_⟩⟩
 intros
 simp_all)
def Um:cd Try.prog:=⟨131,[.ee,.ee],[.bool],none,fun x=>((eqv x.1 x.2.1),()),fun x h=>Ul x.1 x.2.1⟩
def Uj:List Item:=[aj 0,aj 1,aj 2,aj 3,aj 4,aj 5,aj 6,aj 7,aj 8,aj 9]
def Uk:List (List Nat):=[[],[],[0,1],[0,1,2],[],[],[4,5],[4,5,6],rg 0 8,rg 0 9]
def Iy (ai:Int→Prop) (al:Int→Nat) (a0 J:(List Way)) (ac:Bool):Prop:=
  ((a0.length≤4611686018427387904)∧(J.length≤4611686018427387904)→((a0.length:Int) !=(J.length:Int))=true→false=ac)∧((a0.length≤4611686018427387904)∧(J.length≤4611686018427387904)∧((!((a0.length:Int) !=(J.length:Int)))=true)→ai 0∧ ∀(v5:Int),ai v5→(((decide (v5<(a0.length:Int)))=false→true=ac)∧((decide (v5<(a0.length:Int)))=true→(((0≤v5∧v5.toNat<a0.length)∧(0≤v5∧v5.toNat<J.length))∧((!(eqv (nth a0 v5) (nth J v5)))=true→false=ac))∧((!(!(eqv (nth a0 v5) (nth J v5))))=true→ai (IntKind.i64.wrap (v5+1))∧al (IntKind.i64.wrap (v5+1))<al v5))))
def Ix (a0:(List Way)) (J:(List Way)) (ac:Bool) (ai:Int→Prop) (al:Int→Nat):Prop:=
 Iy ai al a0 J ac
theorem Uh (a0:(List Way)) (J:(List Way)):bf Try.prog 75 [bp (dI false) a0,bp (dI false) J] (ax (eqv a0 J)):=(fun(ai:Int→Prop) (al:Int→Nat) (h:Ix a0 J (eqv a0 J) ai al)=>bf.run (ps:=[(.l .ee),(.l .ee)]) (rs:=[.bool]) (x:=(a0,J,())) (r:=((eqv a0 J),())) ⟨27,cm,[Um]⟩ ⟨[13],[(6,Uj,Uk)],[],[],[]⟩ (dq [0,1] [] 5 ai al fun _=> .nil) Try.func75 h) (b4 a0.length (fun v=> !(eqv (nth a0 v) (nth J v)))) (cn a0.length) (by
 unfold Ix Iy
 exact np (ne:=fun v=> !(eqv (nth a0 v) (nth J v))) (fun v=>by simp[eqv]))
def Ui:cd Try.prog:=⟨75,[(.l .ee),(.l .ee)],[.bool],none,fun x=>((eqv x.1 x.2.1),()),fun x h=>Uh x.1 x.2.1⟩
def TP:List Item:=[aj 0,aj 1,aj 2,aj 3,aj 4,aj 5,aj 6,aj 7,aj 8]
def TQ:List (List Nat):=[[],[],[0,1],[0,1,2],[],[],[4,5],[4,5,6],rg 0 8]
def If (ai:Int→Prop) (al:Int→Nat) (a0 J:(List Bool)) (ac:Bool):Prop:=
  ((a0.length≤4611686018427387904)∧(J.length≤4611686018427387904)→((a0.length:Int) !=(J.length:Int))=true→false=ac)∧((a0.length≤4611686018427387904)∧(J.length≤4611686018427387904)∧((!((a0.length:Int) !=(J.length:Int)))=true)→ai 0∧ ∀(v5:Int),ai v5→(((decide (v5<(a0.length:Int)))=false→true=ac)∧((decide (v5<(a0.length:Int)))=true→(((0≤v5∧v5.toNat<a0.length)∧(0≤v5∧v5.toNat<J.length))∧(((nth a0 v5) !=(nth J v5))=true→false=ac))∧((!((nth a0 v5) !=(nth J v5)))=true→ai (IntKind.i64.wrap (v5+1))∧al (IntKind.i64.wrap (v5+1))<al v5))))
def Ie (a0:(List Bool)) (J:(List Bool)) (ac:Bool) (ai:Int→Prop) (al:Int→Nat):Prop:=
 If ai al a0 J ac
theorem TO (a0:(List Bool)) (J:(List Bool)):bf Try.prog 80 [bp aT a0,bp aT J] (ax (eqv a0 J)):=(fun(ai:Int→Prop) (al:Int→Nat) (h:Ie a0 J (eqv a0 J) ai al)=>bf.run (ps:=[(.l .bool),(.l .bool)]) (rs:=[.bool]) (x:=(a0,J,())) (r:=((eqv a0 J),())) ⟨26,cm,[]⟩ ⟨[13],[(6,TP,TQ)],[],[],[]⟩ (dq [0,1] [] 5 ai al fun _=> .nil) Try.func80 h) (b4 a0.length (fun v=>nth a0 v !=nth J v)) (cn a0.length) (by
 unfold Ie If
 exact np (ne:=fun v=>nth a0 v !=nth J v) (fun v=>by simp[eqv]))
def BZ:cd Try.prog:=⟨80,[(.l .bool),(.l .bool)],[.bool],none,fun x=>((eqv x.1 x.2.1),()),fun x h=>TO x.1 x.2.1⟩
def TM:List Item:=[aj 0,aj 1,aj 2,aj 3,aj 4,aj 5,aj 6,aj 7,aj 8,aj 9]
def TN:List (List Nat):=[[],[],[0,1],[0,1,2],[],[],[4,5],[4,5,6],rg 0 8,rg 0 9]
def Ic (ai:Int→Prop) (al:Int→Nat) (a0 J:(List (List Bool))) (ac:Bool):Prop:=
  ((a0.length≤4611686018427387904)∧(J.length≤4611686018427387904)→((a0.length:Int) !=(J.length:Int))=true→false=ac)∧((a0.length≤4611686018427387904)∧(J.length≤4611686018427387904)∧((!((a0.length:Int) !=(J.length:Int)))=true)→ai 0∧ ∀(v5:Int),ai v5→(((decide (v5<(a0.length:Int)))=false→true=ac)∧((decide (v5<(a0.length:Int)))=true→(((0≤v5∧v5.toNat<a0.length)∧(0≤v5∧v5.toNat<J.length))∧((!(eqv (nth a0 v5) (nth J v5)))=true→false=ac))∧((!(!(eqv (nth a0 v5) (nth J v5))))=true→ai (IntKind.i64.wrap (v5+1))∧al (IntKind.i64.wrap (v5+1))<al v5))))
def Ib (a0:(List (List Bool))) (J:(List (List Bool))) (ac:Bool) (ai:Int→Prop) (al:Int→Nat):Prop:=
 Ic ai al a0 J ac
theorem TK (a0:(List (List Bool))) (J:(List (List Bool))):bf Try.prog 76 [bp (e3 aT false) a0,bp (e3 aT false) J] (ax (eqv a0 J)):=(fun(ai:Int→Prop) (al:Int→Nat) (h:Ib a0 J (eqv a0 J) ai al)=>bf.run (ps:=[(.l (.l .bool)),(.l (.l .bool))]) (rs:=[.bool]) (x:=(a0,J,())) (r:=((eqv a0 J),())) ⟨27,cm,[BZ]⟩ ⟨[13],[(6,TM,TN)],[],[],[]⟩ (dq [0,1] [] 5 ai al fun _=> .nil) Try.func76 h) (b4 a0.length (fun v=> !(eqv (nth a0 v) (nth J v)))) (cn a0.length) (by
 unfold Ib Ic
 exact np (ne:=fun v=> !(eqv (nth a0 v) (nth J v))) (fun v=>by simp[eqv]))
def TL:cd Try.prog:=⟨76,[(.l (.l .bool)),(.l (.l .bool))],[.bool],none,fun x=>((eqv x.1 x.2.1),()),fun x h=>TK x.1 x.2.1⟩
def It (a0 J:aG) (ac:Bool):Prop:=
  ((a0.ah !=J.ah)=true→false=ac)∧((!(a0.ah !=J.ah))=true→((!(eqv a0.bD J.bD))=true→false=ac)∧((!(!(eqv a0.bD J.bD)))=true→((!(eqv a0.M J.M))=true→false=ac)∧((!(!(eqv a0.M J.M)))=true→((!(eqv a0.bA J.bA))=true→false=ac)∧((!(!(eqv a0.bA J.bA)))=true→((a0.dV !=J.dV)=true→false=ac)∧((!(a0.dV !=J.dV))=true→true=ac)))))
def Is (a0:aG) (J:aG) (ac:Bool):Prop:=
 It a0 J ac
theorem T_ (a0:aG) (J:aG):bf Try.prog 28 [.agg (bW false a0),.agg (bW false J)] (ax (eqv a0 J)):=(fun(h:Is a0 J (eqv a0 J))=>bf.run (ps:=[.c7,.c7]) (rs:=[.bool]) (x:=(a0,J,())) (r:=((eqv a0 J),())) ⟨33,cm,[Io,Ui,TL]⟩ ⟨[],[],[],[],[]⟩ .nil Try.func28 h) (by
 unfold Is It
 obtain⟨a,b,c,d,e⟩:=a0
 obtain⟨gB,bS,ci,ub,cH⟩:=J
 simp[eqv]
 refine⟨fun h h1=>absurd h1 h,fun h=>⟨fun k _ cY=>absurd cY k,?_⟩⟩
 intros
 simp_all)
def Ua:cd Try.prog:=⟨28,[.c7,.c7],[.bool],none,fun x=>((eqv x.1 x.2.1),()),fun x h=>T_ x.1 x.2.1⟩
def Iw (a0:b8) (J:b8) (ac:Bool):Prop:=
 ((a0.b1 !=J.b1)=true→false=ac)∧((!(a0.b1 !=J.b1))=true→((a0.aQ !=J.aQ)=true→false=ac)∧((!(a0.aQ !=J.aQ))=true→true=ac))
theorem Uf (a0:b8) (J:b8):bf Try.prog 132 [.agg (bn a0),.agg (bn J)] (ax (eqv a0 J)):=(fun(h:Iw a0 J (eqv a0 J))=>bf.run (ps:=[.dS,.dS]) (rs:=[.bool]) (x:=(a0,J,())) (r:=((eqv a0 J),())) ⟨15,cm,[]⟩ ⟨[],[],[],[],[]⟩ .nil Try.func132 h) (by
 unfold Iw
 obtain⟨c,p⟩:=a0
 obtain⟨ci,s5⟩:=J
 simp[eqv]
 intros
 simp_all)
def Ug:cd Try.prog:=⟨132,[.dS,.dS],[.bool],none,fun x=>((eqv x.1 x.2.1),()),fun x h=>Uf x.1 x.2.1⟩
def Ud:List Item:=[aj 0,aj 1,aj 2,aj 3,aj 4,aj 5,aj 6,aj 7,aj 8,aj 9]
def Ue:List (List Nat):=[[],[],[0,1],[0,1,2],[],[],[4,5],[4,5,6],rg 0 8,rg 0 9]
def Iv (ai:Int→Prop) (al:Int→Nat) (a0 J:(List b8)) (ac:Bool):Prop:=
  ((a0.length≤4611686018427387904)∧(J.length≤4611686018427387904)→((a0.length:Int) !=(J.length:Int))=true→false=ac)∧((a0.length≤4611686018427387904)∧(J.length≤4611686018427387904)∧((!((a0.length:Int) !=(J.length:Int)))=true)→ai 0∧ ∀(v5:Int),ai v5→(((decide (v5<(a0.length:Int)))=false→true=ac)∧((decide (v5<(a0.length:Int)))=true→(((0≤v5∧v5.toNat<a0.length)∧(0≤v5∧v5.toNat<J.length))∧((!(eqv (nth a0 v5) (nth J v5)))=true→false=ac))∧((!(!(eqv (nth a0 v5) (nth J v5))))=true→ai (IntKind.i64.wrap (v5+1))∧al (IntKind.i64.wrap (v5+1))<al v5))))
def Iu (a0:(List b8)) (J:(List b8)) (ac:Bool) (ai:Int→Prop) (al:Int→Nat):Prop:=
 Iv ai al a0 J ac
theorem Ub (a0:(List b8)) (J:(List b8)):bf Try.prog 81 [bp bn a0,bp bn J] (ax (eqv a0 J)):=(fun(ai:Int→Prop) (al:Int→Nat) (h:Iu a0 J (eqv a0 J) ai al)=>bf.run (ps:=[(.l .dS),(.l .dS)]) (rs:=[.bool]) (x:=(a0,J,())) (r:=((eqv a0 J),())) ⟨27,cm,[Ug]⟩ ⟨[13],[(6,Ud,Ue)],[],[],[]⟩ (dq [0,1] [] 5 ai al fun _=> .nil) Try.func81 h) (b4 a0.length (fun v=> !(eqv (nth a0 v) (nth J v)))) (cn a0.length) (by
 unfold Iu Iv
 exact np (ne:=fun v=> !(eqv (nth a0 v) (nth J v))) (fun v=>by simp[eqv]))
def Uc:cd Try.prog:=⟨81,[(.l .dS),(.l .dS)],[.bool],none,fun x=>((eqv x.1 x.2.1),()),fun x h=>Ub x.1 x.2.1⟩
def Ik (a0 J:ab) (ac:Bool):Prop:=
  ((a0.au !=J.au)=true→false=ac)∧((!(a0.au !=J.au))=true→((a0.aa !=J.aa)=true→false=ac)∧((!(a0.aa !=J.aa))=true→((!(eqv a0.U J.U))=true→false=ac)∧((!(!(eqv a0.U J.U)))=true→((a0.an !=J.an)=true→false=ac)∧((!(a0.an !=J.an))=true→((a0.ao !=J.ao)=true→false=ac)∧((!(a0.ao !=J.ao))=true→true=ac)))))
def Ij (a0:ab) (J:ab) (ac:Bool):Prop:=
 Ik a0 J ac
theorem TZ (a0:ab) (J:ab):bf Try.prog 133 [.agg (cl false a0),.agg (cl false J)] (ax (eqv a0 J)):=(fun(h:Ij a0 J (eqv a0 J))=>bf.run (ps:=[.held,.held]) (rs:=[.bool]) (x:=(a0,J,())) (r:=((eqv a0 J),())) ⟨31,cm,[BZ]⟩ ⟨[],[],[],[],[]⟩ .nil Try.func133 h) (by
 unfold Ij Ik
 obtain⟨a,b,c,d,e⟩:=a0
 obtain⟨gB,bS,ci,ub,cH⟩:=J
 simp[eqv]
 refine⟨fun h h1=>absurd h1 h,fun h=>⟨fun k _ cY=>absurd cY k,?_⟩⟩
 intros
 simp_all)
def T0:cd Try.prog:=⟨133,[.held,.held],[.bool],none,fun x=>((eqv x.1 x.2.1),()),fun x h=>TZ x.1 x.2.1⟩
def TX:List Item:=[aj 0,aj 1,aj 2,aj 3,aj 4,aj 5,aj 6,aj 7,aj 8,aj 9]
def TY:List (List Nat):=[[],[],[0,1],[0,1,2],[],[],[4,5],[4,5,6],rg 0 8,rg 0 9]
def Ii (ai:Int→Prop) (al:Int→Nat) (a0 J:(List ab)) (ac:Bool):Prop:=
  ((a0.length≤4611686018427387904)∧(J.length≤4611686018427387904)→((a0.length:Int) !=(J.length:Int))=true→false=ac)∧((a0.length≤4611686018427387904)∧(J.length≤4611686018427387904)∧((!((a0.length:Int) !=(J.length:Int)))=true)→ai 0∧ ∀(v5:Int),ai v5→(((decide (v5<(a0.length:Int)))=false→true=ac)∧((decide (v5<(a0.length:Int)))=true→(((0≤v5∧v5.toNat<a0.length)∧(0≤v5∧v5.toNat<J.length))∧((!(eqv (nth a0 v5) (nth J v5)))=true→false=ac))∧((!(!(eqv (nth a0 v5) (nth J v5))))=true→ai (IntKind.i64.wrap (v5+1))∧al (IntKind.i64.wrap (v5+1))<al v5))))
def Ih (a0:(List ab)) (J:(List ab)) (ac:Bool) (ai:Int→Prop) (al:Int→Nat):Prop:=
 Ii ai al a0 J ac
theorem TU (a0:(List ab)) (J:(List ab)):bf Try.prog 82 [bp (cl false) a0,bp (cl false) J] (ax (eqv a0 J)):=(fun(ai:Int→Prop) (al:Int→Nat) (h:Ih a0 J (eqv a0 J) ai al)=>bf.run (ps:=[(.l .held),(.l .held)]) (rs:=[.bool]) (x:=(a0,J,())) (r:=((eqv a0 J),())) ⟨27,cm,[T0]⟩ ⟨[13],[(6,TX,TY)],[],[],[]⟩ (dq [0,1] [] 5 ai al fun _=> .nil) Try.func82 h) (b4 a0.length (fun v=> !(eqv (nth a0 v) (nth J v)))) (cn a0.length) (by
 unfold Ih Ii
 exact np (ne:=fun v=> !(eqv (nth a0 v) (nth J v))) (fun v=>by simp[eqv]))
def TW:cd Try.prog:=⟨82,[(.l .held),(.l .held)],[.bool],none,fun x=>((eqv x.1 x.2.1),()),fun x h=>TU x.1 x.2.1⟩
def Ig (a0:Frame) (J:Frame) (ac:Bool):Prop:=
 ((a0.ok !=J.ok)=true→false=ac)∧((!(a0.ok !=J.ok))=true→((!(eqv a0.aA J.aA))=true→false=ac)∧((!(!(eqv a0.aA J.aA)))=true→((!(eqv a0.av J.av))=true→false=ac)∧((!(!(eqv a0.av J.av)))=true→((!(eqv a0.M J.M))=true→false=ac)∧((!(!(eqv a0.M J.M)))=true→true=ac))))
theorem TR (a0:Frame) (J:Frame):bf Try.prog 34 [.agg (ck false a0),.agg (ck false J)] (ax (eqv a0 J)):=(fun(h:Ig a0 J (eqv a0 J))=>bf.run (ps:=[.frame,.frame]) (rs:=[.bool]) (x:=(a0,J,())) (r:=((eqv a0 J),())) ⟨28,cm,[BZ,Uc,TW]⟩ ⟨[],[],[],[],[]⟩ .nil Try.func34 h) (by
 unfold Ig
 obtain⟨a,b,c,d⟩:=a0
 obtain⟨gB,bS,ci,ub⟩:=J
 simp[eqv]
 refine⟨fun h h1=>absurd h1 h,fun h=>⟨fun k _ cY=>absurd cY k,?_⟩⟩
 intros
 simp_all)
def TT:cd Try.prog:=⟨34,[.frame,.frame],[.bool],none,fun x=>((eqv x.1 x.2.1),()),fun x h=>TR x.1 x.2.1⟩
def IP (a0:(List b8)) (J:Int) (ac:Int):Prop:=
 a0.length≤4611686018427387904→((decide ((IntKind.i64.wrap (J - (a0.length:Int)))<0))=true→(-1)=ac)∧((!(decide ((IntKind.i64.wrap (J - (a0.length:Int)))<0)))=true→(IntKind.i64.wrap (J - (a0.length:Int)))=ac)
theorem UB (a0:(List b8)) (J:Int) (ak:eo a0 J):bf Try.prog 95 [bp bn a0,ar J] (ar (bP a0 J)):=(fun(h:IP a0 J (bP a0 J))=>bf.run (ps:=[(.l .dS),.int]) (rs:=[.int]) (x:=(a0,J,())) (r:=((bP a0 J),())) ⟨12,cm,[]⟩ ⟨[],[],[],[],[]⟩ .nil Try.func95 h) (by
 unfold IP
 exact fun ap=>yS ak ap)
def UC:cd Try.prog:=⟨95,[(.l .dS),.int],[.int],some fun x=>eo x.1 x.2.1,fun x=>((bP x.1 x.2.1),()),fun x h=>UB x.1 x.2.1 h⟩
def II (a0:ab) (J:Int) (ac:Int):Prop:=
 (eo a0.U J)∧(((decide ((bP a0.U J)<0))=true→(-1)=ac)∧((!(decide ((bP a0.U J)<0)))=true→(bP a0.U J)=ac))
theorem Uu (a0:ab) (J:Int) (ak:eo a0 J):bf Try.prog 139 [.agg (cl false a0),ar J] (ar (nU a0 J)):=(fun(h:II a0 J (nU a0 J))=>bf.run (ps:=[.held,.int]) (rs:=[.int]) (x:=(a0,J,())) (r:=((nU a0 J),())) ⟨12,cm,[B0]⟩ ⟨[],[],[],[],[]⟩ .nil Try.func139 h) (by
 unfold II nU bP
 have ak:0≤J∧J≤1048576:=ak
 exact⟨ak,l_ (m:=0) ak (by omega) fun c k=>rfl⟩)
def Uv:cd Try.prog:=⟨139,[.held,.int],[.int],some fun x=>eo x.1 x.2.1,fun x=>((nU x.1 x.2.1),()),fun x h=>Uu x.1 x.2.1 h⟩
def IH (ai:Int→Int→Prop) (al:Int→Int→Nat) (a0:(List ab)) (ac v1 v5:Int):Prop:=
  ((decide (v5<(a0.length:Int)))=false→v1=ac)∧((decide (v5<(a0.length:Int)))=true→(((0≤v5∧v5.toNat<a0.length)∧(eo (nth a0 v5) v1))∧((decide ((nU (nth a0 v5) v1)<0))=true→(-1)=ac))∧((!(decide ((nU (nth a0 v5) v1)<0)))=true→ai (nU (nth a0 v5) v1) (IntKind.i64.wrap (v5+1))∧al (nU (nth a0 v5) v1) (IntKind.i64.wrap (v5+1))<al v1 v5))
def IG (a0:(List ab)) (J:Int) (ac:Int) (ai:Int→Int→Prop) (al:Int→Int→Nat):Prop:=
 a0.length≤4611686018427387904→((decide ((IntKind.i64.wrap (J - (a0.length:Int)))<0))=true→(-1)=ac)∧((!(decide ((IntKind.i64.wrap (J - (a0.length:Int)))<0)))=true→ai (IntKind.i64.wrap (J - (a0.length:Int))) 0∧ ∀(v1:Int) (v5:Int),ai v1 v5→(IH ai al a0 ac v1 v5))
theorem Us (a0:(List ab)) (J:Int) (ak:eo a0 J):bf Try.prog 96 [bp (cl false) a0,ar J] (ar (pS a0 J)):=(fun(ai:Int→Int→Prop) (al:Int→Int→Nat) (h:IG a0 J (pS a0 J) ai al)=>bf.run (ps:=[(.l .held),.int]) (rs:=[.int]) (x:=(a0,J,())) (r:=((pS a0 J),())) ⟨27,cm,[Uv]⟩ ⟨[14],[],[],[],[]⟩ (.lp [] [0] [] [.int,.int] [1,5] (fun aS=>[(1,.i .i64 aS.1),(5,.i .i64 aS.2.1)]) (fun aS=>ai aS.1 aS.2.1) (fun aS=>al aS.1 aS.2.1) fun _=> .nil) Try.func96 h) (tw a0 (fun h=>h.U.length) J) (tx a0) (by
 unfold IG IH
 exact fun ap=>DK (g:=nU) (fun _ _=>rfl) ak ap)
def Ut:cd Try.prog:=⟨96,[(.l .held),.int],[.int],some fun x=>eo x.1 x.2.1,fun x=>((pS x.1 x.2.1),()),fun x h=>Us x.1 x.2.1 h⟩
def IF (a0:Frame) (J ac:Int):Prop:=
  ((decide ((bP a0.av (bP a0.aA J))<0))=true→(-1)=ac)∧((!(decide ((bP a0.av (bP a0.aA J))<0)))=true→(eo a0.M (bP a0.av (bP a0.aA J)))∧(((decide ((pS a0.M (bP a0.av (bP a0.aA J)))<0))=true→(-1)=ac)∧((!(decide ((pS a0.M (bP a0.av (bP a0.aA J)))<0)))=true→(pS a0.M (bP a0.av (bP a0.aA J)))=ac)))
def IE (a0:Frame) (J:Int) (ac:Int):Prop:=
 (eo a0.aA J)∧(((decide ((bP a0.aA J)<0))=true→(-1)=ac)∧((!(decide ((bP a0.aA J)<0)))=true→(eo a0.av (bP a0.aA J))∧(IF a0 J ac)))
theorem Uq (a0:Frame) (J:Int) (ak:eo a0 J):bf Try.prog 40 [.agg (ck false a0),ar J] (ar (rA a0 J)):=(fun(h:IE a0 J (rA a0 J))=>bf.run (ps:=[.frame,.int]) (rs:=[.int]) (x:=(a0,J,())) (r:=((rA a0 J),())) ⟨24,cm,[B0,UC,Ut]⟩ ⟨[],[],[],[],[]⟩ .nil Try.func40 h) (by
 unfold IE IF rA xf bP pS
 have ak:0≤J∧J≤1048576:=ak
 refine⟨ak,l_ (m:=a0.av.length+sr a0.M) ak (by omega) fun c k=>⟨k,?_⟩⟩
 rw[oy ak.1 c]
 refine l_ (m:=sr a0.M) ak (by omega) fun c k=>⟨k,?_⟩
 rw[oy ak.1 c]
 exact l_ (m:=0) ak (by omega) fun c k=>rfl)
def Ur:cd Try.prog:=⟨40,[.frame,.int],[.int],some fun x=>eo x.1 x.2.1,fun x=>((rA x.1 x.2.1),()),fun x h=>Uq x.1 x.2.1 h⟩
def U2 (a0:b8) (ac:b8):Prop:=
 (a0.b1=ac.b1)∧(a0.aQ=ac.aQ)
theorem U3 (a0:b8):bf Try.prog 141 [.agg (bn a0)] (.agg (bn (af a0))):=(fun(h:U2 a0 (af a0))=>bf.run (ps:=[.dS]) (rs:=[.dS]) (x:=(a0,())) (r:=((af a0),())) ⟨11,cm,[]⟩ ⟨[],[],[],[],[]⟩ .nil Try.func141 h) (by
 exact⟨rfl,rfl⟩)
def U4:cd Try.prog:=⟨141,[.dS],[.dS],none,fun x=>((af x.1),()),fun x h=>U3 x.1⟩
def I_ (ai:(List b8)→Int→Prop) (al:(List b8)→Int→Nat) (a0 ac:(List b8)):Prop:=
  ai (List.replicate (a0.length:Int).toNat ({b1:=(0:Int),aQ:=(0:Int)}:b8)) 0∧ ∀(bE:(List b8)) (v4:Int),ai bE v4→(((decide (v4<(a0.length:Int)))=false→bE.length≤4611686018427387904∧bE=ac)∧((decide (v4<(a0.length:Int)))=true→((0≤v4∧v4.toNat<a0.length)∧((0≤v4∧v4.toNat<bE.length)∧(v4.toNat<bE.length)))∧(ai (bE.set v4.toNat (af (nth a0 v4))) (IntKind.i64.wrap (v4+1))∧al (bE.set v4.toNat (af (nth a0 v4))) (IntKind.i64.wrap (v4+1))<al bE v4)))
def I9 (a0:(List b8)) (ac:(List b8)) (ai:(List b8)→Int→Prop) (al:(List b8)→Int→Nat):Prop:=
 (a0.length≤4611686018427387904→0≤(a0.length:Int)∧16*(a0.length:Int)≤140737488355328∧(a0.length:Int)≤4611686018427387904)∧(a0.length≤4611686018427387904→I_ ai al a0 ac)
theorem U0 (a0:(List b8)) (ak:small a0):bf Try.prog 101 [bp bn a0] (me bn (af a0)):=(fun(ai:(List b8)→Int→Prop) (al:(List b8)→Int→Nat) (h:I9 a0 (af a0) ai al)=>bf.run (ps:=[(.l .dS)]) (rs:=[(.l .dS)]) (x:=(a0,())) (r:=((af a0),())) ⟨23,cm,[U4]⟩ ⟨[10],[],[],[],[]⟩ (.lp [] [0] [] [(.l .dS),.int] [bB 0,4] (fun aS=>[(3,.ref 0 0 aS.1.length false),(4,.i .i64 aS.2.1),(bB 0,.blk 0 .dS aS.1 _ rfl)]) (fun aS=>ai aS.1 aS.2.1) (fun aS=>al aS.1 aS.2.1) fun _=> .nil) Try.func101 h) (k9 a0 af ({b1:=(0:Int),aQ:=(0:Int)}:b8)) (lU a0) (by
 unfold I9 I_
 have ak:a0.length≤1048576:=ak
 exact⟨fun ap=>⟨cQ _,by omega,by omega⟩,fun ap=>w8 (f:=af) ap (u2 _)⟩)
def U1:cd Try.prog:=⟨101,[(.l .dS)],[(.l .dS)],some fun x=>small x.1,fun x=>((af x.1),()),fun x h=>U0 x.1 h⟩
def UO (a0:ab) (ac:ab):Prop:=
 (small a0.U)∧((a0.au=ac.au)∧(a0.aa=ac.aa)∧((af a0.U)=ac.U)∧(a0.an=ac.an)∧(a0.ao=ac.ao))
theorem UP (a0:ab) (ak:vL a0):bf Try.prog 142 [.agg (cl false a0)] (.agg (cl true (af a0))):=(fun(h:UO a0 (af a0))=>bf.run (ps:=[.held]) (rs:=[.held]) (x:=(a0,())) (r:=((af a0),())) ⟨21,cm,[B1]⟩ ⟨[],[],[],[],[]⟩ .nil Try.func142 h) (by
 exact⟨ak,rfl,rfl,rfl,rfl,rfl⟩)
def UQ:cd Try.prog:=⟨142,[.held],[.held],some fun x=>vL x.1,fun x=>((af x.1),()),fun x h=>UP x.1 h⟩
def I1 (ai:(List ab)→Int→Prop) (al:(List ab)→Int→Nat) (a0 ac bE:(List ab)) (v4:Int):Prop:=
  ((decide (v4<(a0.length:Int)))=false→bE.length≤4611686018427387904∧bE=ac)∧((decide (v4<(a0.length:Int)))=true→((0≤v4∧v4.toNat<a0.length)∧((vL (nth a0 v4))∧((0≤v4∧v4.toNat<bE.length)∧(v4.toNat<bE.length))))∧(ai (bE.set v4.toNat (af (nth a0 v4))) (IntKind.i64.wrap (v4+1))∧al (bE.set v4.toNat (af (nth a0 v4))) (IntKind.i64.wrap (v4+1))<al bE v4))
def I2 (ai:(List ab)→Int→Prop) (al:(List ab)→Int→Nat) (a0 ac:(List ab)):Prop:=
  (a0.length≤4611686018427387904→0≤(a0.length:Int)∧56*(a0.length:Int)≤140737488355328∧(a0.length:Int)≤4611686018427387904)∧(a0.length≤4611686018427387904→ai (List.replicate (a0.length:Int).toNat ({au:=(0:Int),aa:=(0:Int),U:=([]:(List Bool)),an:=false,ao:=(0:Int)}:ab)) 0∧ ∀(bE:(List ab)) (v4:Int),ai bE v4→(I1 ai al a0 ac bE v4))
def I0 (a0:(List ab)) (ac:(List ab)) (ai:(List ab)→Int→Prop) (al:(List ab)→Int→Nat):Prop:=
 I2 ai al a0 ac
theorem UM (a0:(List ab)) (ak:yI a0):bf Try.prog 102 [bp (cl false) a0] (me (cl false) (af a0)):=(fun(ai:(List ab)→Int→Prop) (al:(List ab)→Int→Nat) (h:I0 a0 (af a0) ai al)=>bf.run (ps:=[(.l .held)]) (rs:=[(.l .held)]) (x:=(a0,())) (r:=((af a0),())) ⟨23,cm,[UQ]⟩ ⟨[10],[],[],[],[]⟩ (.lp [] [0] [] [(.l .held),.int] [bB 0,4] (fun aS=>[(3,.ref 0 0 aS.1.length false),(4,.i .i64 aS.2.1),(bB 0,.blk 0 .held aS.1 _ rfl)]) (fun aS=>ai aS.1 aS.2.1) (fun aS=>al aS.1 aS.2.1) fun _=> .nil) Try.func102 h) (k9 a0 af ({au:=(0:Int),aa:=(0:Int),U:=([]:(List Bool)),an:=false,ao:=(0:Int)}:ab)) (lU a0) (by
 unfold I0 I2 I1
 have ak:a0.length+(a0.map fun h=>h.U.length).sum≤1048576:=ak
 refine⟨fun ap=>⟨cQ _,by omega,by omega⟩,fun ap=>w7 (f:=af) (φ:=fun v=>vL (nth a0 v)) ap (u2 _) fun v _ hv=> ?_⟩
 have:=u3 (fun h:ab=>h.U.length) (ek hv)
 unfold vL;omega)
def UN:cd Try.prog:=⟨102,[(.l .held)],[(.l .held)],some fun x=>yI x.1,fun x=>((af x.1),()),fun x h=>UM x.1 h⟩
def IZ (a0:Frame) (ac:Frame):Prop:=
 (small a0.aA)∧((small a0.av)∧((yI a0.M)∧((a0.ok=ac.ok)∧((af a0.aA)=ac.aA)∧((af a0.av)=ac.av)∧((af a0.M)=ac.M))))
theorem UK (a0:Frame) (ak:rq a0):bf Try.prog 42 [.agg (ck false a0)] (.agg (ck true (af a0))):=(fun(h:IZ a0 (af a0))=>bf.run (ps:=[.frame]) (rs:=[.frame]) (x:=(a0,())) (r:=((af a0),())) ⟨20,cm,[B1,U1,UN]⟩ ⟨[],[],[],[],[]⟩ .nil Try.func42 h) (by
 have ak:a0.aA.length+a0.av.length+sr a0.M≤1048576:=ak
 unfold IZ small yI
 exact⟨by omega,by omega,by omega,rfl,rfl,rfl,rfl⟩)
def UL:cd Try.prog:=⟨42,[.frame],[.frame],some fun x=>rq x.1,fun x=>((af x.1),()),fun x h=>UK x.1 h⟩
end Go.Proofs.Ytglpfccgmfhkdaa.Fw
set_option linter.unusedVariables false
namespace Go.Proofs.Ytglpfccgmfhkdaa.Fw
open Go
def Env.wd (W:World):Env:={w:=W,PA:=fun c=>c<W.heap.size,PF:=fun c=>c<W.heap.size,m:=fun _=>none,ba:=fun _=>0,sz:=fun _=>0,cp:=fun _=>0,mL:=fun _=>none}
theorem ZP (W:World):SimH (Env.wd W) [] where
 heap:=fun b c hb=>by cases hb
 dJ:=fun b blk hb=>by simp at hb
 fz:=fun b hb=>by cases hb
 fresh:=fun b _=>⟨rfl,rfl⟩
 fR:=fun b bS c hb=>by cases hb
 gW:=fun t gZ c hb=>by cases hb
 e7:=fun b t c hb=>by cases hb
 fV:=fun c _ ⟨b,hb⟩=>by cases hb
 gm:=fun c _ ⟨b,hb⟩=>by cases hb
 dc:=fun c hc=>hc
 df:=fun c hc=>hc
 ed:=fun c ⟨b,hb⟩=>by cases hb
 eQ:=fun c ⟨b,hb⟩=>by cases hb
theorem ZN {w w':World} (h:RowKit.Below w.heap.size w w'):(Env.wd w).eZ (Env.wd w'):=
 ⟨fun c hc=>Nat.lt_of_lt_of_le hc h.size,fun c hc=>Nat.lt_of_lt_of_le hc h.size,fun c hc=>h.block c hc,fun c hc=>h.block c hc,fun _=>Nat.le_refl _,(fun _ _ h _=>by cases h),(fun _ _ h=>by cases h)⟩
theorem bf.world {P:Program} {f:FuncId} {args:List AV} {t:AV} (h:bf P f args t) {w:World} {vs:List Value} (aL:aK (V2 (Env.wd w)) args vs):
  Calls P f vs.toArray w fun e w'=> ∃v,e= .returned v∧RowKit.Below w.heap.size w w'∧V3 (Env.wd w') t v:=by
 refine(h.2 (Env.wd w) vs (fun _=>rfl) (ZP w) aL).mono ?_
 rintro e w' ⟨r,v,H',E',rfl,aw,rfl,ap,hs,hv,a6⟩
 refine⟨v,rfl,⟨a6.os,a6.tape,a6.output,a6.size,fun k hk=>a6.dM k hk (fun⟨b,hb⟩=>by cases hb) (fun⟨b,hb⟩=>by cases hb)⟩,Lx (E':=Env.wd E'.w) hs rfl (fun c hc=> ?_) aw hv⟩
 rcases hc with hc | hc
 ·exact⟨hs.df c (hs.dc c hc),hs.df c (hs.dc c hc)⟩
 ·exact⟨hs.ed c hc,hs.ed c hc⟩
theorem dO.wd {E:Env} (az:SimH E []) (bF: ∀t,E.mL t=none) {a:AV} {v:Value} (h:dO E a v):dO (Env.wd E.w) a v:=by
 have kb: ∀a v,a1 E.w E.PA E.PF a v→a1 E.w (fun c=>c<E.w.heap.size) (fun c=>c<E.w.heap.size) a v:=fun a v k=>k.mono (fun _ _=>rfl) (fun _ _=>rfl) az.df (fun c hc=>az.df c (az.dc c hc))
 have hm:=fun b=>az.fresh b (Nat.zero_le _)
 cases a with
 | ref b g off n full=>
  rcases h with⟨h,_⟩ | ⟨_,h⟩
  ·rw[(hm b).2] at h;cases h
  ·rcases h with⟨h,_⟩ | ⟨c,cap,h,_⟩<;>rw[(hm b).1] at h<;>cases h
 | ptr b g r c=>
  rcases h with⟨h,_⟩ | ⟨_,bl,h,_⟩
  ·rw[(hm b).2] at h;cases h
  ·rw[(hm b).1] at h;cases h
 | dZ t c=>obtain⟨bl,h,_⟩:=h;rw[bF t] at h;cases h
 | _=>exact kb _ _ h
theorem bT.wd {E:Env} (az:SimH E []) (bF: ∀t,E.mL t=none) {a:AV} {v:Value} (h:bT E a v):bT (Env.wd E.w) a v:=by
 by_cases hf: ∃f caps,a= .fn f caps
 ·obtain⟨f,caps,rfl⟩:=hf
  obtain⟨vs,e,ak⟩:=h
  exact⟨vs,e,ak.mono fun _ _ k=>k.wd az bF⟩
 ·rw[nf fun f c e=>hf ⟨f,c,e⟩] at h ⊢
  exact h.wd az bF
theorem V2.wd {E:Env} (az:SimH E []) (bF: ∀t,E.mL t=none) {a:AV} {v:Value} (h:V2 E a v):V2 (Env.wd E.w) a v:=by
 by_cases hf: ∃l,a= .agg l
 ·obtain⟨l,rfl⟩:=hf
  obtain⟨vs,e,ak⟩:=h
  exact⟨vs,e,ak.mono fun _ _ k=>k.wd az bF⟩
 ·rw[lM fun l e=>hf ⟨l,e⟩] at h ⊢
  exact h.wd az bF
theorem bf.VU {P:Program} {f:FuncId} {args:List AV} {s:ByteArray} (ei:pE P f=true)
  (h: ∀(w:World) (vs:List Value),aK (V2 (Env.wd w)) args vs→Calls P f vs.toArray w fun e w'=>e= .returned (.string s)∧RowKit.Below w.heap.size w w'):bf P f args (.str s):=by
 refine⟨ei,fun E vs bF az aL=>(h E.w vs (aL.mono fun _ _ k=>k.wd az bF)).mono ?_⟩
 rintro e w' ⟨rfl,hb⟩
 have hk: ∀c,E.PA c→w'.heap[c]?=E.w.heap[c]?:=fun c hc=>hb.block c (az.df c hc)
 have hm:=fun b=>az.fresh b (Nat.zero_le _)
 refine⟨.str s,.string s,[],{E with w:=w'},rfl,.inr (.inr (.str s)),rfl,bF,{az with
  heap:=fun b c Gg=>by rw[(hm b).1] at Gg;cases Gg
  df:=fun c hc=>Nat.lt_of_lt_of_le (az.df c hc) hb.size
  ed:=fun c hc=>Nat.lt_of_lt_of_le (az.ed c hc) hb.size
  eQ:=fun c hc=>Nat.lt_of_lt_of_le (az.eQ c hc) hb.size},a1.str s,?_⟩
 exact⟨⟨fun _ h=>h,fun _ h=>h,hk,fun c hc=>hk c (az.dc c hc),fun _=>Nat.le_refl _,fun _ _ h _=>⟨h,rfl,rfl⟩,fun _ _ h=>h⟩,hb.os,hb.tape,hb.output,hb.size,fun c hc _ _=>hb.block c hc,fun _ _ h=> .inl h,fun _ h=> .inl h,fun _ h=> .inl h,fun _ h=> .inl h⟩
theorem V3.ZO {w:World} {rows:List (List AV)} {cS fr:Bool} {v:Value} (h:V3 (Env.wd w) (.a8 rows cS fr) v): ∃A cap,v= .slice A rows.length cap:=by
 have h:a1 w (fun c=>c<w.heap.size) (fun c=>c<w.heap.size) (.a8 rows cS fr) v:=h
 cases h;exact⟨_,_,rfl⟩
theorem JU {w:World} {l:List AV} {v:Value} (h:V2 (Env.wd w) (.agg l) v): ∃vs:List Value,v= .agg vs.toArray∧aK (bT (Env.wd w)) l vs:=h
def Rows (w:World) (A:Option Addr) (sz:Nat) (rows:List (List AV)):Prop:=rows=[]∨ ∃c o,A=some ⟨c,o,none⟩∧c<w.heap.size∧ ∀(i j:Nat) (row:List AV) (a:AV),rows[i]?=some row→row[j]?=some a→ ∃u,w.cell? ⟨c,o+(i*sz+j),none⟩=some u∧bT (Env.wd w) a u
theorem Co {w:World} {rows:List (List AV)} {cS fr:Bool} {sz:Nat} {v:Value} (h:bT (Env.wd w) (.a8 rows cS fr) v) (hs: ∀row∈rows,row.length=sz): ∃A cap,v= .slice A rows.length cap∧Rows w A sz rows:=by
 have h:a1 w (fun c=>c<w.heap.size) (fun c=>c<w.heap.size) (.a8 rows cS fr) v:=h
 cases h with
 | @a8 _ _ PB _ _ _ A cap MD vs eh e5 fw bX dv hrel=>
  refine⟨A,cap,rfl,?_⟩
  by_cases ap:0<rows.length
  ·obtain⟨c,o,e,hc,ds⟩:=dv ap
   have aN:rows[0]?=some rows[0]:=List.getElem?_eq_getElem ap
   have cH:MD=sz:=by rw[←bX 0 _ aN,hs _ (List.mem_of_getElem? aN)]
   subst cH
   refine .inr ⟨c,o,e,?_,fun i j row a aw aL=> ?_⟩
   ·have:=eh c hc;split at this<;>exact this
   ·have hi:=(List.getElem?_eq_some_iff.1 aw).1
    have aC:j<MD:=by rw[←bX i row aw];exact(List.getElem?_eq_some_iff.1 aL).1
    exact⟨vs i j,ds i j hi aC,a1.v1 (E:=Env.wd w) ((hrel i j row a aw aL).mono (fun _ _=>rfl) (fun _ h=>h.elim) (fun c hc=>by have:=eh c hc;split at this<;>exact this) (fun _ h=>h.elim))⟩
  ·exact .inl (List.eq_nil_of_length_eq_zero (by omega))
open Go Go.RowKit Go.Shelf Go.Proofs
theorem EC:(Try.prog.info? 173).map (·.size)=some 2:=by kernel_rfl
theorem NW:(Try.prog.info? 5).map (fun i=>(i.zero,i.size,i.bytes))=some (some (.int .u8 0),1,1):=by kernel_rfl
set_option maxHeartbeats 1000000 in
set_option maxRecDepth 100000 in
theorem N0 (b:Nat) (w:World) (aN:w.cell? ⟨b,0,none⟩=some (.pointer (some ⟨b,0,none⟩))):
    Calls Try.prog 167 #[.pointer (some ⟨b,0,none⟩)] w fun e w'=>e= .returned (.tuple #[])∧w'=w:=by
  obtain⟨j,aC,_⟩:=Option.map_eq_some_iff.1 EC
  go_enter Try.func167,Try.ntmps167
  go_wp2
  rw[Lib.run_neq_ptr_same w _ Try.underlying171 aC]
  go_wp2
  go_end0
  exact⟨rfl,rfl⟩
set_option maxHeartbeats 1000000 in
set_option maxRecDepth 100000 in
theorem NY (b:Nat) (w:World) (aN:w.cell? ⟨b,0,none⟩=some (.pointer none)) (G0:w.shape? b=some (173,2)) (Rh:w.frozen? ⟨b,0,none⟩=false):
    Calls Try.prog 167 #[.pointer (some ⟨b,0,none⟩)] w fun e w'=>e= .returned (.tuple #[])∧w'=w.setCell ⟨b,0,none⟩ (.pointer (some ⟨b,0,none⟩)):=by
  obtain⟨j,aC,GA⟩:=Option.map_eq_some_iff.1 EC
  go_enter Try.func167,Try.ntmps167
  go_wp2
  rw[Lib.run_to_unsafe w ⟨b,0,none⟩ Try.underlying171 Try.underlying191 aC (by rw[GA];decide) G0 (Nat.zero_lt_succ 1)]
  simp only[Result.andThen]
  rw[Oper.upon_value]
  go_wp2
  rw[run_callFunc_extern Try.func171 (by kernel_rfl) (by kernel_rfl) (by kernel_rfl) (e:=Extern.AbiNoEscape.same) (by kernel_rfl)]
  rw[Lib.run_noEscape]
  simp only[Result.andThen]
  rw[Oper.upon_value]
  go_wp2
  rw[Lib.run_from_unsafe w ⟨b,0,none⟩ Try.underlying191 Try.underlying171 aC G0 (by kernel_rfl)]
  simp only[Result.andThen]
  rw[Oper.upon_value]
  go_wp2
  go_end0
  exact⟨rfl,rfl⟩
theorem NX (B b:Nat) (bs:List Value) (w:World) (h:Lib.IsBuilder 173 5 B b bs w):
    Calls Try.prog 167 #[.pointer (some ⟨b,0,none⟩)] w fun e w'=>e= .returned (.tuple #[])∧(Lib.BuilderAt 173 5 B b (.pointer (some ⟨b,0,none⟩)) bs w'∧Below B w w'):=by
  rcases h with h | h
  · refine(NY b w h.cell0 h.shape h.frozen0).mono ?_
    rintro e w' ⟨rfl,rfl⟩
    exact⟨rfl,h.used _,(Below.refl B w).setCell (p:=⟨b,0,none⟩) h.1 _⟩
  · refine(N0 b w h.cell0).mono ?_
    rintro e w' ⟨rfl,rfl⟩
    exact⟨rfl,h,Below.refl B _⟩
set_option maxHeartbeats 2000000 in
set_option maxRecDepth 100000 in
theorem n5 (B b:Nat) (bs:List Value) (c:Int) (w:World) (h:Lib.IsBuilder 173 5 B b bs w) (hlen:bs.length+1≤140737488355328) (F5:B≤w.heap.size):
    Calls Try.prog 156 #[.pointer (some ⟨b,0,none⟩),.int .u8 c] w fun e w'=>e= .returned .nilIface∧(Lib.IsBuilder 173 5 B b (bs++[.int .u8 c]) w'∧Below B w w'):=by
  obtain⟨i0,hi,Bo,oq,qH⟩:=info_parts NW
  go_enter Try.func156,Try.ntmps156
  go_wp2_with (go_at_call 167;refine(NX B b bs _ h).mono ?_)
  rintro e bQ ⟨rfl,h1,de⟩
  obtain⟨cV,v,lV,xH,b2⟩:=h1
  have gp:bQ.cell? ⟨b,0,none⟩=some (.pointer (some ⟨b,0,none⟩)):=by rw[Lib.cell_of_heap lV];rfl
  have c1:bQ.cell? ⟨b,1,none⟩=some v:=by rw[Lib.cell_of_heap lV];rfl
  go_wp2_with (at_builtin;refine wpList_append_own _ rfl _ _ 23 rfl B 5 i0 (.int .u8 0) 1 1 Try.underlying23 hi Bo oq qH rfl (by decide) _ _ _ rfl (xH.alloc _) ⟨bQ.heap.size,0,none⟩ 1 1 [.int .u8 c] rfl rfl ?c1 ?c2 ?c3 ?c4 ?c5 ?_)
  case c1=>
    intro j u aC
    match j,aC with
    | 0,aC=>simp at aC;subst aC;simp[Addr.add]
  case c2=>intro u hu;simp at hu;subst hu;rfl
  case c3=>unfold maxLen;omega
  case c4=>omega
  case c5=>have:=de.size;simp;omega
  intro dx dy GS Gw _
  have aR:b<bQ.heap.size:=by
    rcases Nat.lt_or_ge b bQ.heap.size with h' | h'
    · exact h'
    · simp[Array.getElem?_eq_none h'] at lV
  have gk:dy.heap[b]?=some (.cells #[.pointer (some ⟨b,0,none⟩),v] 173 (0,0)):=by
    rw[Gw.block b (by simp;omega) (fun e=>b2 e.symm),Lib.alloc_old bQ _ b aR]
    exact lV
  have d0:dy.cell? ⟨b,0,none⟩=some (.pointer (some ⟨b,0,none⟩)):=by rw[Lib.cell_of_heap gk];rfl
  have d1:dy.cell? ⟨b,1,none⟩=some v:=by rw[Lib.cell_of_heap gk];rfl
  have f1:dy.frozen? ⟨b,1,none⟩=false:=Lib.frozen_of_heap gk 1
  obtain⟨g,cap,rfl⟩: ∃g cap,dx= .slice (some ⟨g,0,none⟩) (bs.length+1) cap:=by
    rcases GS.2 with⟨_,aN⟩ | ⟨g,cap,fe,hv,_⟩
    · omega
    · exact⟨g,cap,hv⟩
  go_wp2
  go_ret
  refine⟨rfl,.inr ?_,?_⟩
  · exact Lib.BuilderAt.put (T:=173) (e:=5) cV gk (bs':=bs++[.int .u8 c]) (by simpa using GS) (by decide)
  · exact((de.alloc (by have:=de.size;omega) _).grown Gw (by have:=de.size;simp;omega) (fun k hk=>(xH.lt k hk).1)).setCell (p:=⟨b,1,none⟩) cV _
def EB:Go.Shelf.Ren:=⟨fun | 169=>157 | n=>n,fun | 70=>171 | 9=>9 | 0=>0 | 72=>173 | 37=>23 | 127=>185 | 3=>3 | 5=>5 | n=>n,fun | n=>n⟩
theorem NU:Go.Proofs.Lays.n169 Try.prog EB:={
  mixed:=by kernel_rfl
  f169:=Try.func157.trans (congrArg some (by kernel_rfl))
  t0:=Try.underlying0
  a0:=Try.isAgg0
  z0:=Try.sizeOf0
  v0:=Try.zeroValue0
  t3:=Try.underlying3
  a3:=Try.isAgg3
  z3:=Try.sizeOf3
  v3:=Try.zeroValue3
  t9:=Try.underlying9
  a9:=Try.isAgg9
  z9:=Try.sizeOf9
  v9:=Try.zeroValue9
  t37:=Try.underlying23
  a37:=Try.isAgg23
  z37:=Try.sizeOf23
  v37:=Try.zeroValue23
  t70:=Try.underlying171
  a70:=Try.isAgg171
  z70:=Try.sizeOf171
  v70:=Try.zeroValue171
  t72:=Try.underlying173
  a72:=Try.isAgg173
  z72:=Try.sizeOf173
  v72:=Try.zeroValue173
  t127:=Try.underlying185
  a127:=Try.isAgg185
  z127:=Try.sizeOf185
  v127:=Try.zeroValue185}
theorem NV:Builder.Extra Try.prog EB:={
  sizeBuilder:=by kernel_rfl
  liesBuilder:=by kernel_rfl
  t5:=Try.underlying5
  a5:=Try.isAgg5
  z5:=Try.sizeOf5
  v5:=Try.zeroValue5
  infoByte:=by kernel_rfl
  cellsByte:=by kernel_rfl
  sizeByte:=by kernel_rfl
  neB5:=by decide}
theorem NZ (B b:Nat) (l:List UInt8) (w:World) (h:Lib.IsBuilder 173 5 B b (Lib.byteCells l) w) (F5:B≤w.heap.size):
    Calls Try.prog 157 #[.pointer (some ⟨b,0,none⟩)] w fun e w'=>e= .returned (.string ⟨l.toArray⟩)∧Below B w w':=Any.Builder_String_any NU NV B b l w h F5
structure Fit (p:aG) (f:Frame):Prop where
 o_:ft p=true
 fr:n3 p f
theorem FI {p:aG} {f:Frame} (h:gd p f=true):Fit p f:=by
 obtain⟨h1,h2,aJ,bj,cP⟩:=sk.1 h
 refine⟨(uf.1 h1).1,Ax h1 fun i i0 i1=> ?_⟩
 have:=aJ i i0 i1
 rw[xp,Bool.and_eq_true] at this;exact this.1
theorem Qd {p:aG} {f:Frame} (h:gd p f=true):(f.aA.length:Int)=p.ah∧f.av.length=p.bD.length∧f.M.length=p.M.length:=by
 have:=(FI h).fr
 exact⟨this.aA,this.av,this.M⟩
theorem Fit.in {p:aG} {f:Frame} (h:Fit p f):rQ p:=Cu h.o_
def eG (p:aG) (f:Frame) (i s:Int):Bool:=((nth f.M i).au !=0)&&((nth p.M i).ah.drop (nth f.M i).aa.toNat).contains s
def pn (p:aG) (f:Frame) (i s:Int):Prop:=Fit p f∧0≤i∧i<p.M.length
theorem Xt {p:aG} (h:ft p=true) {w:Way} (hw:w∈p.M):w.ah.Nodup:=(qO.1 (na.1 ((vg h).2.2.1 w hw)).2.1).2.2
theorem wU {l:List Int} {g:Nat} {s:Int}:(l.drop g).contains s=true↔ ∃k,g≤k∧ ∃h:k<l.length,l[k]=s:=by
 rw[List.contains_iff_mem,List.mem_iff_getElem]
 constructor
 ·rintro⟨i,hi,he⟩
  rw[List.length_drop] at hi
  rw[List.getElem_drop] at he
  exact⟨g+i,by omega,by omega,he⟩
 ·rintro⟨k,aI,hk,he⟩
  refine⟨k - g,by rw[List.length_drop];omega,?_⟩
  rw[List.getElem_drop]
  simp only[show g+(k - g)=k by omega];exact he
theorem has_eq {l:List Int} (ap:l.Nodup) {g s:Int} (aN:0≤g):(decide (kE l s ≥ g)&&decide (kE l s ≥ 0))=(l.drop g.toNat).contains s:=by
 unfold kE
 cases h:first l (fun x=>s==x) with
 | none=>
  have:(l.drop g.toNat).contains s=false:=by
   rw[←Bool.not_eq_true,wU]
   rintro⟨k,_,hk,he⟩
   have:=o6 h _ (List.getElem_mem hk)
   rw[he] at this;simp at this
  rw[this];simp[sZ]
 | some i=>
  unfold first at h
  rw[List.findIdx?_eq_some_iff_getElem] at h
  obtain⟨hi,hx,_⟩:=h
  have hx:s=l[i]:=by simpa using hx
  have hx:=hx.symm
  rw[Bool.eq_iff_iff,wU]
  show(decide ((i:Int) ≥ g)&&decide ((i:Int) ≥ 0))=true↔_
  simp only[Bool.and_eq_true,decide_eq_true_eq]
  constructor
  ·intro h;exact⟨i,by omega,hi,hx⟩
  ·rintro⟨k,aI,hk,he⟩
   have:k=i:=by
    exact(List.getElem_inj ap).1 (he.trans hx.symm)
   omega
def oz (p:aG) (f:Frame) (s:Int):Int:=sZ (first (List.range p.M.length) (fun i=>eG p f i s))
def Vy (p:aG) (f:Frame) (s:Int):Prop:=Fit p f
theorem WS {n:Nat} {q:Int→Bool} {v:Int} (h:b4 n q v) (hv:decide (v<(n:Int))=true) (ag:q v=true):first (List.range n) (fun i=>q i)=some v.toNat:=by
 have aN:=h.1
 have hv:v<(n:Int):=by simpa using hv
 refine As aN hv (fun j bY dY=> ?_) ?_
 ·show q (j.toNat:Int)=false
  rw[Int.toNat_of_nonneg bY];exact h.2.2 j bY dY
 ·show q (v.toNat:Int)=true
  rw[Int.toNat_of_nonneg aN];exact ag
theorem WR {n:Nat} {q:Int→Bool} {v:Int} (h:b4 n q v) (hv:decide (v<(n:Int))=false):first (List.range n) (fun i=>q i)=none:=
 Ar fun j bY dY=>by
  show q (j.toNat:Int)=false
  rw[Int.toNat_of_nonneg bY];exact e_ h hv j bY dY
def k_ (q:Int→Bool) (v:Int):List Int:=((List.range v.toNat).filter fun i=>q (i:Nat)).map fun i=>((i:Nat):Int)
theorem w_ {q:Int→Bool} {v:Int} (h:0≤v):k_ q (v+1)=if q v=true then k_ q v++[v] else k_ q v:=by
 unfold k_
 rw[show(v+1).toNat=v.toNat+1 by omega,List.range_succ,List.filter_append,List.map_append]
 have hv:((v.toNat:Nat):Int)=v:=by omega
 cases ag:q v with
 | true=>simp[hv,ag]
 | false=>simp[hv,ag]
theorem Fq (q:Int→Bool) (v:Int):(k_ q v).length≤v.toNat:=by
 unfold k_
 rw[List.length_map]
 exact Nat.le_trans (List.length_filter_le _ _) (by simp)
def qM (x:b5) (k:Int):Bool:=x.br==k
def ou (l:List b5) (k:Int):Int:=sZ (first l (fun x=>x.br==k))
def ix (l:List b5) (k:Int):Bool:=l.any fun x=>x.br==k
theorem Sl (l:List b5) (k:Int):(decide (ou l k ≥ 0))=ix l k:=by
 unfold ou ix
 cases h:first l (fun x=>x.br==k) with
 | none=>
  rw[List.any_eq_false.2 fun x hx=>by rw[o6 h x hx];simp];rfl
 | some i=>
  unfold first at h
  rw[List.findIdx?_eq_some_iff_getElem] at h
  obtain⟨hi,hx,_⟩:=h
  rw[List.any_eq_true.2 ⟨_,List.getElem_mem hi,hx⟩]
  show decide ((i:Int) ≥ 0)=true
  simp
def j0 (p:aG) (f:Frame) (i k:Int):Bool:=((nth f.M i).au !=0)&&(ix (nth p.M i).bI k || (ix (nth p.M i).aQ k&&eG p f i (nth p.bD k)))
def h4 (p:aG) (f:Frame) (k:Int):List Int:=k_ (fun i=>j0 p f i k) p.M.length
def vi (p:aG) (f:Frame) (k:Int):Prop:=Fit p f∧0≤k∧k<p.bD.length
def mc (p:aG) (f:Frame) (i k:Int):Int:=if(nth f.M i).au=0 then 0 else match first (nth p.M i).bI (fun x=>x.br==k) with
 | some j=>(nth (nth p.M i).bI j).bJ
 | none=>match first (nth p.M i).aQ (fun x=>x.br==k&&eG p f i (nth p.bD k)) with
  | some j=>(nth (nth p.M i).aQ j).bJ
  | none=>0
def DY (p:aG) (f:Frame) (i k:Int):Prop:=Fit p f∧0≤i∧i<p.M.length∧0≤k∧k<p.bD.length
theorem Jl {p:aG} (h:ft p=true) {w:Way} (hw:w∈p.M) {l:b5} (aE:l∈b_ w):l.bJ=1∨l.bJ=2:=by
 have aI:=na.1 ((vg h).2.2.1 w hw)
 have key: ∀{oA:List b5},ja p oA=true→ ∀x∈oA,x.bJ=1∨x.bJ=2:=fun h x hx=>by
  have:=(kG.1 h).2.1 x hx
  rw[Bool.and_eq_true] at this
  have:=uS.1 this.2
  omega
 rcases List.mem_append.1 aE with aE | aE
 ·exact key aI.2.2.2.2.1 l aE
 ·exact key aI.2.2.2.2.2.1 l aE
theorem FA {α:Type} [Inhabited α] {xs:List α} {q:α→Bool} {j:Nat} (h:first xs q=some j):nth xs j∈xs∧q (nth xs j)=true:=by
 unfold first at h
 rw[List.findIdx?_eq_some_iff_getElem] at h
 obtain⟨hi,hx,_⟩:=h
 rw[iM hi]
 exact⟨List.getElem_mem hi,hx⟩
theorem ZL {p:aG} {f:Frame} {i k:Int} (h:ft p=true) (hi:i.toNat<p.M.length):decide (mc p f i k>0)=j0 p f i k:=by
 unfold mc j0 ix
 by_cases hs:(nth f.M i).au=0
 ·rw[if_pos hs,show((nth f.M i).au !=0)=false by simpa using hs];rfl
 ·rw[if_neg hs,show((nth f.M i).au !=0)=true by simpa using hs,Bool.true_and]
  have hm:=ek hi
  cases h1:first (nth p.M i).bI (fun x=>x.br==k) with
  | some j=>
   have:=FA h1
   rw[List.any_eq_true.2 ⟨_,this⟩,Bool.true_or]
   have:=Jl h hm (List.mem_append_right _ this.1)
   simp only[decide_eq_true_eq];omega
  | none=>
   rw[List.any_eq_false.2 fun x hx=>by rw[o6 h1 x hx];simp,Bool.false_or]
   cases h2:first (nth p.M i).aQ (fun x=>x.br==k&&eG p f i (nth p.bD k)) with
   | some j=>
    have:=FA h2
    have aJ:=this.2
    rw[Bool.and_eq_true] at aJ
    rw[List.any_eq_true.2 ⟨_,this.1,aJ.1⟩,aJ.2,Bool.true_and]
    have:=Jl h hm (List.mem_append_left _ this.1)
    simp only[decide_eq_true_eq];omega
   | none=>
    have:((nth p.M i).aQ.any (fun x=>x.br==k)&&eG p f i (nth p.bD k))=false:=by
     rw[Bool.and_eq_false_iff]
     cases bH:eG p f i (nth p.bD k) with
     | false=>exact .inr rfl
     | true=>
      refine .inl (List.any_eq_false.2 fun x hx=> ?_)
      have:=o6 h2 x hx
      rw[bH,Bool.and_true] at this
      rw[this];simp
    rw[this];rfl
def fP (l:List UInt8):ByteArray:=⟨l.toArray⟩
theorem r6 (a b:List UInt8):fP a++fP b=fP (a++b):=by
 apply ByteArray.ext
 rw[ByteArray.data_append]
 simp[fP]
theorem mj (l:List UInt8):(fP l).size=l.length:=by simp[fP,ByteArray.size]
def tm (p:aG) (f:Frame) (s j:Int):UInt8:=bif (List.range j.toNat).any (fun i=>eG p f i s) then 61 else 46
def ri (p:aG) (f:Frame) (s j:Int):ByteArray:=fP [tm p f s j]
def vC (p:aG) (f:Frame) (s:Int):UInt8:=bif nth f.aA s then 35 else tm p f s p.M.length
def uV (x:b8):UInt8:=bif x.aQ !=x.b1 then 63 else nth [63,60,62] x.aQ
def q6 (p:aG) (f:Frame) (k:Int):List UInt8:=uV (nth f.av k)::(bif decide (((h4 p f k).length:Int)>0) then[33] else[])
def tt (h:ab):UInt8:=nth [45,115,67,116,117] h.au
def ma {α:Type} (g:Int→List α) (v:Int):List α:=((List.range v.toNat).map fun i=>g (i:Nat)).flatten
theorem rD {α:Type} {g:Int→List α} {v:Int} (h:0≤v):ma g (v+1)=ma g v++g v:=by
 unfold ma
 rw[show(v+1).toNat=v.toNat+1 by omega,List.range_succ,List.map_append,List.flatten_append]
 simp only[List.map_cons,List.map_nil,List.flatten_cons,List.flatten_nil,List.append_nil]
 rw[Int.toNat_of_nonneg h]
theorem DU {α:Type} {g:Int→List α} {m:Nat} (h: ∀i,(g i).length≤m) (v:Int):(ma g v).length≤v.toNat*m:=by
 unfold ma
 have: ∀n:Nat,((List.range n).map fun i=>g (i:Nat)).flatten.length≤n*m:=by
  intro n
  induction n with
  | zero=>simp
  | succ n bx=>
   rw[List.range_succ,List.map_append,List.flatten_append,List.length_append,Nat.succ_mul]
   simp only[List.map_cons,List.map_nil,List.flatten_cons,List.flatten_nil,List.append_nil]
   have:=h (n:Int);omega
 exact this _
def lD (p:aG) (f:Frame) (v:Int):List UInt8:=ma (fun s=>[vC p f s]) v
def m4 (p:aG) (f:Frame) (v:Int):List UInt8:=lD p f f.aA.length++[32]++ma (q6 p f) v
def oQ (p:aG) (f:Frame) (v:Int):List UInt8:=m4 p f f.av.length++[32]++ma (fun i=>[tt (nth f.M i)]) v
def vK (p:aG) (f:Frame) (v:Int):ByteArray:=fP (lD p f v)
def oO (p:aG) (f:Frame) (v:Int):ByteArray:=fP (m4 p f v)
def pP (p:aG) (f:Frame) (v:Int):ByteArray:=fP (oQ p f v)
def nT (p:aG) (f:Frame):ByteArray:=pP p f f.M.length
def tq (p:aG) (f:Frame):Prop:=gd p f=true
def kv (p:aG) (f:Frame):ByteArray:=if gd p f=true then nT p f else fP []
theorem Xr {p:aG} {f:Frame} {s j:Int} (h:0≤j):tm p f s (j+1)=bif eG p f j s then 61 else tm p f s j:=by
 unfold tm
 rw[show(j+1).toNat=j.toNat+1 by omega,List.range_succ,List.any_append]
 simp only[List.any_cons,List.any_nil,Bool.or_false,Int.toNat_of_nonneg h]
 cases(List.range j.toNat).any (fun i=>eG p f i s)<;>cases eG p f j s<;>rfl
theorem Xq {p:aG} {f:Frame} {s j:Int} (h:0≤j):(bif eG p f j s then ByteArray.mk #[61] else ri p f s j)=ri p f s (j+1):=by
 unfold ri
 rw[Xr h]
 cases eG p f j s<;>rfl
theorem Xx {p:aG} {f:Frame} {v:Int} (h:0≤v):vK p f v++(bif nth f.aA v then ByteArray.mk #[35] else ri p f v p.M.length)=vK p f (v+1):=by
 unfold vK lD ri vC
 rw[rD h,←r6]
 cases nth f.aA v<;>rfl
def sP (x:b8):ByteArray:=bif x.aQ !=x.b1 then ByteArray.mk #[63] else nth [ByteArray.mk #[63],ByteArray.mk #[60],ByteArray.mk #[62]] x.aQ
def vk (p:aG) (f:Frame) (k:Int):ByteArray:=bif decide (((h4 p f k).length:Int)>0) then sP (nth f.av k)++ByteArray.mk #[33] else sP (nth f.av k)
theorem Jk {x:b8} (aN:0≤x.aQ) (h1:x.aQ≤2):sP x=fP [uV x]:=by
 unfold sP uV
 cases x.aQ !=x.b1 with
 | true=>rfl
 | false=>
  have:x.aQ=0∨x.aQ=1∨x.aQ=2:=by omega
  rcases this with e | e | e<;>rw[e]<;>rfl
theorem Kj {p:aG} {f:Frame} {k:Int} (aN:0≤(nth f.av k).aQ) (h1:(nth f.av k).aQ≤2):vk p f k=fP (q6 p f k):=by
 unfold vk q6
 rw[Jk aN h1]
 cases decide (((h4 p f k).length:Int)>0) with
 | true=>show fP _++fP [33]=_;rw[r6];rfl
 | false=>rfl
theorem Xz {p:aG} {f:Frame} {v:Int} (h:0≤v) (aN:0≤(nth f.av v).aQ) (h1:(nth f.av v).aQ≤2):oO p f v++vk p f v=oO p f (v+1):=by
 unfold oO m4
 rw[rD h,Kj aN h1,r6,List.append_assoc (lD p f f.aA.length++[32])]
def yN (h:ab):ByteArray:=nth [ByteArray.mk #[45],ByteArray.mk #[115],ByteArray.mk #[67],ByteArray.mk #[116],ByteArray.mk #[117]] h.au
theorem My {h:ab} (aN:0≤h.au) (h1:h.au≤4):yN h=fP [tt h]:=by
 unfold yN tt
 have:h.au=0∨h.au=1∨h.au=2∨h.au=3∨h.au=4:=by omega
 rcases this with e | e | e | e | e<;>rw[e]<;>rfl
theorem XA {p:aG} {f:Frame} {v:Int} (h:0≤v) (aN:0≤(nth f.M v).au) (h1:(nth f.M v).au≤4):pP p f v++yN (nth f.M v)=pP p f (v+1):=by
 unfold pP oQ
 rw[rD h,My aN h1,r6,List.append_assoc (m4 p f f.av.length++[32])]
theorem Xw {p:aG} {f:Frame}:vK p f f.aA.length++ByteArray.mk #[32]=oO p f 0:=by
 show fP _++fP [32]=_
 rw[r6]
 unfold oO m4 ma
 simp
theorem Xy {p:aG} {f:Frame}:oO p f f.av.length++ByteArray.mk #[32]=pP p f 0:=by
 show fP _++fP [32]=_
 rw[r6]
 unfold pP oQ ma
 simp
theorem C6 (p:aG) (f:Frame) (v:Int):(lD p f v).length≤v.toNat:=by
 have:=DU (g:=fun s=>[vC p f s]) (m:=1) (fun _=>Nat.le_refl _) v
 unfold lD;omega
theorem Kk (p:aG) (f:Frame) (k:Int):(q6 p f k).length≤2:=by
 unfold q6;cases decide (((h4 p f k).length:Int)>0)<;>simp
theorem C7 (p:aG) (f:Frame) (v:Int):(m4 p f v).length≤f.aA.length+1+v.toNat*2:=by
 have h1:=C6 p f f.aA.length
 have h2:=DU (g:=q6 p f) (m:=2) (Kk p f) v
 unfold m4;simp only[List.length_append,List.length_cons,List.length_nil];omega
theorem Lb (p:aG) (f:Frame) (v:Int):(oQ p f v).length≤f.aA.length+1+f.av.length*2+1+v.toNat:=by
 have h1:=C7 p f f.av.length
 have h2:=DU (g:=fun i=>[tt (nth f.M i)]) (m:=1) (fun _=>Nat.le_refl _) v
 unfold oQ;simp only[List.length_append,List.length_cons,List.length_nil];omega
theorem JR {p:aG} {f:Frame} (h:gd p f=true):Fit p f∧f.aA.length≤60∧f.av.length≤40∧f.M.length≤100∧f.M.length=p.M.length∧f.av.length=p.bD.length∧(f.aA.length:Int)=p.ah∧
  (∀k:Int,0≤k→k<f.av.length→1≤(nth f.av k).b1∧(nth f.av k).b1≤2∧0≤(nth f.av k).aQ∧(nth f.av k).aQ≤2)∧ ∀i:Int,0≤i→i<f.M.length→0≤(nth f.M i).au∧(nth f.M i).au≤4:=by
 have hf:=FI h
 have hi:=hf.in
 obtain⟨mO,iK,sO⟩:=Qd h
 obtain⟨h1,h2,aJ,_,_⟩:=sk.1 h
 have hg:=hi.cs
 have b7:=hi.br
 have wB:=hi.M
 refine⟨hf,by omega,by omega,by omega,sO,iK,mO,fun k a7 cY=> ?_,fun i i0 i1=> ?_⟩
 ·have hm:=h2 (nth f.av k) (by
   have:=fg (xs:=f.av) (i:=k) (by omega)
   exact List.mem_of_getElem? this)
  unfold kK bK at hm
  simp at hm
  omega
 ·have:=aJ i i0 i1
  unfold fE bK at this
  simp at this
  omega
end Go.Proofs.Ytglpfccgmfhkdaa.Fw
set_option linter.unusedVariables false
set_option maxRecDepth 100000
set_option maxHeartbeats 4000000
set_option linter.unusedSimpArgs false
namespace Go.Proofs.Ytglpfccgmfhkdaa.Fw
open Go
attribute [local irreducible] evS evSD WpS Weak Oper.looksAt
def LO (ai:Int→Prop) (al:Int→Nat) (aX:Int→Int→Prop) (aY:Int→Int→Nat) (a0:(List Int)) (J:Int) (ac:Bool) (v10:Int):Prop:=
  ((!(bK (nth a0 v10) 0 (IntKind.i64.wrap (J - 1))))=true→false=ac)∧((!(!(bK (nth a0 v10) 0 (IntKind.i64.wrap (J - 1)))))=true→aX v10 0∧ ∀(fM:Int),aX v10 fM→(((decide (fM<v10))=false→ai (IntKind.i64.wrap (v10+1))∧al (IntKind.i64.wrap (v10+1))<al v10)∧((decide (fM<v10))=true→((0≤fM∧fM.toNat<a0.length)∧(((nth a0 fM)==(nth a0 v10))=true→false=ac))∧((!((nth a0 fM)==(nth a0 v10)))=true→aX v10 (IntKind.i64.wrap (fM+1))∧aY v10 (IntKind.i64.wrap (fM+1))<aY v10 fM))))
def LN (a0:(List Int)) (J:Int) (ac:Bool) (ai:Int→Prop) (al:Int→Nat) (aX:Int→Int→Prop) (aY:Int→Int→Nat):Prop:=
 a0.length≤4611686018427387904→ai 0∧ ∀(v10:Int),ai v10→(((decide (v10<(a0.length:Int)))=false→(decide ((a0.length:Int)≤30))=ac)∧((decide (v10<(a0.length:Int)))=true→(0≤v10∧v10.toNat<a0.length)∧(LO ai al aX aY a0 J ac v10)))
theorem YC (a0:(List Int)) (J:Int) (ak:vj a0 J):bf Try.prog 126 [bp ca a0,ar J] (ax (fG a0 J)):=(fun(ai:Int→Prop) (al:Int→Nat) (aX:Int→Int→Prop) (aY:Int→Int→Nat) (h:LN a0 J (fG a0 J) ai al aX aY)=>bf.run (ps:=[(.l .int),.int]) (rs:=[.bool]) (x:=(a0,J,())) (r:=((fG a0 J),())) ⟨35,cm,[yK]⟩ ⟨[33],[],[],[],[]⟩ (dq [0,1,8,9] [] 10 ai al fun aS=>(dq [0,1,5,6,8,9,10] [] 7 (aX aS) (aY aS) fun _=> .nil)) Try.func126 h) (b4 a0.length (fun j=> !bK (nth a0 j) 0 (J - 1) || fq (a0.take j.toNat) (nth a0 j))) (cn a0.length) (fun v=>b4 v (fun k=>nth a0 k==nth a0 v)) (fun v=>cn v) (by
 have ak: -9223372036854775808<J∧J≤9223372036854775807:=ak
 unfold LN LO
 intro ap
 refine⟨c6 (cQ _),fun v aV=>⟨fun hv=> ?_,fun hv=>⟨cq aV hv,?_⟩⟩⟩
 ·exact(JD 30).trans (Vr (e_ aV hv)).symm
 ·have hi:=cq aV hv
  rw[je (by omega) (by omega)]
  refine⟨fun h=>(Jn hi.2 h).symm,fun aw=>⟨c6 aV.1,fun k hK=>⟨fun hk=> ?_,fun hk=> ?_⟩⟩⟩
  ·refine cX (c0 ap) aV hv ?_
   rw[QX aV.1 (by simpa using hv) (e_ hK hk),Bool.or_false]
   exact not_eq aw
  ·have hG:k<v:=by simpa using hk
   have:=hK.1
   exact⟨⟨⟨by omega,by omega⟩,fun he=>(Vq hK.1 hG (by omega) he).symm⟩,fun he=>cX (by omega) hK hk (not_eq he)⟩)
def YD:cd Try.prog:=⟨126,[(.l .int),.int],[.bool],some fun x=>vj x.1 x.2.1,fun x=>((fG x.1 x.2.1),()),fun x h=>YC x.1 x.2.1 h⟩
def YA:List Item:=[aj 0,aj 1,aj 2,aj 3,aj 4,aj 5,aj 6,aj 7]
def YB:List (List Nat):=[[],[],[0,1],[0,1,2],rg 0 4,[],[5],rg 0 7]
def LL (ai:Int→Prop) (al:Int→Nat) (aX:Int→Int→Prop) (aY:Int→Int→Nat) (J:(List b5)) (ac:Bool) (v10:Int):Prop:=
  aX v10 0∧ ∀(fM:Int),aX v10 fM→(((decide (fM<v10))=false→ai (IntKind.i64.wrap (v10+1))∧al (IntKind.i64.wrap (v10+1))<al v10)∧((decide (fM<v10))=true→((0≤fM∧fM.toNat<J.length)∧(((nth J fM).br==(nth J v10).br)=true→false=ac))∧((!((nth J fM).br==(nth J v10).br))=true→aX v10 (IntKind.i64.wrap (fM+1))∧aY v10 (IntKind.i64.wrap (fM+1))<aY v10 fM)))
def LM (ai:Int→Prop) (al:Int→Nat) (aX:Int→Int→Prop) (aY:Int→Int→Nat) (a0:aG) (J:(List b5)) (ac:Bool) (v10:Int):Prop:=
  (a0.bD.length≤4611686018427387904→((!(bK (nth J v10).br 0 (IntKind.i64.wrap ((a0.bD.length:Int) - 1)))) || (!(bK (nth J v10).bJ 1 2)))=true→false=ac)∧((a0.bD.length≤4611686018427387904)∧((!((!(bK (nth J v10).br 0 (IntKind.i64.wrap ((a0.bD.length:Int) - 1)))) || (!(bK (nth J v10).bJ 1 2))))=true)→LL ai al aX aY J ac v10)
def LK (a0:aG) (J:(List b5)) (ac:Bool) (ai:Int→Prop) (al:Int→Nat) (aX:Int→Int→Prop) (aY:Int→Int→Nat):Prop:=
 J.length≤4611686018427387904→ai 0∧ ∀(v10:Int),ai v10→(((decide (v10<(J.length:Int)))=false→(decide ((J.length:Int)≤30))=ac)∧((decide (v10<(J.length:Int)))=true→(0≤v10∧v10.toNat<J.length)∧(LM ai al aX aY a0 J ac v10)))
theorem Yy (a0:aG) (J:(List b5)):bf Try.prog 127 [.agg (bW false a0),bp dh J] (ax (ja a0 J)):=(fun(ai:Int→Prop) (al:Int→Nat) (aX:Int→Int→Prop) (aY:Int→Int→Nat) (h:LK a0 J (ja a0 J) ai al aX aY)=>bf.run (ps:=[.c7,(.l .bJ)]) (rs:=[.bool]) (x:=(a0,J,())) (r:=((ja a0 J),())) ⟨46,cm,[yK]⟩ ⟨[44],[(9,YA,YB)],[],[],[]⟩ (dq [1,2,8,9] [(2,5)] 10 ai al fun aS=>(dq [1,2,5,6,8,9,10] [(6,2),(2,5)] 7 (aX aS) (aY aS) fun _=> .nil)) Try.func127 h) (b4 J.length (fun j=>l0 a0 (nth J j) || uX J j)) (cn J.length) (fun v=>b4 v (fun k=>(nth J k).br==(nth J v).br)) (fun v=>cn v) (by
 unfold LK LM LL
 intro ap
 refine⟨c6 (cQ _),fun v aV=>⟨fun hv=> ?_,fun hv=>⟨cq aV hv,?_⟩⟩⟩
 ·exact(JD 30).trans (Vo (e_ aV hv)).symm
 ·have hi:=cq aV hv
  refine⟨fun hs h=> ?_,fun⟨hs,aw⟩=>⟨c6 aV.1,fun k hK=>⟨fun hk=> ?_,fun hk=> ?_⟩⟩⟩
  ·rw[je (by omega) (by omega)] at h
   exact(Vp hi.2 h).symm
  ·rw[je (by omega) (by omega)] at aw
   refine cX (c0 ap) aV hv ?_
   rw[Vm aV.1 (by simpa using hv) (e_ hK hk),Bool.or_false]
   exact not_eq aw
  ·have hG:k<v:=by simpa using hk
   have:=hK.1
   exact⟨⟨⟨by omega,by omega⟩,fun he=>(Vn hK.1 hG (by omega) he).symm⟩,fun he=>cX (by omega) hK hk (not_eq he)⟩)
def Yz:cd Try.prog:=⟨127,[.c7,(.l .bJ)],[.bool],none,fun x=>((ja x.1 x.2.1),()),fun x h=>Yy x.1 x.2.1⟩
def YJ:List Item:=[aj 0,aj 1,aj 2,aj 3,aj 4,aj 5,aj 6,aj 7,aj 8,aj 9,aj 10]
def YK:List (List Nat):=[[],[0],[],[2],rg 0 4,rg 0 5,rg 0 6,[],[7],rg 0 9,rg 0 10]
def LU (ai:Int→Prop) (al:Int→Nat) (aX:Int→Int→Prop) (aY:Int→Int→Nat) (a0:aG) (J:Way) (ac:Bool) (mb eJ:Int):Prop:=
  ((decide (mb<(J.bI.length:Int)))=false→(0≤(nth J.aQ eJ).br∧(nth J.aQ eJ).br.toNat<a0.bD.length)∧(((!(meets [(nth a0.bD (nth J.aQ eJ).br)] J.ah))=true→false=ac)∧((!(meets [(nth a0.bD (nth J.aQ eJ).br)] J.ah))=false→ai (IntKind.i64.wrap (eJ+1))∧al (IntKind.i64.wrap (eJ+1))<al eJ)))∧((decide (mb<(J.bI.length:Int)))=true→((0≤mb∧mb.toNat<J.bI.length)∧(((nth J.aQ eJ).br==(nth J.bI mb).br)=true→false=ac))∧((!((nth J.aQ eJ).br==(nth J.bI mb).br))=true→aX eJ (IntKind.i64.wrap (mb+1))∧aY eJ (IntKind.i64.wrap (mb+1))<aY eJ mb))
def LV (ai:Int→Prop) (al:Int→Nat) (aX:Int→Int→Prop) (aY:Int→Int→Nat) (a0:aG) (J:Way) (ac:Bool):Prop:=
  ((J.ah.length≤4611686018427387904→((J.ah.length:Int)==0)=false→(vj J.ah a0.ah)∧((!(fG J.ah a0.ah))=false→(vj J.bV a0.ah)∧((!(fG J.bV a0.ah))=false→vj J.c9 a0.ah)))∧(J.ah.length≤4611686018427387904→(((J.ah.length:Int)==0) || ((!(fG J.ah a0.ah)) || ((!(fG J.bV a0.ah)) || ((!(fG J.c9 a0.ah)) || ((!(ja a0 J.aQ)) || (!(ja a0 J.bI)))))))=true→false=ac))∧((J.ah.length≤4611686018427387904)∧((!(((J.ah.length:Int)==0) || ((!(fG J.ah a0.ah)) || ((!(fG J.bV a0.ah)) || ((!(fG J.c9 a0.ah)) || ((!(ja a0 J.aQ)) || (!(ja a0 J.bI))))))))=true)→J.aQ.length≤4611686018427387904→ai 0∧ ∀(eJ:Int),ai eJ→(((decide (eJ<(J.aQ.length:Int)))=false→(!(meets J.bV J.ah))=ac)∧((decide (eJ<(J.aQ.length:Int)))=true→(0≤eJ∧eJ.toNat<J.aQ.length)∧(J.bI.length≤4611686018427387904→aX eJ 0∧ ∀(mb:Int),aX eJ mb→(LU ai al aX aY a0 J ac mb eJ)))))
def LS (a0:aG) (J:Way) (ac:Bool) (ai:Int→Prop) (al:Int→Nat) (aX:Int→Int→Prop) (aY:Int→Int→Nat):Prop:=
 LV ai al aX aY a0 J ac
theorem YH (a0:aG) (J:Way) (ak:Cz a0 J):bf Try.prog 68 [.agg (bW false a0),.agg (dI false J)] (ax (gj a0 J)):=(fun(ai:Int→Prop) (al:Int→Nat) (aX:Int→Int→Prop) (aY:Int→Int→Nat) (h:LS a0 J (gj a0 J) ai al aX aY)=>bf.run (ps:=[.c7,.ee]) (rs:=[.bool]) (x:=(a0,J,())) (r:=((gj a0 J),())) ⟨89,cm,[YD,Yz,LR]⟩ ⟨[],[(12,YJ,YK)],[],[],[]⟩ (dq [2,3,52,53] [(3,5),(2,5)] 54 ai al fun aS=>(dq [2,3,6,52,53,54,59,60] [(6,2),(3,5),(2,5)] 61 (aX aS) (aY aS) fun _=> .nil)) Try.func68 h) (b4 J.aQ.length (fun j=>J.bI.any (fun y=>(nth J.aQ j).br==y.br) || !(J.ah.contains (nth a0.bD (nth J.aQ j).br)))) (cn J.aQ.length) (fun v=>b4 J.bI.length (fun k=>(nth J.aQ v).br==(nth J.bI k).br)) (fun v=>cn J.bI.length) (by
 unfold LS LV LU
 refine⟨⟨fun _ _=>⟨ak,fun _=>⟨ak,fun _=>ak⟩⟩,fun ap h=> ?_⟩,fun⟨ap,h⟩ aE=> ?_⟩
 ·symm
  rw[←Bool.not_eq_true,na]
  rintro⟨h1,h2,aJ,bj,cP,eg,-⟩
  have aH:J.ah.length≠0:=fun e=>h1 (List.eq_nil_of_length_eq_zero e)
  simp only[h2,aJ,bj,cP,eg,Bool.not_true,Bool.or_false] at h
  simp at h
  exact h1 h
 ·simp only[Bool.not_eq_true',Bool.or_eq_false_iff,Bool.not_eq_false'] at h
  obtain⟨h1,h2,aJ,bj,cP,eg⟩:=h
  have h1:J.ah≠[]:=fun e=>by rw[e] at h1;simp at h1
  have GD:=kG.1 cP
  have Rp:=kG.1 eg
  refine⟨c6 (cQ _),fun v aV=>⟨fun hv=> ?_,fun hv=>⟨cq aV hv,fun hf=>⟨c6 (cQ _),fun k hK=>⟨fun hk=> ?_,fun hk=>⟨⟨cq hK hk,fun he=> ?_⟩,fun he=>cX (c0 hf) hK hk (not_eq he)⟩⟩⟩⟩⟩⟩
  ·have ds:=e_ aV hv
   have aZ:((b_ J).map (·.br)).Nodup:=by
    rw[Ci]
    refine⟨GD.2.2,Rp.2.2,fun x hx y bm he=> ?_⟩
    have:=jY (q:=fun x=>J.bI.any (fun y=>x.br==y.br) || !(J.ah.contains (nth a0.bD x.br))) ds x hx
    simp only[Bool.or_eq_false_iff] at this
    have:=this.1
    rw[List.any_eq_false] at this
    exact this y bm (by simpa using he)
   have hc: ∀x∈J.aQ,J.ah.contains (nth a0.bD x.br)=true:=fun x hx=>by
    have:=jY (q:=fun x=>J.bI.any (fun y=>x.br==y.br) || !(J.ah.contains (nth a0.bD x.br))) ds x hx
    simp only[Bool.or_eq_false_iff] at this
    simpa using this.2
   rw[VJ,Bool.eq_iff_iff,na]
   constructor
   ·intro hm;exact⟨h1,h2,aJ,bj,cP,eg,aZ,hc,by simpa using hm⟩
   ·rintro⟨-,-,-,-,-,-,-,-,hm⟩;rw[hm];rfl
  ·have dp:=GD.2.1 _ (ek (cq aV hv).2)
   rw[Bool.and_eq_true,uS] at dp
   refine⟨⟨dp.1.1,by omega⟩,fun hm=> ?_,fun hm=> ?_⟩
   ·symm
    rw[←Bool.not_eq_true,na]
    rintro⟨-,-,-,-,-,-,-,hc,-⟩
    rw[Jw,hc _ (ek (cq aV hv).2)] at hm
    cases hm
   ·refine cX (c0 aE) aV hv ?_
    rw[Jw] at hm
    rw[hm,Bool.or_false]
    have:=jY (q:=fun y:b5=>(nth J.aQ v).br==y.br) (e_ hK hk)
    rw[List.any_eq_false]
    intro y bm
    rw[this y bm];simp
  ·symm
   rw[←Bool.not_eq_true,na]
   rintro⟨-,-,-,-,-,-,aZ,-,-⟩
   exact(Ci.1 aZ).2.2 _ (ek (cq aV hv).2) _ (ek (cq hK hk).2) (by simpa using he))
def YI:cd Try.prog:=⟨68,[.c7,.ee],[.bool],some fun x=>Cz x.1 x.2.1,fun x=>((gj x.1 x.2.1),()),fun x h=>YH x.1 x.2.1 h⟩
def Tr:List Item:=[aj 0,aj 1,aj 2,aj 3,aj 4,aj 5,aj 6,aj 7,aj 8,aj 9,aj 10,aj 11,aj 12,aj 13,aj 14,aj 15,aj 16]
def Ts:List (List Nat):=[[],[],[1],[1,2],rg 0 4,rg 0 5,rg 0 6,rg 0 7,rg 0 6,rg 0 6++[8],rg 0 6,rg 0 6++[10],rg 0 6++rg 8 12,rg 0 6++rg 8 13,rg 0 14,rg 0 15,rg 0 16]
def HQ (a0:aG) (J:Way) (ac:Bool) (bE:(List Int)) (eB:Int):Prop:=
  (((decide (eB<(J.aQ.length:Int)))=true→0≤(nth (b_ J) eB).br∧(nth (b_ J) eB).br.toNat<a0.bD.length)∧(((decide (eB<(J.aQ.length:Int)))&&(!(fq J.ah (nth a0.bD (nth (b_ J) eB).br))))=true→false=ac))∧((!((decide (eB<(J.aQ.length:Int)))&&(!(fq J.ah (nth a0.bD (nth (b_ J) eB).br)))))=true→(bE.length+[(nth (b_ J) eB).br].length)*8≤140737488355328∧bE.length+[(nth (b_ J) eB).br].length≤4611686018427387904)
def HR (a0:aG) (J:Way) (ac:Bool) (bE:(List Int)) (eB:Int):Prop:=
  (((decide ((nth (b_ J) eB).br<0)) || ((decide ((nth (b_ J) eB).br ≥ (a0.bD.length:Int))) || (((nth (b_ J) eB).bJ !=1)&&((nth (b_ J) eB).bJ !=2))))=true→false=ac)∧((!((decide ((nth (b_ J) eB).br<0)) || ((decide ((nth (b_ J) eB).br ≥ (a0.bD.length:Int))) || (((nth (b_ J) eB).bJ !=1)&&((nth (b_ J) eB).bJ !=2)))))=true→HQ a0 J ac bE eB)
abbrev nY (r:Type):Type:=Int→Nat→(List Int)→Int→r
def HS (aX:nY Prop) (aY:nY Nat) (a0:aG) (J:Way) (ac:Bool) (eA:Int) (g0:Nat) (bE:(List Int)) (eB:Int):Prop:=
  ((0≤eB∧eB.toNat<(b_ J).length)∧(HR a0 J ac bE eB))∧(((!((decide ((nth (b_ J) eB).br<0)) || ((decide ((nth (b_ J) eB).br ≥ (a0.bD.length:Int))) || (((nth (b_ J) eB).bJ !=1)&&((nth (b_ J) eB).bJ !=2)))))&&(!((decide (eB<(J.aQ.length:Int)))&&(!(fq J.ah (nth a0.bD (nth (b_ J) eB).br))))))=true→aX eA (g0+1) (bE++[(nth (b_ J) eB).br]) (IntKind.i64.wrap (eB+1))∧aY eA (g0+1) (bE++[(nth (b_ J) eB).br]) (IntKind.i64.wrap (eB+1))<aY eA g0 bE eB)
def HT (aX:nY Prop) (aY:nY Nat) (a0:aG) (J:Way) (ac:Bool) (eA:Int):Prop:=
  (yg J)∧((b_ J).length≤4611686018427387904→aX eA 0 ([]:List Int) 0∧ ∀(g0:Nat) (bE:(List Int)) (eB:Int),aX eA g0 bE eB→(((decide (eB<((b_ J).length:Int)))=false→(bE.length≤4611686018427387904)∧(((!(dup bE))&&(!(meets J.ah J.bV)))=ac))∧((decide (eB<((b_ J).length:Int)))=true→HS aX aY a0 J ac eA g0 bE eB)))
def HU (bw:Int→Int→Prop) (bu:Int→Int→Nat) (a0:aG) (J:Way) (ac:Bool) (v49 eA:Int):Prop:=
  ((0≤v49∧v49.toNat<(nth [J.ah,J.bV,J.c9] eA).length)∧(((decide ((nth (nth [J.ah,J.bV,J.c9] eA) v49)<0)) || (decide ((nth (nth [J.ah,J.bV,J.c9] eA) v49) ≥ a0.ah)))=true→false=ac))∧((!((decide ((nth (nth [J.ah,J.bV,J.c9] eA) v49)<0)) || (decide ((nth (nth [J.ah,J.bV,J.c9] eA) v49) ≥ a0.ah))))=true→bw eA (IntKind.i64.wrap (v49+1))∧bu eA (IntKind.i64.wrap (v49+1))<bu eA v49)
def HV (ai:Int→Prop) (al:Int→Nat) (bw:Int→Int→Prop) (bu:Int→Int→Nat) (a0:aG) (J:Way) (ac:Bool) (eA:Int):Prop:=
  ((nth [J.ah,J.bV,J.c9] eA).length≤4611686018427387904→((decide (((nth [J.ah,J.bV,J.c9] eA).length:Int)>30)) || (dup (nth [J.ah,J.bV,J.c9] eA)))=true→false=ac)∧(((nth [J.ah,J.bV,J.c9] eA).length≤4611686018427387904)∧((!((decide (((nth [J.ah,J.bV,J.c9] eA).length:Int)>30)) || (dup (nth [J.ah,J.bV,J.c9] eA))))=true)→bw eA 0∧ ∀(v49:Int),bw eA v49→(((decide (v49<((nth [J.ah,J.bV,J.c9] eA).length:Int)))=false→ai (IntKind.i64.wrap (eA+1))∧al (IntKind.i64.wrap (eA+1))<al eA)∧((decide (v49<((nth [J.ah,J.bV,J.c9] eA).length:Int)))=true→HU bw bu a0 J ac v49 eA)))
def HW (ai:Int→Prop) (al:Int→Nat) (aX:nY Prop) (aY:nY Nat) (bw:Int→Int→Prop) (bu:Int→Int→Nat) (a0:aG) (J:Way) (ac:Bool):Prop:=
  (J.ah.length≤4611686018427387904→(((J.ah.length:Int)==0) || ((decide ((J.aQ.length:Int)>30)) || (decide ((J.bI.length:Int)>30))))=true→false=ac)∧((J.ah.length≤4611686018427387904)∧((!(((J.ah.length:Int)==0) || ((decide ((J.aQ.length:Int)>30)) || (decide ((J.bI.length:Int)>30)))))=true)→[J.ah,J.bV,J.c9].length≤4611686018427387904→ai 0∧ ∀(eA:Int),ai eA→(((decide (eA<([J.ah,J.bV,J.c9].length:Int)))=false→HT aX aY a0 J ac eA)∧((decide (eA<([J.ah,J.bV,J.c9].length:Int)))=true→(0≤eA∧eA.toNat<[J.ah,J.bV,J.c9].length)∧(HV ai al bw bu a0 J ac eA))))
def HP (a0:aG) (J:Way) (ac:Bool) (ai:Int→Prop) (al:Int→Nat) (aX:nY Prop) (aY:nY Nat) (bw:Int→Int→Prop) (bu:Int→Int→Nat):Prop:=
 HW ai al aX aY bw bu a0 J ac
theorem Tp (a0:aG) (J:Way):bf Try.prog 73 [.agg (bW false a0),.agg (dI false J)] (ax (gj a0 J)):=(fun(ai:Int→Prop) (al:Int→Nat) (aX:nY Prop) (aY:nY Nat) (bw:Int→Int→Prop) (bu:Int→Int→Nat) (h:HP a0 J (gj a0 J) ai al aX aY bw bu)=>bf.run (ps:=[.c7,.ee]) (rs:=[.bool]) (x:=(a0,J,())) (r:=((gj a0 J),())) ⟨126,cm,[HB,Tm,Hz,Db]⟩ ⟨[48],[(21,Tr,Ts)],[],[],[]⟩ (dq [2,3,34,35] [(3,5),(2,5)] 36 ai al fun aS=>(.p9 (.lp [(0,9,.int)] [2,3,64,65] [(3,5),(2,5)] [.nat,(.l .int),.int] [bB 0,bB 0,66] (fun bQ=>[(9,.ref 0 bQ.1 bQ.2.1.length false),(66,.i .i64 bQ.2.2.1),(bB 0,.blk bQ.1 .int bQ.2.1 _ rfl)]) (fun bQ=>aX aS bQ.1 bQ.2.1 bQ.2.2.1) (fun bQ=>aY aS bQ.1 bQ.2.1 bQ.2.2.1) fun _=> .nil) (dq [2,3,34,35,36,47,48] [(3,5),(2,5)] 49 (bw aS) (bu aS) fun _=> .nil))) Try.func73 h) (b4 ([J.ah,J.bV,J.c9].length:Int) (fun k=> !fG (nth [J.ah,J.bV,J.c9] k) a0.ah)) (cn ([J.ah,J.bV,J.c9].length:Int)) (fun _ _ x v=>b4 (b_ J).length (mP a0 J) v∧x=((b_ J).take v.toNat).map (·.br)) (fun _ _ _ v=>cn (b_ J).length v) (fun i=>b4 (nth [J.ah,J.bV,J.c9] i).length (fun j=> !bK (nth (nth [J.ah,J.bV,J.c9] i) j) 0 (a0.ah - 1))) (fun i=>cn (nth [J.ah,J.bV,J.c9] i).length) (by
 unfold HP HW
 have hlen:J.aQ.length≤30→J.bI.length≤30→(b_ J).length≤60:=by unfold b_;rw[List.length_append];omega
 refine⟨fun ap h=> ?_,fun⟨ap,h⟩ bF=> ?_⟩
 ·symm
  rw[←Bool.not_eq_true,na]
  rintro⟨h1,-,-,-,cP,eg,-⟩
  have:=(kG.1 cP).1
  have:=(kG.1 eg).1
  simp at h
  rcases h with h | h | h
  ·exact h1 h
  ·omega
  ·omega
 ·simp at h
  obtain⟨h1,h2,aJ⟩:=h
  have h2:J.aQ.length≤30:=by omega
  have aJ:J.bI.length≤30:=by omega
  have aaf:=hlen h2 aJ
  refine⟨c6 (cQ _),fun i aV=>⟨fun hi=> ?_,fun hi=>⟨cq aV hi,?_⟩⟩⟩
  ·have ds: ∀l∈[J.ah,J.bV,J.c9],fG l a0.ah=true:=fun l aE=>by
    have:=jY (q:=fun l=> !fG l a0.ah) (e_ aV hi) l aE
    simpa using this
   unfold HT
   refine⟨⟨by omega,by omega⟩,fun kB=>⟨⟨c6 (cQ _),rfl⟩,fun g x v ⟨gf,hx⟩=>⟨fun hv=> ?_,fun hv=> ?_⟩⟩⟩
   ·have mE: ¬v<((b_ J).length:Int):=by simpa using hv
    rw[List.take_of_length_le (by have:=gf.1;omega)] at hx
    subst hx
    exact⟨by rw[List.length_map];omega,Qm h1 ds h2 aJ (e_ gf hv)⟩
   ·have dp:=cq gf hv
    have mI:x.length≤60:=by rw[hx,List.length_map,List.length_take];omega
    have bad:mP a0 J v=true→false=gj a0 J:=fun hb=>by
     symm
     rw[←Bool.not_eq_true]
     intro aI
     rw[Qo aI dp.1 dp.2] at hb
     cases hb
    unfold HS HR HQ
    rw[Vl]
    refine⟨⟨dp,fun hb=>bad (by unfold mP;rw[hb];rfl),fun hb=>⟨⟨fun aE=> ?_,fun hc=>bad (by unfold mP;rw[hc,Bool.or_true])⟩,fun _=> ?_⟩⟩,fun hb=> ?_⟩
    ·have hb:l0 a0 (nth (b_ J) v)=false:=not_eq hb
     rw[uW] at hb
     simp only[Bool.not_eq_false',Bool.and_eq_true,uS] at hb
     exact⟨hb.1.1,by omega⟩
    ·simp only[List.length_cons,List.length_nil];omega
    ·have hb:mP a0 J v=false:=by
      unfold mP
      rw[Bool.and_eq_true] at hb
      rw[not_eq hb.1,not_eq hb.2];rfl
     have a6:=cX (c0 kB) gf hv hb
     have hw:IntKind.i64.wrap (v+1)=v+1:=je (by omega) (by omega)
     refine⟨⟨a6.1,?_⟩,a6.2⟩
     rw[hw,hx,show(v+1).toNat=v.toNat+1 by omega,List.take_succ_eq_append_getElem dp.2,List.map_append,←hZ dp.2]
     rfl
  ·have uC:=cq aV hi
   have Eu:fG (nth [J.ah,J.bV,J.c9] i) a0.ah=false→false=gj a0 J:=fun hb=>by
    symm
    rw[←Bool.not_eq_true]
    intro aI
    rw[Qn aI _ (ek uC.2)] at hb
    cases hb
   unfold HV HU
   refine⟨fun ap h=>Eu ?_,fun⟨ap,h⟩=>⟨c6 (cQ _),fun v jL=>⟨fun hv=> ?_,fun hv=> ?_⟩⟩⟩
   ·rw[←Bool.not_eq_true,qO]
    rintro⟨q1,-,q3⟩
    simp only[Bool.or_eq_true,decide_eq_true_eq] at h
    rcases h with h | h
    ·omega
    ·unfold dup at h;simp[q3] at h
   ·refine cX (by simp) aV hi ?_
    simp only[Bool.not_eq_true',Bool.or_eq_false_iff,decide_eq_false_iff_not] at h
    have aZ:(nth [J.ah,J.bV,J.c9] i).Nodup:=by have:=h.2;unfold dup at this;simpa using this
    have:fG (nth [J.ah,J.bV,J.c9] i) a0.ah=true:=by
     rw[qO]
     refine⟨by omega,fun x hx=> ?_,aZ⟩
     have:=jY (q:=fun x=> !bK x 0 (a0.ah - 1)) (e_ jL hv) x hx
     simpa using this
    rw[this];rfl
   ·rw[CS]
    exact⟨⟨cq jL hv,fun h=>Eu (Jn (cq jL hv).2 h)⟩,fun h=>cX (c0 ap) jL hv (not_eq h)⟩)
def Tq:cd Try.prog:=⟨73,[.c7,.ee],[.bool],none,fun x=>((gj x.1 x.2.1),()),fun x h=>Tp x.1 x.2.1⟩
def Sw:List Item:=[aj 0,aj 1,aj 2,aj 3,aj 4,aj 5,aj 6,aj 7,aj 8,aj 9,aj 10,aj 11,aj 12,aj 13,aj 14,aj 15,aj 16,aj 17,aj 18,aj 19,aj 20,aj 21,aj 22,aj 23,aj 24,aj 25,aj 26,aj 27,aj 28,aj 29,aj 30,aj 31,aj 32,aj 33,aj 34,aj 35,aj 36,aj 37,aj 38,aj 39,aj 40,aj 41,aj 42,aj 43,aj 44,aj 45,aj 46,aj 47]
def Sx:List (List Nat):=[[],[0],[],[0,1,2],rg 0 4,[],rg 0 6,rg 0 7,[],[8],[],[8,9,10],rg 8 12,[],rg 8 14,rg 8 15,rg 0 16,rg 0 17,rg 0 18,rg 0 18,rg 0 20,rg 0 21,rg 0 22,rg 0 23,rg 0 22,rg 0 25,rg 0 26,rg 0 22,rg 0 28,rg 0 29,rg 0 30,rg 0 31,rg 0 32,rg 0 33,rg 0 34,rg 0 33,rg 0 36,rg 0 37,rg 0 38,rg 0 33,rg 0 33++[39],rg 0 33,rg 0 33++[39,40,41],rg 0 33++rg 39 43,rg 0 33++rg 39 44,rg 0 45,rg 0 46,rg 0 47]
def Hn (a0:aG) (ac:gP) (fu eu:Int):Prop:=
  ((0≤eu∧eu.toNat<a0.bA.length)∧((0≤fu∧fu.toNat<(nth a0.bA eu).length)∧((0≤fu∧fu.toNat<a0.bA.length)∧((0≤eu∧eu.toNat<(nth a0.bA fu).length)∧(((nth (nth a0.bA eu) fu) !=(nth (nth a0.bA fu) eu))=false→(eu !=fu)=true→(0≤eu∧eu.toNat<a0.bA.length)∧((0≤fu∧fu.toNat<(nth a0.bA eu).length)∧((!(nth (nth a0.bA eu) fu))=true→(0≤eu∧eu.toNat<a0.M.length)∧(0≤fu∧fu.toNat<a0.M.length))))))))∧((((nth (nth a0.bA eu) fu) !=(nth (nth a0.bA fu) eu)) || ((eu !=fu)&&((!(nth (nth a0.bA eu) fu))&&(meets (nth a0.M eu).ah (nth a0.M fu).ah))))=true→(5=ac.code)∧(eu=ac.pos))
abbrev gn (r:Type):Type:=Int→Int→Int→Int→r
abbrev fZ (r:Type):Type:=Int→Int→Int→Int→Int→r
def Ho (da:gn Prop) (di:gn Nat) (eY:fZ Prop) (eR:fZ Nat) (a0:aG) (ac:gP) (c_ fj v87 fu eu:Int):Prop:=
  ((decide (fu<(a0.M.length:Int)))=false→da c_ fj v87 (IntKind.i64.wrap (eu+1))∧di c_ fj v87 (IntKind.i64.wrap (eu+1))<di c_ fj v87 eu)∧((decide (fu<(a0.M.length:Int)))=true→(Hn a0 ac fu eu)∧((!(((nth (nth a0.bA eu) fu) !=(nth (nth a0.bA fu) eu)) || ((eu !=fu)&&((!(nth (nth a0.bA eu) fu))&&(meets (nth a0.M eu).ah (nth a0.M fu).ah)))))=true→eY c_ fj v87 eu (IntKind.i64.wrap (fu+1))∧eR c_ fj v87 eu (IntKind.i64.wrap (fu+1))<eR c_ fj v87 eu fu))
abbrev cN (r:Type):Type:=Int→Int→Int→r
def Hp (bw:cN Prop) (bu:cN Nat) (a0:aG) (ac:gP) (c_ fj v87:Int):Prop:=
  ((0≤v87∧v87.toNat<a0.bA.length)∧((nth a0.bA v87).length≤4611686018427387904→(((nth a0.bA v87).length:Int) !=(a0.M.length:Int))=true→(4=ac.code)∧(v87=ac.pos)))∧(((nth a0.bA v87).length≤4611686018427387904)∧((!(((nth a0.bA v87).length:Int) !=(a0.M.length:Int)))=true)→bw c_ fj (IntKind.i64.wrap (v87+1))∧bu c_ fj (IntKind.i64.wrap (v87+1))<bu c_ fj v87)
def Hq (bw:cN Prop) (bu:cN Nat) (da:gn Prop) (di:gn Nat) (eY:fZ Prop) (eR:fZ Nat) (a0:aG) (ac:gP) (c_ fj v87:Int):Prop:=
  ((decide (v87<(a0.bA.length:Int)))=false→da c_ fj v87 0∧ ∀(eu:Int),da c_ fj v87 eu→(((decide (eu<(a0.M.length:Int)))=false→(0=ac.code)∧(0=ac.pos))∧((decide (eu<(a0.M.length:Int)))=true→eY c_ fj v87 eu 0∧ ∀(fu:Int),eY c_ fj v87 eu fu→(Ho da di eY eR a0 ac c_ fj v87 fu eu))))∧((decide (v87<(a0.bA.length:Int)))=true→Hp bw bu a0 ac c_ fj v87)
def Hr (aX:Int→Int→Prop) (aY:Int→Int→Nat) (bw:cN Prop) (bu:cN Nat) (da:gn Prop) (di:gn Nat) (eY:fZ Prop) (eR:fZ Nat) (a0:aG) (ac:gP) (c_ fj:Int):Prop:=
  ((decide (fj<(a0.M.length:Int)))=false→(a0.bA.length≤4611686018427387904→((a0.bA.length:Int) !=(a0.M.length:Int))=true→(4=ac.code)∧(0=ac.pos))∧((a0.bA.length≤4611686018427387904)∧((!((a0.bA.length:Int) !=(a0.M.length:Int)))=true)→bw c_ fj 0∧ ∀(v87:Int),bw c_ fj v87→(Hq bw bu da di eY eR a0 ac c_ fj v87)))∧((decide (fj<(a0.M.length:Int)))=true→((0≤fj∧fj.toNat<a0.M.length)∧((!(gj a0 (nth a0.M fj)))=true→(3=ac.code)∧(fj=ac.pos)))∧((!(!(gj a0 (nth a0.M fj))))=true→aX c_ (IntKind.i64.wrap (fj+1))∧aY c_ (IntKind.i64.wrap (fj+1))<aY c_ fj))
def Hs (ai:Int→Prop) (al:Int→Nat) (aX:Int→Int→Prop) (aY:Int→Int→Nat) (bw:cN Prop) (bu:cN Nat) (da:gn Prop) (di:gn Nat) (eY:fZ Prop) (eR:fZ Nat) (a0:aG) (ac:gP) (c_:Int):Prop:=
  ((decide (c_<(a0.bD.length:Int)))=false→a0.M.length≤4611686018427387904→aX c_ 0∧ ∀(fj:Int),aX c_ fj→(Hr aX aY bw bu da di eY eR a0 ac c_ fj))∧((decide (c_<(a0.bD.length:Int)))=true→((0≤c_∧c_.toNat<a0.bD.length)∧(((decide ((nth a0.bD c_)<0)) || (decide ((nth a0.bD c_) ≥ a0.ah)))=true→(2=ac.code)∧(c_=ac.pos)))∧((!((decide ((nth a0.bD c_)<0)) || (decide ((nth a0.bD c_) ≥ a0.ah))))=true→ai (IntKind.i64.wrap (c_+1))∧al (IntKind.i64.wrap (c_+1))<al c_))
def Ht (ai:Int→Prop) (al:Int→Nat) (aX:Int→Int→Prop) (aY:Int→Int→Nat) (bw:cN Prop) (bu:cN Nat) (da:gn Prop) (di:gn Nat) (eY:fZ Prop) (eR:fZ Nat) (a0:aG) (ac:gP):Prop:=
  (((decide (a0.ah<1)) || ((decide (a0.ah>60)) || ((decide (a0.dV<1)) || ((decide (a0.dV>300)) || ((decide ((a0.bD.length:Int)>40)) || (decide ((a0.M.length:Int)>100)))))))=true→(1=ac.code)∧(0=ac.pos))∧((!((decide (a0.ah<1)) || ((decide (a0.ah>60)) || ((decide (a0.dV<1)) || ((decide (a0.dV>300)) || ((decide ((a0.bD.length:Int)>40)) || (decide ((a0.M.length:Int)>100))))))))=true→a0.bD.length≤4611686018427387904→ai 0∧ ∀(c_:Int),ai c_→(Hs ai al aX aY bw bu da di eY eR a0 ac c_))
def Hm (a0:aG) (ac:gP) (ai:Int→Prop) (al:Int→Nat) (aX:Int→Int→Prop) (aY:Int→Int→Nat) (bw:cN Prop) (bu:cN Nat) (da:gn Prop) (di:gn Nat) (eY:fZ Prop) (eR:fZ Nat):Prop:=
 Ht ai al aX aY bw bu da di eY eR a0 ac
theorem Su (a0:aG):bf Try.prog 26 [.agg (bW false a0)] (.agg (zY (gh a0))):=(fun(ai:Int→Prop) (al:Int→Nat) (aX:Int→Int→Prop) (aY:Int→Int→Nat) (bw:cN Prop) (bu:cN Nat) (da:gn Prop) (di:gn Nat) (eY:fZ Prop) (eR:fZ Nat) (h:Hm a0 (gh a0) ai al aX aY bw bu da di eY eR)=>bf.run (ps:=[.c7]) (rs:=[.fault]) (x:=(a0,())) (r:=((gh a0),())) ⟨166,cm,[Hz,Tq]⟩ ⟨[81,86,96,103,109],[(29,Sw,Sx)],[],[],[]⟩ (dq [1,2,43,44] [(2,2),(1,5)] 45 ai al fun aS=>(dq [1,2,62,63] [(2,2),(1,5)] 64 (aX aS) (aY aS) fun bQ=>(dq [1,2,85,86] [(2,2),(1,5)] 87 (bw aS bQ) (bu aS bQ) fun dy=>(dq [1,2,103] [(2,2),(1,5)] 104 (da aS bQ dy) (di aS bQ dy) fun gO=>(dq [1,2,9,103,104,109] [(2,2),(1,5)] 110 (eY aS bQ dy gO) (eR aS bQ dy gO) fun _=> .nil))))) Try.func26 h) (b4 a0.bD.length (fun j=> !bK (nth a0.bD j) 0 (a0.ah - 1))) (cn a0.bD.length) (fun _=>b4 a0.M.length (fun j=> !gj a0 (nth a0.M j))) (fun _=>cn a0.M.length) (fun _ _=>b4 a0.bA.length (fun j=>decide ((nth a0.bA j).length≠a0.M.length))) (fun _ _=>cn a0.bA.length) (fun _ _ _=>b4 a0.M.length (fun i=>(List.range a0.M.length).any fun k=>mf a0 i.toNat k)) (fun _ _ _=>cn a0.M.length) (fun _ _ _ i=>b4 a0.M.length (fun k=>mf a0 i.toNat k.toNat)) (fun _ _ _ _=>cn a0.M.length) (by
 unfold Hm Ht
 refine⟨fun h=> ?_,fun h jx=> ?_⟩
 ·have hb:iA a0=false:=by
   rw[←Bool.not_eq_true,q5]
   intro hb
   simp[iA] at h
   omega
  rw[Cv hb];exact⟨rfl,rfl⟩
 ·have hb:iA a0=true:=by
   rw[q5]
   simp[iA] at h
   omega
  have cV:=q5.1 hb
  refine⟨c6 (cQ _),fun v0 mu=> ?_⟩
  unfold Hs
  refine⟨fun k5 uG=> ?_,fun fF=> ?_⟩
  case refine_2=>
   rw[CS]
   refine⟨⟨cq mu fF,fun j_=> ?_⟩,fun ei=>cX (c0 jx) mu fF (not_eq ei)⟩
   rw[Kc hb (m8 (q:=fun s=> !bK s 0 (a0.ah - 1)) mu fF j_)]
   have:=mu.1
   exact⟨rfl,by show v0=(v0.toNat:Int);omega⟩
  have f0:=m9 (q:=fun s=> !bK s 0 (a0.ah - 1)) mu k5
  refine⟨c6 (cQ _),fun v1 mv=> ?_⟩
  unfold Hr
  refine⟨fun bi=> ?_,fun hH=> ?_⟩
  case refine_2=>
   refine⟨⟨cq mv hH,  fun j_=> ?_⟩,fun ei=>cX (c0 uG) mv hH (not_eq ei)⟩
   rw[Kd hb f0 (m8 (q:=fun w=> !gj a0 w) mv hH j_)]
   have:=mv.1
   exact⟨rfl,by show v1=(v1.toNat:Int);omega⟩
  have f1:=m9 (q:=fun w=> !gj a0 w) mv bi
  rw[Ke hb f0 f1]
  refine⟨fun hm b2=> ?_,fun⟨hm,b2⟩=> ?_⟩
  ·have b2:a0.bA.length≠a0.M.length:=by
    intro e;rw[e] at b2;simp at b2
   rw[Ka b2];exact⟨rfl,rfl⟩
  have aE:a0.bA.length=a0.M.length:=by
   have:(a0.bA.length:Int)=a0.M.length:=by simpa using b2
   omega
  refine⟨c6 (cQ _),fun v2 im=> ?_⟩
  unfold Hq
  refine⟨fun e2=> ?_,fun hv2=> ?_⟩
  case refine_2=>
   have pc:(((nth a0.bA v2).length:Int) !=(a0.M.length:Int))=decide ((nth a0.bA v2).length≠a0.M.length):=by
    rw[Bool.eq_iff_iff];simp;omega
   unfold Hp
   rw[pc]
   refine⟨⟨cq im hv2,fun aw j_=> ?_⟩,fun⟨aw,ei⟩=>cX (c0 hm) im hv2 (not_eq ei)⟩
   rw[J9 aE (m8 (q:=fun b=>decide (b.length≠a0.M.length)) im hv2 j_)]
   have:=im.1
   exact⟨rfl,by show v2=(v2.toNat:Int);omega⟩
  have f2:=m9 (q:=fun b:List Bool=>decide (b.length≠a0.M.length)) im e2
  have vB: ∀i:Int,0≤i→i<a0.M.length→(nth a0.bA i).length=a0.M.length:=fun i i0 i1=>by
   have:=e_ im e2 i i0 (by omega)
   simpa using this
  refine⟨c6 (cQ _),fun v3 io=>⟨fun cE=> ?_,fun sE=> ?_⟩⟩
  ·skip
   rw[J8 aE f2 (Ar fun j bY dY=>e_ io cE j bY dY)]
   exact⟨rfl,rfl⟩
  ·have sF:v3<(a0.M.length:Int):=by simpa using sE
   have j7:=io.1
   refine⟨c6 (cQ _),fun v4 mw=> ?_⟩
   unfold Ho Hn
   rw[Ew io.1 mw.1]
   have ns:=mw.1
   refine⟨fun gI=>cX (by omega) io sE (JC fun j bY dY=>e_ mw gI j bY dY),fun qF=> ?_⟩
   have uP:v4<(a0.M.length:Int):=by simpa using qF
   have fh:=vB v3 io.1 sF
   have lA:=vB v4 mw.1 uP
   refine⟨⟨⟨⟨j7,by omega⟩,⟨ns,by omega⟩,⟨ns,by omega⟩,⟨j7,by omega⟩,fun _ _=>⟨⟨j7,by omega⟩,⟨ns,by omega⟩,fun _=>⟨⟨j7,by omega⟩,⟨ns,by omega⟩⟩⟩⟩,fun j_=> ?_⟩,fun ei=>cX (by omega) mw qF (not_eq ei)⟩
   rw[J_ aE f2 (As j7 sF (fun j bY dY=>io.2.2 j bY dY) (En ns uP j_))]
   exact⟨rfl,by show v3=(v3.toNat:Int);omega⟩)
def Sv:cd Try.prog:=⟨26,[.c7],[.fault],none,fun x=>((gh x.1),()),fun x h=>Su x.1⟩
def Yt:List Item:=[aj 0,aj 1,aj 2,aj 3,aj 4,aj 5,aj 6,aj 7,aj 8,aj 9,aj 10,aj 11,aj 12,aj 13,aj 14,aj 15,aj 16,aj 17,aj 18,aj 19,aj 20,aj 21,aj 22,aj 23,aj 24,aj 25,aj 26,aj 27,aj 28,aj 29,aj 30,aj 31,aj 32,aj 33]
def Yu:List (List Nat):=[[],[],[1],[],[1,2,3],rg 1 5,[],rg 1 7,rg 1 8,rg 0 9,rg 0 10,rg 0 11,rg 0 11,rg 0 13,rg 0 14,rg 0 15,rg 0 16,rg 0 17,rg 0 18,rg 0 19,rg 0 20,rg 0 19,rg 0 22,rg 0 23,rg 0 24,rg 0 19,rg 0 19++[25],rg 0 19,rg 0 19++[25,26,27],rg 0 19++rg 25 29,rg 0 19++rg 25 30,rg 0 31,rg 0 32,rg 0 33]
def LA (a0:aG) (ac:gP) (fL ec:Int):Prop:=
  ((0≤fL∧fL.toNat<a0.bA.length)∧((0≤ec∧ec.toNat<(nth a0.bA fL).length)∧(((nth (nth a0.bA ec) fL) !=(nth (nth a0.bA fL) ec))=false→(ec !=fL)=true→(!(nth (nth a0.bA ec) fL))=true→(0≤ec∧ec.toNat<a0.M.length)∧(0≤fL∧fL.toNat<a0.M.length))))∧((((nth (nth a0.bA ec) fL) !=(nth (nth a0.bA fL) ec)) || ((ec !=fL)&&((!(nth (nth a0.bA ec) fL))&&(meets (nth a0.M ec).ah (nth a0.M fL).ah))))=true→(5=ac.code)∧(ec=ac.pos))
def LB (eY:fZ Prop) (eR:fZ Nat) (a0:aG) (ac:gP) (dX eM fN fL ec:Int):Prop:=
  ((0≤fL∧fL.toNat<(nth a0.bA ec).length)∧(LA a0 ac fL ec))∧((!(((nth (nth a0.bA ec) fL) !=(nth (nth a0.bA fL) ec)) || ((ec !=fL)&&((!(nth (nth a0.bA ec) fL))&&(meets (nth a0.M ec).ah (nth a0.M fL).ah)))))=true→eY dX eM fN ec (IntKind.i64.wrap (fL+1))∧eR dX eM fN ec (IntKind.i64.wrap (fL+1))<eR dX eM fN ec fL)
def LC (da:gn Prop) (di:gn Nat) (eY:fZ Prop) (eR:fZ Nat) (a0:aG) (ac:gP) (dX eM fN ec:Int):Prop:=
  (nth a0.bA ec).length≤4611686018427387904→eY dX eM fN ec 0∧ ∀(fL:Int),eY dX eM fN ec fL→(((decide (fL<((nth a0.bA ec).length:Int)))=false→da dX eM fN (IntKind.i64.wrap (ec+1))∧di dX eM fN (IntKind.i64.wrap (ec+1))<di dX eM fN ec)∧((decide (fL<((nth a0.bA ec).length:Int)))=true→LB eY eR a0 ac dX eM fN fL ec))
def LD (bw:cN Prop) (bu:cN Nat) (a0:aG) (ac:gP) (dX eM fN:Int):Prop:=
  ((0≤fN∧fN.toNat<a0.bA.length)∧((nth a0.bA fN).length≤4611686018427387904→(((nth a0.bA fN).length:Int) !=(a0.M.length:Int))=true→(4=ac.code)∧(fN=ac.pos)))∧(((nth a0.bA fN).length≤4611686018427387904)∧((!(((nth a0.bA fN).length:Int) !=(a0.M.length:Int)))=true)→bw dX eM (IntKind.i64.wrap (fN+1))∧bu dX eM (IntKind.i64.wrap (fN+1))<bu dX eM fN)
def LF (bw:cN Prop) (bu:cN Nat) (da:gn Prop) (di:gn Nat) (eY:fZ Prop) (eR:fZ Nat) (a0:aG) (ac:gP) (dX eM fN:Int):Prop:=
  ((decide (fN<(a0.bA.length:Int)))=false→da dX eM fN 0∧ ∀(ec:Int),da dX eM fN ec→(((decide (ec<(a0.bA.length:Int)))=false→(0=ac.code)∧(0=ac.pos))∧((decide (ec<(a0.bA.length:Int)))=true→(0≤ec∧ec.toNat<a0.bA.length)∧(LC da di eY eR a0 ac dX eM fN ec))))∧((decide (fN<(a0.bA.length:Int)))=true→LD bw bu a0 ac dX eM fN)
def LG (aX:Int→Int→Prop) (aY:Int→Int→Nat) (bw:cN Prop) (bu:cN Nat) (da:gn Prop) (di:gn Nat) (eY:fZ Prop) (eR:fZ Nat) (a0:aG) (ac:gP) (dX eM:Int):Prop:=
  ((decide (eM<(a0.M.length:Int)))=false→(a0.bA.length≤4611686018427387904→((a0.bA.length:Int) !=(a0.M.length:Int))=true→(4=ac.code)∧(0=ac.pos))∧((a0.bA.length≤4611686018427387904)∧((!((a0.bA.length:Int) !=(a0.M.length:Int)))=true)→bw dX eM 0∧ ∀(fN:Int),bw dX eM fN→(LF bw bu da di eY eR a0 ac dX eM fN)))∧((decide (eM<(a0.M.length:Int)))=true→((0≤eM∧eM.toNat<a0.M.length)∧((Cz a0 (nth a0.M eM))∧((!(gj a0 (nth a0.M eM)))=true→(3=ac.code)∧(eM=ac.pos))))∧((!(!(gj a0 (nth a0.M eM))))=true→aX dX (IntKind.i64.wrap (eM+1))∧aY dX (IntKind.i64.wrap (eM+1))<aY dX eM))
def LH (ai:Int→Prop) (al:Int→Nat) (aX:Int→Int→Prop) (aY:Int→Int→Nat) (bw:cN Prop) (bu:cN Nat) (da:gn Prop) (di:gn Nat) (eY:fZ Prop) (eR:fZ Nat) (a0:aG) (ac:gP) (dX:Int):Prop:=
  ((decide (dX<(a0.bD.length:Int)))=false→a0.M.length≤4611686018427387904→aX dX 0∧ ∀(eM:Int),aX dX eM→(LG aX aY bw bu da di eY eR a0 ac dX eM))∧((decide (dX<(a0.bD.length:Int)))=true→((0≤dX∧dX.toNat<a0.bD.length)∧((!(bK (nth a0.bD dX) 0 (IntKind.i64.wrap (a0.ah - 1))))=true→(2=ac.code)∧(dX=ac.pos)))∧((!(!(bK (nth a0.bD dX) 0 (IntKind.i64.wrap (a0.ah - 1)))))=true→ai (IntKind.i64.wrap (dX+1))∧al (IntKind.i64.wrap (dX+1))<al dX))
def LI (ai:Int→Prop) (al:Int→Nat) (aX:Int→Int→Prop) (aY:Int→Int→Nat) (bw:cN Prop) (bu:cN Nat) (da:gn Prop) (di:gn Nat) (eY:fZ Prop) (eR:fZ Nat) (a0:aG) (ac:gP):Prop:=
  (((!(bK a0.ah 1 60)) || ((decide ((a0.bD.length:Int)>40)) || ((decide ((a0.M.length:Int)>100)) || (!(bK a0.dV 1 300)))))=true→(1=ac.code)∧(0=ac.pos))∧((!((!(bK a0.ah 1 60)) || ((decide ((a0.bD.length:Int)>40)) || ((decide ((a0.M.length:Int)>100)) || (!(bK a0.dV 1 300))))))=true→a0.bD.length≤4611686018427387904→ai 0∧ ∀(dX:Int),ai dX→(LH ai al aX aY bw bu da di eY eR a0 ac dX))
def Lz (a0:aG) (ac:gP) (ai:Int→Prop) (al:Int→Nat) (aX:Int→Int→Prop) (aY:Int→Int→Nat) (bw:cN Prop) (bu:cN Nat) (da:gn Prop) (di:gn Nat) (eY:fZ Prop) (eR:fZ Nat):Prop:=
 LI ai al aX aY bw bu da di eY eR a0 ac
theorem Yr (a0:aG):bf Try.prog 24 [.agg (bW false a0)] (.agg (zY (gh a0))):=(fun(ai:Int→Prop) (al:Int→Nat) (aX:Int→Int→Prop) (aY:Int→Int→Nat) (bw:cN Prop) (bu:cN Nat) (da:gn Prop) (di:gn Nat) (eY:fZ Prop) (eR:fZ Nat) (h:Lz a0 (gh a0) ai al aX aY bw bu da di eY eR)=>bf.run (ps:=[.c7]) (rs:=[.fault]) (x:=(a0,())) (r:=((gh a0),())) ⟨147,cm,[yK,LR,YI]⟩ ⟨[73,78,88,95],[(29,Yt,Yu)],[],[],[]⟩ (dq [1,2,37,38] [(2,2),(1,5)] 39 ai al fun aS=>(dq [1,2,54,55] [(2,2),(1,5)] 56 (aX aS) (aY aS) fun bQ=>(dq [1,2,77,78] [(2,2),(1,5)] 79 (bw aS bQ) (bu aS bQ) fun dy=>(dq [1,2,94,95] [(2,2),(1,5)] 96 (da aS bQ dy) (di aS bQ dy) fun gO=>(dq [1,2,9,94,95,96,101,102] [(2,2),(1,5)] 103 (eY aS bQ dy gO) (eR aS bQ dy gO) fun _=> .nil))))) Try.func24 h) (b4 a0.bD.length (fun j=> !bK (nth a0.bD j) 0 (a0.ah - 1))) (cn a0.bD.length) (fun _=>b4 a0.M.length (fun j=> !gj a0 (nth a0.M j))) (fun _=>cn a0.M.length) (fun _ _=>b4 a0.bA.length (fun j=>decide ((nth a0.bA j).length≠a0.M.length))) (fun _ _=>cn a0.bA.length) (fun _ _ _=>b4 a0.M.length (fun i=>(List.range a0.M.length).any fun k=>mf a0 i.toNat k)) (fun _ _ _=>cn a0.M.length) (fun _ _ _ i=>b4 a0.M.length (fun k=>mf a0 i.toNat k.toNat)) (fun _ _ _ _=>cn a0.M.length) (by
 unfold Lz LI
 refine⟨fun h=> ?_,fun h jx=> ?_⟩
 ·have hb:iA a0=false:=by
   rw[←Bool.not_eq_true,q5]
   intro hb
   simp[bK] at h
   omega
  rw[Cv hb];exact⟨rfl,rfl⟩
 ·have hb:iA a0=true:=by
   rw[q5]
   simp[bK] at h
   omega
  have cV:=q5.1 hb
  refine⟨c6 (cQ _),fun v0 mu=> ?_⟩
  unfold LH
  refine⟨fun k5 uG=> ?_,fun fF=> ?_⟩
  case refine_2=>
   rw[je (n:=a0.ah - 1) (by omega) (by omega)]
   refine⟨⟨cq mu fF,fun j_=> ?_⟩,fun ei=>cX (c0 jx) mu fF (not_eq ei)⟩
   rw[Kc hb (m8 (q:=fun s=> !bK s 0 (a0.ah - 1)) mu fF j_)]
   have:=mu.1
   exact⟨rfl,by show v0=(v0.toNat:Int);omega⟩
  have f0:=m9 (q:=fun s=> !bK s 0 (a0.ah - 1)) mu k5
  refine⟨c6 (cQ _),fun v1 mv=> ?_⟩
  unfold LG
  refine⟨fun bi=> ?_,fun hH=> ?_⟩
  case refine_2=>
   refine⟨⟨cq mv hH,⟨by omega,by omega⟩,fun j_=> ?_⟩,fun ei=>cX (c0 uG) mv hH (not_eq ei)⟩
   rw[Kd hb f0 (m8 (q:=fun w=> !gj a0 w) mv hH j_)]
   have:=mv.1
   exact⟨rfl,by show v1=(v1.toNat:Int);omega⟩
  have f1:=m9 (q:=fun w=> !gj a0 w) mv bi
  rw[Ke hb f0 f1]
  refine⟨fun hm b2=> ?_,fun⟨hm,b2⟩=> ?_⟩
  ·have b2:a0.bA.length≠a0.M.length:=by
    intro e;rw[e] at b2;simp at b2
   rw[Ka b2];exact⟨rfl,rfl⟩
  have aE:a0.bA.length=a0.M.length:=by
   have:(a0.bA.length:Int)=a0.M.length:=by simpa using b2
   omega
  refine⟨c6 (cQ _),fun v2 im=> ?_⟩
  unfold LF
  refine⟨fun e2=> ?_,fun hv2=> ?_⟩
  case refine_2=>
   have pc:(((nth a0.bA v2).length:Int) !=(a0.M.length:Int))=decide ((nth a0.bA v2).length≠a0.M.length):=by
    rw[Bool.eq_iff_iff];simp;omega
   unfold LD
   rw[pc]
   refine⟨⟨cq im hv2,fun aw j_=> ?_⟩,fun⟨aw,ei⟩=>cX (c0 hm) im hv2 (not_eq ei)⟩
   rw[J9 aE (m8 (q:=fun b=>decide (b.length≠a0.M.length)) im hv2 j_)]
   have:=im.1
   exact⟨rfl,by show v2=(v2.toNat:Int);omega⟩
  have f2:=m9 (q:=fun b:List Bool=>decide (b.length≠a0.M.length)) im e2
  have vB: ∀i:Int,0≤i→i<a0.M.length→(nth a0.bA i).length=a0.M.length:=fun i i0 i1=>by
   have:=e_ im e2 i i0 (by omega)
   simpa using this
  refine⟨c6 (cQ _),fun v3 io=>⟨fun cE=> ?_,fun sE=> ?_⟩⟩
  ·have cE:decide (v3<(a0.M.length:Int))=false:=by rw[←aE];exact cE
   rw[J8 aE f2 (Ar fun j bY dY=>e_ io cE j bY dY)]
   exact⟨rfl,rfl⟩
  ·have sF:v3<(a0.M.length:Int):=by rw[←aE];simpa using sE
   have j7:=io.1
   have fh:=vB v3 io.1 sF
   refine⟨⟨j7,by omega⟩,?_⟩
   unfold LC
   rw[fh]
   intro _
   refine⟨c6 (cQ _),fun v4 mw=> ?_⟩
   unfold LB LA
   rw[Ew io.1 mw.1,fh]
   have ns:=mw.1
   refine⟨fun gI=>cX (by omega) io (by simpa using sF) (JC fun j bY dY=>e_ mw gI j bY dY),fun qF=> ?_⟩
   have uP:v4<(a0.M.length:Int):=by simpa using qF
   have lA:=vB v4 mw.1 uP
   refine⟨⟨⟨ns,by omega⟩,⟨⟨ns,by omega⟩,⟨j7,by omega⟩,fun _ _ _=>⟨⟨j7,by omega⟩,⟨ns,by omega⟩⟩⟩,fun j_=> ?_⟩,fun ei=>cX (by omega) mw qF (not_eq ei)⟩
   rw[J_ aE f2 (As j7 sF (fun j bY dY=>io.2.2 j bY dY) (En ns uP j_))]
   exact⟨rfl,by show v3=(v3.toNat:Int);omega⟩)
def Ys:cd Try.prog:=⟨24,[.c7],[.fault],none,fun x=>((gh x.1),()),fun x h=>Yr x.1⟩
def YF (a0:aG) (ac:Bool):Prop:=
 ((gh a0).code==0)=ac
theorem YG (a0:aG):bf Try.prog 77 [.agg (bW false a0)] (ax (ft a0)):=(fun(h:YF a0 (ft a0))=>bf.run (ps:=[.c7]) (rs:=[.bool]) (x:=(a0,())) (r:=((ft a0),())) ⟨9,cm,[Ys]⟩ ⟨[],[],[],[],[]⟩ .nil Try.func77 h) (by
 exact Wm a0)
def S1 (a0:aG) (ac:Bool):Prop:=
 ((gh a0).code==0&&(gh a0).pos==0)=ac
theorem S2 (a0:aG):bf Try.prog 60 [.agg (bW false a0)] (ax (ft a0)):=(fun(h:S1 a0 (ft a0))=>bf.run (ps:=[.c7]) (rs:=[.bool]) (x:=(a0,())) (r:=((ft a0),())) ⟨7,cm,[Sv]⟩ ⟨[],[],[],[],[]⟩ .nil Try.func60 h) (by
 exact Wl a0)
def S3:cd Try.prog:=⟨60,[.c7],[.bool],none,fun x=>((ft x.1),()),fun x h=>S2 x.1⟩
noncomputable def XU:Code:=jo Try.f120
def Da (a0:(List Bool)) (ac:(List Bool)):Prop:=
 (a0≠[]→(a0.length*1≤140737488355328∧a0.length≤4611686018427387904)∧(a0=ac))∧(a0=[]→ ∀b7:Bool,(b7=true→[]=ac)∧(b7=false→(a0.length*1≤140737488355328∧a0.length≤4611686018427387904)∧(a0=ac)))
theorem XV (a0:(List Bool)) (ac:(List Bool)) (h:Da a0 ac):c8 Try.prog 120 [bp aT a0] [] (fun r H=>r=ay 0 0 ac.length∧H=[⟨0,1,List.map aT ac⟩]):=by
 refine c8.toOwn ?_
 unfold Da at h
 refine c8.go (fn:=Try.f120) [(0,bp aT a0)] Try.func120 (fun _ _=> ?_)
 show WpS _ (bC XU 1) _ ⟨bq 8 [(0,bp aT a0)],[],[]⟩
 refine hD [] 0 [(2,bh)] [] [1] ?_
 refine iF ?_
 refine iF ?_
 refine b3 [] 1 ?_
 refine CZ 2 (some 4) [(3,bp aT a0)] aT a0 (fun hx=> ?_) (fun hx b7=> ?_)
 ·
  replace h:=h.1 hx
  refine fA [] ?_
  refine dH.normal ?_
  refine o0 (.tmp 4) false (fun q3=> ?_) (fun q3=> ?_)
  ·
   cases q3
  ·
   refine fc ?_
   refine dH.normal ?_
   obtain⟨cr,h⟩:=h
   refine jK ⟨(bq 8 [(2,ay 0 0 a0.length)]),[],[⟨0,1,List.map aT a0⟩]⟩ (True) ?_ (fun q4=> ?_)
   ·
    replace h:=cr
    refine b3 [] 3 ?_
    have cw:=h
    refine pO 3 (some 7) [(6,bp aT a0),(5,bh)] aT a0 (jU false (List.map aT a0)) 0 1 1 (fun r=>[⟨0,1,r⟩]) rfl cw ?_
    exact cI [(2,ay 0 0 a0.length)] trivial
   refine ij ?_
   refine lB (ay 0 0 a0.length) [ay 0 0 a0.length] ?_
   exact⟨l7 [some 0],nL [some 0] rfl (by decide) ⟨rfl,(nR (b:=0) (g:=0) (sz:=1) (xs:=a0) (ys:=ac) rfl va h),trivial⟩,(.inr (qV (by simp) rfl rfl (by have:=congrArg List.length h;simpa using this)))⟩
 ·
  replace h:=h.2 hx b7
  refine fA [] ?_
  refine dH.normal ?_
  refine o0 (.tmp 4) b7 (fun gw=> ?_) (fun gw=> ?_)
  ·
   replace h:=h.1 gw
   refine jK ⟨(bq 8 [(2,bh)]),[],[]⟩ (True) ?_ (fun iP=> ?_)
   ·
    refine b3 [] 2 ?_
    exact cI [(2,bh)] trivial
   refine ij ?_
   refine dH.ret ?_
   refine lB (bh) [bh] ?_
   exact⟨l7 [none],nL [none] rfl (by decide) ⟨rfl,trivial,trivial⟩,(.inr (Cq (by simp) rfl rfl (by rw[←h];rfl)))⟩
  ·
   replace h:=h.2 gw
   refine fc ?_
   refine dH.normal ?_
   obtain⟨jS,h⟩:=h
   refine jK ⟨(bq 8 [(2,ay 0 0 a0.length)]),[],[⟨0,1,List.map aT a0⟩]⟩ (True) ?_ (fun jT=> ?_)
   ·
    replace h:=jS
    refine b3 [] 3 ?_
    have gL:=h
    refine pO 3 (some 7) [(6,bp aT a0),(5,bh)] aT a0 (jU false (List.map aT a0)) 0 1 1 (fun r=>[⟨0,1,r⟩]) rfl gL ?_
    exact cI [(2,ay 0 0 a0.length)] trivial
   refine ij ?_
   refine lB (ay 0 0 a0.length) [ay 0 0 a0.length] ?_
   exact⟨l7 [some 0],nL [some 0] rfl (by decide) ⟨rfl,(nR (b:=0) (g:=0) (sz:=1) (xs:=a0) (ys:=ac) rfl va h),trivial⟩,(.inr (qV (by simp) rfl rfl (by have:=congrArg List.length h;simpa using this)))⟩
theorem Lc (a0:(List Bool)) (ak:small a0):c8 Try.prog 120 [bp aT a0] [] (fun r H=>r=ay 0 0 (af a0).length∧H=[⟨0,1,List.map aT (af a0)⟩]):=XV a0 (af a0) (by
 have ak:a0.length≤1048576:=ak
 unfold Da
 exact⟨fun h=>⟨⟨by omega,by omega⟩,rfl⟩,fun h b=>⟨fun _=>h.symm,fun _=>⟨⟨by omega,by omega⟩,rfl⟩⟩⟩)
noncomputable def XS:Code:=jo Try.f121
def C_ (a0:(List b8)) (ac:(List b8)):Prop:=
 (a0≠[]→(a0.length*16≤140737488355328∧a0.length≤4611686018427387904)∧(a0=ac))∧(a0=[]→ ∀b7:Bool,(b7=true→[]=ac)∧(b7=false→(a0.length*16≤140737488355328∧a0.length≤4611686018427387904)∧(a0=ac)))
theorem XT (a0:(List b8)) (ac:(List b8)) (h:C_ a0 ac):c8 Try.prog 121 [bp bn a0] [] (fun r H=>r=ay 0 0 ac.length∧H=[⟨0,2,List.map bn ac⟩]):=by
 refine c8.toOwn ?_
 unfold C_ at h
 refine c8.go (fn:=Try.f121) [(0,bp bn a0)] Try.func121 (fun _ _=> ?_)
 show WpS _ (bC XS 1) _ ⟨bq 8 [(0,bp bn a0)],[],[]⟩
 refine hD [] 0 [(2,bh)] [] [1] ?_
 refine iF ?_
 refine iF ?_
 refine b3 [] 1 ?_
 refine CZ 2 (some 4) [(3,bp bn a0)] bn a0 (fun hx=> ?_) (fun hx b7=> ?_)
 ·
  replace h:=h.1 hx
  refine fA [] ?_
  refine dH.normal ?_
  refine o0 (.tmp 4) false (fun q3=> ?_) (fun q3=> ?_)
  ·
   cases q3
  ·
   refine fc ?_
   refine dH.normal ?_
   obtain⟨cr,h⟩:=h
   refine jK ⟨(bq 8 [(2,ay 0 0 a0.length)]),[],[⟨0,2,List.map bn a0⟩]⟩ (True) ?_ (fun q4=> ?_)
   ·
    replace h:=cr
    refine b3 [] 3 ?_
    have cw:=h
    refine pO 3 (some 7) [(6,bp bn a0),(5,bh)] bn a0 (jU false (List.map bn a0)) 0 2 16 (fun r=>[⟨0,2,r⟩]) rfl cw ?_
    exact cI [(2,ay 0 0 a0.length)] trivial
   refine ij ?_
   refine lB (ay 0 0 a0.length) [ay 0 0 a0.length] ?_
   exact⟨l7 [some 0],nL [some 0] rfl (by decide) ⟨rfl,(nR (b:=0) (g:=0) (sz:=2) (xs:=a0) (ys:=ac) rfl Cm h),trivial⟩,(.inr (qV (by simp) rfl rfl (by have:=congrArg List.length h;simpa using this)))⟩
 ·
  replace h:=h.2 hx b7
  refine fA [] ?_
  refine dH.normal ?_
  refine o0 (.tmp 4) b7 (fun gw=> ?_) (fun gw=> ?_)
  ·
   replace h:=h.1 gw
   refine jK ⟨(bq 8 [(2,bh)]),[],[]⟩ (True) ?_ (fun iP=> ?_)
   ·
    refine b3 [] 2 ?_
    exact cI [(2,bh)] trivial
   refine ij ?_
   refine dH.ret ?_
   refine lB (bh) [bh] ?_
   exact⟨l7 [none],nL [none] rfl (by decide) ⟨rfl,trivial,trivial⟩,(.inr (Cq (by simp) rfl rfl (by rw[←h];rfl)))⟩
  ·
   replace h:=h.2 gw
   refine fc ?_
   refine dH.normal ?_
   obtain⟨jS,h⟩:=h
   refine jK ⟨(bq 8 [(2,ay 0 0 a0.length)]),[],[⟨0,2,List.map bn a0⟩]⟩ (True) ?_ (fun jT=> ?_)
   ·
    replace h:=jS
    refine b3 [] 3 ?_
    have gL:=h
    refine pO 3 (some 7) [(6,bp bn a0),(5,bh)] bn a0 (jU false (List.map bn a0)) 0 2 16 (fun r=>[⟨0,2,r⟩]) rfl gL ?_
    exact cI [(2,ay 0 0 a0.length)] trivial
   refine ij ?_
   refine lB (ay 0 0 a0.length) [ay 0 0 a0.length] ?_
   exact⟨l7 [some 0],nL [some 0] rfl (by decide) ⟨rfl,(nR (b:=0) (g:=0) (sz:=2) (xs:=a0) (ys:=ac) rfl Cm h),trivial⟩,(.inr (qV (by simp) rfl rfl (by have:=congrArg List.length h;simpa using this)))⟩
theorem XR (a0:(List b8)) (ak:small a0):c8 Try.prog 121 [bp bn a0] [] (fun r H=>r=ay 0 0 (af a0).length∧H=[⟨0,2,List.map bn (af a0)⟩]):=XT a0 (af a0) (by
 have ak:a0.length≤1048576:=ak
 unfold C_
 exact⟨fun h=>⟨⟨by omega,by omega⟩,rfl⟩,fun h b=>⟨fun _=>h.symm,fun _=>⟨⟨by omega,by omega⟩,rfl⟩⟩⟩)
noncomputable def BA:Code:=jo Try.f61
def SB:List Item:=[aj 0,aj 1,aj 2,aj 3,aj 5,aj 6,aj 9,⟨4,true,false,[0,1,5,6,9]⟩,⟨7,true,false,[0,1,9]⟩,aj 8,⟨10,true,false,[]⟩]
def SC:List (List Nat):=[[],[0],[],[2],[2,3],[],[5],rg 2 7,rg 0 8,[],rg 0 10]
abbrev jd (r:Type):Type:=List (List Bool)→Nat→Nat→List Nat→Int→List ab→r
def By (ai:jd Prop) (al:jd Nat) (a0:Frame) (a_:List (List Bool)) (g2 g3:Nat) (aP:List Nat) (bb:Int) (ws2:List ab):Prop:=
  ai (a_++[(af (nth a0.M bb).U)]) (g2+1) (g3+1) (aP++[a_.length]) (IntKind.i64.wrap (bb+1)) (ws2++[(ab.mk (nth a0.M bb).au (nth a0.M bb).aa (af (nth a0.M bb).U) (nth a0.M bb).an (nth a0.M bb).ao)])∧al (a_++[(af (nth a0.M bb).U)]) (g2+1) (g3+1) (aP++[a_.length]) (IntKind.i64.wrap (bb+1)) (ws2++[(ab.mk (nth a0.M bb).au (nth a0.M bb).aa (af (nth a0.M bb).U) (nth a0.M bb).an (nth a0.M bb).ao)])<al a_ g2 g3 aP bb ws2
def Bz (ai:jd Prop) (al:jd Nat) (a0 ac:Frame) (a_:List (List Bool)) (g2 g3:Nat) (aP:List Nat) (bb:Int) (ws2:List ab):Prop:=
  ((decide (bb<(a0.M.length:Int)))=false→a0.ok=ac.ok∧(af a0.aA)=ac.aA∧(af a0.av)=ac.av∧ws2=ac.M∧aP=List.range ws2.length∧a_=ws2.map ab.U)∧((decide (bb<(a0.M.length:Int)))=true→((0≤bb∧bb.toNat<a0.M.length)∧((small (nth a0.M bb).U)∧(ws2.length=aP.length∧((ws2.length+1)*56≤140737488355328∧ws2.length+1≤4611686018427387904))))∧(By ai al a0 a_ g2 g3 aP bb ws2))
def Bx (a0:Frame) (ac:Frame) (ai:jd Prop) (al:jd Nat):Prop:=
 ((small a0.aA)∧(small a0.av))∧(a0.M.length≤4611686018427387904→ai ([]:List (List Bool)) 0 0 ([]:List Nat) 0 ([]:List ab)∧ ∀(a_:List (List Bool)) (g2:Nat) (g3:Nat) (aP:List Nat) (bb:Int) (ws2:List ab),ai a_ g2 g3 aP bb ws2→(Bz ai al a0 ac a_ g2 g3 aP bb ws2))
theorem SD (a0:Frame) (ac:Frame) (ai:jd Prop) (al:jd Nat) (h:Bx a0 ac ai al):c8 Try.prog 61 [.agg (ck false a0)] [] (fun r H=>r= .agg [ax ac.ok,ay 0 0 ac.aA.length,ay 1 0 ac.av.length,ay 2 0 ac.M.length]∧H=(⟨0,1,List.map aT ac.aA⟩::⟨0,2,List.map bn ac.av⟩::⟨0,5,bd 3 ac.M (List.range ac.M.length)⟩::List.map bz (List.map ab.U ac.M))):=by
 refine c8.toOwn ?_
 unfold Bx at h
 refine c8.go (fn:=Try.f61) [(0,.agg (ck false a0))] Try.func61 (fun _ _=> ?_)
 show WpS _ (bC BA 1) _ ⟨bq 34 [(0,.agg (ck false a0))],[],[]⟩
 refine r7 [1000003] 0 [(2,aW 2 0),(1,aW 1 0)] [2] [] [(2,[ax false,bh,bh,bh]),(1,(ck false a0))] [] ?_
 obtain⟨kL,h⟩:=h
 refine gH [(3,aW 3 0)] [2] (fun L=>(3,[ax a0.ok,ay 0 0 (af a0.aA).length,ay 1 0 (af a0.av).length,bh])::L) (fun _=>[⟨0,1,List.map aT (af a0.aA)⟩,⟨0,2,List.map bn (af a0.av)⟩]) (True) ?_ (fun q2=> ?_)
 ·
  replace h:=kL
  refine pL [1000003] 1 SB SC [(3,[ax false,bh,bh,bh])] ?_
  obtain⟨q3,h⟩:=h
  refine DM 8 (some 10) [(3,aW 3 0),(12,bp bn a0.av),(11,aW 1 2),(9,bp aT a0.aA),(8,aW 1 1),(7,ax a0.ok),(6,aW 1 0)] [bp aT a0.aA] (fun L H=>si Try.prog (iz BA 6) [0,1,5,6,9] [(3,aW 3 0),(12,bp bn a0.av),(11,aW 1 2),(9,bp aT a0.aA),(8,aW 1 1),(7,ax a0.ok),(6,aW 1 0),(2,aW 2 0),(1,aW 1 0)] L H) (ay 0 0 (af a0.aA).length) [⟨0,1,List.map aT (af a0.aA)⟩] (Lc a0.aA q3) (aK.cons (dE.h0 fi) aK.nil) (qW (fun _=>rfl) rfl) (tp (rn (fun _=>rfl) rfl) (by kernel_rfl)) (Cn (ψ:=((true=true∧true=true∧((aW 1 0:AV)=aW 1 0))∧((true=true∧true=true∧((ax a0.ok:AV)=ax a0.ok))∧((true=true∧true=true∧((aW 1 2:AV)=aW 1 2))∧((true=true∧true=true∧((bp bn a0.av:AV)=bp bn a0.av))∧((true=true∧true=true∧((aW 3 0:AV)=aW 3 0))∧True)))))) (by kernel_rfl) ⟨⟨rfl,rfl,rfl⟩,⟨⟨rfl,rfl,rfl⟩,⟨⟨rfl,rfl,rfl⟩,⟨⟨rfl,rfl,rfl⟩,⟨⟨rfl,rfl,rfl⟩,trivial⟩⟩⟩⟩⟩) ?_
  have q4:=h
  refine DM 1 (some 13) [] [bp bn a0.av] (fun L H=>si Try.prog (iz BA 6) [0,1,9] [(10,ay 0 0 (af a0.aA).length),(3,aW 3 0),(12,bp bn a0.av),(11,aW 1 2),(9,bp aT a0.aA),(8,aW 1 1),(7,ax a0.ok),(6,aW 1 0),(2,aW 2 0),(1,aW 1 0)] L H) (ay 1 0 (af a0.av).length) [⟨0,1,List.map aT (af a0.aA)⟩,⟨0,2,List.map bn (af a0.av)⟩] (XR a0.av q4) (aK.cons (dE.h0 fi) aK.nil) (qW (fun _=>rfl) rfl) (tp (rn (fun _=>rfl) rfl) (by kernel_rfl)) (Cn (ψ:=((true=true∧true=true∧((aW 1 0:AV)=aW 1 0))∧((true=true∧true=true∧((ax a0.ok:AV)=ax a0.ok))∧((true=true∧true=true∧((aW 3 0:AV)=aW 3 0))∧True)))) (by kernel_rfl) ⟨⟨rfl,rfl,rfl⟩,⟨⟨rfl,rfl,rfl⟩,⟨⟨rfl,rfl,rfl⟩,trivial⟩⟩⟩) ?_
  refine ZC 2 [(14,.agg [ax a0.ok,ay 0 0 (af a0.aA).length,ay 1 0 (af a0.av).length,bh])] [(3,[ax a0.ok,ay 0 0 (af a0.aA).length,ay 1 0 (af a0.av).length,bh]),(2,[ax false,bh,bh,bh]),(1,(ck false a0))] [⟨0,1,List.map aT (af a0.aA)⟩,⟨0,2,List.map bn (af a0.av)⟩] (φ:=True) trivial ?_
  exact jV [] trivial
 refine iF ?_
 refine dA [(16,bp (cl false) a0.M),(17,ar (a0.M.length:Int)),(18,ar 0)] [2] (a0.M.length≤4611686018427387904) ?_ (fun cw=> ?_)
 ·
  refine b3 [1000003] 2 ?_
  refine sLen 3 (some 17) [(16,bp (cl false) a0.M),(15,aW 1 3)] (cl false) a0.M (fun cr=> ?_)
  exact cI [(18,ar 0)] cr
 replace h:=h cw
 refine hC 0 ?_
 refine WpS.oS ?_ (nb (s'':=⟨(bq 34 [(16,bp (cl false) a0.M),(17,ar (a0.M.length:Int)),(18,ar 0),(3,aW 3 0),(2,aW 2 0)]),[(3,[ax a0.ok,ay 0 0 (af a0.aA).length,ay 1 0 (af a0.av).length,ay 2 0 ([]:List ab).length]),(2,[ax false,bh,bh,bh]),(1,(ck false a0))],[⟨0,1,List.map aT (af a0.aA)⟩,⟨0,2,List.map bn (af a0.av)⟩,⟨0,5,bd 4 ([]:List ab) ([]:List Nat)⟩]⟩) (Weak.zf (T:=(bq 34 [(16,bp (cl false) a0.M),(17,ar (a0.M.length:Int)),(18,ar 0),(3,aW 3 0),(2,aW 2 0)])) (L:=[(3,[ax a0.ok,ay 0 0 (af a0.aA).length,ay 1 0 (af a0.av).length,bh]),(2,[ax false,bh,bh,bh]),(1,(ck false a0))]) (H:=[⟨0,1,List.map aT (af a0.aA)⟩,⟨0,2,List.map bn (af a0.av)⟩]) (cells:=[ax a0.ok,ay 0 0 (af a0.aA).length,ay 1 0 (af a0.av).length,bh]) 3 3 5 (by kernel_rfl) (by kernel_rfl)) (by kernel_rfl))
 refine WpS.oS ?_ (nb (s'':=⟨(bq 34 [(16,bp (cl false) a0.M),(17,ar (a0.M.length:Int)),(18,ar 0),(3,aW 3 0),(2,aW 2 0)]),[(3,[ax a0.ok,ay 0 0 (af a0.aA).length,ay 1 0 (af a0.av).length,ay 2 0 ([]:List ab).length]),(2,[ax false,bh,bh,bh]),(1,(ck false a0))],(⟨0,1,List.map aT (af a0.aA)⟩::⟨0,2,List.map bn (af a0.av)⟩::⟨0,5,bd 4 ([]:List ab) ([]:List Nat)⟩::⟨0,5,[]⟩::List.map bz ([]:List (List Bool)))⟩) (Weak.Cj (T:=(bq 34 [(16,bp (cl false) a0.M),(17,ar (a0.M.length:Int)),(18,ar 0),(3,aW 3 0),(2,aW 2 0)])) (L:=[(3,[ax a0.ok,ay 0 0 (af a0.aA).length,ay 1 0 (af a0.av).length,ay 2 0 ([]:List ab).length]),(2,[ax false,bh,bh,bh]),(1,(ck false a0))]) (H:=[⟨0,1,List.map aT (af a0.aA)⟩,⟨0,2,List.map bn (af a0.av)⟩,⟨0,5,bd 4 ([]:List ab) ([]:List Nat)⟩]) 5) (by kernel_rfl))
 obtain⟨mW,h⟩:=h
 refine ml (fun(v:List (List Bool)×Nat×Nat×List Nat×Int×List ab)=>(⟨(bq 34 [(2,aW 2 0),(3,aW 3 0),(16,bp (cl false) a0.M),(17,ar (a0.M.length:Int)),(18,ar (v.2.2.2.2.1))]),[(3,[ax a0.ok,ay 0 0 (af a0.aA).length,ay 1 0 (af a0.av).length,ay 2 (v.2.1) (v.2.2.2.2.2).length]),(2,[ax false,bh,bh,bh])],(⟨0,1,List.map aT (af a0.aA)⟩::⟨0,2,List.map bn (af a0.av)⟩::⟨(v.2.1),5,bd 4 (v.2.2.2.2.2) (v.2.2.2.1)⟩::⟨(v.2.2.1),5,[]⟩::List.map bz (v.1))⟩:St)) (fun(v:List (List Bool)×Nat×Nat×List Nat×Int×List ab)=>ai (v.1) (v.2.1) (v.2.2.1) (v.2.2.2.1) (v.2.2.2.2.1) (v.2.2.2.2.2)) (fun(v:List (List Bool)×Nat×Nat×List Nat×Int×List ab)=>al (v.1) (v.2.1) (v.2.2.1) (v.2.2.2.1) (v.2.2.2.2.1) (v.2.2.2.2.2)) (([]:List (List Bool)),0,0,([]:List Nat),0,([]:List ab)) (gz [1]) mW (fun v aV=> ?_)
 obtain⟨a_,g2,g3,aP,bb,ws2⟩:=v
 replace h:=h a_ g2 g3 aP bb ws2 aV
 dsimp only
 refine hD [1000003] 3 [(19,ax (decide (bb<(a0.M.length:Int))))] [1] [5] ?_
 unfold Bz at h
 obtain⟨kh,h⟩:=h
 refine dA [] [0,1,5] ((decide (bb<(a0.M.length:Int)))=true) ?_ (fun iP=> ?_)
 ·
  replace h:=kh
  refine gq (fun jT=> ?_) (fun jT=> ?_)
  ·
   refine fc ?_
   exact cL.normal (by simp only[jT]<;>rfl) fb
  ·
   replace h:=h jT
   refine kx 0 ?_
   refine cL.exit ?_
   refine ef.exit ?_
   refine dz.here ?_
   refine dH.normal ?_
   refine jK ⟨(bq 34 [(2,aW 2 0)]),[(3,[ax a0.ok,ay 0 0 (af a0.aA).length,ay 1 0 (af a0.av).length,ay 2 g2 ws2.length]),(2,[ax a0.ok,ay 0 0 (af a0.aA).length,ay 1 0 (af a0.av).length,ay 2 g2 ws2.length])],(⟨0,1,List.map aT (af a0.aA)⟩::⟨0,2,List.map bn (af a0.av)⟩::⟨g2,5,bd 4 ws2 aP⟩::⟨g3,5,[]⟩::List.map bz a_)⟩ (True) ?_ (fun gL=> ?_)
   ·
    refine b3 [1000003] 8 ?_
    exact cI [(33,.agg [ax a0.ok,ay 0 0 (af a0.aA).length,ay 1 0 (af a0.av).length,ay 2 g2 ws2.length])] trivial
   refine ij ?_
   refine lB (.agg [ax a0.ok,ay 0 0 (af a0.aA).length,ay 1 0 (af a0.av).length,ay 2 g2 ws2.length]) [.agg [ax a0.ok,ay 0 0 (af a0.aA).length,ay 1 0 (af a0.av).length,ay 2 g2 ws2.length]] ?_
   exact JZ h rfl rfl rfl rfl
 replace h:=h iP
 obtain⟨hM,h⟩:=h
 refine gH [] [5] (fun L=>(5,[ar (nth a0.M bb).au,ar (nth a0.M bb).aa,ay (a_.length+4) 0 (af (nth a0.M bb).U).length,ax (nth a0.M bb).an,ar (nth a0.M bb).ao])::gT 0 3 (ay 2 (g2+1) (ws2++[(ab.mk (nth a0.M bb).au (nth a0.M bb).aa (af (nth a0.M bb).U) (nth a0.M bb).an (nth a0.M bb).ao)]).length) L) (fun _=>(⟨0,1,List.map aT (af a0.aA)⟩::⟨0,2,List.map bn (af a0.av)⟩::⟨(g2+1),5,bd 4 (ws2++[(ab.mk (nth a0.M bb).au (nth a0.M bb).aa (af (nth a0.M bb).U) (nth a0.M bb).an (nth a0.M bb).ao)]) (aP++[a_.length])⟩::⟨(g3+1),5,[[ar (nth a0.M bb).au,ar (nth a0.M bb).aa,ay (a_.length+4) 0 (af (nth a0.M bb).U).length,ax (nth a0.M bb).an,ar (nth a0.M bb).ao]]⟩::List.map bz (a_++[(af (nth a0.M bb).U)]))) (True) ?_ (fun jS=> ?_)
 ·
  replace h:=hM
  refine hC 1 ?_
  obtain⟨l5,h⟩:=h
  refine gH [(5,aW 5 0)] [5] (fun L=>(5,(cl false (nth a0.M bb)))::L) id (True) ?_ (fun mU=> ?_)
  ·
   replace h:=l5
   refine b3 [1000003] 4 ?_
   have fI:=h
   refine m2 1 (some 20) [] (cl false) a0.M 5 fI ?_
   exact cI [(5,aW 5 0),(21,.agg (cl false (nth a0.M bb)))] trivial
  obtain⟨mV,h⟩:=h
  refine gH [] [6] (fun L=>er 0 [ar (nth a0.M bb).au,ar (nth a0.M bb).aa,ay (a_.length+4) 0 (af (nth a0.M bb).U).length,ax (nth a0.M bb).an,ar (nth a0.M bb).ao] L) (fun _=>(⟨0,1,List.map aT (af a0.aA)⟩::⟨0,2,List.map bn (af a0.av)⟩::⟨g2,5,bd 4 ws2 aP⟩::⟨g3,5,[]⟩::List.map bz (a_++[(af (nth a0.M bb).U)]))) (True) ?_ (fun yk=> ?_)
  ·
   replace h:=mV
   refine b3 [1000003] 5 ?_
   have oF:=h
   refine yC 3 (some 24) [(23,bp aT (nth a0.M bb).U),(22,aW 5 2)] [bp aT (nth a0.M bb).U] (ay (a_.length+4) 0 (af (nth a0.M bb).U).length) (⟨0,1,List.map aT (af a0.aA)⟩::⟨0,2,List.map bn (af a0.av)⟩::⟨g2,5,bd 4 ws2 aP⟩::⟨g3,5,[]⟩::List.map bz (a_++[(af (nth a0.M bb).U)])) (Lc (nth a0.M bb).U oF) (aK.cons (dE.h0 fi) aK.nil) (qW (fun _=>rfl) rfl) (tp (rn (fun _=>rfl) rfl) (by simp only[List.cons_append,List.map_nil,ue])) ?_ (er:=by simp[m3,oP,h6])
   exact cI [(25,aW 5 2)] trivial
  refine b3 [1000003] 6 ?_
  refine CY 4 [(29,.ref 3 (g3+1) 0 1 true),(28,.agg [ar (nth a0.M bb).au,ar (nth a0.M bb).aa,ay (a_.length+4) 0 (af (nth a0.M bb).U).length,ax (nth a0.M bb).an,ar (nth a0.M bb).ao]),(27,ay 2 g2 ws2.length),(26,aW 3 3)] [(5,[ar (nth a0.M bb).au,ar (nth a0.M bb).aa,ay (a_.length+4) 0 (af (nth a0.M bb).U).length,ax (nth a0.M bb).an,ar (nth a0.M bb).ao]),(3,[ax a0.ok,ay 0 0 (af a0.aA).length,ay 1 0 (af a0.av).length,ay 2 g2 ws2.length]),(2,[ax false,bh,bh,bh])] (⟨0,1,List.map aT (af a0.aA)⟩::⟨0,2,List.map bn (af a0.av)⟩::⟨g2,5,bd 4 ws2 aP⟩::⟨(g3+1),5,[[ar (nth a0.M bb).au,ar (nth a0.M bb).aa,ay (a_.length+4) 0 (af (nth a0.M bb).U).length,ax (nth a0.M bb).an,ar (nth a0.M bb).ao]]⟩::List.map bz (a_++[(af (nth a0.M bb).U)])) ?_
  have nM:=h
  refine K1 1 (some 30) [] 4 2 g2 (g3+1) 56 ws2 aP (ab.mk (nth a0.M bb).au (nth a0.M bb).aa (af (nth a0.M bb).U) (nth a0.M bb).an (nth a0.M bb).ao) a_.length (fun r=>(⟨0,1,List.map aT (af a0.aA)⟩::⟨0,2,List.map bn (af a0.av)⟩::⟨(g2+1),5,r⟩::⟨(g3+1),5,[[ar (nth a0.M bb).au,ar (nth a0.M bb).aa,ay (a_.length+4) 0 (af (nth a0.M bb).U).length,ax (nth a0.M bb).an,ar (nth a0.M bb).ao]]⟩::List.map bz (a_++[(af (nth a0.M bb).U)]))) nM.1 nM.2 ?_
  refine K2 [(31,aW 3 3)] [(5,[ar (nth a0.M bb).au,ar (nth a0.M bb).aa,ay (a_.length+4) 0 (af (nth a0.M bb).U).length,ax (nth a0.M bb).an,ar (nth a0.M bb).ao]),(3,[ax a0.ok,ay 0 0 (af a0.aA).length,ay 1 0 (af a0.av).length,ay 2 (g2+1) (ws2++[(ab.mk (nth a0.M bb).au (nth a0.M bb).aa (af (nth a0.M bb).U) (nth a0.M bb).an (nth a0.M bb).ao)]).length]),(2,[ax false,bh,bh,bh])] (⟨0,1,List.map aT (af a0.aA)⟩::⟨0,2,List.map bn (af a0.av)⟩::⟨(g2+1),5,bd 4 (ws2++[(ab.mk (nth a0.M bb).au (nth a0.M bb).aa (af (nth a0.M bb).U) (nth a0.M bb).an (nth a0.M bb).ao)]) (aP++[a_.length])⟩::⟨(g3+1),5,[[ar (nth a0.M bb).au,ar (nth a0.M bb).aa,ay (a_.length+4) 0 (af (nth a0.M bb).U).length,ax (nth a0.M bb).an,ar (nth a0.M bb).ao]]⟩::List.map bz (a_++[(af (nth a0.M bb).U)])) ?_
  refine dz.normal ?_
  exact cL.normal trivial fb
 unfold By at h
 refine b3 [1000003] 7 ?_
 refine fA [(18,ar (IntKind.i64.wrap (bb+1))),(32,ar (IntKind.i64.wrap (bb+1)))] ?_
 exact ef.again ((a_++[(af (nth a0.M bb).U)]),(g2+1),(g3+1),(aP++[a_.length]),(IntKind.i64.wrap (bb+1)),(ws2++[(ab.mk (nth a0.M bb).au (nth a0.M bb).aa (af (nth a0.M bb).U) (nth a0.M bb).an (nth a0.M bb).ao)])) h ((Weak.clear 3 rfl:Weak ⟨(bq 34 [(18,ar (IntKind.i64.wrap (bb+1))),(32,ar (IntKind.i64.wrap (bb+1))),(2,aW 2 0),(3,aW 3 0),(16,bp (cl false) a0.M),(17,ar (a0.M.length:Int))]),[(5,[ar (nth a0.M bb).au,ar (nth a0.M bb).aa,ay (a_.length+4) 0 (af (nth a0.M bb).U).length,ax (nth a0.M bb).an,ar (nth a0.M bb).ao]),(3,[ax a0.ok,ay 0 0 (af a0.aA).length,ay 1 0 (af a0.av).length,ay 2 (g2+1) (ws2++[(ab.mk (nth a0.M bb).au (nth a0.M bb).aa (af (nth a0.M bb).U) (nth a0.M bb).an (nth a0.M bb).ao)]).length]),(2,[ax false,bh,bh,bh])],(⟨0,1,List.map aT (af a0.aA)⟩::⟨0,2,List.map bn (af a0.av)⟩::⟨(g2+1),5,bd 4 (ws2++[(ab.mk (nth a0.M bb).au (nth a0.M bb).aa (af (nth a0.M bb).U) (nth a0.M bb).an (nth a0.M bb).ao)]) (aP++[a_.length])⟩::⟨(g3+1),5,[[ar (nth a0.M bb).au,ar (nth a0.M bb).aa,ay (a_.length+4) 0 (af (nth a0.M bb).U).length,ax (nth a0.M bb).an,ar (nth a0.M bb).ao]]⟩::List.map bz (a_++[(af (nth a0.M bb).U)]))⟩ ⟨(bq 34 [(18,ar (IntKind.i64.wrap (bb+1))),(32,ar (IntKind.i64.wrap (bb+1))),(2,aW 2 0),(3,aW 3 0),(16,bp (cl false) a0.M),(17,ar (a0.M.length:Int))]),[(5,[ar (nth a0.M bb).au,ar (nth a0.M bb).aa,ay (a_.length+4) 0 (af (nth a0.M bb).U).length,ax (nth a0.M bb).an,ar (nth a0.M bb).ao]),(3,[ax a0.ok,ay 0 0 (af a0.aA).length,ay 1 0 (af a0.av).length,ay 2 (g2+1) (ws2++[(ab.mk (nth a0.M bb).au (nth a0.M bb).aa (af (nth a0.M bb).U) (nth a0.M bb).an (nth a0.M bb).ao)]).length]),(2,[ax false,bh,bh,bh])],(⟨0,1,List.map aT (af a0.aA)⟩::⟨0,2,List.map bn (af a0.av)⟩::⟨(g2+1),5,bd 4 (ws2++[(ab.mk (nth a0.M bb).au (nth a0.M bb).aa (af (nth a0.M bb).U) (nth a0.M bb).an (nth a0.M bb).ao)]) (aP++[a_.length])⟩::⟨(g3+1),5,[]⟩::List.map bz (a_++[(af (nth a0.M bb).U)]))⟩).trans (gz [5]))
theorem SA (a0:Frame) (ak:l8 a0):c8 Try.prog 61 [.agg (ck false a0)] [] (fun r H=>r= .agg [ax (af a0).ok,ay 0 0 (af a0).aA.length,ay 1 0 (af a0).av.length,ay 2 0 (af a0).M.length]∧H=(⟨0,1,List.map aT (af a0).aA⟩::⟨0,2,List.map bn (af a0).av⟩::⟨0,5,bd 3 (af a0).M (List.range (af a0).M.length)⟩::List.map bz (List.map ab.U (af a0).M))):=SD a0 (af a0) (fun bs _ _ is v ws=>b4 a0.M.length (fun _=>false) v∧ws=a0.M.take v.toNat∧is=List.range ws.length∧bs=ws.map ab.U) (fun _ _ _ _ v _=>cn a0.M.length v) (by
 unfold Bx
 obtain⟨yc,J1,Wa,Cr⟩:=ak
 refine⟨⟨yc,J1⟩,fun ap=>⟨⟨c6 (cQ _),rfl,rfl,rfl⟩,fun bs g2 g3 is v ws aV=> ?_⟩⟩
 unfold Bz By
 obtain⟨aV,rfl,hi,hb⟩:=aV
 refine⟨fun hv=> ?_,fun hv=>⟨⟨cq aV hv,Cr _ (ek (cq aV hv).2),?_,?_,?_⟩,⟨(cX (c0 ap) aV hv rfl).1,?_,?_,?_⟩,(cX (c0 ap) aV hv rfl).2⟩⟩
 ·have: ¬v<(a0.M.length:Int):=by simpa using hv
  have h1:=aV.1
  rw[List.take_of_length_le (by omega)] at hi hb ⊢
  exact⟨rfl,rfl,rfl,rfl,hi,hb⟩
 ·rw[hi];simp
 ·rw[List.length_take];omega
 ·rw[List.length_take];omega
 ·have dp:=cq aV hv
  rw[kT (c0 ap) dp.1 (by omega),show(v+1).toNat=v.toNat+1 by omega,List.take_succ_eq_append_getElem dp.2,←hZ dp.2];rfl
 ·rw[hi,hb];simp[List.range_succ]
 ·rw[hb,List.map_append];rfl)
noncomputable def SG:Code:=jo Try.f79
def BC (a0:aG) (J:Int) (ac:ab):Prop:=
  ((0≤J∧J.toNat<a0.M.length)∧((nth a0.M J).ah.length≤4611686018427387904→0≤((nth a0.M J).ah.length:Int)∧1*((nth a0.M J).ah.length:Int)≤140737488355328∧((nth a0.M J).ah.length:Int)≤4611686018427387904))∧((nth a0.M J).ah.length≤4611686018427387904→(0=ac.au)∧(0=ac.aa)∧((List.replicate ((nth a0.M J).ah.length:Int).toNat false)=ac.U)∧(false=ac.an)∧(0=ac.ao))
def BB (a0:aG) (J:Int) (ac:ab):Prop:=
 BC a0 J ac
theorem SH (a0:aG) (J:Int) (ac:ab) (h:BB a0 J ac):c8 Try.prog 79 [.agg (bW false a0),ar J] [] (fun r H=>r= .agg [ar ac.au,ar ac.aa,ay 0 0 ac.U.length,ax ac.an,ar ac.ao]∧H=[⟨0,1,List.map aT ac.U⟩]):=by
 refine c8.toOwn ?_
 unfold BB at h
 refine c8.go (fn:=Try.f79) [(0,.agg (bW false a0)),(1,ar J)] Try.func79 (fun _ _=> ?_)
 show WpS _ (bC SG 1) _ ⟨bq 14 [(0,.agg (bW false a0)),(1,ar J)],[],[]⟩
 refine r7 [] 0 [(4,aW 4 0),(2,aW 2 0)] [2] [0,1,1] [(4,[ar 0,ar 0,bh,ax false,ar 0]),(2,(bW false a0))] [] ?_
 unfold BC at h
 obtain⟨cr,h⟩:=h
 refine gH [] [1] (fun L=>gT 0 2 (ay 0 0 (List.replicate ((nth a0.M J).ah.length:Int).toNat false).length) L) (fun _=>[⟨0,1,List.map aT (List.replicate ((nth a0.M J).ah.length:Int).toNat false)⟩]) ((nth a0.M J).ah.length≤4611686018427387904) ?_ (fun q2=> ?_)
 ·
  replace h:=cr
  refine b3 [] 1 ?_
  obtain⟨cw,h⟩:=h
  refine m2 4 (some 8) [(7,ar J),(6,bp (dI false) a0.M),(5,aW 2 2)] (dI false) a0.M 5 cw ?_
  refine sLen 3 (some 11) [(10,bp ca (nth a0.M J).ah),(9,.cD (dI false (nth a0.M J)) 0)] ca (nth a0.M J).ah (fun q3=> ?_)
  replace h:=h q3
  have q4:=h
  refine Xk 1 (some 12) [] aT 1 [ax false] 0 (fun r=>[⟨0,1,r⟩]) false q4 ?_
  exact cI [(13,.agg [ar 0,ar 0,ay 0 0 (List.replicate ((nth a0.M J).ah.length:Int).toNat false).length,ax false,ar 0])] q3
 replace h:=h q2
 refine ij ?_
 refine lB (.agg [ar 0,ar 0,ay 0 0 (List.replicate ((nth a0.M J).ah.length:Int).toNat false).length,ax false,ar 0]) [.agg [ar 0,ar 0,ay 0 0 (List.replicate ((nth a0.M J).ah.length:Int).toNat false).length,ax false,ar 0]] ?_
 exact⟨l7 [some 0],nL [some 0] rfl (by decide) ⟨rfl,(nR (b:=0) (g:=0) (sz:=1) (xs:=(List.replicate ((nth a0.M J).ah.length:Int).toNat false)) (ys:=ac.U) rfl va (h.2.2.1)),trivial⟩,(.inl ⟨_,_,rfl,rfl,(aK.cons (Cp (a:=0) (b:=ac.au) (h.1)) (aK.cons (Cp (a:=0) (b:=ac.aa) (h.2.1)) (aK.cons (qV (by simp) rfl rfl (by have:=congrArg List.length (h.2.2.1);simpa using this)) (aK.cons (V6 (a:=false) (b:=ac.an) (h.2.2.2.1)) (aK.cons (Cp (a:=0) (b:=ac.ao) (h.2.2.2.2)) aK.nil)))))⟩)⟩
theorem SF (a0:aG) (J:Int) (ak:G_ a0 J):c8 Try.prog 79 [.agg (bW false a0),ar J] [] (fun r H=>r= .agg [ar (cZ a0 J).au,ar (cZ a0 J).aa,ay 0 0 (cZ a0 J).U.length,ax (cZ a0 J).an,ar (cZ a0 J).ao]∧H=[⟨0,1,List.map aT (cZ a0 J).U⟩]):=SH a0 J (cZ a0 J) (by
 unfold BB BC
 obtain⟨fD,aN,h1⟩:=ak
 have aR:J.toNat<a0.M.length:=by omega
 have:=(fD.ah _ (ek aR)).2.1
 exact⟨⟨⟨aN,aR⟩,fun _=>⟨cQ _,by omega,by omega⟩⟩,fun _=>⟨rfl,rfl,by show List.replicate _ _=List.replicate _ _;simp,rfl,rfl⟩⟩)
def HM (ai:Int→Prop) (al:Int→Nat) (a0:Frame) (J:(List Int)) (ac:Bool):Prop:=
  J.length≤4611686018427387904→ai 0∧ ∀(v9:Int),ai v9→(((decide (v9<(J.length:Int)))=false→false=ac)∧((decide (v9<(J.length:Int)))=true→((0≤v9∧v9.toNat<J.length)∧((0≤(nth J v9)∧(nth J v9).toNat<a0.aA.length)∧((nth a0.aA (nth J v9))=true→true=ac)))∧((!(nth a0.aA (nth J v9)))=true→ai (IntKind.i64.wrap (v9+1))∧al (IntKind.i64.wrap (v9+1))<al v9)))
def HL (a0:Frame) (J:(List Int)) (ac:Bool) (ai:Int→Prop) (al:Int→Nat):Prop:=
 HM ai al a0 J ac
theorem Tj (a0:Frame) (J:(List Int)) (ak:tr a0 J):bf Try.prog 124 [.agg (ck false a0),bp ca J] (ax (iT a0 J)):=(fun(ai:Int→Prop) (al:Int→Nat) (h:HL a0 J (iT a0 J) ai al)=>bf.run (ps:=[.frame,(.l .int)]) (rs:=[.bool]) (x:=(a0,J,())) (r:=((iT a0 J),())) ⟨19,cm,[]⟩ ⟨[],[],[],[],[]⟩ (dq [2,7,8] [(2,4)] 9 ai al fun _=> .nil) Try.func124 h) (b4 J.length (fun j=>en a0 (nth J j))) (cn J.length) (by
 unfold HL HM
 intro ap
 refine⟨c6 (cQ _),fun v aV=>⟨fun hv=> ?_,fun hv=>⟨⟨cq aV hv,?_,fun hb=> ?_⟩,fun hb=>cX (c0 ap) aV hv (not_eq hb)⟩⟩⟩
 ·exact(vW (q:=fun x=>en a0 x) aV hv).symm
 ·have:=ak _ (ek (cq aV hv).2)
  exact⟨this.1,by omega⟩
 ·exact(yX (q:=fun x=>en a0 x) aV hv hb).symm)
def Tk:cd Try.prog:=⟨124,[.frame,(.l .int)],[.bool],some fun x=>tr x.1 x.2.1,fun x=>((iT x.1 x.2.1),()),fun x h=>Tj x.1 x.2.1 h⟩
def SZ:List Item:=[aj 0,aj 1,aj 2,aj 3,aj 4,aj 5,aj 6,aj 7,aj 8,aj 9,aj 10,aj 11]
def S0:List (List Nat):=[[],[0],[],[2],rg 0 4,rg 0 5,[],[6],[],[8],rg 6 10,rg 0 11]
def HG (ai:Int→Prop) (al:Int→Nat) (a0:aG) (J:Frame) (a2:Int) (ac:Bool) (bb:Int):Prop:=
  ((0≤bb∧bb.toNat<(b_ (nth a0.M a2)).length)∧((0≤(nth (b_ (nth a0.M a2)) bb).br∧(nth (b_ (nth a0.M a2)) bb).br.toNat<J.av.length)∧((!((nth J.av (nth (b_ (nth a0.M a2)) bb).br).b1==(nth (b_ (nth a0.M a2)) bb).bJ&&(nth J.av (nth (b_ (nth a0.M a2)) bb).br).aQ==(nth (b_ (nth a0.M a2)) bb).bJ))=true→false=ac)))∧((!(!((nth J.av (nth (b_ (nth a0.M a2)) bb).br).b1==(nth (b_ (nth a0.M a2)) bb).bJ&&(nth J.av (nth (b_ (nth a0.M a2)) bb).br).aQ==(nth (b_ (nth a0.M a2)) bb).bJ)))=true→ai (IntKind.i64.wrap (bb+1))∧al (IntKind.i64.wrap (bb+1))<al bb)
def HH (ai:Int→Prop) (al:Int→Nat) (a0:aG) (J:Frame) (a2:Int) (ac:Bool) (bb:Int):Prop:=
  ((decide (bb<((b_ (nth a0.M a2)).length:Int)))=false→((tr J (nth a0.M a2).ah)∧((!(iT J (nth a0.M a2).ah))=true→tr J (nth a0.M a2).bV))∧(((!(iT J (nth a0.M a2).ah))&&(!(iT J (nth a0.M a2).bV)))=ac))∧((decide (bb<((b_ (nth a0.M a2)).length:Int)))=true→HG ai al a0 J a2 ac bb)
def HF (a0:aG) (J:Frame) (a2:Int) (ac:Bool) (ai:Int→Prop) (al:Int→Nat):Prop:=
 (0≤a2∧a2.toNat<a0.M.length)∧((yg (nth a0.M a2))∧((b_ (nth a0.M a2)).length≤4611686018427387904→ai 0∧ ∀(bb:Int),ai bb→(HH ai al a0 J a2 ac bb)))
theorem SY (a0:aG) (J:Frame) (a2:Int) (ak:s9 a0 J a2):bf Try.prog 108 [.agg (bW false a0),.agg (ck false J),ar a2] (ax (fW a0 J a2)):=(fun(ai:Int→Prop) (al:Int→Nat) (h:HF a0 J a2 (fW a0 J a2) ai al)=>bf.run (ps:=[.c7,.frame,.int]) (rs:=[.bool]) (x:=(a0,J,a2,())) (r:=((fW a0 J a2),())) ⟨47,cm,[HB,Tk]⟩ ⟨[],[(5,SZ,S0)],[],[],[]⟩ (dq [4,7,16,17] [(7,5),(4,4)] 18 ai al fun _=> .nil) Try.func108 h) (b4 (b_ (nth a0.M a2)).length (fun j=> !((nth J.av (nth (b_ (nth a0.M a2)) j).br).b1==(nth (b_ (nth a0.M a2)) j).bJ&&(nth J.av (nth (b_ (nth a0.M a2)) j).br).aQ==(nth (b_ (nth a0.M a2)) j).bJ))) (cn (b_ (nth a0.M a2)).length) (by
 unfold HF
 obtain⟨fD,dn,aN,h1⟩:=ak
 have aR:a2.toNat<a0.M.length:=by omega
 have hw:=ek aR
 obtain⟨mO,iK,sO⟩:=fD.aQ _ hw
 have nz:=dn.aA
 have GZ:tr J (nth a0.M a2).ah:=fun x hx=>by have:=(fD.ah _ hw).2.2 x hx;omega
 have RG:tr J (nth a0.M a2).bV:=fun x hx=>by have:=(fD.bV _ hw).2 x hx;omega
 refine⟨⟨aN,aR⟩,⟨by omega,by omega⟩,fun ap=>⟨c6 (cQ _),fun v aV=> ?_⟩⟩
 unfold HH HG
 have ag: ∀l:b5,decide (nth J.av l.br=⟨l.bJ,l.bJ⟩)=((nth J.av l.br).b1==l.bJ&&(nth J.av l.br).aQ==l.bJ):=fun l=>by
  rcases nth J.av l.br with⟨x,y⟩
  rw[Bool.eq_iff_iff];simp
 refine⟨fun hv=>⟨⟨GZ,fun _=>RG⟩,?_⟩,fun hv=>⟨⟨cq aV hv,?_,fun hb=> ?_⟩,fun hb=> ?_⟩⟩
 ·have ds:=jY (q:=fun l:b5=> !((nth J.av l.br).b1==l.bJ&&(nth J.av l.br).aQ==l.bJ)) (e_ aV hv)
  unfold fW
  have:(b_ (nth a0.M a2)).all (fun l=>decide (nth J.av l.br=⟨l.bJ,l.bJ⟩))=true:=by
   rw[List.all_eq_true]
   intro l aE
   rw[ag]
   simpa using ds l aE
  rw[this,Bool.true_and]
 ·have:=sO _ (ek (cq aV hv).2)
  have h2:=dn.av
  exact⟨this.1,by omega⟩
 ·unfold fW
  have:(b_ (nth a0.M a2)).all (fun l=>decide (nth J.av l.br=⟨l.bJ,l.bJ⟩))=false:=by
   rw[←Bool.not_eq_true,List.all_eq_true]
   intro aL
   have:=aL _ (ek (cq aV hv).2)
   rw[ag] at this
   rw[this] at hb;cases hb
  rw[this];rfl
 ·exact cX (c0 ap) aV hv (not_eq hb))
end Go.Proofs.Ytglpfccgmfhkdaa.Fw
