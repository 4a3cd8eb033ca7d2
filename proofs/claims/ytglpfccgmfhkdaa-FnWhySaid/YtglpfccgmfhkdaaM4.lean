/- The machine, part G: code, loops, functions. -/
import Derived.Test.YtglpfccgmfhkdaaM3
set_option linter.unusedVariables false
namespace Go.Proofs.Ytglpfccgmfhkdaa.Fw
open Go
theorem DR {dk:List Nat}: ∀(L:List (Nat×List AV)) (t:Nat),dk.contains t=true→eU (nU dk L) t=none
 | [],t,h=>rfl
 | (k,c)::L,t,h=>by
  unfold nU
  split
  ·exact DR L t h
  ·rename_i hk
   have:t≠k:=fun e=>by subst e;rw[h] at hk;cases hk
   simp only[eU,if_neg this];exact DR L t h
def Er:Bool→Bool→Bool
 | _,false=>true
 | a,true=>a
theorem K2 {a b:Bool} (h:Er a b=true):b=true→a=true:=fun e=>by subst e;exact h
def lh (a b:AV):Prop:=b=a∨b= .undef∨ ∃rows full fr nh,a= .bz rows full fr∧b= .bz rows false nh∧(nh=true→fr=true)
theorem lh.Pu {w:World} {PA PF:Nat→Prop} {rows:List (List AV)} {full fr nh:Bool} {v:Value} (aG: ∀c,PF c→PA c) (hf:nh=true→fr=true) (h:bF w PA PF (.bz rows full fr) v):bF w PA PF (.bz rows false nh) v:=by
 cases h with
 | bz gj gO hn cV fh d_=>
  refine .bz (fun c hc=> ?_) gO (fun h=>by cases h) cV fh d_
  have:=gj c hc
  cases nh with
  | true=>rw[hf rfl] at this;exact this
  | false=>
   cases fr with
   | true=>exact aG c this
   | false=>exact this
theorem lh.v1 {E:Env} {a b:AV} {v:Value} (aG: ∀c,E.PF c→E.PA c) (h:lh a b) (hv:cI E a v):cI E b v:=by
 rcases h with rfl | rfl | ⟨rows,full,fr,nh,rfl,rfl,hf⟩
 ·exact hv
 ·exact cI.undef _ _
 ·exact lh.Pu aG hf hv
theorem lh.m8 {E:Env} {a b:AV} {v:Value} (aG: ∀c,E.PF c→E.PA c) (h:lh a b) (hv:V3 E a v):V3 E b v:=by
 rcases h with rfl | rfl | ⟨rows,full,fr,nh,rfl,rfl,hf⟩
 ·exact hv
 ·exact V3.undef _ _
 ·exact lh.Pu aG hf hv
theorem lh.of {a b:AV} (h:b=a∨b= .undef):lh a b:=h.imp_right .inl
theorem Weak.acr [cH] {T T':List AV} {L:List (Nat×List AV)} {H:List Blk} (aL:T'.length=T.length) (h: ∀t,lh (T.getD t .undef) (T'.getD t .undef)):Weak ⟨T,L,H⟩ ⟨T',L,H⟩:=fun cw E tmps g s=>
 ⟨E,rfl,g,s.h,s.l,fun t=>(h t).m8 s.h.eW (s.iv t),by show T'.length=_;rw[aL];exact s.size⟩
theorem Weak.cells [cH] {T:List AV} {L L':List (Nat×List AV)} {H:List Blk} (b0: ∀t cells,eU L t=some cells→ ∃gY,eU L' t=some gY∧gY.length=cells.length∧ ∀(i:Nat) (a:AV),gY[i]?=some a→ ∃b,cells[i]?=some b∧lh b a):Weak ⟨T,L,H⟩ ⟨T,L',H⟩:=fun cw E tmps g s=>
 ⟨E,rfl,g,s.h,fun t c hm=>by
  obtain⟨cells,a7,ty,q1,q2,q3⟩:=s.l t c hm
  obtain⟨gY,fq,fV,fC⟩:=b0 t cells q1
  refine⟨gY,a7,ty,fq,q2,by rw[fV];exact q3.1,fun i a v a4 hv=> ?_⟩
  obtain⟨b,hb,q⟩:=fC i a a4
  exact q.v1 s.h.eW (q3.2 i b v hb hv),s.iv,s.size⟩
theorem afd [cH] {T T':List AV} {L L':List (Nat×List AV)} {H:List Blk} (aL:T'.length=T.length) (ct: ∀t,lh (T.getD t .undef) (T'.getD t .undef)) (dk:List Nat) (aG:T'.all (oU dk)=true)
  (b0: ∀t cells,dk.contains t=false→eU L t=some cells→ ∃gY,eU L' t=some gY∧gY.length=cells.length∧ ∀(i:Nat) (a:AV),gY[i]?=some a→ ∃b,cells[i]?=some b∧lh b a):Weak ⟨T,L,H⟩ ⟨T',L',H⟩:=by
 refine(Weak.acr aL ct).trans ((Weak.nU dk aG).trans (Weak.cells fun t cells h=> ?_))
 cases bp:dk.contains t with
 | true=>rw[DR L t bp] at h;cases h
 | false=>rw[AG L t bp] at h;exact b0 t cells bp h
theorem NX (l:List (Nat×TV)) (k:Nat) (d:TV):(∃v,(k,v)∈l∧fU l k d=v)∨fU l k d=d:=by
 induction l with
 | nil=>exact .inr rfl
 | cons p r bR=>
  obtain⟨a,w⟩:=p
  rw[gG]
  by_cases e:a=k
  ·subst e;exact .inl ⟨w,List.mem_cons_self ..,if_pos rfl⟩
  ·rw[if_neg e]
   rcases bR with⟨v,h1,h2⟩ | h
   ·exact .inl ⟨v,List.mem_cons_of_mem _ h1,h2⟩
   ·exact .inr h
theorem Ds (s:TS) (v:Nat): ∀(c m:Nat),(hQ s v c m).length=m
 | _,0=>rfl
 | c,m+1=>by rw[hQ,List.length_cons,Ds s v (c+1) m]
theorem Az (s:TS) (v:Nat): ∀(m c i:Nat),(cP (hQ s v c m))[i]?=if i<m then some (s.get (eD v (c+i))).bB else none
 | 0,c,i=>by simp[hQ,cP]
 | m+1,c,i=>by
  rw[hQ,cP]
  cases i with
  | zero=>simp
  | succ i=>
   rw[List.getElem?_cons_succ,Az s v m (c+1) i,show c+1+i=c+(i+1) by omega]
   by_cases h:i<m
   ·rw[if_pos h,if_pos (by omega)]
   ·rw[if_neg h,if_neg (by omega)]
theorem CH [FZ] (n:Nat) (s:TS):s.aI n=⟨(s.aI n).T,(s.aI n).L,(s.aI n).H⟩:=rfl
theorem Sy [cH] [FZ] {n:Nat} {s S:TS} (c_:il S=il s) (ct: ∀t,t<n→lh (s.get t).bB (S.get t).bB) (dk:List Nat) (aG:(S.aI n).T.all (oU dk)=true)
  (hv: ∀v m,dk.contains v=false→kL s.vs v=some m→kL S.vs v=some m∧ ∀c,lh (s.get (eD v c)).bB (S.get (eD v c)).bB)
  (hb:S.bn=s.bn) (ed: ∀b,b<s.bn→(S.get (bA b)).ep=(s.get (bA b)).ep):Weak (s.aI n) (S.aI n):=by
 have aR:(S.aI n).H=(s.aI n).H:=by
  show S.gn++g0 S=s.gn++g0 s
  have e2:g0 S=g0 s:=by unfold g0;rw[c_]
  rw[e2]
  congr 1
  apply List.ext_getElem?
  intro b
  rw[pX,pX,hb]
  by_cases h:b<s.bn
  ·rw[if_pos h,if_pos h,ed b h]
  ·rw[if_neg h,if_neg h]
 rw[CH n s,CH n S,aR]
 refine afd (by show((List.range n).map _).length=((List.range n).map _).length;simp) (fun t=> ?_) dk aG fun t cells bp h=> ?_
 ·rw[zV,zV]
  by_cases h:t<n
  ·rw[if_pos h,if_pos h];exact ct t h
  ·rw[if_neg h,if_neg h];exact .inl rfl
 ·rw[vh] at h
  cases hm:kL s.vs t with
  | none=>rw[hm] at h;cases h
  | some m=>
   rw[hm] at h
   cases h
   obtain⟨q1,q2⟩:=hv t m bp hm
   refine⟨cP (hQ S t 0 m),by rw[vh,q1];rfl,?_,fun i a a4=> ?_⟩
   ·show(cP _).length=(cP _).length
    rw[nP,nP,List.length_map,List.length_map,Ds,Ds]
   ·rw[Az] at a4 ⊢
    by_cases hi:i<m
    ·rw[if_pos hi] at a4 ⊢
     cases a4
     exact⟨_,rfl,q2 (0+i)⟩
    ·rw[if_neg hi] at a4;cases a4
theorem Z9 (l:List AV):l.all (oU [])=true:=by
 have aT: ∀a,uH [] a=true:=fun a=>by cases a<;>rfl
 have h1: ∀a,sZ [] a=true:=fun a=>by
  unfold sZ
  split
  ·exact List.all_eq_true.2 fun x _=>aT x
  ·exact aT _
 have h2: ∀a,s0 [] a=true:=fun a=>by
  unfold s0
  split
  ·exact List.all_eq_true.2 fun x _=>h1 x
  ·exact h1 _
 have aO: ∀a,oU [] a=true:=fun a=>by
  unfold oU
  split
  ·exact List.all_eq_true.2 fun x _=>h2 x
  ·exact h2 _
 exact List.all_eq_true.2 fun x _=>aO x
theorem Fits.le [FZ] {s S:TS} (h:s.gM S) (f:Fits s):Fits S:=f.congr fun k h1 h2=>(h.get k).resolve_right fun q=>by
 rcases q with q | q
 ·have:=q.1;omega
 ·have:=q.1;omega
theorem afe [cH] [FZ] {n:Nat} (aF:n≤1000000) {s S:TS} (h:s.gM S):Weak (s.aI n) (S.aI n):=by
 have JR: ∀k,¬k<1000000→S.get k=s.get k∨(1000010≤k∧Ju (s.get k) (S.get k)):=fun k hk=>(h.get k).imp_right fun q=>q.resolve_left fun q=>hk q.1
 have yy: ∀k,¬k<1000000→(S.get k).bB=(s.get k).bB∧(S.get k).ep=(s.get k).ep:=fun k hk=>by
  rcases JR k hk with e | ⟨_,g,c,c',bx,e2,dS⟩
  ·rw[e];exact⟨rfl,rfl⟩
  ·rw[bx,e2]
   refine⟨rfl,?_⟩
   show Blk.mk g c'.length [cP c']=Blk.mk g c.length [cP c]
   have aL:c'.length=c.length:=by have:=congrArg List.length dS;rwa [nP,nP,List.length_map,List.length_map] at this
   rw[dS,aL]
 have aN:S.get dH=s.get dH:=(JR dH (by unfold dH;omega)).resolve_right fun q=>by have:=q.1;unfold dH at this;omega
 refine Sy (B1 aN) (fun t bp=> ?_) [] (Z9 _) (fun v m _ hm=>⟨by rw[h.vs];exact hm,fun c=> .inl (yy _ (by unfold eD;omega)).1⟩) h.bn fun b _=>(yy _ (by unfold bA;omega)).2
 rcases h.get t with e | ⟨_,e⟩ | ⟨e,_⟩
 ·exact .inl (by rw[e])
 ·exact .of e
 ·omega
inductive lf:Type 1 where
 | nil
 | tL (a b:lf)
 | lp (lN:List (Nat×Nat×bH)) (fe:List Nat) (k2:List (Nat×Nat)) (ky:List bH) (rd:List Nat) (hD:c5 ky→List (Nat×TV)) (I:c5 ky→Prop) (m:c5 ky→Nat) (b:c5 ky→lf)
def lf.fst:lf→lf
 | .tL a _=>a
 | a=>a
def lf.snd:lf→lf
 | .tL _ b=>b
 | a=>a
def C_:(ky:List bH)→(c5 ky→aU)→aU
 | [],F=>F ()
 | e::r,F=> .all e.T fun x=>C_ r fun y=>F (x,y)
theorem JB {R:Exit→TS→Prop}: ∀{ky:List bH} {F:c5 ky→aU},(C_ ky F).den R→ ∀v,(F v).den R
 | [],F,h,()=>h
 | e::r,F,h,(x,y)=>JB (h x) y
def Hg:(e:bH)→TV→(e.T→aU)→aU
 | .int,v,K=>(match v with
  | .i _ m=>K m
  | _=> .no)
 | .u64,v,K=>(match v with
  | .i _ m=>K m
  | _=> .no)
 | .bool,v,K=>(match v with
  | .b x=>K x.den
  | _=> .no)
 | .str,v,K=>(match v with
  | .s x=>K x
  | _=> .no)
 | .nat,v,K=>(match v with
  | .blk g _ _ _ _=>K g
  | _=> .no)
 | .c9,v,K=>(match v with
  | .eG _ c=>K (bH.mk .c9 (oI bH.c9.kJ c))
  | _=> .no)
 | .l e,v,K=>(match v with
  | .l dW xs _ _=>if h:dW=e then K (lR h xs) else .no
  | .blk _ dW xs _ _=>if h:dW=e then K (lR h xs) else .no
  | .nil _ _=>K []
  | _=> .no)
 | _,_,_=> .no
def Cs (s:TS):(ky:List bH)→List Nat→(c5 ky→aU)→aU
 | [],_,K=>K ()
 | e::r,k::BO,K=>Hg e (s.get k) fun x=>Cs s r BO fun y=>K (x,y)
 | _,_,_=> .no
theorem abd {R:Exit→TS→Prop} {e:bH} {v:TV} {K:e.T→aU} (h:(Hg e v K).den R): ∃x,(K x).den R:=by
 cases e with
 | int=>
  have h:(match v with
   | .i _ m=>K m
   | _=>aU.no).den R:=h
  split at h
  ·exact⟨_,h⟩
  ·exact h.elim
 | u64=>
  have h:(match v with
   | .i _ m=>K m
   | _=>aU.no).den R:=h
  split at h
  ·exact⟨_,h⟩
  ·exact h.elim
 | bool=>
  have h:(match v with
   | .b x=>K x.den
   | _=>aU.no).den R:=h
  split at h
  ·exact⟨_,h⟩
  ·exact h.elim
 | str=>
  have h:(match v with
   | .s x=>K x
   | _=>aU.no).den R:=h
  split at h
  ·exact⟨_,h⟩
  ·exact h.elim
 | nat=>
  have h:(match v with
   | .blk g _ _ _ _=>K g
   | _=>aU.no).den R:=h
  split at h
  ·exact⟨_,h⟩
  ·exact h.elim
 | c9=>
  have h:(match v with
   | .eG _ c=>K (bH.mk .c9 (oI bH.c9.kJ c))
   | _=>aU.no).den R:=h
  split at h
  ·exact⟨_,h⟩
  ·exact h.elim
 | l e=>
  have h:(match v with
   | .l dW xs _ _=>if h:dW=e then K (lR h xs) else aU.no
   | .blk _ dW xs _ _=>if h:dW=e then K (lR h xs) else aU.no
   | .nil _ _=>K []
   | _=>aU.no).den R:=h
  split at h
  ·split at h
   ·exact⟨_,h⟩
   ·exact h.elim
  ·split at h
   ·exact⟨_,h⟩
   ·exact h.elim
  ·exact⟨_,h⟩
  ·exact h.elim
 | _=>exact h.elim
theorem Hh {R:Exit→TS→Prop} {s:TS}: ∀{ky:List bH} {BO:List Nat} {K:c5 ky→aU},(Cs s ky BO K).den R→ ∃v,(K v).den R
 | [],_,K,h=>⟨(),h⟩
 | e::r,k::BO,K,h=>by
  obtain⟨x,h⟩:=abd (show(Hg e (s.get k) _).den R from h)
  obtain⟨y,h⟩:=Hh h
  exact⟨(x,y),h⟩
 | e::r,[],K,h=>h.elim
def Dv (s:TS) (k:Nat) (w:TV) (t:aU):aU:=match w with
 | .ref b g m f=>(match s.get k with
  | .ref cl dG fz AY=>(match s.get (bA b) with
   | .blk _ _ xs N8 _=> .eq cl b (.eq AY f (.eq dG g (.eq fz N8 (.eq m xs.length t))))
   | _=> .no)
  | _=> .no)
 | .blk g e xs _ _=>(match s.get k with
  | .blk dG dW vu _ _=>if h:dW=e then .eq dG g (.eq (lR h vu) xs t) else .no
  | _=> .no)
 | .b y=>(match s.get k with
  | .b x=> .eq x.den y.den t
  | _=> .no)
 | .eG g c=>(match s.get k with
  | .eG dG c'=> .eq dG g (.eq (cP c') (cP c) (.eq c'.length c.length t))
  | _=> .no)
 | .l e xs eB fr=>(match eB with
  | true=> .eq (s.get k) (.l e xs true fr) t
  | false=>match s.get k with
   | .l dW vu _ nh=>if h:dW=e then .eq (Er nh fr) true (.eq (lR h vu) xs t) else .no
   | .nil _ nh=> .eq (Er nh fr) true (.eq [] xs t)
   | _=> .no)
 | w=> .eq (s.get k) w t
def BL:TV→Bool
 | .blk _ _ _ _ _=>true
 | .eG _ _=>true
 | .kt _ _ _=>true
 | _=>false
def Gc:TV→Bool
 | .gZ _ _ _ _=>true
 | .new _ _=>true
 | _=>false
theorem T5 [FZ] {R:Exit→TS→Prop} {s:TS} {k:Nat} {w:TV} {t:aU} (h:(Dv s k w t).den R):(lh (s.get k).bB w.bB∧(BL w=true→w.ep=(s.get k).ep)∧(Gc w=true→s.get k=w))∧t.den R:=by
 unfold Dv at h
 split at h
 ·split at h
  ·rename_i cl dG fz AY hk
   split at h
   ·rename_i bt hl xs N8 aL hb
    obtain⟨h1,h2,aO,bb,cb,cE⟩:=h
    subst h1;subst h2;subst aO;subst bb;subst cb
    refine⟨⟨.inl ?_,(fun q=>by cases q),fun q=>by cases q⟩,cE⟩
    rw[hk,aL]
   ·exact h.elim
  ·exact h.elim
 ·split at h
  ·rename_i dG dW vu fz qt hk
   split at h
   ·rename_i he
    subst he
    obtain⟨h1,h2,aO⟩:=h
    subst h1
    have h2:vu=_:=h2
    subst h2
    refine⟨⟨.inl ?_,fun _=> ?_,fun q=>by cases q⟩,aO⟩<;>rw[hk]<;>rfl
   ·exact h.elim
  ·exact h.elim
 ·split at h
  ·rename_i y _ x hk
   obtain⟨h1,h2⟩:=h
   refine⟨⟨.inl ?_,(fun q=>by cases q),fun q=>by cases q⟩,h2⟩
   rw[hk];show AV.bool y.den= .bool x.den;rw[h1]
  ·exact h.elim
 ·split at h
  ·rename_i dG c' hk
   obtain⟨h1,h2,aO,bb⟩:=h
   refine⟨⟨.inl (by rw[hk];rfl),fun _=> ?_,fun q=>by cases q⟩,bb⟩
   rw[hk]
   show(⟨_,_,_⟩:Blk)=⟨_,_,_⟩
   rw[h1,h2,aO]
  ·exact h.elim
 ·split at h
  ·obtain⟨h1,h2⟩:=h
   exact⟨⟨.inl (by rw[h1]),(fun _=>by rw[h1]),fun _=>h1⟩,h2⟩
  ·split at h
   ·rename_i dW vu VJ nh hk
    split at h
    ·rename_i he
     subst he
     obtain⟨h1,h2,aO⟩:=h
     have h2:vu=_:=h2
     subst h2
     exact⟨⟨.inr (.inr ⟨_,_,_,_,by rw[hk];rfl,rfl,K2 h1⟩),(fun q=>by cases q),fun q=>by cases q⟩,aO⟩
    ·exact h.elim
   ·rename_i VJ nh hk
    obtain⟨h1,h2,aO⟩:=h
    subst h2
    exact⟨⟨.inr (.inr ⟨[],_,_,_,by rw[hk];rfl,rfl,K2 h1⟩),(fun q=>by cases q),fun q=>by cases q⟩,aO⟩
   ·exact h.elim
 ·obtain⟨h1,h2⟩:=h
  exact⟨⟨.inl (by rw[h1]),(fun _=>by rw[h1]),fun _=>h1⟩,h2⟩
def Dw (s:TS):List (Nat×TV)→aU→aU
 | [],t=>t
 | (k,w)::r,t=>Dv s k w (Dw s r t)
theorem J9 [FZ] {R:Exit→TS→Prop} {s:TS} {t:aU}: ∀{l:List (Nat×TV)},(Dw s l t).den R→(∀k w,(k,w)∈l→lh (s.get k).bB w.bB∧(BL w=true→w.ep=(s.get k).ep)∧(Gc w=true→s.get k=w))∧t.den R
 | [],h=>⟨(fun k w h=>by cases h),h⟩
 | (k,w)::r,h=>by
  obtain⟨h1,h2⟩:=T5 h
  obtain⟨aO,bb⟩:=J9 h2
  refine⟨fun kH w' hm=> ?_,bb⟩
  rcases List.mem_cons.1 hm with e | hm
  ·cases e;exact h1
  ·exact aO kH w' hm
def CJ (vs:List (Nat×Nat)):List (Nat×Nat)→Bool
 | []=>true
 | (v,m)::r=>(match kL vs v with
  | some fz=>Nat.beq m fz
  | none=>false)&&CJ vs r
def Aj (s:TS):Nat→Bool
 | 0=>true
 | b+1=>BL (s.get (bA b))&&Aj s b
def vV (k2:List (Nat×Nat)):List (Nat×Nat)→List Nat
 | []=>[]
 | (v,_)::r=>match(kL k2 v).isSome with
  | true=>vV k2 r
  | false=>v::vV k2 r
def ET (s S:TS) (t:aU):aU:=
 .eq (CJ s.vs S.vs) true (.eq (Nat.beq S.bn s.bn) true (.eq (Aj S s.bn) true (.eq (S.T.all fun p=>oU (vV S.vs s.vs) p.2.bB) true (.eq (il S) (il s) (Dw s S.T t)))))
theorem Gu: ∀{l:List (Nat×Nat)} {v m:Nat},kL l v=some m→(v,m)∈l
 | [],_,_,h=>by cases h
 | (k,fz)::r,v,m,h=>by
  unfold kL at h
  split at h
  ·rename_i hk;cases h;rw[Nat.eq_of_beq_eq_true hk];exact List.mem_cons_self ..
  ·exact List.mem_cons_of_mem _ (Gu h)
theorem DS {k2:List (Nat×Nat)}: ∀{l:List (Nat×Nat)} {v m:Nat},(vV k2 l).contains v=false→(v,m)∈l→(kL k2 v).isSome=true
 | [],_,_,_,h=>by cases h
 | (k,fz)::r,v,m,bg,h=>by
  unfold vV at bg
  split at bg
  ·rename_i hk
   rcases List.mem_cons.1 h with e | h
   ·cases e;exact hk
   ·exact DS bg h
  ·rename_i hk
   simp only[List.contains_cons,Bool.or_eq_false_iff] at bg
   rcases List.mem_cons.1 h with e | h
   ·cases e;simp at bg
   ·exact DS bg.2 h
theorem Sf {vs:List (Nat×Nat)}: ∀{l:List (Nat×Nat)},CJ vs l=true→ ∀v m,(v,m)∈l→kL vs v=some m
 | [],_,_,_,h=>by cases h
 | (k,fz)::r,hs,v,m,h=>by
  simp only[CJ,Bool.and_eq_true] at hs
  rcases List.mem_cons.1 h with e | h
  ·cases e
   have h1:=hs.1
   split at h1
   ·rename_i bD hm;rw[hm,Nat.eq_of_beq_eq_true h1]
   ·cases h1
  ·exact Sf hs.2 v m h
theorem JA {s:TS}: ∀{n:Nat},Aj s n=true→ ∀b,b<n→BL (s.get (bA b))=true
 | 0,_,b,h=>by omega
 | n+1,hs,b,h=>by
  simp only[Aj,Bool.and_eq_true] at hs
  rcases Nat.lt_or_ge b n with q | q
  ·exact JA hs.2 b q
  ·have:b=n:=by omega
   subst this;exact hs.1
theorem Ly [cH] [FZ] {n:Nat} {s S:TS} {t:aU} {R:Exit→TS→Prop} (ed:S.B=[]) (aN:Fits s) (h:(ET s S t).den R):Weak (s.aI n) (S.aI n)∧Fits S∧t.den R:=by
 obtain⟨h1,h2,aO,bb,c_,cb⟩:=h
 obtain⟨cE,gF⟩:=J9 cb
 have wD:=Nat.eq_of_beq_eq_true h2
 have hd: ∀k,(∃v,(k,v)∈S.T∧S.get k=v)∨S.get k= .u:=fun k=>by
  unfold TS.get;rw[ed];exact NX ..
 have Lv: ∀k,lh (s.get k).bB (S.get k).bB:=fun k=>by
  rcases hd k with⟨v,hm,e⟩ | e
  ·rw[e];exact(cE k v hm).1
  ·rw[e];exact .inr (.inl rfl)
 have wJ: ∀k,Gc (S.get k)=true→s.get k=S.get k:=fun k hk=>by
  rcases hd k with⟨v,hm,e⟩ | e
  ·rw[e] at hk ⊢;exact(cE k v hm).2.2 hk
  ·rw[e] at hk;cases hk
 have Wl:Fits S:=fun V ids pJ h' mg=>by
  have e:=wJ dH (by rw[mg];rfl)
  obtain⟨q1,q2,q3⟩:=aN V ids pJ h' (by rw[e,mg])
  exact⟨q1,q2,fun id xs kB=>q3 id xs (by rw[wJ gb (by rw[kB];rfl),kB])⟩
 refine⟨Sy c_ (fun t _=>Lv t) (vV S.vs s.vs) ?_ (fun v m bg hm=> ?_) wD (fun b hb=> ?_),Wl,gF⟩
 ·rw[List.all_eq_true]
  intro a a4
  obtain⟨k,_,rfl⟩:=List.mem_map.1 (show a∈(List.range n).map fun t=>(S.get t).bB from a4)
  rcases hd k with⟨v,hm,e⟩ | e
  ·rw[e];exact List.all_eq_true.1 bb (k,v) hm
  ·rw[e];rfl
 ·have hs:=DS bg (Gu hm)
  cases aj:kL S.vs v with
  | none=>rw[aj] at hs;cases hs
  | some fz=>
   have:=Sf h1 v fz (Gu aj)
   rw[hm] at this
   cases this
   exact⟨rfl,fun c=>Lv _⟩
 ·have hi:=JA aO b hb
  rcases hd (bA b) with⟨v,hm,e⟩ | e
  ·rw[e] at hi ⊢;exact(cE _ v hm).2.1 hi
  ·rw[e] at hi;cases hi
def AW (s:TS):Nat→Nat→List (Nat×TV)
 | _,0=>[]
 | b,k+1=>(bA b,s.get (bA b))::AW s (b+1) k
def mG (s S:TS):TS:=⟨S.T++AW s S.bn (s.bn - S.bn),[],S.vs,s.bn⟩
def O8 (n:Nat):TV→Bool
 | .eG _ c=>(cP c).all (pU n)
 | .kt _ _ _=>false
 | _=>true
def Kf (j0:Option Nat) (S:TS) (m:Nat):Bool:=match j0 with
 | some k=>Nat.ble k S.bn&&Nat.ble S.bn m&&il S&&S.T.all fun p=>xr S.bn p.2.bB&&O8 S.bn p.2
 | none=>false
def toHead (j0:Option Nat) (s S:TS) (t:aU):aU:=match Nat.beq S.bn s.bn with
 | true=>ET s S t
 | false=>ET s (mG s S) (.eq (mG s S).cs S.cs (.eq (Kf j0 S s.bn) true t))
theorem KJ (s:TS): ∀(k b:Nat) (j:Nat),(j<bA b)→ ∀v,(j,v) ∉ AW s b k
 | 0,b,j,h,v,hm=>by cases hm
 | k+1,b,j,h,v,hm=>by
  rcases List.mem_cons.1 hm with e | hm
  ·cases e;exact absurd h (Nat.lt_irrefl _)
  ·exact KJ s k (b+1) j (by unfold bA at h ⊢;omega) v hm
theorem afj {s S:TS} (ed:S.B=[]) {j:Nat} (h:j<bA S.bn):(mG s S).get j=S.get j:=by
 show fU (S.T++AW s S.bn (s.bn - S.bn)) j (fU [] j .u)=fU S.T j (fU S.B j .u)
 rw[r1,ed,sY (KJ s _ _ j h)]
theorem UG {n:Nat} (fr:Bool) (e:bH) (x:e.T):(b8 fr e x).all (pU n)=true:=by cases e<;>rfl
theorem abo {n:Nat} {a:AV} (h:xr n a=true):pU n a=true:=by cases a<;>first | exact h | rfl
theorem toHead_sound [iK:cH] [FZ] {n:Nat} (aF:n≤1000000) {j0:Option Nat} (gk: ∀k,j0=some k→iK.n≤k) {s S:TS} {t:aU} {R:Exit→TS→Prop} (ed:S.B=[]) (aN:Fits s) (h:(toHead j0 s S t).den R):Weak (s.aI n) (S.aI n)∧Fits S∧t.den R:=by
 unfold toHead at h
 split at h
 ·exact Ly ed aN h
 ·obtain⟨w,hf,iO,h1,h2⟩:=Ly (n:=n) (S:=mG s S) rfl aN h
  unfold Kf at h1
  split at h1
  ·rename_i k
   simp only[Bool.and_eq_true] at h1
   obtain⟨⟨⟨q1,q2⟩,q3⟩,q4⟩:=h1
   have q1:=Nat.le_of_ble_eq_true q1
   have q2:=Nat.le_of_ble_eq_true q2
   have hg: ∀j,j<bA S.bn→(mG s S).get j=S.get j:=fun j h=>afj ed h
   have Bm: ∀b,b<S.bn→bA b<bA S.bn:=fun b h=>by unfold bA;omega
   have XQ:dH<bA S.bn:=by unfold dH bA;omega
   have W8:il (mG s S)=true:=by rw[B1 (hg dH XQ)];exact q3
   have eT:(mG s S).tT n=S.tT n:=List.map_congr_left fun t bp=>by rw[hg t (by have:=List.mem_range.1 bp;unfold bA;omega)]
   have hd: ∀k,(∃v,(k,v)∈S.T∧S.get k=v)∨S.get k= .u:=fun k=>by
    unfold TS.get;rw[ed];exact NX ..
   have Fb: ∀k,xr S.bn (S.get k).bB=true∧O8 S.bn (S.get k)=true:=fun k=>by
    rcases hd k with⟨v,hm,e⟩ | e
    ·have:=List.all_eq_true.1 q4 _ hm
     rw[Bool.and_eq_true] at this
     rw[e];exact this
    ·rw[e];exact⟨rfl,rfl⟩
   have aR: ∀b,((mG s S).aI n).H[b]?=if b<s.bn then some ((mG s S).get (bA b)).ep else none:=fun b=>by
    show((mG s S).gn++g0 (mG s S))[b]?=_
    have:g0 (mG s S)=[]:=by unfold g0;rw[W8]
    rw[this,List.append_nil,pX];rfl
   have Ki:=Weak.cut (T:=S.tT n) (L:=S.cs) (H:=((mG s S).aI n).H) S.bn (Nat.le_trans (gk k rfl) q1) (fun t=> ?_) (fun t cells hc=> ?_) (fun b blk hb yy row aJ=> ?_)
   ·have bx:(mG s S).aI n=⟨S.tT n,S.cs,((mG s S).aI n).H⟩:=by rw[←eT,←iO];rfl
    have e2:(⟨S.tT n,S.cs,((mG s S).aI n).H.take S.bn⟩:St)=S.aI n:=by
     show _=(⟨S.tT n,S.cs,S.gn++g0 S⟩:St)
     have:g0 S=[]:=by unfold g0;rw[q3]
     rw[this,List.append_nil]
     congr 1
     apply List.ext_getElem?
     intro b
     rw[List.getElem?_take,aR,pX]
     by_cases hb:b<S.bn
     ·rw[if_pos hb,if_pos (by omega),if_pos hb,hg _ (Bm b hb)]
     ·rw[if_neg hb,if_neg hb]
    rw[bx] at w
    rw[e2] at Ki
    exact⟨w.trans Ki,hf.congr fun k h1 h2=>(hg k (by unfold bA;omega)).symm,h2⟩
   ·have:=zV (n:=n) (s:=S) t
    have this:(S.tT n).getD t .undef=_:=this
    rw[this]
    split
    ·exact(Fb t).1
    ·rfl
   ·have:=vh (n:=n) (s:=S) t
    have this:eU S.cs t=_:=this
    rw[this] at hc
    cases hm:kL S.vs t with
    | none=>rw[hm] at hc;cases hc
    | some m=>
     rw[hm] at hc
     cases hc
     rw[List.all_eq_true]
     intro a a4
     obtain⟨i,hi⟩:=List.mem_iff_getElem?.1 a4
     rw[Az] at hi
     split at hi
     ·cases hi;exact abo (Fb _).1
     ·cases hi
   ·rw[aR,if_pos (by omega),hg _ (Bm b hb)] at yy
    cases yy
    have aj:=(Fb (bA b)).2
    revert aJ aj
    cases S.get (bA b) with
    | blk g e xs m h=>
     intro aJ _
     obtain⟨x,_,rfl⟩:=List.mem_map.1 (show row∈xs.map (b8 true e) from aJ)
     exact UG true e x
    | eG g c=>
     intro aJ aj
     rw[List.mem_singleton.1 (show row∈[cP c] from aJ)];exact aj
    | kt g m ids=>intro _ aj;cases aj
    | _=>intro aJ _;cases aJ
  ·cases h1
def vF (n:Nat):List (Nat×Nat×bH)→TS→(TS→aU)→aU
 | [],s,K=>K s
 | p::r,s,K=>
  let s1:=s.gN s.bn (s.bn+1) (.blk 0 p.2.2 [] 0 rfl)
  match p.1 with
  | 0=> .eq (rX (cN n s (.tmp p.2.1)).bB) true (.eq s1.cs s.cs (.eq (il s) true (vF n r (ko n s1 (some p.2.1) (.ref s.bn 0 0 false)) K)))
  | v+1=>
   let s2:=s1.add [(eD v p.2.1,.ref s.bn 0 0 false)] s1.vs s1.bn
   match kL s.vs v with
   | some m=> .eq (rX ((cP (hQ s v 0 m)).getD p.2.1 .undef)) true (.eq s2.cs (k_ s.cs v ((cP (hQ s v 0 m)).set p.2.1 (.ref s.bn 0 0 0 false))) (.eq (pf [(eD v p.2.1,.ref s.bn 0 0 false)]) true (.eq (il s) true (vF n r s2 K))))
   | none=> .no
theorem Ai [cH] [FZ] {n:Nat} (aF:n≤1000000) {R:Exit→TS→Prop} {K:TS→aU}: ∀{l:List (Nat×Nat×bH)} {s:TS},Fits s→(vF n l s K).den R→ ∃s',Weak (s.aI n) (s'.aI n)∧Fits s'∧(K s').den R
 | [],s,aN,h=>⟨s,.refl _,aN,h⟩
 | (p,q,e)::r,s,aN,h=>by
  unfold vF at h
  simp only at h
  split at h
  ·obtain⟨h1,h2,c_,h⟩:=h
   obtain⟨s',w,hf,h⟩:=Ai aF (zr aF (qd aN)) h
   refine⟨s',Weak.trans ?_ w,hf,h⟩
   have ct:(cN n s (.tmp q)).bB=(s.aI n).T.getD q .undef:=(congrFun (k3 n s) (.tmp q)).symm
   rw[ct] at h1
   have:=Weak.S7 q e.l1 (L:=(s.aI n).L) (H:=(s.aI n).H) h1
   rw[zs aF]
   show Weak _ ⟨putA ((s.gN s.bn (s.bn+1) _).tT n) _ _,(s.gN s.bn (s.bn+1) _).cs,((s.gN s.bn (s.bn+1) _).aI n).H⟩
   rw[qc aF,h2,Au c_]
   rw[CI c_] at this
   exact this
  ·rename_i v
   split at h
   ·rename_i m hm
    obtain⟨h1,h2,ed,c_,h⟩:=h
    obtain⟨s',w,hf,h⟩:=Ai aF (x1 ed (qd aN)) h
    refine⟨s',Weak.trans ?_ w,hf,h⟩
    have:=Weak.vG v q e.l1 (T:=(s.aI n).T) (H:=(s.aI n).H) (show eU (s.aI n).L v=some (cP (hQ s v 0 m)) by rw[vh,hm];rfl) h1
    rw[CI c_] at this
    show Weak _ ⟨(TS.add _ _ _ _).tT n,(TS.add _ _ _ _).cs,((TS.add _ _ _ _).aI n).H⟩
    rw[h2,x0 aF ed,qc aF]
    have dS:=xZ (n:=n) (s:=s.gN s.bn (s.bn+1) (.blk 0 e [] 0 rfl)) (vs:=(s.gN s.bn (s.bn+1) (.blk 0 e [] 0 rfl)).vs) ed
    rw[dS,Au c_]
    exact this
   ·exact h.elim
theorem UF {e:bH} (h:e.oW=true) (x:e.T): ∀a∈b8 true e x,jv a=true∧nX a=true:=by
 have key:(b8 true e x).all (fun a=>jv a&&nX a)=true:=by cases e<;>first | rfl | cases h
 intro a a4
 have:=List.all_eq_true.1 key a a4
 rwa [Bool.and_eq_true] at this
theorem ae8 (e:bH) (x:e.T):(b8 true e x).map kq=b8 false e x:=by
 rw[←qk,←qk]
 have key: ∀(es:List bH) (y:c5 es),(lU true es y).map kq=lU false es y:=by
  intro es
  induction es with
  | nil=>intro y;rfl
  | cons e r bR=>
   intro y
   show kq (oH true e y.1)::(lU true r y.2).map kq=_
   rw[bR,lU]
   congr 1
   cases e<;>rfl
 exact key _ _
def yj (j0:Option Nat) (n:Nat):List (Nat×Nat)→TS→(TS→aU)→aU
 | [],s,K=>K s
 | p::r,s,K=>match s.get (match p.1 with
   | 0=>p.2
   | v+1=>eD v p.2) with
  | .ref b g m _=>(match j0 with
   | some k=>(match Nat.ble k b with
    | true=>rl s b g fun e xs fz h=>
     let s1:=s.gN b s.bn (.blk (g+1) e [] 0 rfl)
     match p.1 with
     | 0=> .eq (Nat.blt p.2 n) true (.eq fz m (.eq e.oW true (.eq s1.cs s.cs (.p (xs.length≤4611686018427387904) (yj j0 n r (ko n s1 (some p.2) (.l e xs false true)) K)))))
     | v+1=>
      let s2:=s1.add [(eD v p.2,.l e xs false true)] s1.vs s1.bn
      match kL s.vs v with
      | some hH=> .eq (Nat.blt p.2 hH&&pf [(eD v p.2,TV.l e xs false true)]) true (.eq fz m (.eq e.oW true (.eq s2.cs (k_ s.cs v ((cP (hQ s v 0 hH)).set p.2 (TV.l e xs false true).bB)) (.p (xs.length≤4611686018427387904) (yj j0 n r s2 K)))))
      | none=> .no
    | false=> .no)
   | none=> .no)
  | _=> .no
theorem Et [iK:cH] [FZ] {n:Nat} (aF:n≤1000000) {j0:Option Nat} (gk: ∀k,j0=some k→iK.n≤k) {R:Exit→TS→Prop} {K:TS→aU}: ∀{l:List (Nat×Nat)} {s:TS},Fits s→(yj j0 n l s K).den R→ ∃s',Weak (s.aI n) (s'.aI n)∧Fits s'∧(K s').den R
 | [],s,aN,h=>⟨s,.refl _,aN,h⟩
 | (p,q)::r,s,aN,h=>by
  unfold yj at h
  simp only at h
  split at h
  ·rename_i b g m eB pA
   split at h
   ·rename_i k
    split at h
    ·rename_i Bm
     have Lr:=Nat.le_trans (gk k rfl) (Nat.le_of_ble_eq_true Bm)
     obtain⟨e,xs,fz,hm,h,hb,aR⟩:=vK (n:=n) h
     have gu: ∀row∈xs.map (b8 true e),e.oW=true→ ∀a∈row,jv a=true∧nX a=true:=fun row aJ aC a a4=>by
      obtain⟨x,_,rfl⟩:=List.mem_map.1 aJ
      exact UF aC x a a4
     have qx:(xs.map (b8 true e)).map (fun row=>row.map kq)=xs.map (b8 false e):=by
      rw[List.map_map];exact List.map_congr_left fun x _=>ae8 e x
     cases p with
     | zero=>
      obtain⟨aT,h1,h2,aO,bb,h⟩:=h
      replace pA:s.get q= .ref b g m eB:=pA
      obtain⟨s',w,hf,h⟩:=Et aF gk (zr aF (qd aN)) h
      refine⟨s',Weak.trans ?_ w,hf,h⟩
      have aj:q<n:=by rw[Nat.blt_eq] at aT;exact aT
      have ct:(s.aI n).T.getD q .undef= .ref b g 0 m eB:=by
       rw[zV,if_pos aj,pA];rfl
      have:=Weak.VI q (L:=(s.aI n).L) ct (by rw[List.length_map,←h1];exact hm.symm) aR Lr (fun row aJ a a4=>gu row aJ h2 a a4) (by rw[List.length_map];exact bb)
      rw[qx] at this
      rw[zs aF]
      show Weak _ ⟨putA ((s.gN b s.bn _).tT n) _ _,(s.gN b s.bn _).cs,((s.gN b s.bn _).aI n).H⟩
      rw[qc aF,aO,tK hb]
      exact this
     | succ v=>
      replace pA:s.get (eD v q)= .ref b g m eB:=pA
      simp only at h
      split at h
      ·rename_i hH rM
       obtain⟨aT,h1,h2,aO,bb,h⟩:=h
       rw[Bool.and_eq_true,Nat.blt_eq] at aT
       obtain⟨s',w,hf,h⟩:=Et aF gk (x1 aT.2 (qd aN)) h
       refine⟨s',Weak.trans ?_ w,hf,h⟩
       have hc:eU (s.aI n).L v=some (cP (hQ s v 0 hH)):=by rw[vh,rM];rfl
       have ct:(cP (hQ s v 0 hH)).getD q .undef= .ref b g 0 m eB:=by
        rw[List.getD_eq_getElem?_getD,Az,if_pos aT.1,Nat.zero_add,pA];rfl
       have:=Weak.VH v q (T:=(s.aI n).T) hc ct (by rw[List.length_map,←h1];exact hm.symm) aR Lr (fun row aJ a a4=>gu row aJ h2 a a4) (by rw[List.length_map];exact bb)
       rw[qx] at this
       show Weak _ ⟨(TS.add _ _ _ _).tT n,(TS.add _ _ _ _).cs,((TS.add _ _ _ _).aI n).H⟩
       have dS:=xZ (n:=n) (s:=s.gN b s.bn (.blk (g+1) e [] 0 rfl)) (vs:=(s.gN b s.bn (.blk (g+1) e [] 0 rfl)).vs) aT.2
       rw[aO,x0 aF aT.2,qc aF,dS,tK hb]
       exact this
      ·exact h.elim
    ·exact h.elim
   ·exact h.elim
  ·exact h.elim
def Ns (k:Nat):List (Nat×TV)→Bool
 | []=>false
 | p::r=>match Nat.beq p.1 k with
  | true=>true
  | false=>Ns k r
def Gi (s:TS) (hD:List (Nat×TV)):List Nat→List (Nat×TV)
 | []=>[]
 | k::r=>match Ns k hD with
  | true=>Gi s hD r
  | false=>(k,s.get k)::Gi s hD r
def Sw (v:Nat):Nat→Nat→List Nat
 | _,0=>[]
 | c,m+1=>eD v c::Sw v (c+1) m
def NC:List (Nat×Nat)→List Nat
 | []=>[]
 | p::r=>Sw p.1 0 p.2++NC r
def JY:Nat→List Nat
 | 0=>[]
 | b+1=>bA b::JY b
def e8 (fe:List Nat) (k2:List (Nat×Nat)) (k:Nat) (I:Int→Prop) (m:Int→Nat) (b:Int→lf):lf:= .lp [] fe k2 [.int] [k] (fun v=>[(k,.i .i64 v.1)]) (fun v=>I v.1) (fun v=>m v.1) fun v=>b v.1
def aU.AX:aU→Bool
 | .kI ex _=>(match ex with
  | .normal=>false
  | _=>true)
 | .ht | .no | .all _ _=>false
 | .p _ t | .jW _ t | .eq _ _ t=>t.AX
 | .iQ _ _ x y | .two x y | .hG x _ _ y=>(match x.AX with
  | true=>true
  | false=>y.AX)
def tY:Code→Bool
 | .loop _=>true
 | .seq x y=>tY x || tY y
 | .cond _ x y=>tY x || tY y
 | .block _ x=>tY x
 | .scope x=>tY x
 | _=>false
def D5 (jG:List (List (Nat×TV)×List (Nat×TV))) (t:aU):aU:=match jG with
 | []=>t
 | p::r=> .eq p.1 p.2 (D5 r t)
theorem Kv {R:Exit→TS→Prop} {t:aU}: ∀{jG:List (List (Nat×TV)×List (Nat×TV))},(D5 jG t).den R→(∀p∈jG,p.1=p.2)∧t.den R
 | [],h=>⟨(fun p h=>by cases h),h⟩
 | p::r,h=>by
  obtain⟨h1,h2⟩:=h
  obtain⟨aO,bb⟩:=Kv h2
  exact⟨fun q aj=>by
   rcases List.mem_cons.1 aj with rfl | aj
   ·exact h1
   ·exact aO q aj,bb⟩
structure vA (P:Program) where
 len:List Nat
 Un:List (Nat×List Item×List (List Nat))
 o5:List (sm P)
 CQ:List (lg P)
 O0:List (Nat×List (Nat×Nat)×List (Nat×Nat×bH))
def BU:List (Nat×List Item×List (List Nat))→Nat→(List Item→List (List Nat)→aU)→aU
 | [],_,_=> .no
 | p::r,id,K=>match Nat.beq p.1 id with
  | true=>K p.2.1 p.2.2
  | false=>BU r id K
def Gt:List (Nat×List (Nat×Nat)×List (Nat×Nat×bH))→Nat→List (Nat×Nat)×List (Nat×Nat×bH)
 | [],_=>([],[])
 | p::r,id=>match Nat.beq p.1 id with
  | true=>p.2
  | false=>Gt r id
section
variable {P:Program} (cf:g_ P) (ey:vA P) (j0:Option Nat)
def yA (s:TS) (fe:List Nat) (k2:List (Nat×Nat)) (hD:List (Nat×TV)):TS:=⟨hD++Gi s hD (fe++(NC k2++(dH::JY s.bn))),[],k2,s.bn⟩
def j8:Code→TS→lf→(Exit→TS→lf→aU)→aU
 | .skip,s,a,K=>K .normal s a
 | .ret,s,a,K=>K .ret s a
 | .exit id,s,a,K=>K (.exit id) s a
 | .region id ops draw,s,a,K=>yj j0 cf.n (Gt ey.O0 id).1 s fun s=>vF cf.n (Gt ey.O0 id).2 s fun s=>(match draw with
  | false=>Cx cf ⟨ey.len,ey.o5,ey.CQ⟩ ops ops.toList s fun s=>K .normal s a
  | true=>BU ey.Un id fun ord j9=>DP cf ⟨ey.len,ey.o5,ey.CQ⟩ ops ord j9 s fun s=>K .normal s a)
 | .seq x y,s,a,K=>(match tY x with
  | true=>j8 x s a fun ex s a=>match ex with
   | .normal=>j8 y s a K
   | ex=>K ex s a
  | false=>match(j8 x s a fun ex s _=> .kI ex s).mV with
   | .some S jG=>D5 jG (.hG ((j8 x s a fun ex s _=> .kI ex s).bind fun ex s=>match ex with
    | .normal=> .ht
    | ex=>K ex s a.fst) (j8 x s a fun ex s _=> .kI ex s).facts (j8 x s a fun ex s _=> .kI ex s).ll (j8 y S (match(j8 x s a fun ex s _=> .kI ex s).AX with
    | true=>a.snd
    | false=>a) K))
   | _=>j8 x s a fun ex s a=>match ex with
    | .normal=>j8 y s a K
    | ex=>K ex s a)
 | .cond c x y,s,a,K=>(match cN cf.n s c with
  | .b z=>CE z s fun b s=>match b with
   | true=>j8 x s a.fst K
   | false=>j8 y s a.snd K
  | _=> .no)
 | .block id c,s,a,K=>j8 c s a fun ex s a=>match ex with
  | .exit gv=>(match Nat.beq gv id with
   | true=>K .normal s a
   | false=>K (.exit gv) s a)
  | ex=>K ex s a
 | .loop c,s,a,K=>(match a with
  | .lp lN fe k2 ky rd hD I m b=>vF cf.n lN s fun s=>Cs s ky rd fun h5=>toHead j0 s (yA s fe k2 (hD h5)) (.p (I h5) (C_ ky fun v=> .jW (I v) (j8 c (yA s fe k2 (hD v)) (b v) fun ex s' a=>match ex with
   | .normal=>Cs s' ky rd fun e4=>toHead j0 s' (yA s fe k2 (hD e4)) (.p (I e4∧m e4<m v) .ht)
   | ex=>K ex s' a)))
  | _=> .no)
 | _,_,_,_=> .no
end
section
variable {P:Program} {cf:g_ P} {ey:vA P}
theorem Z3 {R:Exit→TS→Prop} {l:List (Nat×List Item×List (List Nat))} {id:Nat} {K:List Item→List (List Nat)→aU} (h:(BU l id K).den R): ∃o A,(K o A).den R:=by
 induction l with
 | nil=>exact h.elim
 | cons p r bR=>
  unfold BU at h
  split at h
  ·exact⟨_,_,h⟩
  ·exact bR h
theorem Uo [cH] (aF:cf.n≤1000000) {ey:p3 P} {R:Exit→TS→Prop} {ops:Array Oper} {ord:List Item} {j9:List (List Nat)} {s:TS} {K:TS→aU} {Q:Exit→St→Prop} {id:Nat} (hK: ∀s (Z:FZ),(K s).den R→ @Fits Z s→Q .normal (@TS.aI Z cf.n s)) (Z:FZ) (aN:Fits s) (h:(DP cf ey ops ord j9 s K).den R):WpS P (.region id ops true) Q (s.aI cf.n):=by
 unfold DP at h
 simp only at h
 split at h
 ·exact h.elim
 ·rename_i hb
  obtain⟨h1,h2,aO,bb,cb,gF,n0,h⟩:=h
  rw[CH]
  refine WpS.Pf (esc:=[]) ord j9 h1 h2 aO rfl _ gF n0 ?_
  have:=Pl aF (Kp:=fun T L H=>Q .normal ⟨T,L,H⟩) (fun s Z hs hf=>hK s Z hs hf) ord Z _ (x1 hb aN) bb h
  rw[cb,xZ hb,x0 aF hb] at this
  exact this
theorem Sz [iK:cH] (aF:cf.n≤1000000) {j0:Option Nat} (gk: ∀k,j0=some k→iK.n≤k): ∀(c:Code) {R:Exit→TS→Prop} {s:TS} {a:lf} {K:Exit→TS→lf→aU} {Q:Exit→St→Prop},(∀ex s a (Z:FZ),(K ex s a).den R→ @Fits Z s→Q ex (@TS.aI Z cf.n s))→ ∀Z:FZ,@Fits Z s→(j8 cf ey j0 c s a K).den R→WpS P c Q (@TS.aI Z cf.n s):=by
 intro c
 induction c with
 | skip=>intro R s a K Q hK Z aN h;exact WpS.skip (hK _ _ _ Z h aN)
 | ret=>intro R s a K Q hK Z aN h;exact WpS.ret (hK _ _ _ Z h aN)
 | exit id=>intro R s a K Q hK Z aN h;exact WpS.exit (hK _ _ _ Z h aN)
 | region id ops draw=>
  intro R s a K Q hK Z aN h
  obtain⟨s1,bN,uv,h⟩:=Et aF gk aN h
  obtain⟨s2,cc,uw,h⟩:=Ai aF uv h
  refine WpS.mF ?_ (bN.trans cc)
  cases draw with
  | false=>
   rw[CH]
   refine WpS.Pg (esc:=[]) rfl ?_
   exact Hn aF (Kp:=fun T L H=>Q .normal ⟨T,L,H⟩) (fun s Z hs hf=>hK _ s _ Z hs hf) ops.toList Z s2 uw h
  | true=>
   obtain⟨ord,j9,h⟩:=Z3 h
   exact Uo aF (fun s Z hs hf=>hK _ s _ Z hs hf) Z uw h
 | cond c x y hU hF=>
  intro R s a K Q hK Z aN h
  unfold j8 at h
  split at h
  ·rename_i z qB
   obtain⟨s',bx,e2,h⟩:=IQ (n:=cf.n) h
   have hf:=aN.congr fun k _ _=>e2 k
   rw[←bx]
   have hc:cr (s'.aI cf.n).T c= .bool z.den:=by
    rw[bx,congrFun (k3 cf.n s) c]
    show(cN cf.n s c).bB=_
    rw[qB];rfl
   refine WpS.cond ?_
   rw[hc]
   refine⟨fun hb=> ?_,fun hb=> ?_⟩
   ·rw[hb] at h;exact hU hK Z hf h
   ·rw[hb] at h;exact hF hK Z hf h
  ·exact h.elim
 | block id c bR=>
  intro R s a K Q hK Z aN h
  refine WpS.block (bR (K:=fun ex s a=>match ex with
   | .exit gv=>(match Nat.beq gv id with
    | true=>K .normal s a
    | false=>K (.exit gv) s a)
   | ex=>K ex s a) (fun ex s a Z hs hf=> ?_) Z aN h)
  cases ex with
  | exit gv=>
   show if gv=id then _ else _
   have hs:(match Nat.beq gv id with
    | true=>K .normal s a
    | false=>K (.exit gv) s a).den R:=hs
   split at hs
   ·rename_i hb;rw[if_pos (Nat.eq_of_beq_eq_true hb)];exact hK _ _ _ Z hs hf
   ·rename_i hb
    rw[if_neg fun e=>by subst e;rw[Nat.beq_refl] at hb;cases hb];exact hK _ _ _ Z hs hf
  | _=>exact hK _ _ _ Z hs hf
 | seq x y Me Mf=>
  intro R s a K Q hK Z aN h
  have Ke:(j8 cf ey j0 x s a fun ex s a=>match ex with
   | .normal=>j8 cf ey j0 y s a K
   | ex=>K ex s a).den R→WpS P (.seq x y) Q (s.aI cf.n):=fun h=>by
   refine WpS.seq (Me (fun ex s a Z hs hf=> ?_) Z aN h)
   cases ex with
   | normal=>exact Mf hK Z hf hs
   | _=>exact hK _ _ _ Z hs hf
  unfold j8 at h
  split at h
  ·exact Ke h
  ·split at h
   ·rename_i S jG hm
    obtain⟨aj,h⟩:=Kv h
    obtain⟨h1,h2⟩:=h
    rw[aU.Tu] at h1
    have aO:=aU.aae hm aj h1
    refine WpS.seq (Me (K:=fun ex s _=> .kI ex s) (fun ex s' ih Z hs hf=> ?_) Z aN aO)
    have hs:_∧(ex= .normal→s'.gM S∧_∧_):=hs
    cases ex with
    | normal=>
     obtain⟨q1,q2,q3⟩:=hs.2 rfl
     exact WpS.mF (Mf hK Z (hf.le q1) (h2 (UU q3 q2))) (afe aF q1)
    | _=>exact hK _ _ _ Z hs.1 hf
   ·exact Ke h
 | loop c bR=>
  intro R s a K Q hK Z aN h
  unfold j8 at h
  split at h
  ·rename_i lN fe k2 ky rd hD I m b
   obtain⟨s1,bN,uv,h⟩:=Ai aF aN h
   obtain⟨h5,h⟩:=Hh h
   obtain⟨cc,uw,h⟩:=toHead_sound (n:=cf.n) aF gk rfl uv h
   obtain⟨aT,h⟩:=h
   have hv:=JB h
   refine WpS.NZ (V:=c5 ky×FZ) (fun v=> @TS.aI v.2 cf.n (yA s1 fe k2 (hD v.1))) (fun v=>I v.1∧ @Fits v.2 (yA s1 fe k2 (hD v.1))) (fun v=>m v.1) rfl (h5,Z) (bN.trans cc) ⟨aT,uw⟩ fun v aX=> ?_
   refine bR (fun ex s' a Z' hs hf=> ?_) v.2 aX.2 (hv v.1 aX.1)
   cases ex with
   | normal=>
    obtain⟨e4,hs⟩:=Hh hs
    obtain⟨eQ,Bg,hs⟩:=toHead_sound (n:=cf.n) aF gk rfl hf hs
    exact⟨(e4,Z'),⟨hs.1.1,Bg⟩,hs.1.2,eQ⟩
   | _=>exact hK _ _ _ Z' hs hf
  ·exact h.elim
 | _=>intro R s a K Q hK Z aN h;exact h.elim
end
def uS:(e:bH)→e.T→TV
 | .ptr e,x=> .dv e x 0
 | .ii f .unit,_=> .fn f []
 | .ii f e,x=> .fn f [uS e x]
 | e,x=>match e.isS with
  | true=> .agg (gE false e x)
  | false=>z1 false e x
theorem Ox: ∀(e:bH) (x:e.T),(uS e x).bB=nV e x:=by
 have bC: ∀(e:bH) (x:e.T),(match e.isS with
  | true=>TV.agg (gE false e x)
  | false=>z1 false e x).bB=match e.isS with
  | true=> .agg (b8 false e x)
  | false=>oH false e x:=fun e x=>by
  cases e.isS with
  | true=>show AV.agg (cP _)=_;rw[vR]
  | false=>exact Jb false e x
 intro e
 induction e with
 | ii f e bR=>
  intro x
  have key:uS (.ii f e) x= .fn f [uS e x]→nV (.ii f e) x= .fn f [nV e x]→(uS (.ii f e) x).bB=nV (.ii f e) x:=fun h1 h2=>by
   rw[h1,h2,←bR x];rfl
  cases e with
  | unit=>rfl
  | _=>exact key rfl rfl
 | ptr e bR=>intro x;rfl
 | _=>intro x;exact bC _ x
def uT:Nat→(es:List bH)→c5 es→List (Nat×TV)
 | _,[],_=>[]
 | i,e::r,x=>(i,uS e x.1)::uT (i+1) r x.2
def pG (ps:List bH) (x:c5 ps):TS:=⟨uT 0 ps x,[],[],0⟩
theorem Oy: ∀(es:List bH) (x:c5 es) (i t:Nat),(fU (uT i es x) t .u).bB=if t<i then .undef else(nW es x).getD (t - i) .undef
 | [],x,i,t=>by
  show AV.undef=_
  split<;>simp[nW]
 | e::r,x,i,t=>by
  rw[uT,gG,nW]
  by_cases h:i=t
  ·subst h
   rw[if_pos rfl,if_neg (by omega),Nat.sub_self,Ox];rfl
  ·rw[if_neg h,Oy r x.2 (i+1) t]
   by_cases h2:t<i
   ·rw[if_pos (by omega),if_pos h2]
   ·rw[if_neg (by omega),if_neg h2,show t - i=(t - (i+1))+1 by omega];rfl
theorem Kr: ∀(es:List bH) (x:c5 es),(nW es x).length=es.length
 | [],_=>rfl
 | e::r,x=>by rw[nW,List.length_cons,List.length_cons,Kr r]
theorem Nv (ps:List bH) (x:c5 ps) (h:ps.length≤1000000):il (pG ps x)=true:=by
 have key: ∀(es:List bH) (y:c5 es) (i:Nat),i+es.length≤1000000→ ∀v,(dH,v) ∉ uT i es y:=by
  intro es
  induction es with
  | nil=>intro y i _ v hv;cases hv
  | cons e r bR=>
   intro y i hi v hv
   simp only[List.length_cons] at hi
   rcases List.mem_cons.1 hv with e | hv
   ·injection e with e _;unfold dH at e;omega
   ·exact bR y.2 (i+1) (by omega) v hv
 unfold il
 have:(pG ps x).get dH= .u:=by
  show fU (uT 0 ps x) dH (fU [] dH .u)=_
  rw[sY (key ps x 0 (by omega))];rfl
 rw[this]
theorem Zs [FZ] {fn:Func} {ps:List bH} {x:c5 ps} (h:ps.length≤fn.ntmps) (aL:ps.length≤1000000):y1 fn (nW ps x) []=(pG ps x).aI fn.ntmps:=by
 have ct:nW ps x++List.replicate (fn.ntmps - (nW ps x).length) AV.undef=((pG ps x).aI fn.ntmps).T:=by
  apply List.ext_getElem?
  intro t
  show _=((List.range fn.ntmps).map fun t=>((pG ps x).get t).bB)[t]?
  rw[List.getElem?_map]
  rcases Nat.lt_or_ge t fn.ntmps with aL | aL
  ·rw[List.getElem?_range aL]
   show _=some (fU (uT 0 ps x) t .u).bB
   rw[Oy,if_neg (by omega),Nat.sub_zero]
   rcases Nat.lt_or_ge t (nW ps x).length with h1 | h1
   ·rw[List.getElem?_append_left h1,List.getD_eq_getElem?_getD,List.getElem?_eq_getElem h1];rfl
   ·rw[List.getElem?_append_right h1,List.getElem?_replicate,if_pos (by omega),List.getD_eq_getElem?_getD,List.getElem?_eq_none h1];rfl
  ·rw[List.getElem?_eq_none (l:=List.range fn.ntmps) (by simpa using aL),List.getElem?_eq_none]
   ·rfl
   ·rw[List.length_append,List.length_replicate,Kr];omega
 have aR:((pG ps x).aI fn.ntmps).H=[]:=by
  show(pG ps x).gn++g0 (pG ps x)=[]
  unfold g0;rw[Nv ps x aL];rfl
 show(⟨_,[],[]⟩:St)=⟨((pG ps x).aI fn.ntmps).T,[],((pG ps x).aI fn.ntmps).H⟩
 rw[ct,aR]
def A2 (s:TS):(e:bH)→TV→e.T→aU→aU
 | .int,v,r,t=>(match v with
  | .i k m=>if k= .i64 then .p (m=r) t else .no
  | _=> .no)
 | .u64,v,r,t=>(match v with
  | .i k m=>if k= .u64 then .p (m=r) t else .no
  | _=> .no)
 | .bool,v,r,t=>(match v with
  | .b x=> .p (x.den=r) t
  | _=> .no)
 | .str,v,r,t=>(match v with
  | .s x=> .p (x=r) t
  | _=> .no)
 | .l e,v,r,t=>(match v with
  | .l dW xs _ fr=>(match fr with
   | true=>if h:dW=e then .p (lR h xs=r) t else .no
   | false=> .no)
  | .nil _ _=> .p ([]=r) t
  | .ref b g m _=>rl s b g fun dW xs fz _=>if h:dW=e then .eq e.oW true (.eq fz m (.p (xs.length≤4611686018427387904∧lR h xs=r) t)) else .no
  | _=> .no)
 | _,_,_,_=> .no
def Ek (s:TS):(es:List bH)→List TV→c5 es→aU→aU
 | [],[],_,t=>t
 | e::r,v::vs,x,t=>A2 s e v x.1 (Ek s r vs x.2 t)
 | _,_,_,_=> .no
def A3 (s:TS) (e:bH) (v:TV) (r:e.T) (t:aU):aU:=match e.isS with
 | true=>(match v with
  | .agg c=>Ek s e.kJ c (e.un r) t
  | _=> .no)
 | false=>A2 s e v r t
def A4 (s:TS):(es:List bH)→List TV→c5 es→aU→aU
 | [],[],_,t=>t
 | e::r,v::vs,x,t=>A3 s e v x.1 (A4 s r vs x.2 t)
 | _,_,_,_=> .no
def Pk (P:Program) (n:Nat) (s:TS):ResultVar→TV
 | .tmp t=>cN n s (.tmp t)
 | .cell a t=>(match cN n s (.tmp a) with
  | .lp v c=>(match kL s.vs v with
   | some m=>vl P t (hQ s v 0 m) c
   | none=> .u)
  | _=> .u)
def wb (P:Program) (n:Nat) (fn:Func) (rs:List bH) (r:c5 rs) (s:TS):aU:=
 let vs:=fn.results.toList.map (Pk P n s)
 .eq (fun H Q=>qR P ⟨s.tT n,s.cs,H⟩ fn.results.toList Q) (fun _ Q=>Q (cP vs)) (.eq ((cP vs).all jZ) true (A4 s rs vs r .ht))
section
variable {n:Nat} {s:TS} {R:Exit→TS→Prop} {t:aU}
theorem T1 {H:List Blk} (e:bH) (x:e.T) (h:e.oW=true):kT H (b8 true e x) (b8 false e x):=by
 cases e with
 | int=>exact TH x
 | u64=>exact .cons (.int _ _) rfl .nil
 | u8=>exact TJ x
 | bool=>exact vP x
 | str=>exact TI x
 | bk=>exact J2 x
 | j7=>exact TK x
 | c8=>exact .cons (.int _ _) rfl (.cons (kA _) rfl (.cons (kA _) rfl (.cons (kA _) rfl (.cons (.int _ _) rfl .nil))))
 | fE=>exact TF x
 | gI=>exact ya x
 | held=>exact TG x
 | frame=>exact .cons (.bool _) rfl (.cons (kA _) rfl (.cons (kA _) rfl (.cons (kA _) rfl .nil)))
 | done=>exact TE x
 | fault=>exact .cons (.int _ _) rfl (.cons (.int _ _) rfl .nil)
 | stays=>exact .cons (kA _) rfl (.cons (kA _) rfl (.cons (kA _) rfl .nil))
 | c9=>exact .cons (kA _) rfl (.cons (.int _ _) rfl (.cons (.int _ _) rfl .nil))
 | l e=>exact .cons (kA _) rfl .nil
 | _=>cases h
end
section
variable [FZ] {n:Nat} {s:TS} {R:Exit→TS→Prop} {t:aU}
theorem KN {e:bH} {v:TV} {r:e.T} (h:(A2 s e v r t).den R):gD (s.aI n).H v.bB (oH true e r)∧t.den R:=by
 cases e with
 | int=>
  have h:(match v with
   | .i k m=>if k=IntKind.i64 then aU.p (m=r) t else .no
   | _=> .no).den R:=h
  split at h
  ·split at h
   ·rename_i hk;subst hk;exact⟨xD h.1,h.2⟩
   ·exact h.elim
  ·exact h.elim
 | u64=>
  have h:(match v with
   | .i k m=>if k=IntKind.u64 then aU.p (m=r) t else .no
   | _=> .no).den R:=h
  split at h
  ·split at h
   ·rename_i hk;subst hk;exact⟨xD h.1,h.2⟩
   ·exact h.elim
  ·exact h.elim
 | bool=>
  have h:(match v with
   | .b x=>aU.p (x.den=r) t
   | _=> .no).den R:=h
  split at h
  ·exact⟨nD h.1,h.2⟩
  ·exact h.elim
 | str=>
  have h:(match v with
   | .s x=>aU.p (x=r) t
   | _=> .no).den R:=h
  split at h
  ·exact⟨aeI h.1,h.2⟩
  ·exact h.elim
 | l e=>
  have h:(match v with
   | .l dW xs _ fr=>(match fr with
    | true=>if h:dW=e then aU.p (lR h xs=r) t else .no
    | false=> .no)
   | .nil _ _=> .p ([]=r) t
   | .ref b g m _=>rl s b g fun dW xs fz _=>if h:dW=e then .eq e.oW true (.eq fz m (.p (xs.length≤4611686018427387904∧lR h xs=r) t)) else .no
   | _=> .no).den R:=h
  split at h
  ·split at h
   ·split at h
    ·rename_i he;subst he;exact⟨ve (e:=b8 false _) h.1,h.2⟩
    ·exact h.elim
   ·exact h.elim
  ·exact⟨vf (e:=b8 false e) h.1,h.2⟩
  ·rename_i b g m eB
   obtain⟨dW,xs,fz,hm,h,hb,aR⟩:=vK (n:=n) h
   split at h
   ·rename_i he
    subst he
    obtain⟨aT,h1,h2,aO⟩:=h
    subst h1
    subst hm
    exact⟨R9 (eT:=b8 true dW) (eF:=b8 false dW) aR (fun x=>T1 dW x aT) h2,aO⟩
   ·exact h.elim
  ·exact h.elim
 | _=>exact h.elim
theorem KP: ∀{es:List bH} {vs:List TV} {r:c5 es},(Ek s es vs r t).den R→aE (gD (s.aI n).H) (cP vs) (lU true es r)∧t.den R
 | [],[],_,h=>⟨aE.nil,h⟩
 | e::r,v::vs,x,h=>by
  obtain⟨h1,h2⟩:=KN (n:=n) (show(A2 s e v x.1 _).den R from h)
  obtain⟨aO,bb⟩:=KP h2
  exact⟨aE.cons h1 aO,bb⟩
 | [],_::_,_,h=>h.elim
 | _::_,[],_,h=>h.elim
theorem U1 {e:bH} {v:TV} {r:e.T} (h:(A3 s e v r t).den R):so (s.aI n).H v.bB (vZ e r)∧t.den R:=by
 unfold A3 at h
 unfold vZ
 cases mO:e.isS with
 | true=>
  rw[mO] at h
  simp only at h
  split at h
  ·rename_i c
   obtain⟨h1,h2⟩:=KP (n:=n) h
   refine⟨.inl ⟨cP c,b8 true e r,rfl,rfl,?_⟩,h2⟩
   rw[←qk];exact h1
  ·exact h.elim
 | false=>
  rw[mO] at h
  obtain⟨h1,h2⟩:=KN (n:=n) h
  exact⟨.inr h1,h2⟩
theorem Ej: ∀{es:List bH} {vs:List TV} {r:c5 es},(A4 s es vs r t).den R→aE (so (s.aI n).H) (cP vs) (lV es r)∧t.den R
 | [],[],_,h=>⟨aE.nil,h⟩
 | e::r,v::vs,x,h=>by
  obtain⟨h1,h2⟩:=U1 (n:=n) (show(A3 s e v x.1 _).den R from h)
  obtain⟨aO,bb⟩:=Ej h2
  exact⟨aE.cons h1 aO,bb⟩
 | [],_::_,_,h=>h.elim
 | _::_,[],_,h=>h.elim
theorem KQ {P:Program} {fn:Func} {rs:List bH} {r:c5 rs} (h:(wb P n fn rs r s).den R):th P fn (s.aI n) fun v H=>iy H v (kX rs r):=by
 unfold wb at h
 simp only at h
 obtain⟨h1,h2,aO⟩:=h
 unfold th
 have VV:qR P (s.aI n) fn.results.toList=_:=congrFun h1 (s.aI n).H
 rw[congrFun VV]
 refine⟨h2,?_⟩
 obtain⟨bb,_⟩:=Ej (n:=n) aO
 have key: ∀(rs:List bH) (r:c5 rs) (l:List AV),aE (so (s.aI n).H) l (lV rs r)→iy (s.aI n).H (sk l) (kX rs r):=by
  intro rs r l aG
  match rs,r,l with
  | [],_,[]=>exact .inl ⟨[],[],rfl,rfl,aE.nil⟩
  | [],_,_::_=>have:=aG.1;simp[lV] at this
  | [e],r,[]=>have:=aG.1;simp[lV] at this
  | [e],r,[v]=>exact .inr aG.head
  | [e],r,_::_::_=>have:=aG.1;simp[lV] at this
  | e::dW::rs,r,[]=>have:=aG.1;simp[lV] at this
  | e::dW::rs,r,[v]=>have:=aG.1;simp[lV] at this
  | e::dW::rs,r,v::w::l=>exact .inl ⟨_,_,rfl,rfl,aG⟩
 exact key rs r _ bb
end
def I_ {P:Program} (cf:g_ P) (ey:vA P) (fn:Func) (ps rs:List bH) (x:c5 ps) (r:c5 rs) (a:lf):aU:=j8 cf ey (some 0) (iz fn) (pG ps x) a fun ex s _=>match ex with
 | .normal=>wb P cf.n fn rs r s
 | .ret=>wb P cf.n fn rs r s
 | _=> .no
theorem bX.run {P:Program} {f:FuncId} {fn:Func} {ps rs:List bH} {x:c5 ps} {r:c5 rs} (cf:g_ P) (ey:vA P) (a:lf) {C:Prop} (hf:P.funcs[f]?=some fn) (h:C) (e:C=(I_ cf ey fn ps rs x r a).nR.den:=by kernel_rfl)
  (e2:(I_ cf ey fn ps rs x r a).lhs=(I_ cf ey fn ps rs x r a).rhs:=by kernel_rfl) (hb:fn.body=some (iz fn):=by kernel_rfl) (hm:(fn.name== "runtime.NumGoroutine")=false:=by kernel_rfl)
  (aF:(Nat.beq cf.n fn.ntmps&&Nat.ble cf.n 1000000&&Nat.ble ps.length cf.n)=true:=by kernel_rfl):bX P f (nW ps x) (kX rs r):=by
 simp only[Bool.and_eq_true] at aF
 have h1:=Nat.eq_of_beq_eq_true aF.1.1
 have h2:=Nat.le_of_ble_eq_true aF.1.2
 have aO:=Nat.le_of_ble_eq_true aF.2
 refine dF.GK hf hb hm fun iK gk=> ?_
 rw[@Zs ⟨[],[]⟩ fn ps x (by rw[←h1];exact aO) (by omega),←h1]
 refine Sz h2 (fun k e=>by cases e;rw[gk];exact Nat.le_refl _) (iz fn) (R:=fun _ _=>True) (K:=fun ex s _=>match ex with
  | .normal=>wb P cf.n fn rs r s
  | .ret=>wb P cf.n fn rs r s
  | _=> .no) (fun ex s _ Z hs hf=> ?_) ⟨[],[]⟩ (@Fits.none ⟨[],[]⟩ _ (Nv ps x (by omega))) (aU.full (e▸h) e2)
 cases ex with
 | normal=>exact KQ hs
 | ret=>exact KQ hs
 | _=>exact hs.elim
def dZ:List (Nat×bH):=[(23,.u8),(25,.int),(26,.j7),(27,(.l .bool)),(33,.done),(35,.fE),(36,.bool),(37,.gI),(38,.held),(46,.j7),(66,.gI),(67,.held),(78,.bk),(138,.bk),(144,(.l .int)),(161,(.l .bk)),(170,.str)]
theorem ry {α:Type} {xs:List α} {q:α→Bool} (h:first xs q=none): ∀x∈xs,q x=false:=by
 unfold first at h;rwa [List.findIdx?_eq_none_iff] at h
theorem xd {p:az} (h:ek p=true):kN p=true∧(∀s∈p.be,bY s 0 (p.ai - 1)=true)∧(∀w∈p.O,gW p w=true)∧p.bU.length=p.O.length∧
  (∀b∈p.bU,b.length=p.O.length)∧ ∀i k:Nat,i<p.O.length→k<p.O.length→nQ p i k=false:=by
 have hb:=aaL h
 have aT:hJ p=⟨0,0⟩:=by simpa[ek] using h
 rw[GW hb] at aT
 unfold xe at aT
 split at aT
 ·cases aT
 rename_i h1
 unfold xf at aT
 split at aT
 ·cases aT
 rename_i h2
 unfold oX at aT
 split at aT
 ·rename_i aO
  split at aT
  ·cases aT
  rename_i bb
  split at aT
  ·cases aT
  rename_i cb
  refine⟨hb,fun s hs=>by simpa using ry h1 s hs,fun w hw=>by simpa using ry h2 w hw,aO,fun b aj=>by simpa using ry bb b aj,fun i k hi hk=> ?_⟩
  have:=ry cb i (List.mem_range.2 hi)
  rw[List.any_eq_false] at this
  simpa using this k (List.mem_range.2 hk)
 ·cases aT
def kW (p:az) (i k:Int):Bool:=nth (nth p.bU i) k
structure Jt (p:az):Prop where
 len:p.bU.length=p.O.length
 row: ∀i:Int,0≤i→i<p.O.length→(nth p.bU i).length=p.O.length
 sym: ∀i k:Int,0≤i→i<p.O.length→0≤k→k<p.O.length→kW p i k=kW p k i
 af9: ∀i k:Int,0≤i→i<p.O.length→0≤k→k<p.O.length→i≠k→meets (nth p.O i).ai (nth p.O k).ai=true→kW p i k=true
theorem sV {x n:Int} (h:bY x 0 (n - 1)=true):0≤x∧x<n:=by have:=iB.1 h;omega
theorem Gq {l:List Int} {n:Int} (h:ho l n=true):l.length≤30∧ ∀x∈l,0≤x∧x<n:=by
 have:=qI.1 h
 exact⟨this.1,fun x hx=>sV (this.2.1 x hx)⟩
theorem uZ {p:az} (h:ek p=true):sn p:=by
 obtain⟨h1,h2,aO,bb,cb,cE⟩:=xd h
 have hb:=r6.1 h1
 have hw: ∀w∈p.O,_:=fun w hw=>ow.1 (aO w hw)
 refine⟨by omega,hb.2.2.2,hb.2.2.1,fun w m=>⟨(hw w m).1,Gq (hw w m).2.1⟩,fun w m=>Gq (hw w m).2.2.1,fun w m=>Gq (hw w m).2.2.2.1,fun w m=> ?_,fun x hx=>sV (h2 x hx)⟩
 have aL:=mm.1 (hw w m).2.2.2.2.1
 have hf:=mm.1 (hw w m).2.2.2.2.2.1
 refine⟨aL.1,hf.1,fun x hx=> ?_⟩
 rcases List.mem_append.1 hx with hx | hx
 ·have:=aL.2.1 x hx
  rw[Bool.and_eq_true] at this;exact sV this.1
 ·have:=hf.2.1 x hx
  rw[Bool.and_eq_true] at this;exact sV this.1
theorem zo {p:az} (h:ek p=true):Jt p:=by
 obtain⟨h1,h2,aO,bb,cb,cE⟩:=xd h
 have key: ∀i k:Int,0≤i→i<p.O.length→0≤k→k<p.O.length→kW p i k=kW p k i∧(i≠k→meets (nth p.O i).ai (nth p.O k).ai=true→kW p i k=true):=fun i k i0 i1 a_ dP=>by
  have:=cE i.toNat k.toNat (by omega) (by omega)
  unfold nQ rk at this
  rw[iU i0,iU a_,iU i0,iU a_,iU i0,iU a_] at this
  rw[Bool.or_eq_false_iff] at this
  refine⟨by unfold kW;simpa using this.1,fun cm hm=> ?_⟩
  have h2:=this.2
  rw[hm,Bool.and_true] at h2
  have bg:decide (i.toNat≠k.toNat)=true:=by simpa using(show i.toNat≠k.toNat by omega)
  rw[bg] at h2
  unfold kW
  simpa using h2
 exact⟨bb,fun i i0 i1=>cb _ (dC (by omega)),fun i k i0 i1 a_ dP=>(key i k i0 i1 a_ dP).1,fun i k i0 i1 a_ dP=>(key i k i0 i1 a_ dP).2⟩
def sJ (p:az) (f:Frame) (i:Int):Bool:= !((decide ((nth f.O i).aq<0)) || ((decide ((nth f.O i).aq>4)) || ((((nth f.O i).ac.length:Int) !=((nth p.O i).ai.length:Int)) || ((decide ((nth f.O i).af<0)) || (decide ((nth f.O i).af ≥ ((nth p.O i).ai.length:Int)))))))
def ue (f:Frame) (i:Int):Bool:=bif ((nth f.O i).aq !=4) then(!(((nth f.O i).af !=0) || (jS (nth f.O i).ac true))) else(!(jS ((nth f.O i).ac.take (nth f.O i).af.toNat) false))
def uf (p:az) (f:Frame) (i:Int):Bool:=bif ((nth f.O i).aq==3) then(!((decide ((nth f.O i).ar<1)) || (decide ((nth f.O i).ar>p.dn)))) else(!((nth f.O i).ar !=0))
def ug (f:Frame) (i:Int):Bool:=bif ((nth f.O i).aq==0) then(!(nth f.O i).ap) else(!(bif ((nth f.O i).aq==2) then((nth f.O i).aq==2) else((nth f.O i).aq==3)) || (!(!(nth f.O i).ap)))
theorem Bf (p:az) (f:Frame) (i:Int):ha p f i=(sJ p f i&&(ue f i&&(uf p f i&&ug f i))):=by
 unfold ha sJ ue uf ug
 simp only
 generalize nth f.O i=h
 generalize (nth p.O i).ai.length=n
 rcases h with⟨s,g,b,d,t⟩
 have bx:b.all (fun x=> !x)= !jS b true:=by
  cases h:jS b true with
  | true=>
   rw[List.all_eq_false.2 ⟨true,wl.1 h,by simp⟩];rfl
  | false=>
   rw[List.all_eq_true.2 fun x hx=>by
    cases x with
    | false=>rfl
    | true=>rw[wl.2 hx] at h;cases h];rfl
 have e2:(b.take g.toNat).all (fun x=>x)= !jS (b.take g.toNat) false:=by
  cases h:jS (b.take g.toNat) false with
  | true=>
   rw[List.all_eq_false.2 ⟨false,wl.1 h,by simp⟩];rfl
  | false=>
   rw[List.all_eq_true.2 fun x hx=>by
    cases x with
    | true=>rfl
    | false=>rw[wl.2 hx] at h;cases h];rfl
 simp only
 rw[bx,e2]
 have fq:bY s 0 4= !((decide (s<0)) || (decide (s>4))):=by unfold bY;rw[Bool.eq_iff_iff];simp
 have fV:decide (b.length=n)= !((b.length:Int) !=(n:Int)):=by rw[Bool.eq_iff_iff];simp;omega
 have fC:bY g 0 ((n:Int) - 1)= !((decide (g<0)) || (decide (g ≥ (n:Int)))):=by unfold bY;rw[Bool.eq_iff_iff];simp;omega
 have u2:bY t 1 p.dn= !((decide (t<1)) || (decide (t>p.dn))):=by unfold bY;rw[Bool.eq_iff_iff];simp
 rw[fq,fV,fC,u2]
 generalize jS b true=B
 have hg:g=0→jS (b.take g.toNat) false=false:=fun h=>by subst h;rfl
 generalize jS (b.take g.toNat) false=C at hg
 generalize (decide (s<0))=aK
 generalize (decide (s>4))=bo
 generalize ((b.length:Int) !=(n:Int))=ea
 generalize (decide (g<0))=eI
 generalize (decide (g ≥ (n:Int)))=agj
 generalize (decide (t<1))=agk
 generalize (decide (t>p.dn))=agl
 have hs:s=0∨s=2∨s=3∨s=4∨(s≠0∧s≠2∧s≠3∧s≠4):=by omega
 have bg:decide (t=0)= !(t !=0):=by rw[Bool.eq_iff_iff];simp
 have rJ:decide (g=0)= !(g !=0):=by rw[Bool.eq_iff_iff];simp
 rw[bg,rJ]
 cases LG:(g !=0) with
 | false=>
  have:C=false:=hg (by simpa using LG)
  subst this
  generalize (t !=0)=afn
  rcases hs with rfl | rfl | rfl | rfl | ⟨aT,h2,aO,bb⟩
  ·cases B<;>cases d<;>simp[Bool.and_assoc]
  ·cases B<;>cases d<;>simp[Bool.and_assoc]
  ·cases B<;>cases d<;>simp[Bool.and_assoc]
  ·cases B<;>cases d<;>simp[Bool.and_assoc]
  ·have Jl:(s==0)=false:=by simpa using aT
   have ox:(s==2)=false:=by simpa using h2
   have z9:(s==3)=false:=by simpa using aO
   have vv:(s !=4)=true:=by simpa using bb
   rw[Jl,ox,z9,vv]
   simp only[aT,h2,aO,bb,if_false,decide_false,decide_true,ne_eq,not_false_eq_true]
   cases B<;>cases d<;>simp[Bool.and_assoc]
 | true=>
  clear hg LG
  generalize (t !=0)=afn
  rcases hs with rfl | rfl | rfl | rfl | ⟨aT,h2,aO,bb⟩
  ·cases B<;>cases C<;>cases d<;>simp[Bool.and_assoc]
  ·cases B<;>cases C<;>cases d<;>simp[Bool.and_assoc]
  ·cases B<;>cases C<;>cases d<;>simp[Bool.and_assoc]
  ·cases B<;>cases C<;>cases d<;>simp[Bool.and_assoc]
  ·have Jl:(s==0)=false:=by simpa using aT
   have ox:(s==2)=false:=by simpa using h2
   have z9:(s==3)=false:=by simpa using aO
   have vv:(s !=4)=true:=by simpa using bb
   rw[Jl,ox,z9,vv]
   simp only[aT,h2,aO,bb,if_false,decide_false,decide_true,ne_eq,not_false_eq_true]
   cases B<;>cases C<;>cases d<;>simp[Bool.and_assoc]
def jm (x:bd):Bool:=bY x.cC 1 2&&bY x.a2 0 2
def jd (p:az) (f:Frame) (i k:Int):Bool:=(i !=k)&&(kW p i k&&(((nth f.O i).aq !=0)&&((nth f.O k).aq !=0)))
def rB (p:az) (f:Frame):Bool:= !((!(ek p)) || ((!f.ok) || (((f.au.length:Int) !=p.ai) || (((f.an.length:Int) !=(p.be.length:Int)) || ((f.O.length:Int) !=(p.O.length:Int))))))
theorem mK {p:az} {f:Frame}:rB p f=true↔ek p=true∧f.ok=true∧(f.au.length:Int)=p.ai∧f.an.length=p.be.length∧f.O.length=p.O.length:=by
 unfold rB
 simp only[Bool.not_eq_true',Bool.or_eq_false_iff,Bool.not_eq_false',bne_eq_false_iff_eq]
 constructor
 ·rintro⟨a,b,c,d,e⟩;exact⟨a,b,c,by omega,by omega⟩
 ·rintro⟨a,b,c,d,e⟩;exact⟨a,b,c,by omega,by omega⟩
theorem To {p:az} {f:Frame}:De p f=true↔ ∀i k:Int,0≤i→i<f.O.length→0≤k→k<f.O.length→jd p f i k=false:=by
 unfold De
 rw[List.all_eq_true]
 have key: ∀i k:Nat,(decide (i=k) || !rk p i k || decide ((nth f.O i).aq=0) || decide ((nth f.O k).aq=0))= !jd p f i k:=fun i k=>by
  unfold jd kW rk
  have bx:decide (i=k)= !((i:Int) !=(k:Int)):=by rw[Bool.eq_iff_iff];simp;omega
  have e2: ∀x:Int,decide (x=0)= !(x !=0):=fun x=>by rw[Bool.eq_iff_iff];simp
  rw[bx,e2,e2]
  cases((i:Int) !=(k:Int))<;>cases nth (nth p.bU (i:Int)) (k:Int)<;>cases((nth f.O (i:Int)).aq !=0)<;>cases((nth f.O (k:Int)).aq !=0)<;>rfl
 constructor
 ·intro h i k i0 i1 a_ dP
  have h1:=h i.toNat (List.mem_range.2 (by omega))
  rw[List.all_eq_true] at h1
  have h2:=h1 k.toNat (List.mem_range.2 (by omega))
  rw[key,Int.toNat_of_nonneg i0,Int.toNat_of_nonneg a_] at h2
  simpa using h2
 ·intro h i hi
  rw[List.all_eq_true]
  intro k hk
  rw[key,h i k (by omega) (by have:=List.mem_range.1 hi;omega) (by omega) (by have:=List.mem_range.1 hk;omega)];rfl
theorem tS {p:az} {f:Frame}:dy p f=true↔rB p f=true∧(∀x∈f.an,jm x=true)∧(∀i:Int,0≤i→i<f.O.length→ha p f i=true)∧
  (∀i k:Int,0≤i→i<f.O.length→0≤k→k<f.O.length→jd p f i k=false)∧f.O=(ee p f).O:=by
 unfold dy oq
 rw[mK,←To]
 simp only[Bool.and_eq_true,decide_eq_true_eq,List.all_eq_true,List.mem_range]
 constructor
 ·rintro⟨⟨⟨⟨⟨⟨⟨⟨a,b⟩,c⟩,d⟩,e⟩,g⟩,h⟩,i⟩,j⟩
  refine⟨⟨a,b,c,d,e⟩,fun x hx=>by unfold jm;rw[Bool.and_eq_true];exact g x hx,fun q dU q1=> ?_,i,j⟩
  have:=h q.toNat (by omega)
  rwa [Int.toNat_of_nonneg dU] at this
 ·rintro⟨⟨a,b,c,d,e⟩,g,h,i,j⟩
  exact⟨⟨⟨⟨⟨⟨⟨⟨a,b⟩,c⟩,d⟩,e⟩,fun x hx=>by have:=g x hx;unfold jm at this;rwa [Bool.and_eq_true] at this⟩,fun q aj=>h q (by omega) (by omega)⟩,i⟩,j⟩
theorem Es {p:az} {f:Frame} (hb:rB p f=true) (bV: ∀i:Int,0≤i→i<f.O.length→sJ p f i=true):ig p f:=by
 obtain⟨h1,h2,aO,bb,cb⟩:=mK.1 hb
 have key: ∀i:Nat,i<f.O.length→((nth f.O i).ac.length:Int)=((nth p.O i).ai.length:Int)∧0≤(nth f.O i).af∧(nth f.O i).af<((nth p.O i).ai.length:Int):=fun i hi=>by
  have:=bV i (by omega) (by omega)
  unfold sJ at this
  simp only[Bool.not_eq_true',Bool.or_eq_false_iff,bne_eq_false_iff_eq,decide_eq_false_iff_not] at this
  exact⟨this.2.2.1,by omega,by omega⟩
 refine⟨aO,bb,cb,fun i h w bx e2=> ?_,fun h hm=> ?_⟩
 ·have hi:=(List.getElem?_eq_some_iff.1 bx).1
  have aM:=(List.getElem?_eq_some_iff.1 e2).1
  have:=(key i hi).1
  rw[iT hi,iT aM,(List.getElem?_eq_some_iff.1 bx).2,(List.getElem?_eq_some_iff.1 e2).2] at this
  omega
 ·obtain⟨i,hi,rfl⟩:=List.mem_iff_getElem.1 hm
  have:=key i hi
  rw[iT hi] at this
  omega
theorem Tn {p:az} {f:Frame} {i k:Int} (ed:Jt p) (aL:f.O.length=p.O.length) (i0:0≤i) (i1:i<f.O.length) (a_:0≤k) (dP:k<f.O.length):jd p f i k=jd p f k i:=by
 unfold jd
 rw[ed.sym i k i0 (by omega) a_ (by omega),show(i !=k)=(k !=i) by rw[Bool.eq_iff_iff];simp;omega,Bool.and_comm ((nth f.O i).aq !=0)]
def xv (p:az) (f:Frame) (n:Nat) (i:Int):Bool:=(List.range n).any fun k=>jd p f i k
theorem aaU (x:bd):(bif (x.cC !=1) then((x.cC !=2) || ((decide (x.a2<0)) || (decide (x.a2>2)))) else((decide (x.a2<0)) || (decide (x.a2>2))))= !jm x:=by
 unfold jm bY
 by_cases h:x.cC=1
 ·rw[h,Bool.eq_iff_iff];simp
 ·have:(x.cC !=1)=true:=by simpa using h
  rw[this,Bool.eq_iff_iff];simp;omega
def jk (a n:Int):Bool:=decide (0≤a)&&decide (a<n)
theorem BM {a n:Int}:jk a n=true↔0≤a∧a<n:=by unfold jk;simp
theorem Zt {a n:Int}:bY a 0 (n - 1)=jk a n:=by unfold jk bY;rw[Bool.eq_iff_iff];simp;omega
structure Fit (p:az) (f:Frame):Prop where
 nk:ek p=true
 fr:ig p f
theorem mf {p:az} {f:Frame} (h:dy p f=true):Fit p f:=by
 obtain⟨h1,h2,aO,bb,cb⟩:=tS.1 h
 refine⟨(mK.1 h1).1,Es h1 fun i i0 i1=> ?_⟩
 have:=aO i i0 i1
 rw[Bf,Bool.and_eq_true] at this;exact this.1
theorem K4 {p:az} {f:Frame} (h:dy p f=true):(f.au.length:Int)=p.ai∧f.an.length=p.be.length∧f.O.length=p.O.length:=by
 have:=(mf h).fr
 exact⟨this.au,this.an,this.O⟩
theorem Fit.in {p:az} {f:Frame} (h:Fit p f):sn p:=uZ h.nk
def rD (p:az) (f:Frame) (i:Int):Prop:=hM f
def jh (p:az) (f:Frame) (i s:Int):Bool:=((nth f.O i).aq !=0)&&((nth p.O i).ai.drop (nth f.O i).af.toNat).contains s
def wG (p:az) (f:Frame) (i s:Int):Prop:=Fit p f∧0≤i∧i<p.O.length
theorem abG {p:az} (h:ek p=true) {w:Way} (hw:w∈p.O):w.ai.Nodup:=(qI.1 (ow.1 ((xd h).2.2.1 w hw)).2.1).2.2
theorem AH {l:List Int} {g:Nat} {s:Int}:(l.drop g).contains s=true↔ ∃k,g≤k∧ ∃h:k<l.length,l[k]=s:=by
 rw[List.contains_iff_mem,List.mem_iff_getElem]
 constructor
 ·rintro⟨i,hi,he⟩
  rw[List.length_drop] at hi
  rw[List.getElem_drop] at he
  exact⟨g+i,by omega,by omega,he⟩
 ·rintro⟨k,hg,hk,he⟩
  refine⟨k - g,by rw[List.length_drop];omega,?_⟩
  rw[List.getElem_drop]
  simp only[show g+(k - g)=k by omega];exact he
theorem has_eq {l:List Int} (aF:l.Nodup) {g s:Int} (aT:0≤g):(decide (nq l s ≥ g)&&decide (nq l s ≥ 0))=(l.drop g.toNat).contains s:=by
 unfold nq
 cases h:first l (fun x=>s==x) with
 | none=>
  have:(l.drop g.toNat).contains s=false:=by
   rw[←Bool.not_eq_true,AH]
   rintro⟨k,_,hk,he⟩
   have:=ry h _ (List.getElem_mem hk)
   rw[he] at this;simp at this
  rw[this];simp[B7]
 | some i=>
  unfold first at h
  rw[List.findIdx?_eq_some_iff_getElem] at h
  obtain⟨hi,hx,_⟩:=h
  have hx:s=l[i]:=by simpa using hx
  have hx:=hx.symm
  rw[Bool.eq_iff_iff,AH]
  show(decide ((i:Int) ≥ g)&&decide ((i:Int) ≥ 0))=true↔_
  simp only[Bool.and_eq_true,decide_eq_true_eq]
  constructor
  ·intro h;exact⟨i,by omega,hi,hx⟩
  ·rintro⟨k,hg,hk,he⟩
   have:k=i:=by
    exact(List.getElem_inj aF).1 (he.trans hx.symm)
   omega
def eg (q:Int→Bool) (v:Int):List Int:=((List.range v.toNat).filter fun i=>q (i:Nat)).map fun i=>((i:Nat):Int)
theorem U0 (q:Int→Bool):eg q 0=[]:=rfl
theorem yi {q:Int→Bool} {v:Int} (h:0≤v):eg q (v+1)=if q v=true then eg q v++[v] else eg q v:=by
 unfold eg
 rw[show(v+1).toNat=v.toNat+1 by omega,List.range_succ,List.filter_append,List.map_append]
 have hv:((v.toNat:Nat):Int)=v:=by omega
 cases aj:q v with
 | true=>simp[hv,aj]
 | false=>simp[hv,aj]
theorem pj (q:Int→Bool) (v:Int):(eg q v).length≤v.toNat:=by
 unfold eg
 rw[List.length_map]
 exact Nat.le_trans (List.length_filter_le _ _) (by simp)
theorem KM {q:Int→Bool} {v x:Int}:x∈eg q v↔0≤x∧x<v∧q x=true:=by
 unfold eg
 rw[List.mem_map]
 constructor
 ·rintro⟨i,hi,rfl⟩
  rw[List.mem_filter,List.mem_range] at hi
  exact⟨by omega,by omega,hi.2⟩
 ·rintro⟨aT,h1,h2⟩
  refine⟨x.toNat,?_,by omega⟩
  rw[List.mem_filter,List.mem_range,Int.toNat_of_nonneg aT]
  exact⟨by omega,h2⟩
theorem A1 {q:Int→Bool} {v:Int}:eg q v=[]↔ ∀x:Int,0≤x→x<v→q x=false:=by
 constructor
 ·intro h x aT h1
  cases aj:q x with
  | false=>rfl
  | true=>have:=KM.2 ⟨aT,h1,aj⟩;rw[h] at this;cases this
 ·intro h
  rw[List.eq_nil_iff_forall_not_mem]
  intro x hx
  have:=KM.1 hx
  rw[h x this.1 this.2.1] at this;cases this.2.2
def uE (x:cx) (k:Int):Bool:=x.sw==k
def rV (l:List cx) (k:Int):Int:=B7 (first l (fun x=>x.sw==k))
def kK (l:List cx) (k:Int):Bool:=l.any fun x=>x.sw==k
theorem X0 (l:List cx) (k:Int):(decide (rV l k ≥ 0))=kK l k:=by
 unfold rV kK
 cases h:first l (fun x=>x.sw==k) with
 | none=>
  rw[List.any_eq_false.2 fun x hx=>by rw[ry h x hx];simp];rfl
 | some i=>
  unfold first at h
  rw[List.findIdx?_eq_some_iff_getElem] at h
  obtain⟨hi,hx,_⟩:=h
  rw[List.any_eq_true.2 ⟨_,List.getElem_mem hi,hx⟩]
  show decide ((i:Int) ≥ 0)=true
  simp
def mE (p:az) (f:Frame) (i k:Int):Bool:=((nth f.O i).aq !=0)&&(kK (nth p.O i).bw k || (kK (nth p.O i).a2 k&&jh p f i (nth p.be k)))
def gz (p:az) (f:Frame) (k:Int):List Int:=eg (fun i=>mE p f i k) p.O.length
def s8 (p:az) (f:Frame) (k:Int):Prop:=Fit p f∧0≤k∧k<p.be.length
def pa (p:az) (f:Frame) (i k:Int):Int:=if(nth f.O i).aq=0 then 0 else match first (nth p.O i).bw (fun x=>x.sw==k) with
 | some j=>(nth (nth p.O i).bw j).bk
 | none=>match first (nth p.O i).a2 (fun x=>x.sw==k&&jh p f i (nth p.be k)) with
  | some j=>(nth (nth p.O i).a2 j).bk
  | none=>0
def Ji (p:az) (f:Frame) (i k:Int):Prop:=Fit p f∧0≤i∧i<p.O.length∧0≤k∧k<p.be.length
theorem BS {p:az} (h:ek p=true) {w:Way} (hw:w∈p.O) {l:cx} (aL:l∈bu w):l.bk=1∨l.bk=2:=by
 have hg:=ow.1 ((xd h).2.2.1 w hw)
 have key: ∀{r2:List cx},lr p r2=true→ ∀x∈r2,x.bk=1∨x.bk=2:=fun h x hx=>by
  have:=(mm.1 h).2.1 x hx
  rw[Bool.and_eq_true] at this
  have:=iB.1 this.2
  omega
 rcases List.mem_append.1 aL with aL | aL
 ·exact key hg.2.2.2.2.1 l aL
 ·exact key hg.2.2.2.2.2.1 l aL
theorem El {α:Type} [Inhabited α] {xs:List α} {q:α→Bool} {j:Nat} (h:first xs q=some j):nth xs j∈xs∧q (nth xs j)=true:=by
 unfold first at h
 rw[List.findIdx?_eq_some_iff_getElem] at h
 obtain⟨hi,hx,_⟩:=h
 rw[iT hi]
 exact⟨List.getElem_mem hi,hx⟩
theorem afa {p:az} {f:Frame} {i k:Int} (h:ek p=true) (hi:i.toNat<p.O.length):decide (pa p f i k>0)=mE p f i k:=by
 unfold pa mE kK
 by_cases hs:(nth f.O i).aq=0
 ·rw[if_pos hs,show((nth f.O i).aq !=0)=false by simpa using hs];rfl
 ·rw[if_neg hs,show((nth f.O i).aq !=0)=true by simpa using hs,Bool.true_and]
  have hm:=dC hi
  cases h1:first (nth p.O i).bw (fun x=>x.sw==k) with
  | some j=>
   have:=El h1
   rw[List.any_eq_true.2 ⟨_,this⟩,Bool.true_or]
   have:=BS h hm (List.mem_append_right _ this.1)
   simp only[decide_eq_true_eq];omega
  | none=>
   rw[List.any_eq_false.2 fun x hx=>by rw[ry h1 x hx];simp,Bool.false_or]
   cases h2:first (nth p.O i).a2 (fun x=>x.sw==k&&jh p f i (nth p.be k)) with
   | some j=>
    have:=El h2
    have aO:=this.2
    rw[Bool.and_eq_true] at aO
    rw[List.any_eq_true.2 ⟨_,this.1,aO.1⟩,aO.2,Bool.true_and]
    have:=BS h hm (List.mem_append_left _ this.1)
    simp only[decide_eq_true_eq];omega
   | none=>
    have:((nth p.O i).a2.any (fun x=>x.sw==k)&&jh p f i (nth p.be k))=false:=by
     rw[Bool.and_eq_false_iff]
     cases bV:jh p f i (nth p.be k) with
     | false=>exact .inr rfl
     | true=>
      refine .inl (List.any_eq_false.2 fun x hx=> ?_)
      have:=ry h2 x hx
      rw[bV,Bool.and_true] at this
      rw[this];simp
    rw[this];rfl
def kD (p:az) (f:Frame) (w k:Int):Bool:=(k !=w)&&(((nth f.O k).aq !=0)&&(kW p w k || (meets (nth p.O w).ai (nth p.O k).cO || meets (nth p.O w).cO (nth p.O k).ai)))
def mR (p:az) (f:Frame) (w s:Int):Bool:=nth f.au s&&(fQ (nth p.O w).ai s || fQ (nth p.O w).cO s)
def jE (p:az) (f:Frame) (w k:Int):Bool:=(bu (nth p.O w)).any fun l=>l.sw==k&& !((nth f.an k).cC==l.bk)
def iR (p:az) (f:Frame) (k:Int):Bool:=decide (((gz p f k).length:Int)>0)
def km (p:az) (f:Frame) (k:Int):Bool:=nth f.au (nth p.be k)
def jy (p:az) (f:Frame) (w k:Int):Bool:=jE p f w k&&(iR p f k || km p f k)
def gg (p:az) (f:Frame) (w:Int):ma:=⟨eg (kD p f w) p.O.length,eg (mR p f w) p.ai,eg (jy p f w) p.be.length⟩
def sE (p:az) (f:Frame) (w:Int):Bool:= !(eg (fun k=>jE p f w k&&iR p f k) p.be.length).isEmpty
def va (p:az) (f:Frame) (w:Int):Bool:= !(eg (fun k=>jE p f w k&&km p f k) p.be.length).isEmpty
def hO (p:az) (f:Frame) (w:Int):ma×Bool×Bool:=(gg p f w,sE p f w,va p f w)
def codeF (p:az) (f:Frame) (w:Int):Int:=if(gg p f w).O≠[] then 3 else if(gg p f w).ai≠[] then 4 else if sE p f w=true then 5 else if va p f w=true then 6 else 0
def tr (p:az) (f:Frame) (w:Int):ma×Int:=(gg p f w,codeF p f w)
def dI (p:az) (f:Frame) (w:Int):Int:=if(nth f.O w).aq≠0 then 2 else codeF p f w
def fP (p:az) (f:Frame) (w:Int):Int:=if dy p f&&jk w p.O.length then dI p f w else 1
def m9 (p:az) (f:Frame) (w:Int):Prop:=Fit p f∧0≤w∧w<p.O.length
theorem ql {q:Int→Bool} {N v:Int} (aF:N≤4611686018427387904) (aX:cv N (fun _=>false) v) (hv:decide (v<N)=true):
  (q v=true→eg q v++[v]=eg q (IntKind.i64.wrap (v+1)))∧(q v=false→eg q v=eg q (IntKind.i64.wrap (v+1)))∧(!(eg q (IntKind.i64.wrap (v+1))).isEmpty)=(!(eg q v).isEmpty || q v):=by
 rw[jM aF aX.1 (by simpa using hv),yi aX.1]
 refine⟨fun h=>by rw[if_pos h],fun h=>by rw[if_neg (by rw[h];simp)],?_⟩
 cases h:q v with
 | true=>simp
 | false=>simp
theorem v_ {q:Int→Bool} {N v:Int} (aX:cv N (fun _=>false) v) (hv:decide (v<N)=false):eg q v=eg q N:=by
 have: ¬v<N:=by simpa using hv
 have h1:=aX.2.1
 rw[show v=N by omega]
def ns (p:az) (f:Frame) (w k:Int) (j:Nat):Bool:=((bu (nth p.O w)).take j).any fun l=>l.sw==k&& !((nth f.an k).cC==l.bk)
theorem abH (p:az) (f:Frame) (w k:Int) {j:Nat} (h:(bu (nth p.O w)).length≤j):ns p f w k j=jE p f w k:=by
 unfold ns jE;rw[List.take_of_length_le h]
theorem abJ {p:az} {f:Frame} {w k:Int} {j:Nat} (h:j<(bu (nth p.O w)).length):ns p f w k (j+1)=(ns p f w k j || ((bu (nth p.O w))[j].sw==k&& !((nth f.an k).cC==(bu (nth p.O w))[j].bk))):=by
 unfold ns;rw[List.take_succ_eq_append_getElem h,List.any_append];simp
theorem GC {p:az} (h:ek p=true) {w:Way} (hw:w∈p.O):((bu w).map (·.sw)).Nodup:=(ow.1 ((xd h).2.2.1 w hw)).2.2.2.2.2.2.1
theorem abI {p:az} {f:Frame} {w k:Int} {j:Nat} (aF:((bu (nth p.O w)).map (·.sw)).Nodup) (h:j<(bu (nth p.O w)).length) (hk:((bu (nth p.O w))[j].sw==k)=true):ns p f w k j=false:=by
 unfold ns
 rw[List.any_eq_false]
 intro l aL
 obtain⟨i,hi,rfl⟩:=List.mem_take_iff_getElem.1 aL
 have ga:i<(bu (nth p.O w)).length:=by omega
 intro hc
 rw[Bool.and_eq_true] at hc
 have bx:(bu (nth p.O w))[i].sw=k:=by simpa using hc.1
 have e2:(bu (nth p.O w))[j].sw=k:=by simpa using hk
 have:=(List.getElem_inj (xs:=(bu (nth p.O w)).map (·.sw)) (i:=i) (j:=j) (h₀:=by simpa using ga) (h₁:=by simpa using h) aF).1 (by simp[bx,e2])
 omega
def Tx (p:az) (f:Frame) (w k:Int) (x:List Int) (a b:Bool) (ld:List Int) (j:Int) (ih cl:Bool):Prop:=
 cv (bu (nth p.O w)).length (fun _=>false) j∧ld=(if(ns p f w k j.toNat&&(iR p f k || km p f k))=true then x++[k] else x)∧ih=(a || (ns p f w k j.toNat&&iR p f k))∧cl=(b || (ns p f w k j.toNat&&km p f k))
def wc (p:az) (f:Frame) (w v:Int):Bool:= !(eg (fun k=>jE p f w k&&iR p f k) v).isEmpty
def zP (p:az) (f:Frame) (w v:Int):Bool:= !(eg (fun k=>jE p f w k&&km p f k) v).isEmpty
def wv (p:az) (f:Frame) (w v:Int):Int:=if wc p f w v=true then 5 else if zP p f w v=true then 6 else 0
def qG (a:Int) (l:List cx) (k:Int):Int:=l.foldl (fun a x=>bif x.sw==k then x.bk else a) a
theorem NR {l:List cx} {k:Int} (h: ∀x∈l,(x.sw==k)=false): ∀a,qG a l k=a:=by
 induction l with
 | nil=>intro a;rfl
 | cons x l bR=>
  intro a
  show qG (bif x.sw==k then x.bk else a) l k=a
  rw[h x List.mem_cons_self]
  exact bR (fun y br=>h y (List.mem_cons_of_mem _ br)) a
theorem Gn {l:List cx} {k:Int} (aF:(l.map (·.sw)).Nodup) {x:cx} (hx:x∈l) (hk:(x.sw==k)=true): ∀a,qG a l k=x.bk:=by
 induction l with
 | nil=>cases hx
 | cons y l bR=>
  intro a
  show qG (bif y.sw==k then y.bk else a) l k=x.bk
  rw[List.map_cons,List.nodup_cons] at aF
  rcases List.mem_cons.1 hx with rfl | hx
  ·rw[hk]
   refine NR (fun z aN=> ?_) _
   have hk:x.sw=k:=by simpa using hk
   rw[←hk,beq_eq_false_iff_ne]
   intro e
   exact aF.1 (List.mem_map.2 ⟨z,aN,e⟩)
  ·exact bR aF.2 hx _
theorem ZT {p:az} {f:Frame} {w k:Int} (h:ek p=true) (hw:w.toNat<p.O.length):((qG 0 (bu (nth p.O w)) k==0) || (qG 0 (bu (nth p.O w)) k==(nth f.an k).cC))= !jE p f w k:=by
 have hm:=dC hw
 have aF:=GC h hm
 cases hf:first (bu (nth p.O w)) (fun x=>x.sw==k) with
 | none=>
  have eC:=ry hf
  rw[NR eC,show jE p f w k=false from List.any_eq_false.2 fun x hx=>by rw[eC x hx];simp];rfl
 | some j=>
  obtain⟨h1,h2⟩:=El hf
  have aL:=BS h hm h1
  rw[Gn aF h1 h2]
  have z:((nth (bu (nth p.O w)) (j:Int)).bk==0)=false:=by rw[beq_eq_false_iff_ne];omega
  rw[z,Bool.false_or]
  have aC:jE p f w k= !((nth f.an k).cC==(nth (bu (nth p.O w)) (j:Int)).bk):=by
   cases hb:((nth f.an k).cC==(nth (bu (nth p.O w)) (j:Int)).bk) with
   | false=>exact List.any_eq_true.2 ⟨_,h1,by rw[h2,hb];rfl⟩
   | true=>
    refine List.any_eq_false.2 fun x hx hc=> ?_
    rw[Bool.and_eq_true] at hc
    have bx:=Gn aF hx hc.1 0
    rw[Gn aF h1 h2] at bx
    rw[bx] at hb
    rw[hb] at hc;cases hc.2
  rw[aC,Bool.not_not,Bool.eq_iff_iff,beq_iff_eq,beq_iff_eq]
  exact⟨Eq.symm,Eq.symm⟩
end Go.Proofs.Ytglpfccgmfhkdaa.Fw
set_option linter.unusedVariables false
set_option maxRecDepth 100000
set_option maxHeartbeats 4000000
set_option linter.unusedSimpArgs false
namespace Go.Proofs.Ytglpfccgmfhkdaa.Fw
open Go
attribute [local irreducible] evS evSD WpS Weak Oper.looksAt
def ac2 (J:Int) (M:Int) (U:Int) (al:Bool):Prop:=
 ((decide (J ≥ M))&&(decide (J≤U)))=al
theorem Ic (J:Int) (M:Int) (U:Int):bX Try.prog 67 [ag J,ag M,ag U] (ao (bY J M U)):=(fun(h:ac2 J M U (bY J M U))=>bX.run (ps:=[.int,.int,.int]) (rs:=[.bool]) (x:=(J,M,U,())) (r:=((bY J M U),())) ⟨15,dZ,[]⟩ ⟨[],[],[],[],[]⟩ .nil Try.func67 h) (by
 rfl)
def xB:dY Try.prog:=⟨67,[.int,.int,.int],[.bool],none,fun x=>((bY x.1 x.2.1 x.2.2.1),()),fun x h=>Ic x.1 x.2.1 x.2.2.1⟩
def QB (ay:Int→Prop) (aA:Int→Nat) (aY:Int→Int→Prop) (a0:Int→Int→Nat) (J M:(List Int)) (al:Bool) (v11:Int):Prop:=
  aY v11 0∧ ∀(eO:Int),aY v11 eO→(((decide (eO<(M.length:Int)))=false→ay (IntKind.i64.wrap (v11+1))∧aA (IntKind.i64.wrap (v11+1))<aA v11)∧((decide (eO<(M.length:Int)))=true→((0≤eO∧eO.toNat<M.length)∧(((nth J v11)==(nth M eO))=true→true=al))∧((!((nth J v11)==(nth M eO)))=true→aY v11 (IntKind.i64.wrap (eO+1))∧a0 v11 (IntKind.i64.wrap (eO+1))<a0 v11 eO)))
def QA (J:(List Int)) (M:(List Int)) (al:Bool) (ay:Int→Prop) (aA:Int→Nat) (aY:Int→Int→Prop) (a0:Int→Int→Nat):Prop:=
 J.length≤4611686018427387904→ay 0∧ ∀(v11:Int),ay v11→(((decide (v11<(J.length:Int)))=false→false=al)∧((decide (v11<(J.length:Int)))=true→(0≤v11∧v11.toNat<J.length)∧(M.length≤4611686018427387904→QB ay aA aY a0 J M al v11)))
theorem ac9 (J:(List Int)) (M:(List Int)):bX Try.prog 69 [bE db J,bE db M] (ao (meets J M)):=(fun(ay:Int→Prop) (aA:Int→Nat) (aY:Int→Int→Prop) (a0:Int→Int→Nat) (h:QA J M (meets J M) ay aA aY a0)=>bX.run (ps:=[(.l .int),(.l .int)]) (rs:=[.bool]) (x:=(J,M,())) (r:=((meets J M),())) ⟨26,dZ,[]⟩ ⟨[],[],[],[],[]⟩ (e8 [1,9,10] [] 11 ay aA fun aS=>(e8 [1,6,9,10,11,15,16] [] 17 (aY aS) (a0 aS) fun _=> .nil)) Try.func69 h) (cv J.length (fun j=>fQ M (nth J j))) (cG J.length) (fun v=>cv M.length (fun k=>nth J v==nth M k)) (fun v=>cG M.length) (by
 unfold QA QB
 intro aF
 refine⟨di (dt _),fun v aX=>⟨fun hv=> ?_,fun hv=>⟨ch aX hv,fun hm=>⟨di (dt _),fun k hK=>⟨fun hk=> ?_,fun hk=>⟨⟨ch hK hk,fun aG=> ?_⟩,fun aG=>c0 (cD hm) hK hk (not_eq aG)⟩⟩⟩⟩⟩⟩
 ·exact(z3 (q:=fun x=>fQ M x) aX hv).symm
 ·exact c0 (cD aF) aX hv (Wu (gL hK hk))
 ·exact(CT (q:=fun x=>fQ M x) aX hv (Ww (ch hK hk).2 aG)).symm)
def zS:dY Try.prog:=⟨69,[(.l .int),(.l .int)],[.bool],none,fun x=>((meets x.1 x.2.1),()),fun x h=>ac9 x.1 x.2.1⟩
def P2 (J:(List Int)) (M:Int) (al:Int) (ay:Int→Prop) (aA:Int→Nat):Prop:=
 J.length≤4611686018427387904→ay 0∧ ∀(c2:Int),ay c2→(((decide (c2<(J.length:Int)))=false→(-1)=al)∧((decide (c2<(J.length:Int)))=true→((0≤c2∧c2.toNat<J.length)∧((M==(nth J c2))=true→c2=al))∧((!(M==(nth J c2)))=true→ay (IntKind.i64.wrap (c2+1))∧aA (IntKind.i64.wrap (c2+1))<aA c2)))
theorem acq (J:(List Int)) (M:Int):bX Try.prog 161 [bE db J,ag M] (ag (nq J M)):=(fun(ay:Int→Prop) (aA:Int→Nat) (h:P2 J M (nq J M) ay aA)=>bX.run (ps:=[(.l .int),.int]) (rs:=[.int]) (x:=(J,M,())) (r:=((nq J M),())) ⟨19,dZ,[]⟩ ⟨[],[],[],[],[]⟩ (e8 [0,1,7] [] 8 ay aA fun _=> .nil) Try.func161 h) (cv J.length (fun j=>M==nth J j)) (cG J.length) (by
 unfold P2
 intro aF
 refine⟨di (dt _),fun v aX=>⟨fun hv=> ?_,fun hv=>⟨⟨ch aX hv,fun aG=> ?_⟩,fun aG=>c0 (cD aF) aX hv (not_eq aG)⟩⟩⟩
 ·unfold nq;rw[p1 (q:=fun x=>M==x) aX hv];rfl
 ·unfold nq;rw[p0 (q:=fun x=>M==x) aX hv aG]
  have:=aX.1
  show v=(v.toNat:Int)
  omega)
def P3:dY Try.prog:=⟨161,[(.l .int),.int],[.int],none,fun x=>((nq x.1 x.2.1),()),fun x h=>acq x.1 x.2.1⟩
def PS (J:(List Int)) (M:Int) (al:Bool):Prop:=
 (decide ((nq J M) ≥ 0))=al
theorem aca (J:(List Int)) (M:Int):bX Try.prog 130 [bE db J,ag M] (ao (fQ J M)):=(fun(h:PS J M (fQ J M))=>bX.run (ps:=[(.l .int),.int]) (rs:=[.bool]) (x:=(J,M,())) (r:=((fQ J M),())) ⟨9,dZ,[P3]⟩ ⟨[],[],[],[],[]⟩ .nil Try.func130 h) (by
 unfold PS
 exact XZ J M)
def CD:dY Try.prog:=⟨130,[(.l .int),.int],[.bool],none,fun x=>((fQ x.1 x.2.1),()),fun x h=>aca x.1 x.2.1⟩
def MX (J:(List Int)) (M:(List Int)) (al:Bool) (ay:Int→Prop) (aA:Int→Nat):Prop:=
 J.length≤4611686018427387904→ay 0∧ ∀(b7:Int),ay b7→(((decide (b7<(J.length:Int)))=false→false=al)∧((decide (b7<(J.length:Int)))=true→((0≤b7∧b7.toNat<J.length)∧((fQ M (nth J b7))=true→true=al))∧((!(fQ M (nth J b7)))=true→ay (IntKind.i64.wrap (b7+1))∧aA (IntKind.i64.wrap (b7+1))<aA b7)))
theorem YR (J:(List Int)) (M:(List Int)):bX Try.prog 74 [bE db J,bE db M] (ao (meets J M)):=(fun(ay:Int→Prop) (aA:Int→Nat) (h:MX J M (meets J M) ay aA)=>bX.run (ps:=[(.l .int),(.l .int)]) (rs:=[.bool]) (x:=(J,M,())) (r:=((meets J M),())) ⟨17,dZ,[CD]⟩ ⟨[],[],[],[],[]⟩ (e8 [1,7,8] [] 9 ay aA fun _=> .nil) Try.func74 h) (cv J.length (fun j=>fQ M (nth J j))) (cG J.length) (by
 unfold MX
 intro aF
 refine⟨di (dt _),fun v aX=>⟨fun hv=> ?_,fun hv=>⟨⟨ch aX hv,fun aG=> ?_⟩,fun aG=>c0 (cD aF) aX hv (not_eq aG)⟩⟩⟩
 ·exact(z3 (q:=fun x=>fQ M x) aX hv).symm
 ·exact(CT (q:=fun x=>fQ M x) aX hv aG).symm)
def FW:dY Try.prog:=⟨74,[(.l .int),(.l .int)],[.bool],none,fun x=>((meets x.1 x.2.1),()),fun x h=>YR x.1 x.2.1⟩
noncomputable def abV:Code:=iz Try.f158
def HH (J:(List cx)) (al:(List cx)):Prop:=
 (J≠[]→(J.length*16≤140737488355328∧J.length≤4611686018427387904)∧(J=al))∧(J=[]→ ∀dg:Bool,(dg=true→[]=al)∧(dg=false→(J.length*16≤140737488355328∧J.length≤4611686018427387904)∧(J=al)))
theorem abW (J:(List cx)) (al:(List cx)) (h:HH J al):dF Try.prog 158 [bE dj J] [] (fun r H=>r=ak 0 0 al.length∧H=[⟨0,2,List.map dj al⟩]):=by
 refine dF.toOwn ?_
 unfold HH at h
 refine dF.go (fn:=Try.f158) [(0,bE dj J)] Try.func158 (fun _ _=> ?_)
 show WpS _ (bT abV 1) _ ⟨bf 8 [(0,bE dj J)],[],[]⟩
 refine ev [] 0 [(2,aH)] [] [1] ?_
 refine hP ?_
 refine hP ?_
 refine bJ [] 1 ?_
 refine Hx 2 (some 4) [(3,bE dj J)] dj J (fun hx=> ?_) (fun hx dg=> ?_)
 ·
  replace h:=h.1 hx
  refine dX [] ?_
  refine ec.normal ?_
  refine sv (.tmp 4) false (fun q3=> ?_) (fun q3=> ?_)
  ·
   cases q3
  ·
   refine ew ?_
   refine ec.normal ?_
   obtain⟨cY,h⟩:=h
   refine ka ⟨(bf 8 [(2,ak 0 0 J.length)]),[],[⟨0,2,List.map dj J⟩]⟩ (True) ?_ (fun q4=> ?_)
   ·
    replace h:=cY
    refine bJ [] 3 ?_
    have cL:=h
    refine qW 3 (some 7) [(6,bE dj J),(5,aH)] dj J (k8 false (List.map dj J)) 0 2 16 (fun r=>[⟨0,2,r⟩]) rfl cL ?_
    exact b1 [(2,ak 0 0 J.length)] trivial
   refine hC ?_
   refine ms (ak 0 0 J.length) [ak 0 0 J.length] ?_
   exact⟨o4 [some 0],qL [some 0] rfl (by decide) ⟨rfl,(qT (b:=0) (g:=0) (sz:=2) (xs:=J) (ys:=al) rfl Ok h),trivial⟩,(.inr (uQ (by simp) rfl rfl (by have:=congrArg List.length h;simpa using this)))⟩
 ·
  replace h:=h.2 hx dg
  refine dX [] ?_
  refine ec.normal ?_
  refine sv (.tmp 4) dg (fun fL=> ?_) (fun fL=> ?_)
  ·
   replace h:=h.1 fL
   refine ka ⟨(bf 8 [(2,aH)]),[],[]⟩ (True) ?_ (fun fB=> ?_)
   ·
    refine bJ [] 2 ?_
    exact b1 [(2,aH)] trivial
   refine hC ?_
   refine ec.ret ?_
   refine ms (aH) [aH] ?_
   exact⟨o4 [none],qL [none] rfl (by decide) ⟨rfl,trivial,trivial⟩,(.inr (GO (by simp) rfl rfl (by rw[←h];rfl)))⟩
  ·
   replace h:=h.2 fL
   refine ew ?_
   refine ec.normal ?_
   obtain⟨hY,h⟩:=h
   refine ka ⟨(bf 8 [(2,ak 0 0 J.length)]),[],[⟨0,2,List.map dj J⟩]⟩ (True) ?_ (fun jr=> ?_)
   ·
    replace h:=hY
    refine bJ [] 3 ?_
    have gB:=h
    refine qW 3 (some 7) [(6,bE dj J),(5,aH)] dj J (k8 false (List.map dj J)) 0 2 16 (fun r=>[⟨0,2,r⟩]) rfl gB ?_
    exact b1 [(2,ak 0 0 J.length)] trivial
   refine hC ?_
   refine ms (ak 0 0 J.length) [ak 0 0 J.length] ?_
   exact⟨o4 [some 0],qL [some 0] rfl (by decide) ⟨rfl,(qT (b:=0) (g:=0) (sz:=2) (xs:=J) (ys:=al) rfl Ok h),trivial⟩,(.inr (uQ (by simp) rfl rfl (by have:=congrArg List.length h;simpa using this)))⟩
theorem abU (J:(List cx)) (aG:small J):dF Try.prog 158 [bE dj J] [] (fun r H=>r=ak 0 0 (aa J).length∧H=[⟨0,2,List.map dj (aa J)⟩]):=abW J (aa J) (by
 have aG:J.length≤1048576:=aG
 unfold HH
 refine⟨fun h=>⟨⟨by omega,by omega⟩,rfl⟩,fun h b=>⟨fun _=> ?_,fun _=>⟨⟨by omega,by omega⟩,rfl⟩⟩⟩
 exact h.symm)
noncomputable def MZ:Code:=iz Try.f123
def YS:List Item:=[av 0,av 1,av 3,av 4,⟨2,true,false,[3,4]⟩,⟨5,true,false,[]⟩,av 6]
def YT:List (List Nat):=[[],[0],[0,1],[],[3],rg 0 5,rg 0 6]
def FX (J:Way) (al:(List cx)):Prop:=
 ((small J.a2)∧(((aa J.a2).length+J.bw.length)*16≤140737488355328∧(aa J.a2).length+J.bw.length≤4611686018427387904))∧(((aa J.a2)++J.bw).length≤4611686018427387904∧((aa J.a2)++J.bw)=al)
theorem YU (J:Way) (al:(List cx)) (h:FX J al):bX Try.prog 123 [.agg (dx false J)] (hh dj al):=by
 unfold FX at h
 refine dF.go (fn:=Try.f123) [(0,.agg (dx false J))] Try.func123 (fun _ _=> ?_)
 show WpS _ (bT MZ 1) _ ⟨bf 9 [(0,.agg (dx false J))],[],[]⟩
 refine qf [] 0 [(2,aH),(1,aB 1 0)] [0,1,1] [] [(1,(dx false J))] [] ?_
 obtain⟨cL,h⟩:=h
 refine e0 [(2,ak 0 1 ((aa J.a2)++J.bw).length)] [] id (fun _=>[⟨1,2,List.map dj ((aa J.a2)++J.bw)⟩]) (True) ?_ (fun q2=> ?_)
 ·
  replace h:=cL
  refine ny [] 1 YS YT [] ?_
  obtain⟨q3,h⟩:=h
  refine I2 5 (some 5) [(7,bE dj J.bw),(6,aB 1 2),(4,bE dj J.a2),(3,aB 1 1)] [bE dj J.a2] (fun L H=>rA Try.prog (jF MZ 6) [3,4] [(7,bE dj J.bw),(6,aB 1 2),(4,bE dj J.a2),(3,aB 1 1),(1,aB 1 0)] L H) (ak 0 0 (aa J.a2).length) [⟨0,2,List.map dj (aa J.a2)⟩] (abU J.a2 q3) (aE.cons (dc.ia cW) aE.nil) (r5 (fun _=>rfl) rfl) (sf (se (fun _=>rfl) rfl) (by kernel_rfl)) (w8 (ψ:=((true=true∧true=true∧((aB 1 2:AV)=aB 1 2))∧((true=true∧true=true∧((bE dj J.bw:AV)=bE dj J.bw))∧True))) (by kernel_rfl) ⟨⟨rfl,rfl,rfl⟩,⟨⟨rfl,rfl,rfl⟩,trivial⟩⟩) ?_
  have q4:=h
  refine aeY 1 (some 8) [] dj (aa J.a2) J.bw (k8 false (List.map dj J.bw)) 0 0 2 16 (fun _=>True) (fun r=>[⟨1,2,r⟩]) rfl q4 trivial ?_
  exact kR [(2,ak 0 1 ((aa J.a2)++J.bw).length)] trivial
 exact hC (nz (ak 0 1 ((aa J.a2)++J.bw).length) (iy.ia (q0 (sz:=2) (by simp) rfl (J2) h)))
theorem MY (J:Way) (aG:xg J):bX Try.prog 123 [.agg (dx false J)] (hh dj (bu J)):=YU J (bu J) (by
 obtain⟨h1,h2⟩:=aG
 unfold FX aa small
 exact⟨⟨h1,by omega,by omega⟩,by rw[List.length_append];omega,rfl⟩)
def FY:dY Try.prog:=⟨123,[.j7],[(.l .bk)],some fun x=>xg x.1,fun x=>((bu x.1),()),fun x h=>MY x.1 h⟩
def Zj:List Item:=[av 0,av 1,av 2,av 3,av 4,av 5,av 6,av 7]
def Zk:List (List Nat):=[[],[],[0,1],[],[],[3,4],[3,4,5],rg 0 7]
def Nf (ay:Int→Prop) (aA:Int→Nat) (J:(List Int)) (al:Bool):Prop:=
  J.length≤4611686018427387904→ay 0∧ ∀(v6:Int),ay v6→(((decide (v6<(J.length:Int)))=false→false=al)∧((decide (v6<(J.length:Int)))=true→(((0≤v6∧v6≤(J.length:Int))∧(0≤v6∧v6.toNat<J.length))∧((fQ (J.take v6.toNat) (nth J v6))=true→true=al))∧((!(fQ (J.take v6.toNat) (nth J v6)))=true→ay (IntKind.i64.wrap (v6+1))∧aA (IntKind.i64.wrap (v6+1))<aA v6)))
def Nd (J:(List Int)) (al:Bool) (ay:Int→Prop) (aA:Int→Nat):Prop:=
 Nf ay aA J al
theorem Zh (J:(List Int)):bX Try.prog 129 [bE db J] (ao (dup J)):=(fun(ay:Int→Prop) (aA:Int→Nat) (h:Nd J (dup J) ay aA)=>bX.run (ps:=[(.l .int)]) (rs:=[.bool]) (x:=(J,())) (r:=((dup J),())) ⟨18,dZ,[CD]⟩ ⟨[],[(4,Zj,Zk)],[],[],[]⟩ (e8 [0,5] [] 6 ay aA fun _=> .nil) Try.func129 h) (cv J.length (fun j=>fQ (J.take j.toNat) (nth J j))) (cG J.length) (by
 unfold Nd Nf
 intro aF
 refine⟨di (dt _),fun v aX=>⟨fun hv=> ?_,fun hv=>⟨⟨⟨⟨aX.1,aX.2.1⟩,ch aX hv⟩,fun aG=> ?_⟩,fun aG=>c0 (cD aF) aX hv (not_eq aG)⟩⟩⟩
 ·exact(Km (gL aX hv)).symm
 ·exact(Ux (ch aX hv).1 (ch aX hv).2 aG).symm)
def Zi:dY Try.prog:=⟨129,[(.l .int)],[.bool],none,fun x=>((dup x.1),()),fun x h=>Zh x.1⟩
def Qz (ay:Int→Prop) (aA:Int→Nat) (aY:Int→Int→Prop) (a0:Int→Int→Nat) (J:(List Int)) (M:Int) (al:Bool) (v10:Int):Prop:=
  ((!(bY (nth J v10) 0 (IntKind.i64.wrap (M - 1))))=true→false=al)∧((!(!(bY (nth J v10) 0 (IntKind.i64.wrap (M - 1)))))=true→aY v10 0∧ ∀(fl:Int),aY v10 fl→(((decide (fl<v10))=false→ay (IntKind.i64.wrap (v10+1))∧aA (IntKind.i64.wrap (v10+1))<aA v10)∧((decide (fl<v10))=true→((0≤fl∧fl.toNat<J.length)∧(((nth J fl)==(nth J v10))=true→false=al))∧((!((nth J fl)==(nth J v10)))=true→aY v10 (IntKind.i64.wrap (fl+1))∧a0 v10 (IntKind.i64.wrap (fl+1))<a0 v10 fl))))
def Qy (J:(List Int)) (M:Int) (al:Bool) (ay:Int→Prop) (aA:Int→Nat) (aY:Int→Int→Prop) (a0:Int→Int→Nat):Prop:=
 J.length≤4611686018427387904→ay 0∧ ∀(v10:Int),ay v10→(((decide (v10<(J.length:Int)))=false→(decide ((J.length:Int)≤30))=al)∧((decide (v10<(J.length:Int)))=true→(0≤v10∧v10.toNat<J.length)∧(Qz ay aA aY a0 J M al v10)))
theorem ac7 (J:(List Int)) (M:Int) (aG:zp J M):bX Try.prog 126 [bE db J,ag M] (ao (ho J M)):=(fun(ay:Int→Prop) (aA:Int→Nat) (aY:Int→Int→Prop) (a0:Int→Int→Nat) (h:Qy J M (ho J M) ay aA aY a0)=>bX.run (ps:=[(.l .int),.int]) (rs:=[.bool]) (x:=(J,M,())) (r:=((ho J M),())) ⟨35,dZ,[xB]⟩ ⟨[33],[],[],[],[]⟩ (e8 [0,1,8,9] [] 10 ay aA fun aS=>(e8 [0,1,5,6,8,9,10] [] 7 (aY aS) (a0 aS) fun _=> .nil)) Try.func126 h) (cv J.length (fun j=> !bY (nth J j) 0 (M - 1) || fQ (J.take j.toNat) (nth J j))) (cG J.length) (fun v=>cv v (fun k=>nth J k==nth J v)) (fun v=>cG v) (by
 have aG: -9223372036854775808<M∧M≤9223372036854775807:=aG
 unfold Qy Qz
 intro aF
 refine⟨di (dt _),fun v aX=>⟨fun hv=> ?_,fun hv=>⟨ch aX hv,?_⟩⟩⟩
 ·exact(N_ 30).trans (ZY (gL aX hv)).symm
 ·have hi:=ch aX hv
  rw[fm (by omega) (by omega)]
  refine⟨fun h=>(NU hi.2 h).symm,fun aJ=>⟨di aX.1,fun k hK=>⟨fun hk=> ?_,fun hk=> ?_⟩⟩⟩
  ·refine c0 (cD aF) aX hv ?_
   rw[Wv aX.1 (by simpa using hv) (gL hK hk),Bool.or_false]
   exact not_eq aJ
  ·have jz:k<v:=by simpa using hk
   have:=hK.1
   exact⟨⟨⟨by omega,by omega⟩,fun he=>(ZX hK.1 jz (by omega) he).symm⟩,fun he=>c0 (by omega) hK hk (not_eq he)⟩)
def ac8:dY Try.prog:=⟨126,[(.l .int),.int],[.bool],some fun x=>zp x.1 x.2.1,fun x=>((ho x.1 x.2.1),()),fun x h=>ac7 x.1 x.2.1 h⟩
def ac5:List Item:=[av 0,av 1,av 2,av 3,av 4,av 5,av 6,av 7]
def ac6:List (List Nat):=[[],[],[0,1],[0,1,2],rg 0 4,[],[5],rg 0 7]
def Qw (ay:Int→Prop) (aA:Int→Nat) (aY:Int→Int→Prop) (a0:Int→Int→Nat) (M:(List cx)) (al:Bool) (v10:Int):Prop:=
  aY v10 0∧ ∀(fl:Int),aY v10 fl→(((decide (fl<v10))=false→ay (IntKind.i64.wrap (v10+1))∧aA (IntKind.i64.wrap (v10+1))<aA v10)∧((decide (fl<v10))=true→((0≤fl∧fl.toNat<M.length)∧(((nth M fl).sw==(nth M v10).sw)=true→false=al))∧((!((nth M fl).sw==(nth M v10).sw))=true→aY v10 (IntKind.i64.wrap (fl+1))∧a0 v10 (IntKind.i64.wrap (fl+1))<a0 v10 fl)))
def Qx (ay:Int→Prop) (aA:Int→Nat) (aY:Int→Int→Prop) (a0:Int→Int→Nat) (J:az) (M:(List cx)) (al:Bool) (v10:Int):Prop:=
  (J.be.length≤4611686018427387904→((!(bY (nth M v10).sw 0 (IntKind.i64.wrap ((J.be.length:Int) - 1)))) || (!(bY (nth M v10).bk 1 2)))=true→false=al)∧((J.be.length≤4611686018427387904)∧((!((!(bY (nth M v10).sw 0 (IntKind.i64.wrap ((J.be.length:Int) - 1)))) || (!(bY (nth M v10).bk 1 2))))=true)→Qw ay aA aY a0 M al v10)
def Qv (J:az) (M:(List cx)) (al:Bool) (ay:Int→Prop) (aA:Int→Nat) (aY:Int→Int→Prop) (a0:Int→Int→Nat):Prop:=
 M.length≤4611686018427387904→ay 0∧ ∀(v10:Int),ay v10→(((decide (v10<(M.length:Int)))=false→(decide ((M.length:Int)≤30))=al)∧((decide (v10<(M.length:Int)))=true→(0≤v10∧v10.toNat<M.length)∧(Qx ay aA aY a0 J M al v10)))
theorem ac3 (J:az) (M:(List cx)):bX Try.prog 127 [.agg (bq false J),bE dj M] (ao (lr J M)):=(fun(ay:Int→Prop) (aA:Int→Nat) (aY:Int→Int→Prop) (a0:Int→Int→Nat) (h:Qv J M (lr J M) ay aA aY a0)=>bX.run (ps:=[.c8,(.l .bk)]) (rs:=[.bool]) (x:=(J,M,())) (r:=((lr J M),())) ⟨46,dZ,[xB]⟩ ⟨[44],[(9,ac5,ac6)],[],[],[]⟩ (e8 [1,2,8,9] [(2,5)] 10 ay aA fun aS=>(e8 [1,2,5,6,8,9,10] [(6,2),(2,5)] 7 (aY aS) (a0 aS) fun _=> .nil)) Try.func127 h) (cv M.length (fun j=>oS J (nth M j) || y7 M j)) (cG M.length) (fun v=>cv v (fun k=>(nth M k).sw==(nth M v).sw)) (fun v=>cG v) (by
 unfold Qv Qx Qw
 intro aF
 refine⟨di (dt _),fun v aX=>⟨fun hv=> ?_,fun hv=>⟨ch aX hv,?_⟩⟩⟩
 ·exact(N_ 30).trans (ZV (gL aX hv)).symm
 ·have hi:=ch aX hv
  refine⟨fun hs h=> ?_,fun⟨hs,aJ⟩=>⟨di aX.1,fun k hK=>⟨fun hk=> ?_,fun hk=> ?_⟩⟩⟩
  ·rw[fm (by omega) (by omega)] at h
   exact(ZW hi.2 h).symm
  ·rw[fm (by omega) (by omega)] at aJ
   refine c0 (cD aF) aX hv ?_
   rw[ZS aX.1 (by simpa using hv) (gL hK hk),Bool.or_false]
   exact not_eq aJ
  ·have jz:k<v:=by simpa using hk
   have:=hK.1
   exact⟨⟨⟨by omega,by omega⟩,fun he=>(ZU hK.1 jz (by omega) he).symm⟩,fun he=>c0 (by omega) hK hk (not_eq he)⟩)
def ac4:dY Try.prog:=⟨127,[.c8,(.l .bk)],[.bool],none,fun x=>((lr x.1 x.2.1),()),fun x h=>ac3 x.1 x.2.1⟩
def adf:List Item:=[av 0,av 1,av 2,av 3,av 4,av 5,av 6,av 7,av 8,av 9,av 10]
def adg:List (List Nat):=[[],[0],[],[2],rg 0 4,rg 0 5,rg 0 6,[],[7],rg 0 9,rg 0 10]
def QD (ay:Int→Prop) (aA:Int→Nat) (aY:Int→Int→Prop) (a0:Int→Int→Nat) (J:az) (M:Way) (al:Bool) (o_ gh:Int):Prop:=
  ((decide (o_<(M.bw.length:Int)))=false→(0≤(nth M.a2 gh).sw∧(nth M.a2 gh).sw.toNat<J.be.length)∧(((!(meets [(nth J.be (nth M.a2 gh).sw)] M.ai))=true→false=al)∧((!(meets [(nth J.be (nth M.a2 gh).sw)] M.ai))=false→ay (IntKind.i64.wrap (gh+1))∧aA (IntKind.i64.wrap (gh+1))<aA gh)))∧((decide (o_<(M.bw.length:Int)))=true→((0≤o_∧o_.toNat<M.bw.length)∧(((nth M.a2 gh).sw==(nth M.bw o_).sw)=true→false=al))∧((!((nth M.a2 gh).sw==(nth M.bw o_).sw))=true→aY gh (IntKind.i64.wrap (o_+1))∧a0 gh (IntKind.i64.wrap (o_+1))<a0 gh o_))
def QE (ay:Int→Prop) (aA:Int→Nat) (aY:Int→Int→Prop) (a0:Int→Int→Nat) (J:az) (M:Way) (al:Bool):Prop:=
  ((M.ai.length≤4611686018427387904→((M.ai.length:Int)==0)=false→(zp M.ai J.ai)∧((!(ho M.ai J.ai))=false→(zp M.cO J.ai)∧((!(ho M.cO J.ai))=false→zp M.cJ J.ai)))∧(M.ai.length≤4611686018427387904→(((M.ai.length:Int)==0) || ((!(ho M.ai J.ai)) || ((!(ho M.cO J.ai)) || ((!(ho M.cJ J.ai)) || ((!(lr J M.a2)) || (!(lr J M.bw)))))))=true→false=al))∧((M.ai.length≤4611686018427387904)∧((!(((M.ai.length:Int)==0) || ((!(ho M.ai J.ai)) || ((!(ho M.cO J.ai)) || ((!(ho M.cJ J.ai)) || ((!(lr J M.a2)) || (!(lr J M.bw))))))))=true)→M.a2.length≤4611686018427387904→ay 0∧ ∀(gh:Int),ay gh→(((decide (gh<(M.a2.length:Int)))=false→(!(meets M.cO M.ai))=al)∧((decide (gh<(M.a2.length:Int)))=true→(0≤gh∧gh.toNat<M.a2.length)∧(M.bw.length≤4611686018427387904→aY gh 0∧ ∀(o_:Int),aY gh o_→(QD ay aA aY a0 J M al o_ gh)))))
def QC (J:az) (M:Way) (al:Bool) (ay:Int→Prop) (aA:Int→Nat) (aY:Int→Int→Prop) (a0:Int→Int→Nat):Prop:=
 QE ay aA aY a0 J M al
theorem adb (J:az) (M:Way) (aG:G0 J M):bX Try.prog 68 [.agg (bq false J),.agg (dx false M)] (ao (gW J M)):=(fun(ay:Int→Prop) (aA:Int→Nat) (aY:Int→Int→Prop) (a0:Int→Int→Nat) (h:QC J M (gW J M) ay aA aY a0)=>bX.run (ps:=[.c8,.j7]) (rs:=[.bool]) (x:=(J,M,())) (r:=((gW J M),())) ⟨89,dZ,[ac8,ac4,zS]⟩ ⟨[],[(12,adf,adg)],[],[],[]⟩ (e8 [2,3,52,53] [(3,5),(2,5)] 54 ay aA fun aS=>(e8 [2,3,6,52,53,54,59,60] [(6,2),(3,5),(2,5)] 61 (aY aS) (a0 aS) fun _=> .nil)) Try.func68 h) (cv M.a2.length (fun j=>M.bw.any (fun y=>(nth M.a2 j).sw==y.sw) || !(M.ai.contains (nth J.be (nth M.a2 j).sw)))) (cG M.a2.length) (fun v=>cv M.bw.length (fun k=>(nth M.a2 v).sw==(nth M.bw k).sw)) (fun v=>cG M.bw.length) (by
 unfold QC QE QD
 refine⟨⟨fun _ _=>⟨aG,fun _=>⟨aG,fun _=>aG⟩⟩,fun aF h=> ?_⟩,fun⟨aF,h⟩ aL=> ?_⟩
 ·symm
  rw[←Bool.not_eq_true,ow]
  rintro⟨h1,h2,aO,bb,cb,cE,-⟩
  have aN:M.ai.length≠0:=fun e=>h1 (List.eq_nil_of_length_eq_zero e)
  simp only[h2,aO,bb,cb,cE,Bool.not_true,Bool.or_false] at h
  simp at h
  exact h1 h
 ·simp only[Bool.not_eq_true',Bool.or_eq_false_iff,Bool.not_eq_false'] at h
  obtain⟨h1,h2,aO,bb,cb,cE⟩:=h
  have h1:M.ai≠[]:=fun e=>by rw[e] at h1;simp at h1
  have E0:=mm.1 cb
  have W0:=mm.1 cE
  refine⟨di (dt _),fun v aX=>⟨fun hv=> ?_,fun hv=>⟨ch aX hv,fun hf=>⟨di (dt _),fun k hK=>⟨fun hk=> ?_,fun hk=>⟨⟨ch hK hk,fun he=> ?_⟩,fun he=>c0 (cD hf) hK hk (not_eq he)⟩⟩⟩⟩⟩⟩
  ·have eC:=gL aX hv
   have bg:((bu M).map (·.sw)).Nodup:=by
    rw[BZ]
    refine⟨E0.2.2,W0.2.2,fun x hx y br he=> ?_⟩
    have:=l9 (q:=fun x=>M.bw.any (fun y=>x.sw==y.sw) || !(M.ai.contains (nth J.be x.sw))) eC x hx
    simp only[Bool.or_eq_false_iff] at this
    have:=this.1
    rw[List.any_eq_false] at this
    exact this y br (by simpa using he)
   have hc: ∀x∈M.a2,M.ai.contains (nth J.be x.sw)=true:=fun x hx=>by
    have:=l9 (q:=fun x=>M.bw.any (fun y=>x.sw==y.sw) || !(M.ai.contains (nth J.be x.sw))) eC x hx
    simp only[Bool.or_eq_false_iff] at this
    simpa using this.2
   rw[N3,Bool.eq_iff_iff,ow]
   constructor
   ·intro hm;exact⟨h1,h2,aO,bb,cb,cE,bg,hc,by simpa using hm⟩
   ·rintro⟨-,-,-,-,-,-,-,-,hm⟩;rw[hm];rfl
  ·have ca:=E0.2.1 _ (dC (ch aX hv).2)
   rw[Bool.and_eq_true,iB] at ca
   refine⟨⟨ca.1.1,by omega⟩,fun hm=> ?_,fun hm=> ?_⟩
   ·symm
    rw[←Bool.not_eq_true,ow]
    rintro⟨-,-,-,-,-,-,-,hc,-⟩
    rw[uI,hc _ (dC (ch aX hv).2)] at hm
    cases hm
   ·refine c0 (cD aL) aX hv ?_
    rw[uI] at hm
    rw[hm,Bool.or_false]
    have:=l9 (q:=fun y:cx=>(nth M.a2 v).sw==y.sw) (gL hK hk)
    rw[List.any_eq_false]
    intro y br
    rw[this y br];simp
  ·symm
   rw[←Bool.not_eq_true,ow]
   rintro⟨-,-,-,-,-,-,bg,-,-⟩
   exact(BZ.1 bg).2.2 _ (dC (ch aX hv).2) _ (dC (ch hK hk).2) (by simpa using he))
def ade:dY Try.prog:=⟨68,[.c8,.j7],[.bool],some fun x=>G0 x.1 x.2.1,fun x=>((gW x.1 x.2.1),()),fun x h=>adb x.1 x.2.1 h⟩
def Zn:List Item:=[av 0,av 1,av 2,av 3,av 4,av 5,av 6,av 7,av 8,av 9,av 10,av 11,av 12,av 13,av 14,av 15,av 16]
def Zo:List (List Nat):=[[],[],[1],[1,2],rg 0 4,rg 0 5,rg 0 6,rg 0 7,rg 0 6,rg 0 6++[8],rg 0 6,rg 0 6++[10],rg 0 6++rg 8 12,rg 0 6++rg 8 13,rg 0 14,rg 0 15,rg 0 16]
def Nh (J:az) (M:Way) (al:Bool) (a8:(List Int)) (fW:Int):Prop:=
  (((decide (fW<(M.a2.length:Int)))=true→0≤(nth (bu M) fW).sw∧(nth (bu M) fW).sw.toNat<J.be.length)∧(((decide (fW<(M.a2.length:Int)))&&(!(fQ M.ai (nth J.be (nth (bu M) fW).sw))))=true→false=al))∧((!((decide (fW<(M.a2.length:Int)))&&(!(fQ M.ai (nth J.be (nth (bu M) fW).sw)))))=true→(a8.length+[(nth (bu M) fW).sw].length)*8≤140737488355328∧a8.length+[(nth (bu M) fW).sw].length≤4611686018427387904)
def Ni (J:az) (M:Way) (al:Bool) (a8:(List Int)) (fW:Int):Prop:=
  (((decide ((nth (bu M) fW).sw<0)) || ((decide ((nth (bu M) fW).sw ≥ (J.be.length:Int))) || (((nth (bu M) fW).bk !=1)&&((nth (bu M) fW).bk !=2))))=true→false=al)∧((!((decide ((nth (bu M) fW).sw<0)) || ((decide ((nth (bu M) fW).sw ≥ (J.be.length:Int))) || (((nth (bu M) fW).bk !=1)&&((nth (bu M) fW).bk !=2)))))=true→Nh J M al a8 fW)
abbrev q6 (r:Type):Type:=Int→Nat→(List Int)→Int→r
def Nj (aY:q6 Prop) (a0:q6 Nat) (J:az) (M:Way) (al:Bool) (df:Int) (bt:Nat) (a8:(List Int)) (fW:Int):Prop:=
  ((0≤fW∧fW.toNat<(bu M).length)∧(Ni J M al a8 fW))∧(((!((decide ((nth (bu M) fW).sw<0)) || ((decide ((nth (bu M) fW).sw ≥ (J.be.length:Int))) || (((nth (bu M) fW).bk !=1)&&((nth (bu M) fW).bk !=2)))))&&(!((decide (fW<(M.a2.length:Int)))&&(!(fQ M.ai (nth J.be (nth (bu M) fW).sw))))))=true→aY df (bt+1) (a8++[(nth (bu M) fW).sw]) (IntKind.i64.wrap (fW+1))∧a0 df (bt+1) (a8++[(nth (bu M) fW).sw]) (IntKind.i64.wrap (fW+1))<a0 df bt a8 fW)
def Nk (aY:q6 Prop) (a0:q6 Nat) (J:az) (M:Way) (al:Bool) (df:Int):Prop:=
  (xg M)∧((bu M).length≤4611686018427387904→aY df 0 ([]:List Int) 0∧ ∀(bt:Nat) (a8:(List Int)) (fW:Int),aY df bt a8 fW→(((decide (fW<((bu M).length:Int)))=false→(a8.length≤4611686018427387904)∧(((!(dup a8))&&(!(meets M.ai M.cO)))=al))∧((decide (fW<((bu M).length:Int)))=true→Nj aY a0 J M al df bt a8 fW)))
def Nl (bG:Int→Int→Prop) (bD:Int→Int→Nat) (J:az) (M:Way) (al:Bool) (gT df:Int):Prop:=
  ((0≤gT∧gT.toNat<(nth [M.ai,M.cO,M.cJ] df).length)∧(((decide ((nth (nth [M.ai,M.cO,M.cJ] df) gT)<0)) || (decide ((nth (nth [M.ai,M.cO,M.cJ] df) gT) ≥ J.ai)))=true→false=al))∧((!((decide ((nth (nth [M.ai,M.cO,M.cJ] df) gT)<0)) || (decide ((nth (nth [M.ai,M.cO,M.cJ] df) gT) ≥ J.ai))))=true→bG df (IntKind.i64.wrap (gT+1))∧bD df (IntKind.i64.wrap (gT+1))<bD df gT)
def Nm (ay:Int→Prop) (aA:Int→Nat) (bG:Int→Int→Prop) (bD:Int→Int→Nat) (J:az) (M:Way) (al:Bool) (df:Int):Prop:=
  ((nth [M.ai,M.cO,M.cJ] df).length≤4611686018427387904→((decide (((nth [M.ai,M.cO,M.cJ] df).length:Int)>30)) || (dup (nth [M.ai,M.cO,M.cJ] df)))=true→false=al)∧(((nth [M.ai,M.cO,M.cJ] df).length≤4611686018427387904)∧((!((decide (((nth [M.ai,M.cO,M.cJ] df).length:Int)>30)) || (dup (nth [M.ai,M.cO,M.cJ] df))))=true)→bG df 0∧ ∀(gT:Int),bG df gT→(((decide (gT<((nth [M.ai,M.cO,M.cJ] df).length:Int)))=false→ay (IntKind.i64.wrap (df+1))∧aA (IntKind.i64.wrap (df+1))<aA df)∧((decide (gT<((nth [M.ai,M.cO,M.cJ] df).length:Int)))=true→Nl bG bD J M al gT df)))
def Nn (ay:Int→Prop) (aA:Int→Nat) (aY:q6 Prop) (a0:q6 Nat) (bG:Int→Int→Prop) (bD:Int→Int→Nat) (J:az) (M:Way) (al:Bool):Prop:=
  (M.ai.length≤4611686018427387904→(((M.ai.length:Int)==0) || ((decide ((M.a2.length:Int)>30)) || (decide ((M.bw.length:Int)>30))))=true→false=al)∧((M.ai.length≤4611686018427387904)∧((!(((M.ai.length:Int)==0) || ((decide ((M.a2.length:Int)>30)) || (decide ((M.bw.length:Int)>30)))))=true)→[M.ai,M.cO,M.cJ].length≤4611686018427387904→ay 0∧ ∀(df:Int),ay df→(((decide (df<([M.ai,M.cO,M.cJ].length:Int)))=false→Nk aY a0 J M al df)∧((decide (df<([M.ai,M.cO,M.cJ].length:Int)))=true→(0≤df∧df.toNat<[M.ai,M.cO,M.cJ].length)∧(Nm ay aA bG bD J M al df))))
def Ng (J:az) (M:Way) (al:Bool) (ay:Int→Prop) (aA:Int→Nat) (aY:q6 Prop) (a0:q6 Nat) (bG:Int→Int→Prop) (bD:Int→Int→Nat):Prop:=
 Nn ay aA aY a0 bG bD J M al
theorem Zl (J:az) (M:Way):bX Try.prog 73 [.agg (bq false J),.agg (dx false M)] (ao (gW J M)):=(fun(ay:Int→Prop) (aA:Int→Nat) (aY:q6 Prop) (a0:q6 Nat) (bG:Int→Int→Prop) (bD:Int→Int→Nat) (h:Ng J M (gW J M) ay aA aY a0 bG bD)=>bX.run (ps:=[.c8,.j7]) (rs:=[.bool]) (x:=(J,M,())) (r:=((gW J M),())) ⟨126,dZ,[FY,Zi,FW,CD]⟩ ⟨[48],[(21,Zn,Zo)],[],[],[]⟩ (e8 [2,3,34,35] [(3,5),(2,5)] 36 ay aA fun aS=>(.tL (.lp [(0,9,.int)] [2,3,64,65] [(3,5),(2,5)] [.nat,(.l .int),.int] [bA 0,bA 0,66] (fun bN=>[(9,.ref 0 bN.1 bN.2.1.length false),(66,.i .i64 bN.2.2.1),(bA 0,.blk bN.1 .int bN.2.1 _ rfl)]) (fun bN=>aY aS bN.1 bN.2.1 bN.2.2.1) (fun bN=>a0 aS bN.1 bN.2.1 bN.2.2.1) fun _=> .nil) (e8 [2,3,34,35,36,47,48] [(3,5),(2,5)] 49 (bG aS) (bD aS) fun _=> .nil))) Try.func73 h) (cv ([M.ai,M.cO,M.cJ].length:Int) (fun k=> !ho (nth [M.ai,M.cO,M.cJ] k) J.ai)) (cG ([M.ai,M.cO,M.cJ].length:Int)) (fun _ _ x v=>cv (bu M).length (pK J M) v∧x=((bu M).take v.toNat).map (·.sw)) (fun _ _ _ v=>cG (bu M).length v) (fun i=>cv (nth [M.ai,M.cO,M.cJ] i).length (fun j=> !bY (nth (nth [M.ai,M.cO,M.cJ] i) j) 0 (J.ai - 1))) (fun i=>cG (nth [M.ai,M.cO,M.cJ] i).length) (by
 unfold Ng Nn
 have hlen:M.a2.length≤30→M.bw.length≤30→(bu M).length≤60:=by unfold bu;rw[List.length_append];omega
 refine⟨fun aF h=> ?_,fun⟨aF,h⟩ b0=> ?_⟩
 ·symm
  rw[←Bool.not_eq_true,ow]
  rintro⟨h1,-,-,-,cb,cE,-⟩
  have:=(mm.1 cb).1
  have:=(mm.1 cE).1
  simp at h
  rcases h with h | h | h
  ·exact h1 h
  ·omega
  ·omega
 ·simp at h
  obtain⟨h1,h2,aO⟩:=h
  have h2:M.a2.length≤30:=by omega
  have aO:M.bw.length≤30:=by omega
  have afS:=hlen h2 aO
  refine⟨di (dt _),fun i aX=>⟨fun hi=> ?_,fun hi=>⟨ch aX hi,?_⟩⟩⟩
  ·have eC: ∀l∈[M.ai,M.cO,M.cJ],ho l J.ai=true:=fun l aL=>by
    have:=l9 (q:=fun l=> !ho l J.ai) (gL aX hi) l aL
    simpa using this
   unfold Nk
   refine⟨⟨by omega,by omega⟩,fun kB=>⟨⟨di (dt _),rfl⟩,fun g x v ⟨ds,hx⟩=>⟨fun hv=> ?_,fun hv=> ?_⟩⟩⟩
   ·have kl: ¬v<((bu M).length:Int):=by simpa using hv
    rw[List.take_of_length_le (by have:=ds.1;omega)] at hx
    subst hx
    exact⟨by rw[List.length_map];omega,VR h1 eC h2 aO (gL ds hv)⟩
   ·have ca:=ch ds hv
    have qA:x.length≤60:=by rw[hx,List.length_map,List.length_take];omega
    have bad:pK J M v=true→false=gW J M:=fun hb=>by
     symm
     rw[←Bool.not_eq_true]
     intro hg
     rw[VT hg ca.1 ca.2] at hb
     cases hb
    unfold Nj Ni Nh
    rw[ZR]
    refine⟨⟨ca,fun hb=>bad (by unfold pK;rw[hb];rfl),fun hb=>⟨⟨fun aL=> ?_,fun hc=>bad (by unfold pK;rw[hc,Bool.or_true])⟩,fun _=> ?_⟩⟩,fun hb=> ?_⟩
    ·have hb:oS J (nth (bu M) v)=false:=not_eq hb
     rw[y6] at hb
     simp only[Bool.not_eq_false',Bool.and_eq_true,iB] at hb
     exact⟨hb.1.1,by omega⟩
    ·simp only[List.length_cons,List.length_nil];omega
    ·have hb:pK J M v=false:=by
      unfold pK
      rw[Bool.and_eq_true] at hb
      rw[not_eq hb.1,not_eq hb.2];rfl
     have bj:=c0 (cD kB) ds hv hb
     have hw:IntKind.i64.wrap (v+1)=v+1:=fm (by omega) (by omega)
     refine⟨⟨bj.1,?_⟩,bj.2⟩
     rw[hw,hx,show(v+1).toNat=v.toNat+1 by omega,List.take_succ_eq_append_getElem ca.2,List.map_append,←gH ca.2]
     rfl
  ·have yG:=ch aX hi
   have JK:ho (nth [M.ai,M.cO,M.cJ] i) J.ai=false→false=gW J M:=fun hb=>by
    symm
    rw[←Bool.not_eq_true]
    intro hg
    rw[VS hg _ (dC yG.2)] at hb
    cases hb
   unfold Nm Nl
   refine⟨fun aF h=>JK ?_,fun⟨aF,h⟩=>⟨di (dt _),fun v mg=>⟨fun hv=> ?_,fun hv=> ?_⟩⟩⟩
   ·rw[←Bool.not_eq_true,qI]
    rintro⟨q1,-,q3⟩
    simp only[Bool.or_eq_true,decide_eq_true_eq] at h
    rcases h with h | h
    ·omega
    ·unfold dup at h;simp[q3] at h
   ·refine c0 (by simp) aX hi ?_
    simp only[Bool.not_eq_true',Bool.or_eq_false_iff,decide_eq_false_iff_not] at h
    have bg:(nth [M.ai,M.cO,M.cJ] i).Nodup:=by have:=h.2;unfold dup at this;simpa using this
    have:ho (nth [M.ai,M.cO,M.cJ] i) J.ai=true:=by
     rw[qI]
     refine⟨by omega,fun x hx=> ?_,bg⟩
     have:=l9 (q:=fun x=> !bY x 0 (J.ai - 1)) (gL mg hv) x hx
     simpa using this
    rw[this];rfl
   ·rw[Ho]
    exact⟨⟨ch mg hv,fun h=>JK (NU (ch mg hv).2 h)⟩,fun h=>c0 (cD aF) mg hv (not_eq h)⟩)
def Zm:dY Try.prog:=⟨73,[.c8,.j7],[.bool],none,fun x=>((gW x.1 x.2.1),()),fun x h=>Zl x.1 x.2.1⟩
def Yd:List Item:=[av 0,av 1,av 2,av 3,av 4,av 5,av 6,av 7,av 8,av 9,av 10,av 11,av 12,av 13,av 14,av 15,av 16,av 17,av 18,av 19,av 20,av 21,av 22,av 23,av 24,av 25,av 26,av 27,av 28,av 29,av 30,av 31,av 32,av 33,av 34,av 35,av 36,av 37,av 38,av 39,av 40,av 41,av 42,av 43,av 44,av 45,av 46,av 47]
def Ye:List (List Nat):=[[],[0],[],[0,1,2],rg 0 4,[],rg 0 6,rg 0 7,[],[8],[],[8,9,10],rg 8 12,[],rg 8 14,rg 8 15,rg 0 16,rg 0 17,rg 0 18,rg 0 18,rg 0 20,rg 0 21,rg 0 22,rg 0 23,rg 0 22,rg 0 25,rg 0 26,rg 0 22,rg 0 28,rg 0 29,rg 0 30,rg 0 31,rg 0 32,rg 0 33,rg 0 34,rg 0 33,rg 0 36,rg 0 37,rg 0 38,rg 0 33,rg 0 33++[39],rg 0 33,rg 0 33++[39,40,41],rg 0 33++rg 39 43,rg 0 33++rg 39 44,rg 0 45,rg 0 46,rg 0 47]
def Mt (J:az) (al:jb) (g8 fM:Int):Prop:=
  ((0≤fM∧fM.toNat<J.bU.length)∧((0≤g8∧g8.toNat<(nth J.bU fM).length)∧((0≤g8∧g8.toNat<J.bU.length)∧((0≤fM∧fM.toNat<(nth J.bU g8).length)∧(((nth (nth J.bU fM) g8) !=(nth (nth J.bU g8) fM))=false→(fM !=g8)=true→(0≤fM∧fM.toNat<J.bU.length)∧((0≤g8∧g8.toNat<(nth J.bU fM).length)∧((!(nth (nth J.bU fM) g8))=true→(0≤fM∧fM.toNat<J.O.length)∧(0≤g8∧g8.toNat<J.O.length))))))))∧((((nth (nth J.bU fM) g8) !=(nth (nth J.bU g8) fM)) || ((fM !=g8)&&((!(nth (nth J.bU fM) g8))&&(meets (nth J.O fM).ai (nth J.O g8).ai))))=true→(5=al.code)∧(fM=al.pos))
abbrev ic (r:Type):Type:=Int→Int→Int→Int→r
abbrev hN (r:Type):Type:=Int→Int→Int→Int→Int→r
def Mu (cg:ic Prop) (cd:ic Nat) (dr:hN Prop) (du:hN Nat) (J:az) (al:jb) (et gU h7 g8 fM:Int):Prop:=
  ((decide (g8<(J.O.length:Int)))=false→cg et gU h7 (IntKind.i64.wrap (fM+1))∧cd et gU h7 (IntKind.i64.wrap (fM+1))<cd et gU h7 fM)∧((decide (g8<(J.O.length:Int)))=true→(Mt J al g8 fM)∧((!(((nth (nth J.bU fM) g8) !=(nth (nth J.bU g8) fM)) || ((fM !=g8)&&((!(nth (nth J.bU fM) g8))&&(meets (nth J.O fM).ai (nth J.O g8).ai)))))=true→dr et gU h7 fM (IntKind.i64.wrap (g8+1))∧du et gU h7 fM (IntKind.i64.wrap (g8+1))<du et gU h7 fM g8))
abbrev dM (r:Type):Type:=Int→Int→Int→r
def Mv (bG:dM Prop) (bD:dM Nat) (J:az) (al:jb) (et gU h7:Int):Prop:=
  ((0≤h7∧h7.toNat<J.bU.length)∧((nth J.bU h7).length≤4611686018427387904→(((nth J.bU h7).length:Int) !=(J.O.length:Int))=true→(4=al.code)∧(h7=al.pos)))∧(((nth J.bU h7).length≤4611686018427387904)∧((!(((nth J.bU h7).length:Int) !=(J.O.length:Int)))=true)→bG et gU (IntKind.i64.wrap (h7+1))∧bD et gU (IntKind.i64.wrap (h7+1))<bD et gU h7)
def Mw (bG:dM Prop) (bD:dM Nat) (cg:ic Prop) (cd:ic Nat) (dr:hN Prop) (du:hN Nat) (J:az) (al:jb) (et gU h7:Int):Prop:=
  ((decide (h7<(J.bU.length:Int)))=false→cg et gU h7 0∧ ∀(fM:Int),cg et gU h7 fM→(((decide (fM<(J.O.length:Int)))=false→(0=al.code)∧(0=al.pos))∧((decide (fM<(J.O.length:Int)))=true→dr et gU h7 fM 0∧ ∀(g8:Int),dr et gU h7 fM g8→(Mu cg cd dr du J al et gU h7 g8 fM))))∧((decide (h7<(J.bU.length:Int)))=true→Mv bG bD J al et gU h7)
def Mx (aY:Int→Int→Prop) (a0:Int→Int→Nat) (bG:dM Prop) (bD:dM Nat) (cg:ic Prop) (cd:ic Nat) (dr:hN Prop) (du:hN Nat) (J:az) (al:jb) (et gU:Int):Prop:=
  ((decide (gU<(J.O.length:Int)))=false→(J.bU.length≤4611686018427387904→((J.bU.length:Int) !=(J.O.length:Int))=true→(4=al.code)∧(0=al.pos))∧((J.bU.length≤4611686018427387904)∧((!((J.bU.length:Int) !=(J.O.length:Int)))=true)→bG et gU 0∧ ∀(h7:Int),bG et gU h7→(Mw bG bD cg cd dr du J al et gU h7)))∧((decide (gU<(J.O.length:Int)))=true→((0≤gU∧gU.toNat<J.O.length)∧((!(gW J (nth J.O gU)))=true→(3=al.code)∧(gU=al.pos)))∧((!(!(gW J (nth J.O gU))))=true→aY et (IntKind.i64.wrap (gU+1))∧a0 et (IntKind.i64.wrap (gU+1))<a0 et gU))
def My (ay:Int→Prop) (aA:Int→Nat) (aY:Int→Int→Prop) (a0:Int→Int→Nat) (bG:dM Prop) (bD:dM Nat) (cg:ic Prop) (cd:ic Nat) (dr:hN Prop) (du:hN Nat) (J:az) (al:jb) (et:Int):Prop:=
  ((decide (et<(J.be.length:Int)))=false→J.O.length≤4611686018427387904→aY et 0∧ ∀(gU:Int),aY et gU→(Mx aY a0 bG bD cg cd dr du J al et gU))∧((decide (et<(J.be.length:Int)))=true→((0≤et∧et.toNat<J.be.length)∧(((decide ((nth J.be et)<0)) || (decide ((nth J.be et) ≥ J.ai)))=true→(2=al.code)∧(et=al.pos)))∧((!((decide ((nth J.be et)<0)) || (decide ((nth J.be et) ≥ J.ai))))=true→ay (IntKind.i64.wrap (et+1))∧aA (IntKind.i64.wrap (et+1))<aA et))
def Mz (ay:Int→Prop) (aA:Int→Nat) (aY:Int→Int→Prop) (a0:Int→Int→Nat) (bG:dM Prop) (bD:dM Nat) (cg:ic Prop) (cd:ic Nat) (dr:hN Prop) (du:hN Nat) (J:az) (al:jb):Prop:=
  (((decide (J.ai<1)) || ((decide (J.ai>60)) || ((decide (J.dn<1)) || ((decide (J.dn>300)) || ((decide ((J.be.length:Int)>40)) || (decide ((J.O.length:Int)>100)))))))=true→(1=al.code)∧(0=al.pos))∧((!((decide (J.ai<1)) || ((decide (J.ai>60)) || ((decide (J.dn<1)) || ((decide (J.dn>300)) || ((decide ((J.be.length:Int)>40)) || (decide ((J.O.length:Int)>100))))))))=true→J.be.length≤4611686018427387904→ay 0∧ ∀(et:Int),ay et→(My ay aA aY a0 bG bD cg cd dr du J al et))
def Ms (J:az) (al:jb) (ay:Int→Prop) (aA:Int→Nat) (aY:Int→Int→Prop) (a0:Int→Int→Nat) (bG:dM Prop) (bD:dM Nat) (cg:ic Prop) (cd:ic Nat) (dr:hN Prop) (du:hN Nat):Prop:=
 Mz ay aA aY a0 bG bD cg cd dr du J al
theorem Yb (J:az):bX Try.prog 26 [.agg (bq false J)] (.agg (DV (hJ J))):=(fun(ay:Int→Prop) (aA:Int→Nat) (aY:Int→Int→Prop) (a0:Int→Int→Nat) (bG:dM Prop) (bD:dM Nat) (cg:ic Prop) (cd:ic Nat) (dr:hN Prop) (du:hN Nat) (h:Ms J (hJ J) ay aA aY a0 bG bD cg cd dr du)=>bX.run (ps:=[.c8]) (rs:=[.fault]) (x:=(J,())) (r:=((hJ J),())) ⟨166,dZ,[FW,Zm]⟩ ⟨[81,86,96,103,109],[(29,Yd,Ye)],[],[],[]⟩ (e8 [1,2,43,44] [(2,2),(1,5)] 45 ay aA fun aS=>(e8 [1,2,62,63] [(2,2),(1,5)] 64 (aY aS) (a0 aS) fun bN=>(e8 [1,2,85,86] [(2,2),(1,5)] 87 (bG aS bN) (bD aS bN) fun cc=>(e8 [1,2,103] [(2,2),(1,5)] 104 (cg aS bN cc) (cd aS bN cc) fun eQ=>(e8 [1,2,9,103,104,109] [(2,2),(1,5)] 110 (dr aS bN cc eQ) (du aS bN cc eQ) fun _=> .nil))))) Try.func26 h) (cv J.be.length (fun j=> !bY (nth J.be j) 0 (J.ai - 1))) (cG J.be.length) (fun _=>cv J.O.length (fun j=> !gW J (nth J.O j))) (fun _=>cG J.O.length) (fun _ _=>cv J.bU.length (fun j=>decide ((nth J.bU j).length≠J.O.length))) (fun _ _=>cG J.bU.length) (fun _ _ _=>cv J.O.length (fun i=>(List.range J.O.length).any fun k=>nQ J i.toNat k)) (fun _ _ _=>cG J.O.length) (fun _ _ _ i=>cv J.O.length (fun k=>nQ J i.toNat k.toNat)) (fun _ _ _ _=>cG J.O.length) (by
 unfold Ms Mz
 refine⟨fun h=> ?_,fun h mi=> ?_⟩
 ·have hb:kN J=false:=by
   rw[←Bool.not_eq_true,r6]
   intro hb
   simp[kN] at h
   omega
  rw[GU hb];exact⟨rfl,rfl⟩
 ·have hb:kN J=true:=by
   rw[r6]
   simp[kN] at h
   omega
  have ed:=r6.1 hb
  refine⟨di (dt _),fun h5 po=> ?_⟩
  unfold My
  refine⟨fun hl Bt=> ?_,fun hS=> ?_⟩
  case refine_2=>
   rw[Ho]
   refine⟨⟨ch po hS,fun mP=> ?_⟩,fun fi=>c0 (cD mi) po hS (not_eq fi)⟩
   rw[OH hb (p0 (q:=fun s=> !bY s 0 (J.ai - 1)) po hS mP)]
   have:=po.1
   exact⟨rfl,by show h5=(h5.toNat:Int);omega⟩
  have f0:=p1 (q:=fun s=> !bY s 0 (J.ai - 1)) po hl
  refine⟨di (dt _),fun v1 pq=> ?_⟩
  unfold Mx
  refine⟨fun bx=> ?_,fun k1=> ?_⟩
  case refine_2=>
   refine⟨⟨ch pq k1,  fun mP=> ?_⟩,fun fi=>c0 (cD Bt) pq k1 (not_eq fi)⟩
   rw[OI hb f0 (p0 (q:=fun w=> !gW J w) pq k1 mP)]
   have:=pq.1
   exact⟨rfl,by show v1=(v1.toNat:Int);omega⟩
  have f1:=p1 (q:=fun w=> !gW J w) pq bx
  rw[GV hb f0 f1]
  refine⟨fun hm cm=> ?_,fun⟨hm,cm⟩=> ?_⟩
  ·have cm:J.bU.length≠J.O.length:=by
    intro e;rw[e] at cm;simp at cm
   rw[OG cm];exact⟨rfl,rfl⟩
  have aL:J.bU.length=J.O.length:=by
   have:(J.bU.length:Int)=J.O.length:=by simpa using cm
   omega
  refine⟨di (dt _),fun v2 n1=> ?_⟩
  unfold Mw
  refine⟨fun e2=> ?_,fun hv2=> ?_⟩
  case refine_2=>
   have oK:(((nth J.bU v2).length:Int) !=(J.O.length:Int))=decide ((nth J.bU v2).length≠J.O.length):=by
    rw[Bool.eq_iff_iff];simp;omega
   unfold Mv
   rw[oK]
   refine⟨⟨ch n1 hv2,fun aJ mP=> ?_⟩,fun⟨aJ,fi⟩=>c0 (cD hm) n1 hv2 (not_eq fi)⟩
   rw[OE aL (p0 (q:=fun b=>decide (b.length≠J.O.length)) n1 hv2 mP)]
   have:=n1.1
   exact⟨rfl,by show v2=(v2.toNat:Int);omega⟩
  have f2:=p1 (q:=fun b:List Bool=>decide (b.length≠J.O.length)) n1 e2
  have zC: ∀i:Int,0≤i→i<J.O.length→(nth J.bU i).length=J.O.length:=fun i i0 i1=>by
   have:=gL n1 e2 i i0 (by omega)
   simpa using this
  refine⟨di (dt _),fun m8 n3=>⟨fun dS=> ?_,fun BD=> ?_⟩⟩
  ·skip
   rw[GS aL f2 (KU fun j cq fc=>gL n3 dS j cq fc)]
   exact⟨rfl,rfl⟩
  ·have wN:m8<(J.O.length:Int):=by simpa using BD
   have oJ:=n3.1
   refine⟨di (dt _),fun v4 pr=> ?_⟩
   unfold Mu Mt
   rw[JM n3.1 pr.1]
   have qn:=pr.1
   refine⟨fun iM=>c0 (by omega) n3 BD (N9 fun j cq fc=>gL pr iM j cq fc),fun yT=> ?_⟩
   have yU:v4<(J.O.length:Int):=by simpa using yT
   have fC:=zC m8 n3.1 wN
   have u2:=zC v4 pr.1 yU
   refine⟨⟨⟨⟨oJ,by omega⟩,⟨qn,by omega⟩,⟨qn,by omega⟩,⟨oJ,by omega⟩,fun _ _=>⟨⟨oJ,by omega⟩,⟨qn,by omega⟩,fun _=>⟨⟨oJ,by omega⟩,⟨qn,by omega⟩⟩⟩⟩,fun mP=> ?_⟩,fun fi=>c0 (by omega) pr yT (not_eq fi)⟩
   rw[OF aL f2 (KV oJ wN (fun j cq fc=>n3.2.2 j cq fc) (JE qn yU mP))]
   exact⟨rfl,by show m8=(m8.toNat:Int);omega⟩)
def Yc:dY Try.prog:=⟨26,[.c8],[.fault],none,fun x=>((hJ x.1),()),fun x h=>Yb x.1⟩
def acW:List Item:=[av 0,av 1,av 2,av 3,av 4,av 5,av 6,av 7,av 8,av 9,av 10,av 11,av 12,av 13,av 14,av 15,av 16,av 17,av 18,av 19,av 20,av 21,av 22,av 23,av 24,av 25,av 26,av 27,av 28,av 29,av 30,av 31,av 32,av 33]
def acX:List (List Nat):=[[],[],[1],[],[1,2,3],rg 1 5,[],rg 1 7,rg 1 8,rg 0 9,rg 0 10,rg 0 11,rg 0 11,rg 0 13,rg 0 14,rg 0 15,rg 0 16,rg 0 17,rg 0 18,rg 0 19,rg 0 20,rg 0 19,rg 0 22,rg 0 23,rg 0 24,rg 0 19,rg 0 19++[25],rg 0 19,rg 0 19++[25,26,27],rg 0 19++rg 25 29,rg 0 19++rg 25 30,rg 0 31,rg 0 32,rg 0 33]
def Qh (J:az) (al:jb) (hy fD:Int):Prop:=
  ((0≤hy∧hy.toNat<J.bU.length)∧((0≤fD∧fD.toNat<(nth J.bU hy).length)∧(((nth (nth J.bU fD) hy) !=(nth (nth J.bU hy) fD))=false→(fD !=hy)=true→(!(nth (nth J.bU fD) hy))=true→(0≤fD∧fD.toNat<J.O.length)∧(0≤hy∧hy.toNat<J.O.length))))∧((((nth (nth J.bU fD) hy) !=(nth (nth J.bU hy) fD)) || ((fD !=hy)&&((!(nth (nth J.bU fD) hy))&&(meets (nth J.O fD).ai (nth J.O hy).ai))))=true→(5=al.code)∧(fD=al.pos))
def Qi (dr:hN Prop) (du:hN Nat) (J:az) (al:jb) (fu gq hA hy fD:Int):Prop:=
  ((0≤hy∧hy.toNat<(nth J.bU fD).length)∧(Qh J al hy fD))∧((!(((nth (nth J.bU fD) hy) !=(nth (nth J.bU hy) fD)) || ((fD !=hy)&&((!(nth (nth J.bU fD) hy))&&(meets (nth J.O fD).ai (nth J.O hy).ai)))))=true→dr fu gq hA fD (IntKind.i64.wrap (hy+1))∧du fu gq hA fD (IntKind.i64.wrap (hy+1))<du fu gq hA fD hy)
def Qj (cg:ic Prop) (cd:ic Nat) (dr:hN Prop) (du:hN Nat) (J:az) (al:jb) (fu gq hA fD:Int):Prop:=
  (nth J.bU fD).length≤4611686018427387904→dr fu gq hA fD 0∧ ∀(hy:Int),dr fu gq hA fD hy→(((decide (hy<((nth J.bU fD).length:Int)))=false→cg fu gq hA (IntKind.i64.wrap (fD+1))∧cd fu gq hA (IntKind.i64.wrap (fD+1))<cd fu gq hA fD)∧((decide (hy<((nth J.bU fD).length:Int)))=true→Qi dr du J al fu gq hA hy fD))
def Qk (bG:dM Prop) (bD:dM Nat) (J:az) (al:jb) (fu gq hA:Int):Prop:=
  ((0≤hA∧hA.toNat<J.bU.length)∧((nth J.bU hA).length≤4611686018427387904→(((nth J.bU hA).length:Int) !=(J.O.length:Int))=true→(4=al.code)∧(hA=al.pos)))∧(((nth J.bU hA).length≤4611686018427387904)∧((!(((nth J.bU hA).length:Int) !=(J.O.length:Int)))=true)→bG fu gq (IntKind.i64.wrap (hA+1))∧bD fu gq (IntKind.i64.wrap (hA+1))<bD fu gq hA)
def Ql (bG:dM Prop) (bD:dM Nat) (cg:ic Prop) (cd:ic Nat) (dr:hN Prop) (du:hN Nat) (J:az) (al:jb) (fu gq hA:Int):Prop:=
  ((decide (hA<(J.bU.length:Int)))=false→cg fu gq hA 0∧ ∀(fD:Int),cg fu gq hA fD→(((decide (fD<(J.bU.length:Int)))=false→(0=al.code)∧(0=al.pos))∧((decide (fD<(J.bU.length:Int)))=true→(0≤fD∧fD.toNat<J.bU.length)∧(Qj cg cd dr du J al fu gq hA fD))))∧((decide (hA<(J.bU.length:Int)))=true→Qk bG bD J al fu gq hA)
def Qm (aY:Int→Int→Prop) (a0:Int→Int→Nat) (bG:dM Prop) (bD:dM Nat) (cg:ic Prop) (cd:ic Nat) (dr:hN Prop) (du:hN Nat) (J:az) (al:jb) (fu gq:Int):Prop:=
  ((decide (gq<(J.O.length:Int)))=false→(J.bU.length≤4611686018427387904→((J.bU.length:Int) !=(J.O.length:Int))=true→(4=al.code)∧(0=al.pos))∧((J.bU.length≤4611686018427387904)∧((!((J.bU.length:Int) !=(J.O.length:Int)))=true)→bG fu gq 0∧ ∀(hA:Int),bG fu gq hA→(Ql bG bD cg cd dr du J al fu gq hA)))∧((decide (gq<(J.O.length:Int)))=true→((0≤gq∧gq.toNat<J.O.length)∧((G0 J (nth J.O gq))∧((!(gW J (nth J.O gq)))=true→(3=al.code)∧(gq=al.pos))))∧((!(!(gW J (nth J.O gq))))=true→aY fu (IntKind.i64.wrap (gq+1))∧a0 fu (IntKind.i64.wrap (gq+1))<a0 fu gq))
def Qn (ay:Int→Prop) (aA:Int→Nat) (aY:Int→Int→Prop) (a0:Int→Int→Nat) (bG:dM Prop) (bD:dM Nat) (cg:ic Prop) (cd:ic Nat) (dr:hN Prop) (du:hN Nat) (J:az) (al:jb) (fu:Int):Prop:=
  ((decide (fu<(J.be.length:Int)))=false→J.O.length≤4611686018427387904→aY fu 0∧ ∀(gq:Int),aY fu gq→(Qm aY a0 bG bD cg cd dr du J al fu gq))∧((decide (fu<(J.be.length:Int)))=true→((0≤fu∧fu.toNat<J.be.length)∧((!(bY (nth J.be fu) 0 (IntKind.i64.wrap (J.ai - 1))))=true→(2=al.code)∧(fu=al.pos)))∧((!(!(bY (nth J.be fu) 0 (IntKind.i64.wrap (J.ai - 1)))))=true→ay (IntKind.i64.wrap (fu+1))∧aA (IntKind.i64.wrap (fu+1))<aA fu))
def Qo (ay:Int→Prop) (aA:Int→Nat) (aY:Int→Int→Prop) (a0:Int→Int→Nat) (bG:dM Prop) (bD:dM Nat) (cg:ic Prop) (cd:ic Nat) (dr:hN Prop) (du:hN Nat) (J:az) (al:jb):Prop:=
  (((!(bY J.ai 1 60)) || ((decide ((J.be.length:Int)>40)) || ((decide ((J.O.length:Int)>100)) || (!(bY J.dn 1 300)))))=true→(1=al.code)∧(0=al.pos))∧((!((!(bY J.ai 1 60)) || ((decide ((J.be.length:Int)>40)) || ((decide ((J.O.length:Int)>100)) || (!(bY J.dn 1 300))))))=true→J.be.length≤4611686018427387904→ay 0∧ ∀(fu:Int),ay fu→(Qn ay aA aY a0 bG bD cg cd dr du J al fu))
def Qg (J:az) (al:jb) (ay:Int→Prop) (aA:Int→Nat) (aY:Int→Int→Prop) (a0:Int→Int→Nat) (bG:dM Prop) (bD:dM Nat) (cg:ic Prop) (cd:ic Nat) (dr:hN Prop) (du:hN Nat):Prop:=
 Qo ay aA aY a0 bG bD cg cd dr du J al
theorem acU (J:az):bX Try.prog 24 [.agg (bq false J)] (.agg (DV (hJ J))):=(fun(ay:Int→Prop) (aA:Int→Nat) (aY:Int→Int→Prop) (a0:Int→Int→Nat) (bG:dM Prop) (bD:dM Nat) (cg:ic Prop) (cd:ic Nat) (dr:hN Prop) (du:hN Nat) (h:Qg J (hJ J) ay aA aY a0 bG bD cg cd dr du)=>bX.run (ps:=[.c8]) (rs:=[.fault]) (x:=(J,())) (r:=((hJ J),())) ⟨147,dZ,[xB,zS,ade]⟩ ⟨[73,78,88,95],[(29,acW,acX)],[],[],[]⟩ (e8 [1,2,37,38] [(2,2),(1,5)] 39 ay aA fun aS=>(e8 [1,2,54,55] [(2,2),(1,5)] 56 (aY aS) (a0 aS) fun bN=>(e8 [1,2,77,78] [(2,2),(1,5)] 79 (bG aS bN) (bD aS bN) fun cc=>(e8 [1,2,94,95] [(2,2),(1,5)] 96 (cg aS bN cc) (cd aS bN cc) fun eQ=>(e8 [1,2,9,94,95,96,101,102] [(2,2),(1,5)] 103 (dr aS bN cc eQ) (du aS bN cc eQ) fun _=> .nil))))) Try.func24 h) (cv J.be.length (fun j=> !bY (nth J.be j) 0 (J.ai - 1))) (cG J.be.length) (fun _=>cv J.O.length (fun j=> !gW J (nth J.O j))) (fun _=>cG J.O.length) (fun _ _=>cv J.bU.length (fun j=>decide ((nth J.bU j).length≠J.O.length))) (fun _ _=>cG J.bU.length) (fun _ _ _=>cv J.O.length (fun i=>(List.range J.O.length).any fun k=>nQ J i.toNat k)) (fun _ _ _=>cG J.O.length) (fun _ _ _ i=>cv J.O.length (fun k=>nQ J i.toNat k.toNat)) (fun _ _ _ _=>cG J.O.length) (by
 unfold Qg Qo
 refine⟨fun h=> ?_,fun h mi=> ?_⟩
 ·have hb:kN J=false:=by
   rw[←Bool.not_eq_true,r6]
   intro hb
   simp[bY] at h
   omega
  rw[GU hb];exact⟨rfl,rfl⟩
 ·have hb:kN J=true:=by
   rw[r6]
   simp[bY] at h
   omega
  have ed:=r6.1 hb
  refine⟨di (dt _),fun h5 po=> ?_⟩
  unfold Qn
  refine⟨fun hl Bt=> ?_,fun hS=> ?_⟩
  case refine_2=>
   rw[fm (n:=J.ai - 1) (by omega) (by omega)]
   refine⟨⟨ch po hS,fun mP=> ?_⟩,fun fi=>c0 (cD mi) po hS (not_eq fi)⟩
   rw[OH hb (p0 (q:=fun s=> !bY s 0 (J.ai - 1)) po hS mP)]
   have:=po.1
   exact⟨rfl,by show h5=(h5.toNat:Int);omega⟩
  have f0:=p1 (q:=fun s=> !bY s 0 (J.ai - 1)) po hl
  refine⟨di (dt _),fun v1 pq=> ?_⟩
  unfold Qm
  refine⟨fun bx=> ?_,fun k1=> ?_⟩
  case refine_2=>
   refine⟨⟨ch pq k1,⟨by omega,by omega⟩,fun mP=> ?_⟩,fun fi=>c0 (cD Bt) pq k1 (not_eq fi)⟩
   rw[OI hb f0 (p0 (q:=fun w=> !gW J w) pq k1 mP)]
   have:=pq.1
   exact⟨rfl,by show v1=(v1.toNat:Int);omega⟩
  have f1:=p1 (q:=fun w=> !gW J w) pq bx
  rw[GV hb f0 f1]
  refine⟨fun hm cm=> ?_,fun⟨hm,cm⟩=> ?_⟩
  ·have cm:J.bU.length≠J.O.length:=by
    intro e;rw[e] at cm;simp at cm
   rw[OG cm];exact⟨rfl,rfl⟩
  have aL:J.bU.length=J.O.length:=by
   have:(J.bU.length:Int)=J.O.length:=by simpa using cm
   omega
  refine⟨di (dt _),fun v2 n1=> ?_⟩
  unfold Ql
  refine⟨fun e2=> ?_,fun hv2=> ?_⟩
  case refine_2=>
   have oK:(((nth J.bU v2).length:Int) !=(J.O.length:Int))=decide ((nth J.bU v2).length≠J.O.length):=by
    rw[Bool.eq_iff_iff];simp;omega
   unfold Qk
   rw[oK]
   refine⟨⟨ch n1 hv2,fun aJ mP=> ?_⟩,fun⟨aJ,fi⟩=>c0 (cD hm) n1 hv2 (not_eq fi)⟩
   rw[OE aL (p0 (q:=fun b=>decide (b.length≠J.O.length)) n1 hv2 mP)]
   have:=n1.1
   exact⟨rfl,by show v2=(v2.toNat:Int);omega⟩
  have f2:=p1 (q:=fun b:List Bool=>decide (b.length≠J.O.length)) n1 e2
  have zC: ∀i:Int,0≤i→i<J.O.length→(nth J.bU i).length=J.O.length:=fun i i0 i1=>by
   have:=gL n1 e2 i i0 (by omega)
   simpa using this
  refine⟨di (dt _),fun m8 n3=>⟨fun dS=> ?_,fun BD=> ?_⟩⟩
  ·have dS:decide (m8<(J.O.length:Int))=false:=by rw[←aL];exact dS
   rw[GS aL f2 (KU fun j cq fc=>gL n3 dS j cq fc)]
   exact⟨rfl,rfl⟩
  ·have wN:m8<(J.O.length:Int):=by rw[←aL];simpa using BD
   have oJ:=n3.1
   have fC:=zC m8 n3.1 wN
   refine⟨⟨oJ,by omega⟩,?_⟩
   unfold Qj
   rw[fC]
   intro _
   refine⟨di (dt _),fun v4 pr=> ?_⟩
   unfold Qi Qh
   rw[JM n3.1 pr.1,fC]
   have qn:=pr.1
   refine⟨fun iM=>c0 (by omega) n3 (by simpa using wN) (N9 fun j cq fc=>gL pr iM j cq fc),fun yT=> ?_⟩
   have yU:v4<(J.O.length:Int):=by simpa using yT
   have u2:=zC v4 pr.1 yU
   refine⟨⟨⟨qn,by omega⟩,⟨⟨qn,by omega⟩,⟨oJ,by omega⟩,fun _ _ _=>⟨⟨oJ,by omega⟩,⟨qn,by omega⟩⟩⟩,fun mP=> ?_⟩,fun fi=>c0 (by omega) pr yT (not_eq fi)⟩
   rw[OF aL f2 (KV oJ wN (fun j cq fc=>n3.2.2 j cq fc) (JE qn yU mP))]
   exact⟨rfl,by show m8=(m8.toNat:Int);omega⟩)
def acV:dY Try.prog:=⟨24,[.c8],[.fault],none,fun x=>((hJ x.1),()),fun x h=>acU x.1⟩
def ac_ (J:az) (al:Bool):Prop:=
 ((hJ J).code==0)=al
theorem Ie (J:az):bX Try.prog 77 [.agg (bq false J)] (ao (ek J)):=(fun(h:ac_ J (ek J))=>bX.run (ps:=[.c8]) (rs:=[.bool]) (x:=(J,())) (r:=((ek J),())) ⟨9,dZ,[acV]⟩ ⟨[],[],[],[],[]⟩ .nil Try.func77 h) (by
 exact aaO J)
def ada:dY Try.prog:=⟨77,[.c8],[.bool],none,fun x=>((ek x.1),()),fun x h=>Ie x.1⟩
def QH (J:az) (M:Event) (al:Bool):Prop:=
  ((M.op==5)=true→J.be.length≤4611686018427387904→((bY M.ah 0 (IntKind.i64.wrap ((J.be.length:Int) - 1)))&&(bY M.bk 0 2))=al)∧((M.op==5)=false→((M.op==6)=true→J.be.length≤4611686018427387904→((bY M.ah 0 (IntKind.i64.wrap ((J.be.length:Int) - 1)))&&(bY M.bk 1 2))=al)∧((M.op==6)=false→(M.op==7)=true→((M.ah==0)&&(M.bk==0))=al))
def QI (J:az) (M:Event) (al:Bool):Prop:=
  ((bif (M.op==1) then(M.op==1) else(M.op==2))=true→J.O.length≤4611686018427387904→((bY M.ah 0 (IntKind.i64.wrap ((J.O.length:Int) - 1)))&&(M.bk==0))=al)∧((bif (M.op==1) then(M.op==1) else(M.op==2))=false→((bif (M.op==3) then(M.op==3) else(M.op==4))=true→((bY M.ah 0 (IntKind.i64.wrap (J.ai - 1)))&&(M.bk==0))=al)∧((bif (M.op==3) then(M.op==3) else(M.op==4))=false→QH J M al))
def QG (J:az) (M:Event) (al:Bool):Prop:=
 (QI J M al)∧((!(bif (M.op==1) then(M.op==1) else(M.op==2))&&(!(bif (M.op==3) then(M.op==3) else(M.op==4))&&(!(M.op==5)&&(!(M.op==6)&&(!(M.op==7))))))=true→false=al)
theorem adq (J:az) (M:Event) (aG:OM J M):bX Try.prog 78 [.agg (bq false J),.agg (iN M)] (ao (e5 J M)):=(fun(h:QG J M (e5 J M))=>bX.run (ps:=[.c8,.fE]) (rs:=[.bool]) (x:=(J,M,())) (r:=((e5 J M),())) ⟨74,dZ,[xB]⟩ ⟨[],[],[],[],[]⟩ .nil Try.func78 h) (by
 have aG: -9223372036854775808<J.ai∧J.ai≤9223372036854775807:=aG
 unfold QG QI QH
 rw[zj,zj,qa,qa,qa,qa,qa]
 simp only[decide_eq_true_eq,decide_eq_false_iff_not]
 refine⟨⟨fun h aL=> ?_,fun h1=>⟨fun h=> ?_,fun aO=>⟨fun h aL=> ?_,fun cb=>⟨fun h aL=> ?_,fun cE h=> ?_⟩⟩⟩⟩,fun h=> ?_⟩
 ·rw[fm (by omega) (by omega),D7 h]
 ·rw[fm (by omega) (by omega),D8 h1 h]
 ·rw[fm (by omega) (by omega),AR h]
 ·rw[fm (by omega) (by omega),AS h]
 ·rw[Ky h]
 ·simp only[Bool.and_eq_true,Bool.not_eq_true',decide_eq_false_iff_not] at h
  exact(KA h.1 h.2.1 h.2.2.1 h.2.2.2.1 h.2.2.2.2).symm)
def Y1 (J:az) (al:Bool):Prop:=
 ((hJ J).code==0&&(hJ J).pos==0)=al
theorem Y2 (J:az):bX Try.prog 60 [.agg (bq false J)] (ao (ek J)):=(fun(h:Y1 J (ek J))=>bX.run (ps:=[.c8]) (rs:=[.bool]) (x:=(J,())) (r:=((ek J),())) ⟨7,dZ,[Yc]⟩ ⟨[],[],[],[],[]⟩ .nil Try.func60 h) (by
 exact aaN J)
def Y3:dY Try.prog:=⟨60,[.c8],[.bool],none,fun x=>((ek x.1),()),fun x h=>Y2 x.1⟩
def YB (J:Int) (M:Event) (al:Bool):Prop:=
 ((decide (M.ah ≥ 0))&&(decide (M.ah<J)))=al
theorem YC (J:Int) (M:Event):bX Try.prog 122 [ag J,.dv (iN M) 0] (ao (qE J M)):=(fun(h:YB J M (qE J M))=>bX.run (ps:=[.int,(.ptr .fE)]) (rs:=[.bool]) (x:=(J,M,())) (r:=((qE J M),())) ⟨13,dZ,[]⟩ ⟨[],[],[],[],[]⟩ .nil Try.func122 h) (by
 rfl)
def YD:dY Try.prog:=⟨122,[.int,(.ptr .fE)],[.bool],none,fun x=>((qE x.1 x.2.1),()),fun x h=>YC x.1 x.2.1⟩
def MS (J:az) (M:Event) (al:Bool):Prop:=
  ((M.op==5)=true→J.be.length≤4611686018427387904→((qE (J.be.length:Int) M)&&((decide (M.bk ≥ 0))&&(decide (M.bk≤2))))=al)∧((M.op==5)=false→((M.op==6)=true→J.be.length≤4611686018427387904→((qE (J.be.length:Int) M)&&((decide (M.bk ≥ 1))&&(decide (M.bk≤2))))=al)∧((M.op==6)=false→(M.op==7)=true→((M.ah==0)&&(M.bk==0))=al))
def MT (J:az) (M:Event) (al:Bool):Prop:=
  ((bif (M.op==1) then(M.op==1) else(M.op==2))=true→J.O.length≤4611686018427387904→((qE (J.O.length:Int) M)&&(M.bk==0))=al)∧((bif (M.op==1) then(M.op==1) else(M.op==2))=false→((bif (M.op==3) then(M.op==3) else(M.op==4))=true→((qE J.ai M)&&(M.bk==0))=al)∧((bif (M.op==3) then(M.op==3) else(M.op==4))=false→MS J M al))
def MR (J:az) (M:Event) (al:Bool):Prop:=
 (MT J M al)∧((!(bif (M.op==1) then(M.op==1) else(M.op==2))&&(!(bif (M.op==3) then(M.op==3) else(M.op==4))&&(!(M.op==5)&&(!(M.op==6)&&(!(M.op==7))))))=true→false=al)
theorem YE (J:az) (M:Event):bX Try.prog 62 [.agg (bq false J),.agg (iN M)] (ao (e5 J M)):=(fun(h:MR J M (e5 J M))=>bX.run (ps:=[.c8,.fE]) (rs:=[.bool]) (x:=(J,M,())) (r:=((e5 J M),())) ⟨78,dZ,[YD]⟩ ⟨[],[],[],[],[]⟩ .nil Try.func62 h) (by
 unfold MR MT MS
 rw[zj,zj,qa,qa,qa,qa,qa,I7,I7,I7]
 simp only[decide_eq_true_eq,decide_eq_false_iff_not]
 refine⟨⟨fun h aL=> ?_,fun h1=>⟨fun h=> ?_,fun aO=>⟨fun h aL=> ?_,fun cb=>⟨fun h aL=> ?_,fun cE h=> ?_⟩⟩⟩⟩,fun h=> ?_⟩
 ·rw[D7 h]
 ·rw[D8 h1 h]
 ·rw[AR h];rfl
 ·rw[AS h];rfl
 ·rw[Ky h]
 ·simp only[Bool.and_eq_true,Bool.not_eq_true',decide_eq_false_iff_not] at h
  exact(KA h.1 h.2.1 h.2.2.1 h.2.2.2.1 h.2.2.2.2).symm)
def YF:dY Try.prog:=⟨62,[.c8,.fE],[.bool],none,fun x=>((e5 x.1 x.2.1),()),fun x h=>YE x.1 x.2.1⟩
noncomputable def ab2:Code:=iz Try.f120
def HJ (J:(List Bool)) (al:(List Bool)):Prop:=
 (J≠[]→(J.length*1≤140737488355328∧J.length≤4611686018427387904)∧(J=al))∧(J=[]→ ∀dg:Bool,(dg=true→[]=al)∧(dg=false→(J.length*1≤140737488355328∧J.length≤4611686018427387904)∧(J=al)))
theorem ab3 (J:(List Bool)) (al:(List Bool)) (h:HJ J al):dF Try.prog 120 [bE aW J] [] (fun r H=>r=ak 0 0 al.length∧H=[⟨0,1,List.map aW al⟩]):=by
 refine dF.toOwn ?_
 unfold HJ at h
 refine dF.go (fn:=Try.f120) [(0,bE aW J)] Try.func120 (fun _ _=> ?_)
 show WpS _ (bT ab2 1) _ ⟨bf 8 [(0,bE aW J)],[],[]⟩
 refine ev [] 0 [(2,aH)] [] [1] ?_
 refine hP ?_
 refine hP ?_
 refine bJ [] 1 ?_
 refine Hx 2 (some 4) [(3,bE aW J)] aW J (fun hx=> ?_) (fun hx dg=> ?_)
 ·
  replace h:=h.1 hx
  refine dX [] ?_
  refine ec.normal ?_
  refine sv (.tmp 4) false (fun q3=> ?_) (fun q3=> ?_)
  ·
   cases q3
  ·
   refine ew ?_
   refine ec.normal ?_
   obtain⟨cY,h⟩:=h
   refine ka ⟨(bf 8 [(2,ak 0 0 J.length)]),[],[⟨0,1,List.map aW J⟩]⟩ (True) ?_ (fun q4=> ?_)
   ·
    replace h:=cY
    refine bJ [] 3 ?_
    have cL:=h
    refine qW 3 (some 7) [(6,bE aW J),(5,aH)] aW J (k8 false (List.map aW J)) 0 1 1 (fun r=>[⟨0,1,r⟩]) rfl cL ?_
    exact b1 [(2,ak 0 0 J.length)] trivial
   refine hC ?_
   refine ms (ak 0 0 J.length) [ak 0 0 J.length] ?_
   exact⟨o4 [some 0],qL [some 0] rfl (by decide) ⟨rfl,(qT (b:=0) (g:=0) (sz:=1) (xs:=J) (ys:=al) rfl zh h),trivial⟩,(.inr (uQ (by simp) rfl rfl (by have:=congrArg List.length h;simpa using this)))⟩
 ·
  replace h:=h.2 hx dg
  refine dX [] ?_
  refine ec.normal ?_
  refine sv (.tmp 4) dg (fun fL=> ?_) (fun fL=> ?_)
  ·
   replace h:=h.1 fL
   refine ka ⟨(bf 8 [(2,aH)]),[],[]⟩ (True) ?_ (fun fB=> ?_)
   ·
    refine bJ [] 2 ?_
    exact b1 [(2,aH)] trivial
   refine hC ?_
   refine ec.ret ?_
   refine ms (aH) [aH] ?_
   exact⟨o4 [none],qL [none] rfl (by decide) ⟨rfl,trivial,trivial⟩,(.inr (GO (by simp) rfl rfl (by rw[←h];rfl)))⟩
  ·
   replace h:=h.2 fL
   refine ew ?_
   refine ec.normal ?_
   obtain⟨hY,h⟩:=h
   refine ka ⟨(bf 8 [(2,ak 0 0 J.length)]),[],[⟨0,1,List.map aW J⟩]⟩ (True) ?_ (fun jr=> ?_)
   ·
    replace h:=hY
    refine bJ [] 3 ?_
    have gB:=h
    refine qW 3 (some 7) [(6,bE aW J),(5,aH)] aW J (k8 false (List.map aW J)) 0 1 1 (fun r=>[⟨0,1,r⟩]) rfl gB ?_
    exact b1 [(2,ak 0 0 J.length)] trivial
   refine hC ?_
   refine ms (ak 0 0 J.length) [ak 0 0 J.length] ?_
   exact⟨o4 [some 0],qL [some 0] rfl (by decide) ⟨rfl,(qT (b:=0) (g:=0) (sz:=1) (xs:=J) (ys:=al) rfl zh h),trivial⟩,(.inr (uQ (by simp) rfl rfl (by have:=congrArg List.length h;simpa using this)))⟩
theorem PP (J:(List Bool)) (aG:small J):dF Try.prog 120 [bE aW J] [] (fun r H=>r=ak 0 0 (aa J).length∧H=[⟨0,1,List.map aW (aa J)⟩]):=ab3 J (aa J) (by
 have aG:J.length≤1048576:=aG
 unfold HJ
 exact⟨fun h=>⟨⟨by omega,by omega⟩,rfl⟩,fun h b=>⟨fun _=>h.symm,fun _=>⟨⟨by omega,by omega⟩,rfl⟩⟩⟩)
noncomputable def abY:Code:=iz Try.f121
def HI (J:(List bd)) (al:(List bd)):Prop:=
 (J≠[]→(J.length*16≤140737488355328∧J.length≤4611686018427387904)∧(J=al))∧(J=[]→ ∀dg:Bool,(dg=true→[]=al)∧(dg=false→(J.length*16≤140737488355328∧J.length≤4611686018427387904)∧(J=al)))
theorem abZ (J:(List bd)) (al:(List bd)) (h:HI J al):dF Try.prog 121 [bE a5 J] [] (fun r H=>r=ak 0 0 al.length∧H=[⟨0,2,List.map a5 al⟩]):=by
 refine dF.toOwn ?_
 unfold HI at h
 refine dF.go (fn:=Try.f121) [(0,bE a5 J)] Try.func121 (fun _ _=> ?_)
 show WpS _ (bT abY 1) _ ⟨bf 8 [(0,bE a5 J)],[],[]⟩
 refine ev [] 0 [(2,aH)] [] [1] ?_
 refine hP ?_
 refine hP ?_
 refine bJ [] 1 ?_
 refine Hx 2 (some 4) [(3,bE a5 J)] a5 J (fun hx=> ?_) (fun hx dg=> ?_)
 ·
  replace h:=h.1 hx
  refine dX [] ?_
  refine ec.normal ?_
  refine sv (.tmp 4) false (fun q3=> ?_) (fun q3=> ?_)
  ·
   cases q3
  ·
   refine ew ?_
   refine ec.normal ?_
   obtain⟨cY,h⟩:=h
   refine ka ⟨(bf 8 [(2,ak 0 0 J.length)]),[],[⟨0,2,List.map a5 J⟩]⟩ (True) ?_ (fun q4=> ?_)
   ·
    replace h:=cY
    refine bJ [] 3 ?_
    have cL:=h
    refine qW 3 (some 7) [(6,bE a5 J),(5,aH)] a5 J (k8 false (List.map a5 J)) 0 2 16 (fun r=>[⟨0,2,r⟩]) rfl cL ?_
    exact b1 [(2,ak 0 0 J.length)] trivial
   refine hC ?_
   refine ms (ak 0 0 J.length) [ak 0 0 J.length] ?_
   exact⟨o4 [some 0],qL [some 0] rfl (by decide) ⟨rfl,(qT (b:=0) (g:=0) (sz:=2) (xs:=J) (ys:=al) rfl GI h),trivial⟩,(.inr (uQ (by simp) rfl rfl (by have:=congrArg List.length h;simpa using this)))⟩
 ·
  replace h:=h.2 hx dg
  refine dX [] ?_
  refine ec.normal ?_
  refine sv (.tmp 4) dg (fun fL=> ?_) (fun fL=> ?_)
  ·
   replace h:=h.1 fL
   refine ka ⟨(bf 8 [(2,aH)]),[],[]⟩ (True) ?_ (fun fB=> ?_)
   ·
    refine bJ [] 2 ?_
    exact b1 [(2,aH)] trivial
   refine hC ?_
   refine ec.ret ?_
   refine ms (aH) [aH] ?_
   exact⟨o4 [none],qL [none] rfl (by decide) ⟨rfl,trivial,trivial⟩,(.inr (GO (by simp) rfl rfl (by rw[←h];rfl)))⟩
  ·
   replace h:=h.2 fL
   refine ew ?_
   refine ec.normal ?_
   obtain⟨hY,h⟩:=h
   refine ka ⟨(bf 8 [(2,ak 0 0 J.length)]),[],[⟨0,2,List.map a5 J⟩]⟩ (True) ?_ (fun jr=> ?_)
   ·
    replace h:=hY
    refine bJ [] 3 ?_
    have gB:=h
    refine qW 3 (some 7) [(6,bE a5 J),(5,aH)] a5 J (k8 false (List.map a5 J)) 0 2 16 (fun r=>[⟨0,2,r⟩]) rfl gB ?_
    exact b1 [(2,ak 0 0 J.length)] trivial
   refine hC ?_
   refine ms (ak 0 0 J.length) [ak 0 0 J.length] ?_
   exact⟨o4 [some 0],qL [some 0] rfl (by decide) ⟨rfl,(qT (b:=0) (g:=0) (sz:=2) (xs:=J) (ys:=al) rfl GI h),trivial⟩,(.inr (uQ (by simp) rfl rfl (by have:=congrArg List.length h;simpa using this)))⟩
theorem abX (J:(List bd)) (aG:small J):dF Try.prog 121 [bE a5 J] [] (fun r H=>r=ak 0 0 (aa J).length∧H=[⟨0,2,List.map a5 (aa J)⟩]):=abZ J (aa J) (by
 have aG:J.length≤1048576:=aG
 unfold HI
 exact⟨fun h=>⟨⟨by omega,by omega⟩,rfl⟩,fun h b=>⟨fun _=>h.symm,fun _=>⟨⟨by omega,by omega⟩,rfl⟩⟩⟩)
def PQ (J:(List Bool)) (al:(List Bool)):Prop:=
 (J≠[]→(J.length*1≤140737488355328∧J.length≤4611686018427387904)∧(J.length≤4611686018427387904∧J=al))∧(J=[]→ ∀dg:Bool,(dg=true→[]=al)∧(dg=false→(J.length*1≤140737488355328∧J.length≤4611686018427387904)∧(J.length≤4611686018427387904∧J=al)))
theorem ab4 (J:(List Bool)) (aG:small J):bX Try.prog 120 [bE aW J] (hh aW (aa J)):=(fun(h:PQ J (aa J))=>bX.run (ps:=[(.l .bool)]) (rs:=[(.l .bool)]) (x:=(J,())) (r:=((aa J),())) ⟨8,dZ,[]⟩ ⟨[],[],[],[],[]⟩ .nil Try.func120 h) (by
 have aG:J.length≤1048576:=aG
 unfold PQ
 exact⟨fun h=>⟨⟨by omega,by omega⟩,by omega,rfl⟩,fun h b=>⟨fun _=>h.symm,fun _=>⟨⟨by omega,by omega⟩,by omega,rfl⟩⟩⟩)
def ab5:dY Try.prog:=⟨120,[(.l .bool)],[(.l .bool)],some fun x=>small x.1,fun x=>((aa x.1),()),fun x h=>ab4 x.1 h⟩
def PO (J:(List bd)) (al:(List bd)):Prop:=
 (J≠[]→(J.length*16≤140737488355328∧J.length≤4611686018427387904)∧(J.length≤4611686018427387904∧J=al))∧(J=[]→ ∀dg:Bool,(dg=true→[]=al)∧(dg=false→(J.length*16≤140737488355328∧J.length≤4611686018427387904)∧(J.length≤4611686018427387904∧J=al)))
theorem ab0 (J:(List bd)) (aG:small J):bX Try.prog 121 [bE a5 J] (hh a5 (aa J)):=(fun(h:PO J (aa J))=>bX.run (ps:=[(.l .gI)]) (rs:=[(.l .gI)]) (x:=(J,())) (r:=((aa J),())) ⟨8,dZ,[]⟩ ⟨[],[],[],[],[]⟩ .nil Try.func121 h) (by
 have aG:J.length≤1048576:=aG
 unfold PO
 exact⟨fun h=>⟨⟨by omega,by omega⟩,by omega,rfl⟩,fun h b=>⟨fun _=>h.symm,fun _=>⟨⟨by omega,by omega⟩,by omega,rfl⟩⟩⟩)
def ab1:dY Try.prog:=⟨121,[(.l .gI)],[(.l .gI)],some fun x=>small x.1,fun x=>((aa x.1),()),fun x h=>ab0 x.1 h⟩
noncomputable def FB:Code:=iz Try.f61
def Ym:List Item:=[av 0,av 1,av 2,av 3,av 5,av 6,av 9,⟨4,true,false,[0,1,5,6,9]⟩,⟨7,true,false,[0,1,9]⟩,av 8,⟨10,true,false,[]⟩]
def Yn:List (List Nat):=[[],[0],[],[2],[2,3],[],[5],rg 2 7,rg 0 8,[],rg 0 10]
abbrev ie (r:Type):Type:=List (List Bool)→Nat→Nat→List Nat→Int→List ad→r
def Fz (ay:ie Prop) (aA:ie Nat) (J:Frame) (aV:List (List Bool)) (a1 bP:Nat) (aP:List Nat) (bh:Int) (ws2:List ad):Prop:=
  ay (aV++[(aa (nth J.O bh).ac)]) (a1+1) (bP+1) (aP++[aV.length]) (IntKind.i64.wrap (bh+1)) (ws2++[(ad.mk (nth J.O bh).aq (nth J.O bh).af (aa (nth J.O bh).ac) (nth J.O bh).ap (nth J.O bh).ar)])∧aA (aV++[(aa (nth J.O bh).ac)]) (a1+1) (bP+1) (aP++[aV.length]) (IntKind.i64.wrap (bh+1)) (ws2++[(ad.mk (nth J.O bh).aq (nth J.O bh).af (aa (nth J.O bh).ac) (nth J.O bh).ap (nth J.O bh).ar)])<aA aV a1 bP aP bh ws2
def FA (ay:ie Prop) (aA:ie Nat) (J al:Frame) (aV:List (List Bool)) (a1 bP:Nat) (aP:List Nat) (bh:Int) (ws2:List ad):Prop:=
  ((decide (bh<(J.O.length:Int)))=false→J.ok=al.ok∧(aa J.au)=al.au∧(aa J.an)=al.an∧ws2=al.O∧aP=List.range ws2.length∧aV=ws2.map ad.ac)∧((decide (bh<(J.O.length:Int)))=true→((0≤bh∧bh.toNat<J.O.length)∧((small (nth J.O bh).ac)∧(ws2.length=aP.length∧((ws2.length+1)*56≤140737488355328∧ws2.length+1≤4611686018427387904))))∧(Fz ay aA J aV a1 bP aP bh ws2))
def Fy (J:Frame) (al:Frame) (ay:ie Prop) (aA:ie Nat):Prop:=
 ((small J.au)∧(small J.an))∧(J.O.length≤4611686018427387904→ay ([]:List (List Bool)) 0 0 ([]:List Nat) 0 ([]:List ad)∧ ∀(aV:List (List Bool)) (a1:Nat) (bP:Nat) (aP:List Nat) (bh:Int) (ws2:List ad),ay aV a1 bP aP bh ws2→(FA ay aA J al aV a1 bP aP bh ws2))
theorem Yo (J:Frame) (al:Frame) (ay:ie Prop) (aA:ie Nat) (h:Fy J al ay aA):dF Try.prog 61 [.agg (bS false J)] [] (fun r H=>r= .agg [ao al.ok,ak 0 0 al.au.length,ak 1 0 al.an.length,ak 2 0 al.O.length]∧H=(⟨0,1,List.map aW al.au⟩::⟨0,2,List.map a5 al.an⟩::⟨0,5,aZ 3 al.O (List.range al.O.length)⟩::List.map bi (List.map ad.ac al.O))):=by
 refine dF.toOwn ?_
 unfold Fy at h
 refine dF.go (fn:=Try.f61) [(0,.agg (bS false J))] Try.func61 (fun _ _=> ?_)
 show WpS _ (bT FB 1) _ ⟨bf 34 [(0,.agg (bS false J))],[],[]⟩
 refine qf [1000003] 0 [(2,aB 2 0),(1,aB 1 0)] [2] [] [(2,[ao false,aH,aH,aH]),(1,(bS false J))] [] ?_
 obtain⟨j1,h⟩:=h
 refine e0 [(3,aB 3 0)] [2] (fun L=>(3,[ao J.ok,ak 0 0 (aa J.au).length,ak 1 0 (aa J.an).length,aH])::L) (fun _=>[⟨0,1,List.map aW (aa J.au)⟩,⟨0,2,List.map a5 (aa J.an)⟩]) (True) ?_ (fun q2=> ?_)
 ·
  replace h:=j1
  refine ny [1000003] 1 Ym Yn [(3,[ao false,aH,aH,aH])] ?_
  obtain⟨q3,h⟩:=h
  refine I2 8 (some 10) [(3,aB 3 0),(12,bE a5 J.an),(11,aB 1 2),(9,bE aW J.au),(8,aB 1 1),(7,ao J.ok),(6,aB 1 0)] [bE aW J.au] (fun L H=>rA Try.prog (jF FB 6) [0,1,5,6,9] [(3,aB 3 0),(12,bE a5 J.an),(11,aB 1 2),(9,bE aW J.au),(8,aB 1 1),(7,ao J.ok),(6,aB 1 0),(2,aB 2 0),(1,aB 1 0)] L H) (ak 0 0 (aa J.au).length) [⟨0,1,List.map aW (aa J.au)⟩] (PP J.au q3) (aE.cons (dc.ia cW) aE.nil) (r5 (fun _=>rfl) rfl) (sf (se (fun _=>rfl) rfl) (by kernel_rfl)) (w8 (ψ:=((true=true∧true=true∧((aB 1 0:AV)=aB 1 0))∧((true=true∧true=true∧((ao J.ok:AV)=ao J.ok))∧((true=true∧true=true∧((aB 1 2:AV)=aB 1 2))∧((true=true∧true=true∧((bE a5 J.an:AV)=bE a5 J.an))∧((true=true∧true=true∧((aB 3 0:AV)=aB 3 0))∧True)))))) (by kernel_rfl) ⟨⟨rfl,rfl,rfl⟩,⟨⟨rfl,rfl,rfl⟩,⟨⟨rfl,rfl,rfl⟩,⟨⟨rfl,rfl,rfl⟩,⟨⟨rfl,rfl,rfl⟩,trivial⟩⟩⟩⟩⟩) ?_
  have q4:=h
  refine I2 1 (some 13) [] [bE a5 J.an] (fun L H=>rA Try.prog (jF FB 6) [0,1,9] [(10,ak 0 0 (aa J.au).length),(3,aB 3 0),(12,bE a5 J.an),(11,aB 1 2),(9,bE aW J.au),(8,aB 1 1),(7,ao J.ok),(6,aB 1 0),(2,aB 2 0),(1,aB 1 0)] L H) (ak 1 0 (aa J.an).length) [⟨0,1,List.map aW (aa J.au)⟩,⟨0,2,List.map a5 (aa J.an)⟩] (abX J.an q4) (aE.cons (dc.ia cW) aE.nil) (r5 (fun _=>rfl) rfl) (sf (se (fun _=>rfl) rfl) (by kernel_rfl)) (w8 (ψ:=((true=true∧true=true∧((aB 1 0:AV)=aB 1 0))∧((true=true∧true=true∧((ao J.ok:AV)=ao J.ok))∧((true=true∧true=true∧((aB 3 0:AV)=aB 3 0))∧True)))) (by kernel_rfl) ⟨⟨rfl,rfl,rfl⟩,⟨⟨rfl,rfl,rfl⟩,⟨⟨rfl,rfl,rfl⟩,trivial⟩⟩⟩) ?_
  refine I3 2 [(14,.agg [ao J.ok,ak 0 0 (aa J.au).length,ak 1 0 (aa J.an).length,aH])] [(3,[ao J.ok,ak 0 0 (aa J.au).length,ak 1 0 (aa J.an).length,aH]),(2,[ao false,aH,aH,aH]),(1,(bS false J))] [⟨0,1,List.map aW (aa J.au)⟩,⟨0,2,List.map a5 (aa J.an)⟩] (φ:=True) trivial ?_
  exact kR [] trivial
 refine hP ?_
 refine cB [(16,bE (cX false) J.O),(17,ag (J.O.length:Int)),(18,ag 0)] [2] (J.O.length≤4611686018427387904) ?_ (fun cL=> ?_)
 ·
  refine bJ [1000003] 2 ?_
  refine sLen 3 (some 17) [(16,bE (cX false) J.O),(15,aB 1 3)] (cX false) J.O (fun cY=> ?_)
  exact b1 [(18,ag 0)] cY
 replace h:=h cL
 refine fw 0 ?_
 refine WpS.mF ?_ (hB (s'':=⟨(bf 34 [(16,bE (cX false) J.O),(17,ag (J.O.length:Int)),(18,ag 0),(3,aB 3 0),(2,aB 2 0)]),[(3,[ao J.ok,ak 0 0 (aa J.au).length,ak 1 0 (aa J.an).length,ak 2 0 ([]:List ad).length]),(2,[ao false,aH,aH,aH]),(1,(bS false J))],[⟨0,1,List.map aW (aa J.au)⟩,⟨0,2,List.map a5 (aa J.an)⟩,⟨0,5,aZ 4 ([]:List ad) ([]:List Nat)⟩]⟩) (Weak.vG (T:=(bf 34 [(16,bE (cX false) J.O),(17,ag (J.O.length:Int)),(18,ag 0),(3,aB 3 0),(2,aB 2 0)])) (L:=[(3,[ao J.ok,ak 0 0 (aa J.au).length,ak 1 0 (aa J.an).length,aH]),(2,[ao false,aH,aH,aH]),(1,(bS false J))]) (H:=[⟨0,1,List.map aW (aa J.au)⟩,⟨0,2,List.map a5 (aa J.an)⟩]) (cells:=[ao J.ok,ak 0 0 (aa J.au).length,ak 1 0 (aa J.an).length,aH]) 3 3 5 (by kernel_rfl) (by kernel_rfl)) (by kernel_rfl))
 refine WpS.mF ?_ (hB (s'':=⟨(bf 34 [(16,bE (cX false) J.O),(17,ag (J.O.length:Int)),(18,ag 0),(3,aB 3 0),(2,aB 2 0)]),[(3,[ao J.ok,ak 0 0 (aa J.au).length,ak 1 0 (aa J.an).length,ak 2 0 ([]:List ad).length]),(2,[ao false,aH,aH,aH]),(1,(bS false J))],(⟨0,1,List.map aW (aa J.au)⟩::⟨0,2,List.map a5 (aa J.an)⟩::⟨0,5,aZ 4 ([]:List ad) ([]:List Nat)⟩::⟨0,5,[]⟩::List.map bi ([]:List (List Bool)))⟩) (Weak.wY (T:=(bf 34 [(16,bE (cX false) J.O),(17,ag (J.O.length:Int)),(18,ag 0),(3,aB 3 0),(2,aB 2 0)])) (L:=[(3,[ao J.ok,ak 0 0 (aa J.au).length,ak 1 0 (aa J.an).length,ak 2 0 ([]:List ad).length]),(2,[ao false,aH,aH,aH]),(1,(bS false J))]) (H:=[⟨0,1,List.map aW (aa J.au)⟩,⟨0,2,List.map a5 (aa J.an)⟩,⟨0,5,aZ 4 ([]:List ad) ([]:List Nat)⟩]) 5) (by kernel_rfl))
 obtain⟨kp,h⟩:=h
 refine kz (fun(v:List (List Bool)×Nat×Nat×List Nat×Int×List ad)=>(⟨(bf 34 [(2,aB 2 0),(3,aB 3 0),(16,bE (cX false) J.O),(17,ag (J.O.length:Int)),(18,ag (v.2.2.2.2.1))]),[(3,[ao J.ok,ak 0 0 (aa J.au).length,ak 1 0 (aa J.an).length,ak 2 (v.2.1) (v.2.2.2.2.2).length]),(2,[ao false,aH,aH,aH])],(⟨0,1,List.map aW (aa J.au)⟩::⟨0,2,List.map a5 (aa J.an)⟩::⟨(v.2.1),5,aZ 4 (v.2.2.2.2.2) (v.2.2.2.1)⟩::⟨(v.2.2.1),5,[]⟩::List.map bi (v.1))⟩:St)) (fun(v:List (List Bool)×Nat×Nat×List Nat×Int×List ad)=>ay (v.1) (v.2.1) (v.2.2.1) (v.2.2.2.1) (v.2.2.2.2.1) (v.2.2.2.2.2)) (fun(v:List (List Bool)×Nat×Nat×List Nat×Int×List ad)=>aA (v.1) (v.2.1) (v.2.2.1) (v.2.2.2.1) (v.2.2.2.2.1) (v.2.2.2.2.2)) (([]:List (List Bool)),0,0,([]:List Nat),0,([]:List ad)) (dE [1]) kp (fun v aX=> ?_)
 obtain⟨aV,a1,bP,aP,bh,ws2⟩:=v
 replace h:=h aV a1 bP aP bh ws2 aX
 dsimp only
 refine ev [1000003] 3 [(19,ao (decide (bh<(J.O.length:Int))))] [1] [5] ?_
 unfold FA at h
 obtain⟨hZ,h⟩:=h
 refine cB [] [0,1,5] ((decide (bh<(J.O.length:Int)))=true) ?_ (fun fB=> ?_)
 ·
  replace h:=hZ
  refine dJ (fun jr=> ?_) (fun jr=> ?_)
  ·
   refine ew ?_
   exact ck.normal (by simp only[jr]<;>rfl) eo
  ·
   replace h:=h jr
   refine je 0 ?_
   refine ck.exit ?_
   refine eb.exit ?_
   refine cn.here ?_
   refine ec.normal ?_
   refine ka ⟨(bf 34 [(2,aB 2 0)]),[(3,[ao J.ok,ak 0 0 (aa J.au).length,ak 1 0 (aa J.an).length,ak 2 a1 ws2.length]),(2,[ao J.ok,ak 0 0 (aa J.au).length,ak 1 0 (aa J.an).length,ak 2 a1 ws2.length])],(⟨0,1,List.map aW (aa J.au)⟩::⟨0,2,List.map a5 (aa J.an)⟩::⟨a1,5,aZ 4 ws2 aP⟩::⟨bP,5,[]⟩::List.map bi aV)⟩ (True) ?_ (fun gB=> ?_)
   ·
    refine bJ [1000003] 8 ?_
    exact b1 [(33,.agg [ao J.ok,ak 0 0 (aa J.au).length,ak 1 0 (aa J.an).length,ak 2 a1 ws2.length])] trivial
   refine hC ?_
   refine ms (.agg [ao J.ok,ak 0 0 (aa J.au).length,ak 1 0 (aa J.an).length,ak 2 a1 ws2.length]) [.agg [ao J.ok,ak 0 0 (aa J.au).length,ak 1 0 (aa J.an).length,ak 2 a1 ws2.length]] ?_
   exact Oq h rfl rfl rfl rfl
 replace h:=h fB
 obtain⟨g5,h⟩:=h
 refine e0 [] [5] (fun L=>(5,[ag (nth J.O bh).aq,ag (nth J.O bh).af,ak (aV.length+4) 0 (aa (nth J.O bh).ac).length,ao (nth J.O bh).ap,ag (nth J.O bh).ar])::hD 0 3 (ak 2 (a1+1) (ws2++[(ad.mk (nth J.O bh).aq (nth J.O bh).af (aa (nth J.O bh).ac) (nth J.O bh).ap (nth J.O bh).ar)]).length) L) (fun _=>(⟨0,1,List.map aW (aa J.au)⟩::⟨0,2,List.map a5 (aa J.an)⟩::⟨(a1+1),5,aZ 4 (ws2++[(ad.mk (nth J.O bh).aq (nth J.O bh).af (aa (nth J.O bh).ac) (nth J.O bh).ap (nth J.O bh).ar)]) (aP++[aV.length])⟩::⟨(bP+1),5,[[ag (nth J.O bh).aq,ag (nth J.O bh).af,ak (aV.length+4) 0 (aa (nth J.O bh).ac).length,ao (nth J.O bh).ap,ag (nth J.O bh).ar]]⟩::List.map bi (aV++[(aa (nth J.O bh).ac)]))) (True) ?_ (fun hY=> ?_)
 ·
  replace h:=g5
  refine fw 1 ?_
  obtain⟨lx,h⟩:=h
  refine e0 [(5,aB 5 0)] [5] (fun L=>(5,(cX false (nth J.O bh)))::L) id (True) ?_ (fun iV=> ?_)
  ·
   replace h:=lx
   refine bJ [1000003] 4 ?_
   have fK:=h
   refine kQ 1 (some 20) [] (cX false) J.O 5 fK ?_
   exact b1 [(5,aB 5 0),(21,.agg (cX false (nth J.O bh)))] trivial
  obtain⟨iq,h⟩:=h
  refine e0 [] [6] (fun L=>er 0 [ag (nth J.O bh).aq,ag (nth J.O bh).af,ak (aV.length+4) 0 (aa (nth J.O bh).ac).length,ao (nth J.O bh).ap,ag (nth J.O bh).ar] L) (fun _=>(⟨0,1,List.map aW (aa J.au)⟩::⟨0,2,List.map a5 (aa J.an)⟩::⟨a1,5,aZ 4 ws2 aP⟩::⟨bP,5,[]⟩::List.map bi (aV++[(aa (nth J.O bh).ac)]))) (True) ?_ (fun r7=> ?_)
  ·
   replace h:=iq
   refine bJ [1000003] 5 ?_
   have io:=h
   refine tk 3 (some 24) [(23,bE aW (nth J.O bh).ac),(22,aB 5 2)] [bE aW (nth J.O bh).ac] (ak (aV.length+4) 0 (aa (nth J.O bh).ac).length) (⟨0,1,List.map aW (aa J.au)⟩::⟨0,2,List.map a5 (aa J.an)⟩::⟨a1,5,aZ 4 ws2 aP⟩::⟨bP,5,[]⟩::List.map bi (aV++[(aa (nth J.O bh).ac)])) (PP (nth J.O bh).ac io) (aE.cons (dc.ia cW) aE.nil) (r5 (fun _=>rfl) rfl) (sf (se (fun _=>rfl) rfl) (by simp only[List.cons_append,List.map_nil,rv])) ?_ (er:=by simp[m6,ot,iW])
   exact b1 [(25,aB 5 2)] trivial
  refine bJ [1000003] 6 ?_
  refine zF 4 [(29,.ref 3 (bP+1) 0 1 true),(28,.agg [ag (nth J.O bh).aq,ag (nth J.O bh).af,ak (aV.length+4) 0 (aa (nth J.O bh).ac).length,ao (nth J.O bh).ap,ag (nth J.O bh).ar]),(27,ak 2 a1 ws2.length),(26,aB 3 3)] [(5,[ag (nth J.O bh).aq,ag (nth J.O bh).af,ak (aV.length+4) 0 (aa (nth J.O bh).ac).length,ao (nth J.O bh).ap,ag (nth J.O bh).ar]),(3,[ao J.ok,ak 0 0 (aa J.au).length,ak 1 0 (aa J.an).length,ak 2 a1 ws2.length]),(2,[ao false,aH,aH,aH])] (⟨0,1,List.map aW (aa J.au)⟩::⟨0,2,List.map a5 (aa J.an)⟩::⟨a1,5,aZ 4 ws2 aP⟩::⟨(bP+1),5,[[ag (nth J.O bh).aq,ag (nth J.O bh).af,ak (aV.length+4) 0 (aa (nth J.O bh).ac).length,ao (nth J.O bh).ap,ag (nth J.O bh).ar]]⟩::List.map bi (aV++[(aa (nth J.O bh).ac)])) ?_
  have kO:=h
  refine Hv 1 (some 30) [] 4 2 a1 (bP+1) 56 ws2 aP (ad.mk (nth J.O bh).aq (nth J.O bh).af (aa (nth J.O bh).ac) (nth J.O bh).ap (nth J.O bh).ar) aV.length (fun r=>(⟨0,1,List.map aW (aa J.au)⟩::⟨0,2,List.map a5 (aa J.an)⟩::⟨(a1+1),5,r⟩::⟨(bP+1),5,[[ag (nth J.O bh).aq,ag (nth J.O bh).af,ak (aV.length+4) 0 (aa (nth J.O bh).ac).length,ao (nth J.O bh).ap,ag (nth J.O bh).ar]]⟩::List.map bi (aV++[(aa (nth J.O bh).ac)]))) kO.1 kO.2 ?_
  refine CB [(31,aB 3 3)] [(5,[ag (nth J.O bh).aq,ag (nth J.O bh).af,ak (aV.length+4) 0 (aa (nth J.O bh).ac).length,ao (nth J.O bh).ap,ag (nth J.O bh).ar]),(3,[ao J.ok,ak 0 0 (aa J.au).length,ak 1 0 (aa J.an).length,ak 2 (a1+1) (ws2++[(ad.mk (nth J.O bh).aq (nth J.O bh).af (aa (nth J.O bh).ac) (nth J.O bh).ap (nth J.O bh).ar)]).length]),(2,[ao false,aH,aH,aH])] (⟨0,1,List.map aW (aa J.au)⟩::⟨0,2,List.map a5 (aa J.an)⟩::⟨(a1+1),5,aZ 4 (ws2++[(ad.mk (nth J.O bh).aq (nth J.O bh).af (aa (nth J.O bh).ac) (nth J.O bh).ap (nth J.O bh).ar)]) (aP++[aV.length])⟩::⟨(bP+1),5,[[ag (nth J.O bh).aq,ag (nth J.O bh).af,ak (aV.length+4) 0 (aa (nth J.O bh).ac).length,ao (nth J.O bh).ap,ag (nth J.O bh).ar]]⟩::List.map bi (aV++[(aa (nth J.O bh).ac)])) ?_
  refine cn.normal ?_
  exact ck.normal trivial eo
 unfold Fz at h
 refine bJ [1000003] 7 ?_
 refine dX [(18,ag (IntKind.i64.wrap (bh+1))),(32,ag (IntKind.i64.wrap (bh+1)))] ?_
 exact eb.again ((aV++[(aa (nth J.O bh).ac)]),(a1+1),(bP+1),(aP++[aV.length]),(IntKind.i64.wrap (bh+1)),(ws2++[(ad.mk (nth J.O bh).aq (nth J.O bh).af (aa (nth J.O bh).ac) (nth J.O bh).ap (nth J.O bh).ar)])) h ((Weak.clear 3 rfl:Weak ⟨(bf 34 [(18,ag (IntKind.i64.wrap (bh+1))),(32,ag (IntKind.i64.wrap (bh+1))),(2,aB 2 0),(3,aB 3 0),(16,bE (cX false) J.O),(17,ag (J.O.length:Int))]),[(5,[ag (nth J.O bh).aq,ag (nth J.O bh).af,ak (aV.length+4) 0 (aa (nth J.O bh).ac).length,ao (nth J.O bh).ap,ag (nth J.O bh).ar]),(3,[ao J.ok,ak 0 0 (aa J.au).length,ak 1 0 (aa J.an).length,ak 2 (a1+1) (ws2++[(ad.mk (nth J.O bh).aq (nth J.O bh).af (aa (nth J.O bh).ac) (nth J.O bh).ap (nth J.O bh).ar)]).length]),(2,[ao false,aH,aH,aH])],(⟨0,1,List.map aW (aa J.au)⟩::⟨0,2,List.map a5 (aa J.an)⟩::⟨(a1+1),5,aZ 4 (ws2++[(ad.mk (nth J.O bh).aq (nth J.O bh).af (aa (nth J.O bh).ac) (nth J.O bh).ap (nth J.O bh).ar)]) (aP++[aV.length])⟩::⟨(bP+1),5,[[ag (nth J.O bh).aq,ag (nth J.O bh).af,ak (aV.length+4) 0 (aa (nth J.O bh).ac).length,ao (nth J.O bh).ap,ag (nth J.O bh).ar]]⟩::List.map bi (aV++[(aa (nth J.O bh).ac)]))⟩ ⟨(bf 34 [(18,ag (IntKind.i64.wrap (bh+1))),(32,ag (IntKind.i64.wrap (bh+1))),(2,aB 2 0),(3,aB 3 0),(16,bE (cX false) J.O),(17,ag (J.O.length:Int))]),[(5,[ag (nth J.O bh).aq,ag (nth J.O bh).af,ak (aV.length+4) 0 (aa (nth J.O bh).ac).length,ao (nth J.O bh).ap,ag (nth J.O bh).ar]),(3,[ao J.ok,ak 0 0 (aa J.au).length,ak 1 0 (aa J.an).length,ak 2 (a1+1) (ws2++[(ad.mk (nth J.O bh).aq (nth J.O bh).af (aa (nth J.O bh).ac) (nth J.O bh).ap (nth J.O bh).ar)]).length]),(2,[ao false,aH,aH,aH])],(⟨0,1,List.map aW (aa J.au)⟩::⟨0,2,List.map a5 (aa J.an)⟩::⟨(a1+1),5,aZ 4 (ws2++[(ad.mk (nth J.O bh).aq (nth J.O bh).af (aa (nth J.O bh).ac) (nth J.O bh).ap (nth J.O bh).ar)]) (aP++[aV.length])⟩::⟨(bP+1),5,[]⟩::List.map bi (aV++[(aa (nth J.O bh).ac)]))⟩).trans (dE [5]))
theorem ML (J:Frame) (aG:hM J):dF Try.prog 61 [.agg (bS false J)] [] (fun r H=>r= .agg [ao (aa J).ok,ak 0 0 (aa J).au.length,ak 1 0 (aa J).an.length,ak 2 0 (aa J).O.length]∧H=(⟨0,1,List.map aW (aa J).au⟩::⟨0,2,List.map a5 (aa J).an⟩::⟨0,5,aZ 3 (aa J).O (List.range (aa J).O.length)⟩::List.map bi (List.map ad.ac (aa J).O))):=Yo J (aa J) (fun bs _ _ is v ws=>cv J.O.length (fun _=>false) v∧ws=J.O.take v.toNat∧is=List.range ws.length∧bs=ws.map ad.ac) (fun _ _ _ _ v _=>cG J.O.length v) (by
 unfold Fy
 obtain⟨zk,zl,GP,s7⟩:=aG
 refine⟨⟨zk,zl⟩,fun aF=>⟨⟨di (dt _),rfl,rfl,rfl⟩,fun bs a1 bP is v ws aX=> ?_⟩⟩
 unfold FA Fz
 obtain⟨aX,rfl,hi,hb⟩:=aX
 refine⟨fun hv=> ?_,fun hv=>⟨⟨ch aX hv,s7 _ (dC (ch aX hv).2),?_,?_,?_⟩,⟨(c0 (cD aF) aX hv rfl).1,?_,?_,?_⟩,(c0 (cD aF) aX hv rfl).2⟩⟩
 ·have: ¬v<(J.O.length:Int):=by simpa using hv
  have h1:=aX.1
  rw[List.take_of_length_le (by omega)] at hi hb ⊢
  exact⟨rfl,rfl,rfl,rfl,hi,hb⟩
 ·rw[hi];simp
 ·rw[List.length_take];omega
 ·rw[List.length_take];omega
 ·have ca:=ch aX hv
  rw[jM (cD aF) ca.1 (by omega),show(v+1).toNat=v.toNat+1 by omega,List.take_succ_eq_append_getElem ca.2,←gH ca.2];rfl
 ·rw[hi,hb];simp[List.range_succ]
 ·rw[hb,List.map_append];rfl)
def Yq:List Item:=[av 0,av 1,av 2,av 3,av 4,av 5,av 6,av 7,av 8,av 9,⟨10,true,false,[]⟩]
def Yr:List (List Nat):=[[],[0],[],[2],[2,3],[],[5],rg 2 7,rg 0 8,[],rg 0 10]
def MN (J:Frame) (a8:(List ad)) (bh:Int):Prop:=
  (small (nth J.O bh).ac)∧((a8.length+[(ad.mk (nth J.O bh).aq (nth J.O bh).af (aa (nth J.O bh).ac) (nth J.O bh).ap (nth J.O bh).ar)].length)*56≤140737488355328∧a8.length+[(ad.mk (nth J.O bh).aq (nth J.O bh).af (aa (nth J.O bh).ac) (nth J.O bh).ap (nth J.O bh).ar)].length≤4611686018427387904)
abbrev tt (r:Type):Type:=Nat→(List ad)→Int→r
def MO (ay:tt Prop) (aA:tt Nat) (J:Frame) (bt:Nat) (a8:(List ad)) (bh:Int):Prop:=
  ay (bt+1) (a8++[(ad.mk (nth J.O bh).aq (nth J.O bh).af (aa (nth J.O bh).ac) (nth J.O bh).ap (nth J.O bh).ar)]) (IntKind.i64.wrap (bh+1))∧aA (bt+1) (a8++[(ad.mk (nth J.O bh).aq (nth J.O bh).af (aa (nth J.O bh).ac) (nth J.O bh).ap (nth J.O bh).ar)]) (IntKind.i64.wrap (bh+1))<aA bt a8 bh
def MP (ay:tt Prop) (aA:tt Nat) (J al:Frame):Prop:=
  ay 0 ([]:List ad) 0∧ ∀(bt:Nat) (a8:(List ad)) (bh:Int),ay bt a8 bh→(((decide (bh<(J.O.length:Int)))=false→(J.ok=al.ok)∧((aa J.au)=al.au)∧((aa J.an)=al.an)∧(a8.length≤4611686018427387904∧a8=al.O))∧((decide (bh<(J.O.length:Int)))=true→((0≤bh∧bh.toNat<J.O.length)∧(MN J a8 bh))∧(MO ay aA J bt a8 bh)))
def MM (J:Frame) (al:Frame) (ay:tt Prop) (aA:tt Nat):Prop:=
 ((small J.au)∧(small J.an))∧(J.O.length≤4611686018427387904→MP ay aA J al)
theorem Yp (J:Frame) (aG:hM J):bX Try.prog 61 [.agg (bS false J)] (.agg (bS true (aa J))):=(fun(ay:tt Prop) (aA:tt Nat) (h:MM J (aa J) ay aA)=>bX.run (ps:=[.frame]) (rs:=[.frame]) (x:=(J,())) (r:=((aa J),())) ⟨34,dZ,[ab5,ab1]⟩ ⟨[],[(1,Yq,Yr)],[],[],[]⟩ (.lp [(4,3,.held)] [2,3,16,17] [(3,4),(2,4)] [.nat,(.l .held),.int] [bA 0,bA 0,18] (fun aS=>[(18,.i .i64 aS.2.2.1),(eD 3 3,.ref 0 aS.1 aS.2.1.length false),(bA 0,.blk aS.1 .held aS.2.1 _ rfl)]) (fun aS=>ay aS.1 aS.2.1 aS.2.2.1) (fun aS=>aA aS.1 aS.2.1 aS.2.2.1) fun _=> .nil) Try.func61 h) (fun _ x v=>cv J.O.length (fun _=>false) v∧x=J.O.take v.toNat) (fun _ _ v=>cG J.O.length v) (by
 unfold MM
 obtain⟨zk,zl,GP,s7⟩:=aG
 refine⟨⟨zk,zl⟩,fun aF=> ?_⟩
 unfold MP
 refine⟨⟨di (dt _),rfl⟩,fun bt a8 v aX=> ?_⟩
 unfold MO MN
 obtain⟨aX,rfl⟩:=aX
 refine⟨fun hv=> ?_,fun hv=>⟨⟨ch aX hv,s7 _ (dC (ch aX hv).2),?_,?_⟩,⟨(c0 (cD aF) aX hv rfl).1,?_⟩,(c0 (cD aF) aX hv rfl).2⟩⟩
 ·have: ¬v<(J.O.length:Int):=by simpa using hv
  have h1:=aX.1
  rw[List.take_of_length_le (by omega)]
  exact⟨rfl,rfl,rfl,by omega,rfl⟩
 ·rw[List.length_take];simp only[List.length_cons,List.length_nil];omega
 ·rw[List.length_take];simp only[List.length_cons,List.length_nil];omega
 ·have ca:=ch aX hv
  rw[jM (cD aF) ca.1 (by omega),show(v+1).toNat=v.toNat+1 by omega,List.take_succ_eq_append_getElem ca.2,←gH ca.2];rfl)
noncomputable def YI:Code:=iz Try.f79
def FU (J:az) (M:Int) (al:ad):Prop:=
  ((0≤M∧M.toNat<J.O.length)∧((nth J.O M).ai.length≤4611686018427387904→0≤((nth J.O M).ai.length:Int)∧1*((nth J.O M).ai.length:Int)≤140737488355328∧((nth J.O M).ai.length:Int)≤4611686018427387904))∧((nth J.O M).ai.length≤4611686018427387904→(0=al.aq)∧(0=al.af)∧((List.replicate ((nth J.O M).ai.length:Int).toNat false)=al.ac)∧(false=al.ap)∧(0=al.ar))
def FT (J:az) (M:Int) (al:ad):Prop:=
 FU J M al
theorem YJ (J:az) (M:Int) (al:ad) (h:FT J M al):dF Try.prog 79 [.agg (bq false J),ag M] [] (fun r H=>r= .agg [ag al.aq,ag al.af,ak 0 0 al.ac.length,ao al.ap,ag al.ar]∧H=[⟨0,1,List.map aW al.ac⟩]):=by
 refine dF.toOwn ?_
 unfold FT at h
 refine dF.go (fn:=Try.f79) [(0,.agg (bq false J)),(1,ag M)] Try.func79 (fun _ _=> ?_)
 show WpS _ (bT YI 1) _ ⟨bf 14 [(0,.agg (bq false J)),(1,ag M)],[],[]⟩
 refine qf [] 0 [(4,aB 4 0),(2,aB 2 0)] [2] [0,1,1] [(4,[ag 0,ag 0,aH,ao false,ag 0]),(2,(bq false J))] [] ?_
 unfold FU at h
 obtain⟨cY,h⟩:=h
 refine e0 [] [1] (fun L=>hD 0 2 (ak 0 0 (List.replicate ((nth J.O M).ai.length:Int).toNat false).length) L) (fun _=>[⟨0,1,List.map aW (List.replicate ((nth J.O M).ai.length:Int).toNat false)⟩]) ((nth J.O M).ai.length≤4611686018427387904) ?_ (fun q2=> ?_)
 ·
  replace h:=cY
  refine bJ [] 1 ?_
  obtain⟨cL,h⟩:=h
  refine kQ 4 (some 8) [(7,ag M),(6,bE (dx false) J.O),(5,aB 2 2)] (dx false) J.O 5 cL ?_
  refine sLen 3 (some 11) [(10,bE db (nth J.O M).ai),(9,.dv (dx false (nth J.O M)) 0)] db (nth J.O M).ai (fun q3=> ?_)
  replace h:=h q3
  have q4:=h
  refine Px 1 (some 12) [] aW 1 [ao false] 0 (fun r=>[⟨0,1,r⟩]) false q4 ?_
  exact b1 [(13,.agg [ag 0,ag 0,ak 0 0 (List.replicate ((nth J.O M).ai.length:Int).toNat false).length,ao false,ag 0])] q3
 replace h:=h q2
 refine hC ?_
 refine ms (.agg [ag 0,ag 0,ak 0 0 (List.replicate ((nth J.O M).ai.length:Int).toNat false).length,ao false,ag 0]) [.agg [ag 0,ag 0,ak 0 0 (List.replicate ((nth J.O M).ai.length:Int).toNat false).length,ao false,ag 0]] ?_
 exact⟨o4 [some 0],qL [some 0] rfl (by decide) ⟨rfl,(qT (b:=0) (g:=0) (sz:=1) (xs:=(List.replicate ((nth J.O M).ai.length:Int).toNat false)) (ys:=al.ac) rfl zh (h.2.2.1)),trivial⟩,(.inl ⟨_,_,rfl,rfl,(aE.cons (GN (a:=0) (b:=al.aq) (h.1)) (aE.cons (GN (a:=0) (b:=al.af) (h.2.1)) (aE.cons (uQ (by simp) rfl rfl (by have:=congrArg List.length (h.2.2.1);simpa using this)) (aE.cons (aax (a:=false) (b:=al.ap) (h.2.2.2.1)) (aE.cons (GN (a:=0) (b:=al.ar) (h.2.2.2.2)) aE.nil)))))⟩)⟩
theorem FV (J:az) (M:Int) (aG:yZ J M):dF Try.prog 79 [.agg (bq false J),ag M] [] (fun r H=>r= .agg [ag (bQ J M).aq,ag (bQ J M).af,ak 0 0 (bQ J M).ac.length,ao (bQ J M).ap,ag (bQ J M).ar]∧H=[⟨0,1,List.map aW (bQ J M).ac⟩]):=YJ J M (bQ J M) (by
 unfold FT FU
 obtain⟨cF,aT,h1⟩:=aG
 have bc:M.toNat<J.O.length:=by omega
 have:=(cF.ai _ (dC bc)).2.1
 exact⟨⟨⟨aT,bc⟩,fun _=>⟨dt _,by omega,by omega⟩⟩,fun _=>⟨rfl,rfl,by show List.replicate _ _=List.replicate _ _;simp,rfl,rfl⟩⟩)
def Nb (ay:Int→Prop) (aA:Int→Nat) (J:Frame) (M:(List Int)) (al:Bool):Prop:=
  M.length≤4611686018427387904→ay 0∧ ∀(b7:Int),ay b7→(((decide (b7<(M.length:Int)))=false→false=al)∧((decide (b7<(M.length:Int)))=true→((0≤b7∧b7.toNat<M.length)∧((0≤(nth M b7)∧(nth M b7).toNat<J.au.length)∧((nth J.au (nth M b7))=true→true=al)))∧((!(nth J.au (nth M b7)))=true→ay (IntKind.i64.wrap (b7+1))∧aA (IntKind.i64.wrap (b7+1))<aA b7)))
def Na (J:Frame) (M:(List Int)) (al:Bool) (ay:Int→Prop) (aA:Int→Nat):Prop:=
 Nb ay aA J M al
theorem Nc (J:Frame) (M:(List Int)) (aG:vc J M):bX Try.prog 124 [.agg (bS false J),bE db M] (ao (gK J M)):=(fun(ay:Int→Prop) (aA:Int→Nat) (h:Na J M (gK J M) ay aA)=>bX.run (ps:=[.frame,(.l .int)]) (rs:=[.bool]) (x:=(J,M,())) (r:=((gK J M),())) ⟨19,dZ,[]⟩ ⟨[],[],[],[],[]⟩ (e8 [2,7,8] [(2,4)] 9 ay aA fun _=> .nil) Try.func124 h) (cv M.length (fun j=>dT J (nth M j))) (cG M.length) (by
 unfold Na Nb
 intro aF
 refine⟨di (dt _),fun v aX=>⟨fun hv=> ?_,fun hv=>⟨⟨ch aX hv,?_,fun hb=> ?_⟩,fun hb=>c0 (cD aF) aX hv (not_eq hb)⟩⟩⟩
 ·exact(z3 (q:=fun x=>dT J x) aX hv).symm
 ·have:=aG _ (dC (ch aX hv).2)
  exact⟨this.1,by omega⟩
 ·exact(CT (q:=fun x=>dT J x) aX hv hb).symm)
def Zg:dY Try.prog:=⟨124,[.frame,(.l .int)],[.bool],some fun x=>vc x.1 x.2.1,fun x=>((gK x.1 x.2.1),()),fun x h=>Nc x.1 x.2.1 h⟩
def YZ:List Item:=[av 0,av 1,av 2,av 3,av 4,av 5,av 6,av 7,av 8,av 9,av 10,av 11]
def Y0:List (List Nat):=[[],[0],[],[2],rg 0 4,rg 0 5,[],[6],[],[8],rg 6 10,rg 0 11]
def M5 (ay:Int→Prop) (aA:Int→Nat) (J:az) (M:Frame) (U:Int) (al:Bool) (bh:Int):Prop:=
  ((0≤bh∧bh.toNat<(bu (nth J.O U)).length)∧((0≤(nth (bu (nth J.O U)) bh).sw∧(nth (bu (nth J.O U)) bh).sw.toNat<M.an.length)∧((!((nth M.an (nth (bu (nth J.O U)) bh).sw).cC==(nth (bu (nth J.O U)) bh).bk&&(nth M.an (nth (bu (nth J.O U)) bh).sw).a2==(nth (bu (nth J.O U)) bh).bk))=true→false=al)))∧((!(!((nth M.an (nth (bu (nth J.O U)) bh).sw).cC==(nth (bu (nth J.O U)) bh).bk&&(nth M.an (nth (bu (nth J.O U)) bh).sw).a2==(nth (bu (nth J.O U)) bh).bk)))=true→ay (IntKind.i64.wrap (bh+1))∧aA (IntKind.i64.wrap (bh+1))<aA bh)
def M6 (ay:Int→Prop) (aA:Int→Nat) (J:az) (M:Frame) (U:Int) (al:Bool) (bh:Int):Prop:=
  ((decide (bh<((bu (nth J.O U)).length:Int)))=false→((vc M (nth J.O U).ai)∧((!(gK M (nth J.O U).ai))=true→vc M (nth J.O U).cO))∧(((!(gK M (nth J.O U).ai))&&(!(gK M (nth J.O U).cO)))=al))∧((decide (bh<((bu (nth J.O U)).length:Int)))=true→M5 ay aA J M U al bh)
def M4 (J:az) (M:Frame) (U:Int) (al:Bool) (ay:Int→Prop) (aA:Int→Nat):Prop:=
 (0≤U∧U.toNat<J.O.length)∧((xg (nth J.O U))∧((bu (nth J.O U)).length≤4611686018427387904→ay 0∧ ∀(bh:Int),ay bh→(M6 ay aA J M U al bh)))
theorem YY (J:az) (M:Frame) (U:Int) (aG:xh J M U):bX Try.prog 108 [.agg (bq false J),.agg (bS false M),ag U] (ao (gf J M U)):=(fun(ay:Int→Prop) (aA:Int→Nat) (h:M4 J M U (gf J M U) ay aA)=>bX.run (ps:=[.c8,.frame,.int]) (rs:=[.bool]) (x:=(J,M,U,())) (r:=((gf J M U),())) ⟨47,dZ,[FY,Zg]⟩ ⟨[],[(5,YZ,Y0)],[],[],[]⟩ (e8 [4,7,16,17] [(7,5),(4,4)] 18 ay aA fun _=> .nil) Try.func108 h) (cv (bu (nth J.O U)).length (fun j=> !((nth M.an (nth (bu (nth J.O U)) j).sw).cC==(nth (bu (nth J.O U)) j).bk&&(nth M.an (nth (bu (nth J.O U)) j).sw).a2==(nth (bu (nth J.O U)) j).bk))) (cG (bu (nth J.O U)).length) (by
 unfold M4
 obtain⟨cF,c_,aT,h1⟩:=aG
 have bc:U.toNat<J.O.length:=by omega
 have hw:=dC bc
 obtain⟨rY,jX,y4⟩:=cF.a2 _ hw
 have qw:=c_.au
 have nn:vc M (nth J.O U).ai:=fun x hx=>by have:=(cF.ai _ hw).2.2 x hx;omega
 have Xl:vc M (nth J.O U).cO:=fun x hx=>by have:=(cF.cO _ hw).2 x hx;omega
 refine⟨⟨aT,bc⟩,⟨by omega,by omega⟩,fun aF=>⟨di (dt _),fun v aX=> ?_⟩⟩
 unfold M6 M5
 have aj: ∀l:cx,decide (nth M.an l.sw=⟨l.bk,l.bk⟩)=((nth M.an l.sw).cC==l.bk&&(nth M.an l.sw).a2==l.bk):=fun l=>by
  rcases nth M.an l.sw with⟨x,y⟩
  rw[Bool.eq_iff_iff];simp
 refine⟨fun hv=>⟨⟨nn,fun _=>Xl⟩,?_⟩,fun hv=>⟨⟨ch aX hv,?_,fun hb=> ?_⟩,fun hb=> ?_⟩⟩
 ·have eC:=l9 (q:=fun l:cx=> !((nth M.an l.sw).cC==l.bk&&(nth M.an l.sw).a2==l.bk)) (gL aX hv)
  unfold gf
  have:(bu (nth J.O U)).all (fun l=>decide (nth M.an l.sw=⟨l.bk,l.bk⟩))=true:=by
   rw[List.all_eq_true]
   intro l aL
   rw[aj]
   simpa using eC l aL
  rw[this,Bool.true_and]
 ·have:=y4 _ (dC (ch aX hv).2)
  have h2:=c_.an
  exact⟨this.1,by omega⟩
 ·unfold gf
  have:(bu (nth J.O U)).all (fun l=>decide (nth M.an l.sw=⟨l.bk,l.bk⟩))=false:=by
   rw[←Bool.not_eq_true,List.all_eq_true]
   intro a4
   have:=a4 _ (dC (ch aX hv).2)
   rw[aj] at this
   rw[this] at hb;cases hb
  rw[this];rfl
 ·exact c0 (cD aF) aX hv (not_eq hb))
end Go.Proofs.Ytglpfccgmfhkdaa.Fw
