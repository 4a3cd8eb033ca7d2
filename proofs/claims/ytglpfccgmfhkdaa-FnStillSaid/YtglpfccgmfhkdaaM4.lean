/- The machine, part G: code, loops, functions. -/
import Derived.Test.YtglpfccgmfhkdaaM3
set_option linter.unusedVariables false
namespace Go.Proofs.Ytglpfccgmfhkdaa.Fw
open Go
theorem D5 {dq:List Nat}: ∀(L:List (Nat×List AV)) (t:Nat),dq.contains t=true→e0 (ob dq L) t=none
 | [],t,h=>rfl
 | (k,c)::L,t,h=>by
  unfold ob
  split
  ·exact D5 L t h
  ·rename_i hk
   have:t≠k:=fun e=>by subst e;rw[h] at hk;cases hk
   simp only[e0,if_neg this];exact D5 L t h
def EC:Bool→Bool→Bool
 | _,false=>true
 | a,true=>a
theorem Ld {a b:Bool} (h:EC a b=true):b=true→a=true:=fun e=>by subst e;exact h
def lu (a b:AV):Prop:=b=a∨b= .undef∨ ∃rows full fr nA,a= .bC rows full fr∧b= .bC rows false nA∧(nA=true→fr=true)
theorem lu.P2 {w:World} {PA PF:Nat→Prop} {rows:List (List AV)} {full fr nA:Bool} {v:Value} (aI: ∀c,PF c→PA c) (hf:nA=true→fr=true) (h:bH w PA PF (.bC rows full fr) v):bH w PA PF (.bC rows false nA) v:=by
 cases h with
 | bC gq gR ht cY fl ec=>
  refine .bC (fun c hc=> ?_) gR (fun h=>by cases h) cY fl ec
  have:=gq c hc
  cases nA with
  | true=>rw[hf rfl] at this;exact this
  | false=>
   cases fr with
   | true=>exact aI c this
   | false=>exact this
theorem lu.v1 {E:Env} {a b:AV} {v:Value} (aI: ∀c,E.PF c→E.PA c) (h:lu a b) (hv:cM E a v):cM E b v:=by
 rcases h with rfl | rfl | ⟨rows,full,fr,nA,rfl,rfl,hf⟩
 ·exact hv
 ·exact cM.undef _ _
 ·exact lu.P2 aI hf hv
theorem lu.nr {E:Env} {a b:AV} {v:Value} (aI: ∀c,E.PF c→E.PA c) (h:lu a b) (hv:V3 E a v):V3 E b v:=by
 rcases h with rfl | rfl | ⟨rows,full,fr,nA,rfl,rfl,hf⟩
 ·exact hv
 ·exact V3.undef _ _
 ·exact lu.P2 aI hf hv
theorem lu.of {a b:AV} (h:b=a∨b= .undef):lu a b:=h.imp_right .inl
theorem Weak.acS [cL] {T T':List AV} {L:List (Nat×List AV)} {H:List Blk} (aL:T'.length=T.length) (h: ∀t,lu (T.getD t .undef) (T'.getD t .undef)):Weak ⟨T,L,H⟩ ⟨T',L,H⟩:=fun cz E tmps g s=>
 ⟨E,rfl,g,s.h,s.l,fun t=>(h t).nr s.h.e3 (s.iA t),by show T'.length=_;rw[aL];exact s.size⟩
theorem Weak.cells [cL] {T:List AV} {L L':List (Nat×List AV)} {H:List Blk} (b1: ∀t cells,e0 L t=some cells→ ∃g2,e0 L' t=some g2∧g2.length=cells.length∧ ∀(i:Nat) (a:AV),g2[i]?=some a→ ∃b,cells[i]?=some b∧lu b a):Weak ⟨T,L,H⟩ ⟨T,L',H⟩:=fun cz E tmps g s=>
 ⟨E,rfl,g,s.h,fun t c hm=>by
  obtain⟨cells,a_,ty,q1,q2,q3⟩:=s.l t c hm
  obtain⟨g2,fv,fZ,fE⟩:=b1 t cells q1
  refine⟨g2,a_,ty,fv,q2,by rw[fZ];exact q3.1,fun i a v a3 hv=> ?_⟩
  obtain⟨b,hb,q⟩:=fE i a a3
  exact q.v1 s.h.e3 (q3.2 i b v hb hv),s.iA,s.size⟩
theorem afs [cL] {T T':List AV} {L L':List (Nat×List AV)} {H:List Blk} (aL:T'.length=T.length) (cu: ∀t,lu (T.getD t .undef) (T'.getD t .undef)) (dq:List Nat) (aI:T'.all (o2 dq)=true)
  (b1: ∀t cells,dq.contains t=false→e0 L t=some cells→ ∃g2,e0 L' t=some g2∧g2.length=cells.length∧ ∀(i:Nat) (a:AV),g2[i]?=some a→ ∃b,cells[i]?=some b∧lu b a):Weak ⟨T,L,H⟩ ⟨T',L',H⟩:=by
 refine(Weak.acS aL cu).trans ((Weak.ob dq aI).trans (Weak.cells fun t cells h=> ?_))
 cases bq:dq.contains t with
 | true=>rw[D5 L t bq] at h;cases h
 | false=>rw[AQ L t bq] at h;exact b1 t cells bq h
theorem Om (l:List (Nat×TV)) (k:Nat) (d:TV):(∃v,(k,v)∈l∧fY l k d=v)∨fY l k d=d:=by
 induction l with
 | nil=>exact .inr rfl
 | cons p r bQ=>
  obtain⟨a,w⟩:=p
  rw[gL]
  by_cases e:a=k
  ·subst e;exact .inl ⟨w,List.mem_cons_self ..,if_pos rfl⟩
  ·rw[if_neg e]
   rcases bQ with⟨v,h1,h2⟩ | h
   ·exact .inl ⟨v,List.mem_cons_of_mem _ h1,h2⟩
   ·exact .inr h
theorem DH (s:TS) (v:Nat): ∀(c m:Nat),(hU s v c m).length=m
 | _,0=>rfl
 | c,m+1=>by rw[hU,List.length_cons,DH s v (c+1) m]
theorem AI (s:TS) (v:Nat): ∀(m c i:Nat),(cS (hU s v c m))[i]?=if i<m then some (s.get (eL v (c+i))).bE else none
 | 0,c,i=>by simp[hU,cS]
 | m+1,c,i=>by
  rw[hU,cS]
  cases i with
  | zero=>simp
  | succ i=>
   rw[List.getElem?_cons_succ,AI s v m (c+1) i,show c+1+i=c+(i+1) by omega]
   by_cases h:i<m
   ·rw[if_pos h,if_pos (by omega)]
   ·rw[if_neg h,if_neg (by omega)]
theorem CX [FZ] (n:Nat) (s:TS):s.aJ n=⟨(s.aJ n).T,(s.aJ n).L,(s.aJ n).H⟩:=rfl
theorem SY [cL] [FZ] {n:Nat} {s S:TS} (cZ:iu S=iu s) (cu: ∀t,t<n→lu (s.get t).bE (S.get t).bE) (dq:List Nat) (aI:(S.aJ n).T.all (o2 dq)=true)
  (hv: ∀v m,dq.contains v=false→kU s.vs v=some m→kU S.vs v=some m∧ ∀c,lu (s.get (eL v c)).bE (S.get (eL v c)).bE)
  (hb:S.bu=s.bu) (eg: ∀b,b<s.bu→(S.get (bD b)).en=(s.get (bD b)).en):Weak (s.aJ n) (S.aJ n):=by
 have aS:(S.aJ n).H=(s.aJ n).H:=by
  show S.gw++g4 S=s.gw++g4 s
  have e2:g4 S=g4 s:=by unfold g4;rw[cZ]
  rw[e2]
  congr 1
  apply List.ext_getElem?
  intro b
  rw[p8,p8,hb]
  by_cases h:b<s.bu
  ·rw[if_pos h,if_pos h,eg b h]
  ·rw[if_neg h,if_neg h]
 rw[CX n s,CX n S,aS]
 refine afs (by show((List.range n).map _).length=((List.range n).map _).length;simp) (fun t=> ?_) dq aI fun t cells bq h=> ?_
 ·rw[z2,z2]
  by_cases h:t<n
  ·rw[if_pos h,if_pos h];exact cu t h
  ·rw[if_neg h,if_neg h];exact .inl rfl
 ·rw[vo] at h
  cases hm:kU s.vs t with
  | none=>rw[hm] at h;cases h
  | some m=>
   rw[hm] at h
   cases h
   obtain⟨q1,q2⟩:=hv t m bq hm
   refine⟨cS (hU S t 0 m),by rw[vo,q1];rfl,?_,fun i a a3=> ?_⟩
   ·show(cS _).length=(cS _).length
    rw[n7,n7,List.length_map,List.length_map,DH,DH]
   ·rw[AI] at a3 ⊢
    by_cases hi:i<m
    ·rw[if_pos hi] at a3 ⊢
     cases a3
     exact⟨_,rfl,q2 (0+i)⟩
    ·rw[if_neg hi] at a3;cases a3
theorem aax (l:List AV):l.all (o2 [])=true:=by
 have aT: ∀a,uR [] a=true:=fun a=>by cases a<;>rfl
 have h1: ∀a,tb [] a=true:=fun a=>by
  unfold tb
  split
  ·exact List.all_eq_true.2 fun x _=>aT x
  ·exact aT _
 have h2: ∀a,tc [] a=true:=fun a=>by
  unfold tc
  split
  ·exact List.all_eq_true.2 fun x _=>h1 x
  ·exact h1 _
 have aO: ∀a,o2 [] a=true:=fun a=>by
  unfold o2
  split
  ·exact List.all_eq_true.2 fun x _=>h2 x
  ·exact h2 _
 exact List.all_eq_true.2 fun x _=>aO x
theorem Fits.le [FZ] {s S:TS} (h:s.gP S) (f:Fits s):Fits S:=f.congr fun k h1 h2=>(h.get k).resolve_right fun q=>by
 rcases q with q | q
 ·have:=q.1;omega
 ·have:=q.1;omega
theorem aft [cL] [FZ] {n:Nat} (aG:n≤1000000) {s S:TS} (h:s.gP S):Weak (s.aJ n) (S.aJ n):=by
 have J1: ∀k,¬k<1000000→S.get k=s.get k∨(1000010≤k∧JE (s.get k) (S.get k)):=fun k hk=>(h.get k).imp_right fun q=>q.resolve_left fun q=>hk q.1
 have yK: ∀k,¬k<1000000→(S.get k).bE=(s.get k).bE∧(S.get k).en=(s.get k).en:=fun k hk=>by
  rcases J1 k hk with e | ⟨_,g,c,c',br,e2,dW⟩
  ·rw[e];exact⟨rfl,rfl⟩
  ·rw[br,e2]
   refine⟨rfl,?_⟩
   show Blk.mk g c'.length [cS c']=Blk.mk g c.length [cS c]
   have aL:c'.length=c.length:=by have:=congrArg List.length dW;rwa [n7,n7,List.length_map,List.length_map] at this
   rw[dW,aL]
 have aP:S.get dK=s.get dK:=(J1 dK (by unfold dK;omega)).resolve_right fun q=>by have:=q.1;unfold dK at this;omega
 refine SY (Cc aP) (fun t bq=> ?_) [] (aax _) (fun v m _ hm=>⟨by rw[h.vs];exact hm,fun c=> .inl (yK _ (by unfold eL;omega)).1⟩) h.bu fun b _=>(yK _ (by unfold bD;omega)).2
 rcases h.get t with e | ⟨_,e⟩ | ⟨e,_⟩
 ·exact .inl (by rw[e])
 ·exact .of e
 ·omega
inductive lr:Type 1 where
 | nil
 | tV (a b:lr)
 | lp (lU:List (Nat×Nat×bJ)) (fi:List Nat) (la:List (Nat×Nat)) (kK:List bJ) (rd:List Nat) (hV:c8 kK→List (Nat×TV)) (I:c8 kK→Prop) (m:c8 kK→Nat) (b:c8 kK→lr)
def lr.fst:lr→lr
 | .tV a _=>a
 | a=>a
def lr.snd:lr→lr
 | .tV _ b=>b
 | a=>a
def Dr:(kK:List bJ)→(c8 kK→aW)→aW
 | [],F=>F ()
 | e::r,F=> .all e.T fun x=>Dr r fun y=>F (x,y)
theorem JL {R:Exit→TS→Prop}: ∀{kK:List bJ} {F:c8 kK→aW},(Dr kK F).den R→ ∀v,(F v).den R
 | [],F,h,()=>h
 | e::r,F,h,(x,y)=>JL (h x) y
def Hz:(e:bJ)→TV→(e.T→aW)→aW
 | .int,v,K=>(match v with
  | .i _ m=>K m
  | _=> .no)
 | .u64,v,K=>(match v with
  | .i _ m=>K m
  | _=> .no)
 | .bool,v,K=>(match v with
  | .b x=>K x.den
  | _=> .no)
 | .str,v,K=>(match v with
  | .s x=>K x
  | _=> .no)
 | .nat,v,K=>(match v with
  | .blk g _ _ _ _=>K g
  | _=> .no)
 | .dd,v,K=>(match v with
  | .eN _ c=>K (bJ.mk .dd (oS bJ.dd.kT c))
  | _=> .no)
 | .l e,v,K=>(match v with
  | .l dS xs _ _=>if h:dS=e then K (lY h xs) else .no
  | .blk _ dS xs _ _=>if h:dS=e then K (lY h xs) else .no
  | .nil _ _=>K []
  | _=> .no)
 | _,_,_=> .no
def CF (s:TS):(kK:List bJ)→List Nat→(c8 kK→aW)→aW
 | [],_,K=>K ()
 | e::r,k::B0,K=>Hz e (s.get k) fun x=>CF s r B0 fun y=>K (x,y)
 | _,_,_=> .no
theorem abF {R:Exit→TS→Prop} {e:bJ} {v:TV} {K:e.T→aW} (h:(Hz e v K).den R): ∃x,(K x).den R:=by
 cases e with
 | int=>
  have h:(match v with
   | .i _ m=>K m
   | _=>aW.no).den R:=h
  split at h
  ·exact⟨_,h⟩
  ·exact h.elim
 | u64=>
  have h:(match v with
   | .i _ m=>K m
   | _=>aW.no).den R:=h
  split at h
  ·exact⟨_,h⟩
  ·exact h.elim
 | bool=>
  have h:(match v with
   | .b x=>K x.den
   | _=>aW.no).den R:=h
  split at h
  ·exact⟨_,h⟩
  ·exact h.elim
 | str=>
  have h:(match v with
   | .s x=>K x
   | _=>aW.no).den R:=h
  split at h
  ·exact⟨_,h⟩
  ·exact h.elim
 | nat=>
  have h:(match v with
   | .blk g _ _ _ _=>K g
   | _=>aW.no).den R:=h
  split at h
  ·exact⟨_,h⟩
  ·exact h.elim
 | dd=>
  have h:(match v with
   | .eN _ c=>K (bJ.mk .dd (oS bJ.dd.kT c))
   | _=>aW.no).den R:=h
  split at h
  ·exact⟨_,h⟩
  ·exact h.elim
 | l e=>
  have h:(match v with
   | .l dS xs _ _=>if h:dS=e then K (lY h xs) else aW.no
   | .blk _ dS xs _ _=>if h:dS=e then K (lY h xs) else aW.no
   | .nil _ _=>K []
   | _=>aW.no).den R:=h
  split at h
  ·split at h
   ·exact⟨_,h⟩
   ·exact h.elim
  ·split at h
   ·exact⟨_,h⟩
   ·exact h.elim
  ·exact⟨_,h⟩
  ·exact h.elim
 | _=>exact h.elim
theorem HA {R:Exit→TS→Prop} {s:TS}: ∀{kK:List bJ} {B0:List Nat} {K:c8 kK→aW},(CF s kK B0 K).den R→ ∃v,(K v).den R
 | [],_,K,h=>⟨(),h⟩
 | e::r,k::B0,K,h=>by
  obtain⟨x,h⟩:=abF (show(Hz e (s.get k) _).den R from h)
  obtain⟨y,h⟩:=HA h
  exact⟨(x,y),h⟩
 | e::r,[],K,h=>h.elim
def DK (s:TS) (k:Nat) (w:TV) (t:aW):aW:=match w with
 | .ref b g m f=>(match s.get k with
  | .ref cn dJ fB A6=>(match s.get (bD b) with
   | .blk _ _ xs OA _=> .eq cn b (.eq A6 f (.eq dJ g (.eq fB OA (.eq m xs.length t))))
   | _=> .no)
  | _=> .no)
 | .blk g e xs _ _=>(match s.get k with
  | .blk dJ dS vB _ _=>if h:dS=e then .eq dJ g (.eq (lY h vB) xs t) else .no
  | _=> .no)
 | .b y=>(match s.get k with
  | .b x=> .eq x.den y.den t
  | _=> .no)
 | .eN g c=>(match s.get k with
  | .eN dJ c'=> .eq dJ g (.eq (cS c') (cS c) (.eq c'.length c.length t))
  | _=> .no)
 | .l e xs eJ fr=>(match eJ with
  | true=> .eq (s.get k) (.l e xs true fr) t
  | false=>match s.get k with
   | .l dS vB _ nA=>if h:dS=e then .eq (EC nA fr) true (.eq (lY h vB) xs t) else .no
   | .nil _ nA=> .eq (EC nA fr) true (.eq [] xs t)
   | _=> .no)
 | w=> .eq (s.get k) w t
def BY:TV→Bool
 | .blk _ _ _ _ _=>true
 | .eN _ _=>true
 | .kG _ _ _=>true
 | _=>false
def Gs:TV→Bool
 | .g3 _ _ _ _=>true
 | .new _ _=>true
 | _=>false
theorem Ur [FZ] {R:Exit→TS→Prop} {s:TS} {k:Nat} {w:TV} {t:aW} (h:(DK s k w t).den R):(lu (s.get k).bE w.bE∧(BY w=true→w.en=(s.get k).en)∧(Gs w=true→s.get k=w))∧t.den R:=by
 unfold DK at h
 split at h
 ·split at h
  ·rename_i cn dJ fB A6 hk
   split at h
   ·rename_i bB il xs OA aL hb
    obtain⟨h1,h2,aO,bd,ch,cD⟩:=h
    subst h1;subst h2;subst aO;subst bd;subst ch
    refine⟨⟨.inl ?_,(fun q=>by cases q),fun q=>by cases q⟩,cD⟩
    rw[hk,aL]
   ·exact h.elim
  ·exact h.elim
 ·split at h
  ·rename_i dJ dS vB fB qF hk
   split at h
   ·rename_i he
    subst he
    obtain⟨h1,h2,aO⟩:=h
    subst h1
    have h2:vB=_:=h2
    subst h2
    refine⟨⟨.inl ?_,fun _=> ?_,fun q=>by cases q⟩,aO⟩<;>rw[hk]<;>rfl
   ·exact h.elim
  ·exact h.elim
 ·split at h
  ·rename_i y _ x hk
   obtain⟨h1,h2⟩:=h
   refine⟨⟨.inl ?_,(fun q=>by cases q),fun q=>by cases q⟩,h2⟩
   rw[hk];show AV.bool y.den= .bool x.den;rw[h1]
  ·exact h.elim
 ·split at h
  ·rename_i dJ c' hk
   obtain⟨h1,h2,aO,bd⟩:=h
   refine⟨⟨.inl (by rw[hk];rfl),fun _=> ?_,fun q=>by cases q⟩,bd⟩
   rw[hk]
   show(⟨_,_,_⟩:Blk)=⟨_,_,_⟩
   rw[h1,h2,aO]
  ·exact h.elim
 ·split at h
  ·obtain⟨h1,h2⟩:=h
   exact⟨⟨.inl (by rw[h1]),(fun _=>by rw[h1]),fun _=>h1⟩,h2⟩
  ·split at h
   ·rename_i dS vB Wd nA hk
    split at h
    ·rename_i he
     subst he
     obtain⟨h1,h2,aO⟩:=h
     have h2:vB=_:=h2
     subst h2
     exact⟨⟨.inr (.inr ⟨_,_,_,_,by rw[hk];rfl,rfl,Ld h1⟩),(fun q=>by cases q),fun q=>by cases q⟩,aO⟩
    ·exact h.elim
   ·rename_i Wd nA hk
    obtain⟨h1,h2,aO⟩:=h
    subst h2
    exact⟨⟨.inr (.inr ⟨[],_,_,_,by rw[hk];rfl,rfl,Ld h1⟩),(fun q=>by cases q),fun q=>by cases q⟩,aO⟩
   ·exact h.elim
 ·obtain⟨h1,h2⟩:=h
  exact⟨⟨.inl (by rw[h1]),(fun _=>by rw[h1]),fun _=>h1⟩,h2⟩
def DL (s:TS):List (Nat×TV)→aW→aW
 | [],t=>t
 | (k,w)::r,t=>DK s k w (DL s r t)
theorem Kj [FZ] {R:Exit→TS→Prop} {s:TS} {t:aW}: ∀{l:List (Nat×TV)},(DL s l t).den R→(∀k w,(k,w)∈l→lu (s.get k).bE w.bE∧(BY w=true→w.en=(s.get k).en)∧(Gs w=true→s.get k=w))∧t.den R
 | [],h=>⟨(fun k w h=>by cases h),h⟩
 | (k,w)::r,h=>by
  obtain⟨h1,h2⟩:=Ur h
  obtain⟨aO,bd⟩:=Kj h2
  refine⟨fun kR w' hm=> ?_,bd⟩
  rcases List.mem_cons.1 hm with e | hm
  ·cases e;exact h1
  ·exact aO kR w' hm
def CZ (vs:List (Nat×Nat)):List (Nat×Nat)→Bool
 | []=>true
 | (v,m)::r=>(match kU vs v with
  | some fB=>Nat.beq m fB
  | none=>false)&&CZ vs r
def Ar (s:TS):Nat→Bool
 | 0=>true
 | b+1=>BY (s.get (bD b))&&Ar s b
def v3 (la:List (Nat×Nat)):List (Nat×Nat)→List Nat
 | []=>[]
 | (v,_)::r=>match(kU la v).isSome with
  | true=>v3 la r
  | false=>v::v3 la r
def E5 (s S:TS) (t:aW):aW:=
 .eq (CZ s.vs S.vs) true (.eq (Nat.beq S.bu s.bu) true (.eq (Ar S s.bu) true (.eq (S.T.all fun p=>o2 (v3 S.vs s.vs) p.2.bE) true (.eq (iu S) (iu s) (DL s S.T t)))))
theorem GN: ∀{l:List (Nat×Nat)} {v m:Nat},kU l v=some m→(v,m)∈l
 | [],_,_,h=>by cases h
 | (k,fB)::r,v,m,h=>by
  unfold kU at h
  split at h
  ·rename_i hk;cases h;rw[Nat.eq_of_beq_eq_true hk];exact List.mem_cons_self ..
  ·exact List.mem_cons_of_mem _ (GN h)
theorem D6 {la:List (Nat×Nat)}: ∀{l:List (Nat×Nat)} {v m:Nat},(v3 la l).contains v=false→(v,m)∈l→(kU la v).isSome=true
 | [],_,_,_,h=>by cases h
 | (k,fB)::r,v,m,bh,h=>by
  unfold v3 at bh
  split at bh
  ·rename_i hk
   rcases List.mem_cons.1 h with e | h
   ·cases e;exact hk
   ·exact D6 bh h
  ·rename_i hk
   simp only[List.contains_cons,Bool.or_eq_false_iff] at bh
   rcases List.mem_cons.1 h with e | h
   ·cases e;simp at bh
   ·exact D6 bh.2 h
theorem SE {vs:List (Nat×Nat)}: ∀{l:List (Nat×Nat)},CZ vs l=true→ ∀v m,(v,m)∈l→kU vs v=some m
 | [],_,_,_,h=>by cases h
 | (k,fB)::r,hs,v,m,h=>by
  simp only[CZ,Bool.and_eq_true] at hs
  rcases List.mem_cons.1 h with e | h
  ·cases e
   have h1:=hs.1
   split at h1
   ·rename_i bt hm;rw[hm,Nat.eq_of_beq_eq_true h1]
   ·cases h1
  ·exact SE hs.2 v m h
theorem JK {s:TS}: ∀{n:Nat},Ar s n=true→ ∀b,b<n→BY (s.get (bD b))=true
 | 0,_,b,h=>by omega
 | n+1,hs,b,h=>by
  simp only[Ar,Bool.and_eq_true] at hs
  rcases Nat.lt_or_ge b n with q | q
  ·exact JK hs.2 b q
  ·have:b=n:=by omega
   subst this;exact hs.1
theorem LM [cL] [FZ] {n:Nat} {s S:TS} {t:aW} {R:Exit→TS→Prop} (eg:S.B=[]) (aP:Fits s) (h:(E5 s S t).den R):Weak (s.aJ n) (S.aJ n)∧Fits S∧t.den R:=by
 obtain⟨h1,h2,aO,bd,cZ,ch⟩:=h
 obtain⟨cD,gp⟩:=Kj ch
 have wI:=Nat.eq_of_beq_eq_true h2
 have ho: ∀k,(∃v,(k,v)∈S.T∧S.get k=v)∨S.get k= .u:=fun k=>by
  unfold TS.get;rw[eg];exact Om ..
 have LJ: ∀k,lu (s.get k).bE (S.get k).bE:=fun k=>by
  rcases ho k with⟨v,hm,e⟩ | e
  ·rw[e];exact(cD k v hm).1
  ·rw[e];exact .inr (.inl rfl)
 have wO: ∀k,Gs (S.get k)=true→s.get k=S.get k:=fun k hk=>by
  rcases ho k with⟨v,hm,e⟩ | e
  ·rw[e] at hk ⊢;exact(cD k v hm).2.2 hk
  ·rw[e] at hk;cases hk
 have WO:Fits S:=fun V ids pV h' mv=>by
  have e:=wO dK (by rw[mv];rfl)
  obtain⟨q1,q2,q3⟩:=aP V ids pV h' (by rw[e,mv])
  exact⟨q1,q2,fun id xs kM=>q3 id xs (by rw[wO gh (by rw[kM];rfl),kM])⟩
 refine⟨SY cZ (fun t _=>LJ t) (v3 S.vs s.vs) ?_ (fun v m bh hm=> ?_) wI (fun b hb=> ?_),WO,gp⟩
 ·rw[List.all_eq_true]
  intro a a3
  obtain⟨k,_,rfl⟩:=List.mem_map.1 (show a∈(List.range n).map fun t=>(S.get t).bE from a3)
  rcases ho k with⟨v,hm,e⟩ | e
  ·rw[e];exact List.all_eq_true.1 bd (k,v) hm
  ·rw[e];rfl
 ·have hs:=D6 bh (GN hm)
  cases ak:kU S.vs v with
  | none=>rw[ak] at hs;cases hs
  | some fB=>
   have:=SE h1 v fB (GN ak)
   rw[hm] at this
   cases this
   exact⟨rfl,fun c=>LJ _⟩
 ·have hi:=JK aO b hb
  rcases ho (bD b) with⟨v,hm,e⟩ | e
  ·rw[e] at hi ⊢;exact(cD _ v hm).2.1 hi
  ·rw[e] at hi;cases hi
def A3 (s:TS):Nat→Nat→List (Nat×TV)
 | _,0=>[]
 | b,k+1=>(bD b,s.get (bD b))::A3 s (b+1) k
def mV (s S:TS):TS:=⟨S.T++A3 s S.bu (s.bu - S.bu),[],S.vs,s.bu⟩
def PE (n:Nat):TV→Bool
 | .eN _ c=>(cS c).all (p5 n)
 | .kG _ _ _=>false
 | _=>true
def Kr (kd:Option Nat) (S:TS) (m:Nat):Bool:=match kd with
 | some k=>Nat.ble k S.bu&&Nat.ble S.bu m&&iu S&&S.T.all fun p=>xz S.bu p.2.bE&&PE S.bu p.2
 | none=>false
def toHead (kd:Option Nat) (s S:TS) (t:aW):aW:=match Nat.beq S.bu s.bu with
 | true=>E5 s S t
 | false=>E5 s (mV s S) (.eq (mV s S).cs S.cs (.eq (Kr kd S s.bu) true t))
theorem KU (s:TS): ∀(k b:Nat) (j:Nat),(j<bD b)→ ∀v,(j,v) ∉ A3 s b k
 | 0,b,j,h,v,hm=>by cases hm
 | k+1,b,j,h,v,hm=>by
  rcases List.mem_cons.1 hm with e | hm
  ·cases e;exact absurd h (Nat.lt_irrefl _)
  ·exact KU s k (b+1) j (by unfold bD at h ⊢;omega) v hm
theorem afw {s S:TS} (eg:S.B=[]) {j:Nat} (h:j<bD S.bu):(mV s S).get j=S.get j:=by
 show fY (S.T++A3 s S.bu (s.bu - S.bu)) j (fY [] j .u)=fY S.T j (fY S.B j .u)
 rw[sc,eg,ta (KU s _ _ j h)]
theorem U5 {n:Nat} (fr:Bool) (e:bJ) (x:e.T):(cd fr e x).all (p5 n)=true:=by cases e<;>rfl
theorem abQ {n:Nat} {a:AV} (h:xz n a=true):p5 n a=true:=by cases a<;>first | exact h | rfl
theorem toHead_sound [iX:cL] [FZ] {n:Nat} (aG:n≤1000000) {kd:Option Nat} (gr: ∀k,kd=some k→iX.n≤k) {s S:TS} {t:aW} {R:Exit→TS→Prop} (eg:S.B=[]) (aP:Fits s) (h:(toHead kd s S t).den R):Weak (s.aJ n) (S.aJ n)∧Fits S∧t.den R:=by
 unfold toHead at h
 split at h
 ·exact LM eg aP h
 ·obtain⟨w,hf,ja,h1,h2⟩:=LM (n:=n) (S:=mV s S) rfl aP h
  unfold Kr at h1
  split at h1
  ·rename_i k
   simp only[Bool.and_eq_true] at h1
   obtain⟨⟨⟨q1,q2⟩,q3⟩,q4⟩:=h1
   have q1:=Nat.le_of_ble_eq_true q1
   have q2:=Nat.le_of_ble_eq_true q2
   have hg: ∀j,j<bD S.bu→(mV s S).get j=S.get j:=fun j h=>afw eg h
   have Bv: ∀b,b<S.bu→bD b<bD S.bu:=fun b h=>by unfold bD;omega
   have Ya:dK<bD S.bu:=by unfold dK bD;omega
   have Xw:iu (mV s S)=true:=by rw[Cc (hg dK Ya)];exact q3
   have eT:(mV s S).tT n=S.tT n:=List.map_congr_left fun t bq=>by rw[hg t (by have:=List.mem_range.1 bq;unfold bD;omega)]
   have ho: ∀k,(∃v,(k,v)∈S.T∧S.get k=v)∨S.get k= .u:=fun k=>by
    unfold TS.get;rw[eg];exact Om ..
   have Fo: ∀k,xz S.bu (S.get k).bE=true∧PE S.bu (S.get k)=true:=fun k=>by
    rcases ho k with⟨v,hm,e⟩ | e
    ·have:=List.all_eq_true.1 q4 _ hm
     rw[Bool.and_eq_true] at this
     rw[e];exact this
    ·rw[e];exact⟨rfl,rfl⟩
   have aS: ∀b,((mV s S).aJ n).H[b]?=if b<s.bu then some ((mV s S).get (bD b)).en else none:=fun b=>by
    show((mV s S).gw++g4 (mV s S))[b]?=_
    have:g4 (mV s S)=[]:=by unfold g4;rw[Xw]
    rw[this,List.append_nil,p8];rfl
   have Ku:=Weak.cut (T:=S.tT n) (L:=S.cs) (H:=((mV s S).aJ n).H) S.bu (Nat.le_trans (gr k rfl) q1) (fun t=> ?_) (fun t cells hc=> ?_) (fun b blk hb yK row aK=> ?_)
   ·have br:(mV s S).aJ n=⟨S.tT n,S.cs,((mV s S).aJ n).H⟩:=by rw[←eT,←ja];rfl
    have e2:(⟨S.tT n,S.cs,((mV s S).aJ n).H.take S.bu⟩:St)=S.aJ n:=by
     show _=(⟨S.tT n,S.cs,S.gw++g4 S⟩:St)
     have:g4 S=[]:=by unfold g4;rw[q3]
     rw[this,List.append_nil]
     congr 1
     apply List.ext_getElem?
     intro b
     rw[List.getElem?_take,aS,p8]
     by_cases hb:b<S.bu
     ·rw[if_pos hb,if_pos (by omega),if_pos hb,hg _ (Bv b hb)]
     ·rw[if_neg hb,if_neg hb]
    rw[br] at w
    rw[e2] at Ku
    exact⟨w.trans Ku,hf.congr fun k h1 h2=>(hg k (by unfold bD;omega)).symm,h2⟩
   ·have:=z2 (n:=n) (s:=S) t
    have this:(S.tT n).getD t .undef=_:=this
    rw[this]
    split
    ·exact(Fo t).1
    ·rfl
   ·have:=vo (n:=n) (s:=S) t
    have this:e0 S.cs t=_:=this
    rw[this] at hc
    cases hm:kU S.vs t with
    | none=>rw[hm] at hc;cases hc
    | some m=>
     rw[hm] at hc
     cases hc
     rw[List.all_eq_true]
     intro a a3
     obtain⟨i,hi⟩:=List.mem_iff_getElem?.1 a3
     rw[AI] at hi
     split at hi
     ·cases hi;exact abQ (Fo _).1
     ·cases hi
   ·rw[aS,if_pos (by omega),hg _ (Bv b hb)] at yK
    cases yK
    have ak:=(Fo (bD b)).2
    revert aK ak
    cases S.get (bD b) with
    | blk g e xs m h=>
     intro aK _
     obtain⟨x,_,rfl⟩:=List.mem_map.1 (show row∈xs.map (cd true e) from aK)
     exact U5 true e x
    | eN g c=>
     intro aK ak
     rw[List.mem_singleton.1 (show row∈[cS c] from aK)];exact ak
    | kG g m ids=>intro _ ak;cases ak
    | _=>intro aK _;cases aK
  ·cases h1
def vM (n:Nat):List (Nat×Nat×bJ)→TS→(TS→aW)→aW
 | [],s,K=>K s
 | p::r,s,K=>
  let s1:=s.gQ s.bu (s.bu+1) (.blk 0 p.2.2 [] 0 rfl)
  match p.1 with
  | 0=> .eq (r9 (cP n s (.tmp p.2.1)).bE) true (.eq s1.cs s.cs (.eq (iu s) true (vM n r (kA n s1 (some p.2.1) (.ref s.bu 0 0 false)) K)))
  | v+1=>
   let s2:=s1.add [(eL v p.2.1,.ref s.bu 0 0 false)] s1.vs s1.bu
   match kU s.vs v with
   | some m=> .eq (r9 ((cS (hU s v 0 m)).getD p.2.1 .undef)) true (.eq s2.cs (lk s.cs v ((cS (hU s v 0 m)).set p.2.1 (.ref s.bu 0 0 0 false))) (.eq (pu [(eL v p.2.1,.ref s.bu 0 0 false)]) true (.eq (iu s) true (vM n r s2 K))))
   | none=> .no
theorem Aq [cL] [FZ] {n:Nat} (aG:n≤1000000) {R:Exit→TS→Prop} {K:TS→aW}: ∀{l:List (Nat×Nat×bJ)} {s:TS},Fits s→(vM n l s K).den R→ ∃s',Weak (s.aJ n) (s'.aJ n)∧Fits s'∧(K s').den R
 | [],s,aP,h=>⟨s,.refl _,aP,h⟩
 | (p,q,e)::r,s,aP,h=>by
  unfold vM at h
  simp only at h
  split at h
  ·obtain⟨h1,h2,cZ,h⟩:=h
   obtain⟨s',w,hf,h⟩:=Aq aG (zz aG (qo aP)) h
   refine⟨s',Weak.trans ?_ w,hf,h⟩
   have cu:(cP n s (.tmp q)).bE=(s.aJ n).T.getD q .undef:=(congrFun (lb n s) (.tmp q)).symm
   rw[cu] at h1
   have:=Weak.Tw q e.l_ (L:=(s.aJ n).L) (H:=(s.aJ n).H) h1
   rw[zA aG]
   show Weak _ ⟨putA ((s.gQ s.bu (s.bu+1) _).tT n) _ _,(s.gQ s.bu (s.bu+1) _).cs,((s.gQ s.bu (s.bu+1) _).aJ n).H⟩
   rw[qn aG,h2,AD cZ]
   rw[CY cZ] at this
   exact this
  ·rename_i v
   split at h
   ·rename_i m hm
    obtain⟨h1,h2,eg,cZ,h⟩:=h
    obtain⟨s',w,hf,h⟩:=Aq aG (x_ eg (qo aP)) h
    refine⟨s',Weak.trans ?_ w,hf,h⟩
    have:=Weak.tP v q e.l_ (T:=(s.aJ n).T) (H:=(s.aJ n).H) (show e0 (s.aJ n).L v=some (cS (hU s v 0 m)) by rw[vo,hm];rfl) h1
    rw[CY cZ] at this
    show Weak _ ⟨(TS.add _ _ _ _).tT n,(TS.add _ _ _ _).cs,((TS.add _ _ _ _).aJ n).H⟩
    rw[h2,x9 aG eg,qn aG]
    have dW:=x8 (n:=n) (s:=s.gQ s.bu (s.bu+1) (.blk 0 e [] 0 rfl)) (vs:=(s.gQ s.bu (s.bu+1) (.blk 0 e [] 0 rfl)).vs) eg
    rw[dW,AD cZ]
    exact this
   ·exact h.elim
theorem U4 {e:bJ} (h:e.o5=true) (x:e.T): ∀a∈cd true e x,jM a=true∧oe a=true:=by
 have key:(cd true e x).all (fun a=>jM a&&oe a)=true:=by cases e<;>first | rfl | cases h
 intro a a3
 have:=List.all_eq_true.1 key a a3
 rwa [Bool.and_eq_true] at this
theorem afl (e:bJ) (x:e.T):(cd true e x).map kD=cd false e x:=by
 rw[←qw,←qw]
 have key: ∀(es:List bJ) (y:c8 es),(l1 true es y).map kD=l1 false es y:=by
  intro es
  induction es with
  | nil=>intro y;rfl
  | cons e r bQ=>
   intro y
   show kD (oR true e y.1)::(l1 true r y.2).map kD=_
   rw[bQ,l1]
   congr 1
   cases e<;>rfl
 exact key _ _
def yv (kd:Option Nat) (n:Nat):List (Nat×Nat)→TS→(TS→aW)→aW
 | [],s,K=>K s
 | p::r,s,K=>match s.get (match p.1 with
   | 0=>p.2
   | v+1=>eL v p.2) with
  | .ref b g m _=>(match kd with
   | some k=>(match Nat.ble k b with
    | true=>rF s b g fun e xs fB h=>
     let s1:=s.gQ b s.bu (.blk (g+1) e [] 0 rfl)
     match p.1 with
     | 0=> .eq (Nat.blt p.2 n) true (.eq fB m (.eq e.o5 true (.eq s1.cs s.cs (.p (xs.length≤4611686018427387904) (yv kd n r (kA n s1 (some p.2) (.l e xs false true)) K)))))
     | v+1=>
      let s2:=s1.add [(eL v p.2,.l e xs false true)] s1.vs s1.bu
      match kU s.vs v with
      | some hP=> .eq (Nat.blt p.2 hP&&pu [(eL v p.2,TV.l e xs false true)]) true (.eq fB m (.eq e.o5 true (.eq s2.cs (lk s.cs v ((cS (hU s v 0 hP)).set p.2 (TV.l e xs false true).bE)) (.p (xs.length≤4611686018427387904) (yv kd n r s2 K)))))
      | none=> .no
    | false=> .no)
   | none=> .no)
  | _=> .no
theorem EE [iX:cL] [FZ] {n:Nat} (aG:n≤1000000) {kd:Option Nat} (gr: ∀k,kd=some k→iX.n≤k) {R:Exit→TS→Prop} {K:TS→aW}: ∀{l:List (Nat×Nat)} {s:TS},Fits s→(yv kd n l s K).den R→ ∃s',Weak (s.aJ n) (s'.aJ n)∧Fits s'∧(K s').den R
 | [],s,aP,h=>⟨s,.refl _,aP,h⟩
 | (p,q)::r,s,aP,h=>by
  unfold yv at h
  simp only at h
  split at h
  ·rename_i b g m eJ pL
   split at h
   ·rename_i k
    split at h
    ·rename_i Bv
     have LF:=Nat.le_trans (gr k rfl) (Nat.le_of_ble_eq_true Bv)
     obtain⟨e,xs,fB,hm,h,hb,aS⟩:=vQ (n:=n) h
     have gB: ∀row∈xs.map (cd true e),e.o5=true→ ∀a∈row,jM a=true∧oe a=true:=fun row aK aC a a3=>by
      obtain⟨x,_,rfl⟩:=List.mem_map.1 aK
      exact U4 aC x a a3
     have qI:(xs.map (cd true e)).map (fun row=>row.map kD)=xs.map (cd false e):=by
      rw[List.map_map];exact List.map_congr_left fun x _=>afl e x
     cases p with
     | zero=>
      obtain⟨aT,h1,h2,aO,bd,h⟩:=h
      replace pL:s.get q= .ref b g m eJ:=pL
      obtain⟨s',w,hf,h⟩:=EE aG gr (zz aG (qo aP)) h
      refine⟨s',Weak.trans ?_ w,hf,h⟩
      have ak:q<n:=by rw[Nat.blt_eq] at aT;exact aT
      have cu:(s.aJ n).T.getD q .undef= .ref b g 0 m eJ:=by
       rw[z2,if_pos ak,pL];rfl
      have:=Weak.Wc q (L:=(s.aJ n).L) cu (by rw[List.length_map,←h1];exact hm.symm) aS LF (fun row aK a a3=>gB row aK h2 a a3) (by rw[List.length_map];exact bd)
      rw[qI] at this
      rw[zA aG]
      show Weak _ ⟨putA ((s.gQ b s.bu _).tT n) _ _,(s.gQ b s.bu _).cs,((s.gQ b s.bu _).aJ n).H⟩
      rw[qn aG,aO,tU hb]
      exact this
     | succ v=>
      replace pL:s.get (eL v q)= .ref b g m eJ:=pL
      simp only at h
      split at h
      ·rename_i hP rY
       obtain⟨aT,h1,h2,aO,bd,h⟩:=h
       rw[Bool.and_eq_true,Nat.blt_eq] at aT
       obtain⟨s',w,hf,h⟩:=EE aG gr (x_ aT.2 (qo aP)) h
       refine⟨s',Weak.trans ?_ w,hf,h⟩
       have hc:e0 (s.aJ n).L v=some (cS (hU s v 0 hP)):=by rw[vo,rY];rfl
       have cu:(cS (hU s v 0 hP)).getD q .undef= .ref b g 0 m eJ:=by
        rw[List.getD_eq_getElem?_getD,AI,if_pos aT.1,Nat.zero_add,pL];rfl
       have:=Weak.Wb v q (T:=(s.aJ n).T) hc cu (by rw[List.length_map,←h1];exact hm.symm) aS LF (fun row aK a a3=>gB row aK h2 a a3) (by rw[List.length_map];exact bd)
       rw[qI] at this
       show Weak _ ⟨(TS.add _ _ _ _).tT n,(TS.add _ _ _ _).cs,((TS.add _ _ _ _).aJ n).H⟩
       have dW:=x8 (n:=n) (s:=s.gQ b s.bu (.blk (g+1) e [] 0 rfl)) (vs:=(s.gQ b s.bu (.blk (g+1) e [] 0 rfl)).vs) aT.2
       rw[aO,x9 aG aT.2,qn aG,dW,tU hb]
       exact this
      ·exact h.elim
    ·exact h.elim
   ·exact h.elim
  ·exact h.elim
def NN (k:Nat):List (Nat×TV)→Bool
 | []=>false
 | p::r=>match Nat.beq p.1 k with
  | true=>true
  | false=>NN k r
def Gz (s:TS) (hV:List (Nat×TV)):List Nat→List (Nat×TV)
 | []=>[]
 | k::r=>match NN k hV with
  | true=>Gz s hV r
  | false=>(k,s.get k)::Gz s hV r
def SW (v:Nat):Nat→Nat→List Nat
 | _,0=>[]
 | c,m+1=>eL v c::SW v (c+1) m
def NW:List (Nat×Nat)→List Nat
 | []=>[]
 | p::r=>SW p.1 0 p.2++NW r
def J8:Nat→List Nat
 | 0=>[]
 | b+1=>bD b::J8 b
def e9 (fi:List Nat) (la:List (Nat×Nat)) (k:Nat) (I:Int→Prop) (m:Int→Nat) (b:Int→lr):lr:= .lp [] fi la [.int] [k] (fun v=>[(k,.i .i64 v.1)]) (fun v=>I v.1) (fun v=>m v.1) fun v=>b v.1
def aW.A4:aW→Bool
 | .jT ex _=>(match ex with
  | .normal=>false
  | _=>true)
 | .hE | .no | .all _ _=>false
 | .p _ t | .ka _ t | .eq _ _ t=>t.A4
 | .je _ _ x y | .two x y | .hN x _ _ y=>(match x.A4 with
  | true=>true
  | false=>y.A4)
def uh:Code→Bool
 | .loop _=>true
 | .seq x y=>uh x || uh y
 | .cond _ x y=>uh x || uh y
 | .block _ x=>uh x
 | .scope x=>uh x
 | _=>false
def Eh (jX:List (List (Nat×TV)×List (Nat×TV))) (t:aW):aW:=match jX with
 | []=>t
 | p::r=> .eq p.1 p.2 (Eh r t)
theorem KG {R:Exit→TS→Prop} {t:aW}: ∀{jX:List (List (Nat×TV)×List (Nat×TV))},(Eh jX t).den R→(∀p∈jX,p.1=p.2)∧t.den R
 | [],h=>⟨(fun p h=>by cases h),h⟩
 | p::r,h=>by
  obtain⟨h1,h2⟩:=h
  obtain⟨aO,bd⟩:=KG h2
  exact⟨fun q ak=>by
   rcases List.mem_cons.1 ak with rfl | ak
   ·exact h1
   ·exact aO q ak,bd⟩
structure vH (P:Program) where
 len:List Nat
 UK:List (Nat×List Item×List (List Nat))
 pe:List (sy P)
 C7:List (ls P)
 Pu:List (Nat×List (Nat×Nat)×List (Nat×Nat×bJ))
def B6:List (Nat×List Item×List (List Nat))→Nat→(List Item→List (List Nat)→aW)→aW
 | [],_,_=> .no
 | p::r,id,K=>match Nat.beq p.1 id with
  | true=>K p.2.1 p.2.2
  | false=>B6 r id K
def GM:List (Nat×List (Nat×Nat)×List (Nat×Nat×bJ))→Nat→List (Nat×Nat)×List (Nat×Nat×bJ)
 | [],_=>([],[])
 | p::r,id=>match Nat.beq p.1 id with
  | true=>p.2
  | false=>GM r id
section
variable {P:Program} (cf:hj P) (ez:vH P) (kd:Option Nat)
def yM (s:TS) (fi:List Nat) (la:List (Nat×Nat)) (hV:List (Nat×TV)):TS:=⟨hV++Gz s hV (fi++(NW la++(dK::J8 s.bu))),[],la,s.bu⟩
def kj:Code→TS→lr→(Exit→TS→lr→aW)→aW
 | .skip,s,a,K=>K .normal s a
 | .ret,s,a,K=>K .ret s a
 | .exit id,s,a,K=>K (.exit id) s a
 | .region id ops draw,s,a,K=>yv kd cf.n (GM ez.Pu id).1 s fun s=>vM cf.n (GM ez.Pu id).2 s fun s=>(match draw with
  | false=>CK cf ⟨ez.len,ez.pe,ez.C7⟩ ops ops.toList s fun s=>K .normal s a
  | true=>B6 ez.UK id fun ord kk=>D3 cf ⟨ez.len,ez.pe,ez.C7⟩ ops ord kk s fun s=>K .normal s a)
 | .seq x y,s,a,K=>(match uh x with
  | true=>kj x s a fun ex s a=>match ex with
   | .normal=>kj y s a K
   | ex=>K ex s a
  | false=>match(kj x s a fun ex s _=> .jT ex s).na with
   | .some S jX=>Eh jX (.hN ((kj x s a fun ex s _=> .jT ex s).bind fun ex s=>match ex with
    | .normal=> .hE
    | ex=>K ex s a.fst) (kj x s a fun ex s _=> .jT ex s).facts (kj x s a fun ex s _=> .jT ex s).lz (kj y S (match(kj x s a fun ex s _=> .jT ex s).A4 with
    | true=>a.snd
    | false=>a) K))
   | _=>kj x s a fun ex s a=>match ex with
    | .normal=>kj y s a K
    | ex=>K ex s a)
 | .cond c x y,s,a,K=>(match cP cf.n s c with
  | .b z=>CU z s fun b s=>match b with
   | true=>kj x s a.fst K
   | false=>kj y s a.snd K
  | _=> .no)
 | .block id c,s,a,K=>kj c s a fun ex s a=>match ex with
  | .exit gC=>(match Nat.beq gC id with
   | true=>K .normal s a
   | false=>K (.exit gC) s a)
  | ex=>K ex s a
 | .loop c,s,a,K=>(match a with
  | .lp lU fi la kK rd hV I m b=>vM cf.n lU s fun s=>CF s kK rd fun h9=>toHead kd s (yM s fi la (hV h9)) (.p (I h9) (Dr kK fun v=> .ka (I v) (kj c (yM s fi la (hV v)) (b v) fun ex s' a=>match ex with
   | .normal=>CF s' kK rd fun e_=>toHead kd s' (yM s fi la (hV e_)) (.p (I e_∧m e_<m v) .hE)
   | ex=>K ex s' a)))
  | _=> .no)
 | _,_,_,_=> .no
end
section
variable {P:Program} {cf:hj P} {ez:vH P}
theorem aaq {R:Exit→TS→Prop} {l:List (Nat×List Item×List (List Nat))} {id:Nat} {K:List Item→List (List Nat)→aW} (h:(B6 l id K).den R): ∃o A,(K o A).den R:=by
 induction l with
 | nil=>exact h.elim
 | cons p r bQ=>
  unfold B6 at h
  split at h
  ·exact⟨_,_,h⟩
  ·exact bQ h
theorem UL [cL] (aG:cf.n≤1000000) {ez:qd P} {R:Exit→TS→Prop} {ops:Array Oper} {ord:List Item} {kk:List (List Nat)} {s:TS} {K:TS→aW} {Q:Exit→St→Prop} {id:Nat} (hK: ∀s (Z:FZ),(K s).den R→ @Fits Z s→Q .normal (@TS.aJ Z cf.n s)) (Z:FZ) (aP:Fits s) (h:(D3 cf ez ops ord kk s K).den R):WpS P (.region id ops true) Q (s.aJ cf.n):=by
 unfold D3 at h
 simp only at h
 split at h
 ·exact h.elim
 ·rename_i hb
  obtain⟨h1,h2,aO,bd,ch,gp,oh,h⟩:=h
  rw[CX]
  refine WpS.PN (esc:=[]) ord kk h1 h2 aO rfl _ gp oh ?_
  have:=PS aG (Kp:=fun T L H=>Q .normal ⟨T,L,H⟩) (fun s Z hs hf=>hK s Z hs hf) ord Z _ (x_ hb aP) bd h
  rw[ch,x8 hb,x9 aG hb] at this
  exact this
theorem S0 [iX:cL] (aG:cf.n≤1000000) {kd:Option Nat} (gr: ∀k,kd=some k→iX.n≤k): ∀(c:Code) {R:Exit→TS→Prop} {s:TS} {a:lr} {K:Exit→TS→lr→aW} {Q:Exit→St→Prop},(∀ex s a (Z:FZ),(K ex s a).den R→ @Fits Z s→Q ex (@TS.aJ Z cf.n s))→ ∀Z:FZ,@Fits Z s→(kj cf ez kd c s a K).den R→WpS P c Q (@TS.aJ Z cf.n s):=by
 intro c
 induction c with
 | skip=>intro R s a K Q hK Z aP h;exact WpS.skip (hK _ _ _ Z h aP)
 | ret=>intro R s a K Q hK Z aP h;exact WpS.ret (hK _ _ _ Z h aP)
 | exit id=>intro R s a K Q hK Z aP h;exact WpS.exit (hK _ _ _ Z h aP)
 | region id ops draw=>
  intro R s a K Q hK Z aP h
  obtain⟨s1,bI,uF,h⟩:=EE aG gr aP h
  obtain⟨s2,b_,uG,h⟩:=Aq aG uF h
  refine WpS.mn ?_ (bI.trans b_)
  cases draw with
  | false=>
   rw[CX]
   refine WpS.PO (esc:=[]) rfl ?_
   exact HG aG (Kp:=fun T L H=>Q .normal ⟨T,L,H⟩) (fun s Z hs hf=>hK _ s _ Z hs hf) ops.toList Z s2 uG h
  | true=>
   obtain⟨ord,kk,h⟩:=aaq h
   exact UL aG (fun s Z hs hf=>hK _ s _ Z hs hf) Z uG h
 | cond c x y hZ hM=>
  intro R s a K Q hK Z aP h
  unfold kj at h
  split at h
  ·rename_i z qM
   obtain⟨s',br,e2,h⟩:=I1 (n:=cf.n) h
   have hf:=aP.congr fun k _ _=>e2 k
   rw[←br]
   have hc:cr (s'.aJ cf.n).T c= .bool z.den:=by
    rw[br,congrFun (lb cf.n s) c]
    show(cP cf.n s c).bE=_
    rw[qM];rfl
   refine WpS.cond ?_
   rw[hc]
   refine⟨fun hb=> ?_,fun hb=> ?_⟩
   ·rw[hb] at h;exact hZ hK Z hf h
   ·rw[hb] at h;exact hM hK Z hf h
  ·exact h.elim
 | block id c bQ=>
  intro R s a K Q hK Z aP h
  refine WpS.block (bQ (K:=fun ex s a=>match ex with
   | .exit gC=>(match Nat.beq gC id with
    | true=>K .normal s a
    | false=>K (.exit gC) s a)
   | ex=>K ex s a) (fun ex s a Z hs hf=> ?_) Z aP h)
  cases ex with
  | exit gC=>
   show if gC=id then _ else _
   have hs:(match Nat.beq gC id with
    | true=>K .normal s a
    | false=>K (.exit gC) s a).den R:=hs
   split at hs
   ·rename_i hb;rw[if_pos (Nat.eq_of_beq_eq_true hb)];exact hK _ _ _ Z hs hf
   ·rename_i hb
    rw[if_neg fun e=>by subst e;rw[Nat.beq_refl] at hb;cases hb];exact hK _ _ _ Z hs hf
  | _=>exact hK _ _ _ Z hs hf
 | seq x y Mv Mw=>
  intro R s a K Q hK Z aP h
  have Kq:(kj cf ez kd x s a fun ex s a=>match ex with
   | .normal=>kj cf ez kd y s a K
   | ex=>K ex s a).den R→WpS P (.seq x y) Q (s.aJ cf.n):=fun h=>by
   refine WpS.seq (Mv (fun ex s a Z hs hf=> ?_) Z aP h)
   cases ex with
   | normal=>exact Mw hK Z hf hs
   | _=>exact hK _ _ _ Z hs hf
  unfold kj at h
  split at h
  ·exact Kq h
  ·split at h
   ·rename_i S jX hm
    obtain⟨ak,h⟩:=KG h
    obtain⟨h1,h2⟩:=h
    rw[aW.TR] at h1
    have aO:=aW.aaD hm ak h1
    refine WpS.seq (Mv (K:=fun ex s _=> .jT ex s) (fun ex s' ij Z hs hf=> ?_) Z aP aO)
    have hs:_∧(ex= .normal→s'.gP S∧_∧_):=hs
    cases ex with
    | normal=>
     obtain⟨q1,q2,q3⟩:=hs.2 rfl
     exact WpS.mn (Mw hK Z (hf.le q1) (h2 (Vi q3 q2))) (aft aG q1)
    | _=>exact hK _ _ _ Z hs.1 hf
   ·exact Kq h
 | loop c bQ=>
  intro R s a K Q hK Z aP h
  unfold kj at h
  split at h
  ·rename_i lU fi la kK rd hV I m b
   obtain⟨s1,bI,uF,h⟩:=Aq aG aP h
   obtain⟨h9,h⟩:=HA h
   obtain⟨b_,uG,h⟩:=toHead_sound (n:=cf.n) aG gr rfl uF h
   obtain⟨aT,h⟩:=h
   have hv:=JL h
   refine WpS.Oo (V:=c8 kK×FZ) (fun v=> @TS.aJ v.2 cf.n (yM s1 fi la (hV v.1))) (fun v=>I v.1∧ @Fits v.2 (yM s1 fi la (hV v.1))) (fun v=>m v.1) rfl (h9,Z) (bI.trans b_) ⟨aT,uG⟩ fun v a0=> ?_
   refine bQ (fun ex s' a Z' hs hf=> ?_) v.2 a0.2 (hv v.1 a0.1)
   cases ex with
   | normal=>
    obtain⟨e_,hs⟩:=HA hs
    obtain⟨dL,Bp,hs⟩:=toHead_sound (n:=cf.n) aG gr rfl hf hs
    exact⟨(e_,Z'),⟨hs.1.1,Bp⟩,hs.1.2,dL⟩
   | _=>exact hK _ _ _ Z' hs hf
  ·exact h.elim
 | _=>intro R s a K Q hK Z aP h;exact h.elim
end
def u0:(e:bJ)→e.T→TV
 | .ptr e,x=> .dA e x 0
 | .ik f .unit,_=> .fn f []
 | .ik f e,x=> .fn f [u0 e x]
 | e,x=>match e.isS with
  | true=> .agg (gJ false e x)
  | false=>z8 false e x
theorem O1: ∀(e:bJ) (x:e.T),(u0 e x).bE=oc e x:=by
 have bF: ∀(e:bJ) (x:e.T),(match e.isS with
  | true=>TV.agg (gJ false e x)
  | false=>z8 false e x).bE=match e.isS with
  | true=> .agg (cd false e x)
  | false=>oR false e x:=fun e x=>by
  cases e.isS with
  | true=>show AV.agg (cS _)=_;rw[vX]
  | false=>exact Ji false e x
 intro e
 induction e with
 | ik f e bQ=>
  intro x
  have key:u0 (.ik f e) x= .fn f [u0 e x]→oc (.ik f e) x= .fn f [oc e x]→(u0 (.ik f e) x).bE=oc (.ik f e) x:=fun h1 h2=>by
   rw[h1,h2,←bQ x];rfl
  cases e with
  | unit=>rfl
  | _=>exact key rfl rfl
 | ptr e bQ=>intro x;rfl
 | _=>intro x;exact bF _ x
def u1:Nat→(es:List bJ)→c8 es→List (Nat×TV)
 | _,[],_=>[]
 | i,e::r,x=>(i,u0 e x.1)::u1 (i+1) r x.2
def pR (ps:List bJ) (x:c8 ps):TS:=⟨u1 0 ps x,[],[],0⟩
theorem O2: ∀(es:List bJ) (x:c8 es) (i t:Nat),(fY (u1 i es x) t .u).bE=if t<i then .undef else(od es x).getD (t - i) .undef
 | [],x,i,t=>by
  show AV.undef=_
  split<;>simp[od]
 | e::r,x,i,t=>by
  rw[u1,gL,od]
  by_cases h:i=t
  ·subst h
   rw[if_pos rfl,if_neg (by omega),Nat.sub_self,O1];rfl
  ·rw[if_neg h,O2 r x.2 (i+1) t]
   by_cases h2:t<i
   ·rw[if_pos (by omega),if_pos h2]
   ·rw[if_neg (by omega),if_neg h2,show t - i=(t - (i+1))+1 by omega];rfl
theorem KC: ∀(es:List bJ) (x:c8 es),(od es x).length=es.length
 | [],_=>rfl
 | e::r,x=>by rw[od,List.length_cons,List.length_cons,KC r]
theorem NQ (ps:List bJ) (x:c8 ps) (h:ps.length≤1000000):iu (pR ps x)=true:=by
 have key: ∀(es:List bJ) (y:c8 es) (i:Nat),i+es.length≤1000000→ ∀v,(dK,v) ∉ u1 i es y:=by
  intro es
  induction es with
  | nil=>intro y i _ v hv;cases hv
  | cons e r bQ=>
   intro y i hi v hv
   simp only[List.length_cons] at hi
   rcases List.mem_cons.1 hv with e | hv
   ·injection e with e _;unfold dK at e;omega
   ·exact bQ y.2 (i+1) (by omega) v hv
 unfold iu
 have:(pR ps x).get dK= .u:=by
  show fY (u1 0 ps x) dK (fY [] dK .u)=_
  rw[ta (key ps x 0 (by omega))];rfl
 rw[this]
theorem ZP [FZ] {fn:Func} {ps:List bJ} {x:c8 ps} (h:ps.length≤fn.ntmps) (aL:ps.length≤1000000):za fn (od ps x) []=(pR ps x).aJ fn.ntmps:=by
 have cu:od ps x++List.replicate (fn.ntmps - (od ps x).length) AV.undef=((pR ps x).aJ fn.ntmps).T:=by
  apply List.ext_getElem?
  intro t
  show _=((List.range fn.ntmps).map fun t=>((pR ps x).get t).bE)[t]?
  rw[List.getElem?_map]
  rcases Nat.lt_or_ge t fn.ntmps with aL | aL
  ·rw[List.getElem?_range aL]
   show _=some (fY (u1 0 ps x) t .u).bE
   rw[O2,if_neg (by omega),Nat.sub_zero]
   rcases Nat.lt_or_ge t (od ps x).length with h1 | h1
   ·rw[List.getElem?_append_left h1,List.getD_eq_getElem?_getD,List.getElem?_eq_getElem h1];rfl
   ·rw[List.getElem?_append_right h1,List.getElem?_replicate,if_pos (by omega),List.getD_eq_getElem?_getD,List.getElem?_eq_none h1];rfl
  ·rw[List.getElem?_eq_none (l:=List.range fn.ntmps) (by simpa using aL),List.getElem?_eq_none]
   ·rfl
   ·rw[List.length_append,List.length_replicate,KC];omega
 have aS:((pR ps x).aJ fn.ntmps).H=[]:=by
  show(pR ps x).gw++g4 (pR ps x)=[]
  unfold g4;rw[NQ ps x aL];rfl
 show(⟨_,[],[]⟩:St)=⟨((pR ps x).aJ fn.ntmps).T,[],((pR ps x).aJ fn.ntmps).H⟩
 rw[cu,aS]
def A_ (s:TS):(e:bJ)→TV→e.T→aW→aW
 | .int,v,r,t=>(match v with
  | .i k m=>if k= .i64 then .p (m=r) t else .no
  | _=> .no)
 | .u64,v,r,t=>(match v with
  | .i k m=>if k= .u64 then .p (m=r) t else .no
  | _=> .no)
 | .bool,v,r,t=>(match v with
  | .b x=> .p (x.den=r) t
  | _=> .no)
 | .str,v,r,t=>(match v with
  | .s x=> .p (x=r) t
  | _=> .no)
 | .l e,v,r,t=>(match v with
  | .l dS xs _ fr=>(match fr with
   | true=>if h:dS=e then .p (lY h xs=r) t else .no
   | false=> .no)
  | .nil _ _=> .p ([]=r) t
  | .ref b g m _=>rF s b g fun dS xs fB _=>if h:dS=e then .eq e.o5 true (.eq fB m (.p (xs.length≤4611686018427387904∧lY h xs=r) t)) else .no
  | _=> .no)
 | _,_,_,_=> .no
def Ex (s:TS):(es:List bJ)→List TV→c8 es→aW→aW
 | [],[],_,t=>t
 | e::r,v::vs,x,t=>A_ s e v x.1 (Ex s r vs x.2 t)
 | _,_,_,_=> .no
def Ba (s:TS) (e:bJ) (v:TV) (r:e.T) (t:aW):aW:=match e.isS with
 | true=>(match v with
  | .agg c=>Ex s e.kT c (e.un r) t
  | _=> .no)
 | false=>A_ s e v r t
def Bb (s:TS):(es:List bJ)→List TV→c8 es→aW→aW
 | [],[],_,t=>t
 | e::r,v::vs,x,t=>Ba s e v x.1 (Bb s r vs x.2 t)
 | _,_,_,_=> .no
def PR (P:Program) (n:Nat) (s:TS):ResultVar→TV
 | .tmp t=>cP n s (.tmp t)
 | .cell a t=>(match cP n s (.tmp a) with
  | .lp v c=>(match kU s.vs v with
   | some m=>vt P t (hU s v 0 m) c
   | none=> .u)
  | _=> .u)
def wi (P:Program) (n:Nat) (fn:Func) (rs:List bJ) (r:c8 rs) (s:TS):aW:=
 let vs:=fn.results.toList.map (PR P n s)
 .eq (fun H Q=>q9 P ⟨s.tT n,s.cs,H⟩ fn.results.toList Q) (fun _ Q=>Q (cS vs)) (.eq ((cS vs).all kc) true (Bb s rs vs r .hE))
section
variable {n:Nat} {s:TS} {R:Exit→TS→Prop} {t:aW}
theorem Un {H:List Blk} (e:bJ) (x:e.T) (h:e.o5=true):k1 H (cd true e x) (cd false e x):=by
 cases e with
 | int=>exact T6 x
 | u64=>exact .cons (.int _ _) rfl .nil
 | u8=>exact T8 x
 | bool=>exact vV x
 | str=>exact T7 x
 | bj=>exact Kc x
 | ki=>exact T9 x
 | dt=>exact .cons (.int _ _) rfl (.cons (kL _) rfl (.cons (kL _) rfl (.cons (kL _) rfl (.cons (.int _ _) rfl .nil))))
 | fT=>exact T4 x
 | gM=>exact yi x
 | held=>exact T5 x
 | frame=>exact .cons (.bool _) rfl (.cons (kL _) rfl (.cons (kL _) rfl (.cons (kL _) rfl .nil)))
 | done=>exact T3 x
 | fault=>exact .cons (.int _ _) rfl (.cons (.int _ _) rfl .nil)
 | stays=>exact .cons (kL _) rfl (.cons (kL _) rfl (.cons (kL _) rfl .nil))
 | dd=>exact .cons (kL _) rfl (.cons (.int _ _) rfl (.cons (.int _ _) rfl .nil))
 | l e=>exact .cons (kL _) rfl .nil
 | _=>cases h
end
section
variable [FZ] {n:Nat} {s:TS} {R:Exit→TS→Prop} {t:aW}
theorem KX {e:bJ} {v:TV} {r:e.T} (h:(A_ s e v r t).den R):gI (s.aJ n).H v.bE (oR true e r)∧t.den R:=by
 cases e with
 | int=>
  have h:(match v with
   | .i k m=>if k=IntKind.i64 then aW.p (m=r) t else .no
   | _=> .no).den R:=h
  split at h
  ·split at h
   ·rename_i hk;subst hk;exact⟨xK h.1,h.2⟩
   ·exact h.elim
  ·exact h.elim
 | u64=>
  have h:(match v with
   | .i k m=>if k=IntKind.u64 then aW.p (m=r) t else .no
   | _=> .no).den R:=h
  split at h
  ·split at h
   ·rename_i hk;subst hk;exact⟨xK h.1,h.2⟩
   ·exact h.elim
  ·exact h.elim
 | bool=>
  have h:(match v with
   | .b x=>aW.p (x.den=r) t
   | _=> .no).den R:=h
  split at h
  ·exact⟨np h.1,h.2⟩
  ·exact h.elim
 | str=>
  have h:(match v with
   | .s x=>aW.p (x=r) t
   | _=> .no).den R:=h
  split at h
  ·exact⟨aeY h.1,h.2⟩
  ·exact h.elim
 | l e=>
  have h:(match v with
   | .l dS xs _ fr=>(match fr with
    | true=>if h:dS=e then aW.p (lY h xs=r) t else .no
    | false=> .no)
   | .nil _ _=> .p ([]=r) t
   | .ref b g m _=>rF s b g fun dS xs fB _=>if h:dS=e then .eq e.o5 true (.eq fB m (.p (xs.length≤4611686018427387904∧lY h xs=r) t)) else .no
   | _=> .no).den R:=h
  split at h
  ·split at h
   ·split at h
    ·rename_i he;subst he;exact⟨vm (e:=cd false _) h.1,h.2⟩
    ·exact h.elim
   ·exact h.elim
  ·exact⟨rj (e:=cd false e) h.1,h.2⟩
  ·rename_i b g m eJ
   obtain⟨dS,xs,fB,hm,h,hb,aS⟩:=vQ (n:=n) h
   split at h
   ·rename_i he
    subst he
    obtain⟨aT,h1,h2,aO⟩:=h
    subst h1
    subst hm
    exact⟨Su (eT:=cd true dS) (eF:=cd false dS) aS (fun x=>Un dS x aT) h2,aO⟩
   ·exact h.elim
  ·exact h.elim
 | _=>exact h.elim
theorem KZ: ∀{es:List bJ} {vs:List TV} {r:c8 es},(Ex s es vs r t).den R→aD (gI (s.aJ n).H) (cS vs) (l1 true es r)∧t.den R
 | [],[],_,h=>⟨aD.nil,h⟩
 | e::r,v::vs,x,h=>by
  obtain⟨h1,h2⟩:=KX (n:=n) (show(A_ s e v x.1 _).den R from h)
  obtain⟨aO,bd⟩:=KZ h2
  exact⟨aD.cons h1 aO,bd⟩
 | [],_::_,_,h=>h.elim
 | _::_,[],_,h=>h.elim
theorem Vo {e:bJ} {v:TV} {r:e.T} (h:(Ba s e v r t).den R):sB (s.aJ n).H v.bE (v9 e r)∧t.den R:=by
 unfold Ba at h
 unfold v9
 cases m4:e.isS with
 | true=>
  rw[m4] at h
  simp only at h
  split at h
  ·rename_i c
   obtain⟨h1,h2⟩:=KZ (n:=n) h
   refine⟨.inl ⟨cS c,cd true e r,rfl,rfl,?_⟩,h2⟩
   rw[←qw];exact h1
  ·exact h.elim
 | false=>
  rw[m4] at h
  obtain⟨h1,h2⟩:=KX (n:=n) h
  exact⟨.inr h1,h2⟩
theorem Ew: ∀{es:List bJ} {vs:List TV} {r:c8 es},(Bb s es vs r t).den R→aD (sB (s.aJ n).H) (cS vs) (l2 es r)∧t.den R
 | [],[],_,h=>⟨aD.nil,h⟩
 | e::r,v::vs,x,h=>by
  obtain⟨h1,h2⟩:=Vo (n:=n) (show(Ba s e v x.1 _).den R from h)
  obtain⟨aO,bd⟩:=Ew h2
  exact⟨aD.cons h1 aO,bd⟩
 | [],_::_,_,h=>h.elim
 | _::_,[],_,h=>h.elim
theorem K0 {P:Program} {fn:Func} {rs:List bJ} {r:c8 rs} (h:(wi P n fn rs r s).den R):tr P fn (s.aJ n) fun v H=>ii H v (k5 rs r):=by
 unfold wi at h
 simp only at h
 obtain⟨h1,h2,aO⟩:=h
 unfold tr
 have Wo:q9 P (s.aJ n) fn.results.toList=_:=congrFun h1 (s.aJ n).H
 rw[congrFun Wo]
 refine⟨h2,?_⟩
 obtain⟨bd,_⟩:=Ew (n:=n) aO
 have key: ∀(rs:List bJ) (r:c8 rs) (l:List AV),aD (sB (s.aJ n).H) l (l2 rs r)→ii (s.aJ n).H (sv l) (k5 rs r):=by
  intro rs r l aI
  match rs,r,l with
  | [],_,[]=>exact .inl ⟨[],[],rfl,rfl,aD.nil⟩
  | [],_,_::_=>have:=aI.1;simp[l2] at this
  | [e],r,[]=>have:=aI.1;simp[l2] at this
  | [e],r,[v]=>exact .inr aI.head
  | [e],r,_::_::_=>have:=aI.1;simp[l2] at this
  | e::dS::rs,r,[]=>have:=aI.1;simp[l2] at this
  | e::dS::rs,r,[v]=>have:=aI.1;simp[l2] at this
  | e::dS::rs,r,v::w::l=>exact .inl ⟨_,_,rfl,rfl,aI⟩
 exact key rs r _ bd
end
def Jg {P:Program} (cf:hj P) (ez:vH P) (fn:Func) (ps rs:List bJ) (x:c8 ps) (r:c8 rs) (a:lr):aW:=kj cf ez (some 0) (iE fn) (pR ps x) a fun ex s _=>match ex with
 | .normal=>wi P cf.n fn rs r s
 | .ret=>wi P cf.n fn rs r s
 | _=> .no
theorem b2.run {P:Program} {f:FuncId} {fn:Func} {ps rs:List bJ} {x:c8 ps} {r:c8 rs} (cf:hj P) (ez:vH P) (a:lr) {C:Prop} (hf:P.funcs[f]?=some fn) (h:C) (e:C=(Jg cf ez fn ps rs x r a).n9.den:=by kernel_rfl)
  (e2:(Jg cf ez fn ps rs x r a).lhs=(Jg cf ez fn ps rs x r a).rhs:=by kernel_rfl) (hb:fn.body=some (iE fn):=by kernel_rfl) (hm:(fn.name== "runtime.NumGoroutine")=false:=by kernel_rfl)
  (aG:(Nat.beq cf.n fn.ntmps&&Nat.ble cf.n 1000000&&Nat.ble ps.length cf.n)=true:=by kernel_rfl):b2 P f (od ps x) (k5 rs r):=by
 simp only[Bool.and_eq_true] at aG
 have h1:=Nat.eq_of_beq_eq_true aG.1.1
 have h2:=Nat.le_of_ble_eq_true aG.1.2
 have aO:=Nat.le_of_ble_eq_true aG.2
 refine dH.G3 hf hb hm fun iX gr=> ?_
 rw[@ZP ⟨[],[]⟩ fn ps x (by rw[←h1];exact aO) (by omega),←h1]
 refine S0 h2 (fun k e=>by cases e;rw[gr];exact Nat.le_refl _) (iE fn) (R:=fun _ _=>True) (K:=fun ex s _=>match ex with
  | .normal=>wi P cf.n fn rs r s
  | .ret=>wi P cf.n fn rs r s
  | _=> .no) (fun ex s _ Z hs hf=> ?_) ⟨[],[]⟩ (@Fits.none ⟨[],[]⟩ _ (NQ ps x (by omega))) (aW.full (e▸h) e2)
 cases ex with
 | normal=>exact K0 hs
 | ret=>exact K0 hs
 | _=>exact hs.elim
def ep:List (Nat×bJ):=[(23,.u8),(25,.int),(26,.ki),(27,(.l .bool)),(33,.done),(35,.fT),(36,.bool),(37,.gM),(38,.held),(46,.ki),(66,.gM),(67,.held),(78,.bj),(138,.bj),(144,(.l .int)),(161,(.l .bj)),(170,.str)]
theorem rM {α:Type} {xs:List α} {q:α→Bool} (h:first xs q=none): ∀x∈xs,q x=false:=by
 unfold first at h;rwa [List.findIdx?_eq_none_iff] at h
theorem u7 {p:az} (h:dT p=true):kW p=true∧(∀s∈p.a5,b3 s 0 (p.ai - 1)=true)∧(∀w∈p.O,g0 p w=true)∧p.bW.length=p.O.length∧
  (∀b∈p.bW,b.length=p.O.length)∧ ∀i k:Nat,i<p.O.length→k<p.O.length→n8 p i k=false:=by
 have hb:=abd h
 have aT:hQ p=⟨0,0⟩:=by simpa[dT] using h
 rw[Hb hb] at aT
 unfold xl at aT
 split at aT
 ·cases aT
 rename_i h1
 unfold xm at aT
 split at aT
 ·cases aT
 rename_i h2
 unfold o6 at aT
 split at aT
 ·rename_i aO
  split at aT
  ·cases aT
  rename_i bd
  split at aT
  ·cases aT
  rename_i ch
  refine⟨hb,fun s hs=>by simpa using rM h1 s hs,fun w hw=>by simpa using rM h2 w hw,aO,fun b ak=>by simpa using rM bd b ak,fun i k hi hk=> ?_⟩
  have:=rM ch i (List.mem_range.2 hi)
  rw[List.any_eq_false] at this
  simpa using this k (List.mem_range.2 hk)
 ·cases aT
def k4 (p:az) (i k:Int):Bool:=nth (nth p.bW i) k
structure JD (p:az):Prop where
 len:p.bW.length=p.O.length
 row: ∀i:Int,0≤i→i<p.O.length→(nth p.bW i).length=p.O.length
 sym: ∀i k:Int,0≤i→i<p.O.length→0≤k→k<p.O.length→k4 p i k=k4 p k i
 agm: ∀i k:Int,0≤i→i<p.O.length→0≤k→k<p.O.length→i≠k→meets (nth p.O i).ai (nth p.O k).ai=true→k4 p i k=true
theorem s8 {x n:Int} (h:b3 x 0 (n - 1)=true):0≤x∧x<n:=by have:=iq.1 h;omega
theorem GJ {l:List Int} {n:Int} (h:hy l n=true):l.length≤30∧ ∀x∈l,0≤x∧x<n:=by
 have:=qT.1 h
 exact⟨this.1,fun x hx=>s8 (this.2.1 x hx)⟩
theorem sh {p:az} (h:dT p=true):sA p:=by
 obtain⟨h1,h2,aO,bd,ch,cD⟩:=u7 h
 have hb:=sg.1 h1
 have hw: ∀w∈p.O,_:=fun w hw=>n1.1 (aO w hw)
 refine⟨by omega,hb.2.2.2,hb.2.2.1,fun w m=>⟨(hw w m).1,GJ (hw w m).2.1⟩,fun w m=>GJ (hw w m).2.2.1,fun w m=>GJ (hw w m).2.2.2.1,fun w m=> ?_,fun x hx=>s8 (h2 x hx)⟩
 have aL:=mB.1 (hw w m).2.2.2.2.1
 have hf:=mB.1 (hw w m).2.2.2.2.2.1
 refine⟨aL.1,hf.1,fun x hx=> ?_⟩
 rcases List.mem_append.1 hx with hx | hx
 ·have:=aL.2.1 x hx
  rw[Bool.and_eq_true] at this;exact s8 this.1
 ·have:=hf.2.1 x hx
  rw[Bool.and_eq_true] at this;exact s8 this.1
theorem zw {p:az} (h:dT p=true):JD p:=by
 obtain⟨h1,h2,aO,bd,ch,cD⟩:=u7 h
 have key: ∀i k:Int,0≤i→i<p.O.length→0≤k→k<p.O.length→k4 p i k=k4 p k i∧(i≠k→meets (nth p.O i).ai (nth p.O k).ai=true→k4 p i k=true):=fun i k i0 i1 a4 da=>by
  have:=cD i.toNat k.toNat (by omega) (by omega)
  unfold n8 rE at this
  rw[jy i0,jy a4,jy i0,jy a4,jy i0,jy a4] at this
  rw[Bool.or_eq_false_iff] at this
  refine⟨by unfold k4;simpa using this.1,fun cl hm=> ?_⟩
  have h2:=this.2
  rw[hm,Bool.and_true] at h2
  have bh:decide (i.toNat≠k.toNat)=true:=by simpa using(show i.toNat≠k.toNat by omega)
  rw[bh] at h2
  unfold k4
  simpa using h2
 exact⟨bd,fun i i0 i1=>ch _ (dz (by omega)),fun i k i0 i1 a4 da=>(key i k i0 i1 a4 da).1,fun i k i0 i1 a4 da=>(key i k i0 i1 a4 da).2⟩
def sV (p:az) (f:Frame) (i:Int):Bool:= !((decide ((nth f.O i).aq<0)) || ((decide ((nth f.O i).aq>4)) || ((((nth f.O i).ac.length:Int) !=((nth p.O i).ai.length:Int)) || ((decide ((nth f.O i).af<0)) || (decide ((nth f.O i).af ≥ ((nth p.O i).ai.length:Int)))))))
def uq (f:Frame) (i:Int):Bool:=bif ((nth f.O i).aq !=4) then(!(((nth f.O i).af !=0) || (j7 (nth f.O i).ac true))) else(!(j7 ((nth f.O i).ac.take (nth f.O i).af.toNat) false))
def ur (p:az) (f:Frame) (i:Int):Bool:=bif ((nth f.O i).aq==3) then(!((decide ((nth f.O i).au<1)) || (decide ((nth f.O i).au>p.dx)))) else(!((nth f.O i).au !=0))
def us (f:Frame) (i:Int):Bool:=bif ((nth f.O i).aq==0) then(!(nth f.O i).ar) else(!(bif ((nth f.O i).aq==2) then((nth f.O i).aq==2) else((nth f.O i).aq==3)) || (!(!(nth f.O i).ar)))
theorem Bo (p:az) (f:Frame) (i:Int):hn p f i=(sV p f i&&(uq f i&&(ur p f i&&us f i))):=by
 unfold hn sV uq ur us
 simp only
 generalize nth f.O i=h
 generalize (nth p.O i).ai.length=n
 rcases h with⟨s,g,b,d,t⟩
 have br:b.all (fun x=> !x)= !j7 b true:=by
  cases h:j7 b true with
  | true=>
   rw[List.all_eq_false.2 ⟨true,ww.1 h,by simp⟩];rfl
  | false=>
   rw[List.all_eq_true.2 fun x hx=>by
    cases x with
    | false=>rfl
    | true=>rw[ww.2 hx] at h;cases h];rfl
 have e2:(b.take g.toNat).all (fun x=>x)= !j7 (b.take g.toNat) false:=by
  cases h:j7 (b.take g.toNat) false with
  | true=>
   rw[List.all_eq_false.2 ⟨false,ww.1 h,by simp⟩];rfl
  | false=>
   rw[List.all_eq_true.2 fun x hx=>by
    cases x with
    | true=>rfl
    | false=>rw[ww.2 hx] at h;cases h];rfl
 simp only
 rw[br,e2]
 have fv:b3 s 0 4= !((decide (s<0)) || (decide (s>4))):=by unfold b3;rw[Bool.eq_iff_iff];simp
 have fZ:decide (b.length=n)= !((b.length:Int) !=(n:Int)):=by rw[Bool.eq_iff_iff];simp;omega
 have fE:b3 g 0 ((n:Int) - 1)= !((decide (g<0)) || (decide (g ≥ (n:Int)))):=by unfold b3;rw[Bool.eq_iff_iff];simp;omega
 have va:b3 t 1 p.dx= !((decide (t<1)) || (decide (t>p.dx))):=by unfold b3;rw[Bool.eq_iff_iff];simp
 rw[fv,fZ,fE,va]
 generalize j7 b true=B
 have hg:g=0→j7 (b.take g.toNat) false=false:=fun h=>by subst h;rfl
 generalize j7 (b.take g.toNat) false=C at hg
 generalize (decide (s<0))=aH
 generalize (decide (s>4))=bz
 generalize ((b.length:Int) !=(n:Int))=ee
 generalize (decide (g<0))=eP
 generalize (decide (g ≥ (n:Int)))=agy
 generalize (decide (t<1))=agz
 generalize (decide (t>p.dx))=agA
 have hs:s=0∨s=2∨s=3∨s=4∨(s≠0∧s≠2∧s≠3∧s≠4):=by omega
 have bh:decide (t=0)= !(t !=0):=by rw[Bool.eq_iff_iff];simp
 have rV:decide (g=0)= !(g !=0):=by rw[Bool.eq_iff_iff];simp
 rw[bh,rV]
 cases LU:(g !=0) with
 | false=>
  have:C=false:=hg (by simpa using LU)
  subst this
  generalize (t !=0)=afA
  rcases hs with rfl | rfl | rfl | rfl | ⟨aT,h2,aO,bd⟩
  ·cases B<;>cases d<;>simp[Bool.and_assoc]
  ·cases B<;>cases d<;>simp[Bool.and_assoc]
  ·cases B<;>cases d<;>simp[Bool.and_assoc]
  ·cases B<;>cases d<;>simp[Bool.and_assoc]
  ·have Jv:(s==0)=false:=by simpa using aT
   have oH:(s==2)=false:=by simpa using h2
   have Af:(s==3)=false:=by simpa using aO
   have vC:(s !=4)=true:=by simpa using bd
   rw[Jv,oH,Af,vC]
   simp only[aT,h2,aO,bd,if_false,decide_false,decide_true,ne_eq,not_false_eq_true]
   cases B<;>cases d<;>simp[Bool.and_assoc]
 | true=>
  clear hg LU
  generalize (t !=0)=afA
  rcases hs with rfl | rfl | rfl | rfl | ⟨aT,h2,aO,bd⟩
  ·cases B<;>cases C<;>cases d<;>simp[Bool.and_assoc]
  ·cases B<;>cases C<;>cases d<;>simp[Bool.and_assoc]
  ·cases B<;>cases C<;>cases d<;>simp[Bool.and_assoc]
  ·cases B<;>cases C<;>cases d<;>simp[Bool.and_assoc]
  ·have Jv:(s==0)=false:=by simpa using aT
   have oH:(s==2)=false:=by simpa using h2
   have Af:(s==3)=false:=by simpa using aO
   have vC:(s !=4)=true:=by simpa using bd
   rw[Jv,oH,Af,vC]
   simp only[aT,h2,aO,bd,if_false,decide_false,decide_true,ne_eq,not_false_eq_true]
   cases B<;>cases C<;>cases d<;>simp[Bool.and_assoc]
def jA (x:a8):Bool:=b3 x.b5 1 2&&b3 x.aX 0 2
def js (p:az) (f:Frame) (i k:Int):Bool:=(i !=k)&&(k4 p i k&&(((nth f.O i).aq !=0)&&((nth f.O k).aq !=0)))
def rP (p:az) (f:Frame):Bool:= !((!(dT p)) || ((!f.ok) || (((f.aw.length:Int) !=p.ai) || (((f.ap.length:Int) !=(p.a5.length:Int)) || ((f.O.length:Int) !=(p.O.length:Int))))))
theorem m0 {p:az} {f:Frame}:rP p f=true↔dT p=true∧f.ok=true∧(f.aw.length:Int)=p.ai∧f.ap.length=p.a5.length∧f.O.length=p.O.length:=by
 unfold rP
 simp only[Bool.not_eq_true',Bool.or_eq_false_iff,Bool.not_eq_false',bne_eq_false_iff_eq]
 constructor
 ·rintro⟨a,b,c,d,e⟩;exact⟨a,b,c,by omega,by omega⟩
 ·rintro⟨a,b,c,d,e⟩;exact⟨a,b,c,by omega,by omega⟩
theorem TL {p:az} {f:Frame}:Du p f=true↔ ∀i k:Int,0≤i→i<f.O.length→0≤k→k<f.O.length→js p f i k=false:=by
 unfold Du
 rw[List.all_eq_true]
 have key: ∀i k:Nat,(decide (i=k) || !rE p i k || decide ((nth f.O i).aq=0) || decide ((nth f.O k).aq=0))= !js p f i k:=fun i k=>by
  unfold js k4 rE
  have br:decide (i=k)= !((i:Int) !=(k:Int)):=by rw[Bool.eq_iff_iff];simp;omega
  have e2: ∀x:Int,decide (x=0)= !(x !=0):=fun x=>by rw[Bool.eq_iff_iff];simp
  rw[br,e2,e2]
  cases((i:Int) !=(k:Int))<;>cases nth (nth p.bW (i:Int)) (k:Int)<;>cases((nth f.O (i:Int)).aq !=0)<;>cases((nth f.O (k:Int)).aq !=0)<;>rfl
 constructor
 ·intro h i k i0 i1 a4 da
  have h1:=h i.toNat (List.mem_range.2 (by omega))
  rw[List.all_eq_true] at h1
  have h2:=h1 k.toNat (List.mem_range.2 (by omega))
  rw[key,Int.toNat_of_nonneg i0,Int.toNat_of_nonneg a4] at h2
  simpa using h2
 ·intro h i hi
  rw[List.all_eq_true]
  intro k hk
  rw[key,h i k (by omega) (by have:=List.mem_range.1 hi;omega) (by omega) (by have:=List.mem_range.1 hk;omega)];rfl
theorem uc {p:az} {f:Frame}:eI p f=true↔rP p f=true∧(∀x∈f.ap,jA x=true)∧(∀i:Int,0≤i→i<f.O.length→hn p f i=true)∧
  (∀i k:Int,0≤i→i<f.O.length→0≤k→k<f.O.length→js p f i k=false)∧f.O=(ea p f).O:=by
 unfold eI oE
 rw[m0,←TL]
 simp only[Bool.and_eq_true,decide_eq_true_eq,List.all_eq_true,List.mem_range]
 constructor
 ·rintro⟨⟨⟨⟨⟨⟨⟨⟨a,b⟩,c⟩,d⟩,e⟩,g⟩,h⟩,i⟩,j⟩
  refine⟨⟨a,b,c,d,e⟩,fun x hx=>by unfold jA;rw[Bool.and_eq_true];exact g x hx,fun q dX q1=> ?_,i,j⟩
  have:=h q.toNat (by omega)
  rwa [Int.toNat_of_nonneg dX] at this
 ·rintro⟨⟨a,b,c,d,e⟩,g,h,i,j⟩
  exact⟨⟨⟨⟨⟨⟨⟨⟨a,b⟩,c⟩,d⟩,e⟩,fun x hx=>by have:=g x hx;unfold jA at this;rwa [Bool.and_eq_true] at this⟩,fun q ak=>h q (by omega) (by omega)⟩,i⟩,j⟩
theorem ED {p:az} {f:Frame} (hb:rP p f=true) (b0: ∀i:Int,0≤i→i<f.O.length→sV p f i=true):ih p f:=by
 obtain⟨h1,h2,aO,bd,ch⟩:=m0.1 hb
 have key: ∀i:Nat,i<f.O.length→((nth f.O i).ac.length:Int)=((nth p.O i).ai.length:Int)∧0≤(nth f.O i).af∧(nth f.O i).af<((nth p.O i).ai.length:Int):=fun i hi=>by
  have:=b0 i (by omega) (by omega)
  unfold sV at this
  simp only[Bool.not_eq_true',Bool.or_eq_false_iff,bne_eq_false_iff_eq,decide_eq_false_iff_not] at this
  exact⟨this.2.2.1,by omega,by omega⟩
 refine⟨aO,bd,ch,fun i h w br e2=> ?_,fun h hm=> ?_⟩
 ·have hi:=(List.getElem?_eq_some_iff.1 br).1
  have aN:=(List.getElem?_eq_some_iff.1 e2).1
  have:=(key i hi).1
  rw[jg hi,jg aN,(List.getElem?_eq_some_iff.1 br).2,(List.getElem?_eq_some_iff.1 e2).2] at this
  omega
 ·obtain⟨i,hi,rfl⟩:=List.mem_iff_getElem.1 hm
  have:=key i hi
  rw[jg hi] at this
  omega
theorem TK {p:az} {f:Frame} {i k:Int} (eg:JD p) (aL:f.O.length=p.O.length) (i0:0≤i) (i1:i<f.O.length) (a4:0≤k) (da:k<f.O.length):js p f i k=js p f k i:=by
 unfold js
 rw[eg.sym i k i0 (by omega) a4 (by omega),show(i !=k)=(k !=i) by rw[Bool.eq_iff_iff];simp;omega,Bool.and_comm ((nth f.O i).aq !=0)]
def xC (p:az) (f:Frame) (n:Nat) (i:Int):Bool:=(List.range n).any fun k=>js p f i k
theorem abk (x:a8):(bif (x.b5 !=1) then((x.b5 !=2) || ((decide (x.aX<0)) || (decide (x.aX>2)))) else((decide (x.aX<0)) || (decide (x.aX>2))))= !jA x:=by
 unfold jA b3
 by_cases h:x.b5=1
 ·rw[h,Bool.eq_iff_iff];simp
 ·have:(x.b5 !=1)=true:=by simpa using h
  rw[this,Bool.eq_iff_iff];simp;omega
def pT (a n:Int):Bool:=decide (0≤a)&&decide (a<n)
structure Fit (p:az) (f:Frame):Prop where
 m2:dT p=true
 fr:ih p f
theorem ms {p:az} {f:Frame} (h:eI p f=true):Fit p f:=by
 obtain⟨h1,h2,aO,bd,ch⟩:=uc.1 h
 refine⟨(m0.1 h1).1,ED h1 fun i i0 i1=> ?_⟩
 have:=aO i i0 i1
 rw[Bo,Bool.and_eq_true] at this;exact this.1
theorem Lf {p:az} {f:Frame} (h:eI p f=true):(f.aw.length:Int)=p.ai∧f.ap.length=p.a5.length∧f.O.length=p.O.length:=by
 have:=(ms h).fr
 exact⟨this.aw,this.ap,this.O⟩
theorem Fit.in {p:az} {f:Frame} (h:Fit p f):sA p:=sh h.m2
def wl (p:az) (f:Frame) (i:Int):Prop:=jH f
def jc (p:az) (f:Frame) (i s:Int):Bool:=((nth f.O i).aq !=0)&&((nth p.O i).ai.drop (nth f.O i).af.toNat).contains s
def wL (p:az) (f:Frame) (i s:Int):Prop:=Fit p f∧0≤i∧i<p.O.length
theorem ab6 {p:az} (h:dT p=true) {w:Way} (hw:w∈p.O):w.ai.Nodup:=(qT.1 (n1.1 ((u7 h).2.2.1 w hw)).2.1).2.2
theorem v5 {l:List Int} {g:Nat} {s:Int}:(l.drop g).contains s=true↔ ∃k,g≤k∧ ∃h:k<l.length,l[k]=s:=by
 rw[List.contains_iff_mem,List.mem_iff_getElem]
 constructor
 ·rintro⟨i,hi,he⟩
  rw[List.length_drop] at hi
  rw[List.getElem_drop] at he
  exact⟨g+i,by omega,by omega,he⟩
 ·rintro⟨k,hg,hk,he⟩
  refine⟨k - g,by rw[List.length_drop];omega,?_⟩
  rw[List.getElem_drop]
  simp only[show g+(k - g)=k by omega];exact he
theorem has_eq {l:List Int} (aG:l.Nodup) {g s:Int} (aT:0≤g):(decide (nJ l s ≥ g)&&decide (nJ l s ≥ 0))=(l.drop g.toNat).contains s:=by
 unfold nJ
 cases h:first l (fun x=>s==x) with
 | none=>
  have:(l.drop g.toNat).contains s=false:=by
   rw[←Bool.not_eq_true,v5]
   rintro⟨k,_,hk,he⟩
   have:=rM h _ (List.getElem_mem hk)
   rw[he] at this;simp at this
  rw[this];simp[Cj]
 | some i=>
  unfold first at h
  rw[List.findIdx?_eq_some_iff_getElem] at h
  obtain⟨hi,hx,_⟩:=h
  have hx:s=l[i]:=by simpa using hx
  have hx:=hx.symm
  rw[Bool.eq_iff_iff,v5]
  show(decide ((i:Int) ≥ g)&&decide ((i:Int) ≥ 0))=true↔_
  simp only[Bool.and_eq_true,decide_eq_true_eq]
  constructor
  ·intro h;exact⟨i,by omega,hi,hx⟩
  ·rintro⟨k,hg,hk,he⟩
   have:k=i:=by
    exact(List.getElem_inj aG).1 (he.trans hx.symm)
   omega
def ef (q:Int→Bool) (v:Int):List Int:=((List.range v.toNat).filter fun i=>q (i:Nat)).map fun i=>((i:Nat):Int)
theorem Vn (q:Int→Bool):ef q 0=[]:=rfl
theorem yt {q:Int→Bool} {v:Int} (h:0≤v):ef q (v+1)=if q v=true then ef q v++[v] else ef q v:=by
 unfold ef
 rw[show(v+1).toNat=v.toNat+1 by omega,List.range_succ,List.filter_append,List.map_append]
 have hv:((v.toNat:Nat):Int)=v:=by omega
 cases ak:q v with
 | true=>simp[hv,ak]
 | false=>simp[hv,ak]
theorem sP (q:Int→Bool) (v:Int):(ef q v).length≤v.toNat:=by
 unfold ef
 rw[List.length_map]
 exact Nat.le_trans (List.length_filter_le _ _) (by simp)
theorem A9 {q:Int→Bool} {v x:Int}:x∈ef q v↔0≤x∧x<v∧q x=true:=by
 unfold ef
 rw[List.mem_map]
 constructor
 ·rintro⟨i,hi,rfl⟩
  rw[List.mem_filter,List.mem_range] at hi
  exact⟨by omega,by omega,hi.2⟩
 ·rintro⟨aT,h1,h2⟩
  refine⟨x.toNat,?_,by omega⟩
  rw[List.mem_filter,List.mem_range,Int.toNat_of_nonneg aT]
  exact⟨by omega,h2⟩
theorem yr {q:Int→Bool} {v:Int}:ef q v=[]↔ ∀x:Int,0≤x→x<v→q x=false:=by
 constructor
 ·intro h x aT h1
  cases ak:q x with
  | false=>rfl
  | true=>have:=A9.2 ⟨aT,h1,ak⟩;rw[h] at this;cases this
 ·intro h
  rw[List.eq_nil_iff_forall_not_mem]
  intro x hx
  have:=A9.1 hx
  rw[h x this.1 this.2.1] at this;cases this.2.2
def uO (x:cv) (k:Int):Bool:=x.sw==k
def r7 (l:List cv) (k:Int):Int:=Cj (first l (fun x=>x.sw==k))
def ky (l:List cv) (k:Int):Bool:=l.any fun x=>x.sw==k
theorem Yk (l:List cv) (k:Int):(decide (r7 l k ≥ 0))=ky l k:=by
 unfold r7 ky
 cases h:first l (fun x=>x.sw==k) with
 | none=>
  rw[List.any_eq_false.2 fun x hx=>by rw[rM h x hx];simp];rfl
 | some i=>
  unfold first at h
  rw[List.findIdx?_eq_some_iff_getElem] at h
  obtain⟨hi,hx,_⟩:=h
  rw[List.any_eq_true.2 ⟨_,List.getElem_mem hi,hx⟩]
  show decide ((i:Int) ≥ 0)=true
  simp
def iT (p:az) (f:Frame) (i k:Int):Bool:=((nth f.O i).aq !=0)&&(ky (nth p.O i).bx k || (ky (nth p.O i).aX k&&jc p f i (nth p.a5 k)))
def fO (p:az) (f:Frame) (k:Int):List Int:=ef (fun i=>iT p f i k) p.O.length
def si (p:az) (f:Frame) (k:Int):Prop:=Fit p f∧0≤k∧k<p.a5.length
def pn (p:az) (f:Frame) (i k:Int):Int:=if(nth f.O i).aq=0 then 0 else match first (nth p.O i).bx (fun x=>x.sw==k) with
 | some j=>(nth (nth p.O i).bx j).bj
 | none=>match first (nth p.O i).aX (fun x=>x.sw==k&&jc p f i (nth p.a5 k)) with
  | some j=>(nth (nth p.O i).aX j).bj
  | none=>0
def Jp (p:az) (f:Frame) (i k:Int):Prop:=Fit p f∧0≤i∧i<p.O.length∧0≤k∧k<p.a5.length
theorem B4 {p:az} (h:dT p=true) {w:Way} (hw:w∈p.O) {l:cv} (aL:l∈bA w):l.bj=1∨l.bj=2:=by
 have hg:=n1.1 ((u7 h).2.2.1 w hw)
 have key: ∀{sd:List cv},lD p sd=true→ ∀x∈sd,x.bj=1∨x.bj=2:=fun h x hx=>by
  have:=(mB.1 h).2.1 x hx
  rw[Bool.and_eq_true] at this
  have:=iq.1 this.2
  omega
 rcases List.mem_append.1 aL with aL | aL
 ·exact key hg.2.2.2.2.1 l aL
 ·exact key hg.2.2.2.2.2.1 l aL
theorem Ey {α:Type} [Inhabited α] {xs:List α} {q:α→Bool} {j:Nat} (h:first xs q=some j):nth xs j∈xs∧q (nth xs j)=true:=by
 unfold first at h
 rw[List.findIdx?_eq_some_iff_getElem] at h
 obtain⟨hi,hx,_⟩:=h
 rw[jg hi]
 exact⟨List.getElem_mem hi,hx⟩
theorem afo {p:az} {f:Frame} {i k:Int} (h:dT p=true) (hi:i.toNat<p.O.length):decide (pn p f i k>0)=iT p f i k:=by
 unfold pn iT ky
 by_cases hs:(nth f.O i).aq=0
 ·rw[if_pos hs,show((nth f.O i).aq !=0)=false by simpa using hs];rfl
 ·rw[if_neg hs,show((nth f.O i).aq !=0)=true by simpa using hs,Bool.true_and]
  have hm:=dz hi
  cases h1:first (nth p.O i).bx (fun x=>x.sw==k) with
  | some j=>
   have:=Ey h1
   rw[List.any_eq_true.2 ⟨_,this⟩,Bool.true_or]
   have:=B4 h hm (List.mem_append_right _ this.1)
   simp only[decide_eq_true_eq];omega
  | none=>
   rw[List.any_eq_false.2 fun x hx=>by rw[rM h1 x hx];simp,Bool.false_or]
   cases h2:first (nth p.O i).aX (fun x=>x.sw==k&&jc p f i (nth p.a5 k)) with
   | some j=>
    have:=Ey h2
    have aO:=this.2
    rw[Bool.and_eq_true] at aO
    rw[List.any_eq_true.2 ⟨_,this.1,aO.1⟩,aO.2,Bool.true_and]
    have:=B4 h hm (List.mem_append_left _ this.1)
    simp only[decide_eq_true_eq];omega
   | none=>
    have:((nth p.O i).aX.any (fun x=>x.sw==k)&&jc p f i (nth p.a5 k))=false:=by
     rw[Bool.and_eq_false_iff]
     cases b0:jc p f i (nth p.a5 k) with
     | false=>exact .inr rfl
     | true=>
      refine .inl (List.any_eq_false.2 fun x hx=> ?_)
      have:=rM h2 x hx
      rw[b0,Bool.and_true] at this
      rw[this];simp
    rw[this];rfl
def k7 (p:az) (f:Frame) (w k:Int):Bool:=(k !=w)&&(((nth f.O k).aq !=0)&&(k4 p w k || (meets (nth p.O w).ai (nth p.O k).cQ || meets (nth p.O w).cQ (nth p.O k).ai)))
def nE (p:az) (f:Frame) (w s:Int):Bool:=nth f.aw s&&(fU (nth p.O w).ai s || fU (nth p.O w).cQ s)
def jh (p:az) (f:Frame) (w k:Int):Bool:=(bA (nth p.O w)).any fun l=>l.sw==k&& !((nth f.ap k).b5==l.bj)
def hO (p:az) (f:Frame) (k:Int):Bool:=decide (((fO p f k).length:Int)>0)
def jV (p:az) (f:Frame) (k:Int):Bool:=nth f.aw (nth p.a5 k)
def jw (p:az) (f:Frame) (w k:Int):Bool:=jh p f w k&&(hO p f k || jV p f k)
def iN (p:az) (f:Frame) (w:Int):ny:=⟨ef (k7 p f w) p.O.length,ef (nE p f w) p.ai,ef (jw p f w) p.a5.length⟩
def sQ (p:az) (f:Frame) (w:Int):Bool:= !(ef (fun k=>jh p f w k&&hO p f k) p.a5.length).isEmpty
def vi (p:az) (f:Frame) (w:Int):Bool:= !(ef (fun k=>jh p f w k&&jV p f k) p.a5.length).isEmpty
def iD (p:az) (f:Frame) (w:Int):ny×Bool×Bool:=(iN p f w,sQ p f w,vi p f w)
def codeF (p:az) (f:Frame) (w:Int):Int:=if(iN p f w).O≠[] then 3 else if(iN p f w).ai≠[] then 4 else if sQ p f w=true then 5 else if vi p f w=true then 6 else 0
def tB (p:az) (f:Frame) (w:Int):ny×Int:=(iN p f w,codeF p f w)
def eA (p:az) (f:Frame) (w:Int):Int:=if(nth f.O w).aq≠0 then 2 else codeF p f w
def ry (p:az) (f:Frame) (w:Int):Prop:=Fit p f∧0≤w∧w<p.O.length
theorem qx {q:Int→Bool} {N v:Int} (aG:N≤4611686018427387904) (a0:ct N (fun _=>false) v) (hv:decide (v<N)=true):
  (q v=true→ef q v++[v]=ef q (IntKind.i64.wrap (v+1)))∧(q v=false→ef q v=ef q (IntKind.i64.wrap (v+1)))∧(!(ef q (IntKind.i64.wrap (v+1))).isEmpty)=(!(ef q v).isEmpty || q v):=by
 rw[iU aG a0.1 (by simpa using hv),yt a0.1]
 refine⟨fun h=>by rw[if_pos h],fun h=>by rw[if_neg (by rw[h];simp)],?_⟩
 cases h:q v with
 | true=>simp
 | false=>simp
theorem wg {q:Int→Bool} {N v:Int} (a0:ct N (fun _=>false) v) (hv:decide (v<N)=false):ef q v=ef q N:=by
 have: ¬v<N:=by simpa using hv
 have h1:=a0.2.1
 rw[show v=N by omega]
def nM (p:az) (f:Frame) (w k:Int) (j:Nat):Bool:=((bA (nth p.O w)).take j).any fun l=>l.sw==k&& !((nth f.ap k).b5==l.bj)
theorem ab7 (p:az) (f:Frame) (w k:Int) {j:Nat} (h:(bA (nth p.O w)).length≤j):nM p f w k j=jh p f w k:=by
 unfold nM jh;rw[List.take_of_length_le h]
theorem ab9 {p:az} {f:Frame} {w k:Int} {j:Nat} (h:j<(bA (nth p.O w)).length):nM p f w k (j+1)=(nM p f w k j || ((bA (nth p.O w))[j].sw==k&& !((nth f.ap k).b5==(bA (nth p.O w))[j].bj))):=by
 unfold nM;rw[List.take_succ_eq_append_getElem h,List.any_append];simp
theorem GW {p:az} (h:dT p=true) {w:Way} (hw:w∈p.O):((bA w).map (·.sw)).Nodup:=(n1.1 ((u7 h).2.2.1 w hw)).2.2.2.2.2.2.1
theorem ab8 {p:az} {f:Frame} {w k:Int} {j:Nat} (aG:((bA (nth p.O w)).map (·.sw)).Nodup) (h:j<(bA (nth p.O w)).length) (hk:((bA (nth p.O w))[j].sw==k)=true):nM p f w k j=false:=by
 unfold nM
 rw[List.any_eq_false]
 intro l aL
 obtain⟨i,hi,rfl⟩:=List.mem_take_iff_getElem.1 aL
 have gg:i<(bA (nth p.O w)).length:=by omega
 intro hc
 rw[Bool.and_eq_true] at hc
 have br:(bA (nth p.O w))[i].sw=k:=by simpa using hc.1
 have e2:(bA (nth p.O w))[j].sw=k:=by simpa using hk
 have:=(List.getElem_inj (xs:=(bA (nth p.O w)).map (·.sw)) (i:=i) (j:=j) (h₀:=by simpa using gg) (h₁:=by simpa using h) aG).1 (by simp[br,e2])
 omega
def TW (p:az) (f:Frame) (w k:Int) (x:List Int) (a b:Bool) (lq:List Int) (j:Int) (ij cn:Bool):Prop:=
 ct (bA (nth p.O w)).length (fun _=>false) j∧lq=(if(nM p f w k j.toNat&&(hO p f k || jV p f k))=true then x++[k] else x)∧ij=(a || (nM p f w k j.toNat&&hO p f k))∧cn=(b || (nM p f w k j.toNat&&jV p f k))
def wj (p:az) (f:Frame) (w v:Int):Bool:= !(ef (fun k=>jh p f w k&&hO p f k) v).isEmpty
def zV (p:az) (f:Frame) (w v:Int):Bool:= !(ef (fun k=>jh p f w k&&jV p f k) v).isEmpty
def wB (p:az) (f:Frame) (w v:Int):Int:=if wj p f w v=true then 5 else if zV p f w v=true then 6 else 0
def qR (a:Int) (l:List cv) (k:Int):Int:=l.foldl (fun a x=>bif x.sw==k then x.bj else a) a
theorem Of {l:List cv} {k:Int} (h: ∀x∈l,(x.sw==k)=false): ∀a,qR a l k=a:=by
 induction l with
 | nil=>intro a;rfl
 | cons x l bQ=>
  intro a
  show qR (bif x.sw==k then x.bj else a) l k=a
  rw[h x List.mem_cons_self]
  exact bQ (fun y bm=>h y (List.mem_cons_of_mem _ bm)) a
theorem GH {l:List cv} {k:Int} (aG:(l.map (·.sw)).Nodup) {x:cv} (hx:x∈l) (hk:(x.sw==k)=true): ∀a,qR a l k=x.bj:=by
 induction l with
 | nil=>cases hx
 | cons y l bQ=>
  intro a
  show qR (bif y.sw==k then y.bj else a) l k=x.bj
  rw[List.map_cons,List.nodup_cons] at aG
  rcases List.mem_cons.1 hx with rfl | hx
  ·rw[hk]
   refine Of (fun z aP=> ?_) _
   have hk:x.sw=k:=by simpa using hk
   rw[←hk,beq_eq_false_iff_ne]
   intro e
   exact aG.1 (List.mem_map.2 ⟨z,aP,e⟩)
  ·exact bQ aG.2 hx _
theorem aah {p:az} {f:Frame} {w k:Int} (h:dT p=true) (hw:w.toNat<p.O.length):((qR 0 (bA (nth p.O w)) k==0) || (qR 0 (bA (nth p.O w)) k==(nth f.ap k).b5))= !jh p f w k:=by
 have hm:=dz hw
 have aG:=GW h hm
 cases hf:first (bA (nth p.O w)) (fun x=>x.sw==k) with
 | none=>
  have eK:=rM hf
  rw[Of eK,show jh p f w k=false from List.any_eq_false.2 fun x hx=>by rw[eK x hx];simp];rfl
 | some j=>
  obtain⟨h1,h2⟩:=Ey hf
  have aL:=B4 h hm h1
  rw[GH aG h1 h2]
  have z:((nth (bA (nth p.O w)) (j:Int)).bj==0)=false:=by rw[beq_eq_false_iff_ne];omega
  rw[z,Bool.false_or]
  have aC:jh p f w k= !((nth f.ap k).b5==(nth (bA (nth p.O w)) (j:Int)).bj):=by
   cases hb:((nth f.ap k).b5==(nth (bA (nth p.O w)) (j:Int)).bj) with
   | false=>exact List.any_eq_true.2 ⟨_,h1,by rw[h2,hb];rfl⟩
   | true=>
    refine List.any_eq_false.2 fun x hx hc=> ?_
    rw[Bool.and_eq_true] at hc
    have br:=GH aG hx hc.1 0
    rw[GH aG h1 h2] at br
    rw[br] at hb
    rw[hb] at hc;cases hc.2
  rw[aC,Bool.not_not,Bool.eq_iff_iff,beq_iff_eq,beq_iff_eq]
  exact⟨Eq.symm,Eq.symm⟩
def ei (p:az):Frame:=if dT p=true then⟨true,List.replicate p.ai.toNat false,List.replicate p.a5.length ⟨1,1⟩,p.O.map fun w=>g8 w.ai.length⟩ else⟨false,[],[],[]⟩
def h7 (l:List cv) (q:List a8):List a8:=l.foldl (fun q x=>q.set x.sw.toNat ⟨x.bj,(nth q x.sw).aX⟩) q
theorem zT (l:List cv): ∀q:List a8,(h7 l q).length=q.length:=by
 induction l with
 | nil=>intro q;rfl
 | cons x l bQ=>intro q;show(h7 l _).length=_;rw[bQ,List.length_set]
theorem Qd {l:List cv} {q:List a8} {j:Nat} (h:j<l.length):h7 (l.take (j+1)) q=(h7 (l.take j) q).set l[j].sw.toNat ⟨l[j].bj,(nth (h7 (l.take j) q) l[j].sw).aX⟩:=by
 unfold h7
 rw[List.take_succ_eq_append_getElem h,List.foldl_append];rfl
def kZ (p:az) (i:Nat) (h:ad):ad:=if h.aq=3 then(if IntKind.i64.wrap (h.au - 1)=0 then a6 p i else{h with au:=IntKind.i64.wrap (h.au - 1)}) else h
def hD (p:az):Nat→List ad→List ad
 | 0,ws=>ws
 | n+1,ws=>let g:=hD p n ws;g.set n (kZ p n (nth g n))
theorem z6 (p:az) (ws:List ad): ∀n,(hD p n ws).length=ws.length
 | 0=>rfl
 | n+1=>by show(List.set _ _ _).length=_;rw[List.length_set];exact z6 p ws n
def eH (p:az) (f:Frame) (e:Event):Int:=
 if e.op=1 then eA p f e.ah
 else if e.op=2 then(if(nth f.O e.ah).aq≠1∧(nth f.O e.ah).aq≠2 then 2 else 0)
 else if e.op=6 then(if hO p f e.ah=true then 2 else if jV p f e.ah=true then 3 else 0)
 else 0
def fk (p:az) (f:Frame) (e:Event):Frame:=
 if e.op=1 then{f with ap:=h7 (bA (nth p.O e.ah)) f.ap,O:=f.O.set e.ah.toNat {nth f.O e.ah with aq:=1}}
 else if e.op=2 then(if((nth f.O e.ah).ar&&gH f (nth p.O e.ah).cK)=true then{f with O:=f.O.set e.ah.toNat {nth f.O e.ah with aq:=3,au:=p.dx}} else{f with O:=f.O.set e.ah.toNat (a6 p e.ah)})
 else if e.op=3∨e.op=4 then{f with aw:=f.aw.set e.ah.toNat (e.op==3)}
 else if e.op=5 then{f with ap:=f.ap.set e.ah.toNat ⟨(nth f.ap e.ah).b5,e.bj⟩}
 else if e.op=6 then{f with ap:=f.ap.set e.ah.toNat ⟨e.bj,(nth f.ap e.ah).aX⟩}
 else if e.op=7 then{f with O:=hD p f.O.length f.O}
 else f
def gK (p:az) (f:Frame) (e:Event):fK:=if eH p f e≠0 then⟨eH p f e,f⟩ else⟨0,ea p (fk p f e)⟩
def D2 (p:az) (f:Frame) (e:Event):Prop:=Fit p f∧ey p e=true
theorem ih.re {p:az} {f:Frame} (h:ih p f) {i:Nat} {x:ad} (hx:i<f.O.length→x.ac.length=(nth p.O i).ai.length∧0≤x.af∧x.af≤x.ac.length):ih p {f with O:=f.O.set i x}:=by
 refine⟨h.aw,h.ap,by rw[List.length_set];exact h.O,fun j y w h1 h2=> ?_,fun y bm=> ?_⟩
 ·replace h1:(f.O.set i x)[j]?=some y:=h1
  rw[List.getElem?_set] at h1
  split at h1
  ·rename_i e;subst e
   split at h1
   ·rename_i aG
    cases h1
    rw[(hx aG).1,jg (by have:=h.O;omega)]
    rw[List.getElem?_eq_getElem (by have:=h.O;omega)] at h2
    cases h2;rfl
   ·cases h1
  ·exact h.ac j y w h1 h2
 ·rcases List.mem_or_eq_of_mem_set bm with bm | rfl
  ·exact h.af y bm
  ·by_cases aG:i<f.O.length
   ·exact(hx aG).2
   ·rw[List.set_eq_of_length_le (by omega)] at bm
    exact h.af _ bm
theorem ih.at {p:az} {f:Frame} (h:ih p f) {i:Nat} (hi:i<f.O.length):(nth f.O i).ac.length=(nth p.O i).ai.length∧0≤(nth f.O i).af∧(nth f.O i).af≤(nth f.O i).ac.length:=by
 have aN:i<p.O.length:=by have:=h.O;omega
 refine⟨h.ac i _ _ ?_ ?_,h.af _ (dz (by simpa using hi))⟩
 ·rw[jg hi];exact List.getElem?_eq_getElem hi
 ·rw[jg aN];exact List.getElem?_eq_getElem aN
theorem FC (n:Nat):(g8 n).ac.length=n∧0≤(g8 n).af∧(g8 n).af≤(g8 n).ac.length:=by simp[g8]
theorem Je {p:az} {f:Frame} (h:ih p f): ∀n,ih p {f with O:=hD p n f.O}
 | 0=>h
 | n+1=>by
  have bQ:=Je h n
  show ih p {f with O:=(hD p n f.O).set n (kZ p n (nth (hD p n f.O) n))}
  refine ih.re bQ (i:=n) fun aG=> ?_
  have a3:=bQ.at aG
  unfold kZ
  split
  ·split
   ·exact FC _
   ·exact a3
  ·exact a3
theorem ih.jB {p:az} {f:Frame} (h:ih p f) {o:List Bool} {q:List a8} (aC:o.length=f.aw.length) (ak:q.length=f.ap.length):ih p {f with aw:=o,ap:=q}:=
 ⟨by show(o.length:Int)=_;rw[aC];exact h.aw,by show q.length=_;rw[ak];exact h.ap,h.O,h.ac,h.af⟩
theorem AP {p:az} {f:Frame} {e:Event} (h:ih p f) (aT:e.op=1∨e.op=2→0≤e.ah∧e.ah<p.O.length):ih p (fk p f e):=by
 unfold fk
 split
 ·rename_i aC
  have bq:=aT (.inl aC)
  have aL:=h.O
  have a3:=h.at (i:=e.ah.toNat) (by omega)
  rw[jy bq.1] at a3
  exact ih.re (h.jB rfl (zT _ _)) fun _=>a3
 ·split
  ·rename_i aC
   have bq:=aT (.inr aC)
   have aL:=h.O
   have a3:=h.at (i:=e.ah.toNat) (by omega)
   rw[jy bq.1] at a3
   split
   ·exact h.re fun _=>a3
   ·refine h.re fun _=> ?_
    have:=FC (nth p.O e.ah).ai.length
    rw[jy bq.1];exact this
  ·split
   ·exact h.jB (List.length_set) rfl
   ·split
    ·exact h.jB rfl (List.length_set)
    ·split
     ·exact h.jB rfl (List.length_set)
     ·split
      ·exact Je h _
      ·exact h
theorem mY {p:az} {e:Event} (h:ey p e=true) (aC:e.op=1∨e.op=2):0≤e.ah∧e.ah<p.O.length:=by
 rw[Ej aC,Bool.and_eq_true] at h
 exact s8 h.1
theorem En {p:az} {e:Event} (h:ey p e=true) (aC:e.op=3∨e.op=4):0≤e.ah∧e.ah<p.ai:=by
 rw[Ek (by omega) aC,Bool.and_eq_true] at h
 exact s8 h.1
theorem wb {p:az} {e:Event} (h:ey p e=true) (aC:e.op=5∨e.op=6):0≤e.ah∧e.ah<p.a5.length:=by
 rcases aC with aC | aC
 ·rw[AZ aC,Bool.and_eq_true] at h;exact s8 h.1
 ·rw[A0 aC,Bool.and_eq_true] at h;exact s8 h.1
theorem Bf {p:az} {f:Frame} (h:Fit p f):jH f:=by
 have cF:=h.in
 have cZ:=h.fr
 have h1:=cF.c2
 have h2:=cF.sw
 have aO:=cF.O
 have bd:=cZ.aw
 have ch:=cZ.ap
 have cD:=cZ.O
 refine⟨by omega,by omega,by omega,fun x hx=> ?_⟩
 obtain⟨i,hi,rfl⟩:=List.mem_iff_getElem.1 hx
 have aN:i<p.O.length:=by omega
 have:=(cF.ai _ (List.getElem_mem aN)).2.1
 rw[cZ.ac i _ _ (List.getElem?_eq_getElem hi) (List.getElem?_eq_getElem aN)];omega
theorem Kw {p:az} {f:Frame} {e:Event} (h:Fit p f) (he:ey p e=true):Fit p (gK p f e).frame:=by
 unfold gK
 split
 ·exact h
 ·exact⟨h.m2,zU (AP h.fr (mY he)) _⟩
theorem JY {p:az} (h:dT p=true):Fit p (ei p):=by
 have cF:=sh h
 have h1:=cF.c2
 unfold ei
 rw[if_pos h]
 refine⟨h,by show((List.replicate _ _).length:Int)=_;rw[List.length_replicate];omega,by show(List.replicate _ _).length=_;rw[List.length_replicate],by show(List.map _ _).length=_;rw[List.length_map],fun i x w br e2=> ?_,fun x hx=> ?_⟩
 ·replace br:(List.map _ _)[i]?=some x:=br
  rw[List.getElem?_map,e2] at br
  cases br;simp[g8]
 ·obtain⟨w,_,rfl⟩:=List.mem_map.1 hx
  exact(FC _).2
def jG (p:az):Frame→List Event→List fK
 | _,[]=>[]
 | f,e::es=>if ey p e=true then gK p f e::jG p (gK p f e).frame es else⟨1,f⟩::jG p f es
def nL (p:az):Frame→List Event→Frame
 | f,[]=>f
 | f,e::es=>nL p (if ey p e=true then(gK p f e).frame else f) es
def sp (p:az) (es:List Event):List fK:=if dT p=true∧es.length≤1000 then jG p (ei p) es else[]
theorem PV (p:az) (e:Event): ∀(es:List Event) (f:Frame),jG p f (es++[e])=jG p f es++[if ey p e=true then gK p (nL p f es) e else⟨1,nL p f es⟩]∧nL p f (es++[e])=(if ey p e=true then(gK p (nL p f es) e).frame else nL p f es)
 | [],f=>by
  show(if ey p e=true then _ else _)=_∧_
  constructor
  ·by_cases h:ey p e=true
   ·rw[if_pos h];simp[jG,nL,h]
   ·rw[if_neg h];simp[jG,nL,h]
  ·rfl
 | d::es,f=>by
  have bQ:=fun g=>PV p e es g
  by_cases h:ey p d=true
  ·simp only[List.cons_append,jG,nL,if_pos h]
   exact⟨by rw[(bQ _).1],(bQ _).2⟩
  ·simp only[List.cons_append,jG,nL,if_neg h]
   exact⟨by rw[(bQ _).1],(bQ _).2⟩
theorem GC {p:az}: ∀(es:List Event) {f:Frame},Fit p f→Fit p (nL p f es)
 | [],f,h=>h
 | e::es,f,h=>by
  unfold nL
  by_cases he:ey p e=true
  ·rw[if_pos he];exact GC es (Kw h he)
  ·rw[if_neg he];exact GC es h
theorem CN (p:az): ∀(es:List Event) (f:Frame),(jG p f es).length=es.length
 | [],f=>rfl
 | e::es,f=>by
  unfold jG
  split
  ·rw[List.length_cons,CN p es];rfl
  ·rw[List.length_cons,CN p es];rfl
section
variable {P:Program} {esc:List Nat} {ops:Array Oper} {n:Nat} {X:List Item} {i0:Nat} {A:List (Nat×AV)} {L:List (Nat×List AV)} {H:List Blk} {K:List (Nat×AV)→List (Nat×List AV)→List Blk→Prop}
theorem afd (a4:Nat) (d:Option Nat) (N:List (Nat×AV)) {i:Int} (B:Int) (z:List AV) (F:List Blk→Prop) (m:Nat) (k2:List Blk) (aT:0≤i∧B*i≤140737488355328∧i≤4611686018427387904) (aL:H.length=m) (hx:H++[⟨0,1,List.map aY (List.replicate i.toNat false)⟩]=k2) (cZ:F k2)
  (h:evSD P esc ops n (X.drop (i0+a4)) (dj d (.ref m 0 0 (List.replicate i.toNat false).length false) N A) L k2 K) (aP:z=aY false:=by rfl)
  (e: ∀K,evSD P esc ops n ((X.drop i0).take a4) A L H K=(0≤i∧i≤i∧B*i≤140737488355328∧i≤4611686018427387904∧F (H++[⟨0,1,List.replicate i.toNat z⟩])∧K (dj d (.ref H.length 0 0 i.toNat false) N A) L (H++[⟨0,1,List.replicate i.toNat z⟩])):=by intro K;kernel_rfl):evSD P esc ops n (X.drop i0) A L H K:=by
 rw[ly X i0 a4,e]
 subst aL;subst hx;subst aP
 rw[List.length_replicate,List.map_replicate] at h
 rw[List.map_replicate] at cZ
 exact⟨aT.1,Int.le_refl _,aT.2.1,aT.2.2,⟨cZ,h⟩⟩
end
theorem ab_ (a b:List cv) (q:List a8):h7 (a++b) q=h7 b (h7 a q):=by unfold h7;rw[List.foldl_append]
def k0 (w:Way):List (List cv):=[w.aX,w.bx]
theorem SL (w:Way):(k0 w).flatten=bA w:=by simp[k0,bA]
theorem afg {w:Way} {j:Nat} {q:List a8} (h:j<(k0 w).length):h7 ((k0 w).take (j+1)).flatten q=h7 (k0 w)[j] (h7 ((k0 w).take j).flatten q):=by
 rw[List.take_succ_eq_append_getElem h,List.flatten_append,ab_];simp
theorem afh {w:Way} {v:Int} {x:cv} (h:v.toNat<(k0 w).length) (hx:x∈nth (k0 w) v):x∈bA w:=by
 rw[←SL];exact List.mem_flatten.2 ⟨_,dz h,hx⟩
def NZ (p:az) (t:Int) (k:Bool) (o:List Bool) (q:List a8) (w:List ad) (i:List Nat) (b:List (List Bool)):Prop:=
 gA w i b∧sA p∧0≤t∧t<w.length∧t<p.O.length∧q.length=p.a5.length
def B2 (p:az) (t:Int) (k:Bool) (o:List Bool) (q:List a8) (w:List ad) (i:List Nat) (b:List (List Bool)) (lF:List Bool) (tj:List a8) (w':List ad) (jd:List Nat) (cn:List (List Bool)):Prop:=
 tj=h7 (bA (nth p.O t)) q∧gA w' jd cn∧view w' jd cn=(view w i b).set t.toNat {nth (view w i b) t with aq:=1}
def NY (p:az) (t:Int) (k:Bool) (o:List Bool) (q:List a8) (w:List ad) (i:List Nat) (b:List (List Bool)):Prop:=
 gA w i b∧sA p∧0≤t∧t<w.length∧t<p.O.length∧(o.length:Int)=p.ai
def Ax (p:az) (f:Frame) (t:Int):ad:=
 if((nth f.O t).ar&&gH f (nth p.O t).cK)=true then{nth f.O t with aq:=3,au:=p.dx} else g8 (nth f.O t).ac.length
def sF (f:Frame) (t:Int):Int:=if(nth f.O t).aq≠1∧(nth f.O t).aq≠2 then 2 else 0
def uN (p:az) (t:Int) (k:Bool) (o:List Bool) (q:List a8) (w:List ad) (i:List Nat) (b:List (List Bool)) (lF:List Bool) (tj:List a8) (w':List ad) (jd:List Nat) (cn:List (List Bool)) (r:Int):Prop:=
 gA w' jd cn∧r=sF (c7 k o q w i b) t∧view w' jd cn=(if sF (c7 k o q w i b) t=0 then(view w i b).set t.toNat (Ax p (c7 k o q w i b) t) else view w i b)
def jU (p:az) (f:Frame) (e:Event):Frame:=if eH p f e=0 then fk p f e else f
def gv (p:az) (f:Frame) (e:Event):fK:=if(eI p f&&ey p e)=true then⟨eH p f e,ea p (jU p f e)⟩ else⟨1,⟨false,[],[],[]⟩⟩
def CO (p:az) (f:Frame) (e:Event):Prop:=jH f
theorem aaE {p:az} {f:Frame} {e:Event} (h:ih p f) (he:ey p e=true):ih p (jU p f e):=by
 unfold jU
 split
 ·exact AP h (mY he)
 ·exact h
theorem Mu {p:az} {f:Frame} (h:ih p f) {t:Int} (aT:0≤t) (h1:t<p.O.length):g8 (nth f.O t).ac.length=a6 p t:=by
 have aL:=h.O
 have a3:=h.at (i:=t.toNat) (by omega)
 rw[jy aT,jy aT] at a3
 unfold a6;rw[a3.1]
def xI (p:az) (f:Frame) (e:Event):fK:=if(gv p f e).code=1 then⟨(gv p f e).code,f⟩ else gv p f e
def iO (p:az) (f:Frame) (i:Nat) (h:ad):ad:=
 let s:=(nth p.O i).ai
 if h.aq=0 then h else
 let h:=if h.aq≠4∧eh f (nth s 0)=true then{h with aq:=4,au:=0} else h
 let h:=if h.aq=1∨h.aq=2 then(if gl p f i=true then{h with aq:=2,ar:=true} else{h with aq:=1}) else h
 if h.aq=4 then hp s f h else h
theorem ae3 (p:az) (f:Frame) (i:Nat):mj p f i=iO p f i (nth f.O i):=rfl
theorem SA {p:az} {f g:Frame} {i:Nat} {h:ad} (h1:f.aw=g.aw) (h2:f.ap=g.ap):iO p f i h=iO p g i h:=by
 have br: ∀x,eh f x=eh g x:=fun x=>by unfold eh;rw[h1]
 have e2: ∀s x,hp s f x=hp s g x:=fun s x=>O4 h1
 have dW:gl p f i=gl p g i:=Hj h1 h2
 unfold iO
 simp only[br,e2,dW]
section
variable {p:az} {f:Frame} {i:Nat} {h:ad}
theorem xN (aT:h.aq=0):iO p f i h=h:=by unfold iO;simp[aT]
theorem C0 (aT:h.aq=4):iO p f i h=hp (nth p.O i).ai f h:=by unfold iO;simp[aT]
theorem I9 (aT:h.aq≠0) (bd:h.aq≠4) (aC:eh f (nth (nth p.O i).ai 0)=true):iO p f i h=hp (nth p.O i).ai f {h with aq:=4,au:=0}:=by unfold iO;simp[aT,bd,aC]
theorem C2 (aT:h.aq=1∨h.aq=2) (aC:eh f (nth (nth p.O i).ai 0)=false) (aI:gl p f i=true):iO p f i h={h with aq:=2,ar:=true}:=by
 unfold iO
 rcases aT with aT | aT<;>simp[aT,aC,aI]
theorem C1 (aT:h.aq=1∨h.aq=2) (aC:eh f (nth (nth p.O i).ai 0)=false) (aI:gl p f i=false):iO p f i h={h with aq:=1}:=by
 unfold iO
 rcases aT with aT | aT<;>simp[aT,aC,aI]
theorem C3 (h1:h.aq≠1) (h2:h.aq≠2) (bd:h.aq≠4) (aC:eh f (nth (nth p.O i).ai 0)=false):iO p f i h=h:=by
 unfold iO
 simp[h1,h2,bd,aC]
end
theorem Tn (f:Frame): ∀(b:List Bool) (s:List Int),List.zipWith (fun b x=>b || eh f x) (List.zipWith (fun b x=>b || eh f x) b s) s=List.zipWith (fun b x=>b || eh f x) b s
 | [],s=>rfl
 | b::bs,[]=>rfl
 | b::bs,x::s=>by
  simp only[List.zipWith_cons_cons,Tn f bs s]
  cases b<;>cases eh f x<;>rfl
theorem Lq {s:List Int} {f:Frame} {ac:List Bool}: ∀(n g:Nat),s.length≤n+g→ ¬(gf s f ac n g<s.length∧ac.getD (gf s f ac n g) false=true∧eh f (s.getD (gf s f ac n g) 0)=false∧(gf s f ac n g+1=s.length∨ac.getD (gf s f ac n g+1) false=true))
 | 0,g,h=>fun b0=>by have:=b0.1;unfold gf at this;omega
 | n+1,g,h=>by
  by_cases hc:g<s.length∧ac.getD g false=true∧eh f (s.getD g 0)=false∧(g+1=s.length∨ac.getD (g+1) false=true)
  ·have e:gf s f ac (n+1) g=gf s f ac n (g+1):=if_pos hc
   rw[e];exact Lq n (g+1) (by omega)
  ·have e:gf s f ac (n+1) g=g:=if_neg hc
   rw[e];exact hc
theorem Wj {s:List Int} {f:Frame} {ac:List Bool} {n m g:Nat} (h:s.length≤n+g):gf s f ac m (gf s f ac n g)=gf s f ac n g:=Bh (Lq n g h)
theorem Ls {s:List Int} {f:Frame} {ac:List Bool}: ∀(n g:Nat),(∀j,j<g→ac.getD j false=true)→ ∀j,j<gf s f ac n g→ac.getD j false=true
 | 0,g,h=>h
 | n+1,g,h=>by
  unfold gf
  split
  ·rename_i hc
   refine Ls n (g+1) fun j aN=> ?_
   by_cases e:j=g
   ·subst e;exact hc.2.1
   ·exact h j (by omega)
  ·exact h
theorem aa5 (s:List Int) (f:Frame) (h:ad) (bd:h.aq=4):(hp s f h=g8 s.length)∨((hp s f h).aq=4∧hp s f (hp s f h)=hp s f h):=by
 unfold hp
 simp only
 split
 ·exact .inl rfl
 ·rename_i hg
  refine .inr ⟨bd,?_⟩
  simp only[Tn,Int.toNat_natCast]
  rw[Wj (by omega),if_neg hg]
theorem ae5 (p:az) (f:Frame) (i:Nat) (h:ad):iO p f i (iO p f i h)=iO p f i h:=by
 have key: ∀x:ad,x.aq=4→iO p f i (hp (nth p.O i).ai f x)=hp (nth p.O i).ai f x:=fun x hx=>by
  rcases aa5 (nth p.O i).ai f x hx with e | ⟨br,e2⟩
  ·rw[e];exact xN rfl
  ·rw[C0 br,e2]
 by_cases aT:h.aq=0
 ·rw[xN aT,xN aT]
 by_cases bd:h.aq=4
 ·rw[C0 bd];exact key h bd
 cases aC:eh f (nth (nth p.O i).ai 0) with
 | true=>rw[I9 aT bd aC];exact key _ rfl
 | false=>
  by_cases mu:h.aq=1∨h.aq=2
  ·cases aI:gl p f i with
   | true=>rw[C2 mu aC aI,C2 (.inr rfl) aC aI]
   | false=>rw[C1 mu aC aI,C1 (.inl rfl) aC aI]
  ·rw[C3 (fun e=>mu (.inl e)) (fun e=>mu (.inr e)) bd aC,C3 (fun e=>mu (.inl e)) (fun e=>mu (.inr e)) bd aC]
theorem xG (p:az) (f:Frame): ∀(n j:Nat),(iz p n f).O[j]?=(f.O[j]?).map fun h=>if j<n then iO p f j h else h
 | 0,j=>by
  show f.O[j]?=_
  cases f.O[j]?<;>simp
 | n+1,j=>by
  show((iz p n f).O.set n (mj p (iz p n f) n))[j]?=_
  rw[List.getElem?_set]
  have s:=pc p f n
  split
  ·rename_i e;subst e
   have aL:=pb p f n
   by_cases aG:n<f.O.length
   ·rw[if_pos (by omega),ae3,SA s.2.1 s.2.2]
    have bQ:=xG p f n n
    rw[List.getElem?_eq_getElem aG,List.getElem?_eq_getElem (by omega)] at bQ
    have Yo:(iz p n f).O[n]=f.O[n]:=by simpa using bQ
    rw[jg (by omega),Yo,List.getElem?_eq_getElem aG]
    simp
   ·rw[if_neg (by omega),List.getElem?_eq_none (by omega)];rfl
  ·rename_i cl
   rw[xG p f n j]
   congr 1
   funext h
   by_cases aN:j<n
   ·rw[if_pos aN,if_pos (by omega)]
   ·rw[if_neg aN,if_neg (by omega)]
theorem HX {p:az} {f:Frame} {i:Int} (aT:0≤i) (h1:i<f.O.length):nth (ea p f).O i=iO p f i.toNat (nth f.O i):=by
 have e:=xG p f f.O.length i.toNat
 have aL:=pb p f f.O.length
 rw[List.getElem?_eq_getElem (by omega),List.getElem?_eq_getElem (show i.toNat<f.O.length by omega)] at e
 unfold ea
 rw[gk (by omega),gk (show i.toNat<f.O.length by omega)]
 simpa[show i.toNat<f.O.length by omega] using e
theorem acd (p:az) (f:Frame):(ea p (ea p f)).O=(ea p f).O:=by
 apply List.ext_getElem?
 intro j
 have s:=pc p f f.O.length
 have aL:=pb p f f.O.length
 unfold ea
 rw[xG,xG,aL]
 cases h:f.O[j]? with
 | none=>rfl
 | some x=>
  have aN:=(List.getElem?_eq_some_iff.1 h).1
  simp only[Option.map_some,if_pos aN]
  rw[SA s.2.1 s.2.2,ae5]
structure oJ (n:Nat) (dx:Int) (h:ad):Prop where
 aJ:0≤h.aq∧h.aq≤4
 len:h.ac.length=n
 af:0≤h.af∧h.af<n
 still:h.aq≠4→h.af=0∧ ∀b∈h.ac,b=false
 ac: ∀j,j<h.af.toNat→h.ac.getD j false=true
 t3:h.aq=3→h.ar=true∧1≤h.au∧h.au≤dx
 t:h.aq≠3→h.au=0
 ff:h.aq=0→h.ar=false
 s2:h.aq=2→h.ar=true
theorem Mb {p:az} {f:Frame} {i:Int}:hn p f i=true↔oJ (nth p.O i).ai.length p.dx (nth f.O i):=by
 unfold hn
 simp only
 generalize nth f.O i=h
 generalize (nth p.O i).ai.length=n
 have eT: ∀(l:List Bool) (k:Nat),k≤l.length→((l.take k).all (fun b=>b)=true↔ ∀j,j<k→l.getD j false=true):=fun l k hk=>by
  rw[List.all_eq_true]
  constructor
  ·intro h j aN
   have:l[j]'(by omega)=true:=h _ (List.mem_take_iff_getElem.2 ⟨j,by omega,rfl⟩)
   rw[List.getD_eq_getElem?_getD,List.getElem?_eq_getElem (by omega)];exact this
  ·intro h x hx
   obtain⟨j,aN,rfl⟩:=List.mem_take_iff_getElem.1 hx
   have:=h j (by omega)
   rw[List.getD_eq_getElem?_getD,List.getElem?_eq_getElem (by omega)] at this;exact this
 rw[Bool.and_eq_true,Bool.and_eq_true,Bool.and_eq_true,Bool.and_eq_true,Bool.and_eq_true,iq,iq,decide_eq_true_eq,Bool.or_eq_true,Bool.and_eq_true,decide_eq_true_eq,decide_eq_true_eq,List.all_eq_true]
 constructor
 ·rintro⟨⟨⟨⟨⟨h1,h2⟩,aO⟩,bd⟩,ch⟩,cD⟩
  refine⟨h1,h2,by omega,fun aG=> ?_,(eT _ _ (by omega)).1 ch,fun e=> ?_,fun e=> ?_,fun e=> ?_,fun e=> ?_⟩
  ·rcases bd with bd | bd
   ·exact absurd bd aG
   ·exact⟨bd.1,fun b hb=>by have:=bd.2 b hb;simpa using this⟩
  ·rw[if_pos e,Bool.and_eq_true,iq] at cD;exact cD
  ·rw[if_neg e] at cD;simp only[Bool.and_eq_true,decide_eq_true_eq] at cD;exact cD.1.1
  ·rw[if_neg (by omega)] at cD;simp only[Bool.and_eq_true,decide_eq_true_eq,Bool.or_eq_true,Bool.not_eq_true'] at cD
   rcases cD.1.2 with h | h
   ·exact absurd e h
   ·exact h
  ·rw[if_neg (by omega)] at cD;simp only[Bool.and_eq_true,decide_eq_true_eq,Bool.or_eq_true,Bool.not_eq_true'] at cD
   rcases cD.2 with h | h
   ·exact absurd e h
   ·exact h
 ·intro H
  have hg:=H.af
  have aL:=H.len
  refine⟨⟨⟨⟨⟨H.aJ,H.len⟩,by omega⟩,?_⟩,(eT _ _ (by omega)).2 H.ac⟩,?_⟩
  ·by_cases bd:h.aq=4
   ·exact .inl bd
   ·exact .inr ⟨(H.still bd).1,fun b hb=>by rw[(H.still bd).2 b hb];rfl⟩
  ·by_cases aO:h.aq=3
   ·rw[if_pos aO,Bool.and_eq_true,iq];exact H.t3 aO
   ·rw[if_neg aO];simp only[Bool.and_eq_true,decide_eq_true_eq,Bool.or_eq_true,Bool.not_eq_true']
    refine⟨⟨H.t aO,?_⟩,?_⟩
    ·by_cases aT:h.aq=0
     ·exact .inr (H.ff aT)
     ·exact .inl aT
    ·by_cases aT:h.aq=2
     ·exact .inr (H.s2 aT)
     ·exact .inl aT
theorem BF {n:Nat} {dx:Int} (h:0<n):oJ n dx (g8 n) where
 aJ:=⟨show(0:Int)≤0 by decide,show(0:Int)≤4 by decide⟩
 len:=by simp[g8]
 af:=⟨Int.le_refl _,show(0:Int)<n by omega⟩
 still:=fun _=>⟨rfl,fun b hb=>(List.mem_replicate.1 hb).2⟩
 ac:=fun j aN=>absurd aN (Nat.not_lt_zero _)
 t3:=fun e=>absurd e (show ¬(0:Int)=3 by decide)
 t:=fun _=>rfl
 ff:=fun _=>rfl
 s2:=fun e=>absurd e (show ¬(0:Int)=2 by decide)
theorem Mc {n:Nat} {dx:Int} {s:List Int} {f:Frame} {h:ad} (aG:s.length=n) (aT:0<n) (H:oJ n dx h) (bd:h.aq=4):oJ n dx (hp s f h):=by
 subst aG
 have aP:(List.zipWith (fun b x=>b || eh f x) h.ac s).length=s.length:=by rw[List.length_zipWith,H.len];omega
 have hg:=H.af
 have sY:=(EK (s:=s) (f:=f) (ac:=List.zipWith (fun b x=>b || eh f x) h.ac s) s.length h.af.toNat (by omega)).2
 have uG: ∀j,h.ac.getD j false=true→(List.zipWith (fun b x=>b || eh f x) h.ac s).getD j false=true:=fun j aN=>by
  have l5:j<h.ac.length:=by
   by_cases l5:j<h.ac.length
   ·exact l5
   ·rw[List.getD_eq_getElem?_getD,List.getElem?_eq_none (by omega)] at aN;cases aN
  have aL:=H.len
  rw[List.getD_eq_getElem?_getD,List.getElem?_eq_getElem l5] at aN
  rw[List.getD_eq_getElem?_getD,List.getElem?_eq_getElem (by omega),List.getElem_zipWith]
  have aN:h.ac[j]=true:=aN
  rw[aN];rfl
 unfold hp
 simp only
 split
 ·exact BF aT
 ·rename_i cl
  exact⟨H.aJ,aP,⟨Int.natCast_nonneg _,by simp only;omega⟩,fun e=>absurd bd e,by
   simp only[Int.toNat_natCast]
   exact Ls _ _ fun j aN=>uG j (H.ac j aN),H.t3,H.t,H.ff,H.s2⟩
theorem XE {p:az} {f:Frame} {i:Nat} {h:ad} {n:Nat} (aG:(nth p.O i).ai.length=n) (aT:0<n) (H:oJ n p.dx h):oJ n p.dx (iO p f i h):=by
 by_cases il:h.aq=0
 ·rw[xN il];exact H
 by_cases bd:h.aq=4
 ·rw[C0 bd];exact Mc aG aT H bd
 have bk:=H.aJ
 cases aC:eh f (nth (nth p.O i).ai 0) with
 | true=>
  rw[I9 il bd aC]
  refine Mc aG aT ⟨⟨show(0:Int)≤4 by decide,show(4:Int)≤4 by decide⟩,H.len,H.af,fun e=>absurd rfl e,H.ac,fun e=>absurd e (show ¬(4:Int)=3 by decide),fun _=>rfl,fun e=>absurd e (show ¬(4:Int)=0 by decide),fun e=>absurd e (show ¬(4:Int)=2 by decide)⟩ rfl
 | false=>
  by_cases mu:h.aq=1∨h.aq=2
  ·have hs:=H.still bd
   have bq:=H.t (by omega)
   cases aI:gl p f i with
   | true=>
    rw[C2 mu aC aI]
    exact⟨⟨show(0:Int)≤2 by decide,show(2:Int)≤4 by decide⟩,H.len,H.af,fun _=>hs,H.ac,fun e=>absurd e (show ¬(2:Int)=3 by decide),fun _=>bq,fun e=>absurd e (show ¬(2:Int)=0 by decide),fun _=>rfl⟩
   | false=>
    rw[C1 mu aC aI]
    exact⟨⟨show(0:Int)≤1 by decide,show(1:Int)≤4 by decide⟩,H.len,H.af,fun _=>hs,H.ac,fun e=>absurd e (show ¬(1:Int)=3 by decide),fun _=>bq,fun e=>absurd e (show ¬(1:Int)=0 by decide),fun e=>absurd e (show ¬(1:Int)=2 by decide)⟩
  ·rw[C3 (fun e=>mu (.inl e)) (fun e=>mu (.inr e)) bd aC];exact H
theorem I4 {p:az} {f:Frame} {i:Nat} {h:ad} (hs:(iO p f i h).aq≠0):h.aq≠0:=fun e=>hs (by rw[xN e];exact e)
structure pq (p:az) (f:Frame):Prop where
 base:rP p f=true
 jB: ∀x∈f.ap,jA x=true
 held: ∀i:Int,0≤i→i<f.O.length→oJ (nth p.O i).ai.length p.dx (nth f.O i)
 bW: ∀i k:Int,0≤i→i<f.O.length→0≤k→k<f.O.length→js p f i k=false
theorem G4 {p:az} {f:Frame} (h:eI p f=true):pq p f∧ea p f=f:=by
 obtain⟨a,b,c,d,e⟩:=uc.1 h
 refine⟨⟨a,b,fun i i0 i1=>Mb.1 (c i i0 i1),d⟩,?_⟩
 have s:=pc p f f.O.length
 have h1:(ea p f).ok=f.ok:=s.1
 have h2:(ea p f).aw=f.aw:=s.2.1
 have aO:(ea p f).ap=f.ap:=s.2.2
 generalize ea p f=g at e h1 h2 aO
 cases g;cases f
 simp only at e h1 h2 aO
 subst e;subst h1;subst h2;subst aO;rfl
theorem JX {p:az} {f g:Frame} (aL:g.O.length=f.O.length) (hs: ∀i:Int,0≤i→i<f.O.length→(nth g.O i).aq≠0→(nth f.O i).aq≠0)
  (h: ∀i k:Int,0≤i→i<f.O.length→0≤k→k<f.O.length→js p f i k=false): ∀i k:Int,0≤i→i<g.O.length→0≤k→k<g.O.length→js p g i k=false:=fun i k i0 i1 a4 da=>by
 have h1:=h i k i0 (by omega) a4 (by omega)
 cases hb:js p g i k with
 | false=>rfl
 | true=>
  unfold js at hb h1
  simp only[Bool.and_eq_true,bne_iff_ne,ne_eq] at hb
  have s1:=hs i i0 (by omega) hb.2.2.1
  have s2:=hs k a4 (by omega) hb.2.2.2
  rw[show(i !=k)=true by simpa using hb.1,hb.2.1,show((nth f.O i).aq !=0)=true by simpa using s1,show((nth f.O k).aq !=0)=true by simpa using s2] at h1
  cases h1
theorem CR {p:az} (h:dT p=true) {i:Int} (i0:0≤i) (i1:i<p.O.length):0<(nth p.O i).ai.length:=
 List.length_pos_iff.2 ((sh h).ai _ (dz (by omega))).1
theorem Pg {p:az} {f:Frame} (h:pq p f):eI p (ea p f)=true:=by
 obtain⟨jr,dl,qi,j3,jL⟩:=m0.1 h.base
 have s:=pc p f f.O.length
 have aL:(ea p f).O.length=f.O.length:=pb p f f.O.length
 have h1:(ea p f).ok=f.ok:=s.1
 have h2:(ea p f).aw=f.aw:=s.2.1
 have aO:(ea p f).ap=f.ap:=s.2.2
 refine uc.2 ⟨m0.2 ⟨jr,by rw[h1];exact dl,by rw[h2];exact qi,by rw[aO];exact j3,by rw[aL];exact jL⟩,by rw[aO];exact h.jB,fun i i0 i1=> ?_,JX aL (fun i i0 i1 hs=> ?_) h.bW,(acd p f).symm⟩
 ·have Mt:i<f.O.length:=by omega
  rw[Mb,HX i0 Mt]
  exact XE (by rw[jy i0]) (CR jr i0 (by omega)) (h.held i i0 Mt)
 ·rw[HX i0 i1] at hs;exact I4 hs
theorem ma {α:Type} [Inhabited α] {l:List α} {t i:Int} {x:α} (t0:0≤t) (i0:0≤i) (i1:i<l.length):nth (l.set t.toNat x) i=if i=t then x else nth l i:=by
 rw[gk (by rw[List.length_set];omega),gk (show i.toNat<l.length by omega),List.getElem_set]
 by_cases e:i=t
 ·rw[if_pos (by omega),if_pos e]
 ·rw[if_neg (by omega),if_neg e]
theorem xQ {p:az} {ws:List ad} {i:Int} (i0:0≤i) (i1:i<ws.length): ∀n:Nat,nth (hD p n ws) i=if i<n then kZ p i.toNat (nth ws i) else nth ws i
 | 0=>by rw[if_neg (by omega)];rfl
 | n+1=>by
  show nth ((hD p n ws).set n (kZ p n (nth (hD p n ws) n))) i=_
  have aL:=z6 p ws n
  have e:=ma (l:=hD p n ws) (t:=(n:Int)) (i:=i) (x:=kZ p n (nth (hD p n ws) n)) (by omega) i0 (by omega)
  rw[Int.toNat_natCast] at e
  rw[e]
  by_cases aG:i=n
  ·subst aG
   rw[if_pos rfl,if_pos (by omega),xQ i0 i1 n,if_neg (by omega),Int.toNat_natCast]
  ·rw[if_neg aG,xQ i0 i1 n]
   by_cases hi:i<n
   ·rw[if_pos hi,if_pos (by omega)]
   ·rw[if_neg hi,if_neg (by omega)]
theorem XF {p:az} (h:dT p=true):1≤p.dx∧p.dx≤300:=(sg.1 (u7 h).1).2.1
theorem Qc: ∀(l:List cv) (q:List a8),(∀x∈l,0≤x.sw∧x.sw<q.length∧(x.bj=1∨x.bj=2))→(∀x∈q,jA x=true)→ ∀x∈h7 l q,jA x=true
 | [],q,_,h=>h
 | y::l,q,aL,h=>by
  show ∀x∈h7 l (q.set y.sw.toNat ⟨y.bj,(nth q y.sw).aX⟩),jA x=true
  have bm:=aL y (List.mem_cons_self ..)
  refine Qc l _ (fun x hx=>by rw[List.length_set];exact aL x (List.mem_cons_of_mem _ hx)) fun x hx=> ?_
  rcases List.mem_or_eq_of_mem_set hx with hx | rfl
  ·exact h x hx
  ·have:=h _ (dz (show y.sw.toNat<q.length by omega))
   unfold jA at this ⊢
   rw[Bool.and_eq_true,iq,iq] at this ⊢
   exact⟨by show 1≤y.bj∧y.bj≤2;omega,this.2⟩
theorem Pj {p:az} {f:Frame} (h:pq p f) {ws:List ad} (aL:ws.length=f.O.length) (hk: ∀i:Int,0≤i→i<f.O.length→oJ (nth p.O i).ai.length p.dx (nth ws i))
  (hs: ∀i:Int,0≤i→i<f.O.length→(nth ws i).aq≠0→(nth f.O i).aq≠0):pq p {f with O:=ws}:=by
 obtain⟨jr,dl,qi,j3,jL⟩:=m0.1 h.base
 exact⟨m0.2 ⟨jr,dl,qi,j3,by show(ws.length:Nat)=_;omega⟩,h.jB,fun i i0 i1=>hk i i0 (by rw[←aL];exact i1),JX (f:=f) aL hs h.bW⟩
theorem Ph {p:az} {f:Frame} (h:pq p f) {t:Int} {x:ad} (t0:0≤t) (hk:oJ (nth p.O t).ai.length p.dx x) (hs:x.aq≠0→(nth f.O t).aq≠0):pq p {f with O:=f.O.set t.toNat x}:=by
 refine Pj h (List.length_set ..) (fun i i0 i1=> ?_) fun i i0 i1=> ?_
 ·rw[ma t0 i0 i1]
  split
  ·rename_i e;rw[e];exact hk
  ·exact h.held i i0 i1
 ·rw[ma t0 i0 i1]
  split
  ·rename_i e;rw[e];exact hs
  ·exact _root_.id
theorem Ct {p:az} {f:Frame} (h:pq p f) {o:List Bool} {q:List a8} (aC:o.length=f.aw.length) (ak:q.length=f.ap.length) (aI: ∀x∈q,jA x=true):pq p {f with aw:=o,ap:=q}:=by
 obtain⟨jr,dl,qi,j3,jL⟩:=m0.1 h.base
 exact⟨m0.2 ⟨jr,dl,by show(o.length:Int)=_;rw[aC];exact qi,by show q.length=_;rw[ak];exact j3,jL⟩,aI,h.held,h.bW⟩
theorem Qf {q:List a8} {k:Nat} {x:a8} (h: ∀x∈q,jA x=true) (hx:jA x=true): ∀y∈q.set k x,jA y=true:=fun y bm=>by
 rcases List.mem_or_eq_of_mem_set bm with bm | rfl
 ·exact h y bm
 ·exact hx
theorem XD {n:Nat} {dx:Int} {h:ad} (H:oJ n dx h) {x:Int} (bd:h.aq≠4) (hx:x=1) (aO:h.aq≠3):oJ n dx {h with aq:=x}:=by
 subst hx
 exact⟨⟨show(0:Int)≤1 by decide,show(1:Int)≤4 by decide⟩,H.len,H.af,fun _=>H.still bd,H.ac,fun e=>absurd e (show ¬(1:Int)=3 by decide),fun _=>H.t aO,fun e=>absurd e (show ¬(1:Int)=0 by decide),fun e=>absurd e (show ¬(1:Int)=2 by decide)⟩
theorem abj {p:az} {f:Frame} {e:Event} (h:pq p f) (he:ey p e=true):pq p (jU p f e):=by
 obtain⟨jr,dl,qi,j3,jL⟩:=m0.1 h.base
 have cF:=sh jr
 have eg:=zw jr
 have aS:=XF jr
 unfold jU
 split
 case isFalse=>exact h
 rename_i hc
 unfold fk
 split
 ·rename_i h1
  obtain⟨t0,t1⟩:=mY he (.inl h1)
  have I_:e.ah<f.O.length:=by omega
  have hw:eA p f e.ah=0:=by unfold eH at hc;rwa [if_pos h1] at hc
  have bk:(nth f.O e.ah).aq=0:=by
   unfold eA at hw
   by_cases aT:(nth f.O e.ah).aq=0
   ·exact aT
   ·rw[if_pos aT] at hw;cases hw
  have W7:(iN p f e.ah).O=[]:=by
   unfold eA at hw
   rw[if_neg (by rw[bk];simp)] at hw
   unfold codeF at hw
   by_cases ak:(iN p f e.ah).O=[]
   ·exact ak
   ·rw[if_pos ak] at hw;cases hw
  have l6:=yr.1 (show ef (k7 p f e.ah) p.O.length=[] from W7)
  have hk:=XD (x:=1) (h.held e.ah t0 I_) (by omega) rfl (by omega)
  have LB:=Ct h (o:=f.aw) (q:=h7 (bA (nth p.O e.ah)) f.ap) rfl (zT _ _) (Qc _ _ (fun x hx=>by
   have:=(cF.aX _ (dz (show e.ah.toNat<p.O.length by omega))).2.2 x hx
   exact⟨this.1,by omega,B4 jr (dz (by omega)) hx⟩) h.jB)
  have k9: ∀i:Int,0≤i→i<f.O.length→nth (f.O.set e.ah.toNat {nth f.O e.ah with aq:=1}) i=if i=e.ah then{nth f.O e.ah with aq:=1} else nth f.O i:=fun i i0 i1=>ma t0 i0 i1
  obtain⟨nz,lW,DC,DD,afY⟩:=m0.1 LB.base
  have Md: ∀k:Int,0≤k→k<f.O.length→k≠e.ah→k4 p e.ah k=true→(nth f.O k).aq≠0→False:=fun k a4 da cl hb hs=>by
   have:=l6 k a4 (by omega)
   unfold k7 at this
   rw[show(k !=e.ah)=true by simpa using cl,hb,show((nth f.O k).aq !=0)=true by simpa using hs] at this
   cases this
  refine⟨m0.2 ⟨nz,lW,DC,DD,by show(f.O.set _ _).length=_;rw[List.length_set];exact jL⟩,LB.jB,fun i i0 i1=> ?_,fun i k i0 i1 a4 da=> ?_⟩
  ·have i1:i<f.O.length:=by
    have i1:i<((f.O.set e.ah.toNat {nth f.O e.ah with aq:=1}).length:Int):=i1
    rw[List.length_set] at i1;exact i1
   show oJ _ _ (nth (f.O.set e.ah.toNat {nth f.O e.ah with aq:=1}) i)
   rw[k9 i i0 i1]
   split
   ·rename_i dS;rw[dS];exact hk
   ·exact h.held i i0 i1
  ·have i1:i<f.O.length:=by
    have i1:i<((f.O.set e.ah.toNat {nth f.O e.ah with aq:=1}).length:Int):=i1
    rw[List.length_set] at i1;exact i1
   have da:k<f.O.length:=by
    have da:k<((f.O.set e.ah.toNat {nth f.O e.ah with aq:=1}).length:Int):=da
    rw[List.length_set] at da;exact da
   have dx:=h.bW i k i0 i1 a4 da
   unfold js at dx ⊢
   show((i !=k)&&(k4 p i k&&(((nth (f.O.set e.ah.toNat {nth f.O e.ah with aq:=1}) i).aq !=0)&&((nth (f.O.set e.ah.toNat {nth f.O e.ah with aq:=1}) k).aq !=0))))=false
   rw[k9 i i0 i1,k9 k a4 da]
   by_cases AT:i=e.ah
   ·by_cases jb:k=e.ah
    ·rw[AT,jb];simp
    ·rw[if_neg jb]
     cases hb:k4 p i k with
     | false=>simp
     | true=>
      cases hs:((nth f.O k).aq !=0) with
      | false=>simp
      | true=>exact(Md k a4 da jb (by rw[←AT];exact hb) (by simpa using hs)).elim
   ·rw[if_neg AT]
    by_cases jb:k=e.ah
    ·cases hb:k4 p i k with
     | false=>simp
     | true=>
      cases hs:((nth f.O i).aq !=0) with
      | false=>simp
      | true=>exact(Md i i0 i1 AT (by rw[←jb,eg.sym k i a4 (by omega) i0 (by omega)];exact hb) (by simpa using hs)).elim
    ·rw[if_neg jb];exact dx
 rename_i h1
 split
 ·rename_i h2
  obtain⟨t0,t1⟩:=mY he (.inr h2)
  have I_:e.ah<f.O.length:=by omega
  have bk: ¬((nth f.O e.ah).aq≠1∧(nth f.O e.ah).aq≠2):=by
   unfold eH at hc
   rw[if_neg h1,if_pos h2] at hc
   intro b0;rw[if_pos b0] at hc;cases hc
  have bk:(nth f.O e.ah).aq=1∨(nth f.O e.ah).aq=2:=by omega
  have H:=h.held e.ah t0 I_
  split
  ·rename_i ak
   rw[Bool.and_eq_true] at ak
   refine Ph h t0 ⟨⟨show(0:Int)≤3 by decide,show(3:Int)≤4 by decide⟩,H.len,H.af,fun _=>H.still (by omega),H.ac,fun _=>⟨ak.1,aS.1,Int.le_refl _⟩,fun e=>absurd rfl e,fun e=>absurd e (show ¬(3:Int)=0 by decide),fun e=>absurd e (show ¬(3:Int)=2 by decide)⟩ (fun _=>by omega)
  ·exact Ph h t0 (BF (CR jr t0 t1)) (fun b0=>absurd rfl b0)
 rename_i h2
 split
 ·exact Ct h (List.length_set ..) rfl h.jB
 rename_i aO
 split
 ·rename_i ch
  obtain⟨t0,t1⟩:=wb he (.inl ch)
  rw[AZ ch,Bool.and_eq_true,iq,iq] at he
  refine Ct h rfl (List.length_set ..) (Qf h.jB ?_)
  have:=h.jB _ (dz (show e.ah.toNat<f.ap.length by omega))
  unfold jA at this ⊢
  rw[Bool.and_eq_true,iq,iq] at this ⊢
  exact⟨this.1,he.2⟩
 rename_i ch
 split
 ·rename_i cD
  obtain⟨t0,t1⟩:=wb he (.inr cD)
  rw[A0 cD,Bool.and_eq_true,iq,iq] at he
  refine Ct h rfl (List.length_set ..) (Qf h.jB ?_)
  have:=h.jB _ (dz (show e.ah.toNat<f.ap.length by omega))
  unfold jA at this ⊢
  rw[Bool.and_eq_true,iq,iq] at this ⊢
  exact⟨he.2,this.2⟩
 rename_i cD
 split
 ·refine Pj h (z6 _ _ _) (fun i i0 i1=> ?_) fun i i0 i1=> ?_
  ·rw[xQ i0 i1,if_pos i1]
   have H:=h.held i i0 i1
   unfold kZ
   split
   ·rename_i hs
    have bq:=H.t3 hs
    have hw:IntKind.i64.wrap ((nth f.O i).au - 1)=(nth f.O i).au - 1:=fG (by omega) (by omega)
    rw[hw]
    split
    ·unfold a6;rw[jy i0];exact BF (CR jr i0 (by omega))
    ·exact⟨H.aJ,H.len,H.af,H.still,H.ac,fun _=>⟨bq.1,by simp only;omega,by simp only;omega⟩,fun e=>absurd hs e,H.ff,H.s2⟩
   ·exact H
  ·rw[xQ i0 i1,if_pos i1]
   unfold kZ
   split
   ·rename_i hs
    split
    ·exact fun b0=>absurd rfl b0
    ·exact _root_.id
   ·exact _root_.id
 ·exact h
theorem Az {p:az} (h:dT p=true):eI p (ei p)=true:=by
 have hf:=JY h
 have aL:=hf.fr.O
 have e:ei p=⟨true,List.replicate p.ai.toNat false,List.replicate p.a5.length ⟨1,1⟩,p.O.map fun w=>g8 w.ai.length⟩:=by unfold ei;rw[if_pos h]
 have hw: ∀i:Int,0≤i→i<(ei p).O.length→nth (ei p).O i=g8 (nth p.O i).ai.length:=fun i i0 i1=>by
  rw[gk (by omega),gk (show i.toNat<p.O.length by omega)]
  simp only[e,List.getElem_map]
 have lA:pq p (ei p):=by
  refine⟨m0.2 ⟨h,by rw[e],hf.fr.aw,hf.fr.ap,aL⟩,fun x hx=> ?_,fun i i0 i1=> ?_,fun i k i0 i1 a4 da=> ?_⟩
  ·rw[e] at hx;rw[(List.mem_replicate.1 hx).2];decide
  ·rw[hw i i0 i1];exact BF (CR h i0 (by omega))
  ·unfold js
   rw[hw i i0 i1];simp[g8]
 have hs:ea p (ei p)=ei p:=by
  have s:=pc p (ei p) (ei p).O.length
  have BQ:(ea p (ei p)).O=(ei p).O:=by
   apply List.ext_getElem?
   intro j
   unfold ea
   rw[xG]
   cases hx:(ei p).O[j]? with
   | none=>rfl
   | some x=>
    have aN:=(List.getElem?_eq_some_iff.1 hx)
    have uv:=aN.1
    have:=hw j (by omega) (by omega)
    rw[jg aN.1,aN.2] at this
    simp only[Option.map_some,if_pos aN.1]
    rw[xN (by rw[this];rfl)]
  have h1:(ea p (ei p)).ok=(ei p).ok:=s.1
  have h2:(ea p (ei p)).aw=(ei p).aw:=s.2.1
  have aO:(ea p (ei p)).ap=(ei p).ap:=s.2.2
  generalize ea p (ei p)=g at BQ h1 h2 aO
  generalize ei p=b at BQ h1 h2 aO
  cases g;cases b
  simp only at BQ h1 h2 aO
  subst BQ;subst h1;subst h2;subst aO;rfl
 rw[←hs];exact Pg lA
theorem Us (p:az) (f:Frame) (e:Event):eH p f e≠1:=by
 unfold eH eA codeF
 repeat' split
 all_goals decide
theorem aaF {p:az} {f:Frame} {e:Event} (h:eI p f=true):fK.mk (eH p f e) (ea p (jU p f e))=gK p f e:=by
 unfold gK jU
 by_cases hc:eH p f e=0
 ·rw[if_pos hc,if_neg (by rw[hc];simp),hc]
 ·rw[if_neg hc,if_pos hc,(G4 h).2]
theorem SB {p:az} {f:Frame} {e:Event} (h:eI p f=true):xI p f e=(if ey p e=true then gK p f e else⟨1,f⟩)∧eI p (xI p f e).frame=true:=by
 unfold xI gv
 rw[h,Bool.true_and]
 by_cases he:ey p e=true
 ·simp only[if_pos he]
  rw[if_neg (Us p f e)]
  exact⟨aaF h,Pg (abj (G4 h).1 he)⟩
 ·simp only[if_neg he]
  exact⟨rfl,h⟩
def Sw (h i v:Nat):Int:=if v=0 then 0 else if v=1 then 2 else if v<3+i∧ ¬(i=h∧v=2+h) then 3 else if i<h then 4 else 0
def Di (h i:Nat) (D:List fK):Prop:= ∀(v:Nat) (d:fK),D[v]?=some d→ ∃w,d.frame.O=[w]∧w.aq=Sw h i v
theorem Di.more {h i:Nat} {D:List fK} (k:Di h i D) {w:ad} {c:Int} {o:Bool} {a:List Bool} {b:List a8} {n:Nat} (aG:D.length=n) (hw:w.aq=Sw h i n):Di h i (D++[⟨c,o,a,b,[w]⟩]):=fun v d bh=>by
 rcases Nat.lt_or_ge v D.length with aL | aL
 ·rw[List.getElem?_append_left aL] at bh;exact k v d bh
 ·rw[List.getElem?_append_right aL] at bh
  cases hv:v - D.length with
  | zero=>rw[hv] at bh;cases bh;exact⟨w,rfl,by rw[hw,show v=n by omega]⟩
  | succ m=>rw[hv] at bh;simp at bh
def Jt (c:List UInt8):Bool:=true
def bX (k:Int) (c:bc):Prop:=0≤c.pos∧c.pos+k≤4611686018427387904
def lE (c:bc):bc:=bif decide (c.pos<(c.code.length:Int)) then bc.mk c.code (IntKind.i64.wrap (c.pos+1)) (IntKind.u64.wrap ((IntKind.u64.wrap ((IntKind.u64.wrap (c.tz*6364136223846793005))+(IntKind.u64.wrap (((nth c.code c.pos).toNat:Int)))))+1442695040888963407))
 else bc.mk c.code (IntKind.i64.wrap (c.pos+1)) (IntKind.u64.wrap ((IntKind.u64.wrap (c.tz*6364136223846793005))+1442695040888963407))
def nb (c:bc):Int:=bif decide (c.pos<(c.code.length:Int)) then IntKind.i64.wrap (((nth c.code c.pos).toNat:Int))
 else IntKind.i64.wrap (IntKind.u64.wrap (((BitVec.ofInt IntKind.u64.bits ((IntKind.u64.wrap ((IntKind.u64.wrap (c.tz*6364136223846793005))+1442695040888963407)).fdiv (2 ^ (min (40:Int).toNat IntKind.u64.bits)))&&&BitVec.ofInt IntKind.u64.bits 255).toNat:Int)))
theorem afi {n:Int} (h1:0≤n) (h2:n≤9223372036854775807):IntKind.u64.wrap n=n:=by
 have e:IntKind.u64.wrap n=n%2 ^ 64:=by
  unfold IntKind.wrap
  exact if_neg (fun h=>by simp[IntKind.signed] at h)
 rw[e];omega
theorem OH (c:bc):0≤nb c∧nb c≤255:=by
 have key: ∀n:Nat,n≤255→(0≤IntKind.i64.wrap (n:Int)∧IntKind.i64.wrap (n:Int)≤255)∧IntKind.u64.wrap (n:Int)=n:=fun n h=>by
  rw[fG (by omega) (by omega),afi (by omega) (by omega)];omega
 unfold nb
 cases decide (c.pos<(c.code.length:Int)) with
 | true=>
  have:=(nth c.code c.pos).toNat_lt
  exact(key _ (by omega)).1
 | false=>
  have hb: ∀x:BitVec IntKind.u64.bits,(x&&&BitVec.ofInt IntKind.u64.bits 255).toNat≤255:=fun x=>by
   rw[BitVec.toNat_and];exact Nat.and_le_right
  simp only[cond_false]
  rw[(key _ (hb _)).2]
  exact(key _ (hb _)).1
theorem aaO {c:bc} (h:bX 1 c):(lE c).pos=c.pos+1:=by
 have:IntKind.i64.wrap (c.pos+1)=c.pos+1:=fG (by have:=h.1;omega) (by have:=h.2;omega)
 unfold lE
 cases decide (c.pos<(c.code.length:Int))<;>exact this
theorem bX.mono {k l:Int} {c:bc} (h:bX k c) (aL:l≤k):bX l c:=⟨h.1,by have:=h.2;omega⟩
theorem bX.next {k:Int} {c:bc} (h:bX (k+1) c) (hk:0≤k):bX k (lE c):=by
 have:=aaO (h.mono (by omega))
 exact⟨by have:=h.1;omega,by have:=h.2;omega⟩
def iI (n:Int) (c:bc):Prop:=bX 2 c
def bN (n:Int) (c:bc):bc:=if n≤1 then c else bif decide (n>200) then lE (lE c) else lE c
def cN (n:Int) (c:bc):Int:=if n≤1 then 0 else(bif decide (n>200) then IntKind.i64.wrap (IntKind.i64.wrap (nb c*256)+nb (lE c)) else nb c).tmod n
theorem nd (n:Int) (c:bc):0≤cN n c∧(1≤n→cN n c<n):=by
 unfold cN
 split
 ·omega
 ·rename_i aG
  have h1:=OH c
  have h2:=OH (lE c)
  have h: ∀x:Int,0≤x→0≤x.tmod n∧(1≤n→x.tmod n<n):=fun x hx=>by
   rw[Int.tmod_eq_emod_of_nonneg hx]
   exact⟨Int.emod_nonneg _ (by omega),fun _=>Int.emod_lt_of_pos _ (by omega)⟩
  cases decide (n>200) with
  | true=>
   simp only[cond_true]
   refine h _ ?_
   rw[fG (n:=nb c*256) (by omega) (by omega),fG (by omega) (by omega)];omega
  | false=>exact h _ h1.1
theorem bX.pick {k:Int} {c:bc} {n:Int} (h:bX (k+2) c) (hk:0≤k):bX k (bN n c):=by
 unfold bN
 split
 ·exact h.mono (by omega)
 ·cases decide (n>200) with
  | true=>exact(bX.next (k:=k+1) (h.mono (by omega)) (by omega)).next hk
  | false=>exact(bX.next (k:=k+1) (h.mono (by omega)) (by omega)).mono (by omega)
def vl (n:Int) (no:List Int):Nat→bc→List Int→bc×List Int
 | 0,c,x=>(c,x)
 | k+1,c,x=>vl n no k (bN n c) (if((!(meets [cN n c] x))&&(!(meets [cN n c] no)))=true then x++[cN n c] else x)
def zW (m:Int) (c:bc):Nat:=(cN (IntKind.i64.wrap (m+1)) c).toNat
def H3 (n m:Int) (no:List Int) (c:bc):bc×List Int:=vl n no (zW m c) (bN (IntKind.i64.wrap (m+1)) c) []
def h8 (n m:Int) (no:List Int) (c:bc):bc:=(H3 n m no c).1
def hC (n m:Int) (no:List Int) (c:bc):List Int:=(H3 n m no c).2
def zX (n m:Int) (no:List Int) (c:bc):Prop:=bX 10 c∧0≤m∧m≤4
theorem QE {m:Int} {c:bc} (aT:0≤m) (bd:m≤4):zW m c≤4:=by
 unfold zW
 rw[fG (by omega) (by omega)]
 have:=(nd (m+1) c).2 (by omega)
 omega
structure vK (n:Int) (no:List Int) (x:List Int):Prop where
 xA: ∀y∈x,0≤y∧y<n
 xa:x.Nodup
 out: ∀y∈x,y ∉ no
theorem vK.push {n:Int} {no x:List Int} {c:bc} (aG:1≤n) (h:vK n no x):vK n no (if((!(meets [cN n c] x))&&(!(meets [cN n c] no)))=true then x++[cN n c] else x):=by
 split
 ·rename_i e
  rw[Bool.and_eq_true,Bool.not_eq_true',Bool.not_eq_true',uS,uS] at e
  have br:cN n c ∉ x:=by simpa using e.1
  have e2:cN n c ∉ no:=by simpa using e.2
  have aK:=nd n c
  refine⟨fun y bm=> ?_,?_,fun y bm=> ?_⟩
  ·rcases List.mem_append.1 bm with bm | bm
   ·exact h.xA y bm
   ·obtain rfl:=List.mem_singleton.1 bm;exact⟨aK.1,aK.2 aG⟩
  ·rw[List.nodup_append]
   exact⟨h.xa,by simp,fun a a3 b hb e=>by obtain rfl:=List.mem_singleton.1 hb;subst e;exact br a3⟩
  ·rcases List.mem_append.1 bm with bm | bm
   ·exact h.out y bm
   ·obtain rfl:=List.mem_singleton.1 bm;exact e2
 ·exact h
theorem QF {n:Int} {no:List Int} (aG:1≤n): ∀{k:Nat} {c:bc} {x:List Int} {q:Int},bX (q+2*k) c→0≤q→vK n no x→bX q (vl n no k c x).1∧vK n no (vl n no k c x).2∧(vl n no k c x).2.length≤x.length+k
 | 0,c,x,q,h,ak,hx=>⟨h.mono (by omega),hx,by show x.length≤_;omega⟩
 | k+1,c,x,q,h,ak,hx=>by
  have:=QF aG (q:=q) (k:=k) (c:=bN n c) (bX.pick (h.mono (by omega)) (by omega)) ak (hx.push (c:=c) aG)
  refine⟨this.1,this.2.1,Nat.le_trans this.2.2 ?_⟩
  split<;>simp<;>omega
theorem xH {n m:Int} {no:List Int} {c:bc} {q:Int} (aG:1≤n) (h:bX (q+10) c) (ak:0≤q) (aT:0≤m) (bd:m≤4):bX q (h8 n m no c)∧vK n no (hC n m no c)∧(hC n m no c).length≤4:=by
 have kM:=QE (c:=c) aT bd
 have:=QF aG (no:=no) (k:=zW m c) (c:=bN (IntKind.i64.wrap (m+1)) c) (x:=[]) (q:=q) (bX.pick (h.mono (by omega)) (by omega)) ak ⟨(by simp),List.nodup_nil,(by simp)⟩
 exact⟨this.1,this.2.1,Nat.le_trans this.2.2 (by simpa using kM)⟩
def Ac (p:az) (c:bc):bc:=bif decide ((p.O.length:Int)>0) then bN (p.O.length:Int) c else c
def Ad (p:az) (c:bc):bc:=bif decide (p.ai>0) then bN p.ai (Ac p c) else Ac p c
def Ae (p:az) (c:bc):bc:=bif decide ((p.a5.length:Int)>0) then bN (p.a5.length:Int) (Ad p c) else Ad p c
def hh (p:az) (c:bc):bc:=bN 20 (Ae p c)
def fR (p:az) (c:bc):Int:=cN 20 (Ae p c)
def xZ (p:az) (c:bc):Int:=bif decide ((p.O.length:Int)>0) then cN (p.O.length:Int) c else 0
def xY (p:az) (c:bc):Int:=bif decide (p.ai>0) then cN p.ai (Ac p c) else 0
def kI (p:az) (c:bc):Int:=bif decide ((p.a5.length:Int)>0) then cN (p.a5.length:Int) (Ad p c) else 0
def xX (k:Int):Bool:=bif k==0 then k==0 else(bif k==1 then k==1 else(bif k==2 then k==2 else k==3))
def vA (k:Int):Bool:=bif k==13 then k==13 else(bif k==14 then k==14 else k==15)
def lR (a b k:Int):Bool:=bif k==a then k==a else k==b
theorem Dc {a b k:Int} (h:lR a b k=true):k=a∨k=b:=by
 unfold lR at h
 cases e:k==a with
 | true=>left;simpa using e
 | false=>rw[e] at h;right;simpa using h
theorem S4 {k:Int} (h:vA k=true):k=13∨k=14∨k=15:=by
 unfold vA at h
 cases e:k==13 with
 | true=>left;simpa using e
 | false=>
  rw[e] at h
  cases e:k==14 with
  | true=>right;left;simpa using e
  | false=>rw[e] at h;right;right;simpa using h
theorem afC {k:Int} (h:xX k=true):k=0∨k=1∨k=2∨k=3:=by
 unfold xX at h
 cases e:k==0 with
 | true=>left;simpa using e
 | false=>
  rw[e] at h
  cases e:k==1 with
  | true=>right;left;simpa using e
  | false=>
   rw[e] at h
   cases e:k==2 with
   | true=>right;right;left;simpa using e
   | false=>rw[e] at h;right;right;right;simpa using h
def vu (p:az) (f:Frame) (i:Int):Nat→Int→Option Event
 | 0,_=>none
 | m+1,k=>
  if(((nth f.O i).aq==4)&&((nth f.aw (nth (nth p.O i).ai k))&&((k==IntKind.i64.wrap (((nth p.O i).ai.length:Int) - 1)) || (nth f.aw (nth (nth p.O i).ai (IntKind.i64.wrap (k+1)))))))=true then some ⟨4,nth (nth p.O i).ai k,0⟩
  else if((decide (k ≥ (nth f.O i).af))&&(!(nth (nth f.O i).ac k)))=true then some ⟨3,nth (nth p.O i).ai k,0⟩
  else vu p f i m (k+1)
def xR (p:az) (f:Frame):Nat→Int→Event
 | 0,_=>⟨1,0,0⟩
 | m+1,i=>if(((nth f.O i).aq==0) || ((nth f.O i).aq==1))=true then xR p f m (i+1) else
  match vu p f i (nth p.O i).ai.length 0 with
  | some e=>e
  | none=>xR p f m (i+1)
def p_ (p:az) (f:Frame) (c:bc):Event:=xR p f f.O.length 0
def z7 (p:az) (f:Frame) (c:bc):bc:=c
def Jh (p:az) (f:Frame) (c:bc):Prop:=tA p f
def Eo (p:az) (f:Frame) (c:bc):Prop:=tA p f∧bX 10 c
def eS (p:az) (f:Frame) (c:bc):bc:=
 if fR p c=10 then bN 2 (hh p c) else if fR p c=16 then bN 3 (hh p c) else hh p c
def ft (p:az) (f:Frame) (c:bc):Event:=
 bif xX (fR p c) then⟨1,xZ p c,0⟩ else bif lR 4 5 (fR p c) then⟨2,xZ p c,0⟩ else bif lR 6 7 (fR p c) then⟨3,xY p c,0⟩ else bif lR 8 9 (fR p c) then⟨4,xY p c,0⟩
 else bif fR p c==10 then⟨6,kI p c,IntKind.i64.wrap (1+cN 2 (hh p c))⟩ else bif lR 11 12 (fR p c) then⟨7,0,0⟩
 else bif vA (fR p c) then(bif decide ((f.ap.length:Int)>kI p c) then⟨5,kI p c,(nth f.ap (kI p c)).b5⟩ else p_ p f (hh p c))
 else bif fR p c==16 then⟨5,kI p c,cN 3 (hh p c)⟩ else p_ p f (hh p c)
def G2 (p:az) (c:bc):Prop:=bX 8 c
def o4 (p:az) (c:bc):bc:=bN 2 (bN 4 (bN 8 (bN 9 c)))
def iH (p:az) (c:bc):Event:=⟨cN 9 c,IntKind.i64.wrap (cN 8 (bN 9 c) - 1),bif cN 2 (bN 4 (bN 8 (bN 9 c)))==0 then 0 else IntKind.i64.wrap (cN 4 (bN 8 (bN 9 c)) - 1)⟩
theorem bX.xk {k:Int} {c:bc} {n:Int} {b:Bool} (h:bX (k+2) c) (hk:0≤k):bX k (bif b then bN n c else c):=by
 cases b with
 | true=>exact h.pick hk
 | false=>exact h.mono (by omega)
theorem afD {p:az} {c:bc} {k:Int} (h:bX (k+6) c) (hk:0≤k):bX k (Ae p c):=
 bX.xk (bX.xk (k:=k+2) (bX.xk (k:=k+2+2) (h.mono (by omega)) (by omega)) (by omega)) hk
theorem afE {p:az} {c:bc} {k:Int} (h:bX (k+8) c) (hk:0≤k):bX k (hh p c):=
 bX.pick (afD (k:=k+2) (h.mono (by omega)) (by omega)) hk
theorem KT {p:az} {f:Frame} {c:bc} {k:Int} (h:bX (k+10) c) (hk:0≤k):bX k (eS p f c):=by
 have bd:=afE (p:=p) (k:=k+2) (h.mono (by omega)) (by omega)
 unfold eS
 split
 ·exact bd.pick hk
 ·split
  ·exact bd.pick hk
  ·exact bd.mono (by omega)
theorem aaT {p:az} {c:bc} {k:Int} (h:bX (k+8) c) (hk:0≤k):bX k (o4 p c):=
 bX.pick (bX.pick (k:=k+2) (bX.pick (k:=k+2+2) (bX.pick (k:=k+2+2+2) (h.mono (by omega)) (by omega)) (by omega)) (by omega)) hk
def ds (c:bc):Int:=IntKind.i64.wrap (2+cN 6 c)
def u6 (c:bc):Int:=IntKind.i64.wrap (1+cN 6 (bN 6 c))
theorem Cr (c:bc):2≤ds c∧ds c≤7:=by
 have h:=nd 6 c
 have:=h.2 (by omega)
 unfold ds;rw[fG (by omega) (by omega)];omega
theorem abb (c:bc):1≤u6 c∧u6 c≤6:=by
 have h:=nd 6 (bN 6 c)
 have:=h.2 (by omega)
 unfold u6;rw[fG (by omega) (by omega)];omega
def tC (n:Int):Nat→bc→List Int→bc×List Int
 | 0,c,x=>(c,x)
 | k+1,c,x=>tC n k (bN n c) (x++[cN n c])
theorem SF {n:Int} (aG:1≤n): ∀{k:Nat} {c:bc} {x:List Int} {q:Int},bX (q+2*k) c→0≤q→(∀y∈x,0≤y∧y<n)→
  bX q (tC n k c x).1∧(∀y∈(tC n k c x).2,0≤y∧y<n)∧(tC n k c x).2.length=x.length+k
 | 0,c,x,q,h,ak,hx=>⟨h.mono (by omega),hx,rfl⟩
 | k+1,c,x,q,h,ak,hx=>by
  have:=SF aG (q:=q) (k:=k) (c:=bN n c) (x:=x++[cN n c]) (bX.pick (h.mono (by omega)) (by omega)) ak (fun y bm=>by
   rcases List.mem_append.1 bm with bm | bm
   ·exact hx y bm
   ·obtain rfl:=List.mem_singleton.1 bm;exact⟨(nd n c).1,(nd n c).2 aG⟩)
  refine⟨this.1,this.2.1,this.2.2.trans ?_⟩
  simp;omega
def gF (c:bc):bc×List Int:=tC (ds c) (cN 4 (bN 6 (bN 6 c))).toNat (bN 4 (bN 6 (bN 6 c))) []
theorem O8 {c:bc} {q:Int} (h:bX (q+12) c) (ak:0≤q):bX q (gF c).1∧(∀y∈(gF c).2,0≤y∧y<ds c)∧(gF c).2.length≤3:=by
 have hv:=nd 4 (bN 6 (bN 6 c))
 have:=hv.2 (by omega)
 have aO:bX (q+6) (bN 4 (bN 6 (bN 6 c))):=bX.pick (bX.pick (k:=q+6+2) (bX.pick (k:=q+6+2+2) (h.mono (by omega)) (by omega)) (by omega)) (by omega)
 have:=SF (n:=ds c) (by have:=Cr c;omega) (k:=(cN 4 (bN 6 (bN 6 c))).toNat) (x:=[]) (aO.mono (l:=q+2*((cN 4 (bN 6 (bN 6 c))).toNat:Nat)) (by omega)) ak (by simp)
 exact⟨this.1,this.2.1,by show(tC _ _ _ _).2.length≤3;rw[this.2.2];simp;omega⟩
def jY (n:Int) (c:bc):bc×List Int:=if(((hC n 4 [] c).length:Int)==0)=true then(bN n (h8 n 4 [] c),[cN n (h8 n 4 [] c)]) else(h8 n 4 [] c,hC n 4 [] c)
structure Tr (n:Int) (x:List Int):Prop where
 ne:x≠[]
 len:x.length≤4
 xA: ∀y∈x,0≤y∧y<n
 xa:x.Nodup
theorem P_ {n:Int} {c:bc} {q:Int} (aG:1≤n) (h:bX (q+12) c) (ak:0≤q):bX q (jY n c).1∧Tr n (jY n c).2:=by
 have hs:=xH (no:=[]) aG (h.mono (l:=q+2+10) (by omega)) (by omega) (m:=4) (by omega) (by omega)
 have hv:=nd n (h8 n 4 [] c)
 unfold jY
 split
 ·exact⟨bX.pick hs.1 ak,by simp,by simp,fun y bm=>by obtain rfl:=List.mem_singleton.1 bm;exact⟨hv.1,hv.2 aG⟩,by simp⟩
 ·rename_i aL
  exact⟨hs.1.mono (by omega),fun e=>aL (by replace e:hC n 4 [] c=[]:=e;rw[e];rfl),hs.2.2,hs.2.1.xA,hs.2.1.xa⟩
def oy (sw ss:List Int):Nat→Int→bc→List cv→List cv→bc×List cv×List cv
 | 0,_,c,x,y=>(c,x,y)
 | k+1,v,c,x,y=>if meets [nth sw v] ss=true then oy sw ss k (v+1) (bN 2 c) (x++[⟨v,IntKind.i64.wrap (1+cN 2 c)⟩]) y
  else if(cN 3 c==0)=true then oy sw ss k (v+1) (bN 2 (bN 3 c)) x (y++[⟨v,IntKind.i64.wrap (1+cN 2 (bN 3 c))⟩])
  else oy sw ss k (v+1) (bN 3 c) x y
structure po (sw ss:List Int) (v:Int) (x y:List cv):Prop where
 rx: ∀l∈x,(0≤l.sw∧l.sw<v)∧(1≤l.bj∧l.bj≤2)∧ss.contains (nth sw l.sw)=true
 rc: ∀l∈y,(0≤l.sw∧l.sw<v)∧(1≤l.bj∧l.bj≤2)
 uV:(x.map (·.sw)).Nodup
 uW:(y.map (·.sw)).Nodup
 xd: ∀a∈x,∀b∈y,a.sw≠b.sw
 o1:(x.length:Int)+y.length≤v
theorem OI {x:List cv} {v t:Int} (h:(x.map (·.sw)).Nodup) (aL: ∀l∈x,l.sw<v):((x++[cv.mk v t]).map (·.sw)).Nodup:=by
 rw[List.map_append,List.nodup_append]
 refine⟨h,by simp,fun a a3 b hb e=> ?_⟩
 obtain⟨l,hm,rfl⟩:=List.mem_map.1 a3
 have hb:b=v:=by simpa using hb
 have:=aL l hm
 omega
theorem Og (c:bc):1≤IntKind.i64.wrap (1+cN 2 c)∧IntKind.i64.wrap (1+cN 2 c)≤2:=by
 have h:=nd 2 c
 have:=h.2 (by omega)
 rw[fG (by omega) (by omega)];omega
theorem po.up {sw ss:List Int} {v:Int} {x y:List cv} (h:po sw ss v x y):po sw ss (v+1) x y:=
 ⟨fun l aL=>⟨⟨(h.rx l aL).1.1,by have:=(h.rx l aL).1.2;omega⟩,(h.rx l aL).2⟩,fun l aL=>⟨⟨(h.rc l aL).1.1,by have:=(h.rc l aL).1.2;omega⟩,(h.rc l aL).2⟩,h.uV,h.uW,h.xd,by have:=h.o1;omega⟩
theorem po.abl {sw ss:List Int} {v t:Int} {x y:List cv} (h:po sw ss v x y) (aT:0≤v) (bq:1≤t∧t≤2) (hc:ss.contains (nth sw v)=true):po sw ss (v+1) (x++[⟨v,t⟩]) y where
 rx:=fun l aL=>by
  rcases List.mem_append.1 aL with aL | aL
  ·exact h.up.rx l aL
  ·obtain rfl:=List.mem_singleton.1 aL;exact⟨⟨aT,by show v<v+1;omega⟩,bq,hc⟩
 rc:=h.up.rc
 uV:=OI h.uV fun l aL=>(h.rx l aL).1.2
 uW:=h.uW
 xd:=fun a a3 b hb=>by
  rcases List.mem_append.1 a3 with a3 | a3
  ·exact h.xd a a3 b hb
  ·obtain rfl:=List.mem_singleton.1 a3
   have:=(h.rc b hb).1.2
   show v≠b.sw;omega
 o1:=by have:=h.o1;simp;omega
theorem po.abm {sw ss:List Int} {v t:Int} {x y:List cv} (h:po sw ss v x y) (aT:0≤v) (bq:1≤t∧t≤2):po sw ss (v+1) x (y++[⟨v,t⟩]) where
 rx:=h.up.rx
 rc:=fun l aL=>by
  rcases List.mem_append.1 aL with aL | aL
  ·exact h.up.rc l aL
  ·obtain rfl:=List.mem_singleton.1 aL;exact⟨⟨aT,by show v<v+1;omega⟩,bq⟩
 uV:=h.uV
 uW:=OI h.uW fun l aL=>(h.rc l aL).1.2
 xd:=fun a a3 b hb=>by
  rcases List.mem_append.1 hb with hb | hb
  ·exact h.xd a a3 b hb
  ·obtain rfl:=List.mem_singleton.1 hb
   have:=(h.rx a a3).1.2
   show a.sw≠v;omega
 o1:=by have:=h.o1;simp;omega
theorem B3 {sw ss:List Int}: ∀{k:Nat} {v:Int} {c:bc} {x y:List cv} {q:Int},0≤v→bX (q+4*k) c→0≤q→po sw ss v x y→
  bX q (oy sw ss k v c x y).1∧po sw ss (v+k) (oy sw ss k v c x y).2.1 (oy sw ss k v c x y).2.2
 | 0,v,c,x,y,q,aT,h,ak,hx=>⟨h.mono (by omega),by rw[show v+((0:Nat):Int)=v by omega];exact hx⟩
 | k+1,v,c,x,y,q,aT,h,ak,hx=>by
  have e:v+((k+1:Nat):Int)=(v+1)+(k:Nat):=by omega
  rw[e]
  unfold oy
  split
  ·rename_i hm
   rw[uS] at hm
   exact B3 (by omega) (bX.pick (h.mono (by omega)) (by omega)) ak (hx.abl aT (Og c) hm)
  ·split
   ·exact B3 (by omega) (bX.pick (bX.pick (k:=q+4*k+2) (h.mono (by omega)) (by omega)) (by omega)) ak (hx.abm aT (Og _))
   ·exact B3 (by omega) (bX.pick (h.mono (by omega)) (by omega)) ak hx.up
def zg (n:Int) (sw:List Int) (c:bc):bc×List cv×List cv:=oy sw (jY n c).2 sw.length 0 (h8 n 2 (jY n c).2 (h8 n 2 (jY n c).2 (jY n c).1)) [] []
def vz (n:Int) (sw:List Int) (c:bc):bc×Way:=
 ((zg n sw c).1,Way.mk (jY n c).2 (zg n sw c).2.1 (zg n sw c).2.2 (hC n 2 (jY n c).2 (jY n c).1) (hC n 2 (jY n c).2 (h8 n 2 (jY n c).2 (jY n c).1)))
theorem aaB {a b:List Int} (h: ∀y∈b,y ∉ a):meets a b=false:=by
 unfold meets
 rw[List.any_eq_false]
 intro x hx e
 exact h x (by simpa using e) hx
theorem afq {n:Int} {sw:List Int} {c:bc} {q:Int} (aG:1≤n) (aL:sw.length≤3) (h:bX (q+44) c) (ak:0≤q):bX q (vz n sw c).1∧ ∀p:az,p.ai=n→p.a5=sw→g0 p (vz n sw c).2=true:=by
 have h1:=P_ aG (h.mono (l:=q+32+12) (by omega)) (by omega)
 have h2:=xH (no:=(jY n c).2) aG (h1.1.mono (l:=q+22+10) (by omega)) (by omega) (m:=2) (by omega) (by omega)
 have aO:=xH (no:=(jY n c).2) aG (h2.1.mono (l:=q+12+10) (by omega)) (by omega) (m:=2) (by omega) (by omega)
 have bd:=B3 (sw:=sw) (ss:=(jY n c).2) (k:=sw.length) (v:=0) (x:=[]) (y:=[]) (Int.le_refl _) (aO.1.mono (l:=q+4*(sw.length:Nat)) (by omega)) ak ⟨(by simp),(by simp),(by simp),(by simp),(by simp),(by simp)⟩
 refine⟨bd.1,fun p aI hs=> ?_⟩
 have bd:=bd.2
 subst aI;subst hs
 have hi: ∀x:Int,0≤x∧x<p.ai→b3 x 0 (p.ai - 1)=true:=fun x hx=>iq.2 (by omega)
 have o1:=bd.o1
 rw[n1]
 refine⟨h1.2.ne,qT.2 ⟨by have:=h1.2.len;show(jY _ c).2.length≤30;omega,fun x hx=>hi x (h1.2.xA x hx),h1.2.xa⟩,qT.2 ⟨by have:=h2.2.2;show(hC _ _ _ _).length≤30;omega,fun x hx=>hi x (h2.2.1.xA x hx),h2.2.1.xa⟩,
  qT.2 ⟨by have:=aO.2.2;show(hC _ _ _ _).length≤30;omega,fun x hx=>hi x (aO.2.1.xA x hx),aO.2.1.xa⟩,mB.2 ⟨by show(oy _ _ _ _ _ _ _).2.1.length≤30;omega,fun l qF=> ?_,bd.uV⟩,mB.2 ⟨by show(oy _ _ _ _ _ _ _).2.2.length≤30;omega,fun l qF=> ?_,bd.uW⟩,Ca.2 ⟨bd.uV,bd.uW,bd.xd⟩,fun l qF=>(bd.rx l qF).2.2,aaB h2.2.1.out⟩
 ·have:=bd.rx l qF
  rw[Bool.and_eq_true,iq,iq];omega
 ·have:=bd.rc l qF
  rw[Bool.and_eq_true,iq,iq];omega
def tH (n:Int) (sw:List Int):Nat→bc→List Way→bc×List Way
 | 0,c,x=>(c,x)
 | k+1,c,x=>tH n sw k (vz n sw c).1 (x++[(vz n sw c).2])
theorem S2 {n:Int} {sw:List Int} (aG:1≤n) (aL:sw.length≤3): ∀{k:Nat} {c:bc} {x:List Way} {q:Int},bX (q+44*k) c→0≤q→(∀w∈x,∀p:az,p.ai=n→p.a5=sw→g0 p w=true)→
  bX q (tH n sw k c x).1∧(∀w∈(tH n sw k c x).2,∀p:az,p.ai=n→p.a5=sw→g0 p w=true)∧(tH n sw k c x).2.length=x.length+k
 | 0,c,x,q,h,ak,hx=>⟨h.mono (by omega),hx,rfl⟩
 | k+1,c,x,q,h,ak,hx=>by
  have hw:=afq aG aL (h.mono (l:=q+44*k+44) (by omega)) (by omega)
  have:=S2 aG aL (k:=k) (x:=x++[(vz n sw c).2]) hw.1 ak (fun y bm=>by
   rcases List.mem_append.1 bm with bm | bm
   ·exact hx y bm
   ·obtain rfl:=List.mem_singleton.1 bm;exact hw.2)
  refine⟨this.1,this.2.1,this.2.2.trans ?_⟩
  simp;omega
def eM (c:bc):bc×List Way:=tH (ds c) (gF c).2 (IntKind.i64.wrap (1+cN 5 (gF c).1)).toNat (bN 5 (gF c).1) []
theorem K8 (c:bc):1≤IntKind.i64.wrap (1+cN 5 c)∧IntKind.i64.wrap (1+cN 5 c)≤5:=by
 have h:=nd 5 c
 have:=h.2 (by omega)
 rw[fG (by omega) (by omega)];omega
theorem abc {c:bc} {q:Int} (h:bX (q+234) c) (ak:0≤q):bX q (eM c).1∧(∀w∈(eM c).2,∀p:az,p.ai=ds c→p.a5=(gF c).2→g0 p w=true)∧(eM c).2.length≤5:=by
 have hs:=O8 (h.mono (l:=q+222+12) (by omega)) (by omega)
 have ch:=K8 (gF c).1
 have bh:bX (q+44*((IntKind.i64.wrap (1+cN 5 (gF c).1)).toNat:Nat)) (bN 5 (gF c).1):=(bX.pick (k:=q+220) (hs.1.mono (by omega)) (by omega)).mono (by omega)
 have:=S2 (n:=ds c) (sw:=(gF c).2) (by have:=Cr c;omega) hs.2.2 (x:=[]) bh ak (by simp)
 exact⟨this.1,this.2.1,by show(tH _ _ _ _ _).2.length≤5;rw[this.2.2];simp;omega⟩
def p6 (ws:List Way) (bs:List (List Bool)) (i:Int):Nat→Int→bc→List Bool→bc×List Bool
 | 0,_,c,r=>(c,r)
 | m+1,k,c,r=>if decide (k<i)=true then p6 ws bs i m (k+1) c (r.set k.toNat (nth (nth bs k) i))
  else if(i==k)=true then p6 ws bs i m (k+1) c (r.set k.toNat true)
  else if meets (nth ws i).ai (nth ws k).ai=true then p6 ws bs i m (k+1) c (r.set k.toNat true)
  else p6 ws bs i m (k+1) (bN 4 c) (r.set k.toNat (cN 4 c==0))
structure tN (ws:List Way) (bs:List (List Bool)) (i k:Int) (r:List Bool):Prop where
 len:r.length=ws.length
 lt: ∀j:Int,0≤j→j<k→j<i→nth r j=nth (nth bs j) i
 gt: ∀j:Int,0≤j→j<k→i<j→meets (nth ws i).ai (nth ws j).ai=true→nth r j=true
theorem tN.set {ws:List Way} {bs:List (List Bool)} {i k:Int} {r:List Bool} (h:tN ws bs i k r) (aT:0≤k) (h1:k<ws.length) {b:Bool} (hb:(k<i→b=nth (nth bs k) i)∧(i<k→meets (nth ws i).ai (nth ws k).ai=true→b=true)):tN ws bs i (k+1) (r.set k.toNat b):=by
 have aL:=h.len
 refine⟨by rw[List.length_set];exact h.len,fun j cq e6 bb=> ?_,fun j cq e6 bb hm=> ?_⟩
 ·rw[ma aT cq (by omega)]
  split
  ·rename_i e;subst e;exact hb.1 bb
  ·exact h.lt j cq (by omega) bb
 ·rw[ma aT cq (by omega)]
  split
  ·rename_i e;subst e;exact hb.2 bb hm
  ·exact h.gt j cq (by omega) bb hm
theorem zL {ws:List Way} {bs:List (List Bool)} {i:Int}: ∀{m:Nat} {k:Int} {c:bc} {r:List Bool} {q:Int},bX (q+2*m) c→0≤q→0≤k→k+m=ws.length→tN ws bs i k r→bX q (p6 ws bs i m k c r).1∧tN ws bs i ws.length (p6 ws bs i m k c r).2
 | 0,k,c,r,q,h,ak,aT,he,aK=>⟨h.mono (by omega),by rw[←he,show k+((0:Nat):Int)=k by omega];exact aK⟩
 | m+1,k,c,r,q,h,ak,aT,he,aK=>by
  unfold p6
  split
  ·rename_i hk
   have hk:k<i:=by simpa using hk
   exact zL (h.mono (by omega)) ak (by omega) (by omega) (aK.set aT (by omega) ⟨fun _=>rfl,fun _=>by omega⟩)
  ·rename_i hk
   have hk: ¬k<i:=by simpa using hk
   split
   ·rename_i LW
    have LW:i=k:=by simpa using LW
    exact zL (h.mono (by omega)) ak (by omega) (by omega) (aK.set aT (by omega) ⟨fun _=>by omega,fun _ _=>rfl⟩)
   ·split
    ·exact zL (h.mono (by omega)) ak (by omega) (by omega) (aK.set aT (by omega) ⟨fun _=>by omega,fun _ _=>rfl⟩)
    ·rename_i hm
     exact zL (bX.pick (h.mono (by omega)) (by omega)) ak (by omega) (by omega) (aK.set aT (by omega) ⟨fun _=>by omega,fun _ e=>absurd e hm⟩)
def zM (ws:List Way) (bs:List (List Bool)) (i:Int) (c:bc):bc×List Bool:=p6 ws bs i ws.length 0 c (List.replicate (ws.length:Int).toNat false)
def tW (ws:List Way):Nat→Int→bc→List (List Bool)→bc×List (List Bool)
 | 0,_,c,bs=>(c,bs)
 | m+1,i,c,bs=>tW ws m (i+1) (zM ws bs i c).1 (bs++[(zM ws bs i c).2])
structure vF (ws:List Way) (i:Int) (bs:List (List Bool)):Prop where
 len:(bs.length:Int)=i
 row: ∀j:Int,0≤j→j<i→(nth bs j).length=ws.length
 sym: ∀a b:Int,0≤b→b<a→a<i→nth (nth bs a) b=nth (nth bs b) a
 mt: ∀a b:Int,0≤a→a<b→a<i→b<ws.length→meets (nth ws a).ai (nth ws b).ai=true→nth (nth bs a) b=true
theorem GZ {α:Type} [Inhabited α] {xs:List α} {x:α} {j:Int} (aT:0≤j):nth (xs++[x]) j=if j<xs.length then nth xs j else if j=xs.length then x else default:=by
 unfold nth
 rw[List.getD_eq_getElem?_getD,List.getD_eq_getElem?_getD]
 split
 ·rw[List.getElem?_append_left (by omega)]
 ·split
  ·rw[List.getElem?_append_right (by omega),show j.toNat - xs.length=0 by omega];rfl
  ·rw[List.getElem?_eq_none (by simp;omega)];rfl
theorem abS {ws:List Way} {bs:List (List Bool)} {i:Int} {c:bc} {q:Int} (h:bX (q+10) c) (ak:0≤q) (hw:ws.length≤5):bX q (zM ws bs i c).1∧tN ws bs i ws.length (zM ws bs i c).2:=
 zL (h.mono (by omega)) ak (Int.le_refl _) (by omega) ⟨by simp,fun j cq e6=>by omega,fun j cq e6=>by omega⟩
theorem vF.push {ws:List Way} {i:Int} {bs:List (List Bool)} {r:List Bool} (h:vF ws i bs) (aT:0≤i) (aK:tN ws bs i ws.length r) (hi:i<ws.length):vF ws (i+1) (bs++[r]):=by
 have aL:=h.len
 have nc: ∀j:Int,0≤j→j<i→nth (bs++[r]) j=nth bs j:=fun j cq e6=>by rw[GZ cq,if_pos (by omega)]
 have new:nth (bs++[r]) i=r:=by rw[GZ aT,if_neg (by omega),if_pos (by omega)]
 refine⟨by simp;omega,fun j cq e6=> ?_,fun a b yb Dt ag=> ?_,fun a b J an ag J7 hm=> ?_⟩
 ·by_cases e:j=i
  ·subst e;rw[new];exact aK.len
  ·rw[nc j cq (by omega)];exact h.row j cq (by omega)
 ·rw[nc b yb (by omega)]
  by_cases e:a=i
  ·subst e;rw[new];exact aK.lt b yb (by omega) Dt
  ·rw[nc a (by omega) (by omega)];exact h.sym a b yb Dt (by omega)
 ·by_cases e:a=i
  ·subst e;rw[new];exact aK.gt b (by omega) J7 an hm
  ·rw[nc a (by omega) (by omega)];exact h.mt a b J an (by omega) J7 hm
theorem J9 {ws:List Way} (hw:ws.length≤5): ∀{m:Nat} {i:Int} {c:bc} {bs:List (List Bool)} {q:Int},bX (q+10*m) c→0≤q→0≤i→i+m=ws.length→vF ws i bs→bX q (tW ws m i c bs).1∧vF ws ws.length (tW ws m i c bs).2
 | 0,i,c,bs,q,h,ak,aT,he,hb=>⟨h.mono (by omega),by rw[←he,show i+((0:Nat):Int)=i by omega];exact hb⟩
 | m+1,i,c,bs,q,h,ak,aT,he,hb=>by
  have aK:=abS (ws:=ws) (bs:=bs) (i:=i) (h.mono (l:=q+10*m+10) (by omega)) (by omega) hw
  exact J9 (m:=m) hw aK.1 ak (by omega) (by omega) (hb.push aT aK.2 (by omega))
def u5 (c:bc):bc×List (List Bool):=tW (eM c).2 (eM c).2.length 0 (eM c).1 []
def q0 (c:bc):bc:=(u5 c).1
def lG (c:bc):az:=⟨ds c,(gF c).2,(eM c).2,(u5 c).2,u6 c⟩
def Hc (c:bc):Prop:=bX 300 c
theorem abe {p:az} (hb:kW p=true) (hs: ∀s∈p.a5,b3 s 0 (p.ai - 1)=true) (hw: ∀w∈p.O,g0 p w=true) (aL:p.bW.length=p.O.length)
  (aK: ∀b∈p.bW,b.length=p.O.length) (ak: ∀i k:Nat,i<p.O.length→k<p.O.length→n8 p i k=false):dT p=true:=by
 have none: ∀{α:Type} {xs:List α} {q:α→Bool},(∀x∈xs,q x=false)→first xs q=none:=fun h=>by unfold first;rw[List.findIdx?_eq_none_iff];exact h
 have:hQ p=⟨0,0⟩:=by
  rw[Ha hb (none fun s m=>by rw[hs s m];rfl) (none fun w m=>by rw[hw w m];rfl)]
  refine G9 aL (none fun b m=>by rw[aK b m];simp) (none fun i m=> ?_)
  rw[List.any_eq_false]
  intro k hk
  rw[ak i k (List.mem_range.1 m) (List.mem_range.1 hk)];simp
 unfold dT;rw[this];rfl
theorem Pe {c:bc} {q:Int} (h:bX (q+300) c) (ak:0≤q):bX q (q0 c)∧dT (lG c)=true:=by
 have m4:=Cr c
 have aS:=abb c
 have h1:=O8 (h.mono (l:=q+288+12) (by omega)) (by omega)
 have h2:=abc (h.mono (l:=q+66+234) (by omega)) (by omega)
 have aO:=J9 h2.2.2 (m:=(eM c).2.length) (i:=0) (bs:=[]) (q:=q) (h2.1.mono (by have:=h2.2.2;omega)) ak (Int.le_refl _) (by omega) ⟨rfl,fun j cq e6=>by omega,fun a b yb Dt ag=>by omega,fun a b J an ag=>by omega⟩
 refine⟨aO.1,?_⟩
 have eg:vF (eM c).2 (eM c).2.length (u5 c).2:=aO.2
 have hlen:=eg.len
 refine abe (sg.2 ⟨by show 1≤ds c∧ds c≤60;omega,by show 1≤u6 c∧u6 c≤300;omega,by have:=h1.2.2;show(gF c).2.length≤40;omega,by have:=h2.2.2;show(eM c).2.length≤100;omega⟩) (fun s hs=>iq.2 ?_) (fun w hw=>h2.2.1 w hw _ rfl rfl) (by show(u5 c).2.length=(eM c).2.length;omega) (fun b hb=> ?_) fun i k hi hk=> ?_
 ·have:=h1.2.1 s hs
  show 0≤s∧s≤ds c - 1;omega
 ·obtain⟨j,aN,rfl⟩:=List.mem_iff_getElem.1 hb
  have ot:j<(u5 c).2.length:=aN
  have:=eg.row j (by omega) (by omega)
  rw[jg ot] at this;exact this
 ·have hi:i<(eM c).2.length:=hi
  have hk:k<(eM c).2.length:=hk
  have oO: ∀a b:Nat,rE (lG c) a b=nth (nth (u5 c).2 a) b:=fun _ _=>rfl
  have afy: ∀a:Nat,(lG c).O=(eM c).2:=fun _=>rfl
  unfold n8
  rw[oO,oO,afy 0]
  rcases Nat.lt_trichotomy i k with bf | rfl | pL
  ·have hs:=eg.sym k i (by omega) (by omega) (by omega)
   have hm:=eg.mt i k (by omega) (by omega) (by omega) (by omega)
   rw[hs]
   cases e:meets (nth (eM c).2 i).ai (nth (eM c).2 k).ai with
   | true=>rw[hm e];simp
   | false=>simp
  ·simp
  ·have hs:=eg.sym i k (by omega) (by omega) (by omega)
   have hm:=eg.mt k i (by omega) (by omega) (by omega) (by omega)
   rw[hs]
   cases e:meets (nth (eM c).2 i).ai (nth (eM c).2 k).ai with
   | true=>rw[Ov] at e;rw[hm e];simp
   | false=>simp
def rb (p:az) (f:Frame) (c:bc):Event×bc:=
 bif cN 30 (eS p f c)==0 then(iH p (bN 30 (eS p f c)),o4 p (bN 30 (eS p f c))) else(ft p f c,bN 30 (eS p f c))
def sq (p:az):Nat→Frame→bc→List Event→bc×List Event
 | 0,_,c,x=>(c,x)
 | k+1,f,c,x=>sq p k (xI p f (rb p f c).1).frame (rb p f c).2 (x++[(rb p f c).1])
def D7 (p:az) (m:Int) (c:bc):bc×List Event:=sq p (cN m c).toNat (ei p) (bN m c) []
def ym (p:az) (m:Int) (c:bc):bc:=(D7 p m c).1
def sJ (p:az) (m:Int) (c:bc):List Event:=(D7 p m c).2
def AR (p:az) (m:Int) (c:bc):Prop:=dT p=true∧bX 1000 c∧1≤m∧m≤50
theorem abU {p:az} {f:Frame} {c:bc} {k:Int} (h:bX (k+20) c) (hk:0≤k):bX k (rb p f c).2:=by
 have h1:=KT (p:=p) (f:=f) (h.mono (l:=k+10+10) (by omega)) (by omega)
 have h2:=bX.pick (n:=30) (h1.mono (l:=k+8+2) (by omega)) (by omega)
 unfold rb
 cases cN 30 (eS p f c)==0 with
 | true=>exact aaT (p:=p) h2 hk
 | false=>exact h2.mono (by omega)
theorem PZ {p:az} {f:Frame} {d vY:bc} {x:List Event} {v:Int} {R:bc×List Event} {e:Event} (hf:eI p f=true) (aT:0<v) (bh:bX (20*v) d) (he:sq p v.toNat f d x=R) (hW:rb p f d=(e,vY)):
  bX (20*(v - 1)) vY∧(((gv p f e).code !=1)=true→eI p (gv p f e).frame=true∧sq p (v - 1).toNat (gv p f e).frame vY (x++[e])=R)∧(((gv p f e).code !=1)=false→sq p (v - 1).toNat f vY (x++[e])=R):=by
 have h1:=abU (p:=p) (f:=f) (bh.mono (l:=20*(v - 1)+20) (by omega)) (by omega)
 have h2:=(SB (e:=e) hf).2
 rw[show v.toNat=(v - 1).toNat+1 by omega] at he
 unfold sq at he
 rw[hW] at h1 he
 refine⟨h1,fun hc=> ?_,fun hc=> ?_⟩
 ·have hc:(gv p f e).code≠1:=by simpa using hc
  unfold xI at h2 he
  rw[if_neg hc] at h2 he
  exact⟨h2,he⟩
 ·have hc:(gv p f e).code=1:=by simpa using hc
  unfold xI at he
  rw[if_pos hc] at he
  exact he
theorem PU (p:az): ∀(k:Nat) (f:Frame) (c:bc) (x:List Event),(sq p k f c x).2.length=x.length+k
 | 0,_,_,x=>rfl
 | k+1,f,c,x=>(PU p k _ _ _).trans (by simp;omega)
theorem UT {p:az} {c:bc} {m:Int} (h1:1≤m) (h2:m≤50):(sJ p m c).length≤49:=by
 have:=(nd m c).2 h1
 show(sq p _ _ _ _).2.length≤49
 rw[PU];simp;omega
theorem Cg {p:az} {f:Frame} (h:eI p f=true):jH f:=by
 have hf:=(ms h).fr
 have aI:=(ms h).in
 have aC:=hf.aw
 have ak:=hf.ap
 have hw:=hf.O
 have h1:=aI.c2
 have h2:=aI.O
 have aO:=aI.sw
 refine⟨by omega,by omega,by omega,fun h hm=> ?_⟩
 obtain⟨i,hi,rfl⟩:=List.mem_iff_getElem.1 hm
 have hb:=hf.ac i f.O[i] (p.O[i]'(by omega)) (List.getElem?_eq_getElem hi) (List.getElem?_eq_getElem (by omega))
 have:=(aI.ai _ (List.getElem_mem (l:=p.O) (n:=i) (by omega))).2.1
 omega
def v0 (code:List UInt8):bc:=⟨code,0,0⟩
def pw (code:List UInt8):az×List Event:=(lG (v0 code),sJ (lG (v0 code)) 50 (q0 (v0 code)))
theorem D4 (code:List UInt8):bX 1300 (v0 code):=⟨Int.le_refl _,by show(0:Int)+1300≤_;omega⟩
theorem Kx (code:List UInt8):dT (pw code).1=true:=(Pe (q:=1000) (D4 code) (by omega)).2
theorem UP (code:List UInt8):AR (lG (v0 code)) 50 (q0 (v0 code)):=⟨Kx code,(Pe (q:=1000) (D4 code) (by omega)).1,by omega,by omega⟩
theorem UO (code:List UInt8):(pw code).2.length≤49:=UT (by omega) (by omega)
def mi (p:az) (f:Frame) (e:Event):fK:=if ey p e=true then gK p f e else⟨1,f⟩
def zy (f:Frame) (R:List fK):Nat→Frame
 | 0=>f
 | k+1=>(nth R (k:Int)).frame
theorem G0 {α:Type} [Inhabited α] (x:α) (xs:List α) (k:Nat):nth (x::xs) ((k+1:Nat):Int)=nth xs (k:Int):=by
 unfold nth;rw[Int.toNat_natCast,Int.toNat_natCast];rfl
theorem HI (p:az) (f:Frame) (e:Event) (es:List Event):jG p f (e::es)=mi p f e::jG p (mi p f e).frame es:=by
 unfold mi
 by_cases h:ey p e=true
 ·rw[if_pos h];simp only[jG,if_pos h]
 ·rw[if_neg h];simp only[jG,if_neg h]
theorem Sy {p:az} {f:Frame} {e:Event} (h:eI p f=true):eI p (mi p f e).frame=true:=by
 have:=SB (e:=e) h
 rw[this.1] at this;exact this.2
theorem HK {p:az}: ∀(es:List Event) {f:Frame},eI p f=true→ ∀k:Nat,k<es.length→eI p (zy f (jG p f es) k)=true∧nth (jG p f es) (k:Int)=mi p (zy f (jG p f es) k) (nth es (k:Int))
 | [],f,h,k,hk=>by simp at hk
 | e::es,f,h,0,hk=>by rw[HI];exact⟨h,rfl⟩
 | e::es,f,h,k+1,hk=>by
  have bQ:=HK es (Sy (e:=e) h) k (by simpa using hk)
  have aI:zy f (jG p f (e::es)) (k+1)=zy (mi p f e).frame (jG p (mi p f e).frame es) k:=by
   rw[HI]
   cases k with
   | zero=>rfl
   | succ j=>show(nth ((_:fK)::_) ((j+1:Nat):Int)).frame=_;rw[G0];rfl
  rw[aI,HI,G0,G0]
  exact bQ
def b4 (code:List UInt8):az:=(pw code).1
def iG (code:List UInt8):List Event:=(pw code).2
def cI (code:List UInt8):List fK:=sp (b4 code) (iG code)
def o7 (code:List UInt8) (v:Int):Frame:=zy (ei (b4 code)) (cI code) v.toNat
section
variable (code:List UInt8)
theorem Co:dT (b4 code)=true:=Kx code
theorem ZY:(iG code).length≤49:=UO code
theorem Hx:cI code=jG (b4 code) (ei (b4 code)) (iG code):=by
 have:=ZY code
 unfold cI sp
 rw[if_pos ⟨Co code,by omega⟩]
theorem abC:(cI code).length=(iG code).length:=by rw[Hx];exact CN ..
end
section
variable {code:List UInt8} {v:Int}
theorem Hf (aT:0≤v) (h1:v.toNat<(iG code).length):eI (b4 code) (o7 code v)=true:=by
 unfold o7;rw[Hx];exact(HK _ (Az (Co code)) _ h1).1
theorem Hy (aT:0≤v) (h1:v.toNat<(iG code).length):nth (cI code) v=mi (b4 code) (o7 code v) (nth (iG code) v):=by
 have:=(HK (iG code) (Az (Co code)) _ h1).2
 rw[jy aT,jy aT] at this
 unfold o7;rw[Hx];exact this
theorem abD (aT:0≤v) (h1:v.toNat<(iG code).length):eI (b4 code) (nth (cI code) v).frame=true:=by
 rw[Hy aT h1];exact Sy (Hf aT h1)
theorem He (aT:0≤v):o7 code (v+1)=(nth (cI code) v).frame:=by
 unfold o7
 rw[show(v+1).toNat=v.toNat+1 by omega]
 show(nth (cI code) (v.toNat:Int)).frame=_
 rw[jy aT]
end
theorem aaH {p:az} {f:Frame} {e:Event} (hf:eI p f=true) (he:ey p e=true) (hc:eH p f e=0) {k:Int} (a4:0≤k) (da:k<f.O.length):
  nth (fk p f e).O k=nth f.O k∨(nth f.O k).aq=0∨
  ((fk p f e).aw=f.aw∧((e.op=2∧((nth f.O k).aq=1∨(nth f.O k).aq=2)∧(((nth (fk p f e).O k).aq=3∧(nth (fk p f e).O k).af=(nth f.O k).af)∨((nth f.O k).ar&&gH f (nth p.O k).cK)=false))∨(e.op=7∧(nth f.O k).aq=3))):=by
 have hw:=(ms hf).fr.O
 unfold fk
 split
 ·rename_i h1
  obtain⟨t0,t1⟩:=mY he (.inl h1)
  by_cases jb:k=e.ah
  ·right;left
   unfold eH at hc
   rw[if_pos h1] at hc
   unfold eA at hc
   subst jb
   by_cases aT:(nth f.O e.ah).aq=0
   ·exact aT
   ·rw[if_pos aT] at hc;cases hc
  ·left
   show nth (f.O.set _ _) k=_
   rw[ma t0 a4 da,if_neg jb]
 ·split
  ·rename_i h1 h2
   obtain⟨t0,t1⟩:=mY he (.inr h2)
   by_cases jb:k=e.ah
   ·right;right
    subst jb
    have bk:(nth f.O e.ah).aq=1∨(nth f.O e.ah).aq=2:=by
     unfold eH at hc
     rw[if_neg h1,if_pos h2] at hc
     by_cases ak:(nth f.O e.ah).aq≠1∧(nth f.O e.ah).aq≠2
     ·rw[if_pos ak] at hc;cases hc
     ·omega
    split
    ·refine⟨rfl,.inl ⟨h2,bk,.inl ?_⟩⟩
     show(nth (f.O.set _ _) e.ah).aq=3∧(nth (f.O.set _ _) e.ah).af=_
     rw[ma t0 a4 da,if_pos rfl];exact⟨rfl,rfl⟩
    ·rename_i ak
     exact⟨rfl,.inl ⟨h2,bk,.inr (by simpa using ak)⟩⟩
   ·left
    split
    ·show nth (f.O.set _ _) k=_
     rw[ma t0 a4 da,if_neg jb]
    ·show nth (f.O.set _ _) k=_
     rw[ma t0 a4 da,if_neg jb]
  ·split
   ·exact .inl rfl
   ·split
    ·exact .inl rfl
    ·split
     ·exact .inl rfl
     ·split
      ·rename_i gp
       show nth (hD p f.O.length f.O) k=_∨_
       rw[xQ a4 da,if_pos (by omega)]
       unfold kZ
       by_cases aO:(nth f.O k).aq=3
       ·exact .inr (.inr ⟨rfl,.inr ⟨gp,aO⟩⟩)
       ·rw[if_neg aO];exact .inl rfl
      ·exact .inl rfl
theorem Sx (p:az) (f:Frame) (e:Event):(mi p f e).frame=f∨(ey p e=true∧eH p f e=0∧(mi p f e).frame=ea p (fk p f e)):=by
 unfold mi
 by_cases he:ey p e=true
 ·rw[if_pos he]
  unfold gK
  by_cases hc:eH p f e=0
  ·rw[if_neg (by rw[hc];simp)];exact .inr ⟨he,hc,rfl⟩
  ·rw[if_pos hc];exact .inl rfl
 ·rw[if_neg he];exact .inl rfl
section
variable {p:az} {f:Frame} {e:Event} {k:Int}
end
def eG (p:az) (f:Frame) (k:Int):List Int:=if eI p f&&pT k p.a5.length then fO p f k else[]
section
variable {p:az} {f:Frame} {i:Int}
theorem abh (p:az) (f:Frame) (i:Int):(iN p f i).ap=[]↔sQ p f i=false∧vi p f i=false:=by
 unfold iN sQ vi
 simp only[Bool.not_eq_false',List.isEmpty_iff]
 rw[yr,yr,yr]
 constructor
 ·intro h
  refine⟨fun k a4 da=> ?_,fun k a4 da=> ?_⟩
  ·have:=h k a4 da
   unfold jw at this
   cases aC:jh p f i k with
   | false=>rfl
   | true=>rw[aC] at this;simp at this;simp[this]
  ·have:=h k a4 da
   unfold jw at this
   cases aC:jh p f i k with
   | false=>rfl
   | true=>rw[aC] at this;simp at this;simp[this]
 ·rintro⟨h1,h2⟩ k a4 da
  have a:=h1 k a4 da
  have b:=h2 k a4 da
  unfold jw
  cases aC:jh p f i k with
  | false=>rfl
  | true=>rw[aC] at a b;simp at a b;simp[a,b]
theorem aaR (p:az) (f:Frame) (i:Int):(((iN p f i).O.length+(iN p f i).ai.length+(iN p f i).ap.length:Nat)=0)↔codeF p f i=0:=by
 have aI:=abh p f i
 unfold codeF
 by_cases h1:(iN p f i).O=[]
 ·by_cases h2:(iN p f i).ai=[]
  ·rw[if_neg (by simp[h1]),if_neg (by simp[h2]),h1,h2]
   cases ch:sQ p f i with
   | true=>simp;intro e;rw[aI.1 e |>.1] at ch;cases ch
   | false=>
    cases cD:vi p f i with
    | true=>simp;intro e;rw[aI.1 e |>.2] at cD;cases cD
    | false=>simp[aI.2 ⟨ch,cD⟩]
  ·rw[if_neg (by simp[h1]),if_pos h2]
   have:=List.length_pos_iff.2 h2
   constructor
   ·intro h;omega
   ·intro h;cases h
 ·rw[if_pos h1]
  have:=List.length_pos_iff.2 h1
  constructor
  ·intro h;omega
  ·intro h;cases h
theorem afv (aP:(nth f.O i).aq=0):eA p f i=codeF p f i:=by unfold eA;rw[if_neg (by rw[aP];simp)]
end
theorem HV: ∀(l:List cv) (q:List a8) {k:Int},(∀x∈l,0≤x.sw∧x.sw<q.length)→(l.map (·.sw)).Nodup→0≤k→k<q.length→
  (∃x∈l,x.sw=k∧(nth (h7 l q) k).b5=x.bj)∨((∀x∈l,x.sw≠k)∧nth (h7 l q) k=nth q k)
 | [],q,k,_,_,_,_=> .inr ⟨by simp,rfl⟩
 | x::l,q,k,aK,aG,a4,da=>by
  have hx:=aK x (List.mem_cons_self ..)
  have hs:h7 (x::l) q=h7 l (q.set x.sw.toNat ⟨x.bj,(nth q x.sw).aX⟩):=rfl
  rw[List.map_cons,List.nodup_cons] at aG
  have bQ:=HV l (q.set x.sw.toNat ⟨x.bj,(nth q x.sw).aX⟩) (k:=k) (fun y bm=>by rw[List.length_set];exact aK y (List.mem_cons_of_mem _ bm)) aG.2 a4 (by rw[List.length_set];exact da)
  rw[hs]
  rcases bQ with⟨y,bm,br,e2⟩ | ⟨br,e2⟩
  ·exact .inl ⟨y,List.mem_cons_of_mem _ bm,br,e2⟩
  ·rw[ma hx.1 a4 da] at e2
   by_cases e:k=x.sw
   ·rw[if_pos e] at e2
    exact .inl ⟨x,List.mem_cons_self ..,e.symm,by rw[e2]⟩
   ·rw[if_neg e] at e2
    refine .inr ⟨fun y bm=> ?_,e2⟩
    rcases List.mem_cons.1 bm with rfl | bm
    ·exact fun h=>e h.symm
    ·exact br y bm
def Ak (p:az) (f:Frame) (w k:Int):Prop:= ∃x∈bA (nth p.O w),x.sw=k∧x.bj=(nth f.ap k).b5
def rB (p:az) (f:Frame):Prop:= ∀w k:Int,0≤w→w<p.O.length→0≤k→k<p.a5.length→iT p f w k=true→Ak p f w k
theorem Jr {p:az} {f:Frame} {w k:Int} (h:iT p f w k=true):(nth f.O w).aq≠0∧ ∃x∈bA (nth p.O w),x.sw=k:=by
 unfold iT ky at h
 simp only[Bool.and_eq_true,Bool.or_eq_true,List.any_eq_true] at h
 refine⟨by simpa using h.1,?_⟩
 rcases h.2 with⟨x,hx,e⟩ | ⟨⟨x,hx,e⟩,_⟩
 ·exact⟨x,List.mem_append_right _ hx,by simpa using e⟩
 ·exact⟨x,List.mem_append_left _ hx,by simpa using e⟩
theorem afp {p:az} {f:Frame} {w k:Int} (aM:0≤w) (bI:w<p.O.length) (h:iT p f w k=true):hO p f k=true:=by
 unfold hO
 have hm:w∈fO p f k:=A9.2 ⟨aM,bI,h⟩
 have:=List.length_pos_of_mem hm
 rw[decide_eq_true_eq];omega
theorem Jq {p:az} {f g:Frame} {w k:Int} (hs:(nth g.O w).aq≠0→(nth f.O w).aq≠0) (hg:(nth g.O w).aq≠0→(nth f.O w).af.toNat≤(nth g.O w).af.toNat) (h:iT p g w k=true):iT p f w k=true:=by
 have aT:=(Jr h).1
 unfold iT jc at h ⊢
 simp only[Bool.and_eq_true,Bool.or_eq_true] at h ⊢
 have hf:((nth f.O w).aq !=0)=true:=by simpa using hs aT
 refine⟨hf,?_⟩
 rcases h.2 with h | ⟨h1,_,h2⟩
 ·exact .inl h
 ·refine .inr ⟨h1,hf,?_⟩
  obtain⟨j,aN,aL,e⟩:=v5.1 h2
  exact v5.2 ⟨j,Nat.le_trans (hg aT) aN,aL,e⟩
theorem Lt {s:List Int} {f:Frame} {ac:List Bool}: ∀(n g:Nat),g≤gf s f ac n g
 | 0,g=>Nat.le_refl _
 | n+1,g=>by
  unfold gf
  split
  ·exact Nat.le_trans (Nat.le_succ g) (Lt n (g+1))
  ·exact Nat.le_refl _
theorem O6 {s:List Int} {f:Frame} {h:ad} (hs:(hp s f h).aq≠0):h.af.toNat≤(hp s f h).af.toNat:=by
 unfold hp at hs ⊢
 simp only at hs ⊢
 split
 ·rename_i e;rw[if_pos e] at hs;exact absurd rfl hs
 ·show _≤((gf _ _ _ _ _:Nat):Int).toNat
  rw[Int.toNat_natCast];exact Lt _ _
theorem ae6 {p:az} {f:Frame} {i:Nat} {h:ad} (hs:(iO p f i h).aq≠0):h.af.toNat≤(iO p f i h).af.toNat:=by
 have aT:=I4 hs
 by_cases bd:h.aq=4
 ·rw[C0 bd] at hs ⊢;exact O6 hs
 by_cases aC:eh f (nth (nth p.O i).ai 0)=true
 ·rw[I9 aT bd aC] at hs ⊢
  exact O6 (h:={h with aq:=4,au:=0}) hs
 have aC:eh f (nth (nth p.O i).ai 0)=false:=by simpa using aC
 by_cases mu:h.aq=1∨h.aq=2
 ·by_cases aI:gl p f i=true
  ·rw[C2 mu aC aI];exact Nat.le_refl _
  ·rw[C1 mu aC (by simpa using aI)];exact Nat.le_refl _
 ·rw[C3 (by omega) (by omega) bd aC];exact Nat.le_refl _
theorem Vu {p:az} {m:Frame} (hw:m.O.length=p.O.length) (h:rB p m):rB p (ea p m):=by
 intro w k aM bI a4 da ak
 have hs:=pc p m m.O.length
 have e:(ea p m).ap=m.ap:=hs.2.2
 have rI:=HX (p:=p) (f:=m) aM (by omega)
 have:=h w k aM bI a4 da (Jq (fun h=>by rw[rI] at h;exact I4 h) (fun h=>by rw[rI] at h ⊢;exact ae6 h) ak)
 unfold Ak at this ⊢
 rw[e];exact this
theorem OD {p:az} (hg:dT p=true) {w:Int} (aM:0≤w) (bI:w<p.O.length):(∀x∈bA (nth p.O w),0≤x.sw∧x.sw<p.a5.length)∧((bA (nth p.O w)).map (·.sw)).Nodup:=by
 have hm:nth p.O w∈p.O:=dz (by omega)
 exact⟨((sh hg).aX _ hm).2.2,(n1.1 ((u7 hg).2.2.1 _ hm)).2.2.2.2.2.2.1⟩
theorem Ox {p:az} {f:Frame} {e:Event} (hf:eI p f=true) (he:ey p e=true) (hc:eH p f e=0) {k:Int} (a4:0≤k) (da:k<p.a5.length):
  (nth (fk p f e).ap k).b5=(nth f.ap k).b5∨((e.op=1∨e.op=6)∧hO p f k=false∧jV p f k=false):=by
 have cZ:=(ms hf).fr
 have ak:=cZ.ap
 unfold fk
 split
 ·rename_i h1
  obtain⟨t0,t1⟩:=mY he (.inl h1)
  have aG:=OD (ms hf).m2 t0 t1
  rcases HV (bA (nth p.O e.ah)) f.ap (k:=k) (fun x hx=>by have:=aG.1 x hx;omega) aG.2 a4 (by omega) with⟨x,hx,br,e2⟩ | ⟨_,e2⟩
  ·by_cases bh:(nth f.ap k).b5=x.bj
   ·left;exact e2.trans bh.symm
   ·right
    have hw:eA p f e.ah=0:=by unfold eH at hc;rwa [if_pos h1] at hc
    have bk:(nth f.O e.ah).aq=0:=by
     unfold eA at hw
     by_cases aT:(nth f.O e.ah).aq=0
     ·exact aT
     ·rw[if_pos aT] at hw;cases hw
    rw[afv bk,←aaR] at hw
    have aI:(iN p f e.ah).ap=[]:=List.length_eq_zero_iff.1 (by omega)
    have:=yr.1 (show ef (jw p f e.ah) p.a5.length=[] from aI) k a4 da
    have aC:jh p f e.ah k=true:=by
     unfold jh
     rw[List.any_eq_true]
     exact⟨x,hx,by simp[br,bh]⟩
    unfold jw at this
    rw[aC,Bool.true_and,Bool.or_eq_false_iff] at this
    exact⟨.inl h1,this⟩
  ·left;show(nth (h7 _ _) k).b5=_;rw[e2]
 ·split
  ·split<;>exact .inl rfl
  ·split
   ·exact .inl rfl
   ·rename_i l9 n2 o3
    split
    ·rename_i ch
     left
     by_cases jb:k=e.ah
     ·have t0:0≤e.ah:=by omega
      show(nth (f.ap.set _ _) k).b5=_
      rw[ma t0 a4 (by omega),if_pos jb,jb]
     ·have bq:0≤e.ah:=by
       unfold ey at he
       rw[if_neg (by omega),if_neg (by omega),if_pos ch,Bool.and_eq_true,iq] at he
       omega
      show(nth (f.ap.set _ _) k).b5=_
      rw[ma bq a4 (by omega),if_neg jb]
    ·split
     ·rename_i aaN cD
      have bq:0≤e.ah:=by
       unfold ey at he
       rw[if_neg (by omega),if_neg (by omega),if_neg aaN,if_pos cD,Bool.and_eq_true,iq] at he
       omega
      by_cases jb:k=e.ah
      ·right
       unfold eH at hc
       rw[if_neg l9,if_neg n2,if_pos cD,←jb] at hc
       refine⟨.inr cD,?_⟩
       cases aL:hO p f k with
       | true=>rw[if_pos aL] at hc;cases hc
       | false=>
        rw[if_neg (by rw[aL];simp)] at hc
        cases nG:jV p f k with
        | true=>rw[if_pos nG] at hc;cases hc
        | false=>exact⟨rfl,rfl⟩
      ·left
       show(nth (f.ap.set _ _) k).b5=_
       rw[ma bq a4 (by omega),if_neg jb]
     ·split<;>exact .inl rfl
theorem aaG {p:az} {f:Frame} {e:Event} (hf:eI p f=true) (he:ey p e=true) (hc:eH p f e=0) {w k:Int} (aM:0≤w) (bI:w<p.O.length) (cl: ¬(e.op=1∧w=e.ah)) (h:iT p (fk p f e) w k=true):iT p f w k=true:=by
 have hw:=(ms hf).fr.O
 have key:(nth (fk p f e).O w=nth f.O w)∨((nth f.O w).aq≠0∧((nth (fk p f e).O w).aq≠0→(nth f.O w).af.toNat≤(nth (fk p f e).O w).af.toNat)):=by
  have aS:=(G4 hf).1.held w aM (by omega)
  rcases aaH hf he hc aM (k:=w) (by omega) with q | q | ⟨_,⟨agn,q,r⟩ | ⟨ago,q⟩⟩
  ·exact .inl q
  ·left
   unfold fk
   split
   ·rename_i h1
    obtain⟨t0,t1⟩:=mY he (.inl h1)
    show nth (f.O.set _ _) w=_
    rw[ma t0 aM (by omega),if_neg (fun dS=>cl ⟨h1,dS⟩)]
   ·split
    ·rename_i l9 h2
     obtain⟨t0,t1⟩:=mY he (.inr h2)
     have jb:w≠e.ah:=fun jb=>by
      unfold eH at hc
      rw[if_neg l9,if_pos h2,←jb,if_pos (by omega)] at hc
      cases hc
     split
     ·show nth (f.O.set _ _) w=_
      rw[ma t0 aM (by omega),if_neg jb]
     ·show nth (f.O.set _ _) w=_
      rw[ma t0 aM (by omega),if_neg jb]
    ·split
     ·rfl
     ·split
      ·rfl
      ·split
       ·rfl
       ·split
        ·show nth (hD p f.O.length f.O) w=_
         rw[xQ aM (by omega),if_pos (by omega)]
         unfold kZ
         rw[if_neg (by omega)]
        ·rfl
  ·exact .inr ⟨by omega,fun _=>by rw[(aS.still (by omega)).1];simp⟩
  ·exact .inr ⟨by omega,fun _=>by rw[(aS.still (by omega)).1];simp⟩
 rcases key with q | ⟨q1,q2⟩
 ·exact Jq (by rw[q];exact id) (by rw[q];exact fun _=>Nat.le_refl _) h
 ·exact Jq (fun _=>q1) q2 h
theorem Vt {p:az} {f:Frame} {e:Event} (hf:eI p f=true) (he:ey p e=true) (hc:eH p f e=0) (h:rB p f):rB p (fk p f e):=by
 intro w k aM bI a4 da ak
 have cZ:=(ms hf).fr
 have Mh:=cZ.ap
 by_cases bq:e.op=1∧w=e.ah
 ·obtain⟨h1,rfl⟩:=bq
  have aG:=OD (ms hf).m2 aM bI
  obtain⟨x,hx,ex⟩:=(Jr ak).2
  have ua:(fk p f e).ap=h7 (bA (nth p.O e.ah)) f.ap:=by unfold fk;rw[if_pos h1]
  unfold Ak
  rw[ua]
  rcases HV (bA (nth p.O e.ah)) f.ap (k:=k) (fun y bm=>by have:=aG.1 y bm;omega) aG.2 a4 (by omega) with⟨y,bm,br,e2⟩ | ⟨br,_⟩
  ·exact⟨y,bm,br,e2.symm⟩
  ·exact absurd ex (br x hx)
 ·have Mq:=aaG hf he hc aM bI bq ak
  obtain⟨x,hx,br,e2⟩:=h w k aM bI a4 da Mq
  rcases Ox hf he hc a4 da with q | ⟨_,q,_⟩
  ·exact⟨x,hx,br,e2.trans q.symm⟩
  ·rw[afp aM bI Mq] at q;cases q
theorem Vv {p:az} {f:Frame} (e:Event) (hf:eI p f=true) (h:rB p f):rB p (mi p f e).frame:=by
 rcases Sx p f e with q | ⟨he,hc,q⟩
 ·rw[q];exact h
 ·rw[q];exact Vu (AP (ms hf).fr (mY he)).O (Vt hf he hc h)
theorem Vs {p:az} (hg:dT p=true):rB p (ei p):=by
 intro w k aM bI a4 da ak
 have h:=(Jr ak).1
 have hw:=(ms (Az hg)).fr.O
 have e:nth (ei p).O w=g8 (nth p.O w).ai.length:=by
  unfold ei
  rw[if_pos hg]
  show nth (p.O.map _) w=_
  rw[gk (by simp;omega),gk (xs:=p.O) (by omega)]
  simp
 rw[e] at h
 exact absurd rfl h
theorem K7 {code:List UInt8}: ∀v:Nat,v≤(iG code).length→rB (b4 code) (o7 code v)
 | 0,_=>Vs (Co code)
 | v+1,h=>by
  have bQ:=K7 (code:=code) v (by omega)
  have e:=He (code:=code) (v:=(v:Nat)) (by omega)
  rw[Hy (code:=code) (v:=(v:Nat)) (by omega) (by simp;omega)] at e
  have e2:((v+1:Nat):Int)=(v:Int)+1:=by omega
  rw[e2,e]
  exact Vv _ (Hf (code:=code) (v:=(v:Nat)) (by omega) (by simp;omega)) bQ
theorem still_step {p:az} {f:Frame} {e:Event} (hf:eI p f=true) {k:Int} (a4:0≤k) (da:k<p.a5.length) (h:(nth (mi p f e).frame.ap k).b5≠(nth f.ap k).b5):
  (e.op=1∨e.op=6)∧(mi p f e).code=0∧nth f.aw (nth p.a5 k)=false∧eG p f k=[]:=by
 rcases Sx p f e with q | ⟨he,hc,q⟩
 ·rw[q] at h;exact absurd rfl h
 ·have hs:=pc p (fk p f e) (fk p f e).O.length
  have ua:(mi p f e).frame.ap=(fk p f e).ap:=by rw[q];exact hs.2.2
  rw[ua] at h
  rcases Ox hf he hc a4 da with r | ⟨aC,aL,nG⟩
  ·exact absurd r h
  ·refine⟨aC,?_,nG,?_⟩
   ·unfold mi gK
    rw[if_pos he,if_neg (by rw[hc];simp)]
   ·unfold eG
    split
    ·unfold hO at aL
     have aL: ¬(((fO p f k).length:Int)>0):=by simpa using aL
     exact List.length_eq_zero_iff.1 (by omega)
    ·rfl
def rN (l:List cv) (k t:Int):Bool:=l.any fun x=>x.sw==k&&x.bj==t
theorem K6 {l:List cv} {j:Int} {k t:Int} (cq:0≤j) (e6:j.toNat<l.length):rN (l.take (j+1).toNat) k t=(rN (l.take j.toNat) k t || (((nth l j).sw==k)&&((nth l j).bj==t))):=by
 rw[show(j+1).toNat=j.toNat+1 by omega,List.take_succ_eq_append_getElem e6,gk e6]
 unfold rN
 rw[List.any_append];simp
theorem Vr {p:az} {f:Frame} {w k:Int} (h:Ak p f w k):(rN (nth p.O w).aX k (nth f.ap k).b5 || rN (nth p.O w).bx k (nth f.ap k).b5)=true:=by
 obtain⟨x,hx,br,e2⟩:=h
 rw[Bool.or_eq_true]
 rcases List.mem_append.1 hx with hx | hx
 ·exact .inl (List.any_eq_true.2 ⟨x,hx,by simp[br,e2]⟩)
 ·exact .inr (List.any_eq_true.2 ⟨x,hx,by simp[br,e2]⟩)
theorem aat {p:az} {f:Frame} {k x:Int} (h:x∈eG p f k):0≤x∧x<p.O.length∧iT p f x k=true:=by
 unfold eG at h
 split at h
 ·exact A9.1 h
 ·cases h
end Go.Proofs.Ytglpfccgmfhkdaa.Fw
set_option linter.unusedVariables false
set_option maxRecDepth 100000
set_option maxHeartbeats 4000000
set_option linter.unusedSimpArgs false
namespace Go.Proofs.Ytglpfccgmfhkdaa.Fw
open Go
attribute [local irreducible] evS evSD WpS Weak Oper.looksAt
def ado (J:Int) (M:Int) (U:Int) (al:Bool):Prop:=
 ((decide (J ≥ M))&&(decide (J≤U)))=al
theorem Iu (J:Int) (M:Int) (U:Int):b2 Try.prog 67 [ag J,ag M,ag U] (an (b3 J M U)):=(fun(h:ado J M U (b3 J M U))=>b2.run (ps:=[.int,.int,.int]) (rs:=[.bool]) (x:=(J,M,U,())) (r:=((b3 J M U),())) ⟨15,ep,[]⟩ ⟨[],[],[],[],[]⟩ .nil Try.func67 h) (by
 rfl)
def zY:eC Try.prog:=⟨67,[.int,.int,.int],[.bool],none,fun x=>((b3 x.1 x.2.1 x.2.2.1),()),fun x h=>Iu x.1 x.2.1 x.2.2.1⟩
def QW (ay:Int→Prop) (aB:Int→Nat) (aU:Int→Int→Prop) (aV:Int→Int→Nat) (J M:(List Int)) (al:Bool) (v11:Int):Prop:=
  aU v11 0∧ ∀(eW:Int),aU v11 eW→(((decide (eW<(M.length:Int)))=false→ay (IntKind.i64.wrap (v11+1))∧aB (IntKind.i64.wrap (v11+1))<aB v11)∧((decide (eW<(M.length:Int)))=true→((0≤eW∧eW.toNat<M.length)∧(((nth J v11)==(nth M eW))=true→true=al))∧((!((nth J v11)==(nth M eW)))=true→aU v11 (IntKind.i64.wrap (eW+1))∧aV v11 (IntKind.i64.wrap (eW+1))<aV v11 eW)))
def QV (J:(List Int)) (M:(List Int)) (al:Bool) (ay:Int→Prop) (aB:Int→Nat) (aU:Int→Int→Prop) (aV:Int→Int→Nat):Prop:=
 J.length≤4611686018427387904→ay 0∧ ∀(v11:Int),ay v11→(((decide (v11<(J.length:Int)))=false→false=al)∧((decide (v11<(J.length:Int)))=true→(0≤v11∧v11.toNat<J.length)∧(M.length≤4611686018427387904→QW ay aB aU aV J M al v11)))
theorem adv (J:(List Int)) (M:(List Int)):b2 Try.prog 69 [bL c_ J,bL c_ M] (an (meets J M)):=(fun(ay:Int→Prop) (aB:Int→Nat) (aU:Int→Int→Prop) (aV:Int→Int→Nat) (h:QV J M (meets J M) ay aB aU aV)=>b2.run (ps:=[(.l .int),(.l .int)]) (rs:=[.bool]) (x:=(J,M,())) (r:=((meets J M),())) ⟨26,ep,[]⟩ ⟨[],[],[],[],[]⟩ (e9 [1,9,10] [] 11 ay aB fun aM=>(e9 [1,6,9,10,11,15,16] [] 17 (aU aM) (aV aM) fun _=> .nil)) Try.func69 h) (ct J.length (fun j=>fU M (nth J j))) (cG J.length) (fun v=>ct M.length (fun k=>nth J v==nth M k)) (fun v=>cG M.length) (by
 unfold QV QW
 intro aG
 refine⟨df (dp _),fun v a0=>⟨fun hv=> ?_,fun hv=>⟨cb a0 hv,fun hm=>⟨df (dp _),fun k hK=>⟨fun hk=> ?_,fun hk=>⟨⟨cb hK hk,fun aI=> ?_⟩,fun aI=>cO (cw hm) hK hk (not_eq aI)⟩⟩⟩⟩⟩⟩
 ·exact(z_ (q:=fun x=>fU M x) a0 hv).symm
 ·exact cO (cw aG) a0 hv (WX (gO hK hk))
 ·exact(C_ (q:=fun x=>fU M x) a0 hv (WZ (cb hK hk).2 aI)).symm)
def zZ:eC Try.prog:=⟨69,[(.l .int),(.l .int)],[.bool],none,fun x=>((meets x.1 x.2.1),()),fun x h=>adv x.1 x.2.1⟩
def Qw (J:(List Int)) (M:Int) (al:Int) (ay:Int→Prop) (aB:Int→Nat):Prop:=
 J.length≤4611686018427387904→ay 0∧ ∀(c4:Int),ay c4→(((decide (c4<(J.length:Int)))=false→(-1)=al)∧((decide (c4<(J.length:Int)))=true→((0≤c4∧c4.toNat<J.length)∧((M==(nth J c4))=true→c4=al))∧((!(M==(nth J c4)))=true→ay (IntKind.i64.wrap (c4+1))∧aB (IntKind.i64.wrap (c4+1))<aB c4)))
theorem acR (J:(List Int)) (M:Int):b2 Try.prog 161 [bL c_ J,ag M] (ag (nJ J M)):=(fun(ay:Int→Prop) (aB:Int→Nat) (h:Qw J M (nJ J M) ay aB)=>b2.run (ps:=[(.l .int),.int]) (rs:=[.int]) (x:=(J,M,())) (r:=((nJ J M),())) ⟨19,ep,[]⟩ ⟨[],[],[],[],[]⟩ (e9 [0,1,7] [] 8 ay aB fun _=> .nil) Try.func161 h) (ct J.length (fun j=>M==nth J j)) (cG J.length) (by
 unfold Qw
 intro aG
 refine⟨df (dp _),fun v a0=>⟨fun hv=> ?_,fun hv=>⟨⟨cb a0 hv,fun aI=> ?_⟩,fun aI=>cO (cw aG) a0 hv (not_eq aI)⟩⟩⟩
 ·unfold nJ;rw[qb (q:=fun x=>M==x) a0 hv];rfl
 ·unfold nJ;rw[qa (q:=fun x=>M==x) a0 hv aI]
  have:=a0.1
  show v=(v.toNat:Int)
  omega)
def Qx:eC Try.prog:=⟨161,[(.l .int),.int],[.int],none,fun x=>((nJ x.1 x.2.1),()),fun x h=>acR x.1 x.2.1⟩
def Qm (J:(List Int)) (M:Int) (al:Bool):Prop:=
 (decide ((nJ J M) ≥ 0))=al
theorem acD (J:(List Int)) (M:Int):b2 Try.prog 130 [bL c_ J,ag M] (an (fU J M)):=(fun(h:Qm J M (fU J M))=>b2.run (ps:=[(.l .int),.int]) (rs:=[.bool]) (x:=(J,M,())) (r:=((fU J M),())) ⟨9,ep,[Qx]⟩ ⟨[],[],[],[],[]⟩ .nil Try.func130 h) (by
 unfold Qm
 exact Yj J M)
def CT:eC Try.prog:=⟨130,[(.l .int),.int],[.bool],none,fun x=>((fU x.1 x.2.1),()),fun x h=>acD x.1 x.2.1⟩
def Ng (J:(List Int)) (M:(List Int)) (al:Bool) (ay:Int→Prop) (aB:Int→Nat):Prop:=
 J.length≤4611686018427387904→ay 0∧ ∀(cc:Int),ay cc→(((decide (cc<(J.length:Int)))=false→false=al)∧((decide (cc<(J.length:Int)))=true→((0≤cc∧cc.toNat<J.length)∧((fU M (nth J cc))=true→true=al))∧((!(fU M (nth J cc)))=true→ay (IntKind.i64.wrap (cc+1))∧aB (IntKind.i64.wrap (cc+1))<aB cc)))
theorem Zg (J:(List Int)) (M:(List Int)):b2 Try.prog 74 [bL c_ J,bL c_ M] (an (meets J M)):=(fun(ay:Int→Prop) (aB:Int→Nat) (h:Ng J M (meets J M) ay aB)=>b2.run (ps:=[(.l .int),(.l .int)]) (rs:=[.bool]) (x:=(J,M,())) (r:=((meets J M),())) ⟨17,ep,[CT]⟩ ⟨[],[],[],[],[]⟩ (e9 [1,7,8] [] 9 ay aB fun _=> .nil) Try.func74 h) (ct J.length (fun j=>fU M (nth J j))) (cG J.length) (by
 unfold Ng
 intro aG
 refine⟨df (dp _),fun v a0=>⟨fun hv=> ?_,fun hv=>⟨⟨cb a0 hv,fun aI=> ?_⟩,fun aI=>cO (cw aG) a0 hv (not_eq aI)⟩⟩⟩
 ·exact(z_ (q:=fun x=>fU M x) a0 hv).symm
 ·exact(C_ (q:=fun x=>fU M x) a0 hv aI).symm)
def Gb:eC Try.prog:=⟨74,[(.l .int),(.l .int)],[.bool],none,fun x=>((meets x.1 x.2.1),()),fun x h=>Zg x.1 x.2.1⟩
noncomputable def acm:Code:=iE Try.f158
def HZ (J:(List cv)) (al:(List cv)):Prop:=
 (J≠[]→(J.length*16≤140737488355328∧J.length≤4611686018427387904)∧(J=al))∧(J=[]→ ∀dl:Bool,(dl=true→[]=al)∧(dl=false→(J.length*16≤140737488355328∧J.length≤4611686018427387904)∧(J=al)))
theorem acn (J:(List cv)) (al:(List cv)) (h:HZ J al):dH Try.prog 158 [bL dn J] [] (fun r H=>r=aj 0 0 al.length∧H=[⟨0,2,List.map dn al⟩]):=by
 refine dH.toOwn ?_
 unfold HZ at h
 refine dH.go (fn:=Try.f158) [(0,bL dn J)] Try.func158 (fun _ _=> ?_)
 show WpS _ (bT acm 1) _ ⟨bi 8 [(0,bL dn J)],[],[]⟩
 refine ej [] 0 [(2,aF)] [] [1] ?_
 refine hJ ?_
 refine hJ ?_
 refine bM [] 1 ?_
 refine HO 2 (some 4) [(3,bL dn J)] dn J (fun hx=> ?_) (fun hx dl=> ?_)
 ·
  replace h:=h.1 hx
  refine dY [] ?_
  refine eb.normal ?_
  refine sH (.tmp 4) false (fun q3=> ?_) (fun q3=> ?_)
  ·
   cases q3
  ·
   refine eo ?_
   refine eb.normal ?_
   obtain⟨c6,h⟩:=h
   refine j4 ⟨(bi 8 [(2,aj 0 0 J.length)]),[],[⟨0,2,List.map dn J⟩]⟩ (True) ?_ (fun q4=> ?_)
   ·
    replace h:=c6
    refine bM [] 3 ?_
    have cR:=h
    refine tt 3 (some 7) [(6,bL dn J),(5,aF)] dn J (lJ false (List.map dn J)) 0 2 16 (fun r=>[⟨0,2,r⟩]) rfl cR ?_
    exact b6 [(2,aj 0 0 J.length)] trivial
   refine hr ?_
   refine mH (aj 0 0 J.length) [aj 0 0 J.length] ?_
   exact⟨pd [some 0],qX [some 0] rfl (by decide) ⟨rfl,(ra (b:=0) (g:=0) (sz:=2) (xs:=J) (ys:=al) rfl OO h),trivial⟩,(.inr (uZ (by simp) rfl rfl (by have:=congrArg List.length h;simpa using this)))⟩
 ·
  replace h:=h.2 hx dl
  refine dY [] ?_
  refine eb.normal ?_
  refine sH (.tmp 4) dl (fun fP=> ?_) (fun fP=> ?_)
  ·
   replace h:=h.1 fP
   refine j4 ⟨(bi 8 [(2,aF)]),[],[]⟩ (True) ?_ (fun fD=> ?_)
   ·
    refine bM [] 2 ?_
    exact b6 [(2,aF)] trivial
   refine hr ?_
   refine eb.ret ?_
   refine mH (aF) [aF] ?_
   exact⟨pd [none],qX [none] rfl (by decide) ⟨rfl,trivial,trivial⟩,(.inr (G6 (by simp) rfl rfl (by rw[←h];rfl)))⟩
  ·
   replace h:=h.2 fP
   refine eo ?_
   refine eb.normal ?_
   obtain⟨iw,h⟩:=h
   refine j4 ⟨(bi 8 [(2,aj 0 0 J.length)]),[],[⟨0,2,List.map dn J⟩]⟩ (True) ?_ (fun iJ=> ?_)
   ·
    replace h:=iw
    refine bM [] 3 ?_
    have gW:=h
    refine tt 3 (some 7) [(6,bL dn J),(5,aF)] dn J (lJ false (List.map dn J)) 0 2 16 (fun r=>[⟨0,2,r⟩]) rfl gW ?_
    exact b6 [(2,aj 0 0 J.length)] trivial
   refine hr ?_
   refine mH (aj 0 0 J.length) [aj 0 0 J.length] ?_
   exact⟨pd [some 0],qX [some 0] rfl (by decide) ⟨rfl,(ra (b:=0) (g:=0) (sz:=2) (xs:=J) (ys:=al) rfl OO h),trivial⟩,(.inr (uZ (by simp) rfl rfl (by have:=congrArg List.length h;simpa using this)))⟩
theorem ack (J:(List cv)) (aI:small J):dH Try.prog 158 [bL dn J] [] (fun r H=>r=aj 0 0 (aa J).length∧H=[⟨0,2,List.map dn (aa J)⟩]):=acn J (aa J) (by
 have aI:J.length≤1048576:=aI
 unfold HZ
 refine⟨fun h=>⟨⟨by omega,by omega⟩,rfl⟩,fun h b=>⟨fun _=> ?_,fun _=>⟨⟨by omega,by omega⟩,rfl⟩⟩⟩
 exact h.symm)
noncomputable def Ni:Code:=iE Try.f123
def Zh:List Item:=[ao 0,ao 1,ao 3,ao 4,⟨2,true,false,[3,4]⟩,⟨5,true,false,[]⟩,ao 6]
def Zi:List (List Nat):=[[],[0],[0,1],[],[3],rg 0 5,rg 0 6]
def Gc (J:Way) (al:(List cv)):Prop:=
 ((small J.aX)∧(((aa J.aX).length+J.bx.length)*16≤140737488355328∧(aa J.aX).length+J.bx.length≤4611686018427387904))∧(((aa J.aX)++J.bx).length≤4611686018427387904∧((aa J.aX)++J.bx)=al)
theorem Zj (J:Way) (al:(List cv)) (h:Gc J al):b2 Try.prog 123 [.agg (dw false J)] (hl dn al):=by
 unfold Gc at h
 refine dH.go (fn:=Try.f123) [(0,.agg (dw false J))] Try.func123 (fun _ _=> ?_)
 show WpS _ (bT Ni 1) _ ⟨bi 9 [(0,.agg (dw false J))],[],[]⟩
 refine qq [] 0 [(2,aF),(1,aA 1 0)] [0,1,1] [] [(1,(dw false J))] [] ?_
 obtain⟨cR,h⟩:=h
 refine fa [(2,aj 0 1 ((aa J.aX)++J.bx).length)] [] id (fun _=>[⟨1,2,List.map dn ((aa J.aX)++J.bx)⟩]) (True) ?_ (fun q2=> ?_)
 ·
  replace h:=cR
  refine nl [] 1 Zh Zi [] ?_
  obtain⟨q3,h⟩:=h
  refine C5 5 (some 5) [(7,bL dn J.bx),(6,aA 1 2),(4,bL dn J.aX),(3,aA 1 1)] [bL dn J.aX] (fun L H=>pz Try.prog (ji Ni 6) [3,4] [(7,bL dn J.bx),(6,aA 1 2),(4,bL dn J.aX),(3,aA 1 1),(1,aA 1 0)] L H) (aj 0 0 (aa J.aX).length) [⟨0,2,List.map dn (aa J.aX)⟩] (ack J.aX q3) (aD.cons (dc.h4 cH) aD.nil) (qW (fun _=>rfl) rfl) (rh (rf (fun _=>rfl) rfl) (by kernel_rfl)) (tg (ψ:=((true=true∧true=true∧((aA 1 2:AV)=aA 1 2))∧((true=true∧true=true∧((bL dn J.bx:AV)=bL dn J.bx))∧True))) (by kernel_rfl) ⟨⟨rfl,rfl,rfl⟩,⟨⟨rfl,rfl,rfl⟩,trivial⟩⟩) ?_
  have q4:=h
  refine afc 1 (some 8) [] dn (aa J.aX) J.bx (lJ false (List.map dn J.bx)) 0 0 2 16 (fun _=>True) (fun r=>[⟨1,2,r⟩]) rfl q4 trivial ?_
  exact kY [(2,aj 0 1 ((aa J.aX)++J.bx).length)] trivial
 exact hr (nm (aj 0 1 ((aa J.aX)++J.bx).length) (ii.h4 (ri (sz:=2) (by simp) rfl (Kc) h)))
theorem Nh (J:Way) (aI:xn J):b2 Try.prog 123 [.agg (dw false J)] (hl dn (bA J)):=Zj J (bA J) (by
 obtain⟨h1,h2⟩:=aI
 unfold Gc aa small
 exact⟨⟨h1,by omega,by omega⟩,by rw[List.length_append];omega,rfl⟩)
def Gd:eC Try.prog:=⟨123,[.ki],[(.l .bj)],some fun x=>xn x.1,fun x=>((bA x.1),()),fun x h=>Nh x.1 h⟩
def ZG:List Item:=[ao 0,ao 1,ao 2,ao 3,ao 4,ao 5,ao 6,ao 7]
def ZH:List (List Nat):=[[],[],[0,1],[],[],[3,4],[3,4,5],rg 0 7]
def NB (ay:Int→Prop) (aB:Int→Nat) (J:(List Int)) (al:Bool):Prop:=
  J.length≤4611686018427387904→ay 0∧ ∀(v6:Int),ay v6→(((decide (v6<(J.length:Int)))=false→false=al)∧((decide (v6<(J.length:Int)))=true→(((0≤v6∧v6≤(J.length:Int))∧(0≤v6∧v6.toNat<J.length))∧((fU (J.take v6.toNat) (nth J v6))=true→true=al))∧((!(fU (J.take v6.toNat) (nth J v6)))=true→ay (IntKind.i64.wrap (v6+1))∧aB (IntKind.i64.wrap (v6+1))<aB v6)))
def NA (J:(List Int)) (al:Bool) (ay:Int→Prop) (aB:Int→Nat):Prop:=
 NB ay aB J al
theorem ZE (J:(List Int)):b2 Try.prog 129 [bL c_ J] (an (dup J)):=(fun(ay:Int→Prop) (aB:Int→Nat) (h:NA J (dup J) ay aB)=>b2.run (ps:=[(.l .int)]) (rs:=[.bool]) (x:=(J,())) (r:=((dup J),())) ⟨18,ep,[CT]⟩ ⟨[],[(4,ZG,ZH)],[],[],[]⟩ (e9 [0,5] [] 6 ay aB fun _=> .nil) Try.func129 h) (ct J.length (fun j=>fU (J.take j.toNat) (nth J j))) (cG J.length) (by
 unfold NA NB
 intro aG
 refine⟨df (dp _),fun v a0=>⟨fun hv=> ?_,fun hv=>⟨⟨⟨⟨a0.1,a0.2.1⟩,cb a0 hv⟩,fun aI=> ?_⟩,fun aI=>cO (cw aG) a0 hv (not_eq aI)⟩⟩⟩
 ·exact(Kz (gO a0 hv)).symm
 ·exact(UU (cb a0 hv).1 (cb a0 hv).2 aI).symm)
def ZF:eC Try.prog:=⟨129,[(.l .int)],[.bool],none,fun x=>((dup x.1),()),fun x h=>ZE x.1⟩
def QU (ay:Int→Prop) (aB:Int→Nat) (aU:Int→Int→Prop) (aV:Int→Int→Nat) (J:(List Int)) (M:Int) (al:Bool) (v10:Int):Prop:=
  ((!(b3 (nth J v10) 0 (IntKind.i64.wrap (M - 1))))=true→false=al)∧((!(!(b3 (nth J v10) 0 (IntKind.i64.wrap (M - 1)))))=true→aU v10 0∧ ∀(fq:Int),aU v10 fq→(((decide (fq<v10))=false→ay (IntKind.i64.wrap (v10+1))∧aB (IntKind.i64.wrap (v10+1))<aB v10)∧((decide (fq<v10))=true→((0≤fq∧fq.toNat<J.length)∧(((nth J fq)==(nth J v10))=true→false=al))∧((!((nth J fq)==(nth J v10)))=true→aU v10 (IntKind.i64.wrap (fq+1))∧aV v10 (IntKind.i64.wrap (fq+1))<aV v10 fq))))
def QT (J:(List Int)) (M:Int) (al:Bool) (ay:Int→Prop) (aB:Int→Nat) (aU:Int→Int→Prop) (aV:Int→Int→Nat):Prop:=
 J.length≤4611686018427387904→ay 0∧ ∀(v10:Int),ay v10→(((decide (v10<(J.length:Int)))=false→(decide ((J.length:Int)≤30))=al)∧((decide (v10<(J.length:Int)))=true→(0≤v10∧v10.toNat<J.length)∧(QU ay aB aU aV J M al v10)))
theorem adt (J:(List Int)) (M:Int) (aI:zx J M):b2 Try.prog 126 [bL c_ J,ag M] (an (hy J M)):=(fun(ay:Int→Prop) (aB:Int→Nat) (aU:Int→Int→Prop) (aV:Int→Int→Nat) (h:QT J M (hy J M) ay aB aU aV)=>b2.run (ps:=[(.l .int),.int]) (rs:=[.bool]) (x:=(J,M,())) (r:=((hy J M),())) ⟨35,ep,[zY]⟩ ⟨[33],[],[],[],[]⟩ (e9 [0,1,8,9] [] 10 ay aB fun aM=>(e9 [0,1,5,6,8,9,10] [] 7 (aU aM) (aV aM) fun _=> .nil)) Try.func126 h) (ct J.length (fun j=> !b3 (nth J j) 0 (M - 1) || fU (J.take j.toNat) (nth J j))) (cG J.length) (fun v=>ct v (fun k=>nth J k==nth J v)) (fun v=>cG v) (by
 have aI: -9223372036854775808<M∧M≤9223372036854775807:=aI
 unfold QT QU
 intro aG
 refine⟨df (dp _),fun v a0=>⟨fun hv=> ?_,fun hv=>⟨cb a0 hv,?_⟩⟩⟩
 ·exact(OC 30).trans (aam (gO a0 hv)).symm
 ·have hi:=cb a0 hv
  rw[fG (by omega) (by omega)]
  refine⟨fun h=>(Oj hi.2 h).symm,fun aK=>⟨df a0.1,fun k hK=>⟨fun hk=> ?_,fun hk=> ?_⟩⟩⟩
  ·refine cO (cw aG) a0 hv ?_
   rw[WY a0.1 (by simpa using hv) (gO hK hk),Bool.or_false]
   exact not_eq aK
  ·have jP:k<v:=by simpa using hk
   have:=hK.1
   exact⟨⟨⟨by omega,by omega⟩,fun he=>(aal hK.1 jP (by omega) he).symm⟩,fun he=>cO (by omega) hK hk (not_eq he)⟩)
def adu:eC Try.prog:=⟨126,[(.l .int),.int],[.bool],some fun x=>zx x.1 x.2.1,fun x=>((hy x.1 x.2.1),()),fun x h=>adt x.1 x.2.1 h⟩
def adr:List Item:=[ao 0,ao 1,ao 2,ao 3,ao 4,ao 5,ao 6,ao 7]
def ads:List (List Nat):=[[],[],[0,1],[0,1,2],rg 0 4,[],[5],rg 0 7]
def QR (ay:Int→Prop) (aB:Int→Nat) (aU:Int→Int→Prop) (aV:Int→Int→Nat) (M:(List cv)) (al:Bool) (v10:Int):Prop:=
  aU v10 0∧ ∀(fq:Int),aU v10 fq→(((decide (fq<v10))=false→ay (IntKind.i64.wrap (v10+1))∧aB (IntKind.i64.wrap (v10+1))<aB v10)∧((decide (fq<v10))=true→((0≤fq∧fq.toNat<M.length)∧(((nth M fq).sw==(nth M v10).sw)=true→false=al))∧((!((nth M fq).sw==(nth M v10).sw))=true→aU v10 (IntKind.i64.wrap (fq+1))∧aV v10 (IntKind.i64.wrap (fq+1))<aV v10 fq)))
def QS (ay:Int→Prop) (aB:Int→Nat) (aU:Int→Int→Prop) (aV:Int→Int→Nat) (J:az) (M:(List cv)) (al:Bool) (v10:Int):Prop:=
  (J.a5.length≤4611686018427387904→((!(b3 (nth M v10).sw 0 (IntKind.i64.wrap ((J.a5.length:Int) - 1)))) || (!(b3 (nth M v10).bj 1 2)))=true→false=al)∧((J.a5.length≤4611686018427387904)∧((!((!(b3 (nth M v10).sw 0 (IntKind.i64.wrap ((J.a5.length:Int) - 1)))) || (!(b3 (nth M v10).bj 1 2))))=true)→QR ay aB aU aV M al v10)
def QQ (J:az) (M:(List cv)) (al:Bool) (ay:Int→Prop) (aB:Int→Nat) (aU:Int→Int→Prop) (aV:Int→Int→Nat):Prop:=
 M.length≤4611686018427387904→ay 0∧ ∀(v10:Int),ay v10→(((decide (v10<(M.length:Int)))=false→(decide ((M.length:Int)≤30))=al)∧((decide (v10<(M.length:Int)))=true→(0≤v10∧v10.toNat<M.length)∧(QS ay aB aU aV J M al v10)))
theorem adp (J:az) (M:(List cv)):b2 Try.prog 127 [.agg (bg false J),bL dn M] (an (lD J M)):=(fun(ay:Int→Prop) (aB:Int→Nat) (aU:Int→Int→Prop) (aV:Int→Int→Nat) (h:QQ J M (lD J M) ay aB aU aV)=>b2.run (ps:=[.dt,(.l .bj)]) (rs:=[.bool]) (x:=(J,M,())) (r:=((lD J M),())) ⟨46,ep,[zY]⟩ ⟨[44],[(9,adr,ads)],[],[],[]⟩ (e9 [1,2,8,9] [(2,5)] 10 ay aB fun aM=>(e9 [1,2,5,6,8,9,10] [(6,2),(2,5)] 7 (aU aM) (aV aM) fun _=> .nil)) Try.func127 h) (ct M.length (fun j=>o0 J (nth M j) || zf M j)) (cG M.length) (fun v=>ct v (fun k=>(nth M k).sw==(nth M v).sw)) (fun v=>cG v) (by
 unfold QQ QS QR
 intro aG
 refine⟨df (dp _),fun v a0=>⟨fun hv=> ?_,fun hv=>⟨cb a0 hv,?_⟩⟩⟩
 ·exact(OC 30).trans (aaj (gO a0 hv)).symm
 ·have hi:=cb a0 hv
  refine⟨fun hs h=> ?_,fun⟨hs,aK⟩=>⟨df a0.1,fun k hK=>⟨fun hk=> ?_,fun hk=> ?_⟩⟩⟩
  ·rw[fG (by omega) (by omega)] at h
   exact(aak hi.2 h).symm
  ·rw[fG (by omega) (by omega)] at aK
   refine cO (cw aG) a0 hv ?_
   rw[aag a0.1 (by simpa using hv) (gO hK hk),Bool.or_false]
   exact not_eq aK
  ·have jP:k<v:=by simpa using hk
   have:=hK.1
   exact⟨⟨⟨by omega,by omega⟩,fun he=>(aai hK.1 jP (by omega) he).symm⟩,fun he=>cO (by omega) hK hk (not_eq he)⟩)
def adq:eC Try.prog:=⟨127,[.dt,(.l .bj)],[.bool],none,fun x=>((lD x.1 x.2.1),()),fun x h=>adp x.1 x.2.1⟩
def adz:List Item:=[ao 0,ao 1,ao 2,ao 3,ao 4,ao 5,ao 6,ao 7,ao 8,ao 9,ao 10]
def adA:List (List Nat):=[[],[0],[],[2],rg 0 4,rg 0 5,rg 0 6,[],[7],rg 0 9,rg 0 10]
def QZ (ay:Int→Prop) (aB:Int→Nat) (aU:Int→Int→Prop) (aV:Int→Int→Nat) (J:az) (M:Way) (al:Bool) (pk gm:Int):Prop:=
  ((decide (pk<(M.bx.length:Int)))=false→(0≤(nth M.aX gm).sw∧(nth M.aX gm).sw.toNat<J.a5.length)∧(((!(meets [(nth J.a5 (nth M.aX gm).sw)] M.ai))=true→false=al)∧((!(meets [(nth J.a5 (nth M.aX gm).sw)] M.ai))=false→ay (IntKind.i64.wrap (gm+1))∧aB (IntKind.i64.wrap (gm+1))<aB gm)))∧((decide (pk<(M.bx.length:Int)))=true→((0≤pk∧pk.toNat<M.bx.length)∧(((nth M.aX gm).sw==(nth M.bx pk).sw)=true→false=al))∧((!((nth M.aX gm).sw==(nth M.bx pk).sw))=true→aU gm (IntKind.i64.wrap (pk+1))∧aV gm (IntKind.i64.wrap (pk+1))<aV gm pk))
def Q0 (ay:Int→Prop) (aB:Int→Nat) (aU:Int→Int→Prop) (aV:Int→Int→Nat) (J:az) (M:Way) (al:Bool):Prop:=
  ((M.ai.length≤4611686018427387904→((M.ai.length:Int)==0)=false→(zx M.ai J.ai)∧((!(hy M.ai J.ai))=false→(zx M.cQ J.ai)∧((!(hy M.cQ J.ai))=false→zx M.cK J.ai)))∧(M.ai.length≤4611686018427387904→(((M.ai.length:Int)==0) || ((!(hy M.ai J.ai)) || ((!(hy M.cQ J.ai)) || ((!(hy M.cK J.ai)) || ((!(lD J M.aX)) || (!(lD J M.bx)))))))=true→false=al))∧((M.ai.length≤4611686018427387904)∧((!(((M.ai.length:Int)==0) || ((!(hy M.ai J.ai)) || ((!(hy M.cQ J.ai)) || ((!(hy M.cK J.ai)) || ((!(lD J M.aX)) || (!(lD J M.bx))))))))=true)→M.aX.length≤4611686018427387904→ay 0∧ ∀(gm:Int),ay gm→(((decide (gm<(M.aX.length:Int)))=false→(!(meets M.cQ M.ai))=al)∧((decide (gm<(M.aX.length:Int)))=true→(0≤gm∧gm.toNat<M.aX.length)∧(M.bx.length≤4611686018427387904→aU gm 0∧ ∀(pk:Int),aU gm pk→(QZ ay aB aU aV J M al pk gm)))))
def QY (J:az) (M:Way) (al:Bool) (ay:Int→Prop) (aB:Int→Nat) (aU:Int→Int→Prop) (aV:Int→Int→Nat):Prop:=
 Q0 ay aB aU aV J M al
theorem adx (J:az) (M:Way) (aI:Hh J M):b2 Try.prog 68 [.agg (bg false J),.agg (dw false M)] (an (g0 J M)):=(fun(ay:Int→Prop) (aB:Int→Nat) (aU:Int→Int→Prop) (aV:Int→Int→Nat) (h:QY J M (g0 J M) ay aB aU aV)=>b2.run (ps:=[.dt,.ki]) (rs:=[.bool]) (x:=(J,M,())) (r:=((g0 J M),())) ⟨89,ep,[adu,adq,zZ]⟩ ⟨[],[(12,adz,adA)],[],[],[]⟩ (e9 [2,3,52,53] [(3,5),(2,5)] 54 ay aB fun aM=>(e9 [2,3,6,52,53,54,59,60] [(6,2),(3,5),(2,5)] 61 (aU aM) (aV aM) fun _=> .nil)) Try.func68 h) (ct M.aX.length (fun j=>M.bx.any (fun y=>(nth M.aX j).sw==y.sw) || !(M.ai.contains (nth J.a5 (nth M.aX j).sw)))) (cG M.aX.length) (fun v=>ct M.bx.length (fun k=>(nth M.aX v).sw==(nth M.bx k).sw)) (fun v=>cG M.bx.length) (by
 unfold QY Q0 QZ
 refine⟨⟨fun _ _=>⟨aI,fun _=>⟨aI,fun _=>aI⟩⟩,fun aG h=> ?_⟩,fun⟨aG,h⟩ aL=> ?_⟩
 ·symm
  rw[←Bool.not_eq_true,n1]
  rintro⟨h1,h2,aO,bd,ch,cD,-⟩
  have aP:M.ai.length≠0:=fun e=>h1 (List.eq_nil_of_length_eq_zero e)
  simp only[h2,aO,bd,ch,cD,Bool.not_true,Bool.or_false] at h
  simp at h
  exact h1 h
 ·simp only[Bool.not_eq_true',Bool.or_eq_false_iff,Bool.not_eq_false'] at h
  obtain⟨h1,h2,aO,bd,ch,cD⟩:=h
  have h1:M.ai≠[]:=fun e=>by rw[e] at h1;simp at h1
  have Fb:=mB.1 ch
  have Xp:=mB.1 cD
  refine⟨df (dp _),fun v a0=>⟨fun hv=> ?_,fun hv=>⟨cb a0 hv,fun hf=>⟨df (dp _),fun k hK=>⟨fun hk=> ?_,fun hk=>⟨⟨cb hK hk,fun he=> ?_⟩,fun he=>cO (cw hf) hK hk (not_eq he)⟩⟩⟩⟩⟩⟩
  ·have eK:=gO a0 hv
   have bh:((bA M).map (·.sw)).Nodup:=by
    rw[Ca]
    refine⟨Fb.2.2,Xp.2.2,fun x hx y bm he=> ?_⟩
    have:=ml (q:=fun x=>M.bx.any (fun y=>x.sw==y.sw) || !(M.ai.contains (nth J.a5 x.sw))) eK x hx
    simp only[Bool.or_eq_false_iff] at this
    have:=this.1
    rw[List.any_eq_false] at this
    exact this y bm (by simpa using he)
   have hc: ∀x∈M.aX,M.ai.contains (nth J.a5 x.sw)=true:=fun x hx=>by
    have:=ml (q:=fun x=>M.bx.any (fun y=>x.sw==y.sw) || !(M.ai.contains (nth J.a5 x.sw))) eK x hx
    simp only[Bool.or_eq_false_iff] at this
    simpa using this.2
   rw[Ov,Bool.eq_iff_iff,n1]
   constructor
   ·intro hm;exact⟨h1,h2,aO,bd,ch,cD,bh,hc,by simpa using hm⟩
   ·rintro⟨-,-,-,-,-,-,-,-,hm⟩;rw[hm];rfl
  ·have b9:=Fb.2.1 _ (dz (cb a0 hv).2)
   rw[Bool.and_eq_true,iq] at b9
   refine⟨⟨b9.1.1,by omega⟩,fun hm=> ?_,fun hm=> ?_⟩
   ·symm
    rw[←Bool.not_eq_true,n1]
    rintro⟨-,-,-,-,-,-,-,hc,-⟩
    rw[uS,hc _ (dz (cb a0 hv).2)] at hm
    cases hm
   ·refine cO (cw aL) a0 hv ?_
    rw[uS] at hm
    rw[hm,Bool.or_false]
    have:=ml (q:=fun y:cv=>(nth M.aX v).sw==y.sw) (gO hK hk)
    rw[List.any_eq_false]
    intro y bm
    rw[this y bm];simp
  ·symm
   rw[←Bool.not_eq_true,n1]
   rintro⟨-,-,-,-,-,-,bh,-,-⟩
   exact(Ca.1 bh).2.2 _ (dz (cb a0 hv).2) _ (dz (cb hK hk).2) (by simpa using he))
def ady:eC Try.prog:=⟨68,[.dt,.ki],[.bool],some fun x=>Hh x.1 x.2.1,fun x=>((g0 x.1 x.2.1),()),fun x h=>adx x.1 x.2.1 h⟩
def ZK:List Item:=[ao 0,ao 1,ao 2,ao 3,ao 4,ao 5,ao 6,ao 7,ao 8,ao 9,ao 10,ao 11,ao 12,ao 13,ao 14,ao 15,ao 16]
def ZL:List (List Nat):=[[],[],[1],[1,2],rg 0 4,rg 0 5,rg 0 6,rg 0 7,rg 0 6,rg 0 6++[8],rg 0 6,rg 0 6++[10],rg 0 6++rg 8 12,rg 0 6++rg 8 13,rg 0 14,rg 0 15,rg 0 16]
def ND (J:az) (M:Way) (al:Bool) (ba:(List Int)) (f_:Int):Prop:=
  (((decide (f_<(M.aX.length:Int)))=true→0≤(nth (bA M) f_).sw∧(nth (bA M) f_).sw.toNat<J.a5.length)∧(((decide (f_<(M.aX.length:Int)))&&(!(fU M.ai (nth J.a5 (nth (bA M) f_).sw))))=true→false=al))∧((!((decide (f_<(M.aX.length:Int)))&&(!(fU M.ai (nth J.a5 (nth (bA M) f_).sw)))))=true→(ba.length+[(nth (bA M) f_).sw].length)*8≤140737488355328∧ba.length+[(nth (bA M) f_).sw].length≤4611686018427387904)
def NE (J:az) (M:Way) (al:Bool) (ba:(List Int)) (f_:Int):Prop:=
  (((decide ((nth (bA M) f_).sw<0)) || ((decide ((nth (bA M) f_).sw ≥ (J.a5.length:Int))) || (((nth (bA M) f_).bj !=1)&&((nth (bA M) f_).bj !=2))))=true→false=al)∧((!((decide ((nth (bA M) f_).sw<0)) || ((decide ((nth (bA M) f_).sw ≥ (J.a5.length:Int))) || (((nth (bA M) f_).bj !=1)&&((nth (bA M) f_).bj !=2)))))=true→ND J M al ba f_)
abbrev rl (r:Type):Type:=Int→Nat→(List Int)→Int→r
def NF (aU:rl Prop) (aV:rl Nat) (J:az) (M:Way) (al:Bool) (dk:Int) (bB:Nat) (ba:(List Int)) (f_:Int):Prop:=
  ((0≤f_∧f_.toNat<(bA M).length)∧(NE J M al ba f_))∧(((!((decide ((nth (bA M) f_).sw<0)) || ((decide ((nth (bA M) f_).sw ≥ (J.a5.length:Int))) || (((nth (bA M) f_).bj !=1)&&((nth (bA M) f_).bj !=2)))))&&(!((decide (f_<(M.aX.length:Int)))&&(!(fU M.ai (nth J.a5 (nth (bA M) f_).sw))))))=true→aU dk (bB+1) (ba++[(nth (bA M) f_).sw]) (IntKind.i64.wrap (f_+1))∧aV dk (bB+1) (ba++[(nth (bA M) f_).sw]) (IntKind.i64.wrap (f_+1))<aV dk bB ba f_)
def NG (aU:rl Prop) (aV:rl Nat) (J:az) (M:Way) (al:Bool) (dk:Int):Prop:=
  (xn M)∧((bA M).length≤4611686018427387904→aU dk 0 ([]:List Int) 0∧ ∀(bB:Nat) (ba:(List Int)) (f_:Int),aU dk bB ba f_→(((decide (f_<((bA M).length:Int)))=false→(ba.length≤4611686018427387904)∧(((!(dup ba))&&(!(meets M.ai M.cQ)))=al))∧((decide (f_<((bA M).length:Int)))=true→NF aU aV J M al dk bB ba f_)))
def NH (bw:Int→Int→Prop) (bt:Int→Int→Nat) (J:az) (M:Way) (al:Bool) (gX dk:Int):Prop:=
  ((0≤gX∧gX.toNat<(nth [M.ai,M.cQ,M.cK] dk).length)∧(((decide ((nth (nth [M.ai,M.cQ,M.cK] dk) gX)<0)) || (decide ((nth (nth [M.ai,M.cQ,M.cK] dk) gX) ≥ J.ai)))=true→false=al))∧((!((decide ((nth (nth [M.ai,M.cQ,M.cK] dk) gX)<0)) || (decide ((nth (nth [M.ai,M.cQ,M.cK] dk) gX) ≥ J.ai))))=true→bw dk (IntKind.i64.wrap (gX+1))∧bt dk (IntKind.i64.wrap (gX+1))<bt dk gX)
def NI (ay:Int→Prop) (aB:Int→Nat) (bw:Int→Int→Prop) (bt:Int→Int→Nat) (J:az) (M:Way) (al:Bool) (dk:Int):Prop:=
  ((nth [M.ai,M.cQ,M.cK] dk).length≤4611686018427387904→((decide (((nth [M.ai,M.cQ,M.cK] dk).length:Int)>30)) || (dup (nth [M.ai,M.cQ,M.cK] dk)))=true→false=al)∧(((nth [M.ai,M.cQ,M.cK] dk).length≤4611686018427387904)∧((!((decide (((nth [M.ai,M.cQ,M.cK] dk).length:Int)>30)) || (dup (nth [M.ai,M.cQ,M.cK] dk))))=true)→bw dk 0∧ ∀(gX:Int),bw dk gX→(((decide (gX<((nth [M.ai,M.cQ,M.cK] dk).length:Int)))=false→ay (IntKind.i64.wrap (dk+1))∧aB (IntKind.i64.wrap (dk+1))<aB dk)∧((decide (gX<((nth [M.ai,M.cQ,M.cK] dk).length:Int)))=true→NH bw bt J M al gX dk)))
def NJ (ay:Int→Prop) (aB:Int→Nat) (aU:rl Prop) (aV:rl Nat) (bw:Int→Int→Prop) (bt:Int→Int→Nat) (J:az) (M:Way) (al:Bool):Prop:=
  (M.ai.length≤4611686018427387904→(((M.ai.length:Int)==0) || ((decide ((M.aX.length:Int)>30)) || (decide ((M.bx.length:Int)>30))))=true→false=al)∧((M.ai.length≤4611686018427387904)∧((!(((M.ai.length:Int)==0) || ((decide ((M.aX.length:Int)>30)) || (decide ((M.bx.length:Int)>30)))))=true)→[M.ai,M.cQ,M.cK].length≤4611686018427387904→ay 0∧ ∀(dk:Int),ay dk→(((decide (dk<([M.ai,M.cQ,M.cK].length:Int)))=false→NG aU aV J M al dk)∧((decide (dk<([M.ai,M.cQ,M.cK].length:Int)))=true→(0≤dk∧dk.toNat<[M.ai,M.cQ,M.cK].length)∧(NI ay aB bw bt J M al dk))))
def NC (J:az) (M:Way) (al:Bool) (ay:Int→Prop) (aB:Int→Nat) (aU:rl Prop) (aV:rl Nat) (bw:Int→Int→Prop) (bt:Int→Int→Nat):Prop:=
 NJ ay aB aU aV bw bt J M al
theorem ZI (J:az) (M:Way):b2 Try.prog 73 [.agg (bg false J),.agg (dw false M)] (an (g0 J M)):=(fun(ay:Int→Prop) (aB:Int→Nat) (aU:rl Prop) (aV:rl Nat) (bw:Int→Int→Prop) (bt:Int→Int→Nat) (h:NC J M (g0 J M) ay aB aU aV bw bt)=>b2.run (ps:=[.dt,.ki]) (rs:=[.bool]) (x:=(J,M,())) (r:=((g0 J M),())) ⟨126,ep,[Gd,ZF,Gb,CT]⟩ ⟨[48],[(21,ZK,ZL)],[],[],[]⟩ (e9 [2,3,34,35] [(3,5),(2,5)] 36 ay aB fun aM=>(.tV (.lp [(0,9,.int)] [2,3,64,65] [(3,5),(2,5)] [.nat,(.l .int),.int] [bD 0,bD 0,66] (fun bI=>[(9,.ref 0 bI.1 bI.2.1.length false),(66,.i .i64 bI.2.2.1),(bD 0,.blk bI.1 .int bI.2.1 _ rfl)]) (fun bI=>aU aM bI.1 bI.2.1 bI.2.2.1) (fun bI=>aV aM bI.1 bI.2.1 bI.2.2.1) fun _=> .nil) (e9 [2,3,34,35,36,47,48] [(3,5),(2,5)] 49 (bw aM) (bt aM) fun _=> .nil))) Try.func73 h) (ct ([M.ai,M.cQ,M.cK].length:Int) (fun k=> !hy (nth [M.ai,M.cQ,M.cK] k) J.ai)) (cG ([M.ai,M.cQ,M.cK].length:Int)) (fun _ _ x v=>ct (bA M).length (pW J M) v∧x=((bA M).take v.toNat).map (·.sw)) (fun _ _ _ v=>cG (bA M).length v) (fun i=>ct (nth [M.ai,M.cQ,M.cK] i).length (fun j=> !b3 (nth (nth [M.ai,M.cQ,M.cK] i) j) 0 (J.ai - 1))) (fun i=>cG (nth [M.ai,M.cQ,M.cK] i).length) (by
 unfold NC NJ
 have hlen:M.aX.length≤30→M.bx.length≤30→(bA M).length≤60:=by unfold bA;rw[List.length_append];omega
 refine⟨fun aG h=> ?_,fun⟨aG,h⟩ b1=> ?_⟩
 ·symm
  rw[←Bool.not_eq_true,n1]
  rintro⟨h1,-,-,-,ch,cD,-⟩
  have:=(mB.1 ch).1
  have:=(mB.1 cD).1
  simp at h
  rcases h with h | h | h
  ·exact h1 h
  ·omega
  ·omega
 ·simp at h
  obtain⟨h1,h2,aO⟩:=h
  have h2:M.aX.length≤30:=by omega
  have aO:M.bx.length≤30:=by omega
  have af6:=hlen h2 aO
  refine⟨df (dp _),fun i a0=>⟨fun hi=> ?_,fun hi=>⟨cb a0 hi,?_⟩⟩⟩
  ·have eK: ∀l∈[M.ai,M.cQ,M.cK],hy l J.ai=true:=fun l aL=>by
    have:=ml (q:=fun l=> !hy l J.ai) (gO a0 hi) l aL
    simpa using this
   unfold NG
   refine⟨⟨by omega,by omega⟩,fun kM=>⟨⟨df (dp _),rfl⟩,fun g x v ⟨de,hx⟩=>⟨fun hv=> ?_,fun hv=> ?_⟩⟩⟩
   ·have kx: ¬v<((bA M).length:Int):=by simpa using hv
    rw[List.take_of_length_le (by have:=de.1;omega)] at hx
    subst hx
    exact⟨by rw[List.length_map];omega,Wk h1 eK h2 aO (gO de hv)⟩
   ·have b9:=cb de hv
    have qL:x.length≤60:=by rw[hx,List.length_map,List.length_take];omega
    have bad:pW J M v=true→false=g0 J M:=fun hb=>by
     symm
     rw[←Bool.not_eq_true]
     intro hg
     rw[Wm hg b9.1 b9.2] at hb
     cases hb
    unfold NF NE ND
    rw[aaf]
    refine⟨⟨b9,fun hb=>bad (by unfold pW;rw[hb];rfl),fun hb=>⟨⟨fun aL=> ?_,fun hc=>bad (by unfold pW;rw[hc,Bool.or_true])⟩,fun _=> ?_⟩⟩,fun hb=> ?_⟩
    ·have hb:o0 J (nth (bA M) v)=false:=not_eq hb
     rw[ze] at hb
     simp only[Bool.not_eq_false',Bool.and_eq_true,iq] at hb
     exact⟨hb.1.1,by omega⟩
    ·simp only[List.length_cons,List.length_nil];omega
    ·have hb:pW J M v=false:=by
      unfold pW
      rw[Bool.and_eq_true] at hb
      rw[not_eq hb.1,not_eq hb.2];rfl
     have bk:=cO (cw kM) de hv hb
     have hw:IntKind.i64.wrap (v+1)=v+1:=fG (by omega) (by omega)
     refine⟨⟨bk.1,?_⟩,bk.2⟩
     rw[hw,hx,show(v+1).toNat=v.toNat+1 by omega,List.take_succ_eq_append_getElem b9.2,List.map_append,←gk b9.2]
     rfl
  ·have yS:=cb a0 hi
   have JU:hy (nth [M.ai,M.cQ,M.cK] i) J.ai=false→false=g0 J M:=fun hb=>by
    symm
    rw[←Bool.not_eq_true]
    intro hg
    rw[Wl hg _ (dz yS.2)] at hb
    cases hb
   unfold NI NH
   refine⟨fun aG h=>JU ?_,fun⟨aG,h⟩=>⟨df (dp _),fun v mv=>⟨fun hv=> ?_,fun hv=> ?_⟩⟩⟩
   ·rw[←Bool.not_eq_true,qT]
    rintro⟨q1,-,q3⟩
    simp only[Bool.or_eq_true,decide_eq_true_eq] at h
    rcases h with h | h
    ·omega
    ·unfold dup at h;simp[q3] at h
   ·refine cO (by simp) a0 hi ?_
    simp only[Bool.not_eq_true',Bool.or_eq_false_iff,decide_eq_false_iff_not] at h
    have bh:(nth [M.ai,M.cQ,M.cK] i).Nodup:=by have:=h.2;unfold dup at this;simpa using this
    have:hy (nth [M.ai,M.cQ,M.cK] i) J.ai=true:=by
     rw[qT]
     refine⟨by omega,fun x hx=> ?_,bh⟩
     have:=ml (q:=fun x=> !b3 x 0 (J.ai - 1)) (gO mv hv) x hx
     simpa using this
    rw[this];rfl
   ·rw[HH]
    exact⟨⟨cb mv hv,fun h=>JU (Oj (cb mv hv).2 h)⟩,fun h=>cO (cw aG) mv hv (not_eq h)⟩)
def ZJ:eC Try.prog:=⟨73,[.dt,.ki],[.bool],none,fun x=>((g0 x.1 x.2.1),()),fun x h=>ZI x.1 x.2.1⟩
def Yz:List Item:=[ao 0,ao 1,ao 2,ao 3,ao 4,ao 5,ao 6,ao 7,ao 8,ao 9,ao 10,ao 11,ao 12,ao 13,ao 14,ao 15,ao 16,ao 17,ao 18,ao 19,ao 20,ao 21,ao 22,ao 23,ao 24,ao 25,ao 26,ao 27,ao 28,ao 29,ao 30,ao 31,ao 32,ao 33,ao 34,ao 35,ao 36,ao 37,ao 38,ao 39,ao 40,ao 41,ao 42,ao 43,ao 44,ao 45,ao 46,ao 47]
def YA:List (List Nat):=[[],[0],[],[0,1,2],rg 0 4,[],rg 0 6,rg 0 7,[],[8],[],[8,9,10],rg 8 12,[],rg 8 14,rg 8 15,rg 0 16,rg 0 17,rg 0 18,rg 0 18,rg 0 20,rg 0 21,rg 0 22,rg 0 23,rg 0 22,rg 0 25,rg 0 26,rg 0 22,rg 0 28,rg 0 29,rg 0 30,rg 0 31,rg 0 32,rg 0 33,rg 0 34,rg 0 33,rg 0 36,rg 0 37,rg 0 38,rg 0 33,rg 0 33++[39],rg 0 33,rg 0 33++[39,40,41],rg 0 33++rg 39 43,rg 0 33++rg 39 44,rg 0 45,rg 0 46,rg 0 47]
def MI (J:az) (al:jp) (hd fQ:Int):Prop:=
  ((0≤fQ∧fQ.toNat<J.bW.length)∧((0≤hd∧hd.toNat<(nth J.bW fQ).length)∧((0≤hd∧hd.toNat<J.bW.length)∧((0≤fQ∧fQ.toNat<(nth J.bW hd).length)∧(((nth (nth J.bW fQ) hd) !=(nth (nth J.bW hd) fQ))=false→(fQ !=hd)=true→(0≤fQ∧fQ.toNat<J.bW.length)∧((0≤hd∧hd.toNat<(nth J.bW fQ).length)∧((!(nth (nth J.bW fQ) hd))=true→(0≤fQ∧fQ.toNat<J.O.length)∧(0≤hd∧hd.toNat<J.O.length))))))))∧((((nth (nth J.bW fQ) hd) !=(nth (nth J.bW hd) fQ)) || ((fQ !=hd)&&((!(nth (nth J.bW fQ) hd))&&(meets (nth J.O fQ).ai (nth J.O hd).ai))))=true→(5=al.code)∧(fQ=al.pos))
abbrev ig (r:Type):Type:=Int→Int→Int→Int→r
abbrev hT (r:Type):Type:=Int→Int→Int→Int→Int→r
def MJ (bU:ig Prop) (bV:ig Nat) (cx:hT Prop) (cy:hT Nat) (J:az) (al:jp) (ev gY ia hd fQ:Int):Prop:=
  ((decide (hd<(J.O.length:Int)))=false→bU ev gY ia (IntKind.i64.wrap (fQ+1))∧bV ev gY ia (IntKind.i64.wrap (fQ+1))<bV ev gY ia fQ)∧((decide (hd<(J.O.length:Int)))=true→(MI J al hd fQ)∧((!(((nth (nth J.bW fQ) hd) !=(nth (nth J.bW hd) fQ)) || ((fQ !=hd)&&((!(nth (nth J.bW fQ) hd))&&(meets (nth J.O fQ).ai (nth J.O hd).ai)))))=true→cx ev gY ia fQ (IntKind.i64.wrap (hd+1))∧cy ev gY ia fQ (IntKind.i64.wrap (hd+1))<cy ev gY ia fQ hd))
abbrev dP (r:Type):Type:=Int→Int→Int→r
def MK (bw:dP Prop) (bt:dP Nat) (J:az) (al:jp) (ev gY ia:Int):Prop:=
  ((0≤ia∧ia.toNat<J.bW.length)∧((nth J.bW ia).length≤4611686018427387904→(((nth J.bW ia).length:Int) !=(J.O.length:Int))=true→(4=al.code)∧(ia=al.pos)))∧(((nth J.bW ia).length≤4611686018427387904)∧((!(((nth J.bW ia).length:Int) !=(J.O.length:Int)))=true)→bw ev gY (IntKind.i64.wrap (ia+1))∧bt ev gY (IntKind.i64.wrap (ia+1))<bt ev gY ia)
def ML (bw:dP Prop) (bt:dP Nat) (bU:ig Prop) (bV:ig Nat) (cx:hT Prop) (cy:hT Nat) (J:az) (al:jp) (ev gY ia:Int):Prop:=
  ((decide (ia<(J.bW.length:Int)))=false→bU ev gY ia 0∧ ∀(fQ:Int),bU ev gY ia fQ→(((decide (fQ<(J.O.length:Int)))=false→(0=al.code)∧(0=al.pos))∧((decide (fQ<(J.O.length:Int)))=true→cx ev gY ia fQ 0∧ ∀(hd:Int),cx ev gY ia fQ hd→(MJ bU bV cx cy J al ev gY ia hd fQ))))∧((decide (ia<(J.bW.length:Int)))=true→MK bw bt J al ev gY ia)
def MM (aU:Int→Int→Prop) (aV:Int→Int→Nat) (bw:dP Prop) (bt:dP Nat) (bU:ig Prop) (bV:ig Nat) (cx:hT Prop) (cy:hT Nat) (J:az) (al:jp) (ev gY:Int):Prop:=
  ((decide (gY<(J.O.length:Int)))=false→(J.bW.length≤4611686018427387904→((J.bW.length:Int) !=(J.O.length:Int))=true→(4=al.code)∧(0=al.pos))∧((J.bW.length≤4611686018427387904)∧((!((J.bW.length:Int) !=(J.O.length:Int)))=true)→bw ev gY 0∧ ∀(ia:Int),bw ev gY ia→(ML bw bt bU bV cx cy J al ev gY ia)))∧((decide (gY<(J.O.length:Int)))=true→((0≤gY∧gY.toNat<J.O.length)∧((!(g0 J (nth J.O gY)))=true→(3=al.code)∧(gY=al.pos)))∧((!(!(g0 J (nth J.O gY))))=true→aU ev (IntKind.i64.wrap (gY+1))∧aV ev (IntKind.i64.wrap (gY+1))<aV ev gY))
def MN (ay:Int→Prop) (aB:Int→Nat) (aU:Int→Int→Prop) (aV:Int→Int→Nat) (bw:dP Prop) (bt:dP Nat) (bU:ig Prop) (bV:ig Nat) (cx:hT Prop) (cy:hT Nat) (J:az) (al:jp) (ev:Int):Prop:=
  ((decide (ev<(J.a5.length:Int)))=false→J.O.length≤4611686018427387904→aU ev 0∧ ∀(gY:Int),aU ev gY→(MM aU aV bw bt bU bV cx cy J al ev gY))∧((decide (ev<(J.a5.length:Int)))=true→((0≤ev∧ev.toNat<J.a5.length)∧(((decide ((nth J.a5 ev)<0)) || (decide ((nth J.a5 ev) ≥ J.ai)))=true→(2=al.code)∧(ev=al.pos)))∧((!((decide ((nth J.a5 ev)<0)) || (decide ((nth J.a5 ev) ≥ J.ai))))=true→ay (IntKind.i64.wrap (ev+1))∧aB (IntKind.i64.wrap (ev+1))<aB ev))
def MO (ay:Int→Prop) (aB:Int→Nat) (aU:Int→Int→Prop) (aV:Int→Int→Nat) (bw:dP Prop) (bt:dP Nat) (bU:ig Prop) (bV:ig Nat) (cx:hT Prop) (cy:hT Nat) (J:az) (al:jp):Prop:=
  (((decide (J.ai<1)) || ((decide (J.ai>60)) || ((decide (J.dx<1)) || ((decide (J.dx>300)) || ((decide ((J.a5.length:Int)>40)) || (decide ((J.O.length:Int)>100)))))))=true→(1=al.code)∧(0=al.pos))∧((!((decide (J.ai<1)) || ((decide (J.ai>60)) || ((decide (J.dx<1)) || ((decide (J.dx>300)) || ((decide ((J.a5.length:Int)>40)) || (decide ((J.O.length:Int)>100))))))))=true→J.a5.length≤4611686018427387904→ay 0∧ ∀(ev:Int),ay ev→(MN ay aB aU aV bw bt bU bV cx cy J al ev))
def MH (J:az) (al:jp) (ay:Int→Prop) (aB:Int→Nat) (aU:Int→Int→Prop) (aV:Int→Int→Nat) (bw:dP Prop) (bt:dP Nat) (bU:ig Prop) (bV:ig Nat) (cx:hT Prop) (cy:hT Nat):Prop:=
 MO ay aB aU aV bw bt bU bV cx cy J al
theorem Yx (J:az):b2 Try.prog 26 [.agg (bg false J)] (.agg (D9 (hQ J))):=(fun(ay:Int→Prop) (aB:Int→Nat) (aU:Int→Int→Prop) (aV:Int→Int→Nat) (bw:dP Prop) (bt:dP Nat) (bU:ig Prop) (bV:ig Nat) (cx:hT Prop) (cy:hT Nat) (h:MH J (hQ J) ay aB aU aV bw bt bU bV cx cy)=>b2.run (ps:=[.dt]) (rs:=[.fault]) (x:=(J,())) (r:=((hQ J),())) ⟨166,ep,[Gb,ZJ]⟩ ⟨[81,86,96,103,109],[(29,Yz,YA)],[],[],[]⟩ (e9 [1,2,43,44] [(2,2),(1,5)] 45 ay aB fun aM=>(e9 [1,2,62,63] [(2,2),(1,5)] 64 (aU aM) (aV aM) fun bI=>(e9 [1,2,85,86] [(2,2),(1,5)] 87 (bw aM bI) (bt aM bI) fun b_=>(e9 [1,2,103] [(2,2),(1,5)] 104 (bU aM bI b_) (bV aM bI b_) fun dL=>(e9 [1,2,9,103,104,109] [(2,2),(1,5)] 110 (cx aM bI b_ dL) (cy aM bI b_ dL) fun _=> .nil))))) Try.func26 h) (ct J.a5.length (fun j=> !b3 (nth J.a5 j) 0 (J.ai - 1))) (cG J.a5.length) (fun _=>ct J.O.length (fun j=> !g0 J (nth J.O j))) (fun _=>cG J.O.length) (fun _ _=>ct J.bW.length (fun j=>decide ((nth J.bW j).length≠J.O.length))) (fun _ _=>cG J.bW.length) (fun _ _ _=>ct J.O.length (fun i=>(List.range J.O.length).any fun k=>n8 J i.toNat k)) (fun _ _ _=>cG J.O.length) (fun _ _ _ i=>ct J.O.length (fun k=>n8 J i.toNat k.toNat)) (fun _ _ _ _=>cG J.O.length) (by
 unfold MH MO
 refine⟨fun h=> ?_,fun h my=> ?_⟩
 ·have hb:kW J=false:=by
   rw[←Bool.not_eq_true,sg]
   intro hb
   simp[kW] at h
   omega
  rw[G_ hb];exact⟨rfl,rfl⟩
 ·have hb:kW J=true:=by
   rw[sg]
   simp[kW] at h
   omega
  have eg:=sg.1 hb
  refine⟨df (dp _),fun h9 pB=> ?_⟩
  unfold MN
  refine⟨fun il BD=> ?_,fun hX=> ?_⟩
  case refine_2=>
   rw[HH]
   refine⟨⟨cb pB hX,fun m5=> ?_⟩,fun fA=>cO (cw my) pB hX (not_eq fA)⟩
   rw[Pb hb (qa (q:=fun s=> !b3 s 0 (J.ai - 1)) pB hX m5)]
   have:=pB.1
   exact⟨rfl,by show h9=(h9.toNat:Int);omega⟩
  have f0:=qb (q:=fun s=> !b3 s 0 (J.ai - 1)) pB il
  refine⟨df (dp _),fun v1 pC=> ?_⟩
  unfold MM
  refine⟨fun br=> ?_,fun k_=> ?_⟩
  case refine_2=>
   refine⟨⟨cb pC k_,  fun m5=> ?_⟩,fun fA=>cO (cw BD) pC k_ (not_eq fA)⟩
   rw[Pc hb f0 (qa (q:=fun w=> !g0 J w) pC k_ m5)]
   have:=pC.1
   exact⟨rfl,by show v1=(v1.toNat:Int);omega⟩
  have f1:=qb (q:=fun w=> !g0 J w) pC br
  rw[Ha hb f0 f1]
  refine⟨fun hm cl=> ?_,fun⟨hm,cl⟩=> ?_⟩
  ·have cl:J.bW.length≠J.O.length:=by
    intro e;rw[e] at cl;simp at cl
   rw[Pa cl];exact⟨rfl,rfl⟩
  have aL:J.bW.length=J.O.length:=by
   have:(J.bW.length:Int)=J.O.length:=by simpa using cl
   omega
  refine⟨df (dp _),fun v2 oi=> ?_⟩
  unfold ML
  refine⟨fun e2=> ?_,fun hv2=> ?_⟩
  case refine_2=>
   have oU:(((nth J.bW v2).length:Int) !=(J.O.length:Int))=decide ((nth J.bW v2).length≠J.O.length):=by
    rw[Bool.eq_iff_iff];simp;omega
   unfold MK
   rw[oU]
   refine⟨⟨cb oi hv2,fun aK m5=> ?_⟩,fun⟨aK,fA⟩=>cO (cw hm) oi hv2 (not_eq fA)⟩
   rw[O9 aL (qa (q:=fun b=>decide (b.length≠J.O.length)) oi hv2 m5)]
   have:=oi.1
   exact⟨rfl,by show v2=(v2.toNat:Int);omega⟩
  have f2:=qb (q:=fun b:List Bool=>decide (b.length≠J.O.length)) oi e2
  have zK: ∀i:Int,0≤i→i<J.O.length→(nth J.bW i).length=J.O.length:=fun i i0 i1=>by
   have:=gO oi e2 i i0 (by omega)
   simpa using this
  refine⟨df (dp _),fun nr oj=>⟨fun dW=> ?_,fun BO=> ?_⟩⟩
  ·skip
   rw[G9 aL f2 (K4 fun j cq e6=>gO oj dW j cq e6)]
   exact⟨rfl,rfl⟩
  ·have wS:nr<(J.O.length:Int):=by simpa using BO
   have oT:=oj.1
   refine⟨df (dp _),fun v4 pD=> ?_⟩
   unfold MJ MI
   rw[JW oj.1 pD.1]
   have qz:=pD.1
   refine⟨fun i_=>cO (by omega) oj BO (OB fun j cq e6=>gO pD i_ j cq e6),fun y7=> ?_⟩
   have y8:v4<(J.O.length:Int):=by simpa using y7
   have fE:=zK nr oj.1 wS
   have va:=zK v4 pD.1 y8
   refine⟨⟨⟨⟨oT,by omega⟩,⟨qz,by omega⟩,⟨qz,by omega⟩,⟨oT,by omega⟩,fun _ _=>⟨⟨oT,by omega⟩,⟨qz,by omega⟩,fun _=>⟨⟨oT,by omega⟩,⟨qz,by omega⟩⟩⟩⟩,fun m5=> ?_⟩,fun fA=>cO (by omega) pD y7 (not_eq fA)⟩
   rw[O_ aL f2 (K5 oT wS (fun j cq e6=>oj.2.2 j cq e6) (JO qz y8 m5))]
   exact⟨rfl,by show nr=(nr.toNat:Int);omega⟩)
def Yy:eC Try.prog:=⟨26,[.dt],[.fault],none,fun x=>((hQ x.1),()),fun x h=>Yx x.1⟩
end Go.Proofs.Ytglpfccgmfhkdaa.Fw
