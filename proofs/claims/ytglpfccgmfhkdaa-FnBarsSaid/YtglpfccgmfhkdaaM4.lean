/- The machine, part G: code, loops, functions. -/
import Derived.Test.YtglpfccgmfhkdaaM3
set_option linter.unusedVariables false
namespace Go.Proofs.Ytglpfccgmfhkdaa.Fw
open Go
theorem Ed {ds:List Nat}: ∀(L:List (Nat×List AV)) (t:Nat),ds.contains t=true→eW (n9 ds L) t=none
 | [],t,h=>rfl
 | (k,c)::L,t,h=>by
  unfold n9
  split
  ·exact Ed L t h
  ·rename_i hk
   have:t≠k:=fun e=>by subst e;rw[h] at hk;cases hk
   simp only[eW,if_neg this];exact Ed L t h
def EP:Bool→Bool→Bool
 | _,false=>true
 | a,true=>a
theorem Lh {a b:Bool} (h:EP a b=true):b=true→a=true:=fun e=>by subst e;exact h
def ls (a b:AV):Prop:=b=a∨b= .undef∨ ∃rows full fr ny,a= .bD rows full fr∧b= .bD rows false ny∧(ny=true→fr=true)
theorem ls.Qe {w:World} {PA PF:Nat→Prop} {rows:List (List AV)} {full fr ny:Bool} {v:Value} (aI: ∀c,PF c→PA c) (hf:ny=true→fr=true) (h:bH w PA PF (.bD rows full fr) v):bH w PA PF (.bD rows false ny) v:=by
 cases h with
 | bD gl gQ hC cK fj ec=>
  refine .bD (fun c hc=> ?_) gQ (fun h=>by cases h) cK fj ec
  have:=gl c hc
  cases ny with
  | true=>rw[hf rfl] at this;exact this
  | false=>
   cases fr with
   | true=>exact aI c this
   | false=>exact this
theorem ls.v1 {E:Env} {a b:AV} {v:Value} (aI: ∀c,E.PF c→E.PA c) (h:ls a b) (hv:cN E a v):cN E b v:=by
 rcases h with rfl | rfl | ⟨rows,full,fr,ny,rfl,rfl,hf⟩
 ·exact hv
 ·exact cN.undef _ _
 ·exact ls.Qe aI hf hv
theorem ls.np {E:Env} {a b:AV} {v:Value} (aI: ∀c,E.PF c→E.PA c) (h:ls a b) (hv:V3 E a v):V3 E b v:=by
 rcases h with rfl | rfl | ⟨rows,full,fr,ny,rfl,rfl,hf⟩
 ·exact hv
 ·exact V3.undef _ _
 ·exact ls.Qe aI hf hv
theorem ls.of {a b:AV} (h:b=a∨b= .undef):ls a b:=h.imp_right .inl
theorem Weak.ad0 [cM] {T T':List AV} {L:List (Nat×List AV)} {H:List Blk} (aL:T'.length=T.length) (h: ∀t,ls (T.getD t .undef) (T'.getD t .undef)):Weak ⟨T,L,H⟩ ⟨T',L,H⟩:=fun cz E tmps g s=>
 ⟨E,rfl,g,s.h,s.l,fun t=>(h t).np s.h.e0 (s.iA t),by show T'.length=_;rw[aL];exact s.size⟩
theorem Weak.cells [cM] {T:List AV} {L L':List (Nat×List AV)} {H:List Blk} (b3: ∀t cells,eW L t=some cells→ ∃g3,eW L' t=some g3∧g3.length=cells.length∧ ∀(i:Nat) (a:AV),g3[i]?=some a→ ∃b,cells[i]?=some b∧ls b a):Weak ⟨T,L,H⟩ ⟨T,L',H⟩:=fun cz E tmps g s=>
 ⟨E,rfl,g,s.h,fun t c hm=>by
  obtain⟨cells,ba,ty,q1,q2,q3⟩:=s.l t c hm
  obtain⟨g3,fs,fX,fw⟩:=b3 t cells q1
  refine⟨g3,ba,ty,fs,q2,by rw[fX];exact q3.1,fun i a v a4 hv=> ?_⟩
  obtain⟨b,hb,q⟩:=fw i a a4
  exact q.v1 s.h.e0 (q3.2 i b v hb hv),s.iA,s.size⟩
theorem agA [cM] {T T':List AV} {L L':List (Nat×List AV)} {H:List Blk} (aL:T'.length=T.length) (cj: ∀t,ls (T.getD t .undef) (T'.getD t .undef)) (ds:List Nat) (aI:T'.all (o6 ds)=true)
  (b3: ∀t cells,ds.contains t=false→eW L t=some cells→ ∃g3,eW L' t=some g3∧g3.length=cells.length∧ ∀(i:Nat) (a:AV),g3[i]?=some a→ ∃b,cells[i]?=some b∧ls b a):Weak ⟨T,L,H⟩ ⟨T',L',H⟩:=by
 refine(Weak.ad0 aL cj).trans ((Weak.n9 ds aI).trans (Weak.cells fun t cells h=> ?_))
 cases bu:ds.contains t with
 | true=>rw[Ed L t bu] at h;cases h
 | false=>rw[AX L t bu] at h;exact b3 t cells bu h
theorem Oy (l:List (Nat×TV)) (k:Nat) (d:TV):(∃v,(k,v)∈l∧fW l k d=v)∨fW l k d=d:=by
 induction l with
 | nil=>exact .inr rfl
 | cons p r bS=>
  obtain⟨a,w⟩:=p
  rw[gJ]
  by_cases e:a=k
  ·subst e;exact .inl ⟨w,List.mem_cons_self ..,if_pos rfl⟩
  ·rw[if_neg e]
   rcases bS with⟨v,h1,h2⟩ | h
   ·exact .inl ⟨v,List.mem_cons_of_mem _ h1,h2⟩
   ·exact .inr h
theorem DQ (s:TS) (v:Nat): ∀(c m:Nat),(hW s v c m).length=m
 | _,0=>rfl
 | c,m+1=>by rw[hW,List.length_cons,DQ s v (c+1) m]
theorem AP (s:TS) (v:Nat): ∀(m c i:Nat),(cS (hW s v c m))[i]?=if i<m then some (s.get (eG v (c+i))).bE else none
 | 0,c,i=>by simp[hW,cS]
 | m+1,c,i=>by
  rw[hW,cS]
  cases i with
  | zero=>simp
  | succ i=>
   rw[List.getElem?_cons_succ,AP s v m (c+1) i,show c+1+i=c+(i+1) by omega]
   by_cases h:i<m
   ·rw[if_pos h,if_pos (by omega)]
   ·rw[if_neg h,if_neg (by omega)]
theorem C5 [FZ] (n:Nat) (s:TS):s.aJ n=⟨(s.aJ n).T,(s.aJ n).L,(s.aJ n).H⟩:=rfl
theorem Td [cM] [FZ] {n:Nat} {s S:TS} (dc:iv S=iv s) (cj: ∀t,t<n→ls (s.get t).bE (S.get t).bE) (ds:List Nat) (aI:(S.aJ n).T.all (o6 ds)=true)
  (hv: ∀v m,ds.contains v=false→kP s.vs v=some m→kP S.vs v=some m∧ ∀c,ls (s.get (eG v c)).bE (S.get (eG v c)).bE)
  (hb:S.br=s.br) (dW: ∀b,b<s.br→(S.get (bC b)).eo=(s.get (bC b)).eo):Weak (s.aJ n) (S.aJ n):=by
 have aV:(S.aJ n).H=(s.aJ n).H:=by
  show S.gu++g5 S=s.gu++g5 s
  have e2:g5 S=g5 s:=by unfold g5;rw[dc]
  rw[e2]
  congr 1
  apply List.ext_getElem?
  intro b
  rw[qe,qe,hb]
  by_cases h:b<s.br
  ·rw[if_pos h,if_pos h,dW b h]
  ·rw[if_neg h,if_neg h]
 rw[C5 n s,C5 n S,aV]
 refine agA (by show((List.range n).map _).length=((List.range n).map _).length;simp) (fun t=> ?_) ds aI fun t cells bu h=> ?_
 ·rw[z9,z9]
  by_cases h:t<n
  ·rw[if_pos h,if_pos h];exact cj t h
  ·rw[if_neg h,if_neg h];exact .inl rfl
 ·rw[vu] at h
  cases hm:kP s.vs t with
  | none=>rw[hm] at h;cases h
  | some m=>
   rw[hm] at h
   cases h
   obtain⟨q1,q2⟩:=hv t m bu hm
   refine⟨cS (hW S t 0 m),by rw[vu,q1];rfl,?_,fun i a a4=> ?_⟩
   ·show(cS _).length=(cS _).length
    rw[n4,n4,List.length_map,List.length_map,DQ,DQ]
   ·rw[AP] at a4 ⊢
    by_cases hi:i<m
    ·rw[if_pos hi] at a4 ⊢
     cases a4
     exact⟨_,rfl,q2 (0+i)⟩
    ·rw[if_neg hi] at a4;cases a4
theorem abG (l:List AV):l.all (o6 [])=true:=by
 have aU: ∀a,uW [] a=true:=fun a=>by cases a<;>rfl
 have h1: ∀a,tc [] a=true:=fun a=>by
  unfold tc
  split
  ·exact List.all_eq_true.2 fun x _=>aU x
  ·exact aU _
 have h2: ∀a,td [] a=true:=fun a=>by
  unfold td
  split
  ·exact List.all_eq_true.2 fun x _=>h1 x
  ·exact h1 _
 have aP: ∀a,o6 [] a=true:=fun a=>by
  unfold o6
  split
  ·exact List.all_eq_true.2 fun x _=>h2 x
  ·exact h2 _
 exact List.all_eq_true.2 fun x _=>aP x
theorem Fits.le [FZ] {s S:TS} (h:s.gN S) (f:Fits s):Fits S:=f.congr fun k h1 h2=>(h.get k).resolve_right fun q=>by
 rcases q with q | q
 ·have:=q.1;omega
 ·have:=q.1;omega
theorem agB [cM] [FZ] {n:Nat} (aF:n≤1000000) {s S:TS} (h:s.gN S):Weak (s.aJ n) (S.aJ n):=by
 have J9: ∀k,¬k<1000000→S.get k=s.get k∨(1000010≤k∧JN (s.get k) (S.get k)):=fun k hk=>(h.get k).imp_right fun q=>q.resolve_left fun q=>hk q.1
 have yR: ∀k,¬k<1000000→(S.get k).bE=(s.get k).bE∧(S.get k).eo=(s.get k).eo:=fun k hk=>by
  rcases J9 k hk with e | ⟨_,g,c,c',bA,e2,dV⟩
  ·rw[e];exact⟨rfl,rfl⟩
  ·rw[bA,e2]
   refine⟨rfl,?_⟩
   show Blk.mk g c'.length [cS c']=Blk.mk g c.length [cS c]
   have aL:c'.length=c.length:=by have:=congrArg List.length dV;rwa [n4,n4,List.length_map,List.length_map] at this
   rw[dV,aL]
 have aO:S.get dL=s.get dL:=(J9 dL (by unfold dL;omega)).resolve_right fun q=>by have:=q.1;unfold dL at this;omega
 refine Td (Ck aO) (fun t bu=> ?_) [] (abG _) (fun v m _ hm=>⟨by rw[h.vs];exact hm,fun c=> .inl (yR _ (by unfold eG;omega)).1⟩) h.br fun b _=>(yR _ (by unfold bC;omega)).2
 rcases h.get t with e | ⟨_,e⟩ | ⟨e,_⟩
 ·exact .inl (by rw[e])
 ·exact .of e
 ·omega
inductive lq:Type 1 where
 | nil
 | px (a b:lq)
 | lp (lX:List (Nat×Nat×bI)) (fh:List Nat) (k8:List (Nat×Nat)) (kD:List bI) (rd:List Nat) (hY:c7 kD→List (Nat×TV)) (I:c7 kD→Prop) (m:c7 kD→Nat) (b:c7 kD→lq)
def lq.fst:lq→lq
 | .px a _=>a
 | a=>a
def lq.snd:lq→lq
 | .px _ b=>b
 | a=>a
def DA:(kD:List bI)→(c7 kD→aW)→aW
 | [],F=>F ()
 | e::r,F=> .all e.T fun x=>DA r fun y=>F (x,y)
theorem JT {R:Exit→TS→Prop}: ∀{kD:List bI} {F:c7 kD→aW},(DA kD F).den R→ ∀v,(F v).den R
 | [],F,h,()=>h
 | e::r,F,h,(x,y)=>JT (h x) y
def HR:(e:bI)→TV→(e.T→aW)→aW
 | .int,v,K=>(match v with
  | .i _ m=>K m
  | _=> .no)
 | .u64,v,K=>(match v with
  | .i _ m=>K m
  | _=> .no)
 | .bool,v,K=>(match v with
  | .b x=>K x.den
  | _=> .no)
 | .str,v,K=>(match v with
  | .s x=>K x
  | _=> .no)
 | .nat,v,K=>(match v with
  | .blk g _ _ _ _=>K g
  | _=> .no)
 | .db,v,K=>(match v with
  | .eI _ c=>K (bI.mk .db (oV bI.db.kN c))
  | _=> .no)
 | .l e,v,K=>(match v with
  | .l d_ xs _ _=>if h:d_=e then K (l1 h xs) else .no
  | .blk _ d_ xs _ _=>if h:d_=e then K (l1 h xs) else .no
  | .nil _ _=>K []
  | _=> .no)
 | _,_,_=> .no
def CN (s:TS):(kD:List bI)→List Nat→(c7 kD→aW)→aW
 | [],_,K=>K ()
 | e::r,k::B8,K=>HR e (s.get k) fun x=>CN s r B8 fun y=>K (x,y)
 | _,_,_=> .no
theorem acN {R:Exit→TS→Prop} {e:bI} {v:TV} {K:e.T→aW} (h:(HR e v K).den R): ∃x,(K x).den R:=by
 cases e with
 | int=>
  have h:(match v with
   | .i _ m=>K m
   | _=>aW.no).den R:=h
  split at h
  ·exact⟨_,h⟩
  ·exact h.elim
 | u64=>
  have h:(match v with
   | .i _ m=>K m
   | _=>aW.no).den R:=h
  split at h
  ·exact⟨_,h⟩
  ·exact h.elim
 | bool=>
  have h:(match v with
   | .b x=>K x.den
   | _=>aW.no).den R:=h
  split at h
  ·exact⟨_,h⟩
  ·exact h.elim
 | str=>
  have h:(match v with
   | .s x=>K x
   | _=>aW.no).den R:=h
  split at h
  ·exact⟨_,h⟩
  ·exact h.elim
 | nat=>
  have h:(match v with
   | .blk g _ _ _ _=>K g
   | _=>aW.no).den R:=h
  split at h
  ·exact⟨_,h⟩
  ·exact h.elim
 | db=>
  have h:(match v with
   | .eI _ c=>K (bI.mk .db (oV bI.db.kN c))
   | _=>aW.no).den R:=h
  split at h
  ·exact⟨_,h⟩
  ·exact h.elim
 | l e=>
  have h:(match v with
   | .l d_ xs _ _=>if h:d_=e then K (l1 h xs) else aW.no
   | .blk _ d_ xs _ _=>if h:d_=e then K (l1 h xs) else aW.no
   | .nil _ _=>K []
   | _=>aW.no).den R:=h
  split at h
  ·split at h
   ·exact⟨_,h⟩
   ·exact h.elim
  ·split at h
   ·exact⟨_,h⟩
   ·exact h.elim
  ·exact⟨_,h⟩
  ·exact h.elim
 | _=>exact h.elim
theorem HS {R:Exit→TS→Prop} {s:TS}: ∀{kD:List bI} {B8:List Nat} {K:c7 kD→aW},(CN s kD B8 K).den R→ ∃v,(K v).den R
 | [],_,K,h=>⟨(),h⟩
 | e::r,k::B8,K,h=>by
  obtain⟨x,h⟩:=acN (show(HR e (s.get k) _).den R from h)
  obtain⟨y,h⟩:=HS h
  exact⟨(x,y),h⟩
 | e::r,[],K,h=>h.elim
def DT (s:TS) (k:Nat) (w:TV) (t:aW):aW:=match w with
 | .ref b g m f=>(match s.get k with
  | .ref ct dK fB Bc=>(match s.get (bC b) with
   | .blk _ _ xs OJ _=> .eq ct b (.eq Bc f (.eq dK g (.eq fB OJ (.eq m xs.length t))))
   | _=> .no)
  | _=> .no)
 | .blk g e xs _ _=>(match s.get k with
  | .blk dK d_ vG _ _=>if h:d_=e then .eq dK g (.eq (l1 h vG) xs t) else .no
  | _=> .no)
 | .b y=>(match s.get k with
  | .b x=> .eq x.den y.den t
  | _=> .no)
 | .eI g c=>(match s.get k with
  | .eI dK c'=> .eq dK g (.eq (cS c') (cS c) (.eq c'.length c.length t))
  | _=> .no)
 | .l e xs eD fr=>(match eD with
  | true=> .eq (s.get k) (.l e xs true fr) t
  | false=>match s.get k with
   | .l d_ vG _ ny=>if h:d_=e then .eq (EP ny fr) true (.eq (l1 h vG) xs t) else .no
   | .nil _ ny=> .eq (EP ny fr) true (.eq [] xs t)
   | _=> .no)
 | w=> .eq (s.get k) w t
def B6:TV→Bool
 | .blk _ _ _ _ _=>true
 | .eI _ _=>true
 | .kz _ _ _=>true
 | _=>false
def GK:TV→Bool
 | .g4 _ _ _ _=>true
 | .new _ _=>true
 | _=>false
theorem UH [FZ] {R:Exit→TS→Prop} {s:TS} {k:Nat} {w:TV} {t:aW} (h:(DT s k w t).den R):(ls (s.get k).bE w.bE∧(B6 w=true→w.eo=(s.get k).eo)∧(GK w=true→s.get k=w))∧t.den R:=by
 unfold DT at h
 split at h
 ·split at h
  ·rename_i ct dK fB Bc hk
   split at h
   ·rename_i bw hX xs OJ aL hb
    obtain⟨h1,h2,aP,a8,cs,cT⟩:=h
    subst h1;subst h2;subst aP;subst a8;subst cs
    refine⟨⟨.inl ?_,(fun q=>by cases q),fun q=>by cases q⟩,cT⟩
    rw[hk,aL]
   ·exact h.elim
  ·exact h.elim
 ·split at h
  ·rename_i dK d_ vG fB qM hk
   split at h
   ·rename_i he
    subst he
    obtain⟨h1,h2,aP⟩:=h
    subst h1
    have h2:vG=_:=h2
    subst h2
    refine⟨⟨.inl ?_,fun _=> ?_,fun q=>by cases q⟩,aP⟩<;>rw[hk]<;>rfl
   ·exact h.elim
  ·exact h.elim
 ·split at h
  ·rename_i y _ x hk
   obtain⟨h1,h2⟩:=h
   refine⟨⟨.inl ?_,(fun q=>by cases q),fun q=>by cases q⟩,h2⟩
   rw[hk];show AV.bool y.den= .bool x.den;rw[h1]
  ·exact h.elim
 ·split at h
  ·rename_i dK c' hk
   obtain⟨h1,h2,aP,a8⟩:=h
   refine⟨⟨.inl (by rw[hk];rfl),fun _=> ?_,fun q=>by cases q⟩,a8⟩
   rw[hk]
   show(⟨_,_,_⟩:Blk)=⟨_,_,_⟩
   rw[h1,h2,aP]
  ·exact h.elim
 ·split at h
  ·obtain⟨h1,h2⟩:=h
   exact⟨⟨.inl (by rw[h1]),(fun _=>by rw[h1]),fun _=>h1⟩,h2⟩
  ·split at h
   ·rename_i d_ vG W3 ny hk
    split at h
    ·rename_i he
     subst he
     obtain⟨h1,h2,aP⟩:=h
     have h2:vG=_:=h2
     subst h2
     exact⟨⟨.inr (.inr ⟨_,_,_,_,by rw[hk];rfl,rfl,Lh h1⟩),(fun q=>by cases q),fun q=>by cases q⟩,aP⟩
    ·exact h.elim
   ·rename_i W3 ny hk
    obtain⟨h1,h2,aP⟩:=h
    subst h2
    exact⟨⟨.inr (.inr ⟨[],_,_,_,by rw[hk];rfl,rfl,Lh h1⟩),(fun q=>by cases q),fun q=>by cases q⟩,aP⟩
   ·exact h.elim
 ·obtain⟨h1,h2⟩:=h
  exact⟨⟨.inl (by rw[h1]),(fun _=>by rw[h1]),fun _=>h1⟩,h2⟩
def DU (s:TS):List (Nat×TV)→aW→aW
 | [],t=>t
 | (k,w)::r,t=>DT s k w (DU s r t)
theorem Kr [FZ] {R:Exit→TS→Prop} {s:TS} {t:aW}: ∀{l:List (Nat×TV)},(DU s l t).den R→(∀k w,(k,w)∈l→ls (s.get k).bE w.bE∧(B6 w=true→w.eo=(s.get k).eo)∧(GK w=true→s.get k=w))∧t.den R
 | [],h=>⟨(fun k w h=>by cases h),h⟩
 | (k,w)::r,h=>by
  obtain⟨h1,h2⟩:=UH h
  obtain⟨aP,a8⟩:=Kr h2
  refine⟨fun kK w' hm=> ?_,a8⟩
  rcases List.mem_cons.1 hm with e | hm
  ·cases e;exact h1
  ·exact aP kK w' hm
def C7 (vs:List (Nat×Nat)):List (Nat×Nat)→Bool
 | []=>true
 | (v,m)::r=>(match kP vs v with
  | some fB=>Nat.beq m fB
  | none=>false)&&C7 vs r
def Ay (s:TS):Nat→Bool
 | 0=>true
 | b+1=>B6 (s.get (bC b))&&Ay s b
def v_ (k8:List (Nat×Nat)):List (Nat×Nat)→List Nat
 | []=>[]
 | (v,_)::r=>match(kP k8 v).isSome with
  | true=>v_ k8 r
  | false=>v::v_ k8 r
def Fl (s S:TS) (t:aW):aW:=
 .eq (C7 s.vs S.vs) true (.eq (Nat.beq S.br s.br) true (.eq (Ay S s.br) true (.eq (S.T.all fun p=>o6 (v_ S.vs s.vs) p.2.bE) true (.eq (iv S) (iv s) (DU s S.T t)))))
theorem G6: ∀{l:List (Nat×Nat)} {v m:Nat},kP l v=some m→(v,m)∈l
 | [],_,_,h=>by cases h
 | (k,fB)::r,v,m,h=>by
  unfold kP at h
  split at h
  ·rename_i hk;cases h;rw[Nat.eq_of_beq_eq_true hk];exact List.mem_cons_self ..
  ·exact List.mem_cons_of_mem _ (G6 h)
theorem Ee {k8:List (Nat×Nat)}: ∀{l:List (Nat×Nat)} {v m:Nat},(v_ k8 l).contains v=false→(v,m)∈l→(kP k8 v).isSome=true
 | [],_,_,_,h=>by cases h
 | (k,fB)::r,v,m,bj,h=>by
  unfold v_ at bj
  split at bj
  ·rename_i hk
   rcases List.mem_cons.1 h with e | h
   ·cases e;exact hk
   ·exact Ee bj h
  ·rename_i hk
   simp only[List.contains_cons,Bool.or_eq_false_iff] at bj
   rcases List.mem_cons.1 h with e | h
   ·cases e;simp at bj
   ·exact Ee bj.2 h
theorem SU {vs:List (Nat×Nat)}: ∀{l:List (Nat×Nat)},C7 vs l=true→ ∀v m,(v,m)∈l→kP vs v=some m
 | [],_,_,_,h=>by cases h
 | (k,fB)::r,hs,v,m,h=>by
  simp only[C7,Bool.and_eq_true] at hs
  rcases List.mem_cons.1 h with e | h
  ·cases e
   have h1:=hs.1
   split at h1
   ·rename_i bn hm;rw[hm,Nat.eq_of_beq_eq_true h1]
   ·cases h1
  ·exact SU hs.2 v m h
theorem JS {s:TS}: ∀{n:Nat},Ay s n=true→ ∀b,b<n→B6 (s.get (bC b))=true
 | 0,_,b,h=>by omega
 | n+1,hs,b,h=>by
  simp only[Ay,Bool.and_eq_true] at hs
  rcases Nat.lt_or_ge b n with q | q
  ·exact JS hs.2 b q
  ·have:b=n:=by omega
   subst this;exact hs.1
theorem LN [cM] [FZ] {n:Nat} {s S:TS} {t:aW} {R:Exit→TS→Prop} (dW:S.B=[]) (aO:Fits s) (h:(Fl s S t).den R):Weak (s.aJ n) (S.aJ n)∧Fits S∧t.den R:=by
 obtain⟨h1,h2,aP,a8,dc,cs⟩:=h
 obtain⟨cT,gk⟩:=Kr cs
 have wM:=Nat.eq_of_beq_eq_true h2
 have hp: ∀k,(∃v,(k,v)∈S.T∧S.get k=v)∨S.get k= .u:=fun k=>by
  unfold TS.get;rw[dW];exact Oy ..
 have LK: ∀k,ls (s.get k).bE (S.get k).bE:=fun k=>by
  rcases hp k with⟨v,hm,e⟩ | e
  ·rw[e];exact(cT k v hm).1
  ·rw[e];exact .inr (.inl rfl)
 have wR: ∀k,GK (S.get k)=true→s.get k=S.get k:=fun k hk=>by
  rcases hp k with⟨v,hm,e⟩ | e
  ·rw[e] at hk ⊢;exact(cT k v hm).2.2 hk
  ·rw[e] at hk;cases hk
 have XD:Fits S:=fun V ids pZ h' lC=>by
  have e:=wR dL (by rw[lC];rfl)
  obtain⟨q1,q2,q3⟩:=aO V ids pZ h' (by rw[e,lC])
  exact⟨q1,q2,fun id xs kF=>q3 id xs (by rw[wR gd (by rw[kF];rfl),kF])⟩
 refine⟨Td dc (fun t _=>LK t) (v_ S.vs s.vs) ?_ (fun v m bj hm=> ?_) wM (fun b hb=> ?_),XD,gk⟩
 ·rw[List.all_eq_true]
  intro a a4
  obtain⟨k,_,rfl⟩:=List.mem_map.1 (show a∈(List.range n).map fun t=>(S.get t).bE from a4)
  rcases hp k with⟨v,hm,e⟩ | e
  ·rw[e];exact List.all_eq_true.1 a8 (k,v) hm
  ·rw[e];rfl
 ·have hs:=Ee bj (G6 hm)
  cases aj:kP S.vs v with
  | none=>rw[aj] at hs;cases hs
  | some fB=>
   have:=SU h1 v fB (G6 aj)
   rw[hm] at this
   cases this
   exact⟨rfl,fun c=>LK _⟩
 ·have hi:=JS aP b hb
  rcases hp (bC b) with⟨v,hm,e⟩ | e
  ·rw[e] at hi ⊢;exact(cT _ v hm).2.1 hi
  ·rw[e] at hi;cases hi
def Ba (s:TS):Nat→Nat→List (Nat×TV)
 | _,0=>[]
 | b,k+1=>(bC b,s.get (bC b))::Ba s (b+1) k
def mY (s S:TS):TS:=⟨S.T++Ba s S.br (s.br - S.br),[],S.vs,s.br⟩
def PS (n:Nat):TV→Bool
 | .eI _ c=>(cS c).all (qa n)
 | .kz _ _ _=>false
 | _=>true
def Ky (j6:Option Nat) (S:TS) (m:Nat):Bool:=match j6 with
 | some k=>Nat.ble k S.br&&Nat.ble S.br m&&iv S&&S.T.all fun p=>xC S.br p.2.bE&&PS S.br p.2
 | none=>false
def toHead (j6:Option Nat) (s S:TS) (t:aW):aW:=match Nat.beq S.br s.br with
 | true=>Fl s S t
 | false=>Fl s (mY s S) (.eq (mY s S).cw S.cw (.eq (Ky j6 S s.br) true t))
theorem K1 (s:TS): ∀(k b:Nat) (j:Nat),(j<bC b)→ ∀v,(j,v) ∉ Ba s b k
 | 0,b,j,h,v,hm=>by cases hm
 | k+1,b,j,h,v,hm=>by
  rcases List.mem_cons.1 hm with e | hm
  ·cases e;exact absurd h (Nat.lt_irrefl _)
  ·exact K1 s k (b+1) j (by unfold bC at h ⊢;omega) v hm
theorem agD {s S:TS} (dW:S.B=[]) {j:Nat} (h:j<bC S.br):(mY s S).get j=S.get j:=by
 show fW (S.T++Ba s S.br (s.br - S.br)) j (fW [] j .u)=fW S.T j (fW S.B j .u)
 rw[sc,dW,tb (K1 s _ _ j h)]
theorem Vl {n:Nat} (fr:Bool) (e:bI) (x:e.T):(cb fr e x).all (qa n)=true:=by cases e<;>rfl
theorem acY {n:Nat} {a:AV} (h:xC n a=true):qa n a=true:=by cases a<;>first | exact h | rfl
theorem toHead_sound [iW:cM] [FZ] {n:Nat} (aF:n≤1000000) {j6:Option Nat} (gm: ∀k,j6=some k→iW.n≤k) {s S:TS} {t:aW} {R:Exit→TS→Prop} (dW:S.B=[]) (aO:Fits s) (h:(toHead j6 s S t).den R):Weak (s.aJ n) (S.aJ n)∧Fits S∧t.den R:=by
 unfold toHead at h
 split at h
 ·exact LN dW aO h
 ·obtain⟨w,hf,i_,h1,h2⟩:=LN (n:=n) (S:=mY s S) rfl aO h
  unfold Ky at h1
  split at h1
  ·rename_i k
   simp only[Bool.and_eq_true] at h1
   obtain⟨⟨⟨q1,q2⟩,q3⟩,q4⟩:=h1
   have q1:=Nat.le_of_ble_eq_true q1
   have q2:=Nat.le_of_ble_eq_true q2
   have hg: ∀j,j<bC S.br→(mY s S).get j=S.get j:=fun j h=>agD dW h
   have BD: ∀b,b<S.br→bC b<bC S.br:=fun b h=>by unfold bC;omega
   have Zg:dL<bC S.br:=by unfold dL bC;omega
   have Yx:iv (mY s S)=true:=by rw[Ck (hg dL Zg)];exact q3
   have eT:(mY s S).tT n=S.tT n:=List.map_congr_left fun t bu=>by rw[hg t (by have:=List.mem_range.1 bu;unfold bC;omega)]
   have hp: ∀k,(∃v,(k,v)∈S.T∧S.get k=v)∨S.get k= .u:=fun k=>by
    unfold TS.get;rw[dW];exact Oy ..
   have FH: ∀k,xC S.br (S.get k).bE=true∧PS S.br (S.get k)=true:=fun k=>by
    rcases hp k with⟨v,hm,e⟩ | e
    ·have:=List.all_eq_true.1 q4 _ hm
     rw[Bool.and_eq_true] at this
     rw[e];exact this
    ·rw[e];exact⟨rfl,rfl⟩
   have aV: ∀b,((mY s S).aJ n).H[b]?=if b<s.br then some ((mY s S).get (bC b)).eo else none:=fun b=>by
    show((mY s S).gu++g5 (mY s S))[b]?=_
    have:g5 (mY s S)=[]:=by unfold g5;rw[Yx]
    rw[this,List.append_nil,qe];rfl
   have KB:=Weak.cut (T:=S.tT n) (L:=S.cw) (H:=((mY s S).aJ n).H) S.br (Nat.le_trans (gm k rfl) q1) (fun t=> ?_) (fun t cells hc=> ?_) (fun b blk hb yR row aK=> ?_)
   ·have bA:(mY s S).aJ n=⟨S.tT n,S.cw,((mY s S).aJ n).H⟩:=by rw[←eT,←i_];rfl
    have e2:(⟨S.tT n,S.cw,((mY s S).aJ n).H.take S.br⟩:St)=S.aJ n:=by
     show _=(⟨S.tT n,S.cw,S.gu++g5 S⟩:St)
     have:g5 S=[]:=by unfold g5;rw[q3]
     rw[this,List.append_nil]
     congr 1
     apply List.ext_getElem?
     intro b
     rw[List.getElem?_take,aV,qe]
     by_cases hb:b<S.br
     ·rw[if_pos hb,if_pos (by omega),if_pos hb,hg _ (BD b hb)]
     ·rw[if_neg hb,if_neg hb]
    rw[bA] at w
    rw[e2] at KB
    exact⟨w.trans KB,hf.congr fun k h1 h2=>(hg k (by unfold bC;omega)).symm,h2⟩
   ·have:=z9 (n:=n) (s:=S) t
    have this:(S.tT n).getD t .undef=_:=this
    rw[this]
    split
    ·exact(FH t).1
    ·rfl
   ·have:=vu (n:=n) (s:=S) t
    have this:eW S.cw t=_:=this
    rw[this] at hc
    cases hm:kP S.vs t with
    | none=>rw[hm] at hc;cases hc
    | some m=>
     rw[hm] at hc
     cases hc
     rw[List.all_eq_true]
     intro a a4
     obtain⟨i,hi⟩:=List.mem_iff_getElem?.1 a4
     rw[AP] at hi
     split at hi
     ·cases hi;exact acY (FH _).1
     ·cases hi
   ·rw[aV,if_pos (by omega),hg _ (BD b hb)] at yR
    cases yR
    have aj:=(FH (bC b)).2
    revert aK aj
    cases S.get (bC b) with
    | blk g e xs m h=>
     intro aK _
     obtain⟨x,_,rfl⟩:=List.mem_map.1 (show row∈xs.map (cb true e) from aK)
     exact Vl true e x
    | eI g c=>
     intro aK aj
     rw[List.mem_singleton.1 (show row∈[cS c] from aK)];exact aj
    | kz g m ids=>intro _ aj;cases aj
    | _=>intro aK _;cases aK
  ·cases h1
def vR (n:Nat):List (Nat×Nat×bI)→TS→(TS→aW)→aW
 | [],s,K=>K s
 | p::r,s,K=>
  let s1:=s.gO s.br (s.br+1) (.blk 0 p.2.2 [] 0 rfl)
  match p.1 with
  | 0=> .eq (r9 (cP n s (.tmp p.2.1)).bE) true (.eq s1.cw s.cw (.eq (iv s) true (vR n r (kt n s1 (some p.2.1) (.ref s.br 0 0 false)) K)))
  | v+1=>
   let s2:=s1.add [(eG v p.2.1,.ref s.br 0 0 false)] s1.vs s1.br
   match kP s.vs v with
   | some m=> .eq (r9 ((cS (hW s v 0 m)).getD p.2.1 .undef)) true (.eq s2.cw (lg s.cw v ((cS (hW s v 0 m)).set p.2.1 (.ref s.br 0 0 0 false))) (.eq (pw [(eG v p.2.1,.ref s.br 0 0 false)]) true (.eq (iv s) true (vR n r s2 K))))
   | none=> .no
theorem Ax [cM] [FZ] {n:Nat} (aF:n≤1000000) {R:Exit→TS→Prop} {K:TS→aW}: ∀{l:List (Nat×Nat×bI)} {s:TS},Fits s→(vR n l s K).den R→ ∃s',Weak (s.aJ n) (s'.aJ n)∧Fits s'∧(K s').den R
 | [],s,aO,h=>⟨s,.refl _,aO,h⟩
 | (p,q,e)::r,s,aO,h=>by
  unfold vR at h
  simp only at h
  split at h
  ·obtain⟨h1,h2,dc,h⟩:=h
   obtain⟨s',w,hf,h⟩:=Ax aF (zE aF (qw aO)) h
   refine⟨s',Weak.trans ?_ w,hf,h⟩
   have cj:(cP n s (.tmp q)).bE=(s.aJ n).T.getD q .undef:=(congrFun (k9 n s) (.tmp q)).symm
   rw[cj] at h1
   have:=Weak.TM q e.mb (L:=(s.aJ n).L) (H:=(s.aJ n).H) h1
   rw[zF aF]
   show Weak _ ⟨putA ((s.gO s.br (s.br+1) _).tT n) _ _,(s.gO s.br (s.br+1) _).cw,((s.gO s.br (s.br+1) _).aJ n).H⟩
   rw[qv aF,h2,AK dc]
   rw[C6 dc] at this
   exact this
  ·rename_i v
   split at h
   ·rename_i m hm
    obtain⟨h1,h2,dW,dc,h⟩:=h
    obtain⟨s',w,hf,h⟩:=Ax aF (yd dW (qw aO)) h
    refine⟨s',Weak.trans ?_ w,hf,h⟩
    have:=Weak.tU v q e.mb (T:=(s.aJ n).T) (H:=(s.aJ n).H) (show eW (s.aJ n).L v=some (cS (hW s v 0 m)) by rw[vu,hm];rfl) h1
    rw[C6 dc] at this
    show Weak _ ⟨(TS.add _ _ _ _).tT n,(TS.add _ _ _ _).cw,((TS.add _ _ _ _).aJ n).H⟩
    rw[h2,yc aF dW,qv aF]
    have dV:=yb (n:=n) (s:=s.gO s.br (s.br+1) (.blk 0 e [] 0 rfl)) (vs:=(s.gO s.br (s.br+1) (.blk 0 e [] 0 rfl)).vs) dW
    rw[dV,AK dc]
    exact this
   ·exact h.elim
theorem Vk {e:bI} (h:e.o8=true) (x:e.T): ∀a∈cb true e x,jD a=true∧od a=true:=by
 have key:(cb true e x).all (fun a=>jD a&&od a)=true:=by cases e<;>first | rfl | cases h
 intro a a4
 have:=List.all_eq_true.1 key a a4
 rwa [Bool.and_eq_true] at this
theorem agt (e:bI) (x:e.T):(cb true e x).map kw=cb false e x:=by
 rw[←qB,←qB]
 have key: ∀(es:List bI) (y:c7 es),(l4 true es y).map kw=l4 false es y:=by
  intro es
  induction es with
  | nil=>intro y;rfl
  | cons e r bS=>
   intro y
   show kw (oU true e y.1)::(l4 true r y.2).map kw=_
   rw[bS,l4]
   congr 1
   cases e<;>rfl
 exact key _ _
def yB (j6:Option Nat) (n:Nat):List (Nat×Nat)→TS→(TS→aW)→aW
 | [],s,K=>K s
 | p::r,s,K=>match s.get (match p.1 with
   | 0=>p.2
   | v+1=>eG v p.2) with
  | .ref b g m _=>(match j6 with
   | some k=>(match Nat.ble k b with
    | true=>rH s b g fun e xs fB h=>
     let s1:=s.gO b s.br (.blk (g+1) e [] 0 rfl)
     match p.1 with
     | 0=> .eq (Nat.blt p.2 n) true (.eq fB m (.eq e.o8 true (.eq s1.cw s.cw (.p (xs.length≤4611686018427387904) (yB j6 n r (kt n s1 (some p.2) (.l e xs false true)) K)))))
     | v+1=>
      let s2:=s1.add [(eG v p.2,.l e xs false true)] s1.vs s1.br
      match kP s.vs v with
      | some hQ=> .eq (Nat.blt p.2 hQ&&pw [(eG v p.2,TV.l e xs false true)]) true (.eq fB m (.eq e.o8 true (.eq s2.cw (lg s.cw v ((cS (hW s v 0 hQ)).set p.2 (TV.l e xs false true).bE)) (.p (xs.length≤4611686018427387904) (yB j6 n r s2 K)))))
      | none=> .no
    | false=> .no)
   | none=> .no)
  | _=> .no
theorem ES [iW:cM] [FZ] {n:Nat} (aF:n≤1000000) {j6:Option Nat} (gm: ∀k,j6=some k→iW.n≤k) {R:Exit→TS→Prop} {K:TS→aW}: ∀{l:List (Nat×Nat)} {s:TS},Fits s→(yB j6 n l s K).den R→ ∃s',Weak (s.aJ n) (s'.aJ n)∧Fits s'∧(K s').den R
 | [],s,aO,h=>⟨s,.refl _,aO,h⟩
 | (p,q)::r,s,aO,h=>by
  unfold yB at h
  simp only at h
  split at h
  ·rename_i b g m eD pP
   split at h
   ·rename_i k
    split at h
    ·rename_i BD
     have LG:=Nat.le_trans (gm k rfl) (Nat.le_of_ble_eq_true BD)
     obtain⟨e,xs,fB,hm,h,hb,aV⟩:=vV (n:=n) h
     have gz: ∀row∈xs.map (cb true e),e.o8=true→ ∀a∈row,jD a=true∧od a=true:=fun row aK aC a a4=>by
      obtain⟨x,_,rfl⟩:=List.mem_map.1 aK
      exact Vk aC x a a4
     have qQ:(xs.map (cb true e)).map (fun row=>row.map kw)=xs.map (cb false e):=by
      rw[List.map_map];exact List.map_congr_left fun x _=>agt e x
     cases p with
     | zero=>
      obtain⟨aU,h1,h2,aP,a8,h⟩:=h
      replace pP:s.get q= .ref b g m eD:=pP
      obtain⟨s',w,hf,h⟩:=ES aF gm (zE aF (qw aO)) h
      refine⟨s',Weak.trans ?_ w,hf,h⟩
      have aj:q<n:=by rw[Nat.blt_eq] at aU;exact aU
      have cj:(s.aJ n).T.getD q .undef= .ref b g 0 m eD:=by
       rw[z9,if_pos aj,pP];rfl
      have:=Weak.W2 q (L:=(s.aJ n).L) cj (by rw[List.length_map,←h1];exact hm.symm) aV LG (fun row aK a a4=>gz row aK h2 a a4) (by rw[List.length_map];exact a8)
      rw[qQ] at this
      rw[zF aF]
      show Weak _ ⟨putA ((s.gO b s.br _).tT n) _ _,(s.gO b s.br _).cw,((s.gO b s.br _).aJ n).H⟩
      rw[qv aF,aP,tY hb]
      exact this
     | succ v=>
      replace pP:s.get (eG v q)= .ref b g m eD:=pP
      simp only at h
      split at h
      ·rename_i hQ rX
       obtain⟨aU,h1,h2,aP,a8,h⟩:=h
       rw[Bool.and_eq_true,Nat.blt_eq] at aU
       obtain⟨s',w,hf,h⟩:=ES aF gm (yd aU.2 (qw aO)) h
       refine⟨s',Weak.trans ?_ w,hf,h⟩
       have hc:eW (s.aJ n).L v=some (cS (hW s v 0 hQ)):=by rw[vu,rX];rfl
       have cj:(cS (hW s v 0 hQ)).getD q .undef= .ref b g 0 m eD:=by
        rw[List.getD_eq_getElem?_getD,AP,if_pos aU.1,Nat.zero_add,pP];rfl
       have:=Weak.W1 v q (T:=(s.aJ n).T) hc cj (by rw[List.length_map,←h1];exact hm.symm) aV LG (fun row aK a a4=>gz row aK h2 a a4) (by rw[List.length_map];exact a8)
       rw[qQ] at this
       show Weak _ ⟨(TS.add _ _ _ _).tT n,(TS.add _ _ _ _).cw,((TS.add _ _ _ _).aJ n).H⟩
       have dV:=yb (n:=n) (s:=s.gO b s.br (.blk (g+1) e [] 0 rfl)) (vs:=(s.gO b s.br (.blk (g+1) e [] 0 rfl)).vs) aU.2
       rw[aP,yc aF aU.2,qv aF,dV,tY hb]
       exact this
      ·exact h.elim
    ·exact h.elim
   ·exact h.elim
  ·exact h.elim
def NN (k:Nat):List (Nat×TV)→Bool
 | []=>false
 | p::r=>match Nat.beq p.1 k with
  | true=>true
  | false=>NN k r
def GQ (s:TS) (hY:List (Nat×TV)):List Nat→List (Nat×TV)
 | []=>[]
 | k::r=>match NN k hY with
  | true=>GQ s hY r
  | false=>(k,s.get k)::GQ s hY r
def Tb (v:Nat):Nat→Nat→List Nat
 | _,0=>[]
 | c,m+1=>eG v c::Tb v (c+1) m
def NW:List (Nat×Nat)→List Nat
 | []=>[]
 | p::r=>Tb p.1 0 p.2++NW r
def Kf:Nat→List Nat
 | 0=>[]
 | b+1=>bC b::Kf b
def eP (fh:List Nat) (k8:List (Nat×Nat)) (k:Nat) (I:Int→Prop) (m:Int→Nat) (b:Int→lq):lq:= .lp [] fh k8 [.int] [k] (fun v=>[(k,.i .i64 v.1)]) (fun v=>I v.1) (fun v=>m v.1) fun v=>b v.1
def aW.Bb:aW→Bool
 | .kM ex _=>(match ex with
  | .normal=>false
  | _=>true)
 | .hI | .no | .all _ _=>false
 | .p _ t | .j3 _ t | .eq _ _ t=>t.Bb
 | .jc _ _ x y | .two x y | .hP x _ _ y=>(match x.Bb with
  | true=>true
  | false=>y.Bb)
def uj:Code→Bool
 | .loop _=>true
 | .seq x y=>uj x || uj y
 | .cond _ x y=>uj x || uj y
 | .block _ x=>uj x
 | .scope x=>uj x
 | _=>false
def Es (jN:List (List (Nat×TV)×List (Nat×TV))) (t:aW):aW:=match jN with
 | []=>t
 | p::r=> .eq p.1 p.2 (Es r t)
theorem KN {R:Exit→TS→Prop} {t:aW}: ∀{jN:List (List (Nat×TV)×List (Nat×TV))},(Es jN t).den R→(∀p∈jN,p.1=p.2)∧t.den R
 | [],h=>⟨(fun p h=>by cases h),h⟩
 | p::r,h=>by
  obtain⟨h1,h2⟩:=h
  obtain⟨aP,a8⟩:=KN h2
  exact⟨fun q aj=>by
   rcases List.mem_cons.1 aj with rfl | aj
   ·exact h1
   ·exact aP q aj,a8⟩
structure vM (P:Program) where
 len:List Nat
 U1:List (Nat×List Item×List (List Nat))
 pf:List (sA P)
 Df:List (lr P)
 PH:List (Nat×List (Nat×Nat)×List (Nat×Nat×bI))
def Cd:List (Nat×List Item×List (List Nat))→Nat→(List Item→List (List Nat)→aW)→aW
 | [],_,_=> .no
 | p::r,id,K=>match Nat.beq p.1 id with
  | true=>K p.2.1 p.2.2
  | false=>Cd r id K
def G5:List (Nat×List (Nat×Nat)×List (Nat×Nat×bI))→Nat→List (Nat×Nat)×List (Nat×Nat×bI)
 | [],_=>([],[])
 | p::r,id=>match Nat.beq p.1 id with
  | true=>p.2
  | false=>G5 r id
section
variable {P:Program} (cf:hl P) (eA:vM P) (j6:Option Nat)
def yT (s:TS) (fh:List Nat) (k8:List (Nat×Nat)) (hY:List (Nat×TV)):TS:=⟨hY++GQ s hY (fh++(NW k8++(dL::Kf s.br))),[],k8,s.br⟩
def kc:Code→TS→lq→(Exit→TS→lq→aW)→aW
 | .skip,s,a,K=>K .normal s a
 | .ret,s,a,K=>K .ret s a
 | .exit id,s,a,K=>K (.exit id) s a
 | .region id ops draw,s,a,K=>yB j6 cf.n (G5 eA.PH id).1 s fun s=>vR cf.n (G5 eA.PH id).2 s fun s=>(match draw with
  | false=>CS cf ⟨eA.len,eA.pf,eA.Df⟩ ops ops.toList s fun s=>K .normal s a
  | true=>Cd eA.U1 id fun ord kd=>Eb cf ⟨eA.len,eA.pf,eA.Df⟩ ops ord kd s fun s=>K .normal s a)
 | .seq x y,s,a,K=>(match uj x with
  | true=>kc x s a fun ex s a=>match ex with
   | .normal=>kc y s a K
   | ex=>K ex s a
  | false=>match(kc x s a fun ex s _=> .kM ex s).m9 with
   | .some S jN=>Es jN (.hP ((kc x s a fun ex s _=> .kM ex s).bind fun ex s=>match ex with
    | .normal=> .hI
    | ex=>K ex s a.fst) (kc x s a fun ex s _=> .kM ex s).facts (kc x s a fun ex s _=> .kM ex s).lz (kc y S (match(kc x s a fun ex s _=> .kM ex s).Bb with
    | true=>a.snd
    | false=>a) K))
   | _=>kc x s a fun ex s a=>match ex with
    | .normal=>kc y s a K
    | ex=>K ex s a)
 | .cond c x y,s,a,K=>(match cP cf.n s c with
  | .b z=>C2 z s fun b s=>match b with
   | true=>kc x s a.fst K
   | false=>kc y s a.snd K
  | _=> .no)
 | .block id c,s,a,K=>kc c s a fun ex s a=>match ex with
  | .exit gA=>(match Nat.beq gA id with
   | true=>K .normal s a
   | false=>K (.exit gA) s a)
  | ex=>K ex s a
 | .loop c,s,a,K=>(match a with
  | .lp lX fh k8 kD rd hY I m b=>vR cf.n lX s fun s=>CN s kD rd fun hr=>toHead j6 s (yT s fh k8 (hY hr)) (.p (I hr) (DA kD fun v=> .j3 (I v) (kc c (yT s fh k8 (hY v)) (b v) fun ex s' a=>match ex with
   | .normal=>CN s' kD rd fun e9=>toHead j6 s' (yT s fh k8 (hY e9)) (.p (I e9∧m e9<m v) .hI)
   | ex=>K ex s' a)))
  | _=> .no)
 | _,_,_,_=> .no
end
section
variable {P:Program} {cf:hl P} {eA:vM P}
theorem abA {R:Exit→TS→Prop} {l:List (Nat×List Item×List (List Nat))} {id:Nat} {K:List Item→List (List Nat)→aW} (h:(Cd l id K).den R): ∃o A,(K o A).den R:=by
 induction l with
 | nil=>exact h.elim
 | cons p r bS=>
  unfold Cd at h
  split at h
  ·exact⟨_,_,h⟩
  ·exact bS h
theorem U2 [cM] (aF:cf.n≤1000000) {eA:qk P} {R:Exit→TS→Prop} {ops:Array Oper} {ord:List Item} {kd:List (List Nat)} {s:TS} {K:TS→aW} {Q:Exit→St→Prop} {id:Nat} (hK: ∀s (Z:FZ),(K s).den R→ @Fits Z s→Q .normal (@TS.aJ Z cf.n s)) (Z:FZ) (aO:Fits s) (h:(Eb cf eA ops ord kd s K).den R):WpS P (.region id ops true) Q (s.aJ cf.n):=by
 unfold Eb at h
 simp only at h
 split at h
 ·exact h.elim
 ·rename_i hb
  obtain⟨h1,h2,aP,a8,cs,gk,oh,h⟩:=h
  rw[C5]
  refine WpS.P0 (esc:=[]) ord kd h1 h2 aP rfl _ gk oh ?_
  have:=P5 aF (Kp:=fun T L H=>Q .normal ⟨T,L,H⟩) (fun s Z hs hf=>hK s Z hs hf) ord Z _ (yd hb aO) a8 h
  rw[cs,yb hb,yc aF hb] at this
  exact this
theorem Te [iW:cM] (aF:cf.n≤1000000) {j6:Option Nat} (gm: ∀k,j6=some k→iW.n≤k): ∀(c:Code) {R:Exit→TS→Prop} {s:TS} {a:lq} {K:Exit→TS→lq→aW} {Q:Exit→St→Prop},(∀ex s a (Z:FZ),(K ex s a).den R→ @Fits Z s→Q ex (@TS.aJ Z cf.n s))→ ∀Z:FZ,@Fits Z s→(kc cf eA j6 c s a K).den R→WpS P c Q (@TS.aJ Z cf.n s):=by
 intro c
 induction c with
 | skip=>intro R s a K Q hK Z aO h;exact WpS.skip (hK _ _ _ Z h aO)
 | ret=>intro R s a K Q hK Z aO h;exact WpS.ret (hK _ _ _ Z h aO)
 | exit id=>intro R s a K Q hK Z aO h;exact WpS.exit (hK _ _ _ Z h aO)
 | region id ops draw=>
  intro R s a K Q hK Z aO h
  obtain⟨s1,bx,uJ,h⟩:=ES aF gm aO h
  obtain⟨s2,ch,uK,h⟩:=Ax aF uJ h
  refine WpS.mq ?_ (bx.trans ch)
  cases draw with
  | false=>
   rw[C5]
   refine WpS.P1 (esc:=[]) rfl ?_
   exact HY aF (Kp:=fun T L H=>Q .normal ⟨T,L,H⟩) (fun s Z hs hf=>hK _ s _ Z hs hf) ops.toList Z s2 uK h
  | true=>
   obtain⟨ord,kd,h⟩:=abA h
   exact U2 aF (fun s Z hs hf=>hK _ s _ Z hs hf) Z uK h
 | cond c x y h5 hO=>
  intro R s a K Q hK Z aO h
  unfold kc at h
  split at h
  ·rename_i z qS
   obtain⟨s',bA,e2,h⟩:=Jf (n:=cf.n) h
   have hf:=aO.congr fun k _ _=>e2 k
   rw[←bA]
   have hc:cv (s'.aJ cf.n).T c= .bool z.den:=by
    rw[bA,congrFun (k9 cf.n s) c]
    show(cP cf.n s c).bE=_
    rw[qS];rfl
   refine WpS.cond ?_
   rw[hc]
   refine⟨fun hb=> ?_,fun hb=> ?_⟩
   ·rw[hb] at h;exact h5 hK Z hf h
   ·rw[hb] at h;exact hO hK Z hf h
  ·exact h.elim
 | block id c bS=>
  intro R s a K Q hK Z aO h
  refine WpS.block (bS (K:=fun ex s a=>match ex with
   | .exit gA=>(match Nat.beq gA id with
    | true=>K .normal s a
    | false=>K (.exit gA) s a)
   | ex=>K ex s a) (fun ex s a Z hs hf=> ?_) Z aO h)
  cases ex with
  | exit gA=>
   show if gA=id then _ else _
   have hs:(match Nat.beq gA id with
    | true=>K .normal s a
    | false=>K (.exit gA) s a).den R:=hs
   split at hs
   ·rename_i hb;rw[if_pos (Nat.eq_of_beq_eq_true hb)];exact hK _ _ _ Z hs hf
   ·rename_i hb
    rw[if_neg fun e=>by subst e;rw[Nat.beq_refl] at hb;cases hb];exact hK _ _ _ Z hs hf
  | _=>exact hK _ _ _ Z hs hf
 | seq x y Mt Mu=>
  intro R s a K Q hK Z aO h
  have Kx:(kc cf eA j6 x s a fun ex s a=>match ex with
   | .normal=>kc cf eA j6 y s a K
   | ex=>K ex s a).den R→WpS P (.seq x y) Q (s.aJ cf.n):=fun h=>by
   refine WpS.seq (Mt (fun ex s a Z hs hf=> ?_) Z aO h)
   cases ex with
   | normal=>exact Mu hK Z hf hs
   | _=>exact hK _ _ _ Z hs hf
  unfold kc at h
  split at h
  ·exact Kx h
  ·split at h
   ·rename_i S jN hm
    obtain⟨aj,h⟩:=KN h
    obtain⟨h1,h2⟩:=h
    rw[aW.T8] at h1
    have aP:=aW.abM hm aj h1
    refine WpS.seq (Mt (K:=fun ex s _=> .kM ex s) (fun ex s' io Z hs hf=> ?_) Z aO aP)
    have hs:_∧(ex= .normal→s'.gN S∧_∧_):=hs
    cases ex with
    | normal=>
     obtain⟨q1,q2,q3⟩:=hs.2 rfl
     exact WpS.mq (Mu hK Z (hf.le q1) (h2 (Vz q3 q2))) (agB aF q1)
    | _=>exact hK _ _ _ Z hs.1 hf
   ·exact Kx h
 | loop c bS=>
  intro R s a K Q hK Z aO h
  unfold kc at h
  split at h
  ·rename_i lX fh k8 kD rd hY I m b
   obtain⟨s1,bx,uJ,h⟩:=Ax aF aO h
   obtain⟨hr,h⟩:=HS h
   obtain⟨ch,uK,h⟩:=toHead_sound (n:=cf.n) aF gm rfl uJ h
   obtain⟨aU,h⟩:=h
   have hv:=JT h
   refine WpS.OA (V:=c7 kD×FZ) (fun v=> @TS.aJ v.2 cf.n (yT s1 fh k8 (hY v.1))) (fun v=>I v.1∧ @Fits v.2 (yT s1 fh k8 (hY v.1))) (fun v=>m v.1) rfl (hr,Z) (bx.trans ch) ⟨aU,uK⟩ fun v aX=> ?_
   refine bS (fun ex s' a Z' hs hf=> ?_) v.2 aX.2 (hv v.1 aX.1)
   cases ex with
   | normal=>
    obtain⟨e9,hs⟩:=HS hs
    obtain⟨eB,Bx,hs⟩:=toHead_sound (n:=cf.n) aF gm rfl hf hs
    exact⟨(e9,Z'),⟨hs.1.1,Bx⟩,hs.1.2,eB⟩
   | _=>exact hK _ _ _ Z' hs hf
  ·exact h.elim
 | _=>intro R s a K Q hK Z aO h;exact h.elim
end
def u5:(e:bI)→e.T→TV
 | .ptr e,x=> .dA e x 0
 | .iq f .unit,_=> .fn f []
 | .iq f e,x=> .fn f [u5 e x]
 | e,x=>match e.isS with
  | true=> .agg (gI false e x)
  | false=>Af false e x
theorem O_: ∀(e:bI) (x:e.T),(u5 e x).bE=oa e x:=by
 have bF: ∀(e:bI) (x:e.T),(match e.isS with
  | true=>TV.agg (gI false e x)
  | false=>Af false e x).bE=match e.isS with
  | true=> .agg (cb false e x)
  | false=>oU false e x:=fun e x=>by
  cases e.isS with
  | true=>show AV.agg (cS _)=_;rw[v5]
  | false=>exact Jv false e x
 intro e
 induction e with
 | iq f e bS=>
  intro x
  have key:u5 (.iq f e) x= .fn f [u5 e x]→oa (.iq f e) x= .fn f [oa e x]→(u5 (.iq f e) x).bE=oa (.iq f e) x:=fun h1 h2=>by
   rw[h1,h2,←bS x];rfl
  cases e with
  | unit=>rfl
  | _=>exact key rfl rfl
 | ptr e bS=>intro x;rfl
 | _=>intro x;exact bF _ x
def u6:Nat→(es:List bI)→c7 es→List (Nat×TV)
 | _,[],_=>[]
 | i,e::r,x=>(i,u5 e x.1)::u6 (i+1) r x.2
def pV (ps:List bI) (x:c7 ps):TS:=⟨u6 0 ps x,[],[],0⟩
theorem Pa: ∀(es:List bI) (x:c7 es) (i t:Nat),(fW (u6 i es x) t .u).bE=if t<i then .undef else(ob es x).getD (t - i) .undef
 | [],x,i,t=>by
  show AV.undef=_
  split<;>simp[ob]
 | e::r,x,i,t=>by
  rw[u6,gJ,ob]
  by_cases h:i=t
  ·subst h
   rw[if_pos rfl,if_neg (by omega),Nat.sub_self,O_];rfl
  ·rw[if_neg h,Pa r x.2 (i+1) t]
   by_cases h2:t<i
   ·rw[if_pos (by omega),if_pos h2]
   ·rw[if_neg (by omega),if_neg h2,show t - i=(t - (i+1))+1 by omega];rfl
theorem KJ: ∀(es:List bI) (x:c7 es),(ob es x).length=es.length
 | [],_=>rfl
 | e::r,x=>by rw[ob,List.length_cons,List.length_cons,KJ r]
theorem NQ (ps:List bI) (x:c7 ps) (h:ps.length≤1000000):iv (pV ps x)=true:=by
 have key: ∀(es:List bI) (y:c7 es) (i:Nat),i+es.length≤1000000→ ∀v,(dL,v) ∉ u6 i es y:=by
  intro es
  induction es with
  | nil=>intro y i _ v hv;cases hv
  | cons e r bS=>
   intro y i hi v hv
   simp only[List.length_cons] at hi
   rcases List.mem_cons.1 hv with e | hv
   ·injection e with e _;unfold dL at e;omega
   ·exact bS y.2 (i+1) (by omega) v hv
 unfold iv
 have:(pV ps x).get dL= .u:=by
  show fW (u6 0 ps x) dL (fW [] dL .u)=_
  rw[tb (key ps x 0 (by omega))];rfl
 rw[this]
theorem aaX [FZ] {fn:Func} {ps:List bI} {x:c7 ps} (h:ps.length≤fn.ntmps) (aL:ps.length≤1000000):zf fn (ob ps x) []=(pV ps x).aJ fn.ntmps:=by
 have cj:ob ps x++List.replicate (fn.ntmps - (ob ps x).length) AV.undef=((pV ps x).aJ fn.ntmps).T:=by
  apply List.ext_getElem?
  intro t
  show _=((List.range fn.ntmps).map fun t=>((pV ps x).get t).bE)[t]?
  rw[List.getElem?_map]
  rcases Nat.lt_or_ge t fn.ntmps with aL | aL
  ·rw[List.getElem?_range aL]
   show _=some (fW (u6 0 ps x) t .u).bE
   rw[Pa,if_neg (by omega),Nat.sub_zero]
   rcases Nat.lt_or_ge t (ob ps x).length with h1 | h1
   ·rw[List.getElem?_append_left h1,List.getD_eq_getElem?_getD,List.getElem?_eq_getElem h1];rfl
   ·rw[List.getElem?_append_right h1,List.getElem?_replicate,if_pos (by omega),List.getD_eq_getElem?_getD,List.getElem?_eq_none h1];rfl
  ·rw[List.getElem?_eq_none (l:=List.range fn.ntmps) (by simpa using aL),List.getElem?_eq_none]
   ·rfl
   ·rw[List.length_append,List.length_replicate,KJ];omega
 have aV:((pV ps x).aJ fn.ntmps).H=[]:=by
  show(pV ps x).gu++g5 (pV ps x)=[]
  unfold g5;rw[NQ ps x aL];rfl
 show(⟨_,[],[]⟩:St)=⟨((pV ps x).aJ fn.ntmps).T,[],((pV ps x).aJ fn.ntmps).H⟩
 rw[cj,aV]
def Bf (s:TS):(e:bI)→TV→e.T→aW→aW
 | .int,v,r,t=>(match v with
  | .i k m=>if k= .i64 then .p (m=r) t else .no
  | _=> .no)
 | .u64,v,r,t=>(match v with
  | .i k m=>if k= .u64 then .p (m=r) t else .no
  | _=> .no)
 | .bool,v,r,t=>(match v with
  | .b x=> .p (x.den=r) t
  | _=> .no)
 | .str,v,r,t=>(match v with
  | .s x=> .p (x=r) t
  | _=> .no)
 | .l e,v,r,t=>(match v with
  | .l d_ xs _ fr=>(match fr with
   | true=>if h:d_=e then .p (l1 h xs=r) t else .no
   | false=> .no)
  | .nil _ _=> .p ([]=r) t
  | .ref b g m _=>rH s b g fun d_ xs fB _=>if h:d_=e then .eq e.o8 true (.eq fB m (.p (xs.length≤4611686018427387904∧l1 h xs=r) t)) else .no
  | _=> .no)
 | _,_,_,_=> .no
def EI (s:TS):(es:List bI)→List TV→c7 es→aW→aW
 | [],[],_,t=>t
 | e::r,v::vs,x,t=>Bf s e v x.1 (EI s r vs x.2 t)
 | _,_,_,_=> .no
def Bg (s:TS) (e:bI) (v:TV) (r:e.T) (t:aW):aW:=match e.isS with
 | true=>(match v with
  | .agg c=>EI s e.kN c (e.un r) t
  | _=> .no)
 | false=>Bf s e v r t
def Bh (s:TS):(es:List bI)→List TV→c7 es→aW→aW
 | [],[],_,t=>t
 | e::r,v::vs,x,t=>Bg s e v x.1 (Bh s r vs x.2 t)
 | _,_,_,_=> .no
def P4 (P:Program) (n:Nat) (s:TS):ResultVar→TV
 | .tmp t=>cP n s (.tmp t)
 | .cell a t=>(match cP n s (.tmp a) with
  | .lp v c=>(match kP s.vs v with
   | some m=>vy P t (hW s v 0 m) c
   | none=> .u)
  | _=> .u)
def wo (P:Program) (n:Nat) (fn:Func) (rs:List bI) (r:c7 rs) (s:TS):aW:=
 let vs:=fn.results.toList.map (P4 P n s)
 .eq (fun H Q=>rc P ⟨s.tT n,s.cw,H⟩ fn.results.toList Q) (fun _ Q=>Q (cS vs)) (.eq ((cS vs).all j5) true (Bh s rs vs r .hI))
section
variable {n:Nat} {s:TS} {R:Exit→TS→Prop} {t:aW}
theorem UD {H:List Blk} (e:bI) (x:e.T) (h:e.o8=true):kW H (cb true e x) (cb false e x):=by
 cases e with
 | int=>exact Uk x
 | u64=>exact .cons (.int _ _) rfl .nil
 | u8=>exact Um x
 | bool=>exact v0 x
 | str=>exact Ul x
 | bp=>exact Kj x
 | kb=>exact Un x
 | dr=>exact .cons (.int _ _) rfl (.cons (kE _) rfl (.cons (kE _) rfl (.cons (kE _) rfl (.cons (.int _ _) rfl .nil))))
 | fR=>exact Ui x
 | gK=>exact yn x
 | held=>exact Uj x
 | frame=>exact .cons (.bool _) rfl (.cons (kE _) rfl (.cons (kE _) rfl (.cons (kE _) rfl .nil)))
 | done=>exact Uh x
 | fault=>exact .cons (.int _ _) rfl (.cons (.int _ _) rfl .nil)
 | stays=>exact .cons (kE _) rfl (.cons (kE _) rfl (.cons (kE _) rfl .nil))
 | db=>exact .cons (kE _) rfl (.cons (.int _ _) rfl (.cons (.int _ _) rfl .nil))
 | l e=>exact .cons (kE _) rfl .nil
 | _=>cases h
end
section
variable [FZ] {n:Nat} {s:TS} {R:Exit→TS→Prop} {t:aW}
theorem K5 {e:bI} {v:TV} {r:e.T} (h:(Bf s e v r t).den R):gH (s.aJ n).H v.bE (oU true e r)∧t.den R:=by
 cases e with
 | int=>
  have h:(match v with
   | .i k m=>if k=IntKind.i64 then aW.p (m=r) t else .no
   | _=> .no).den R:=h
  split at h
  ·split at h
   ·rename_i hk;subst hk;exact⟨xN h.1,h.2⟩
   ·exact h.elim
  ·exact h.elim
 | u64=>
  have h:(match v with
   | .i k m=>if k=IntKind.u64 then aW.p (m=r) t else .no
   | _=> .no).den R:=h
  split at h
  ·split at h
   ·rename_i hk;subst hk;exact⟨xN h.1,h.2⟩
   ·exact h.elim
  ·exact h.elim
 | bool=>
  have h:(match v with
   | .b x=>aW.p (x.den=r) t
   | _=> .no).den R:=h
  split at h
  ·exact⟨nm h.1,h.2⟩
  ·exact h.elim
 | str=>
  have h:(match v with
   | .s x=>aW.p (x=r) t
   | _=> .no).den R:=h
  split at h
  ·exact⟨af4 h.1,h.2⟩
  ·exact h.elim
 | l e=>
  have h:(match v with
   | .l d_ xs _ fr=>(match fr with
    | true=>if h:d_=e then aW.p (l1 h xs=r) t else .no
    | false=> .no)
   | .nil _ _=> .p ([]=r) t
   | .ref b g m _=>rH s b g fun d_ xs fB _=>if h:d_=e then .eq e.o8 true (.eq fB m (.p (xs.length≤4611686018427387904∧l1 h xs=r) t)) else .no
   | _=> .no).den R:=h
  split at h
  ·split at h
   ·split at h
    ·rename_i he;subst he;exact⟨vr (e:=cb false _) h.1,h.2⟩
    ·exact h.elim
   ·exact h.elim
  ·exact⟨rn (e:=cb false e) h.1,h.2⟩
  ·rename_i b g m eD
   obtain⟨d_,xs,fB,hm,h,hb,aV⟩:=vV (n:=n) h
   split at h
   ·rename_i he
    subst he
    obtain⟨aU,h1,h2,aP⟩:=h
    subst h1
    subst hm
    exact⟨SI (eT:=cb true d_) (eF:=cb false d_) aV (fun x=>UD d_ x aU) h2,aP⟩
   ·exact h.elim
  ·exact h.elim
 | _=>exact h.elim
theorem K7: ∀{es:List bI} {vs:List TV} {r:c7 es},(EI s es vs r t).den R→aD (gH (s.aJ n).H) (cS vs) (l4 true es r)∧t.den R
 | [],[],_,h=>⟨aD.nil,h⟩
 | e::r,v::vs,x,h=>by
  obtain⟨h1,h2⟩:=K5 (n:=n) (show(Bf s e v x.1 _).den R from h)
  obtain⟨aP,a8⟩:=K7 h2
  exact⟨aD.cons h1 aP,a8⟩
 | [],_::_,_,h=>h.elim
 | _::_,[],_,h=>h.elim
theorem VG {e:bI} {v:TV} {r:e.T} (h:(Bg s e v r t).den R):sD (s.aJ n).H v.bE (we e r)∧t.den R:=by
 unfold Bg at h
 unfold we
 cases lB:e.isS with
 | true=>
  rw[lB] at h
  simp only at h
  split at h
  ·rename_i c
   obtain⟨h1,h2⟩:=K7 (n:=n) h
   refine⟨.inl ⟨cS c,cb true e r,rfl,rfl,?_⟩,h2⟩
   rw[←qB];exact h1
  ·exact h.elim
 | false=>
  rw[lB] at h
  obtain⟨h1,h2⟩:=K5 (n:=n) h
  exact⟨.inr h1,h2⟩
theorem EH: ∀{es:List bI} {vs:List TV} {r:c7 es},(Bh s es vs r t).den R→aD (sD (s.aJ n).H) (cS vs) (l5 es r)∧t.den R
 | [],[],_,h=>⟨aD.nil,h⟩
 | e::r,v::vs,x,h=>by
  obtain⟨h1,h2⟩:=VG (n:=n) (show(Bg s e v x.1 _).den R from h)
  obtain⟨aP,a8⟩:=EH h2
  exact⟨aD.cons h1 aP,a8⟩
 | [],_::_,_,h=>h.elim
 | _::_,[],_,h=>h.elim
theorem K8 {P:Program} {fn:Func} {rs:List bI} {r:c7 rs} (h:(wo P n fn rs r s).den R):tu P fn (s.aJ n) fun v H=>im H v (k0 rs r):=by
 unfold wo at h
 simp only at h
 obtain⟨h1,h2,aP⟩:=h
 unfold tu
 have Xe:rc P (s.aJ n) fn.results.toList=_:=congrFun h1 (s.aJ n).H
 rw[congrFun Xe]
 refine⟨h2,?_⟩
 obtain⟨a8,_⟩:=EH (n:=n) aP
 have key: ∀(rs:List bI) (r:c7 rs) (l:List AV),aD (sD (s.aJ n).H) l (l5 rs r)→im (s.aJ n).H (sx l) (k0 rs r):=by
  intro rs r l aI
  match rs,r,l with
  | [],_,[]=>exact .inl ⟨[],[],rfl,rfl,aD.nil⟩
  | [],_,_::_=>have:=aI.1;simp[l5] at this
  | [e],r,[]=>have:=aI.1;simp[l5] at this
  | [e],r,[v]=>exact .inr aI.head
  | [e],r,_::_::_=>have:=aI.1;simp[l5] at this
  | e::d_::rs,r,[]=>have:=aI.1;simp[l5] at this
  | e::d_::rs,r,[v]=>have:=aI.1;simp[l5] at this
  | e::d_::rs,r,v::w::l=>exact .inl ⟨_,_,rfl,rfl,aI⟩
 exact key rs r _ a8
end
def Jt {P:Program} (cf:hl P) (eA:vM P) (fn:Func) (ps rs:List bI) (x:c7 ps) (r:c7 rs) (a:lq):aW:=kc cf eA (some 0) (iI fn) (pV ps x) a fun ex s _=>match ex with
 | .normal=>wo P cf.n fn rs r s
 | .ret=>wo P cf.n fn rs r s
 | _=> .no
theorem b2.run {P:Program} {f:FuncId} {fn:Func} {ps rs:List bI} {x:c7 ps} {r:c7 rs} (cf:hl P) (eA:vM P) (a:lq) {C:Prop} (hf:P.funcs[f]?=some fn) (h:C) (e:C=(Jt cf eA fn ps rs x r a).n6.den:=by kernel_rfl)
  (e2:(Jt cf eA fn ps rs x r a).lhs=(Jt cf eA fn ps rs x r a).rhs:=by kernel_rfl) (hb:fn.body=some (iI fn):=by kernel_rfl) (hm:(fn.name== "runtime.NumGoroutine")=false:=by kernel_rfl)
  (aF:(Nat.beq cf.n fn.ntmps&&Nat.ble cf.n 1000000&&Nat.ble ps.length cf.n)=true:=by kernel_rfl):b2 P f (ob ps x) (k0 rs r):=by
 simp only[Bool.and_eq_true] at aF
 have h1:=Nat.eq_of_beq_eq_true aF.1.1
 have h2:=Nat.le_of_ble_eq_true aF.1.2
 have aP:=Nat.le_of_ble_eq_true aF.2
 refine dI.Hm hf hb hm fun iW gm=> ?_
 rw[@aaX ⟨[],[]⟩ fn ps x (by rw[←h1];exact aP) (by omega),←h1]
 refine Te h2 (fun k e=>by cases e;rw[gm];exact Nat.le_refl _) (iI fn) (R:=fun _ _=>True) (K:=fun ex s _=>match ex with
  | .normal=>wo P cf.n fn rs r s
  | .ret=>wo P cf.n fn rs r s
  | _=> .no) (fun ex s _ Z hs hf=> ?_) ⟨[],[]⟩ (@Fits.none ⟨[],[]⟩ _ (NQ ps x (by omega))) (aW.full (e▸h) e2)
 cases ex with
 | normal=>exact K8 hs
 | ret=>exact K8 hs
 | _=>exact hs.elim
def eh:List (Nat×bI):=[(23,.u8),(25,.int),(26,.kb),(27,(.l .bool)),(33,.done),(35,.fR),(36,.bool),(37,.gK),(38,.held),(46,.kb),(66,.gK),(67,.held),(78,.bp),(138,.bp),(144,(.l .int)),(161,(.l .bp)),(170,.str)]
theorem qD {α:Type} {xs:List α} {q:α→Bool} (h:first xs q=none): ∀x∈xs,q x=false:=by
 unfold first at h;rwa [List.findIdx?_eq_none_iff] at h
theorem vd {p:az} (h:ea p=true):kS p=true∧(∀s∈p.be,b4 s 0 (p.af - 1)=true)∧(∀w∈p.O,g1 p w=true)∧p.bW.length=p.O.length∧
  (∀b∈p.bW,b.length=p.O.length)∧ ∀i k:Nat,i<p.O.length→k<p.O.length→n5 p i k=false:=by
 have hb:=acm h
 have aU:hR p=⟨0,0⟩:=by simpa[ea] using h
 rw[Hw hb] at aU
 unfold xo at aU
 split at aU
 ·cases aU
 rename_i h1
 unfold xp at aU
 split at aU
 ·cases aU
 rename_i h2
 unfold o9 at aU
 split at aU
 ·rename_i aP
  split at aU
  ·cases aU
  rename_i a8
  split at aU
  ·cases aU
  rename_i cs
  refine⟨hb,fun s hs=>by simpa using qD h1 s hs,fun w hw=>by simpa using qD h2 w hw,aP,fun b aj=>by simpa using qD a8 b aj,fun i k hi hk=> ?_⟩
  have:=qD cs i (List.mem_range.2 hi)
  rw[List.any_eq_false] at this
  simpa using this k (List.mem_range.2 hk)
 ·cases aU
def kZ (p:az) (i k:Int):Bool:=nth (nth p.bW i) k
structure JM (p:az):Prop where
 len:p.bW.length=p.O.length
 row: ∀i:Int,0≤i→i<p.O.length→(nth p.bW i).length=p.O.length
 sym: ∀i k:Int,0≤i→i<p.O.length→0≤k→k<p.O.length→kZ p i k=kZ p k i
 abI: ∀i k:Int,0≤i→i<p.O.length→0≤k→k<p.O.length→i≠k→meets (nth p.O i).af (nth p.O k).af=true→kZ p i k=true
theorem s9 {x n:Int} (h:b4 x 0 (n - 1)=true):0≤x∧x<n:=by have:=jd.1 h;omega
theorem G2 {l:List Int} {n:Int} (h:hD l n=true):l.length≤30∧ ∀x∈l,0≤x∧x<n:=by
 have:=pY.1 h
 exact⟨this.1,fun x hx=>s9 (this.2.1 x hx)⟩
theorem tj {p:az} (h:ea p=true):sC p:=by
 obtain⟨h1,h2,aP,a8,cs,cT⟩:=vd h
 have hb:=sj.1 h1
 have hw: ∀w∈p.O,_:=fun w hw=>nY.1 (aP w hw)
 refine⟨by omega,hb.2.2.2,hb.2.2.1,fun w m=>⟨(hw w m).1,G2 (hw w m).2.1⟩,fun w m=>G2 (hw w m).2.2.1,fun w m=>G2 (hw w m).2.2.2.1,fun w m=> ?_,fun x hx=>s9 (h2 x hx)⟩
 have aL:=mD.1 (hw w m).2.2.2.2.1
 have hf:=mD.1 (hw w m).2.2.2.2.2.1
 refine⟨aL.1,hf.1,fun x hx=> ?_⟩
 rcases List.mem_append.1 hx with hx | hx
 ·have:=aL.2.1 x hx
  rw[Bool.and_eq_true] at this;exact s9 this.1
 ·have:=hf.2.1 x hx
  rw[Bool.and_eq_true] at this;exact s9 this.1
theorem vc {p:az} (h:ea p=true):JM p:=by
 obtain⟨h1,h2,aP,a8,cs,cT⟩:=vd h
 have key: ∀i k:Int,0≤i→i<p.O.length→0≤k→k<p.O.length→kZ p i k=kZ p k i∧(i≠k→meets (nth p.O i).af (nth p.O k).af=true→kZ p i k=true):=fun i k i0 i1 a5 df=>by
  have:=cT i.toNat k.toNat (by omega) (by omega)
  unfold n5 rG at this
  rw[ig i0,ig a5,ig i0,ig a5,ig i0,ig a5] at this
  rw[Bool.or_eq_false_iff] at this
  refine⟨by unfold kZ;simpa using this.1,fun cm hm=> ?_⟩
  have h2:=this.2
  rw[hm,Bool.and_true] at h2
  have bj:decide (i.toNat≠k.toNat)=true:=by simpa using(show i.toNat≠k.toNat by omega)
  rw[bj] at h2
  unfold kZ
  simpa using h2
 exact⟨a8,fun i i0 i1=>cs _ (dq (by omega)),fun i k i0 i1 a5 df=>(key i k i0 i1 a5 df).1,fun i k i0 i1 a5 df=>(key i k i0 i1 a5 df).2⟩
def sW (p:az) (f:Frame) (i:Int):Bool:= !((decide ((nth f.O i).ao<0)) || ((decide ((nth f.O i).ao>4)) || ((((nth f.O i).ac.length:Int) !=((nth p.O i).af.length:Int)) || ((decide ((nth f.O i).ag<0)) || (decide ((nth f.O i).ag ≥ ((nth p.O i).af.length:Int)))))))
def us (f:Frame) (i:Int):Bool:=bif ((nth f.O i).ao !=4) then(!(((nth f.O i).ag !=0) || (jZ (nth f.O i).ac true))) else(!(jZ ((nth f.O i).ac.take (nth f.O i).ag.toNat) false))
def uu (p:az) (f:Frame) (i:Int):Bool:=bif ((nth f.O i).ao==3) then(!((decide ((nth f.O i).ar<1)) || (decide ((nth f.O i).ar>p.dx)))) else(!((nth f.O i).ar !=0))
def uv (f:Frame) (i:Int):Bool:=bif ((nth f.O i).ao==0) then(!(nth f.O i).aq) else(!(bif ((nth f.O i).ao==2) then((nth f.O i).ao==2) else((nth f.O i).ao==3)) || (!(!(nth f.O i).aq)))
theorem Bw (p:az) (f:Frame) (i:Int):ho p f i=(sW p f i&&(us f i&&(uu p f i&&uv f i))):=by
 unfold ho sW us uu uv
 simp only
 generalize nth f.O i=h
 generalize (nth p.O i).af.length=n
 rcases h with⟨s,g,b,d,t⟩
 have bA:b.all (fun x=> !x)= !jZ b true:=by
  cases h:jZ b true with
  | true=>
   rw[List.all_eq_false.2 ⟨true,wA.1 h,by simp⟩];rfl
  | false=>
   rw[List.all_eq_true.2 fun x hx=>by
    cases x with
    | false=>rfl
    | true=>rw[wA.2 hx] at h;cases h];rfl
 have e2:(b.take g.toNat).all (fun x=>x)= !jZ (b.take g.toNat) false:=by
  cases h:jZ (b.take g.toNat) false with
  | true=>
   rw[List.all_eq_false.2 ⟨false,wA.1 h,by simp⟩];rfl
  | false=>
   rw[List.all_eq_true.2 fun x hx=>by
    cases x with
    | true=>rfl
    | false=>rw[wA.2 hx] at h;cases h];rfl
 simp only
 rw[bA,e2]
 have fs:b4 s 0 4= !((decide (s<0)) || (decide (s>4))):=by unfold b4;rw[Bool.eq_iff_iff];simp
 have fX:decide (b.length=n)= !((b.length:Int) !=(n:Int)):=by rw[Bool.eq_iff_iff];simp;omega
 have fw:b4 g 0 ((n:Int) - 1)= !((decide (g<0)) || (decide (g ≥ (n:Int)))):=by unfold b4;rw[Bool.eq_iff_iff];simp;omega
 have vg:b4 t 1 p.dx= !((decide (t<1)) || (decide (t>p.dx))):=by unfold b4;rw[Bool.eq_iff_iff];simp
 rw[fs,fX,fw,vg]
 generalize jZ b true=B
 have hg:g=0→jZ (b.take g.toNat) false=false:=fun h=>by subst h;rfl
 generalize jZ (b.take g.toNat) false=C at hg
 generalize (decide (s<0))=aH
 generalize (decide (s>4))=bt
 generalize ((b.length:Int) !=(n:Int))=eg
 generalize (decide (g<0))=eK
 generalize (decide (g ≥ (n:Int)))=ahu
 generalize (decide (t<1))=ahv
 generalize (decide (t>p.dx))=ahw
 have hs:s=0∨s=2∨s=3∨s=4∨(s≠0∧s≠2∧s≠3∧s≠4):=by omega
 have bj:decide (t=0)= !(t !=0):=by rw[Bool.eq_iff_iff];simp
 have rU:decide (g=0)= !(g !=0):=by rw[Bool.eq_iff_iff];simp
 rw[bj,rU]
 cases LW:(g !=0) with
 | false=>
  have:C=false:=hg (by simpa using LW)
  subst this
  generalize (t !=0)=agH
  rcases hs with rfl | rfl | rfl | rfl | ⟨aU,h2,aP,a8⟩
  ·cases B<;>cases d<;>simp[Bool.and_assoc]
  ·cases B<;>cases d<;>simp[Bool.and_assoc]
  ·cases B<;>cases d<;>simp[Bool.and_assoc]
  ·cases B<;>cases d<;>simp[Bool.and_assoc]
  ·have JE:(s==0)=false:=by simpa using aU
   have oK:(s==2)=false:=by simpa using h2
   have An:(s==3)=false:=by simpa using aP
   have vH:(s !=4)=true:=by simpa using a8
   rw[JE,oK,An,vH]
   simp only[aU,h2,aP,a8,if_false,decide_false,decide_true,ne_eq,not_false_eq_true]
   cases B<;>cases d<;>simp[Bool.and_assoc]
 | true=>
  clear hg LW
  generalize (t !=0)=agH
  rcases hs with rfl | rfl | rfl | rfl | ⟨aU,h2,aP,a8⟩
  ·cases B<;>cases C<;>cases d<;>simp[Bool.and_assoc]
  ·cases B<;>cases C<;>cases d<;>simp[Bool.and_assoc]
  ·cases B<;>cases C<;>cases d<;>simp[Bool.and_assoc]
  ·cases B<;>cases C<;>cases d<;>simp[Bool.and_assoc]
  ·have JE:(s==0)=false:=by simpa using aU
   have oK:(s==2)=false:=by simpa using h2
   have An:(s==3)=false:=by simpa using aP
   have vH:(s !=4)=true:=by simpa using a8
   rw[JE,oK,An,vH]
   simp only[aU,h2,aP,a8,if_false,decide_false,decide_true,ne_eq,not_false_eq_true]
   cases B<;>cases C<;>cases d<;>simp[Bool.and_assoc]
def js (x:a_):Bool:=b4 x.cH 1 2&&b4 x.a2 0 2
def iG (p:az) (f:Frame) (i k:Int):Bool:=(i !=k)&&(kZ p i k&&(((nth f.O i).ao !=0)&&((nth f.O k).ao !=0)))
def rO (p:az) (f:Frame):Bool:= !((!(ea p)) || ((!f.ok) || (((f.av.length:Int) !=p.af) || (((f.au.length:Int) !=(p.be.length:Int)) || ((f.O.length:Int) !=(p.O.length:Int))))))
theorem m1 {p:az} {f:Frame}:rO p f=true↔ea p=true∧f.ok=true∧(f.av.length:Int)=p.af∧f.au.length=p.be.length∧f.O.length=p.O.length:=by
 unfold rO
 simp only[Bool.not_eq_true',Bool.or_eq_false_iff,Bool.not_eq_false',bne_eq_false_iff_eq]
 constructor
 ·rintro⟨a,b,c,d,e⟩;exact⟨a,b,c,by omega,by omega⟩
 ·rintro⟨a,b,c,d,e⟩;exact⟨a,b,c,by omega,by omega⟩
theorem T2 {p:az} {f:Frame}:DD p f=true↔ ∀i k:Int,0≤i→i<f.O.length→0≤k→k<f.O.length→iG p f i k=false:=by
 unfold DD
 rw[List.all_eq_true]
 have key: ∀i k:Nat,(decide (i=k) || !rG p i k || decide ((nth f.O i).ao=0) || decide ((nth f.O k).ao=0))= !iG p f i k:=fun i k=>by
  unfold iG kZ rG
  have bA:decide (i=k)= !((i:Int) !=(k:Int)):=by rw[Bool.eq_iff_iff];simp;omega
  have e2: ∀x:Int,decide (x=0)= !(x !=0):=fun x=>by rw[Bool.eq_iff_iff];simp
  rw[bA,e2,e2]
  cases((i:Int) !=(k:Int))<;>cases nth (nth p.bW (i:Int)) (k:Int)<;>cases((nth f.O (i:Int)).ao !=0)<;>cases((nth f.O (k:Int)).ao !=0)<;>rfl
 constructor
 ·intro h i k i0 i1 a5 df
  have h1:=h i.toNat (List.mem_range.2 (by omega))
  rw[List.all_eq_true] at h1
  have h2:=h1 k.toNat (List.mem_range.2 (by omega))
  rw[key,Int.toNat_of_nonneg i0,Int.toNat_of_nonneg a5] at h2
  simpa using h2
 ·intro h i hi
  rw[List.all_eq_true]
  intro k hk
  rw[key,h i k (by omega) (by have:=List.mem_range.1 hi;omega) (by omega) (by have:=List.mem_range.1 hk;omega)];rfl
theorem ud {p:az} {f:Frame}:ev p f=true↔rO p f=true∧(∀x∈f.au,js x=true)∧(∀i:Int,0≤i→i<f.O.length→ho p f i=true)∧
  (∀i k:Int,0≤i→i<f.O.length→0≤k→k<f.O.length→iG p f i k=false)∧f.O=(ee p f).O:=by
 unfold ev oH
 rw[m1,←T2]
 simp only[Bool.and_eq_true,decide_eq_true_eq,List.all_eq_true,List.mem_range]
 constructor
 ·rintro⟨⟨⟨⟨⟨⟨⟨⟨a,b⟩,c⟩,d⟩,e⟩,g⟩,h⟩,i⟩,j⟩
  refine⟨⟨a,b,c,d,e⟩,fun x hx=>by unfold js;rw[Bool.and_eq_true];exact g x hx,fun q dS q1=> ?_,i,j⟩
  have:=h q.toNat (by omega)
  rwa [Int.toNat_of_nonneg dS] at this
 ·rintro⟨⟨a,b,c,d,e⟩,g,h,i,j⟩
  exact⟨⟨⟨⟨⟨⟨⟨⟨a,b⟩,c⟩,d⟩,e⟩,fun x hx=>by have:=g x hx;unfold js at this;rwa [Bool.and_eq_true] at this⟩,fun q aj=>h q (by omega) (by omega)⟩,i⟩,j⟩
theorem ER {p:az} {f:Frame} (hb:rO p f=true) (bY: ∀i:Int,0≤i→i<f.O.length→sW p f i=true):il p f:=by
 obtain⟨h1,h2,aP,a8,cs⟩:=m1.1 hb
 have key: ∀i:Nat,i<f.O.length→((nth f.O i).ac.length:Int)=((nth p.O i).af.length:Int)∧0≤(nth f.O i).ag∧(nth f.O i).ag<((nth p.O i).af.length:Int):=fun i hi=>by
  have:=bY i (by omega) (by omega)
  unfold sW at this
  simp only[Bool.not_eq_true',Bool.or_eq_false_iff,bne_eq_false_iff_eq,decide_eq_false_iff_not] at this
  exact⟨this.2.2.1,by omega,by omega⟩
 refine⟨aP,a8,cs,fun i h w bA e2=> ?_,fun h hm=> ?_⟩
 ·have hi:=(List.getElem?_eq_some_iff.1 bA).1
  have aM:=(List.getElem?_eq_some_iff.1 e2).1
  have:=(key i hi).1
  rw[iJ hi,iJ aM,(List.getElem?_eq_some_iff.1 bA).2,(List.getElem?_eq_some_iff.1 e2).2] at this
  omega
 ·obtain⟨i,hi,rfl⟩:=List.mem_iff_getElem.1 hm
  have:=key i hi
  rw[iJ hi] at this
  omega
theorem T1 {p:az} {f:Frame} {i k:Int} (dW:JM p) (aL:f.O.length=p.O.length) (i0:0≤i) (i1:i<f.O.length) (a5:0≤k) (df:k<f.O.length):iG p f i k=iG p f k i:=by
 unfold iG
 rw[dW.sym i k i0 (by omega) a5 (by omega),show(i !=k)=(k !=i) by rw[Bool.eq_iff_iff];simp;omega,Bool.and_comm ((nth f.O i).ao !=0)]
def xF (p:az) (f:Frame) (n:Nat) (i:Int):Bool:=(List.range n).any fun k=>iG p f i k
theorem acu (x:a_):(bif (x.cH !=1) then((x.cH !=2) || ((decide (x.a2<0)) || (decide (x.a2>2)))) else((decide (x.a2<0)) || (decide (x.a2>2))))= !js x:=by
 unfold js b4
 by_cases h:x.cH=1
 ·rw[h,Bool.eq_iff_iff];simp
 ·have:(x.cH !=1)=true:=by simpa using h
  rw[this,Bool.eq_iff_iff];simp;omega
def pX (a n:Int):Bool:=decide (0≤a)&&decide (a<n)
structure Fit (p:az) (f:Frame):Prop where
 l7:ea p=true
 fr:il p f
theorem jG {p:az} {f:Frame} (h:ev p f=true):Fit p f:=by
 obtain⟨h1,h2,aP,a8,cs⟩:=ud.1 h
 refine⟨(m1.1 h1).1,ER h1 fun i i0 i1=> ?_⟩
 have:=aP i i0 i1
 rw[Bw,Bool.and_eq_true] at this;exact this.1
theorem Bm {p:az} {f:Frame} (h:ev p f=true):(f.av.length:Int)=p.af∧f.au.length=p.be.length∧f.O.length=p.O.length:=by
 have:=(jG h).fr
 exact⟨this.av,this.au,this.O⟩
theorem Fit.in {p:az} {f:Frame} (h:Fit p f):sC p:=tj h.l7
def EQ (p:az) (f:Frame) (i:Int):Prop:=jz f
def fz (p:az) (f:Frame) (i s:Int):Bool:=((nth f.O i).ao !=0)&&((nth p.O i).af.drop (nth f.O i).ag.toNat).contains s
def uA (p:az) (f:Frame) (i s:Int):Prop:=Fit p f∧0≤i∧i<p.O.length
theorem adg {p:az} (h:ea p=true) {w:Way} (hw:w∈p.O):w.af.Nodup:=(pY.1 (nY.1 ((vd h).2.2.1 w hw)).2.1).2.2
theorem AY {l:List Int} {g:Nat} {s:Int}:(l.drop g).contains s=true↔ ∃k,g≤k∧ ∃h:k<l.length,l[k]=s:=by
 rw[List.contains_iff_mem,List.mem_iff_getElem]
 constructor
 ·rintro⟨i,hi,he⟩
  rw[List.length_drop] at hi
  rw[List.getElem_drop] at he
  exact⟨g+i,by omega,by omega,he⟩
 ·rintro⟨k,hg,hk,he⟩
  refine⟨k - g,by rw[List.length_drop];omega,?_⟩
  rw[List.getElem_drop]
  simp only[show g+(k - g)=k by omega];exact he
theorem has_eq {l:List Int} (aF:l.Nodup) {g s:Int} (aU:0≤g):(decide (nG l s ≥ g)&&decide (nG l s ≥ 0))=(l.drop g.toNat).contains s:=by
 unfold nG
 cases h:first l (fun x=>s==x) with
 | none=>
  have:(l.drop g.toNat).contains s=false:=by
   rw[←Bool.not_eq_true,AY]
   rintro⟨k,_,hk,he⟩
   have:=qD h _ (List.getElem_mem hk)
   rw[he] at this;simp at this
  rw[this];simp[xj]
 | some i=>
  unfold first at h
  rw[List.findIdx?_eq_some_iff_getElem] at h
  obtain⟨hi,hx,_⟩:=h
  have hx:s=l[i]:=by simpa using hx
  have hx:=hx.symm
  rw[Bool.eq_iff_iff,AY]
  show(decide ((i:Int) ≥ g)&&decide ((i:Int) ≥ 0))=true↔_
  simp only[Bool.and_eq_true,decide_eq_true_eq]
  constructor
  ·intro h;exact⟨i,by omega,hi,hx⟩
  ·rintro⟨k,hg,hk,he⟩
   have:k=i:=by
    exact(List.getElem_inj aF).1 (he.trans hx.symm)
   omega
def sd (p:az) (f:Frame) (s:Int):Int:=xj (first (List.range p.O.length) (fun i=>fz p f i s))
def G8 (p:az) (f:Frame) (s:Int):Prop:=Fit p f
def pr (p:az) (f:Frame) (s:Int):Int:=if ev p f&&pX s p.af then sd p f s else -1
theorem acL {n:Nat} {q:Int→Bool} {v:Int} (h:cl n q v) (hv:decide (v<(n:Int))=true) (aj:q v=true):first (List.range n) (fun i=>q i)=some v.toNat:=by
 have aU:=h.1
 have hv:v<(n:Int):=by simpa using hv
 refine EL aU hv (fun j ck e4=> ?_) ?_
 ·show q (j.toNat:Int)=false
  rw[Int.toNat_of_nonneg ck];exact h.2.2 j ck e4
 ·show q (v.toNat:Int)=true
  rw[Int.toNat_of_nonneg aU];exact aj
theorem acK {n:Nat} {q:Int→Bool} {v:Int} (h:cl n q v) (hv:decide (v<(n:Int))=false):first (List.range n) (fun i=>q i)=none:=
 EK fun j ck e4=>by
  show q (j.toNat:Int)=false
  rw[Int.toNat_of_nonneg ck];exact gG h hv j ck e4
def ej (q:Int→Bool) (v:Int):List Int:=((List.range v.toNat).filter fun i=>q (i:Nat)).map fun i=>((i:Nat):Int)
theorem VE (q:Int→Bool):ej q 0=[]:=rfl
theorem yy {q:Int→Bool} {v:Int} (h:0≤v):ej q (v+1)=if q v=true then ej q v++[v] else ej q v:=by
 unfold ej
 rw[show(v+1).toNat=v.toNat+1 by omega,List.range_succ,List.filter_append,List.map_append]
 have hv:((v.toNat:Nat):Int)=v:=by omega
 cases aj:q v with
 | true=>simp[hv,aj]
 | false=>simp[hv,aj]
theorem sR (q:Int→Bool) (v:Int):(ej q v).length≤v.toNat:=by
 unfold ej
 rw[List.length_map]
 exact Nat.le_trans (List.length_filter_le _ _) (by simp)
theorem K4 {q:Int→Bool} {v x:Int}:x∈ej q v↔0≤x∧x<v∧q x=true:=by
 unfold ej
 rw[List.mem_map]
 constructor
 ·rintro⟨i,hi,rfl⟩
  rw[List.mem_filter,List.mem_range] at hi
  exact⟨by omega,by omega,hi.2⟩
 ·rintro⟨aU,h1,h2⟩
  refine⟨x.toNat,?_,by omega⟩
  rw[List.mem_filter,List.mem_range,Int.toNat_of_nonneg aU]
  exact⟨by omega,h2⟩
theorem VF {q:Int→Bool} {v:Int}:ej q v=[]↔ ∀x:Int,0≤x→x<v→q x=false:=by
 constructor
 ·intro h x aU h1
  cases aj:q x with
  | false=>rfl
  | true=>have:=K4.2 ⟨aU,h1,aj⟩;rw[h] at this;cases this
 ·intro h
  rw[List.eq_nil_iff_forall_not_mem]
  intro x hx
  have:=K4.1 hx
  rw[h x this.1 this.2.1] at this;cases this.2.2
def uT (x:cA) (k:Int):Bool:=x.sw==k
def r7 (l:List cA) (k:Int):Int:=xj (first l (fun x=>x.sw==k))
def kO (l:List cA) (k:Int):Bool:=l.any fun x=>x.sw==k
theorem Zq (l:List cA) (k:Int):(decide (r7 l k ≥ 0))=kO l k:=by
 unfold r7 kO
 cases h:first l (fun x=>x.sw==k) with
 | none=>
  rw[List.any_eq_false.2 fun x hx=>by rw[qD h x hx];simp];rfl
 | some i=>
  unfold first at h
  rw[List.findIdx?_eq_some_iff_getElem] at h
  obtain⟨hi,hx,_⟩:=h
  rw[List.any_eq_true.2 ⟨_,List.getElem_mem hi,hx⟩]
  show decide ((i:Int) ≥ 0)=true
  simp
def mX (p:az) (f:Frame) (i k:Int):Bool:=((nth f.O i).ao !=0)&&(kO (nth p.O i).bB k || (kO (nth p.O i).a2 k&&fz p f i (nth p.be k)))
def gE (p:az) (f:Frame) (k:Int):List Int:=ej (fun i=>mX p f i k) p.O.length
def tk (p:az) (f:Frame) (k:Int):Prop:=Fit p f∧0≤k∧k<p.be.length
def po (p:az) (f:Frame) (i k:Int):Int:=if(nth f.O i).ao=0 then 0 else match first (nth p.O i).bB (fun x=>x.sw==k) with
 | some j=>(nth (nth p.O i).bB j).bp
 | none=>match first (nth p.O i).a2 (fun x=>x.sw==k&&fz p f i (nth p.be k)) with
  | some j=>(nth (nth p.O i).a2 j).bp
  | none=>0
def JC (p:az) (f:Frame) (i k:Int):Prop:=Fit p f∧0≤i∧i<p.O.length∧0≤k∧k<p.be.length
theorem Cb {p:az} (h:ea p=true) {w:Way} (hw:w∈p.O) {l:cA} (aL:l∈bz w):l.bp=1∨l.bp=2:=by
 have hg:=nY.1 ((vd h).2.2.1 w hw)
 have key: ∀{se:List cA},lF p se=true→ ∀x∈se,x.bp=1∨x.bp=2:=fun h x hx=>by
  have:=(mD.1 h).2.1 x hx
  rw[Bool.and_eq_true] at this
  have:=jd.1 this.2
  omega
 rcases List.mem_append.1 aL with aL | aL
 ·exact key hg.2.2.2.2.1 l aL
 ·exact key hg.2.2.2.2.2.1 l aL
theorem EJ {α:Type} [Inhabited α] {xs:List α} {q:α→Bool} {j:Nat} (h:first xs q=some j):nth xs j∈xs∧q (nth xs j)=true:=by
 unfold first at h
 rw[List.findIdx?_eq_some_iff_getElem] at h
 obtain⟨hi,hx,_⟩:=h
 rw[iJ hi]
 exact⟨List.getElem_mem hi,hx⟩
theorem agx {p:az} {f:Frame} {i k:Int} (h:ea p=true) (hi:i.toNat<p.O.length):decide (po p f i k>0)=mX p f i k:=by
 unfold po mX kO
 by_cases hs:(nth f.O i).ao=0
 ·rw[if_pos hs,show((nth f.O i).ao !=0)=false by simpa using hs];rfl
 ·rw[if_neg hs,show((nth f.O i).ao !=0)=true by simpa using hs,Bool.true_and]
  have hm:=dq hi
  cases h1:first (nth p.O i).bB (fun x=>x.sw==k) with
  | some j=>
   have:=EJ h1
   rw[List.any_eq_true.2 ⟨_,this⟩,Bool.true_or]
   have:=Cb h hm (List.mem_append_right _ this.1)
   simp only[decide_eq_true_eq];omega
  | none=>
   rw[List.any_eq_false.2 fun x hx=>by rw[qD h1 x hx];simp,Bool.false_or]
   cases h2:first (nth p.O i).a2 (fun x=>x.sw==k&&fz p f i (nth p.be k)) with
   | some j=>
    have:=EJ h2
    have aP:=this.2
    rw[Bool.and_eq_true] at aP
    rw[List.any_eq_true.2 ⟨_,this.1,aP.1⟩,aP.2,Bool.true_and]
    have:=Cb h hm (List.mem_append_left _ this.1)
    simp only[decide_eq_true_eq];omega
   | none=>
    have:((nth p.O i).a2.any (fun x=>x.sw==k)&&fz p f i (nth p.be k))=false:=by
     rw[Bool.and_eq_false_iff]
     cases bY:fz p f i (nth p.be k) with
     | false=>exact .inr rfl
     | true=>
      refine .inl (List.any_eq_false.2 fun x hx=> ?_)
      have:=qD h2 x hx
      rw[bY,Bool.and_true] at this
      rw[this];simp
    rw[this];rfl
def k4 (p:az) (f:Frame) (w k:Int):Bool:=(k !=w)&&(((nth f.O k).ao !=0)&&(kZ p w k || (meets (nth p.O w).af (nth p.O k).cQ || meets (nth p.O w).cQ (nth p.O k).af)))
def nC (p:az) (f:Frame) (w s:Int):Bool:=nth f.av s&&(fS (nth p.O w).af s || fS (nth p.O w).cQ s)
def kR (p:az) (f:Frame) (w k:Int):Bool:=(bz (nth p.O w)).any fun l=>l.sw==k&& !((nth f.au k).cH==l.bp)
def je (p:az) (f:Frame) (k:Int):Bool:=decide (((gE p f k).length:Int)>0)
def kr (p:az) (f:Frame) (k:Int):Bool:=nth f.av (nth p.be k)
def k3 (p:az) (f:Frame) (w k:Int):Bool:=kR p f w k&&(je p f k || kr p f k)
def lN (p:az) (f:Frame) (w:Int):nw:=⟨ej (k4 p f w) p.O.length,ej (nC p f w) p.af,ej (k3 p f w) p.be.length⟩
def yz (p:az) (f:Frame) (w:Int):Bool:= !(ej (fun k=>kR p f w k&&je p f k) p.be.length).isEmpty
def CZ (p:az) (f:Frame) (w:Int):Bool:= !(ej (fun k=>kR p f w k&&kr p f k) p.be.length).isEmpty
def iH (p:az) (f:Frame) (w:Int):nw×Bool×Bool:=(lN p f w,yz p f w,CZ p f w)
def codeF (p:az) (f:Frame) (w:Int):Int:=if(lN p f w).O≠[] then 3 else if(lN p f w).af≠[] then 4 else if yz p f w=true then 5 else if CZ p f w=true then 6 else 0
def tE (p:az) (f:Frame) (w:Int):nw×Int:=(lN p f w,codeF p f w)
def eY (p:az) (f:Frame) (w:Int):Int:=if(nth f.O w).ao≠0 then 2 else codeF p f w
def rB (p:az) (f:Frame) (w:Int):Prop:=Fit p f∧0≤w∧w<p.O.length
theorem qC {q:Int→Bool} {N v:Int} (aF:N≤4611686018427387904) (aX:cl N (fun _=>false) v) (hv:decide (v<N)=true):
  (q v=true→ej q v++[v]=ej q (IntKind.i64.wrap (v+1)))∧(q v=false→ej q v=ej q (IntKind.i64.wrap (v+1)))∧(!(ej q (IntKind.i64.wrap (v+1))).isEmpty)=(!(ej q v).isEmpty || q v):=by
 rw[iE aF aX.1 (by simpa using hv),yy aX.1]
 refine⟨fun h=>by rw[if_pos h],fun h=>by rw[if_neg (by rw[h];simp)],?_⟩
 cases h:q v with
 | true=>simp
 | false=>simp
theorem wl {q:Int→Bool} {N v:Int} (aX:cl N (fun _=>false) v) (hv:decide (v<N)=false):ej q v=ej q N:=by
 have: ¬v<N:=by simpa using hv
 have h1:=aX.2.1
 rw[show v=N by omega]
def nJ (p:az) (f:Frame) (w k:Int) (j:Nat):Bool:=((bz (nth p.O w)).take j).any fun l=>l.sw==k&& !((nth f.au k).cH==l.bp)
theorem adh (p:az) (f:Frame) (w k:Int) {j:Nat} (h:(bz (nth p.O w)).length≤j):nJ p f w k j=kR p f w k:=by
 unfold nJ kR;rw[List.take_of_length_le h]
theorem adj {p:az} {f:Frame} {w k:Int} {j:Nat} (h:j<(bz (nth p.O w)).length):nJ p f w k (j+1)=(nJ p f w k j || ((bz (nth p.O w))[j].sw==k&& !((nth f.au k).cH==(bz (nth p.O w))[j].bp))):=by
 unfold nJ;rw[List.take_succ_eq_append_getElem h,List.any_append];simp
theorem Hf {p:az} (h:ea p=true) {w:Way} (hw:w∈p.O):((bz w).map (·.sw)).Nodup:=(nY.1 ((vd h).2.2.1 w hw)).2.2.2.2.2.2.1
theorem adi {p:az} {f:Frame} {w k:Int} {j:Nat} (aF:((bz (nth p.O w)).map (·.sw)).Nodup) (h:j<(bz (nth p.O w)).length) (hk:((bz (nth p.O w))[j].sw==k)=true):nJ p f w k j=false:=by
 unfold nJ
 rw[List.any_eq_false]
 intro l aL
 obtain⟨i,hi,rfl⟩:=List.mem_take_iff_getElem.1 aL
 have gb:i<(bz (nth p.O w)).length:=by omega
 intro hc
 rw[Bool.and_eq_true] at hc
 have bA:(bz (nth p.O w))[i].sw=k:=by simpa using hc.1
 have e2:(bz (nth p.O w))[j].sw=k:=by simpa using hk
 have:=(List.getElem_inj (xs:=(bz (nth p.O w)).map (·.sw)) (i:=i) (j:=j) (h₀:=by simpa using gb) (h₁:=by simpa using h) aF).1 (by simp[bA,e2])
 omega
def Ua (p:az) (f:Frame) (w k:Int) (x:List Int) (a b:Bool) (lm:List Int) (j:Int) (io ct:Bool):Prop:=
 cl (bz (nth p.O w)).length (fun _=>false) j∧lm=(if(nJ p f w k j.toNat&&(je p f k || kr p f k))=true then x++[k] else x)∧io=(a || (nJ p f w k j.toNat&&je p f k))∧ct=(b || (nJ p f w k j.toNat&&kr p f k))
def wq (p:az) (f:Frame) (w v:Int):Bool:= !(ej (fun k=>kR p f w k&&je p f k) v).isEmpty
def z2 (p:az) (f:Frame) (w v:Int):Bool:= !(ej (fun k=>kR p f w k&&kr p f k) v).isEmpty
def wF (p:az) (f:Frame) (w v:Int):Int:=if wq p f w v=true then 5 else if z2 p f w v=true then 6 else 0
def qX (a:Int) (l:List cA) (k:Int):Int:=l.foldl (fun a x=>bif x.sw==k then x.bp else a) a
theorem Oq {l:List cA} {k:Int} (h: ∀x∈l,(x.sw==k)=false): ∀a,qX a l k=a:=by
 induction l with
 | nil=>intro a;rfl
 | cons x l bS=>
  intro a
  show qX (bif x.sw==k then x.bp else a) l k=a
  rw[h x List.mem_cons_self]
  exact bS (fun y hy=>h y (List.mem_cons_of_mem _ hy)) a
theorem GZ {l:List cA} {k:Int} (aF:(l.map (·.sw)).Nodup) {x:cA} (hx:x∈l) (hk:(x.sw==k)=true): ∀a,qX a l k=x.bp:=by
 induction l with
 | nil=>cases hx
 | cons y l bS=>
  intro a
  show qX (bif y.sw==k then y.bp else a) l k=x.bp
  rw[List.map_cons,List.nodup_cons] at aF
  rcases List.mem_cons.1 hx with rfl | hx
  ·rw[hk]
   refine Oq (fun z aO=> ?_) _
   have hk:x.sw=k:=by simpa using hk
   rw[←hk,beq_eq_false_iff_ne]
   intro e
   exact aF.1 (List.mem_map.2 ⟨z,aO,e⟩)
  ·exact bS aF.2 hx _
theorem abp {p:az} {f:Frame} {w k:Int} (h:ea p=true) (hw:w.toNat<p.O.length):((qX 0 (bz (nth p.O w)) k==0) || (qX 0 (bz (nth p.O w)) k==(nth f.au k).cH))= !kR p f w k:=by
 have hm:=dq hw
 have aF:=Hf h hm
 cases hf:first (bz (nth p.O w)) (fun x=>x.sw==k) with
 | none=>
  have eE:=qD hf
  rw[Oq eE,show kR p f w k=false from List.any_eq_false.2 fun x hx=>by rw[eE x hx];simp];rfl
 | some j=>
  obtain⟨h1,h2⟩:=EJ hf
  have aL:=Cb h hm h1
  rw[GZ aF h1 h2]
  have z:((nth (bz (nth p.O w)) (j:Int)).bp==0)=false:=by rw[beq_eq_false_iff_ne];omega
  rw[z,Bool.false_or]
  have aC:kR p f w k= !((nth f.au k).cH==(nth (bz (nth p.O w)) (j:Int)).bp):=by
   cases hb:((nth f.au k).cH==(nth (bz (nth p.O w)) (j:Int)).bp) with
   | false=>exact List.any_eq_true.2 ⟨_,h1,by rw[h2,hb];rfl⟩
   | true=>
    refine List.any_eq_false.2 fun x hx hc=> ?_
    rw[Bool.and_eq_true] at hc
    have bA:=GZ aF hx hc.1 0
    rw[GZ aF h1 h2] at bA
    rw[bA] at hb
    rw[hb] at hc;cases hc.2
  rw[aC,Bool.not_not,Bool.eq_iff_iff,beq_iff_eq,beq_iff_eq]
  exact⟨Eq.symm,Eq.symm⟩
def en (p:az):Frame:=if ea p=true then⟨true,List.replicate p.af.toNat false,List.replicate p.be.length ⟨1,1⟩,p.O.map fun w=>hq w.af.length⟩ else⟨false,[],[],[]⟩
def jP (l:List cA) (q:List a_):List a_:=l.foldl (fun q x=>q.set x.sw.toNat ⟨x.bp,(nth q x.sw).a2⟩) q
theorem zZ (l:List cA): ∀q:List a_,(jP l q).length=q.length:=by
 induction l with
 | nil=>intro q;rfl
 | cons x l bS=>intro q;show(jP l _).length=_;rw[bS,List.length_set]
theorem Qq {l:List cA} {q:List a_} {j:Nat} (h:j<l.length):jP (l.take (j+1)) q=(jP (l.take j) q).set l[j].sw.toNat ⟨l[j].bp,(nth (jP (l.take j) q) l[j].sw).a2⟩:=by
 unfold jP
 rw[List.take_succ_eq_append_getElem h,List.foldl_append];rfl
def lj (p:az) (i:Nat) (h:ad):ad:=if h.ao=3 then(if IntKind.i64.wrap (h.ar - 1)=0 then a6 p i else{h with ar:=IntKind.i64.wrap (h.ar - 1)}) else h
def hU (p:az):Nat→List ad→List ad
 | 0,ws=>ws
 | n+1,ws=>let g:=hU p n ws;g.set n (lj p n (nth g n))
theorem Ac (p:az) (ws:List ad): ∀n,(hU p n ws).length=ws.length
 | 0=>rfl
 | n+1=>by show(List.set _ _ _).length=_;rw[List.length_set];exact Ac p ws n
def e8 (p:az) (f:Frame) (e:Event):Int:=
 if e.op=1 then eY p f e.ai
 else if e.op=2 then(if(nth f.O e.ai).ao≠1∧(nth f.O e.ai).ao≠2 then 2 else 0)
 else if e.op=6 then(if je p f e.ai=true then 2 else if kr p f e.ai=true then 3 else 0)
 else 0
def ff (p:az) (f:Frame) (e:Event):Frame:=
 if e.op=1 then{f with au:=jP (bz (nth p.O e.ai)) f.au,O:=f.O.set e.ai.toNat {nth f.O e.ai with ao:=1}}
 else if e.op=2 then(if((nth f.O e.ai).aq&&gh f (nth p.O e.ai).cu)=true then{f with O:=f.O.set e.ai.toNat {nth f.O e.ai with ao:=3,ar:=p.dx}} else{f with O:=f.O.set e.ai.toNat (a6 p e.ai)})
 else if e.op=3∨e.op=4 then{f with av:=f.av.set e.ai.toNat (e.op==3)}
 else if e.op=5 then{f with au:=f.au.set e.ai.toNat ⟨(nth f.au e.ai).cH,e.bp⟩}
 else if e.op=6 then{f with au:=f.au.set e.ai.toNat ⟨e.bp,(nth f.au e.ai).a2⟩}
 else if e.op=7 then{f with O:=hU p f.O.length f.O}
 else f
def gP (p:az) (f:Frame) (e:Event):fJ:=if e8 p f e≠0 then⟨e8 p f e,f⟩ else⟨0,ee p (ff p f e)⟩
def Ea (p:az) (f:Frame) (e:Event):Prop:=Fit p f∧eZ p e=true
theorem il.rj {p:az} {f:Frame} (h:il p f) {i:Nat} {x:ad} (hx:i<f.O.length→x.ac.length=(nth p.O i).af.length∧0≤x.ag∧x.ag≤x.ac.length):il p {f with O:=f.O.set i x}:=by
 refine⟨h.av,h.au,by rw[List.length_set];exact h.O,fun j y w h1 h2=> ?_,fun y hy=> ?_⟩
 ·replace h1:(f.O.set i x)[j]?=some y:=h1
  rw[List.getElem?_set] at h1
  split at h1
  ·rename_i e;subst e
   split at h1
   ·rename_i aF
    cases h1
    rw[(hx aF).1,iJ (by have:=h.O;omega)]
    rw[List.getElem?_eq_getElem (by have:=h.O;omega)] at h2
    cases h2;rfl
   ·cases h1
  ·exact h.ac j y w h1 h2
 ·rcases List.mem_or_eq_of_mem_set hy with hy | rfl
  ·exact h.ag y hy
  ·by_cases aF:i<f.O.length
   ·exact(hx aF).2
   ·rw[List.set_eq_of_length_le (by omega)] at hy
    exact h.ag _ hy
theorem il.at {p:az} {f:Frame} (h:il p f) {i:Nat} (hi:i<f.O.length):(nth f.O i).ac.length=(nth p.O i).af.length∧0≤(nth f.O i).ag∧(nth f.O i).ag≤(nth f.O i).ac.length:=by
 have aM:i<p.O.length:=by have:=h.O;omega
 refine⟨h.ac i _ _ ?_ ?_,h.ag _ (dq (by simpa using hi))⟩
 ·rw[iJ hi];exact List.getElem?_eq_getElem hi
 ·rw[iJ aM];exact List.getElem?_eq_getElem aM
theorem FT (n:Nat):(hq n).ac.length=n∧0≤(hq n).ag∧(hq n).ag≤(hq n).ac.length:=by simp[hq]
theorem Jr {p:az} {f:Frame} (h:il p f): ∀n,il p {f with O:=hU p n f.O}
 | 0=>h
 | n+1=>by
  have bS:=Jr h n
  show il p {f with O:=(hU p n f.O).set n (lj p n (nth (hU p n f.O) n))}
  refine il.rj bS (i:=n) fun aF=> ?_
  have a4:=bS.at aF
  unfold lj
  split
  ·split
   ·exact FT _
   ·exact a4
  ·exact a4
theorem il.jt {p:az} {f:Frame} (h:il p f) {o:List Bool} {q:List a_} (aC:o.length=f.av.length) (aj:q.length=f.au.length):il p {f with av:=o,au:=q}:=
 ⟨by show(o.length:Int)=_;rw[aC];exact h.av,by show q.length=_;rw[aj];exact h.au,h.O,h.ac,h.ag⟩
theorem yr {p:az} {f:Frame} {e:Event} (h:il p f) (aU:e.op=1∨e.op=2→0≤e.ai∧e.ai<p.O.length):il p (ff p f e):=by
 unfold ff
 split
 ·rename_i aC
  have bu:=aU (.inl aC)
  have aL:=h.O
  have a4:=h.at (i:=e.ai.toNat) (by omega)
  rw[ig bu.1] at a4
  exact il.rj (h.jt rfl (zZ _ _)) fun _=>a4
 ·split
  ·rename_i aC
   have bu:=aU (.inr aC)
   have aL:=h.O
   have a4:=h.at (i:=e.ai.toNat) (by omega)
   rw[ig bu.1] at a4
   split
   ·exact h.rj fun _=>a4
   ·refine h.rj fun _=> ?_
    have:=FT (nth p.O e.ai).af.length
    rw[ig bu.1];exact this
  ·split
   ·exact h.jt (List.length_set) rfl
   ·split
    ·exact h.jt rfl (List.length_set)
    ·split
     ·exact h.jt rfl (List.length_set)
     ·split
      ·exact Jr h _
      ·exact h
theorem oc {p:az} {e:Event} (h:eZ p e=true) (aC:e.op=1∨e.op=2):0≤e.ai∧e.ai<p.O.length:=by
 rw[Eu aC,Bool.and_eq_true] at h
 exact s9 h.1
theorem Ey {p:az} {e:Event} (h:eZ p e=true) (aC:e.op=3∨e.op=4):0≤e.ai∧e.ai<p.af:=by
 rw[Ev (by omega) aC,Bool.and_eq_true] at h
 exact s9 h.1
theorem wi {p:az} {e:Event} (h:eZ p e=true) (aC:e.op=5∨e.op=6):0≤e.ai∧e.ai<p.be.length:=by
 rcases aC with aC | aC
 ·rw[A7 aC,Bool.and_eq_true] at h;exact s9 h.1
 ·rw[A8 aC,Bool.and_eq_true] at h;exact s9 h.1
theorem Bl {p:az} {f:Frame} (h:Fit p f):jz f:=by
 have cx:=h.in
 have dc:=h.fr
 have h1:=cx.c0
 have h2:=cx.sw
 have aP:=cx.O
 have a8:=dc.av
 have cs:=dc.au
 have cT:=dc.O
 refine⟨by omega,by omega,by omega,fun x hx=> ?_⟩
 obtain⟨i,hi,rfl⟩:=List.mem_iff_getElem.1 hx
 have aM:i<p.O.length:=by omega
 have:=(cx.af _ (List.getElem_mem aM)).2.1
 rw[dc.ac i _ _ (List.getElem?_eq_getElem hi) (List.getElem?_eq_getElem aM)];omega
theorem KD {p:az} {f:Frame} {e:Event} (h:Fit p f) (he:eZ p e=true):Fit p (gP p f e).frame:=by
 unfold gP
 split
 ·exact h
 ·exact⟨h.l7,z0 (yr h.fr (oc he)) _⟩
theorem J7 {p:az} (h:ea p=true):Fit p (en p):=by
 have cx:=tj h
 have h1:=cx.c0
 unfold en
 rw[if_pos h]
 refine⟨h,by show((List.replicate _ _).length:Int)=_;rw[List.length_replicate];omega,by show(List.replicate _ _).length=_;rw[List.length_replicate],by show(List.map _ _).length=_;rw[List.length_map],fun i x w bA e2=> ?_,fun x hx=> ?_⟩
 ·replace bA:(List.map _ _)[i]?=some x:=bA
  rw[List.getElem?_map,e2] at bA
  cases bA;simp[hq]
 ·obtain⟨w,_,rfl⟩:=List.mem_map.1 hx
  exact(FT _).2
def jy (p:az):Frame→List Event→List fJ
 | _,[]=>[]
 | f,e::es=>if eZ p e=true then gP p f e::jy p (gP p f e).frame es else⟨1,f⟩::jy p f es
def nI (p:az):Frame→List Event→Frame
 | f,[]=>f
 | f,e::es=>nI p (if eZ p e=true then(gP p f e).frame else f) es
def sq (p:az) (es:List Event):List fJ:=if ea p=true∧es.length≤1000 then jy p (en p) es else[]
theorem P8 (p:az) (e:Event): ∀(es:List Event) (f:Frame),jy p f (es++[e])=jy p f es++[if eZ p e=true then gP p (nI p f es) e else⟨1,nI p f es⟩]∧nI p f (es++[e])=(if eZ p e=true then(gP p (nI p f es) e).frame else nI p f es)
 | [],f=>by
  show(if eZ p e=true then _ else _)=_∧_
  constructor
  ·by_cases h:eZ p e=true
   ·rw[if_pos h];simp[jy,nI,h]
   ·rw[if_neg h];simp[jy,nI,h]
  ·rfl
 | d::es,f=>by
  have bS:=fun g=>P8 p e es g
  by_cases h:eZ p d=true
  ·simp only[List.cons_append,jy,nI,if_pos h]
   exact⟨by rw[(bS _).1],(bS _).2⟩
  ·simp only[List.cons_append,jy,nI,if_neg h]
   exact⟨by rw[(bS _).1],(bS _).2⟩
theorem GV {p:az}: ∀(es:List Event) {f:Frame},Fit p f→Fit p (nI p f es)
 | [],f,h=>h
 | e::es,f,h=>by
  unfold nI
  by_cases he:eZ p e=true
  ·rw[if_pos he];exact GV es (KD h he)
  ·rw[if_neg he];exact GV es h
theorem CV (p:az): ∀(es:List Event) (f:Frame),(jy p f es).length=es.length
 | [],f=>rfl
 | e::es,f=>by
  unfold jy
  split
  ·rw[List.length_cons,CV p es];rfl
  ·rw[List.length_cons,CV p es];rfl
section
variable {P:Program} {esc:List Nat} {ops:Array Oper} {n:Nat} {X:List Item} {i0:Nat} {A:List (Nat×AV)} {L:List (Nat×List AV)} {H:List Blk} {K:List (Nat×AV)→List (Nat×List AV)→List Blk→Prop}
theorem agk (a5:Nat) (d:Option Nat) (N:List (Nat×AV)) {i:Int} (B:Int) (z:List AV) (F:List Blk→Prop) (m:Nat) (kX:List Blk) (aU:0≤i∧B*i≤140737488355328∧i≤4611686018427387904) (aL:H.length=m) (hx:H++[⟨0,1,List.map aY (List.replicate i.toNat false)⟩]=kX) (dc:F kX)
  (h:evSD P esc ops n (X.drop (i0+a5)) (di d (.ref m 0 0 (List.replicate i.toNat false).length false) N A) L kX K) (aO:z=aY false:=by rfl)
  (e: ∀K,evSD P esc ops n ((X.drop i0).take a5) A L H K=(0≤i∧i≤i∧B*i≤140737488355328∧i≤4611686018427387904∧F (H++[⟨0,1,List.replicate i.toNat z⟩])∧K (di d (.ref H.length 0 0 i.toNat false) N A) L (H++[⟨0,1,List.replicate i.toNat z⟩])):=by intro K;kernel_rfl):evSD P esc ops n (X.drop i0) A L H K:=by
 rw[ly X i0 a5,e]
 subst aL;subst hx;subst aO
 rw[List.length_replicate,List.map_replicate] at h
 rw[List.map_replicate] at dc
 exact⟨aU.1,Int.le_refl _,aU.2.1,aU.2.2,⟨dc,h⟩⟩
end
theorem adk (a b:List cA) (q:List a_):jP (a++b) q=jP b (jP a q):=by unfold jP;rw[List.foldl_append]
def kV (w:Way):List (List cA):=[w.a2,w.bB]
theorem S2 (w:Way):(kV w).flatten=bz w:=by simp[kV,bz]
theorem ago {w:Way} {j:Nat} {q:List a_} (h:j<(kV w).length):jP ((kV w).take (j+1)).flatten q=jP (kV w)[j] (jP ((kV w).take j).flatten q):=by
 rw[List.take_succ_eq_append_getElem h,List.flatten_append,adk];simp
theorem agp {w:Way} {v:Int} {x:cA} (h:v.toNat<(kV w).length) (hx:x∈nth (kV w) v):x∈bz w:=by
 rw[←S2];exact List.mem_flatten.2 ⟨_,dq h,hx⟩
def NZ (p:az) (t:Int) (k:Bool) (o:List Bool) (q:List a_) (w:List ad) (i:List Nat) (b:List (List Bool)):Prop:=
 gy w i b∧sC p∧0≤t∧t<w.length∧t<p.O.length∧q.length=p.be.length
def B_ (p:az) (t:Int) (k:Bool) (o:List Bool) (q:List a_) (w:List ad) (i:List Nat) (b:List (List Bool)) (lH:List Bool) (tm:List a_) (w':List ad) (jb:List Nat) (ct:List (List Bool)):Prop:=
 tm=jP (bz (nth p.O t)) q∧gy w' jb ct∧view w' jb ct=(view w i b).set t.toNat {nth (view w i b) t with ao:=1}
def NY (p:az) (t:Int) (k:Bool) (o:List Bool) (q:List a_) (w:List ad) (i:List Nat) (b:List (List Bool)):Prop:=
 gy w i b∧sC p∧0≤t∧t<w.length∧t<p.O.length∧(o.length:Int)=p.af
def AE (p:az) (f:Frame) (t:Int):ad:=
 if((nth f.O t).aq&&gh f (nth p.O t).cu)=true then{nth f.O t with ao:=3,ar:=p.dx} else hq (nth f.O t).ac.length
def sH (f:Frame) (t:Int):Int:=if(nth f.O t).ao≠1∧(nth f.O t).ao≠2 then 2 else 0
def uS (p:az) (t:Int) (k:Bool) (o:List Bool) (q:List a_) (w:List ad) (i:List Nat) (b:List (List Bool)) (lH:List Bool) (tm:List a_) (w':List ad) (jb:List Nat) (ct:List (List Bool)) (r:Int):Prop:=
 gy w' jb ct∧r=sH (c5 k o q w i b) t∧view w' jb ct=(if sH (c5 k o q w i b) t=0 then(view w i b).set t.toNat (AE p (c5 k o q w i b) t) else view w i b)
def jL (p:az) (f:Frame) (e:Event):Frame:=if e8 p f e=0 then ff p f e else f
def gr (p:az) (f:Frame) (e:Event):fJ:=if(ev p f&&eZ p e)=true then⟨e8 p f e,ee p (jL p f e)⟩ else⟨1,⟨false,[],[],[]⟩⟩
def CW (p:az) (f:Frame) (e:Event):Prop:=jz f
theorem abN {p:az} {f:Frame} {e:Event} (h:il p f) (he:eZ p e=true):il p (jL p f e):=by
 unfold jL
 split
 ·exact yr h (oc he)
 ·exact h
theorem Ms {p:az} {f:Frame} (h:il p f) {t:Int} (aU:0≤t) (h1:t<p.O.length):hq (nth f.O t).ac.length=a6 p t:=by
 have aL:=h.O
 have a4:=h.at (i:=t.toNat) (by omega)
 rw[ig aU,ig aU] at a4
 unfold a6;rw[a4.1]
def xL (p:az) (f:Frame) (e:Event):fJ:=if(gr p f e).code=1 then⟨(gr p f e).code,f⟩ else gr p f e
def iB (p:az) (f:Frame) (i:Nat) (h:ad):ad:=
 let s:=(nth p.O i).af
 if h.ao=0 then h else
 let h:=if h.ao≠4∧dG f (nth s 0)=true then{h with ao:=4,ar:=0} else h
 let h:=if h.ao=1∨h.ao=2 then(if gg p f i=true then{h with ao:=2,aq:=true} else{h with ao:=1}) else h
 if h.ao=4 then gW s f h else h
theorem af9 (p:az) (f:Frame) (i:Nat):mm p f i=iB p f i (nth f.O i):=rfl
theorem SO {p:az} {f g:Frame} {i:Nat} {h:ad} (h1:f.av=g.av) (h2:f.au=g.au):iB p f i h=iB p g i h:=by
 have bA: ∀x,dG f x=dG g x:=fun x=>by unfold dG;rw[h1]
 have e2: ∀s x,gW s f x=gW s g x:=fun s x=>Pc h1
 have dV:gg p f i=gg p g i:=HC h1 h2
 unfold iB
 simp only[bA,e2,dV]
section
variable {p:az} {f:Frame} {i:Nat} {h:ad}
theorem xQ (aU:h.ao=0):iB p f i h=h:=by unfold iB;simp[aU]
theorem C8 (aU:h.ao=4):iB p f i h=gW (nth p.O i).af f h:=by unfold iB;simp[aU]
theorem C_ (aU:h.ao≠0) (a8:h.ao≠4) (aC:dG f (nth (nth p.O i).af 0)=true):iB p f i h=gW (nth p.O i).af f {h with ao:=4,ar:=0}:=by unfold iB;simp[aU,a8,aC]
theorem Da (aU:h.ao=1∨h.ao=2) (aC:dG f (nth (nth p.O i).af 0)=false) (aI:gg p f i=true):iB p f i h={h with ao:=2,aq:=true}:=by
 unfold iB
 rcases aU with aU | aU<;>simp[aU,aC,aI]
theorem C9 (aU:h.ao=1∨h.ao=2) (aC:dG f (nth (nth p.O i).af 0)=false) (aI:gg p f i=false):iB p f i h={h with ao:=1}:=by
 unfold iB
 rcases aU with aU | aU<;>simp[aU,aC,aI]
theorem Db (h1:h.ao≠1) (h2:h.ao≠2) (a8:h.ao≠4) (aC:dG f (nth (nth p.O i).af 0)=false):iB p f i h=h:=by
 unfold iB
 simp[h1,h2,a8,aC]
end
theorem TD (f:Frame): ∀(b:List Bool) (s:List Int),List.zipWith (fun b x=>b || dG f x) (List.zipWith (fun b x=>b || dG f x) b s) s=List.zipWith (fun b x=>b || dG f x) b s
 | [],s=>rfl
 | b::bs,[]=>rfl
 | b::bs,x::s=>by
  simp only[List.zipWith_cons_cons,TD f bs s]
  cases b<;>cases dG f x<;>rfl
theorem Lt {s:List Int} {f:Frame} {ac:List Bool}: ∀(n g:Nat),s.length≤n+g→ ¬(fF s f ac n g<s.length∧ac.getD (fF s f ac n g) false=true∧dG f (s.getD (fF s f ac n g) 0)=false∧(fF s f ac n g+1=s.length∨ac.getD (fF s f ac n g+1) false=true))
 | 0,g,h=>fun bY=>by have:=bY.1;unfold fF at this;omega
 | n+1,g,h=>by
  by_cases hc:g<s.length∧ac.getD g false=true∧dG f (s.getD g 0)=false∧(g+1=s.length∨ac.getD (g+1) false=true)
  ·have e:fF s f ac (n+1) g=fF s f ac n (g+1):=if_pos hc
   rw[e];exact Lt n (g+1) (by omega)
  ·have e:fF s f ac (n+1) g=g:=if_neg hc
   rw[e];exact hc
theorem W9 {s:List Int} {f:Frame} {ac:List Bool} {n m g:Nat} (h:s.length≤n+g):fF s f ac m (fF s f ac n g)=fF s f ac n g:=Bo (Lt n g h)
theorem Lw {s:List Int} {f:Frame} {ac:List Bool}: ∀(n g:Nat),(∀j,j<g→ac.getD j false=true)→ ∀j,j<fF s f ac n g→ac.getD j false=true
 | 0,g,h=>h
 | n+1,g,h=>by
  unfold fF
  split
  ·rename_i hc
   refine Lw n (g+1) fun j aM=> ?_
   by_cases e:j=g
   ·subst e;exact hc.2.1
   ·exact h j (by omega)
  ·exact h
theorem Pd (s:List Int) (f:Frame) (h:ad) (a8:h.ao=4):(gW s f h=hq s.length)∨((gW s f h).ao=4∧gW s f (gW s f h)=gW s f h):=by
 unfold gW
 simp only
 split
 ·exact .inl rfl
 ·rename_i hg
  refine .inr ⟨a8,?_⟩
  simp only[TD,Int.toNat_natCast]
  rw[W9 (by omega),if_neg hg]
theorem aga (p:az) (f:Frame) (i:Nat) (h:ad):iB p f i (iB p f i h)=iB p f i h:=by
 have key: ∀x:ad,x.ao=4→iB p f i (gW (nth p.O i).af f x)=gW (nth p.O i).af f x:=fun x hx=>by
  rcases Pd (nth p.O i).af f x hx with e | ⟨bA,e2⟩
  ·rw[e];exact xQ rfl
  ·rw[C8 bA,e2]
 by_cases aU:h.ao=0
 ·rw[xQ aU,xQ aU]
 by_cases a8:h.ao=4
 ·rw[C8 a8];exact key h a8
 cases aC:dG f (nth (nth p.O i).af 0) with
 | true=>rw[C_ aU a8 aC];exact key _ rfl
 | false=>
  by_cases og:h.ao=1∨h.ao=2
  ·cases aI:gg p f i with
   | true=>rw[Da og aC aI,Da (.inr rfl) aC aI]
   | false=>rw[C9 og aC aI,C9 (.inl rfl) aC aI]
  ·rw[Db (fun e=>og (.inl e)) (fun e=>og (.inr e)) a8 aC,Db (fun e=>og (.inl e)) (fun e=>og (.inr e)) a8 aC]
theorem xJ (p:az) (f:Frame): ∀(n j:Nat),(ij p n f).O[j]?=(f.O[j]?).map fun h=>if j<n then iB p f j h else h
 | 0,j=>by
  show f.O[j]?=_
  cases f.O[j]?<;>simp
 | n+1,j=>by
  show((ij p n f).O.set n (mm p (ij p n f) n))[j]?=_
  rw[List.getElem?_set]
  have s:=qc p f n
  split
  ·rename_i e;subst e
   have aL:=pd p f n
   by_cases aF:n<f.O.length
   ·rw[if_pos (by omega),af9,SO s.2.1 s.2.2]
    have bS:=xJ p f n n
    rw[List.getElem?_eq_getElem aF,List.getElem?_eq_getElem (by omega)] at bS
    have Zu:(ij p n f).O[n]=f.O[n]:=by simpa using bS
    rw[iJ (by omega),Zu,List.getElem?_eq_getElem aF]
    simp
   ·rw[if_neg (by omega),List.getElem?_eq_none (by omega)];rfl
  ·rename_i cm
   rw[xJ p f n j]
   congr 1
   funext h
   by_cases aM:j<n
   ·rw[if_pos aM,if_pos (by omega)]
   ·rw[if_neg aM,if_neg (by omega)]
theorem z1 {p:az} {f:Frame} {i:Int} (aU:0≤i) (h1:i<f.O.length):nth (ee p f).O i=iB p f i.toNat (nth f.O i):=by
 have e:=xJ p f f.O.length i.toNat
 have aL:=pd p f f.O.length
 rw[List.getElem?_eq_getElem (by omega),List.getElem?_eq_getElem (show i.toNat<f.O.length by omega)] at e
 unfold ee
 rw[gq (by omega),gq (show i.toNat<f.O.length by omega)]
 simpa[show i.toNat<f.O.length by omega] using e
theorem adn (p:az) (f:Frame):(ee p (ee p f)).O=(ee p f).O:=by
 apply List.ext_getElem?
 intro j
 have s:=qc p f f.O.length
 have aL:=pd p f f.O.length
 unfold ee
 rw[xJ,xJ,aL]
 cases h:f.O[j]? with
 | none=>rfl
 | some x=>
  have aM:=(List.getElem?_eq_some_iff.1 h).1
  simp only[Option.map_some,if_pos aM]
  rw[SO s.2.1 s.2.2,aga]
structure oM (n:Nat) (dx:Int) (h:ad):Prop where
 aJ:0≤h.ao∧h.ao≤4
 len:h.ac.length=n
 ag:0≤h.ag∧h.ag<n
 still:h.ao≠4→h.ag=0∧ ∀b∈h.ac,b=false
 ac: ∀j,j<h.ag.toNat→h.ac.getD j false=true
 t3:h.ao=3→h.aq=true∧1≤h.ar∧h.ar≤dx
 t:h.ao≠3→h.ar=0
 ed:h.ao=0→h.aq=false
 s2:h.ao=2→h.aq=true
theorem Me {p:az} {f:Frame} {i:Int}:ho p f i=true↔oM (nth p.O i).af.length p.dx (nth f.O i):=by
 unfold ho
 simp only
 generalize nth f.O i=h
 generalize (nth p.O i).af.length=n
 have eT: ∀(l:List Bool) (k:Nat),k≤l.length→((l.take k).all (fun b=>b)=true↔ ∀j,j<k→l.getD j false=true):=fun l k hk=>by
  rw[List.all_eq_true]
  constructor
  ·intro h j aM
   have:l[j]'(by omega)=true:=h _ (List.mem_take_iff_getElem.2 ⟨j,by omega,rfl⟩)
   rw[List.getD_eq_getElem?_getD,List.getElem?_eq_getElem (by omega)];exact this
  ·intro h x hx
   obtain⟨j,aM,rfl⟩:=List.mem_take_iff_getElem.1 hx
   have:=h j (by omega)
   rw[List.getD_eq_getElem?_getD,List.getElem?_eq_getElem (by omega)] at this;exact this
 rw[Bool.and_eq_true,Bool.and_eq_true,Bool.and_eq_true,Bool.and_eq_true,Bool.and_eq_true,jd,jd,decide_eq_true_eq,Bool.or_eq_true,Bool.and_eq_true,decide_eq_true_eq,decide_eq_true_eq,List.all_eq_true]
 constructor
 ·rintro⟨⟨⟨⟨⟨h1,h2⟩,aP⟩,a8⟩,cs⟩,cT⟩
  refine⟨h1,h2,by omega,fun aF=> ?_,(eT _ _ (by omega)).1 cs,fun e=> ?_,fun e=> ?_,fun e=> ?_,fun e=> ?_⟩
  ·rcases a8 with a8 | a8
   ·exact absurd a8 aF
   ·exact⟨a8.1,fun b hb=>by have:=a8.2 b hb;simpa using this⟩
  ·rw[if_pos e,Bool.and_eq_true,jd] at cT;exact cT
  ·rw[if_neg e] at cT;simp only[Bool.and_eq_true,decide_eq_true_eq] at cT;exact cT.1.1
  ·rw[if_neg (by omega)] at cT;simp only[Bool.and_eq_true,decide_eq_true_eq,Bool.or_eq_true,Bool.not_eq_true'] at cT
   rcases cT.1.2 with h | h
   ·exact absurd e h
   ·exact h
  ·rw[if_neg (by omega)] at cT;simp only[Bool.and_eq_true,decide_eq_true_eq,Bool.or_eq_true,Bool.not_eq_true'] at cT
   rcases cT.2 with h | h
   ·exact absurd e h
   ·exact h
 ·intro H
  have hg:=H.ag
  have aL:=H.len
  refine⟨⟨⟨⟨⟨H.aJ,H.len⟩,by omega⟩,?_⟩,(eT _ _ (by omega)).2 H.ac⟩,?_⟩
  ·by_cases a8:h.ao=4
   ·exact .inl a8
   ·exact .inr ⟨(H.still a8).1,fun b hb=>by rw[(H.still a8).2 b hb];rfl⟩
  ·by_cases aP:h.ao=3
   ·rw[if_pos aP,Bool.and_eq_true,jd];exact H.t3 aP
   ·rw[if_neg aP];simp only[Bool.and_eq_true,decide_eq_true_eq,Bool.or_eq_true,Bool.not_eq_true']
    refine⟨⟨H.t aP,?_⟩,?_⟩
    ·by_cases aU:h.ao=0
     ·exact .inr (H.ed aU)
     ·exact .inl aU
    ·by_cases aU:h.ao=2
     ·exact .inr (H.s2 aU)
     ·exact .inl aU
theorem BN {n:Nat} {dx:Int} (h:0<n):oM n dx (hq n) where
 aJ:=⟨show(0:Int)≤0 by decide,show(0:Int)≤4 by decide⟩
 len:=by simp[hq]
 ag:=⟨Int.le_refl _,show(0:Int)<n by omega⟩
 still:=fun _=>⟨rfl,fun b hb=>(List.mem_replicate.1 hb).2⟩
 ac:=fun j aM=>absurd aM (Nat.not_lt_zero _)
 t3:=fun e=>absurd e (show ¬(0:Int)=3 by decide)
 t:=fun _=>rfl
 ed:=fun _=>rfl
 s2:=fun e=>absurd e (show ¬(0:Int)=2 by decide)
theorem Mf {n:Nat} {dx:Int} {s:List Int} {f:Frame} {h:ad} (aF:s.length=n) (aU:0<n) (H:oM n dx h) (a8:h.ao=4):oM n dx (gW s f h):=by
 subst aF
 have aO:(List.zipWith (fun b x=>b || dG f x) h.ac s).length=s.length:=by rw[List.length_zipWith,H.len];omega
 have hg:=H.ag
 have sZ:=(EY (s:=s) (f:=f) (ac:=List.zipWith (fun b x=>b || dG f x) h.ac s) s.length h.ag.toNat (by omega)).2
 have uK: ∀j,h.ac.getD j false=true→(List.zipWith (fun b x=>b || dG f x) h.ac s).getD j false=true:=fun j aM=>by
  have oY:j<h.ac.length:=by
   by_cases oY:j<h.ac.length
   ·exact oY
   ·rw[List.getD_eq_getElem?_getD,List.getElem?_eq_none (by omega)] at aM;cases aM
  have aL:=H.len
  rw[List.getD_eq_getElem?_getD,List.getElem?_eq_getElem oY] at aM
  rw[List.getD_eq_getElem?_getD,List.getElem?_eq_getElem (by omega),List.getElem_zipWith]
  have aM:h.ac[j]=true:=aM
  rw[aM];rfl
 unfold gW
 simp only
 split
 ·exact BN aU
 ·rename_i cm
  exact⟨H.aJ,aO,⟨Int.natCast_nonneg _,by simp only;omega⟩,fun e=>absurd a8 e,by
   simp only[Int.toNat_natCast]
   exact Lw _ _ fun j aM=>uK j (H.ac j aM),H.t3,H.t,H.ed,H.s2⟩
theorem YG {p:az} {f:Frame} {i:Nat} {h:ad} {n:Nat} (aF:(nth p.O i).af.length=n) (aU:0<n) (H:oM n p.dx h):oM n p.dx (iB p f i h):=by
 by_cases hX:h.ao=0
 ·rw[xQ hX];exact H
 by_cases a8:h.ao=4
 ·rw[C8 a8];exact Mf aF aU H a8
 have bi:=H.aJ
 cases aC:dG f (nth (nth p.O i).af 0) with
 | true=>
  rw[C_ hX a8 aC]
  refine Mf aF aU ⟨⟨show(0:Int)≤4 by decide,show(4:Int)≤4 by decide⟩,H.len,H.ag,fun e=>absurd rfl e,H.ac,fun e=>absurd e (show ¬(4:Int)=3 by decide),fun _=>rfl,fun e=>absurd e (show ¬(4:Int)=0 by decide),fun e=>absurd e (show ¬(4:Int)=2 by decide)⟩ rfl
 | false=>
  by_cases og:h.ao=1∨h.ao=2
  ·have hs:=H.still a8
   have bu:=H.t (by omega)
   cases aI:gg p f i with
   | true=>
    rw[Da og aC aI]
    exact⟨⟨show(0:Int)≤2 by decide,show(2:Int)≤4 by decide⟩,H.len,H.ag,fun _=>hs,H.ac,fun e=>absurd e (show ¬(2:Int)=3 by decide),fun _=>bu,fun e=>absurd e (show ¬(2:Int)=0 by decide),fun _=>rfl⟩
   | false=>
    rw[C9 og aC aI]
    exact⟨⟨show(0:Int)≤1 by decide,show(1:Int)≤4 by decide⟩,H.len,H.ag,fun _=>hs,H.ac,fun e=>absurd e (show ¬(1:Int)=3 by decide),fun _=>bu,fun e=>absurd e (show ¬(1:Int)=0 by decide),fun e=>absurd e (show ¬(1:Int)=2 by decide)⟩
  ·rw[Db (fun e=>og (.inl e)) (fun e=>og (.inr e)) a8 aC];exact H
theorem agb {p:az} {f:Frame} {i:Nat} {h:ad} (hs:(iB p f i h).ao≠0):h.ao≠0:=fun e=>hs (by rw[xQ e];exact e)
structure pt (p:az) (f:Frame):Prop where
 base:rO p f=true
 jt: ∀x∈f.au,js x=true
 held: ∀i:Int,0≤i→i<f.O.length→oM (nth p.O i).af.length p.dx (nth f.O i)
 bW: ∀i k:Int,0≤i→i<f.O.length→0≤k→k<f.O.length→iG p f i k=false
theorem sg {p:az} {f:Frame} (h:ev p f=true):pt p f∧ee p f=f:=by
 obtain⟨a,b,c,d,e⟩:=ud.1 h
 refine⟨⟨a,b,fun i i0 i1=>Me.1 (c i i0 i1),d⟩,?_⟩
 have s:=qc p f f.O.length
 have h1:(ee p f).ok=f.ok:=s.1
 have h2:(ee p f).av=f.av:=s.2.1
 have aP:(ee p f).au=f.au:=s.2.2
 generalize ee p f=g at e h1 h2 aP
 cases g;cases f
 simp only at e h1 h2 aP
 subst e;subst h1;subst h2;subst aP;rfl
theorem J6 {p:az} {f g:Frame} (aL:g.O.length=f.O.length) (hs: ∀i:Int,0≤i→i<f.O.length→(nth g.O i).ao≠0→(nth f.O i).ao≠0)
  (h: ∀i k:Int,0≤i→i<f.O.length→0≤k→k<f.O.length→iG p f i k=false): ∀i k:Int,0≤i→i<g.O.length→0≤k→k<g.O.length→iG p g i k=false:=fun i k i0 i1 a5 df=>by
 have h1:=h i k i0 (by omega) a5 (by omega)
 cases hb:iG p g i k with
 | false=>rfl
 | true=>
  unfold iG at hb h1
  simp only[Bool.and_eq_true,bne_iff_ne,ne_eq] at hb
  have s1:=hs i i0 (by omega) hb.2.2.1
  have s2:=hs k a5 (by omega) hb.2.2.2
  rw[show(i !=k)=true by simpa using hb.1,hb.2.1,show((nth f.O i).ao !=0)=true by simpa using s1,show((nth f.O k).ao !=0)=true by simpa using s2] at h1
  cases h1
theorem zS {p:az} (h:ea p=true) {i:Int} (i0:0≤i) (i1:i<p.O.length):0<(nth p.O i).af.length:=
 List.length_pos_iff.2 ((tj h).af _ (dq (by omega))).1
theorem Pr {p:az} {f:Frame} (h:pt p f):ev p (ee p f)=true:=by
 obtain⟨jn,dk,qp,jV,jC⟩:=m1.1 h.base
 have s:=qc p f f.O.length
 have aL:(ee p f).O.length=f.O.length:=pd p f f.O.length
 have h1:(ee p f).ok=f.ok:=s.1
 have h2:(ee p f).av=f.av:=s.2.1
 have aP:(ee p f).au=f.au:=s.2.2
 refine ud.2 ⟨m1.2 ⟨jn,by rw[h1];exact dk,by rw[h2];exact qp,by rw[aP];exact jV,by rw[aL];exact jC⟩,by rw[aP];exact h.jt,fun i i0 i1=> ?_,J6 aL (fun i i0 i1 hs=> ?_) h.bW,(adn p f).symm⟩
 ·have Mr:i<f.O.length:=by omega
  rw[Me,z1 i0 Mr]
  exact YG (by rw[ig i0]) (zS jn i0 (by omega)) (h.held i i0 Mr)
 ·rw[z1 i0 i1] at hs;exact agb hs
theorem p2 {α:Type} [Inhabited α] {l:List α} {t i:Int} {x:α} (t0:0≤t) (i0:0≤i) (i1:i<l.length):nth (l.set t.toNat x) i=if i=t then x else nth l i:=by
 rw[gq (by rw[List.length_set];omega),gq (show i.toNat<l.length by omega),List.getElem_set]
 by_cases e:i=t
 ·rw[if_pos (by omega),if_pos e]
 ·rw[if_neg (by omega),if_neg e]
theorem Ad {p:az} {ws:List ad} {i:Int} (i0:0≤i) (i1:i<ws.length): ∀n:Nat,nth (hU p n ws) i=if i<n then lj p i.toNat (nth ws i) else nth ws i
 | 0=>by rw[if_neg (by omega)];rfl
 | n+1=>by
  show nth ((hU p n ws).set n (lj p n (nth (hU p n ws) n))) i=_
  have aL:=Ac p ws n
  have e:=p2 (l:=hU p n ws) (t:=(n:Int)) (i:=i) (x:=lj p n (nth (hU p n ws) n)) (by omega) i0 (by omega)
  rw[Int.toNat_natCast] at e
  rw[e]
  by_cases aF:i=n
  ·subst aF
   rw[if_pos rfl,if_pos (by omega),Ad i0 i1 n,if_neg (by omega),Int.toNat_natCast]
  ·rw[if_neg aF,Ad i0 i1 n]
   by_cases hi:i<n
   ·rw[if_pos hi,if_pos (by omega)]
   ·rw[if_neg hi,if_neg (by omega)]
theorem YH {p:az} (h:ea p=true):1≤p.dx∧p.dx≤300:=(sj.1 (vd h).1).2.1
theorem Qp: ∀(l:List cA) (q:List a_),(∀x∈l,0≤x.sw∧x.sw<q.length∧(x.bp=1∨x.bp=2))→(∀x∈q,js x=true)→ ∀x∈jP l q,js x=true
 | [],q,_,h=>h
 | y::l,q,aL,h=>by
  show ∀x∈jP l (q.set y.sw.toNat ⟨y.bp,(nth q y.sw).a2⟩),js x=true
  have hy:=aL y (List.mem_cons_self ..)
  refine Qp l _ (fun x hx=>by rw[List.length_set];exact aL x (List.mem_cons_of_mem _ hx)) fun x hx=> ?_
  rcases List.mem_or_eq_of_mem_set hx with hx | rfl
  ·exact h x hx
  ·have:=h _ (dq (show y.sw.toNat<q.length by omega))
   unfold js at this ⊢
   rw[Bool.and_eq_true,jd,jd] at this ⊢
   exact⟨by show 1≤y.bp∧y.bp≤2;omega,this.2⟩
theorem Pt {p:az} {f:Frame} (h:pt p f) {ws:List ad} (aL:ws.length=f.O.length) (hk: ∀i:Int,0≤i→i<f.O.length→oM (nth p.O i).af.length p.dx (nth ws i))
  (hs: ∀i:Int,0≤i→i<f.O.length→(nth ws i).ao≠0→(nth f.O i).ao≠0):pt p {f with O:=ws}:=by
 obtain⟨jn,dk,qp,jV,jC⟩:=m1.1 h.base
 exact⟨m1.2 ⟨jn,dk,qp,jV,by show(ws.length:Nat)=_;omega⟩,h.jt,fun i i0 i1=>hk i i0 (by rw[←aL];exact i1),J6 (f:=f) aL hs h.bW⟩
theorem Ps {p:az} {f:Frame} (h:pt p f) {t:Int} {x:ad} (t0:0≤t) (hk:oM (nth p.O t).af.length p.dx x) (hs:x.ao≠0→(nth f.O t).ao≠0):pt p {f with O:=f.O.set t.toNat x}:=by
 refine Pt h (List.length_set ..) (fun i i0 i1=> ?_) fun i i0 i1=> ?_
 ·rw[p2 t0 i0 i1]
  split
  ·rename_i e;rw[e];exact hk
  ·exact h.held i i0 i1
 ·rw[p2 t0 i0 i1]
  split
  ·rename_i e;rw[e];exact hs
  ·exact _root_.id
theorem CB {p:az} {f:Frame} (h:pt p f) {o:List Bool} {q:List a_} (aC:o.length=f.av.length) (aj:q.length=f.au.length) (aI: ∀x∈q,js x=true):pt p {f with av:=o,au:=q}:=by
 obtain⟨jn,dk,qp,jV,jC⟩:=m1.1 h.base
 exact⟨m1.2 ⟨jn,dk,by show(o.length:Int)=_;rw[aC];exact qp,by show q.length=_;rw[aj];exact jV,jC⟩,aI,h.held,h.bW⟩
theorem Qs {q:List a_} {k:Nat} {x:a_} (h: ∀x∈q,js x=true) (hx:js x=true): ∀y∈q.set k x,js y=true:=fun y hy=>by
 rcases List.mem_or_eq_of_mem_set hy with hy | rfl
 ·exact h y hy
 ·exact hx
theorem YF {n:Nat} {dx:Int} {h:ad} (H:oM n dx h) {x:Int} (a8:h.ao≠4) (hx:x=1) (aP:h.ao≠3):oM n dx {h with ao:=x}:=by
 subst hx
 exact⟨⟨show(0:Int)≤1 by decide,show(1:Int)≤4 by decide⟩,H.len,H.ag,fun _=>H.still a8,H.ac,fun e=>absurd e (show ¬(1:Int)=3 by decide),fun _=>H.t aP,fun e=>absurd e (show ¬(1:Int)=0 by decide),fun e=>absurd e (show ¬(1:Int)=2 by decide)⟩
theorem acs {p:az} {f:Frame} {e:Event} (h:pt p f) (he:eZ p e=true):pt p (jL p f e):=by
 obtain⟨jn,dk,qp,jV,jC⟩:=m1.1 h.base
 have cx:=tj jn
 have dW:=vc jn
 have aV:=YH jn
 unfold jL
 split
 case isFalse=>exact h
 rename_i hc
 unfold ff
 split
 ·rename_i h1
  obtain⟨t0,t1⟩:=oc he (.inl h1)
  have Jm:e.ai<f.O.length:=by omega
  have hw:eY p f e.ai=0:=by unfold e8 at hc;rwa [if_pos h1] at hc
  have bi:(nth f.O e.ai).ao=0:=by
   unfold eY at hw
   by_cases aU:(nth f.O e.ai).ao=0
   ·exact aU
   ·rw[if_pos aU] at hw;cases hw
  have XX:(lN p f e.ai).O=[]:=by
   unfold eY at hw
   rw[if_neg (by rw[bi];simp)] at hw
   unfold codeF at hw
   by_cases aj:(lN p f e.ai).O=[]
   ·exact aj
   ·rw[if_pos aj] at hw;cases hw
  have l9:=VF.1 (show ej (k4 p f e.ai) p.O.length=[] from XX)
  have hk:=YF (x:=1) (h.held e.ai t0 Jm) (by omega) rfl (by omega)
  have LC:=CB h (o:=f.av) (q:=jP (bz (nth p.O e.ai)) f.au) rfl (zZ _ _) (Qp _ _ (fun x hx=>by
   have:=(cx.a2 _ (dq (show e.ai.toNat<p.O.length by omega))).2.2 x hx
   exact⟨this.1,by omega,Cb jn (dq (by omega)) hx⟩) h.jt)
  have k6: ∀i:Int,0≤i→i<f.O.length→nth (f.O.set e.ai.toNat {nth f.O e.ai with ao:=1}) i=if i=e.ai then{nth f.O e.ai with ao:=1} else nth f.O i:=fun i i0 i1=>p2 t0 i0 i1
  obtain⟨nx,lZ,DL,DM,ag4⟩:=m1.1 LC.base
  have Mg: ∀k:Int,0≤k→k<f.O.length→k≠e.ai→kZ p e.ai k=true→(nth f.O k).ao≠0→False:=fun k a5 df cm hb hs=>by
   have:=l9 k a5 (by omega)
   unfold k4 at this
   rw[show(k !=e.ai)=true by simpa using cm,hb,show((nth f.O k).ao !=0)=true by simpa using hs] at this
   cases this
  refine⟨m1.2 ⟨nx,lZ,DL,DM,by show(f.O.set _ _).length=_;rw[List.length_set];exact jC⟩,LC.jt,fun i i0 i1=> ?_,fun i k i0 i1 a5 df=> ?_⟩
  ·have i1:i<f.O.length:=by
    have i1:i<((f.O.set e.ai.toNat {nth f.O e.ai with ao:=1}).length:Int):=i1
    rw[List.length_set] at i1;exact i1
   show oM _ _ (nth (f.O.set e.ai.toNat {nth f.O e.ai with ao:=1}) i)
   rw[k6 i i0 i1]
   split
   ·rename_i d_;rw[d_];exact hk
   ·exact h.held i i0 i1
  ·have i1:i<f.O.length:=by
    have i1:i<((f.O.set e.ai.toNat {nth f.O e.ai with ao:=1}).length:Int):=i1
    rw[List.length_set] at i1;exact i1
   have df:k<f.O.length:=by
    have df:k<((f.O.set e.ai.toNat {nth f.O e.ai with ao:=1}).length:Int):=df
    rw[List.length_set] at df;exact df
   have dx:=h.bW i k i0 i1 a5 df
   unfold iG at dx ⊢
   show((i !=k)&&(kZ p i k&&(((nth (f.O.set e.ai.toNat {nth f.O e.ai with ao:=1}) i).ao !=0)&&((nth (f.O.set e.ai.toNat {nth f.O e.ai with ao:=1}) k).ao !=0))))=false
   rw[k6 i i0 i1,k6 k a5 df]
   by_cases wb:i=e.ai
   ·by_cases lv:k=e.ai
    ·rw[wb,lv];simp
    ·rw[if_neg lv]
     cases hb:kZ p i k with
     | false=>simp
     | true=>
      cases hs:((nth f.O k).ao !=0) with
      | false=>simp
      | true=>exact(Mg k a5 df lv (by rw[←wb];exact hb) (by simpa using hs)).elim
   ·rw[if_neg wb]
    by_cases lv:k=e.ai
    ·cases hb:kZ p i k with
     | false=>simp
     | true=>
      cases hs:((nth f.O i).ao !=0) with
      | false=>simp
      | true=>exact(Mg i i0 i1 wb (by rw[←lv,dW.sym k i a5 (by omega) i0 (by omega)];exact hb) (by simpa using hs)).elim
    ·rw[if_neg lv];exact dx
 rename_i h1
 split
 ·rename_i h2
  obtain⟨t0,t1⟩:=oc he (.inr h2)
  have Jm:e.ai<f.O.length:=by omega
  have bi: ¬((nth f.O e.ai).ao≠1∧(nth f.O e.ai).ao≠2):=by
   unfold e8 at hc
   rw[if_neg h1,if_pos h2] at hc
   intro bY;rw[if_pos bY] at hc;cases hc
  have bi:(nth f.O e.ai).ao=1∨(nth f.O e.ai).ao=2:=by omega
  have H:=h.held e.ai t0 Jm
  split
  ·rename_i aj
   rw[Bool.and_eq_true] at aj
   refine Ps h t0 ⟨⟨show(0:Int)≤3 by decide,show(3:Int)≤4 by decide⟩,H.len,H.ag,fun _=>H.still (by omega),H.ac,fun _=>⟨aj.1,aV.1,Int.le_refl _⟩,fun e=>absurd rfl e,fun e=>absurd e (show ¬(3:Int)=0 by decide),fun e=>absurd e (show ¬(3:Int)=2 by decide)⟩ (fun _=>by omega)
  ·exact Ps h t0 (BN (zS jn t0 t1)) (fun bY=>absurd rfl bY)
 rename_i h2
 split
 ·exact CB h (List.length_set ..) rfl h.jt
 rename_i aP
 split
 ·rename_i cs
  obtain⟨t0,t1⟩:=wi he (.inl cs)
  rw[A7 cs,Bool.and_eq_true,jd,jd] at he
  refine CB h rfl (List.length_set ..) (Qs h.jt ?_)
  have:=h.jt _ (dq (show e.ai.toNat<f.au.length by omega))
  unfold js at this ⊢
  rw[Bool.and_eq_true,jd,jd] at this ⊢
  exact⟨this.1,he.2⟩
 rename_i cs
 split
 ·rename_i cT
  obtain⟨t0,t1⟩:=wi he (.inr cT)
  rw[A8 cT,Bool.and_eq_true,jd,jd] at he
  refine CB h rfl (List.length_set ..) (Qs h.jt ?_)
  have:=h.jt _ (dq (show e.ai.toNat<f.au.length by omega))
  unfold js at this ⊢
  rw[Bool.and_eq_true,jd,jd] at this ⊢
  exact⟨he.2,this.2⟩
 rename_i cT
 split
 ·refine Pt h (Ac _ _ _) (fun i i0 i1=> ?_) fun i i0 i1=> ?_
  ·rw[Ad i0 i1,if_pos i1]
   have H:=h.held i i0 i1
   unfold lj
   split
   ·rename_i hs
    have bu:=H.t3 hs
    have hw:IntKind.i64.wrap ((nth f.O i).ar - 1)=(nth f.O i).ar - 1:=fu (by omega) (by omega)
    rw[hw]
    split
    ·unfold a6;rw[ig i0];exact BN (zS jn i0 (by omega))
    ·exact⟨H.aJ,H.len,H.ag,H.still,H.ac,fun _=>⟨bu.1,by simp only;omega,by simp only;omega⟩,fun e=>absurd hs e,H.ed,H.s2⟩
   ·exact H
  ·rw[Ad i0 i1,if_pos i1]
   unfold lj
   split
   ·rename_i hs
    split
    ·exact fun bY=>absurd rfl bY
    ·exact _root_.id
   ·exact _root_.id
 ·exact h
theorem AG {p:az} (h:ea p=true):ev p (en p)=true:=by
 have hf:=J7 h
 have aL:=hf.fr.O
 have e:en p=⟨true,List.replicate p.af.toNat false,List.replicate p.be.length ⟨1,1⟩,p.O.map fun w=>hq w.af.length⟩:=by unfold en;rw[if_pos h]
 have hw: ∀i:Int,0≤i→i<(en p).O.length→nth (en p).O i=hq (nth p.O i).af.length:=fun i i0 i1=>by
  rw[gq (by omega),gq (show i.toNat<p.O.length by omega)]
  simp only[e,List.getElem_map]
 have lA:pt p (en p):=by
  refine⟨m1.2 ⟨h,by rw[e],hf.fr.av,hf.fr.au,aL⟩,fun x hx=> ?_,fun i i0 i1=> ?_,fun i k i0 i1 a5 df=> ?_⟩
  ·rw[e] at hx;rw[(List.mem_replicate.1 hx).2];decide
  ·rw[hw i i0 i1];exact BN (zS h i0 (by omega))
  ·unfold iG
   rw[hw i i0 i1];simp[hq]
 have hs:ee p (en p)=en p:=by
  have s:=qc p (en p) (en p).O.length
  have BY:(ee p (en p)).O=(en p).O:=by
   apply List.ext_getElem?
   intro j
   unfold ee
   rw[xJ]
   cases hx:(en p).O[j]? with
   | none=>rfl
   | some x=>
    have aM:=(List.getElem?_eq_some_iff.1 hx)
    have ux:=aM.1
    have:=hw j (by omega) (by omega)
    rw[iJ aM.1,aM.2] at this
    simp only[Option.map_some,if_pos aM.1]
    rw[xQ (by rw[this];rfl)]
  have h1:(ee p (en p)).ok=(en p).ok:=s.1
  have h2:(ee p (en p)).av=(en p).av:=s.2.1
  have aP:(ee p (en p)).au=(en p).au:=s.2.2
  generalize ee p (en p)=g at BY h1 h2 aP
  generalize en p=b at BY h1 h2 aP
  cases g;cases b
  simp only at BY h1 h2 aP
  subst BY;subst h1;subst h2;subst aP;rfl
 rw[←hs];exact Pr lA
theorem UI (p:az) (f:Frame) (e:Event):e8 p f e≠1:=by
 unfold e8 eY codeF
 repeat' split
 all_goals decide
theorem abO {p:az} {f:Frame} {e:Event} (h:ev p f=true):fJ.mk (e8 p f e) (ee p (jL p f e))=gP p f e:=by
 unfold gP jL
 by_cases hc:e8 p f e=0
 ·rw[if_pos hc,if_neg (by rw[hc];simp),hc]
 ·rw[if_neg hc,if_pos hc,(sg h).2]
theorem SQ {p:az} {f:Frame} {e:Event} (h:ev p f=true):xL p f e=(if eZ p e=true then gP p f e else⟨1,f⟩)∧ev p (xL p f e).frame=true:=by
 unfold xL gr
 rw[h,Bool.true_and]
 by_cases he:eZ p e=true
 ·simp only[if_pos he]
  rw[if_neg (UI p f e)]
  exact⟨abO h,Pr (acs (sg h).1 he)⟩
 ·simp only[if_neg he]
  exact⟨rfl,h⟩
def SK (h i v:Nat):Int:=if v=0 then 0 else if v=1 then 2 else if v<3+i∧ ¬(i=h∧v=2+h) then 3 else if i<h then 4 else 0
def Dr (h i:Nat) (D:List fJ):Prop:= ∀(v:Nat) (d:fJ),D[v]?=some d→ ∃w,d.frame.O=[w]∧w.ao=SK h i v
theorem Dr.more {h i:Nat} {D:List fJ} (k:Dr h i D) {w:ad} {c:Int} {o:Bool} {a:List Bool} {b:List a_} {n:Nat} (aF:D.length=n) (hw:w.ao=SK h i n):Dr h i (D++[⟨c,o,a,b,[w]⟩]):=fun v d bj=>by
 rcases Nat.lt_or_ge v D.length with aL | aL
 ·rw[List.getElem?_append_left aL] at bj;exact k v d bj
 ·rw[List.getElem?_append_right aL] at bj
  cases hv:v - D.length with
  | zero=>rw[hv] at bj;cases bj;exact⟨w,rfl,by rw[hw,show v=n by omega]⟩
  | succ m=>rw[hv] at bj;simp at bj
def x4 (c:List UInt8):Bool:=true
def bZ (k:Int) (c:bc):Prop:=0≤c.pos∧c.pos+k≤4611686018427387904
def lG (c:bc):bc:=bif decide (c.pos<(c.code.length:Int)) then bc.mk c.code (IntKind.i64.wrap (c.pos+1)) (IntKind.u64.wrap ((IntKind.u64.wrap ((IntKind.u64.wrap (c.tC*6364136223846793005))+(IntKind.u64.wrap (((nth c.code c.pos).toNat:Int)))))+1442695040888963407))
 else bc.mk c.code (IntKind.i64.wrap (c.pos+1)) (IntKind.u64.wrap ((IntKind.u64.wrap (c.tC*6364136223846793005))+1442695040888963407))
def m_ (c:bc):Int:=bif decide (c.pos<(c.code.length:Int)) then IntKind.i64.wrap (((nth c.code c.pos).toNat:Int))
 else IntKind.i64.wrap (IntKind.u64.wrap (((BitVec.ofInt IntKind.u64.bits ((IntKind.u64.wrap ((IntKind.u64.wrap (c.tC*6364136223846793005))+1442695040888963407)).fdiv (2 ^ (min (40:Int).toNat IntKind.u64.bits)))&&&BitVec.ofInt IntKind.u64.bits 255).toNat:Int)))
theorem agq {n:Int} (h1:0≤n) (h2:n≤9223372036854775807):IntKind.u64.wrap n=n:=by
 have e:IntKind.u64.wrap n=n%2 ^ 64:=by
  unfold IntKind.wrap
  exact if_neg (fun h=>by simp[IntKind.signed] at h)
 rw[e];omega
theorem OP (c:bc):0≤m_ c∧m_ c≤255:=by
 have key: ∀n:Nat,n≤255→(0≤IntKind.i64.wrap (n:Int)∧IntKind.i64.wrap (n:Int)≤255)∧IntKind.u64.wrap (n:Int)=n:=fun n h=>by
  rw[fu (by omega) (by omega),agq (by omega) (by omega)];omega
 unfold m_
 cases decide (c.pos<(c.code.length:Int)) with
 | true=>
  have:=(nth c.code c.pos).toNat_lt
  exact(key _ (by omega)).1
 | false=>
  have hb: ∀x:BitVec IntKind.u64.bits,(x&&&BitVec.ofInt IntKind.u64.bits 255).toNat≤255:=fun x=>by
   rw[BitVec.toNat_and];exact Nat.and_le_right
  simp only[cond_false]
  rw[(key _ (hb _)).2]
  exact(key _ (hb _)).1
theorem abU {c:bc} (h:bZ 1 c):(lG c).pos=c.pos+1:=by
 have:IntKind.i64.wrap (c.pos+1)=c.pos+1:=fu (by have:=h.1;omega) (by have:=h.2;omega)
 unfold lG
 cases decide (c.pos<(c.code.length:Int))<;>exact this
theorem bZ.mono {k l:Int} {c:bc} (h:bZ k c) (aL:l≤k):bZ l c:=⟨h.1,by have:=h.2;omega⟩
theorem bZ.next {k:Int} {c:bc} (h:bZ (k+1) c) (hk:0≤k):bZ k (lG c):=by
 have:=abU (h.mono (by omega))
 exact⟨by have:=h.1;omega,by have:=h.2;omega⟩
def iL (n:Int) (c:bc):Prop:=bZ 2 c
def bM (n:Int) (c:bc):bc:=if n≤1 then c else bif decide (n>200) then lG (lG c) else lG c
def cO (n:Int) (c:bc):Int:=if n≤1 then 0 else(bif decide (n>200) then IntKind.i64.wrap (IntKind.i64.wrap (m_ c*256)+m_ (lG c)) else m_ c).tmod n
theorem nb (n:Int) (c:bc):0≤cO n c∧(1≤n→cO n c<n):=by
 unfold cO
 split
 ·omega
 ·rename_i aF
  have h1:=OP c
  have h2:=OP (lG c)
  have h: ∀x:Int,0≤x→0≤x.tmod n∧(1≤n→x.tmod n<n):=fun x hx=>by
   rw[Int.tmod_eq_emod_of_nonneg hx]
   exact⟨Int.emod_nonneg _ (by omega),fun _=>Int.emod_lt_of_pos _ (by omega)⟩
  cases decide (n>200) with
  | true=>
   simp only[cond_true]
   refine h _ ?_
   rw[fu (n:=m_ c*256) (by omega) (by omega),fu (by omega) (by omega)];omega
  | false=>exact h _ h1.1
theorem bZ.pick {k:Int} {c:bc} {n:Int} (h:bZ (k+2) c) (hk:0≤k):bZ k (bM n c):=by
 unfold bM
 split
 ·exact h.mono (by omega)
 ·cases decide (n>200) with
  | true=>exact(bZ.next (k:=k+1) (h.mono (by omega)) (by omega)).next hk
  | false=>exact(bZ.next (k:=k+1) (h.mono (by omega)) (by omega)).mono (by omega)
def vq (n:Int) (no:List Int):Nat→bc→List Int→bc×List Int
 | 0,c,x=>(c,x)
 | k+1,c,x=>vq n no k (bM n c) (if((!(meets [cO n c] x))&&(!(meets [cO n c] no)))=true then x++[cO n c] else x)
def z3 (m:Int) (c:bc):Nat:=(cO (IntKind.i64.wrap (m+1)) c).toNat
def Ii (n m:Int) (no:List Int) (c:bc):bc×List Int:=vq n no (z3 m c) (bM (IntKind.i64.wrap (m+1)) c) []
def ia (n m:Int) (no:List Int) (c:bc):bc:=(Ii n m no c).1
def hH (n m:Int) (no:List Int) (c:bc):List Int:=(Ii n m no c).2
def z4 (n m:Int) (no:List Int) (c:bc):Prop:=bZ 10 c∧0≤m∧m≤4
theorem QR {m:Int} {c:bc} (aU:0≤m) (a8:m≤4):z3 m c≤4:=by
 unfold z3
 rw[fu (by omega) (by omega)]
 have:=(nb (m+1) c).2 (by omega)
 omega
structure vP (n:Int) (no:List Int) (x:List Int):Prop where
 xD: ∀y∈x,0≤y∧y<n
 xe:x.Nodup
 out: ∀y∈x,y ∉ no
theorem vP.push {n:Int} {no x:List Int} {c:bc} (aF:1≤n) (h:vP n no x):vP n no (if((!(meets [cO n c] x))&&(!(meets [cO n c] no)))=true then x++[cO n c] else x):=by
 split
 ·rename_i e
  rw[Bool.and_eq_true,Bool.not_eq_true',Bool.not_eq_true',uX,uX] at e
  have bA:cO n c ∉ x:=by simpa using e.1
  have e2:cO n c ∉ no:=by simpa using e.2
  have aK:=nb n c
  refine⟨fun y hy=> ?_,?_,fun y hy=> ?_⟩
  ·rcases List.mem_append.1 hy with hy | hy
   ·exact h.xD y hy
   ·obtain rfl:=List.mem_singleton.1 hy;exact⟨aK.1,aK.2 aF⟩
  ·rw[List.nodup_append]
   exact⟨h.xe,by simp,fun a a4 b hb e=>by obtain rfl:=List.mem_singleton.1 hb;subst e;exact bA a4⟩
  ·rcases List.mem_append.1 hy with hy | hy
   ·exact h.out y hy
   ·obtain rfl:=List.mem_singleton.1 hy;exact e2
 ·exact h
theorem QS {n:Int} {no:List Int} (aF:1≤n): ∀{k:Nat} {c:bc} {x:List Int} {q:Int},bZ (q+2*k) c→0≤q→vP n no x→bZ q (vq n no k c x).1∧vP n no (vq n no k c x).2∧(vq n no k c x).2.length≤x.length+k
 | 0,c,x,q,h,aj,hx=>⟨h.mono (by omega),hx,by show x.length≤_;omega⟩
 | k+1,c,x,q,h,aj,hx=>by
  have:=QS aF (q:=q) (k:=k) (c:=bM n c) (bZ.pick (h.mono (by omega)) (by omega)) aj (hx.push (c:=c) aF)
  refine⟨this.1,this.2.1,Nat.le_trans this.2.2 ?_⟩
  split<;>simp<;>omega
theorem xK {n m:Int} {no:List Int} {c:bc} {q:Int} (aF:1≤n) (h:bZ (q+10) c) (aj:0≤q) (aU:0≤m) (a8:m≤4):bZ q (ia n m no c)∧vP n no (hH n m no c)∧(hH n m no c).length≤4:=by
 have kF:=QR (c:=c) aU a8
 have:=QS aF (no:=no) (k:=z3 m c) (c:=bM (IntKind.i64.wrap (m+1)) c) (x:=[]) (q:=q) (bZ.pick (h.mono (by omega)) (by omega)) aj ⟨(by simp),List.nodup_nil,(by simp)⟩
 exact⟨this.1,this.2.1,Nat.le_trans this.2.2 (by simpa using kF)⟩
def Ak (p:az) (c:bc):bc:=bif decide ((p.O.length:Int)>0) then bM (p.O.length:Int) c else c
def Al (p:az) (c:bc):bc:=bif decide (p.af>0) then bM p.af (Ak p c) else Ak p c
def Am (p:az) (c:bc):bc:=bif decide ((p.be.length:Int)>0) then bM (p.be.length:Int) (Al p c) else Al p c
def hj (p:az) (c:bc):bc:=bM 20 (Am p c)
def fP (p:az) (c:bc):Int:=cO 20 (Am p c)
def x1 (p:az) (c:bc):Int:=bif decide ((p.O.length:Int)>0) then cO (p.O.length:Int) c else 0
def x0 (p:az) (c:bc):Int:=bif decide (p.af>0) then cO p.af (Ak p c) else 0
def kB (p:az) (c:bc):Int:=bif decide ((p.be.length:Int)>0) then cO (p.be.length:Int) (Al p c) else 0
def xZ (k:Int):Bool:=bif k==0 then k==0 else(bif k==1 then k==1 else(bif k==2 then k==2 else k==3))
def vF (k:Int):Bool:=bif k==13 then k==13 else(bif k==14 then k==14 else k==15)
def lU (a b k:Int):Bool:=bif k==a then k==a else k==b
theorem Dl {a b k:Int} (h:lU a b k=true):k=a∨k=b:=by
 unfold lU at h
 cases e:k==a with
 | true=>left;simpa using e
 | false=>rw[e] at h;right;simpa using h
theorem Ti {k:Int} (h:vF k=true):k=13∨k=14∨k=15:=by
 unfold vF at h
 cases e:k==13 with
 | true=>left;simpa using e
 | false=>
  rw[e] at h
  cases e:k==14 with
  | true=>right;left;simpa using e
  | false=>rw[e] at h;right;right;simpa using h
theorem agJ {k:Int} (h:xZ k=true):k=0∨k=1∨k=2∨k=3:=by
 unfold xZ at h
 cases e:k==0 with
 | true=>left;simpa using e
 | false=>
  rw[e] at h
  cases e:k==1 with
  | true=>right;left;simpa using e
  | false=>
   rw[e] at h
   cases e:k==2 with
   | true=>right;right;left;simpa using e
   | false=>rw[e] at h;right;right;right;simpa using h
def vz (p:az) (f:Frame) (i:Int):Nat→Int→Option Event
 | 0,_=>none
 | m+1,k=>
  if(((nth f.O i).ao==4)&&((nth f.av (nth (nth p.O i).af k))&&((k==IntKind.i64.wrap (((nth p.O i).af.length:Int) - 1)) || (nth f.av (nth (nth p.O i).af (IntKind.i64.wrap (k+1)))))))=true then some ⟨4,nth (nth p.O i).af k,0⟩
  else if((decide (k ≥ (nth f.O i).ag))&&(!(nth (nth f.O i).ac k)))=true then some ⟨3,nth (nth p.O i).af k,0⟩
  else vz p f i m (k+1)
def xT (p:az) (f:Frame):Nat→Int→Event
 | 0,_=>⟨1,0,0⟩
 | m+1,i=>if(((nth f.O i).ao==0) || ((nth f.O i).ao==1))=true then xT p f m (i+1) else
  match vz p f i (nth p.O i).af.length 0 with
  | some e=>e
  | none=>xT p f m (i+1)
def qg (p:az) (f:Frame) (c:bc):Event:=xT p f f.O.length 0
def Ae (p:az) (f:Frame) (c:bc):bc:=c
def Ju (p:az) (f:Frame) (c:bc):Prop:=tD p f
def Ez (p:az) (f:Frame) (c:bc):Prop:=tD p f∧bZ 10 c
def eO (p:az) (f:Frame) (c:bc):bc:=
 if fP p c=10 then bM 2 (hj p c) else if fP p c=16 then bM 3 (hj p c) else hj p c
def fp (p:az) (f:Frame) (c:bc):Event:=
 bif xZ (fP p c) then⟨1,x1 p c,0⟩ else bif lU 4 5 (fP p c) then⟨2,x1 p c,0⟩ else bif lU 6 7 (fP p c) then⟨3,x0 p c,0⟩ else bif lU 8 9 (fP p c) then⟨4,x0 p c,0⟩
 else bif fP p c==10 then⟨6,kB p c,IntKind.i64.wrap (1+cO 2 (hj p c))⟩ else bif lU 11 12 (fP p c) then⟨7,0,0⟩
 else bif vF (fP p c) then(bif decide ((f.au.length:Int)>kB p c) then⟨5,kB p c,(nth f.au (kB p c)).cH⟩ else qg p f (hj p c))
 else bif fP p c==16 then⟨5,kB p c,cO 3 (hj p c)⟩ else qg p f (hj p c)
def Hl (p:az) (c:bc):Prop:=bZ 8 c
def o7 (p:az) (c:bc):bc:=bM 2 (bM 4 (bM 8 (bM 9 c)))
def iK (p:az) (c:bc):Event:=⟨cO 9 c,IntKind.i64.wrap (cO 8 (bM 9 c) - 1),bif cO 2 (bM 4 (bM 8 (bM 9 c)))==0 then 0 else IntKind.i64.wrap (cO 4 (bM 8 (bM 9 c)) - 1)⟩
theorem bZ.xn {k:Int} {c:bc} {n:Int} {b:Bool} (h:bZ (k+2) c) (hk:0≤k):bZ k (bif b then bM n c else c):=by
 cases b with
 | true=>exact h.pick hk
 | false=>exact h.mono (by omega)
theorem agK {p:az} {c:bc} {k:Int} (h:bZ (k+6) c) (hk:0≤k):bZ k (Am p c):=
 bZ.xn (bZ.xn (k:=k+2) (bZ.xn (k:=k+2+2) (h.mono (by omega)) (by omega)) (by omega)) hk
theorem agL {p:az} {c:bc} {k:Int} (h:bZ (k+8) c) (hk:0≤k):bZ k (hj p c):=
 bZ.pick (agK (k:=k+2) (h.mono (by omega)) (by omega)) hk
theorem K0 {p:az} {f:Frame} {c:bc} {k:Int} (h:bZ (k+10) c) (hk:0≤k):bZ k (eO p f c):=by
 have a8:=agL (p:=p) (k:=k+2) (h.mono (by omega)) (by omega)
 unfold eO
 split
 ·exact a8.pick hk
 ·split
  ·exact a8.pick hk
  ·exact a8.mono (by omega)
theorem ab0 {p:az} {c:bc} {k:Int} (h:bZ (k+8) c) (hk:0≤k):bZ k (o7 p c):=
 bZ.pick (bZ.pick (k:=k+2) (bZ.pick (k:=k+2+2) (bZ.pick (k:=k+2+2+2) (h.mono (by omega)) (by omega)) (by omega)) (by omega)) hk
def du (c:bc):Int:=IntKind.i64.wrap (2+cO 6 c)
def vb (c:bc):Int:=IntKind.i64.wrap (1+cO 6 (bM 6 c))
theorem Cz (c:bc):2≤du c∧du c≤7:=by
 have h:=nb 6 c
 have:=h.2 (by omega)
 unfold du;rw[fu (by omega) (by omega)];omega
theorem acj (c:bc):1≤vb c∧vb c≤6:=by
 have h:=nb 6 (bM 6 c)
 have:=h.2 (by omega)
 unfold vb;rw[fu (by omega) (by omega)];omega
def tF (n:Int):Nat→bc→List Int→bc×List Int
 | 0,c,x=>(c,x)
 | k+1,c,x=>tF n k (bM n c) (x++[cO n c])
theorem SV {n:Int} (aF:1≤n): ∀{k:Nat} {c:bc} {x:List Int} {q:Int},bZ (q+2*k) c→0≤q→(∀y∈x,0≤y∧y<n)→
  bZ q (tF n k c x).1∧(∀y∈(tF n k c x).2,0≤y∧y<n)∧(tF n k c x).2.length=x.length+k
 | 0,c,x,q,h,aj,hx=>⟨h.mono (by omega),hx,rfl⟩
 | k+1,c,x,q,h,aj,hx=>by
  have:=SV aF (q:=q) (k:=k) (c:=bM n c) (x:=x++[cO n c]) (bZ.pick (h.mono (by omega)) (by omega)) aj (fun y hy=>by
   rcases List.mem_append.1 hy with hy | hy
   ·exact hx y hy
   ·obtain rfl:=List.mem_singleton.1 hy;exact⟨(nb n c).1,(nb n c).2 aF⟩)
  refine⟨this.1,this.2.1,this.2.2.trans ?_⟩
  simp;omega
def gD (c:bc):bc×List Int:=tF (du c) (cO 4 (bM 6 (bM 6 c))).toNat (bM 4 (bM 6 (bM 6 c))) []
theorem Pg {c:bc} {q:Int} (h:bZ (q+12) c) (aj:0≤q):bZ q (gD c).1∧(∀y∈(gD c).2,0≤y∧y<du c)∧(gD c).2.length≤3:=by
 have hv:=nb 4 (bM 6 (bM 6 c))
 have:=hv.2 (by omega)
 have aP:bZ (q+6) (bM 4 (bM 6 (bM 6 c))):=bZ.pick (bZ.pick (k:=q+6+2) (bZ.pick (k:=q+6+2+2) (h.mono (by omega)) (by omega)) (by omega)) (by omega)
 have:=SV (n:=du c) (by have:=Cz c;omega) (k:=(cO 4 (bM 6 (bM 6 c))).toNat) (x:=[]) (aP.mono (l:=q+2*((cO 4 (bM 6 (bM 6 c))).toNat:Nat)) (by omega)) aj (by simp)
 exact⟨this.1,this.2.1,by show(tF _ _ _ _).2.length≤3;rw[this.2.2];simp;omega⟩
def jO (n:Int) (c:bc):bc×List Int:=if(((hH n 4 [] c).length:Int)==0)=true then(bM n (ia n 4 [] c),[cO n (ia n 4 [] c)]) else(ia n 4 [] c,hH n 4 [] c)
structure TH (n:Int) (x:List Int):Prop where
 ne:x≠[]
 len:x.length≤4
 xD: ∀y∈x,0≤y∧y<n
 xe:x.Nodup
theorem Qm {n:Int} {c:bc} {q:Int} (aF:1≤n) (h:bZ (q+12) c) (aj:0≤q):bZ q (jO n c).1∧TH n (jO n c).2:=by
 have hs:=xK (no:=[]) aF (h.mono (l:=q+2+10) (by omega)) (by omega) (m:=4) (by omega) (by omega)
 have hv:=nb n (ia n 4 [] c)
 unfold jO
 split
 ·exact⟨bZ.pick hs.1 aj,by simp,by simp,fun y hy=>by obtain rfl:=List.mem_singleton.1 hy;exact⟨hv.1,hv.2 aF⟩,by simp⟩
 ·rename_i aL
  exact⟨hs.1.mono (by omega),fun e=>aL (by replace e:hH n 4 [] c=[]:=e;rw[e];rfl),hs.2.2,hs.2.1.xD,hs.2.1.xe⟩
def oA (sw ss:List Int):Nat→Int→bc→List cA→List cA→bc×List cA×List cA
 | 0,_,c,x,y=>(c,x,y)
 | k+1,v,c,x,y=>if meets [nth sw v] ss=true then oA sw ss k (v+1) (bM 2 c) (x++[⟨v,IntKind.i64.wrap (1+cO 2 c)⟩]) y
  else if(cO 3 c==0)=true then oA sw ss k (v+1) (bM 2 (bM 3 c)) x (y++[⟨v,IntKind.i64.wrap (1+cO 2 (bM 3 c))⟩])
  else oA sw ss k (v+1) (bM 3 c) x y
structure pq (sw ss:List Int) (v:Int) (x y:List cA):Prop where
 rx: ∀l∈x,(0≤l.sw∧l.sw<v)∧(1≤l.bp∧l.bp≤2)∧ss.contains (nth sw l.sw)=true
 ri: ∀l∈y,(0≤l.sw∧l.sw<v)∧(1≤l.bp∧l.bp≤2)
 u0:(x.map (·.sw)).Nodup
 u1:(y.map (·.sw)).Nodup
 xh: ∀a∈x,∀b∈y,a.sw≠b.sw
 m8:(x.length:Int)+y.length≤v
theorem OQ {x:List cA} {v t:Int} (h:(x.map (·.sw)).Nodup) (aL: ∀l∈x,l.sw<v):((x++[cA.mk v t]).map (·.sw)).Nodup:=by
 rw[List.map_append,List.nodup_append]
 refine⟨h,by simp,fun a a4 b hb e=> ?_⟩
 obtain⟨l,hm,rfl⟩:=List.mem_map.1 a4
 have hb:b=v:=by simpa using hb
 have:=aL l hm
 omega
theorem Ot (c:bc):1≤IntKind.i64.wrap (1+cO 2 c)∧IntKind.i64.wrap (1+cO 2 c)≤2:=by
 have h:=nb 2 c
 have:=h.2 (by omega)
 rw[fu (by omega) (by omega)];omega
theorem pq.up {sw ss:List Int} {v:Int} {x y:List cA} (h:pq sw ss v x y):pq sw ss (v+1) x y:=
 ⟨fun l aL=>⟨⟨(h.rx l aL).1.1,by have:=(h.rx l aL).1.2;omega⟩,(h.rx l aL).2⟩,fun l aL=>⟨⟨(h.ri l aL).1.1,by have:=(h.ri l aL).1.2;omega⟩,(h.ri l aL).2⟩,h.u0,h.u1,h.xh,by have:=h.m8;omega⟩
theorem pq.acv {sw ss:List Int} {v t:Int} {x y:List cA} (h:pq sw ss v x y) (aU:0≤v) (bu:1≤t∧t≤2) (hc:ss.contains (nth sw v)=true):pq sw ss (v+1) (x++[⟨v,t⟩]) y where
 rx:=fun l aL=>by
  rcases List.mem_append.1 aL with aL | aL
  ·exact h.up.rx l aL
  ·obtain rfl:=List.mem_singleton.1 aL;exact⟨⟨aU,by show v<v+1;omega⟩,bu,hc⟩
 ri:=h.up.ri
 u0:=OQ h.u0 fun l aL=>(h.rx l aL).1.2
 u1:=h.u1
 xh:=fun a a4 b hb=>by
  rcases List.mem_append.1 a4 with a4 | a4
  ·exact h.xh a a4 b hb
  ·obtain rfl:=List.mem_singleton.1 a4
   have:=(h.ri b hb).1.2
   show v≠b.sw;omega
 m8:=by have:=h.m8;simp;omega
theorem pq.acw {sw ss:List Int} {v t:Int} {x y:List cA} (h:pq sw ss v x y) (aU:0≤v) (bu:1≤t∧t≤2):pq sw ss (v+1) x (y++[⟨v,t⟩]) where
 rx:=h.up.rx
 ri:=fun l aL=>by
  rcases List.mem_append.1 aL with aL | aL
  ·exact h.up.ri l aL
  ·obtain rfl:=List.mem_singleton.1 aL;exact⟨⟨aU,by show v<v+1;omega⟩,bu⟩
 u0:=h.u0
 u1:=OQ h.u1 fun l aL=>(h.ri l aL).1.2
 xh:=fun a a4 b hb=>by
  rcases List.mem_append.1 hb with hb | hb
  ·exact h.xh a a4 b hb
  ·obtain rfl:=List.mem_singleton.1 hb
   have:=(h.rx a a4).1.2
   show a.sw≠v;omega
 m8:=by have:=h.m8;simp;omega
theorem Ca {sw ss:List Int}: ∀{k:Nat} {v:Int} {c:bc} {x y:List cA} {q:Int},0≤v→bZ (q+4*k) c→0≤q→pq sw ss v x y→
  bZ q (oA sw ss k v c x y).1∧pq sw ss (v+k) (oA sw ss k v c x y).2.1 (oA sw ss k v c x y).2.2
 | 0,v,c,x,y,q,aU,h,aj,hx=>⟨h.mono (by omega),by rw[show v+((0:Nat):Int)=v by omega];exact hx⟩
 | k+1,v,c,x,y,q,aU,h,aj,hx=>by
  have e:v+((k+1:Nat):Int)=(v+1)+(k:Nat):=by omega
  rw[e]
  unfold oA
  split
  ·rename_i hm
   rw[uX] at hm
   exact Ca (by omega) (bZ.pick (h.mono (by omega)) (by omega)) aj (hx.acv aU (Ot c) hm)
  ·split
   ·exact Ca (by omega) (bZ.pick (bZ.pick (k:=q+4*k+2) (h.mono (by omega)) (by omega)) (by omega)) aj (hx.acw aU (Ot _))
   ·exact Ca (by omega) (bZ.pick (h.mono (by omega)) (by omega)) aj hx.up
def zl (n:Int) (sw:List Int) (c:bc):bc×List cA×List cA:=oA sw (jO n c).2 sw.length 0 (ia n 2 (jO n c).2 (ia n 2 (jO n c).2 (jO n c).1)) [] []
def vE (n:Int) (sw:List Int) (c:bc):bc×Way:=
 ((zl n sw c).1,Way.mk (jO n c).2 (zl n sw c).2.1 (zl n sw c).2.2 (hH n 2 (jO n c).2 (jO n c).1) (hH n 2 (jO n c).2 (ia n 2 (jO n c).2 (jO n c).1)))
theorem abK {a b:List Int} (h: ∀y∈b,y ∉ a):meets a b=false:=by
 unfold meets
 rw[List.any_eq_false]
 intro x hx e
 exact h x (by simpa using e) hx
theorem agy {n:Int} {sw:List Int} {c:bc} {q:Int} (aF:1≤n) (aL:sw.length≤3) (h:bZ (q+44) c) (aj:0≤q):bZ q (vE n sw c).1∧ ∀p:az,p.af=n→p.be=sw→g1 p (vE n sw c).2=true:=by
 have h1:=Qm aF (h.mono (l:=q+32+12) (by omega)) (by omega)
 have h2:=xK (no:=(jO n c).2) aF (h1.1.mono (l:=q+22+10) (by omega)) (by omega) (m:=2) (by omega) (by omega)
 have aP:=xK (no:=(jO n c).2) aF (h2.1.mono (l:=q+12+10) (by omega)) (by omega) (m:=2) (by omega) (by omega)
 have a8:=Ca (sw:=sw) (ss:=(jO n c).2) (k:=sw.length) (v:=0) (x:=[]) (y:=[]) (Int.le_refl _) (aP.1.mono (l:=q+4*(sw.length:Nat)) (by omega)) aj ⟨(by simp),(by simp),(by simp),(by simp),(by simp),(by simp)⟩
 refine⟨a8.1,fun p aI hs=> ?_⟩
 have a8:=a8.2
 subst aI;subst hs
 have hi: ∀x:Int,0≤x∧x<p.af→b4 x 0 (p.af - 1)=true:=fun x hx=>jd.2 (by omega)
 have m8:=a8.m8
 rw[nY]
 refine⟨h1.2.ne,pY.2 ⟨by have:=h1.2.len;show(jO _ c).2.length≤30;omega,fun x hx=>hi x (h1.2.xD x hx),h1.2.xe⟩,pY.2 ⟨by have:=h2.2.2;show(hH _ _ _ _).length≤30;omega,fun x hx=>hi x (h2.2.1.xD x hx),h2.2.1.xe⟩,
  pY.2 ⟨by have:=aP.2.2;show(hH _ _ _ _).length≤30;omega,fun x hx=>hi x (aP.2.1.xD x hx),aP.2.1.xe⟩,mD.2 ⟨by show(oA _ _ _ _ _ _ _).2.1.length≤30;omega,fun l qM=> ?_,a8.u0⟩,mD.2 ⟨by show(oA _ _ _ _ _ _ _).2.2.length≤30;omega,fun l qM=> ?_,a8.u1⟩,Ci.2 ⟨a8.u0,a8.u1,a8.xh⟩,fun l qM=>(a8.rx l qM).2.2,abK h2.2.1.out⟩
 ·have:=a8.rx l qM
  rw[Bool.and_eq_true,jd,jd];omega
 ·have:=a8.ri l qM
  rw[Bool.and_eq_true,jd,jd];omega
def tK (n:Int) (sw:List Int):Nat→bc→List Way→bc×List Way
 | 0,c,x=>(c,x)
 | k+1,c,x=>tK n sw k (vE n sw c).1 (x++[(vE n sw c).2])
theorem Tg {n:Int} {sw:List Int} (aF:1≤n) (aL:sw.length≤3): ∀{k:Nat} {c:bc} {x:List Way} {q:Int},bZ (q+44*k) c→0≤q→(∀w∈x,∀p:az,p.af=n→p.be=sw→g1 p w=true)→
  bZ q (tK n sw k c x).1∧(∀w∈(tK n sw k c x).2,∀p:az,p.af=n→p.be=sw→g1 p w=true)∧(tK n sw k c x).2.length=x.length+k
 | 0,c,x,q,h,aj,hx=>⟨h.mono (by omega),hx,rfl⟩
 | k+1,c,x,q,h,aj,hx=>by
  have hw:=agy aF aL (h.mono (l:=q+44*k+44) (by omega)) (by omega)
  have:=Tg aF aL (k:=k) (x:=x++[(vE n sw c).2]) hw.1 aj (fun y hy=>by
   rcases List.mem_append.1 hy with hy | hy
   ·exact hx y hy
   ·obtain rfl:=List.mem_singleton.1 hy;exact hw.2)
  refine⟨this.1,this.2.1,this.2.2.trans ?_⟩
  simp;omega
def eH (c:bc):bc×List Way:=tK (du c) (gD c).2 (IntKind.i64.wrap (1+cO 5 (gD c).1)).toNat (bM 5 (gD c).1) []
theorem Lb (c:bc):1≤IntKind.i64.wrap (1+cO 5 c)∧IntKind.i64.wrap (1+cO 5 c)≤5:=by
 have h:=nb 5 c
 have:=h.2 (by omega)
 rw[fu (by omega) (by omega)];omega
theorem ack {c:bc} {q:Int} (h:bZ (q+234) c) (aj:0≤q):bZ q (eH c).1∧(∀w∈(eH c).2,∀p:az,p.af=du c→p.be=(gD c).2→g1 p w=true)∧(eH c).2.length≤5:=by
 have hs:=Pg (h.mono (l:=q+222+12) (by omega)) (by omega)
 have cs:=Lb (gD c).1
 have bj:bZ (q+44*((IntKind.i64.wrap (1+cO 5 (gD c).1)).toNat:Nat)) (bM 5 (gD c).1):=(bZ.pick (k:=q+220) (hs.1.mono (by omega)) (by omega)).mono (by omega)
 have:=Tg (n:=du c) (sw:=(gD c).2) (by have:=Cz c;omega) hs.2.2 (x:=[]) bj aj (by simp)
 exact⟨this.1,this.2.1,by show(tK _ _ _ _ _).2.length≤5;rw[this.2.2];simp;omega⟩
def qb (ws:List Way) (bs:List (List Bool)) (i:Int):Nat→Int→bc→List Bool→bc×List Bool
 | 0,_,c,r=>(c,r)
 | m+1,k,c,r=>if decide (k<i)=true then qb ws bs i m (k+1) c (r.set k.toNat (nth (nth bs k) i))
  else if(i==k)=true then qb ws bs i m (k+1) c (r.set k.toNat true)
  else if meets (nth ws i).af (nth ws k).af=true then qb ws bs i m (k+1) c (r.set k.toNat true)
  else qb ws bs i m (k+1) (bM 4 c) (r.set k.toNat (cO 4 c==0))
structure tR (ws:List Way) (bs:List (List Bool)) (i k:Int) (r:List Bool):Prop where
 len:r.length=ws.length
 lt: ∀j:Int,0≤j→j<k→j<i→nth r j=nth (nth bs j) i
 gt: ∀j:Int,0≤j→j<k→i<j→meets (nth ws i).af (nth ws j).af=true→nth r j=true
theorem tR.set {ws:List Way} {bs:List (List Bool)} {i k:Int} {r:List Bool} (h:tR ws bs i k r) (aU:0≤k) (h1:k<ws.length) {b:Bool} (hb:(k<i→b=nth (nth bs k) i)∧(i<k→meets (nth ws i).af (nth ws k).af=true→b=true)):tR ws bs i (k+1) (r.set k.toNat b):=by
 have aL:=h.len
 refine⟨by rw[List.length_set];exact h.len,fun j ck e4 bb=> ?_,fun j ck e4 bb hm=> ?_⟩
 ·rw[p2 aU ck (by omega)]
  split
  ·rename_i e;subst e;exact hb.1 bb
  ·exact h.lt j ck (by omega) bb
 ·rw[p2 aU ck (by omega)]
  split
  ·rename_i e;subst e;exact hb.2 bb hm
  ·exact h.gt j ck (by omega) bb hm
theorem zQ {ws:List Way} {bs:List (List Bool)} {i:Int}: ∀{m:Nat} {k:Int} {c:bc} {r:List Bool} {q:Int},bZ (q+2*m) c→0≤q→0≤k→k+m=ws.length→tR ws bs i k r→bZ q (qb ws bs i m k c r).1∧tR ws bs i ws.length (qb ws bs i m k c r).2
 | 0,k,c,r,q,h,aj,aU,he,aK=>⟨h.mono (by omega),by rw[←he,show k+((0:Nat):Int)=k by omega];exact aK⟩
 | m+1,k,c,r,q,h,aj,aU,he,aK=>by
  unfold qb
  split
  ·rename_i hk
   have hk:k<i:=by simpa using hk
   exact zQ (h.mono (by omega)) aj (by omega) (by omega) (aK.set aU (by omega) ⟨fun _=>rfl,fun _=>by omega⟩)
  ·rename_i hk
   have hk: ¬k<i:=by simpa using hk
   split
   ·rename_i LY
    have LY:i=k:=by simpa using LY
    exact zQ (h.mono (by omega)) aj (by omega) (by omega) (aK.set aU (by omega) ⟨fun _=>by omega,fun _ _=>rfl⟩)
   ·split
    ·exact zQ (h.mono (by omega)) aj (by omega) (by omega) (aK.set aU (by omega) ⟨fun _=>by omega,fun _ _=>rfl⟩)
    ·rename_i hm
     exact zQ (bZ.pick (h.mono (by omega)) (by omega)) aj (by omega) (by omega) (aK.set aU (by omega) ⟨fun _=>by omega,fun _ e=>absurd e hm⟩)
def zR (ws:List Way) (bs:List (List Bool)) (i:Int) (c:bc):bc×List Bool:=qb ws bs i ws.length 0 c (List.replicate (ws.length:Int).toNat false)
def tZ (ws:List Way):Nat→Int→bc→List (List Bool)→bc×List (List Bool)
 | 0,_,c,bs=>(c,bs)
 | m+1,i,c,bs=>tZ ws m (i+1) (zR ws bs i c).1 (bs++[(zR ws bs i c).2])
structure vK (ws:List Way) (i:Int) (bs:List (List Bool)):Prop where
 len:(bs.length:Int)=i
 row: ∀j:Int,0≤j→j<i→(nth bs j).length=ws.length
 sym: ∀a b:Int,0≤b→b<a→a<i→nth (nth bs a) b=nth (nth bs b) a
 mt: ∀a b:Int,0≤a→a<b→a<i→b<ws.length→meets (nth ws a).af (nth ws b).af=true→nth (nth bs a) b=true
theorem Hi {α:Type} [Inhabited α] {xs:List α} {x:α} {j:Int} (aU:0≤j):nth (xs++[x]) j=if j<xs.length then nth xs j else if j=xs.length then x else default:=by
 unfold nth
 rw[List.getD_eq_getElem?_getD,List.getD_eq_getElem?_getD]
 split
 ·rw[List.getElem?_append_left (by omega)]
 ·split
  ·rw[List.getElem?_append_right (by omega),show j.toNat - xs.length=0 by omega];rfl
  ·rw[List.getElem?_eq_none (by simp;omega)];rfl
theorem ac0 {ws:List Way} {bs:List (List Bool)} {i:Int} {c:bc} {q:Int} (h:bZ (q+10) c) (aj:0≤q) (hw:ws.length≤5):bZ q (zR ws bs i c).1∧tR ws bs i ws.length (zR ws bs i c).2:=
 zQ (h.mono (by omega)) aj (Int.le_refl _) (by omega) ⟨by simp,fun j ck e4=>by omega,fun j ck e4=>by omega⟩
theorem vK.push {ws:List Way} {i:Int} {bs:List (List Bool)} {r:List Bool} (h:vK ws i bs) (aU:0≤i) (aK:tR ws bs i ws.length r) (hi:i<ws.length):vK ws (i+1) (bs++[r]):=by
 have aL:=h.len
 have na: ∀j:Int,0≤j→j<i→nth (bs++[r]) j=nth bs j:=fun j ck e4=>by rw[Hi ck,if_pos (by omega)]
 have new:nth (bs++[r]) i=r:=by rw[Hi aU,if_neg (by omega),if_pos (by omega)]
 refine⟨by simp;omega,fun j ck e4=> ?_,fun a b yf DC ah=> ?_,fun a b J an ah Ke hm=> ?_⟩
 ·by_cases e:j=i
  ·subst e;rw[new];exact aK.len
  ·rw[na j ck (by omega)];exact h.row j ck (by omega)
 ·rw[na b yf (by omega)]
  by_cases e:a=i
  ·subst e;rw[new];exact aK.lt b yf (by omega) DC
  ·rw[na a (by omega) (by omega)];exact h.sym a b yf DC (by omega)
 ·by_cases e:a=i
  ·subst e;rw[new];exact aK.gt b (by omega) Ke an hm
  ·rw[na a (by omega) (by omega)];exact h.mt a b J an (by omega) Ke hm
theorem Kg {ws:List Way} (hw:ws.length≤5): ∀{m:Nat} {i:Int} {c:bc} {bs:List (List Bool)} {q:Int},bZ (q+10*m) c→0≤q→0≤i→i+m=ws.length→vK ws i bs→bZ q (tZ ws m i c bs).1∧vK ws ws.length (tZ ws m i c bs).2
 | 0,i,c,bs,q,h,aj,aU,he,hb=>⟨h.mono (by omega),by rw[←he,show i+((0:Nat):Int)=i by omega];exact hb⟩
 | m+1,i,c,bs,q,h,aj,aU,he,hb=>by
  have aK:=ac0 (ws:=ws) (bs:=bs) (i:=i) (h.mono (l:=q+10*m+10) (by omega)) (by omega) hw
  exact Kg (m:=m) hw aK.1 aj (by omega) (by omega) (hb.push aU aK.2 (by omega))
def va (c:bc):bc×List (List Bool):=tZ (eH c).2 (eH c).2.length 0 (eH c).1 []
def q8 (c:bc):bc:=(va c).1
def lI (c:bc):az:=⟨du c,(gD c).2,(eH c).2,(va c).2,vb c⟩
def Hx (c:bc):Prop:=bZ 300 c
theorem acn {p:az} (hb:kS p=true) (hs: ∀s∈p.be,b4 s 0 (p.af - 1)=true) (hw: ∀w∈p.O,g1 p w=true) (aL:p.bW.length=p.O.length)
  (aK: ∀b∈p.bW,b.length=p.O.length) (aj: ∀i k:Nat,i<p.O.length→k<p.O.length→n5 p i k=false):ea p=true:=by
 have none: ∀{α:Type} {xs:List α} {q:α→Bool},(∀x∈xs,q x=false)→first xs q=none:=fun h=>by unfold first;rw[List.findIdx?_eq_none_iff];exact h
 have:hR p=⟨0,0⟩:=by
  rw[Hv hb (none fun s m=>by rw[hs s m];rfl) (none fun w m=>by rw[hw w m];rfl)]
  refine Ht aL (none fun b m=>by rw[aK b m];simp) (none fun i m=> ?_)
  rw[List.any_eq_false]
  intro k hk
  rw[aj i k (List.mem_range.1 m) (List.mem_range.1 hk)];simp
 unfold ea;rw[this];rfl
theorem Po {c:bc} {q:Int} (h:bZ (q+300) c) (aj:0≤q):bZ q (q8 c)∧ea (lI c)=true:=by
 have lB:=Cz c
 have aV:=acj c
 have h1:=Pg (h.mono (l:=q+288+12) (by omega)) (by omega)
 have h2:=ack (h.mono (l:=q+66+234) (by omega)) (by omega)
 have aP:=Kg h2.2.2 (m:=(eH c).2.length) (i:=0) (bs:=[]) (q:=q) (h2.1.mono (by have:=h2.2.2;omega)) aj (Int.le_refl _) (by omega) ⟨rfl,fun j ck e4=>by omega,fun a b yf DC ah=>by omega,fun a b J an ah=>by omega⟩
 refine⟨aP.1,?_⟩
 have dW:vK (eH c).2 (eH c).2.length (va c).2:=aP.2
 have hlen:=dW.len
 refine acn (sj.2 ⟨by show 1≤du c∧du c≤60;omega,by show 1≤vb c∧vb c≤300;omega,by have:=h1.2.2;show(gD c).2.length≤40;omega,by have:=h2.2.2;show(eH c).2.length≤100;omega⟩) (fun s hs=>jd.2 ?_) (fun w hw=>h2.2.1 w hw _ rfl rfl) (by show(va c).2.length=(eH c).2.length;omega) (fun b hb=> ?_) fun i k hi hk=> ?_
 ·have:=h1.2.1 s hs
  show 0≤s∧s≤du c - 1;omega
 ·obtain⟨j,aM,rfl⟩:=List.mem_iff_getElem.1 hb
  have ot:j<(va c).2.length:=aM
  have:=dW.row j (by omega) (by omega)
  rw[iJ ot] at this;exact this
 ·have hi:i<(eH c).2.length:=hi
  have hk:k<(eH c).2.length:=hk
  have oR: ∀a b:Nat,rG (lI c) a b=nth (nth (va c).2 a) b:=fun _ _=>rfl
  have agF: ∀a:Nat,(lI c).O=(eH c).2:=fun _=>rfl
  unfold n5
  rw[oR,oR,agF 0]
  rcases Nat.lt_trichotomy i k with bf | rfl | pP
  ·have hs:=dW.sym k i (by omega) (by omega) (by omega)
   have hm:=dW.mt i k (by omega) (by omega) (by omega) (by omega)
   rw[hs]
   cases e:meets (nth (eH c).2 i).af (nth (eH c).2 k).af with
   | true=>rw[hm e];simp
   | false=>simp
  ·simp
  ·have hs:=dW.sym i k (by omega) (by omega) (by omega)
   have hm:=dW.mt k i (by omega) (by omega) (by omega) (by omega)
   rw[hs]
   cases e:meets (nth (eH c).2 i).af (nth (eH c).2 k).af with
   | true=>rw[OE] at e;rw[hm e];simp
   | false=>simp
def rh (p:az) (f:Frame) (c:bc):Event×bc:=
 bif cO 30 (eO p f c)==0 then(iK p (bM 30 (eO p f c)),o7 p (bM 30 (eO p f c))) else(fp p f c,bM 30 (eO p f c))
def sr (p:az):Nat→Frame→bc→List Event→bc×List Event
 | 0,_,c,x=>(c,x)
 | k+1,f,c,x=>sr p k (xL p f (rh p f c).1).frame (rh p f c).2 (x++[(rh p f c).1])
def Ef (p:az) (m:Int) (c:bc):bc×List Event:=sr p (cO m c).toNat (en p) (bM m c) []
def yt (p:az) (m:Int) (c:bc):bc:=(Ef p m c).1
def sL (p:az) (m:Int) (c:bc):List Event:=(Ef p m c).2
def AZ (p:az) (m:Int) (c:bc):Prop:=ea p=true∧bZ 1000 c∧1≤m∧m≤50
theorem ac2 {p:az} {f:Frame} {c:bc} {k:Int} (h:bZ (k+20) c) (hk:0≤k):bZ k (rh p f c).2:=by
 have h1:=K0 (p:=p) (f:=f) (h.mono (l:=k+10+10) (by omega)) (by omega)
 have h2:=bZ.pick (n:=30) (h1.mono (l:=k+8+2) (by omega)) (by omega)
 unfold rh
 cases cO 30 (eO p f c)==0 with
 | true=>exact ab0 (p:=p) h2 hk
 | false=>exact h2.mono (by omega)
theorem Qb {p:az} {f:Frame} {d v7:bc} {x:List Event} {v:Int} {R:bc×List Event} {e:Event} (hf:ev p f=true) (aU:0<v) (bj:bZ (20*v) d) (he:sr p v.toNat f d x=R) (h0:rh p f d=(e,v7)):
  bZ (20*(v - 1)) v7∧(((gr p f e).code !=1)=true→ev p (gr p f e).frame=true∧sr p (v - 1).toNat (gr p f e).frame v7 (x++[e])=R)∧(((gr p f e).code !=1)=false→sr p (v - 1).toNat f v7 (x++[e])=R):=by
 have h1:=ac2 (p:=p) (f:=f) (bj.mono (l:=20*(v - 1)+20) (by omega)) (by omega)
 have h2:=(SQ (e:=e) hf).2
 rw[show v.toNat=(v - 1).toNat+1 by omega] at he
 unfold sr at he
 rw[h0] at h1 he
 refine⟨h1,fun hc=> ?_,fun hc=> ?_⟩
 ·have hc:(gr p f e).code≠1:=by simpa using hc
  unfold xL at h2 he
  rw[if_neg hc] at h2 he
  exact⟨h2,he⟩
 ·have hc:(gr p f e).code=1:=by simpa using hc
  unfold xL at he
  rw[if_pos hc] at he
  exact he
theorem P7 (p:az): ∀(k:Nat) (f:Frame) (c:bc) (x:List Event),(sr p k f c x).2.length=x.length+k
 | 0,_,_,x=>rfl
 | k+1,f,c,x=>(P7 p k _ _ _).trans (by simp;omega)
theorem U_ {p:az} {c:bc} {m:Int} (h1:1≤m) (h2:m≤50):(sL p m c).length≤49:=by
 have:=(nb m c).2 h1
 show(sr p _ _ _ _).2.length≤49
 rw[P7];simp;omega
theorem Hn {p:az} {f:Frame} (h:ev p f=true):jz f:=by
 have hf:=(jG h).fr
 have aI:=(jG h).in
 have aC:=hf.av
 have aj:=hf.au
 have hw:=hf.O
 have h1:=aI.c0
 have h2:=aI.O
 have aP:=aI.sw
 refine⟨by omega,by omega,by omega,fun h hm=> ?_⟩
 obtain⟨i,hi,rfl⟩:=List.mem_iff_getElem.1 hm
 have hb:=hf.ac i f.O[i] (p.O[i]'(by omega)) (List.getElem?_eq_getElem hi) (List.getElem?_eq_getElem (by omega))
 have:=(aI.af _ (List.getElem_mem (l:=p.O) (n:=i) (by omega))).2.1
 omega
def v9 (code:List UInt8):bc:=⟨code,0,0⟩
def pz (code:List UInt8):az×List Event:=(lI (v9 code),sL (lI (v9 code)) 50 (q8 (v9 code)))
theorem Ec (code:List UInt8):bZ 1300 (v9 code):=⟨Int.le_refl _,by show(0:Int)+1300≤_;omega⟩
theorem KE (code:List UInt8):ea (pz code).1=true:=(Po (q:=1000) (Ec code) (by omega)).2
theorem U6 (code:List UInt8):AZ (lI (v9 code)) 50 (q8 (v9 code)):=⟨KE code,(Po (q:=1000) (Ec code) (by omega)).1,by omega,by omega⟩
theorem U5 (code:List UInt8):(pz code).2.length≤49:=U_ (by omega) (by omega)
def jQ (p:az) (f:Frame) (e:Event):fJ:=if eZ p e=true then gP p f e else⟨1,f⟩
def zD (f:Frame) (R:List fJ):Nat→Frame
 | 0=>f
 | k+1=>(nth R (k:Int)).frame
theorem Hj {α:Type} [Inhabited α] (x:α) (xs:List α) (k:Nat):nth (x::xs) ((k+1:Nat):Int)=nth xs (k:Int):=by
 unfold nth;rw[Int.toNat_natCast,Int.toNat_natCast];rfl
theorem H0 (p:az) (f:Frame) (e:Event) (es:List Event):jy p f (e::es)=jQ p f e::jy p (jQ p f e).frame es:=by
 unfold jQ
 by_cases h:eZ p e=true
 ·rw[if_pos h];simp only[jy,if_pos h]
 ·rw[if_neg h];simp only[jy,if_neg h]
theorem SM {p:az} {f:Frame} {e:Event} (h:ev p f=true):ev p (jQ p f e).frame=true:=by
 have:=SQ (e:=e) h
 rw[this.1] at this;exact this.2
theorem H3 {p:az}: ∀(es:List Event) {f:Frame},ev p f=true→ ∀k:Nat,k<es.length→ev p (zD f (jy p f es) k)=true∧nth (jy p f es) (k:Int)=jQ p (zD f (jy p f es) k) (nth es (k:Int))
 | [],f,h,k,hk=>by simp at hk
 | e::es,f,h,0,hk=>by rw[H0];exact⟨h,rfl⟩
 | e::es,f,h,k+1,hk=>by
  have bS:=H3 es (SM (e:=e) h) k (by simpa using hk)
  have aI:zD f (jy p f (e::es)) (k+1)=zD (jQ p f e).frame (jy p (jQ p f e).frame es) k:=by
   rw[H0]
   cases k with
   | zero=>rfl
   | succ j=>show(nth ((_:fJ)::_) ((j+1:Nat):Int)).frame=_;rw[Hj];rfl
  rw[aI,H0,Hj,Hj]
  exact bS
def b7 (code:List UInt8):az:=(pz code).1
def gU (code:List UInt8):List Event:=(pz code).2
def cF (code:List UInt8):List fJ:=sq (b7 code) (gU code)
def nc (code:List UInt8) (v:Int):Frame:=zD (en (b7 code)) (cF code) v.toNat
section
variable (code:List UInt8)
theorem Cw:ea (b7 code)=true:=KE code
theorem aa5:(gU code).length≤49:=U5 code
theorem HQ:cF code=jy (b7 code) (en (b7 code)) (gU code):=by
 have:=aa5 code
 unfold cF sq
 rw[if_pos ⟨Cw code,by omega⟩]
theorem PP:(cF code).length=(gU code).length:=by rw[HQ];exact CV ..
end
section
variable {code:List UInt8} {v:Int}
theorem Pp (aU:0≤v) (h1:v.toNat<(gU code).length):ev (b7 code) (nc code v)=true:=by
 unfold nc;rw[HQ];exact(H3 _ (AG (Cw code)) _ h1).1
theorem PQ (aU:0≤v) (h1:v.toNat<(gU code).length):nth (cF code) v=jQ (b7 code) (nc code v) (nth (gU code) v):=by
 have:=(H3 (gU code) (AG (Cw code)) _ h1).2
 rw[ig aU,ig aU] at this
 unfold nc;rw[HQ];exact this
theorem PR (aU:0≤v) (h1:v.toNat<(gU code).length):ev (b7 code) (nth (cF code) v).frame=true:=by
 rw[PQ aU h1];exact SM (Pp aU h1)
theorem acr (aU:0≤v):nc code (v+1)=(nth (cF code) v).frame:=by
 unfold nc
 rw[show(v+1).toNat=v.toNat+1 by omega]
 show(nth (cF code) (v.toNat:Int)).frame=_
 rw[ig aU]
end
theorem VJ {p:az} {f:Frame} (h:ev p f=true) {i:Int} (i0:0≤i) (i1:i<f.O.length):iB p f i.toNat (nth f.O i)=nth f.O i:=by
 rw[←z1 i0 i1,(sg h).2]
theorem ad7 {f:Frame} {l:List Int} (h:gh f l=false) {x:Int} (hx:x∈l):nth f.av x=false:=by
 unfold gh at h
 rw[List.any_eq_false] at h
 simpa[dG] using h x hx
theorem Lv {s:List Int} {f:Frame} {ac:List Bool}: ∀(n g j:Nat),g≤j→j<fF s f ac n g→ac.getD j false=true∧dG f (s.getD j 0)=false
 | 0,g,j,h1,h2=>by have h2:j<g:=h2;omega
 | n+1,g,j,h1,h2=>by
  unfold fF at h2
  split at h2
  ·rename_i hc
   by_cases e:j=g
   ·subst e;exact⟨hc.2.1,hc.2.2.1⟩
   ·exact Lv n (g+1) j (by omega) h2
  ·omega
theorem W_ {s:List Int} {f:Frame} {ac:List Bool} (aC:dG f (s.getD 0 0)=true): ∀n:Nat,fF s f ac n 0=0
 | 0=>rfl
 | n+1=>by unfold fF;rw[if_neg (by rw[aC];simp)]
def Hr (s:List Int) (f:Frame) (w:ad):Nat:=fF s f (List.zipWith (fun b x=>b || dG f x) w.ac s) s.length w.ag.toNat
theorem aca {s:List Int} {f:Frame} {w:ad} (a8:w.ao=4):(bif (gW s f w).ao==0 then(s.length:Int) else(gW s f w).ag)=Hr s f w:=by
 unfold gW Hr
 simp only
 split
 ·rename_i e;rw[e];rfl
 ·simp[a8]
theorem abY {l:List Int} {j:Nat}:nth l (j:Int)=l.getD j 0:=by unfold nth;rw[Int.toNat_natCast];rfl
theorem ace {s:List Int} {f:Frame} {w:ad} (aL:w.ac.length=s.length) {x:Nat} (aU:w.ag.toNat≤x) (h1:x<Hr s f w) (h2:x<s.length):dG f (nth s (x:Int))=false∧nth w.ac (x:Int)=true:=by
 obtain⟨a,b⟩:=Lv _ _ _ aU h1
 rw[abY]
 refine⟨b,?_⟩
 rw[List.getD_eq_getElem?_getD,List.getElem?_zipWith,List.getElem?_eq_getElem (by omega),List.getElem?_eq_getElem h2] at a
 have e:s.getD x 0=s[x]:=by rw[List.getD_eq_getElem?_getD,List.getElem?_eq_getElem h2];rfl
 rw[e] at b
 rw[iJ (by omega)]
 simpa[b] using a
theorem SP {p:az} {m:Frame} {k:Nat} {h:ad} (aU:h.ao=1∨h.ao=2∨h.ao=3) (hg:h.ag=0) (aF:0<(nth p.O k).af.length):(iB p m k h).ao≠0:=by
 by_cases aC:dG m (nth (nth p.O k).af 0)=true
 ·rw[C_ (by omega) (by omega) aC]
  unfold gW
  have YA:dG m ((nth p.O k).af.getD 0 0)=true:=aC
  simp only[hg]
  rw[show fF (nth p.O k).af m (List.zipWith (fun b x=>b || dG m x) h.ac (nth p.O k).af) (nth p.O k).af.length (0:Int).toNat=0 from W_ YA _,if_neg (by omega)]
  simp
 ·have aC:dG m (nth (nth p.O k).af 0)=false:=by simpa using aC
  by_cases aP:h.ao=3
  ·rw[Db (by omega) (by omega) (by omega) aC];omega
  ·by_cases aI:gg p m k=true
   ·rw[Da (by omega) aC aI];simp
   ·rw[C9 (by omega) aC (by simpa using aI)];simp
theorem abz {p:az} {f:Frame} (h:ev p f=true) {i:Int} (i0:0≤i) (i1:i<f.O.length) (hs:(nth f.O i).ao≠0) (a8:(nth f.O i).ao≠4):dG f (nth (nth p.O i).af 0)=false:=by
 rw[←Bool.not_eq_true]
 intro aC
 have e:=VJ h i0 i1
 rw[C_ hs a8 (by rw[ig i0];exact aC)] at e
 have e2:=congrArg ad.ao e
 rcases Pd (nth p.O i.toNat).af f {nth f.O i with ao:=4,ar:=0} rfl with q | q
 ·rw[q] at e2;exact hs e2.symm
 ·rw[q.1] at e2;exact a8 e2.symm
theorem OG {p:az} {f:Frame} {e:Event} (hf:ev p f=true) (he:eZ p e=true) (hc:e8 p f e=0) {k:Int} (a5:0≤k) (df:k<f.O.length):
  nth (ff p f e).O k=nth f.O k∨(nth f.O k).ao=0∨
  ((ff p f e).av=f.av∧((e.op=2∧((nth f.O k).ao=1∨(nth f.O k).ao=2)∧(((nth (ff p f e).O k).ao=3∧(nth (ff p f e).O k).ag=(nth f.O k).ag)∨((nth f.O k).aq&&gh f (nth p.O k).cu)=false))∨(e.op=7∧(nth f.O k).ao=3))):=by
 have hw:=(jG hf).fr.O
 unfold ff
 split
 ·rename_i h1
  obtain⟨t0,t1⟩:=oc he (.inl h1)
  by_cases lv:k=e.ai
  ·right;left
   unfold e8 at hc
   rw[if_pos h1] at hc
   unfold eY at hc
   subst lv
   by_cases aU:(nth f.O e.ai).ao=0
   ·exact aU
   ·rw[if_pos aU] at hc;cases hc
  ·left
   show nth (f.O.set _ _) k=_
   rw[p2 t0 a5 df,if_neg lv]
 ·split
  ·rename_i h1 h2
   obtain⟨t0,t1⟩:=oc he (.inr h2)
   by_cases lv:k=e.ai
   ·right;right
    subst lv
    have bi:(nth f.O e.ai).ao=1∨(nth f.O e.ai).ao=2:=by
     unfold e8 at hc
     rw[if_neg h1,if_pos h2] at hc
     by_cases aj:(nth f.O e.ai).ao≠1∧(nth f.O e.ai).ao≠2
     ·rw[if_pos aj] at hc;cases hc
     ·omega
    split
    ·refine⟨rfl,.inl ⟨h2,bi,.inl ?_⟩⟩
     show(nth (f.O.set _ _) e.ai).ao=3∧(nth (f.O.set _ _) e.ai).ag=_
     rw[p2 t0 a5 df,if_pos rfl];exact⟨rfl,rfl⟩
    ·rename_i aj
     exact⟨rfl,.inl ⟨h2,bi,.inr (by simpa using aj)⟩⟩
   ·left
    split
    ·show nth (f.O.set _ _) k=_
     rw[p2 t0 a5 df,if_neg lv]
    ·show nth (f.O.set _ _) k=_
     rw[p2 t0 a5 df,if_neg lv]
  ·split
   ·exact .inl rfl
   ·split
    ·exact .inl rfl
    ·split
     ·exact .inl rfl
     ·split
      ·rename_i gk
       show nth (hU p f.O.length f.O) k=_∨_
       rw[Ad a5 df,if_pos (by omega)]
       unfold lj
       by_cases aP:(nth f.O k).ao=3
       ·exact .inr (.inr ⟨rfl,.inr ⟨gk,aP⟩⟩)
       ·rw[if_neg aP];exact .inl rfl
      ·exact .inl rfl
theorem SL (p:az) (f:Frame) (e:Event):(jQ p f e).frame=f∨(eZ p e=true∧e8 p f e=0∧(jQ p f e).frame=ee p (ff p f e)):=by
 unfold jQ
 by_cases he:eZ p e=true
 ·rw[if_pos he]
  unfold gP
  by_cases hc:e8 p f e=0
  ·rw[if_neg (by rw[hc];simp)];exact .inr ⟨he,hc,rfl⟩
  ·rw[if_pos hc];exact .inl rfl
 ·rw[if_neg he];exact .inl rfl
section
variable {p:az} {f:Frame} {e:Event} {k:Int}
theorem LP (he:(jQ p f e).frame=ee p (ff p f e)) (x:Int):nth (jQ p f e).frame.av x=dG (ff p f e) x:=by
 have s:=qc p (ff p f e) (ff p f e).O.length
 rw[he]
 show nth (ij p (ff p f e).O.length (ff p f e)).av x=nth (ff p f e).av x
 rw[s.2.1]
theorem Ya (hf:ev p f=true) (a5:0≤k) (df:k<f.O.length) (a8:(nth f.O k).ao=4) {x:Int} (a3:(nth f.O k).ag≤x)
  (aH:x<(bif (nth (jQ p f e).frame.O k).ao==0 then((nth p.O k).af.length:Int) else(nth (jQ p f e).frame.O k).ag)) (bt:x<(nth p.O k).af.length):
  nth (jQ p f e).frame.av (nth (nth p.O k).af x)=false∧nth (nth f.O k).ac x=true:=by
 have aV:=(sg hf).1.held k a5 df
 rcases SL p f e with h | ⟨he,hc,h⟩
 ·rw[h,a8] at aH
  have:x<(nth f.O k).ag:=aH
  omega
 have hm:=yr (jG hf).fr (oc he)
 have hw:=(jG hf).fr.O
 have uz:=hm.O
 have same:nth (ff p f e).O k=nth f.O k:=by
  rcases OG hf he hc a5 df with q | q | ⟨_,⟨_,q,_⟩ | ⟨_,q⟩⟩
  ·exact q
  ·omega
  ·omega
  ·omega
 have pA:nth (jQ p f e).frame.O k=gW (nth p.O k).af (ff p f e) (nth f.O k):=by
  rw[h,z1 a5 (by omega),same,C8 a8,ig a5]
 rw[pA,aca a8] at aH
 have hg:=aV.ag
 have:=ace (f:=ff p f e) aV.len (x:=x.toNat) (by omega) (by omega) (by omega)
 rw[Int.toNat_of_nonneg (by omega)] at this
 rw[LP h]
 exact this
theorem X8 (hf:ev p f=true) (a5:0≤k) (df:k<f.O.length) (aU:(nth f.O k).ao≠0) (a8:(nth f.O k).ao≠4) (aO:(nth (jQ p f e).frame.O k).ao=0):
  (e.op=2∨e.op=7)∧nth (jQ p f e).frame.av (nth (nth p.O k).af 0)=false∧(e.op=2→(nth f.O k).aq=true→ ∀x∈(nth p.O k).cu,nth f.av x=false):=by
 have aV:=(sg hf).1.held k a5 df
 have bi:=aV.aJ
 have Fo:=(aV.still a8).1
 have aF:=zS (jG hf).l7 a5 (by have:=(jG hf).fr.O;omega)
 rcases SL p f e with h | ⟨he,hc,h⟩
 ·rw[h] at aO;exact absurd aO aU
 have hm:=yr (jG hf).fr (oc he)
 have hw:=(jG hf).fr.O
 have uz:=hm.O
 have pA:nth (jQ p f e).frame.O k=iB p (ff p f e) k.toNat (nth (ff p f e).O k):=by rw[h,z1 a5 (by omega)]
 rw[pA] at aO
 have fr:=abz hf a5 df aU a8
 have aC:(ff p f e).av=f.av→nth (jQ p f e).frame.av (nth (nth p.O k).af 0)=false:=fun A5=>by
  rw[LP h]
  show nth (ff p f e).av _=false
  rw[A5];exact fr
 rcases OG hf he hc a5 df with q | q | ⟨A5,⟨OW,q,r⟩ | ⟨abZ,q⟩⟩
 ·rw[q] at aO
  exact absurd aO (SP (by omega) Fo (by rw[ig a5];exact aF))
 ·exact absurd q aU
 ·rcases r with⟨fw,rg⟩ | r
  ·exact absurd aO (SP (by omega) (by omega) (by rw[ig a5];exact aF))
  ·refine⟨.inl OW,aC A5,fun _ hs x hx=> ?_⟩
   rw[hs,Bool.true_and] at r
   exact ad7 r hx
 ·exact⟨.inr abZ,aC A5,fun OW=>by omega⟩
end
end Go.Proofs.Ytglpfccgmfhkdaa.Fw
set_option linter.unusedVariables false
set_option maxRecDepth 100000
set_option maxHeartbeats 4000000
set_option linter.unusedSimpArgs false
namespace Go.Proofs.Ytglpfccgmfhkdaa.Fw
open Go
attribute [local irreducible] evS evSD WpS Weak Oper.looksAt
def aeu (J:Int) (M:Int) (U:Int) (al:Bool):Prop:=
 ((decide (J ≥ M))&&(decide (J≤U)))=al
theorem IJ (J:Int) (M:Int) (U:Int):b2 Try.prog 67 [ah J,ah M,ah U] (an (b4 J M U)):=(fun(h:aeu J M U (b4 J M U))=>b2.run (ps:=[.int,.int,.int]) (rs:=[.bool]) (x:=(J,M,U,())) (r:=((b4 J M U),())) ⟨15,eh,[]⟩ ⟨[],[],[],[],[]⟩ .nil Try.func67 h) (by
 rfl)
def z5:ey Try.prog:=⟨67,[.int,.int,.int],[.bool],none,fun x=>((b4 x.1 x.2.1 x.2.2.1),()),fun x h=>IJ x.1 x.2.1 x.2.2.1⟩
def Q_ (ay:Int→Prop) (aB:Int→Nat) (aQ:Int→Int→Prop) (aR:Int→Int→Nat) (J M:(List Int)) (al:Bool) (v11:Int):Prop:=
  aQ v11 0∧ ∀(eS:Int),aQ v11 eS→(((decide (eS<(M.length:Int)))=false→ay (IntKind.i64.wrap (v11+1))∧aB (IntKind.i64.wrap (v11+1))<aB v11)∧((decide (eS<(M.length:Int)))=true→((0≤eS∧eS.toNat<M.length)∧(((nth J v11)==(nth M eS))=true→true=al))∧((!((nth J v11)==(nth M eS)))=true→aQ v11 (IntKind.i64.wrap (eS+1))∧aR v11 (IntKind.i64.wrap (eS+1))<aR v11 eS)))
def Q9 (J:(List Int)) (M:(List Int)) (al:Bool) (ay:Int→Prop) (aB:Int→Nat) (aQ:Int→Int→Prop) (aR:Int→Int→Nat):Prop:=
 J.length≤4611686018427387904→ay 0∧ ∀(v11:Int),ay v11→(((decide (v11<(J.length:Int)))=false→false=al)∧((decide (v11<(J.length:Int)))=true→(0≤v11∧v11.toNat<J.length)∧(M.length≤4611686018427387904→Q_ ay aB aQ aR J M al v11)))
theorem aeB (J:(List Int)) (M:(List Int)):b2 Try.prog 69 [bK c_ J,bK c_ M] (an (meets J M)):=(fun(ay:Int→Prop) (aB:Int→Nat) (aQ:Int→Int→Prop) (aR:Int→Int→Nat) (h:Q9 J M (meets J M) ay aB aQ aR)=>b2.run (ps:=[(.l .int),(.l .int)]) (rs:=[.bool]) (x:=(J,M,())) (r:=((meets J M),())) ⟨26,eh,[]⟩ ⟨[],[],[],[],[]⟩ (eP [1,9,10] [] 11 ay aB fun aN=>(eP [1,6,9,10,11,15,16] [] 17 (aQ aN) (aR aN) fun _=> .nil)) Try.func69 h) (cl J.length (fun j=>fS M (nth J j))) (cy J.length) (fun v=>cl M.length (fun k=>nth J v==nth M k)) (fun v=>cy M.length) (by
 unfold Q9 Q_
 intro aF
 refine⟨c6 (dd _),fun v aX=>⟨fun hv=> ?_,fun hv=>⟨b8 aX hv,fun hm=>⟨c6 (dd _),fun k hK=>⟨fun hk=> ?_,fun hk=>⟨⟨b8 hK hk,fun aI=> ?_⟩,fun aI=>cG (cq hm) hK hk (not_eq aI)⟩⟩⟩⟩⟩⟩
 ·exact(Ah (q:=fun x=>fS M x) aX hv).symm
 ·exact cG (cq aF) aX hv (XN (gG hK hk))
 ·exact(Di (q:=fun x=>fS M x) aX hv (XP (b8 hK hk).2 aI)).symm)
def z6:ey Try.prog:=⟨69,[(.l .int),(.l .int)],[.bool],none,fun x=>((meets x.1 x.2.1),()),fun x h=>aeB x.1 x.2.1⟩
def QJ (J:(List Int)) (M:Int) (al:Int) (ay:Int→Prop) (aB:Int→Nat):Prop:=
 J.length≤4611686018427387904→ay 0∧ ∀(c2:Int),ay c2→(((decide (c2<(J.length:Int)))=false→(-1)=al)∧((decide (c2<(J.length:Int)))=true→((0≤c2∧c2.toNat<J.length)∧((M==(nth J c2))=true→c2=al))∧((!(M==(nth J c2)))=true→ay (IntKind.i64.wrap (c2+1))∧aB (IntKind.i64.wrap (c2+1))<aB c2)))
theorem adZ (J:(List Int)) (M:Int):b2 Try.prog 161 [bK c_ J,ah M] (ah (nG J M)):=(fun(ay:Int→Prop) (aB:Int→Nat) (h:QJ J M (nG J M) ay aB)=>b2.run (ps:=[(.l .int),.int]) (rs:=[.int]) (x:=(J,M,())) (r:=((nG J M),())) ⟨19,eh,[]⟩ ⟨[],[],[],[],[]⟩ (eP [0,1,7] [] 8 ay aB fun _=> .nil) Try.func161 h) (cl J.length (fun j=>M==nth J j)) (cy J.length) (by
 unfold QJ
 intro aF
 refine⟨c6 (dd _),fun v aX=>⟨fun hv=> ?_,fun hv=>⟨⟨b8 aX hv,fun aI=> ?_⟩,fun aI=>cG (cq aF) aX hv (not_eq aI)⟩⟩⟩
 ·unfold nG;rw[qi (q:=fun x=>M==x) aX hv];rfl
 ·unfold nG;rw[qh (q:=fun x=>M==x) aX hv aI]
  have:=aX.1
  show v=(v.toNat:Int)
  omega)
def QK:ey Try.prog:=⟨161,[(.l .int),.int],[.int],none,fun x=>((nG x.1 x.2.1),()),fun x h=>adZ x.1 x.2.1⟩
def Qz (J:(List Int)) (M:Int) (al:Bool):Prop:=
 (decide ((nG J M) ≥ 0))=al
theorem adL (J:(List Int)) (M:Int):b2 Try.prog 130 [bK c_ J,ah M] (an (fS J M)):=(fun(h:Qz J M (fS J M))=>b2.run (ps:=[(.l .int),.int]) (rs:=[.bool]) (x:=(J,M,())) (r:=((fS J M),())) ⟨9,eh,[QK]⟩ ⟨[],[],[],[],[]⟩ .nil Try.func130 h) (by
 unfold Qz
 exact Zp J M)
def C1:ey Try.prog:=⟨130,[(.l .int),.int],[.bool],none,fun x=>((fS x.1 x.2.1),()),fun x h=>adL x.1 x.2.1⟩
def Nh (J:(List Int)) (M:(List Int)) (al:Bool) (ay:Int→Prop) (aB:Int→Nat):Prop:=
 J.length≤4611686018427387904→ay 0∧ ∀(ca:Int),ay ca→(((decide (ca<(J.length:Int)))=false→false=al)∧((decide (ca<(J.length:Int)))=true→((0≤ca∧ca.toNat<J.length)∧((fS M (nth J ca))=true→true=al))∧((!(fS M (nth J ca)))=true→ay (IntKind.i64.wrap (ca+1))∧aB (IntKind.i64.wrap (ca+1))<aB ca)))
theorem aan (J:(List Int)) (M:(List Int)):b2 Try.prog 74 [bK c_ J,bK c_ M] (an (meets J M)):=(fun(ay:Int→Prop) (aB:Int→Nat) (h:Nh J M (meets J M) ay aB)=>b2.run (ps:=[(.l .int),(.l .int)]) (rs:=[.bool]) (x:=(J,M,())) (r:=((meets J M),())) ⟨17,eh,[C1]⟩ ⟨[],[],[],[],[]⟩ (eP [1,7,8] [] 9 ay aB fun _=> .nil) Try.func74 h) (cl J.length (fun j=>fS M (nth J j))) (cy J.length) (by
 unfold Nh
 intro aF
 refine⟨c6 (dd _),fun v aX=>⟨fun hv=> ?_,fun hv=>⟨⟨b8 aX hv,fun aI=> ?_⟩,fun aI=>cG (cq aF) aX hv (not_eq aI)⟩⟩⟩
 ·exact(Ah (q:=fun x=>fS M x) aX hv).symm
 ·exact(Di (q:=fun x=>fS M x) aX hv aI).symm)
def Gt:ey Try.prog:=⟨74,[(.l .int),(.l .int)],[.bool],none,fun x=>((meets x.1 x.2.1),()),fun x h=>aan x.1 x.2.1⟩
noncomputable def adv:Code:=iI Try.f158
def If (J:(List cA)) (al:(List cA)):Prop:=
 (J≠[]→(J.length*16≤140737488355328∧J.length≤4611686018427387904)∧(J=al))∧(J=[]→ ∀dk:Bool,(dk=true→[]=al)∧(dk=false→(J.length*16≤140737488355328∧J.length≤4611686018427387904)∧(J=al)))
theorem adw (J:(List cA)) (al:(List cA)) (h:If J al):dI Try.prog 158 [bK dp J] [] (fun r H=>r=ak 0 0 al.length∧H=[⟨0,2,List.map dp al⟩]):=by
 refine dI.toOwn ?_
 unfold If at h
 refine dI.go (fn:=Try.f158) [(0,bK dp J)] Try.func158 (fun _ _=> ?_)
 show WpS _ (bX adv 1) _ ⟨bh 8 [(0,bK dp J)],[],[]⟩
 refine ei [] 0 [(2,aG)] [] [1] ?_
 refine hN ?_
 refine hN ?_
 refine bL [] 1 ?_
 refine H6 2 (some 4) [(3,bK dp J)] dp J (fun hx=> ?_) (fun hx dk=> ?_)
 ·
  replace h:=h.1 hx
  refine dX [] ?_
  refine eb.normal ?_
  refine sJ (.tmp 4) false (fun q3=> ?_) (fun q3=> ?_)
  ·
   cases q3
  ·
   refine ep ?_
   refine eb.normal ?_
   obtain⟨c4,h⟩:=h
   refine jW ⟨(bh 8 [(2,ak 0 0 J.length)]),[],[⟨0,2,List.map dp J⟩]⟩ (True) ?_ (fun q4=> ?_)
   ·
    replace h:=c4
    refine bL [] 3 ?_
    have cR:=h
    refine tw 3 (some 7) [(6,bK dp J),(5,aG)] dp J (lL false (List.map dp J)) 0 2 16 (fun r=>[⟨0,2,r⟩]) rfl cR ?_
    exact b5 [(2,ak 0 0 J.length)] trivial
   refine hB ?_
   refine mJ (ak 0 0 J.length) [ak 0 0 J.length] ?_
   exact⟨pe [some 0],q6 [some 0] rfl (by decide) ⟨rfl,(rf (b:=0) (g:=0) (sz:=2) (xs:=J) (ys:=al) rfl OX h),trivial⟩,(.inr (u4 (by simp) rfl rfl (by have:=congrArg List.length h;simpa using this)))⟩
 ·
  replace h:=h.2 hx dk
  refine dX [] ?_
  refine eb.normal ?_
  refine sJ (.tmp 4) dk (fun fN=> ?_) (fun fN=> ?_)
  ·
   replace h:=h.1 fN
   refine jW ⟨(bh 8 [(2,aG)]),[],[]⟩ (True) ?_ (fun fD=> ?_)
   ·
    refine bL [] 2 ?_
    exact b5 [(2,aG)] trivial
   refine hB ?_
   refine eb.ret ?_
   refine mJ (aG) [aG] ?_
   exact⟨pe [none],q6 [none] rfl (by decide) ⟨rfl,trivial,trivial⟩,(.inr (Hp (by simp) rfl rfl (by rw[←h];rfl)))⟩
  ·
   replace h:=h.2 fN
   refine ep ?_
   refine eb.normal ?_
   obtain⟨ix,h⟩:=h
   refine jW ⟨(bh 8 [(2,ak 0 0 J.length)]),[],[⟨0,2,List.map dp J⟩]⟩ (True) ?_ (fun iM=> ?_)
   ·
    replace h:=ix
    refine bL [] 3 ?_
    have gX:=h
    refine tw 3 (some 7) [(6,bK dp J),(5,aG)] dp J (lL false (List.map dp J)) 0 2 16 (fun r=>[⟨0,2,r⟩]) rfl gX ?_
    exact b5 [(2,ak 0 0 J.length)] trivial
   refine hB ?_
   refine mJ (ak 0 0 J.length) [ak 0 0 J.length] ?_
   exact⟨pe [some 0],q6 [some 0] rfl (by decide) ⟨rfl,(rf (b:=0) (g:=0) (sz:=2) (xs:=J) (ys:=al) rfl OX h),trivial⟩,(.inr (u4 (by simp) rfl rfl (by have:=congrArg List.length h;simpa using this)))⟩
theorem adu (J:(List cA)) (aI:small J):dI Try.prog 158 [bK dp J] [] (fun r H=>r=ak 0 0 (aa J).length∧H=[⟨0,2,List.map dp (aa J)⟩]):=adw J (aa J) (by
 have aI:J.length≤1048576:=aI
 unfold If
 refine⟨fun h=>⟨⟨by omega,by omega⟩,rfl⟩,fun h b=>⟨fun _=> ?_,fun _=>⟨⟨by omega,by omega⟩,rfl⟩⟩⟩
 exact h.symm)
noncomputable def Nj:Code:=iI Try.f123
def aao:List Item:=[ap 0,ap 1,ap 3,ap 4,⟨2,true,false,[3,4]⟩,⟨5,true,false,[]⟩,ap 6]
def aap:List (List Nat):=[[],[0],[0,1],[],[3],rg 0 5,rg 0 6]
def Gu (J:Way) (al:(List cA)):Prop:=
 ((small J.a2)∧(((aa J.a2).length+J.bB.length)*16≤140737488355328∧(aa J.a2).length+J.bB.length≤4611686018427387904))∧(((aa J.a2)++J.bB).length≤4611686018427387904∧((aa J.a2)++J.bB)=al)
theorem aaq (J:Way) (al:(List cA)) (h:Gu J al):b2 Try.prog 123 [.agg (dw false J)] (hA dp al):=by
 unfold Gu at h
 refine dI.go (fn:=Try.f123) [(0,.agg (dw false J))] Try.func123 (fun _ _=> ?_)
 show WpS _ (bX Nj 1) _ ⟨bh 9 [(0,.agg (dw false J))],[],[]⟩
 refine qx [] 0 [(2,aG),(1,aA 1 0)] [0,1,1] [] [(1,(dw false J))] [] ?_
 obtain⟨cR,h⟩:=h
 refine e_ [(2,ak 0 1 ((aa J.a2)++J.bB).length)] [] id (fun _=>[⟨1,2,List.map dp ((aa J.a2)++J.bB)⟩]) (True) ?_ (fun q2=> ?_)
 ·
  replace h:=cR
  refine nj [] 1 aao aap [] ?_
  obtain⟨q3,h⟩:=h
  refine Dd 5 (some 5) [(7,bK dp J.bB),(6,aA 1 2),(4,bK dp J.a2),(3,aA 1 1)] [bK dp J.a2] (fun L H=>pD Try.prog (jg Nj 6) [3,4] [(7,bK dp J.bB),(6,aA 1 2),(4,bK dp J.a2),(3,aA 1 1),(1,aA 1 0)] L H) (ak 0 0 (aa J.a2).length) [⟨0,2,List.map dp (aa J.a2)⟩] (adu J.a2 q3) (aD.cons (da.h8 cI) aD.nil) (q5 (fun _=>rfl) rfl) (rl (rk (fun _=>rfl) rfl) (by kernel_rfl)) (th (ψ:=((true=true∧true=true∧((aA 1 2:AV)=aA 1 2))∧((true=true∧true=true∧((bK dp J.bB:AV)=bK dp J.bB))∧True))) (by kernel_rfl) ⟨⟨rfl,rfl,rfl⟩,⟨⟨rfl,rfl,rfl⟩,trivial⟩⟩) ?_
  have q4:=h
  refine agj 1 (some 8) [] dp (aa J.a2) J.bB (lL false (List.map dp J.bB)) 0 0 2 16 (fun _=>True) (fun r=>[⟨1,2,r⟩]) rfl q4 trivial ?_
  exact kU [(2,ak 0 1 ((aa J.a2)++J.bB).length)] trivial
 exact hB (nk (ak 0 1 ((aa J.a2)++J.bB).length) (im.h8 (rm (sz:=2) (by simp) rfl (Kj) h)))
theorem Ni (J:Way) (aI:xq J):b2 Try.prog 123 [.agg (dw false J)] (hA dp (bz J)):=aaq J (bz J) (by
 obtain⟨h1,h2⟩:=aI
 unfold Gu aa small
 exact⟨⟨h1,by omega,by omega⟩,by rw[List.length_append];omega,rfl⟩)
def Gv:ey Try.prog:=⟨123,[.kb],[(.l .bp)],some fun x=>xq x.1,fun x=>((bz x.1),()),fun x h=>Ni x.1 h⟩
def aaO:List Item:=[ap 0,ap 1,ap 2,ap 3,ap 4,ap 5,ap 6,ap 7]
def aaP:List (List Nat):=[[],[],[0,1],[],[],[3,4],[3,4,5],rg 0 7]
def NB (ay:Int→Prop) (aB:Int→Nat) (J:(List Int)) (al:Bool):Prop:=
  J.length≤4611686018427387904→ay 0∧ ∀(v6:Int),ay v6→(((decide (v6<(J.length:Int)))=false→false=al)∧((decide (v6<(J.length:Int)))=true→(((0≤v6∧v6≤(J.length:Int))∧(0≤v6∧v6.toNat<J.length))∧((fS (J.take v6.toNat) (nth J v6))=true→true=al))∧((!(fS (J.take v6.toNat) (nth J v6)))=true→ay (IntKind.i64.wrap (v6+1))∧aB (IntKind.i64.wrap (v6+1))<aB v6)))
def NA (J:(List Int)) (al:Bool) (ay:Int→Prop) (aB:Int→Nat):Prop:=
 NB ay aB J al
theorem aaM (J:(List Int)):b2 Try.prog 129 [bK c_ J] (an (dup J)):=(fun(ay:Int→Prop) (aB:Int→Nat) (h:NA J (dup J) ay aB)=>b2.run (ps:=[(.l .int)]) (rs:=[.bool]) (x:=(J,())) (r:=((dup J),())) ⟨18,eh,[C1]⟩ ⟨[],[(4,aaO,aaP)],[],[],[]⟩ (eP [0,5] [] 6 ay aB fun _=> .nil) Try.func129 h) (cl J.length (fun j=>fS (J.take j.toNat) (nth J j))) (cy J.length) (by
 unfold NA NB
 intro aF
 refine⟨c6 (dd _),fun v aX=>⟨fun hv=> ?_,fun hv=>⟨⟨⟨⟨aX.1,aX.2.1⟩,b8 aX hv⟩,fun aI=> ?_⟩,fun aI=>cG (cq aF) aX hv (not_eq aI)⟩⟩⟩
 ·exact(KG (gG aX hv)).symm
 ·exact(Vb (b8 aX hv).1 (b8 aX hv).2 aI).symm)
def aaN:ey Try.prog:=⟨129,[(.l .int)],[.bool],none,fun x=>((dup x.1),()),fun x h=>aaM x.1⟩
def Q8 (ay:Int→Prop) (aB:Int→Nat) (aQ:Int→Int→Prop) (aR:Int→Int→Nat) (J:(List Int)) (M:Int) (al:Bool) (v10:Int):Prop:=
  ((!(b4 (nth J v10) 0 (IntKind.i64.wrap (M - 1))))=true→false=al)∧((!(!(b4 (nth J v10) 0 (IntKind.i64.wrap (M - 1)))))=true→aQ v10 0∧ ∀(fm:Int),aQ v10 fm→(((decide (fm<v10))=false→ay (IntKind.i64.wrap (v10+1))∧aB (IntKind.i64.wrap (v10+1))<aB v10)∧((decide (fm<v10))=true→((0≤fm∧fm.toNat<J.length)∧(((nth J fm)==(nth J v10))=true→false=al))∧((!((nth J fm)==(nth J v10)))=true→aQ v10 (IntKind.i64.wrap (fm+1))∧aR v10 (IntKind.i64.wrap (fm+1))<aR v10 fm))))
def Q7 (J:(List Int)) (M:Int) (al:Bool) (ay:Int→Prop) (aB:Int→Nat) (aQ:Int→Int→Prop) (aR:Int→Int→Nat):Prop:=
 J.length≤4611686018427387904→ay 0∧ ∀(v10:Int),ay v10→(((decide (v10<(J.length:Int)))=false→(decide ((J.length:Int)≤30))=al)∧((decide (v10<(J.length:Int)))=true→(0≤v10∧v10.toNat<J.length)∧(Q8 ay aB aQ aR J M al v10)))
theorem aez (J:(List Int)) (M:Int) (aI:zC J M):b2 Try.prog 126 [bK c_ J,ah M] (an (hD J M)):=(fun(ay:Int→Prop) (aB:Int→Nat) (aQ:Int→Int→Prop) (aR:Int→Int→Nat) (h:Q7 J M (hD J M) ay aB aQ aR)=>b2.run (ps:=[(.l .int),.int]) (rs:=[.bool]) (x:=(J,M,())) (r:=((hD J M),())) ⟨35,eh,[z5]⟩ ⟨[33],[],[],[],[]⟩ (eP [0,1,8,9] [] 10 ay aB fun aN=>(eP [0,1,5,6,8,9,10] [] 7 (aQ aN) (aR aN) fun _=> .nil)) Try.func126 h) (cl J.length (fun j=> !b4 (nth J j) 0 (M - 1) || fS (J.take j.toNat) (nth J j))) (cy J.length) (fun v=>cl v (fun k=>nth J k==nth J v)) (fun v=>cy v) (by
 have aI: -9223372036854775808<M∧M≤9223372036854775807:=aI
 unfold Q7 Q8
 intro aF
 refine⟨c6 (dd _),fun v aX=>⟨fun hv=> ?_,fun hv=>⟨b8 aX hv,?_⟩⟩⟩
 ·exact(OL 30).trans (abv (gG aX hv)).symm
 ·have hi:=b8 aX hv
  rw[fu (by omega) (by omega)]
  refine⟨fun h=>(Ov hi.2 h).symm,fun aK=>⟨c6 aX.1,fun k hK=>⟨fun hk=> ?_,fun hk=> ?_⟩⟩⟩
  ·refine cG (cq aF) aX hv ?_
   rw[XO aX.1 (by simpa using hv) (gG hK hk),Bool.or_false]
   exact not_eq aK
  ·have jH:k<v:=by simpa using hk
   have:=hK.1
   exact⟨⟨⟨by omega,by omega⟩,fun he=>(abu hK.1 jH (by omega) he).symm⟩,fun he=>cG (by omega) hK hk (not_eq he)⟩)
def aeA:ey Try.prog:=⟨126,[(.l .int),.int],[.bool],some fun x=>zC x.1 x.2.1,fun x=>((hD x.1 x.2.1),()),fun x h=>aez x.1 x.2.1 h⟩
def aex:List Item:=[ap 0,ap 1,ap 2,ap 3,ap 4,ap 5,ap 6,ap 7]
def aey:List (List Nat):=[[],[],[0,1],[0,1,2],rg 0 4,[],[5],rg 0 7]
def Q5 (ay:Int→Prop) (aB:Int→Nat) (aQ:Int→Int→Prop) (aR:Int→Int→Nat) (M:(List cA)) (al:Bool) (v10:Int):Prop:=
  aQ v10 0∧ ∀(fm:Int),aQ v10 fm→(((decide (fm<v10))=false→ay (IntKind.i64.wrap (v10+1))∧aB (IntKind.i64.wrap (v10+1))<aB v10)∧((decide (fm<v10))=true→((0≤fm∧fm.toNat<M.length)∧(((nth M fm).sw==(nth M v10).sw)=true→false=al))∧((!((nth M fm).sw==(nth M v10).sw))=true→aQ v10 (IntKind.i64.wrap (fm+1))∧aR v10 (IntKind.i64.wrap (fm+1))<aR v10 fm)))
def Q6 (ay:Int→Prop) (aB:Int→Nat) (aQ:Int→Int→Prop) (aR:Int→Int→Nat) (J:az) (M:(List cA)) (al:Bool) (v10:Int):Prop:=
  (J.be.length≤4611686018427387904→((!(b4 (nth M v10).sw 0 (IntKind.i64.wrap ((J.be.length:Int) - 1)))) || (!(b4 (nth M v10).bp 1 2)))=true→false=al)∧((J.be.length≤4611686018427387904)∧((!((!(b4 (nth M v10).sw 0 (IntKind.i64.wrap ((J.be.length:Int) - 1)))) || (!(b4 (nth M v10).bp 1 2))))=true)→Q5 ay aB aQ aR M al v10)
def Q4 (J:az) (M:(List cA)) (al:Bool) (ay:Int→Prop) (aB:Int→Nat) (aQ:Int→Int→Prop) (aR:Int→Int→Nat):Prop:=
 M.length≤4611686018427387904→ay 0∧ ∀(v10:Int),ay v10→(((decide (v10<(M.length:Int)))=false→(decide ((M.length:Int)≤30))=al)∧((decide (v10<(M.length:Int)))=true→(0≤v10∧v10.toNat<M.length)∧(Q6 ay aB aQ aR J M al v10)))
theorem aev (J:az) (M:(List cA)):b2 Try.prog 127 [.agg (bg false J),bK dp M] (an (lF J M)):=(fun(ay:Int→Prop) (aB:Int→Nat) (aQ:Int→Int→Prop) (aR:Int→Int→Nat) (h:Q4 J M (lF J M) ay aB aQ aR)=>b2.run (ps:=[.dr,(.l .bp)]) (rs:=[.bool]) (x:=(J,M,())) (r:=((lF J M),())) ⟨46,eh,[z5]⟩ ⟨[44],[(9,aex,aey)],[],[],[]⟩ (eP [1,2,8,9] [(2,5)] 10 ay aB fun aN=>(eP [1,2,5,6,8,9,10] [(6,2),(2,5)] 7 (aQ aN) (aR aN) fun _=> .nil)) Try.func127 h) (cl M.length (fun j=>o5 J (nth M j) || zk M j)) (cy M.length) (fun v=>cl v (fun k=>(nth M k).sw==(nth M v).sw)) (fun v=>cy v) (by
 unfold Q4 Q6 Q5
 intro aF
 refine⟨c6 (dd _),fun v aX=>⟨fun hv=> ?_,fun hv=>⟨b8 aX hv,?_⟩⟩⟩
 ·exact(OL 30).trans (abr (gG aX hv)).symm
 ·have hi:=b8 aX hv
  refine⟨fun hs h=> ?_,fun⟨hs,aK⟩=>⟨c6 aX.1,fun k hK=>⟨fun hk=> ?_,fun hk=> ?_⟩⟩⟩
  ·rw[fu (by omega) (by omega)] at h
   exact(abt hi.2 h).symm
  ·rw[fu (by omega) (by omega)] at aK
   refine cG (cq aF) aX hv ?_
   rw[abo aX.1 (by simpa using hv) (gG hK hk),Bool.or_false]
   exact not_eq aK
  ·have jH:k<v:=by simpa using hk
   have:=hK.1
   exact⟨⟨⟨by omega,by omega⟩,fun he=>(abq hK.1 jH (by omega) he).symm⟩,fun he=>cG (by omega) hK hk (not_eq he)⟩)
def aew:ey Try.prog:=⟨127,[.dr,(.l .bp)],[.bool],none,fun x=>((lF x.1 x.2.1),()),fun x h=>aev x.1 x.2.1⟩
def aeF:List Item:=[ap 0,ap 1,ap 2,ap 3,ap 4,ap 5,ap 6,ap 7,ap 8,ap 9,ap 10]
def aeG:List (List Nat):=[[],[0],[],[2],rg 0 4,rg 0 5,rg 0 6,[],[7],rg 0 9,rg 0 10]
def Rc (ay:Int→Prop) (aB:Int→Nat) (aQ:Int→Int→Prop) (aR:Int→Int→Nat) (J:az) (M:Way) (al:Bool) (pn cg:Int):Prop:=
  ((decide (pn<(M.bB.length:Int)))=false→(0≤(nth M.a2 cg).sw∧(nth M.a2 cg).sw.toNat<J.be.length)∧(((!(meets [(nth J.be (nth M.a2 cg).sw)] M.af))=true→false=al)∧((!(meets [(nth J.be (nth M.a2 cg).sw)] M.af))=false→ay (IntKind.i64.wrap (cg+1))∧aB (IntKind.i64.wrap (cg+1))<aB cg)))∧((decide (pn<(M.bB.length:Int)))=true→((0≤pn∧pn.toNat<M.bB.length)∧(((nth M.a2 cg).sw==(nth M.bB pn).sw)=true→false=al))∧((!((nth M.a2 cg).sw==(nth M.bB pn).sw))=true→aQ cg (IntKind.i64.wrap (pn+1))∧aR cg (IntKind.i64.wrap (pn+1))<aR cg pn))
def Rd (ay:Int→Prop) (aB:Int→Nat) (aQ:Int→Int→Prop) (aR:Int→Int→Nat) (J:az) (M:Way) (al:Bool):Prop:=
  ((M.af.length≤4611686018427387904→((M.af.length:Int)==0)=false→(zC M.af J.af)∧((!(hD M.af J.af))=false→(zC M.cQ J.af)∧((!(hD M.cQ J.af))=false→zC M.cu J.af)))∧(M.af.length≤4611686018427387904→(((M.af.length:Int)==0) || ((!(hD M.af J.af)) || ((!(hD M.cQ J.af)) || ((!(hD M.cu J.af)) || ((!(lF J M.a2)) || (!(lF J M.bB)))))))=true→false=al))∧((M.af.length≤4611686018427387904)∧((!(((M.af.length:Int)==0) || ((!(hD M.af J.af)) || ((!(hD M.cQ J.af)) || ((!(hD M.cu J.af)) || ((!(lF J M.a2)) || (!(lF J M.bB))))))))=true)→M.a2.length≤4611686018427387904→ay 0∧ ∀(cg:Int),ay cg→(((decide (cg<(M.a2.length:Int)))=false→(!(meets M.cQ M.af))=al)∧((decide (cg<(M.a2.length:Int)))=true→(0≤cg∧cg.toNat<M.a2.length)∧(M.bB.length≤4611686018427387904→aQ cg 0∧ ∀(pn:Int),aQ cg pn→(Rc ay aB aQ aR J M al pn cg)))))
def Rb (J:az) (M:Way) (al:Bool) (ay:Int→Prop) (aB:Int→Nat) (aQ:Int→Int→Prop) (aR:Int→Int→Nat):Prop:=
 Rd ay aB aQ aR J M al
theorem aeD (J:az) (M:Way) (aI:HA J M):b2 Try.prog 68 [.agg (bg false J),.agg (dw false M)] (an (g1 J M)):=(fun(ay:Int→Prop) (aB:Int→Nat) (aQ:Int→Int→Prop) (aR:Int→Int→Nat) (h:Rb J M (g1 J M) ay aB aQ aR)=>b2.run (ps:=[.dr,.kb]) (rs:=[.bool]) (x:=(J,M,())) (r:=((g1 J M),())) ⟨89,eh,[aeA,aew,z6]⟩ ⟨[],[(12,aeF,aeG)],[],[],[]⟩ (eP [2,3,52,53] [(3,5),(2,5)] 54 ay aB fun aN=>(eP [2,3,6,52,53,54,59,60] [(6,2),(3,5),(2,5)] 61 (aQ aN) (aR aN) fun _=> .nil)) Try.func68 h) (cl M.a2.length (fun j=>M.bB.any (fun y=>(nth M.a2 j).sw==y.sw) || !(M.af.contains (nth J.be (nth M.a2 j).sw)))) (cy M.a2.length) (fun v=>cl M.bB.length (fun k=>(nth M.a2 v).sw==(nth M.bB k).sw)) (fun v=>cy M.bB.length) (by
 unfold Rb Rd Rc
 refine⟨⟨fun _ _=>⟨aI,fun _=>⟨aI,fun _=>aI⟩⟩,fun aF h=> ?_⟩,fun⟨aF,h⟩ aL=> ?_⟩
 ·symm
  rw[←Bool.not_eq_true,nY]
  rintro⟨h1,h2,aP,a8,cs,cT,-⟩
  have aO:M.af.length≠0:=fun e=>h1 (List.eq_nil_of_length_eq_zero e)
  simp only[h2,aP,a8,cs,cT,Bool.not_true,Bool.or_false] at h
  simp at h
  exact h1 h
 ·simp only[Bool.not_eq_true',Bool.or_eq_false_iff,Bool.not_eq_false'] at h
  obtain⟨h1,h2,aP,a8,cs,cT⟩:=h
  have h1:M.af≠[]:=fun e=>by rw[e] at h1;simp at h1
  have Fv:=mD.1 cs
  have Yp:=mD.1 cT
  refine⟨c6 (dd _),fun v aX=>⟨fun hv=> ?_,fun hv=>⟨b8 aX hv,fun hf=>⟨c6 (dd _),fun k hK=>⟨fun hk=> ?_,fun hk=>⟨⟨b8 hK hk,fun he=> ?_⟩,fun he=>cG (cq hf) hK hk (not_eq he)⟩⟩⟩⟩⟩⟩
  ·have eE:=gG aX hv
   have bj:((bz M).map (·.sw)).Nodup:=by
    rw[Ci]
    refine⟨Fv.2.2,Yp.2.2,fun x hx y hy he=> ?_⟩
    have:=mn (q:=fun x=>M.bB.any (fun y=>x.sw==y.sw) || !(M.af.contains (nth J.be x.sw))) eE x hx
    simp only[Bool.or_eq_false_iff] at this
    have:=this.1
    rw[List.any_eq_false] at this
    exact this y hy (by simpa using he)
   have hc: ∀x∈M.a2,M.af.contains (nth J.be x.sw)=true:=fun x hx=>by
    have:=mn (q:=fun x=>M.bB.any (fun y=>x.sw==y.sw) || !(M.af.contains (nth J.be x.sw))) eE x hx
    simp only[Bool.or_eq_false_iff] at this
    simpa using this.2
   rw[OE,Bool.eq_iff_iff,nY]
   constructor
   ·intro hm;exact⟨h1,h2,aP,a8,cs,cT,bj,hc,by simpa using hm⟩
   ·rintro⟨-,-,-,-,-,-,-,-,hm⟩;rw[hm];rfl
  ·have b9:=Fv.2.1 _ (dq (b8 aX hv).2)
   rw[Bool.and_eq_true,jd] at b9
   refine⟨⟨b9.1.1,by omega⟩,fun hm=> ?_,fun hm=> ?_⟩
   ·symm
    rw[←Bool.not_eq_true,nY]
    rintro⟨-,-,-,-,-,-,-,hc,-⟩
    rw[uX,hc _ (dq (b8 aX hv).2)] at hm
    cases hm
   ·refine cG (cq aL) aX hv ?_
    rw[uX] at hm
    rw[hm,Bool.or_false]
    have:=mn (q:=fun y:cA=>(nth M.a2 v).sw==y.sw) (gG hK hk)
    rw[List.any_eq_false]
    intro y hy
    rw[this y hy];simp
  ·symm
   rw[←Bool.not_eq_true,nY]
   rintro⟨-,-,-,-,-,-,bj,-,-⟩
   exact(Ci.1 bj).2.2 _ (dq (b8 aX hv).2) _ (dq (b8 hK hk).2) (by simpa using he))
def aeE:ey Try.prog:=⟨68,[.dr,.kb],[.bool],some fun x=>HA x.1 x.2.1,fun x=>((g1 x.1 x.2.1),()),fun x h=>aeD x.1 x.2.1 h⟩
def aaS:List Item:=[ap 0,ap 1,ap 2,ap 3,ap 4,ap 5,ap 6,ap 7,ap 8,ap 9,ap 10,ap 11,ap 12,ap 13,ap 14,ap 15,ap 16]
def aaT:List (List Nat):=[[],[],[1],[1,2],rg 0 4,rg 0 5,rg 0 6,rg 0 7,rg 0 6,rg 0 6++[8],rg 0 6,rg 0 6++[10],rg 0 6++rg 8 12,rg 0 6++rg 8 13,rg 0 14,rg 0 15,rg 0 16]
def ND (J:az) (M:Way) (al:Bool) (a3:(List Int)) (fY:Int):Prop:=
  (((decide (fY<(M.a2.length:Int)))=true→0≤(nth (bz M) fY).sw∧(nth (bz M) fY).sw.toNat<J.be.length)∧(((decide (fY<(M.a2.length:Int)))&&(!(fS M.af (nth J.be (nth (bz M) fY).sw))))=true→false=al))∧((!((decide (fY<(M.a2.length:Int)))&&(!(fS M.af (nth J.be (nth (bz M) fY).sw)))))=true→(a3.length+[(nth (bz M) fY).sw].length)*8≤140737488355328∧a3.length+[(nth (bz M) fY).sw].length≤4611686018427387904)
def NE (J:az) (M:Way) (al:Bool) (a3:(List Int)) (fY:Int):Prop:=
  (((decide ((nth (bz M) fY).sw<0)) || ((decide ((nth (bz M) fY).sw ≥ (J.be.length:Int))) || (((nth (bz M) fY).bp !=1)&&((nth (bz M) fY).bp !=2))))=true→false=al)∧((!((decide ((nth (bz M) fY).sw<0)) || ((decide ((nth (bz M) fY).sw ≥ (J.be.length:Int))) || (((nth (bz M) fY).bp !=1)&&((nth (bz M) fY).bp !=2)))))=true→ND J M al a3 fY)
abbrev rq (r:Type):Type:=Int→Nat→(List Int)→Int→r
def NF (aQ:rq Prop) (aR:rq Nat) (J:az) (M:Way) (al:Bool) (dj:Int) (bw:Nat) (a3:(List Int)) (fY:Int):Prop:=
  ((0≤fY∧fY.toNat<(bz M).length)∧(NE J M al a3 fY))∧(((!((decide ((nth (bz M) fY).sw<0)) || ((decide ((nth (bz M) fY).sw ≥ (J.be.length:Int))) || (((nth (bz M) fY).bp !=1)&&((nth (bz M) fY).bp !=2)))))&&(!((decide (fY<(M.a2.length:Int)))&&(!(fS M.af (nth J.be (nth (bz M) fY).sw))))))=true→aQ dj (bw+1) (a3++[(nth (bz M) fY).sw]) (IntKind.i64.wrap (fY+1))∧aR dj (bw+1) (a3++[(nth (bz M) fY).sw]) (IntKind.i64.wrap (fY+1))<aR dj bw a3 fY)
def NG (aQ:rq Prop) (aR:rq Nat) (J:az) (M:Way) (al:Bool) (dj:Int):Prop:=
  (xq M)∧((bz M).length≤4611686018427387904→aQ dj 0 ([]:List Int) 0∧ ∀(bw:Nat) (a3:(List Int)) (fY:Int),aQ dj bw a3 fY→(((decide (fY<((bz M).length:Int)))=false→(a3.length≤4611686018427387904)∧(((!(dup a3))&&(!(meets M.af M.cQ)))=al))∧((decide (fY<((bz M).length:Int)))=true→NF aQ aR J M al dj bw a3 fY)))
def NH (bo:Int→Int→Prop) (bn:Int→Int→Nat) (J:az) (M:Way) (al:Bool) (gY dj:Int):Prop:=
  ((0≤gY∧gY.toNat<(nth [M.af,M.cQ,M.cu] dj).length)∧(((decide ((nth (nth [M.af,M.cQ,M.cu] dj) gY)<0)) || (decide ((nth (nth [M.af,M.cQ,M.cu] dj) gY) ≥ J.af)))=true→false=al))∧((!((decide ((nth (nth [M.af,M.cQ,M.cu] dj) gY)<0)) || (decide ((nth (nth [M.af,M.cQ,M.cu] dj) gY) ≥ J.af))))=true→bo dj (IntKind.i64.wrap (gY+1))∧bn dj (IntKind.i64.wrap (gY+1))<bn dj gY)
def NI (ay:Int→Prop) (aB:Int→Nat) (bo:Int→Int→Prop) (bn:Int→Int→Nat) (J:az) (M:Way) (al:Bool) (dj:Int):Prop:=
  ((nth [M.af,M.cQ,M.cu] dj).length≤4611686018427387904→((decide (((nth [M.af,M.cQ,M.cu] dj).length:Int)>30)) || (dup (nth [M.af,M.cQ,M.cu] dj)))=true→false=al)∧(((nth [M.af,M.cQ,M.cu] dj).length≤4611686018427387904)∧((!((decide (((nth [M.af,M.cQ,M.cu] dj).length:Int)>30)) || (dup (nth [M.af,M.cQ,M.cu] dj))))=true)→bo dj 0∧ ∀(gY:Int),bo dj gY→(((decide (gY<((nth [M.af,M.cQ,M.cu] dj).length:Int)))=false→ay (IntKind.i64.wrap (dj+1))∧aB (IntKind.i64.wrap (dj+1))<aB dj)∧((decide (gY<((nth [M.af,M.cQ,M.cu] dj).length:Int)))=true→NH bo bn J M al gY dj)))
def NJ (ay:Int→Prop) (aB:Int→Nat) (aQ:rq Prop) (aR:rq Nat) (bo:Int→Int→Prop) (bn:Int→Int→Nat) (J:az) (M:Way) (al:Bool):Prop:=
  (M.af.length≤4611686018427387904→(((M.af.length:Int)==0) || ((decide ((M.a2.length:Int)>30)) || (decide ((M.bB.length:Int)>30))))=true→false=al)∧((M.af.length≤4611686018427387904)∧((!(((M.af.length:Int)==0) || ((decide ((M.a2.length:Int)>30)) || (decide ((M.bB.length:Int)>30)))))=true)→[M.af,M.cQ,M.cu].length≤4611686018427387904→ay 0∧ ∀(dj:Int),ay dj→(((decide (dj<([M.af,M.cQ,M.cu].length:Int)))=false→NG aQ aR J M al dj)∧((decide (dj<([M.af,M.cQ,M.cu].length:Int)))=true→(0≤dj∧dj.toNat<[M.af,M.cQ,M.cu].length)∧(NI ay aB bo bn J M al dj))))
def NC (J:az) (M:Way) (al:Bool) (ay:Int→Prop) (aB:Int→Nat) (aQ:rq Prop) (aR:rq Nat) (bo:Int→Int→Prop) (bn:Int→Int→Nat):Prop:=
 NJ ay aB aQ aR bo bn J M al
theorem aaQ (J:az) (M:Way):b2 Try.prog 73 [.agg (bg false J),.agg (dw false M)] (an (g1 J M)):=(fun(ay:Int→Prop) (aB:Int→Nat) (aQ:rq Prop) (aR:rq Nat) (bo:Int→Int→Prop) (bn:Int→Int→Nat) (h:NC J M (g1 J M) ay aB aQ aR bo bn)=>b2.run (ps:=[.dr,.kb]) (rs:=[.bool]) (x:=(J,M,())) (r:=((g1 J M),())) ⟨126,eh,[Gv,aaN,Gt,C1]⟩ ⟨[48],[(21,aaS,aaT)],[],[],[]⟩ (eP [2,3,34,35] [(3,5),(2,5)] 36 ay aB fun aN=>(.px (.lp [(0,9,.int)] [2,3,64,65] [(3,5),(2,5)] [.nat,(.l .int),.int] [bC 0,bC 0,66] (fun bx=>[(9,.ref 0 bx.1 bx.2.1.length false),(66,.i .i64 bx.2.2.1),(bC 0,.blk bx.1 .int bx.2.1 _ rfl)]) (fun bx=>aQ aN bx.1 bx.2.1 bx.2.2.1) (fun bx=>aR aN bx.1 bx.2.1 bx.2.2.1) fun _=> .nil) (eP [2,3,34,35,36,47,48] [(3,5),(2,5)] 49 (bo aN) (bn aN) fun _=> .nil))) Try.func73 h) (cl ([M.af,M.cQ,M.cu].length:Int) (fun k=> !hD (nth [M.af,M.cQ,M.cu] k) J.af)) (cy ([M.af,M.cQ,M.cu].length:Int)) (fun _ _ x v=>cl (bz M).length (p1 J M) v∧x=((bz M).take v.toNat).map (·.sw)) (fun _ _ _ v=>cy (bz M).length v) (fun i=>cl (nth [M.af,M.cQ,M.cu] i).length (fun j=> !b4 (nth (nth [M.af,M.cQ,M.cu] i) j) 0 (J.af - 1))) (fun i=>cy (nth [M.af,M.cQ,M.cu] i).length) (by
 unfold NC NJ
 have hlen:M.a2.length≤30→M.bB.length≤30→(bz M).length≤60:=by unfold bz;rw[List.length_append];omega
 refine⟨fun aF h=> ?_,fun⟨aF,h⟩ b3=> ?_⟩
 ·symm
  rw[←Bool.not_eq_true,nY]
  rintro⟨h1,-,-,-,cs,cT,-⟩
  have:=(mD.1 cs).1
  have:=(mD.1 cT).1
  simp at h
  rcases h with h | h | h
  ·exact h1 h
  ·omega
  ·omega
 ·simp at h
  obtain⟨h1,h2,aP⟩:=h
  have h2:M.a2.length≤30:=by omega
  have aP:M.bB.length≤30:=by omega
  have aha:=hlen h2 aP
  refine⟨c6 (dd _),fun i aX=>⟨fun hi=> ?_,fun hi=>⟨b8 aX hi,?_⟩⟩⟩
  ·have eE: ∀l∈[M.af,M.cQ,M.cu],hD l J.af=true:=fun l aL=>by
    have:=mn (q:=fun l=> !hD l J.af) (gG aX hi) l aL
    simpa using this
   unfold NG
   refine⟨⟨by omega,by omega⟩,fun kF=>⟨⟨c6 (dd _),rfl⟩,fun g x v ⟨cZ,hx⟩=>⟨fun hv=> ?_,fun hv=> ?_⟩⟩⟩
   ·have kq: ¬v<((bz M).length:Int):=by simpa using hv
    rw[List.take_of_length_le (by have:=cZ.1;omega)] at hx
    subst hx
    exact⟨by rw[List.length_map];omega,Xa h1 eE h2 aP (gG cZ hv)⟩
   ·have b9:=b8 cZ hv
    have o2:x.length≤60:=by rw[hx,List.length_map,List.length_take];omega
    have bad:p1 J M v=true→false=g1 J M:=fun hb=>by
     symm
     rw[←Bool.not_eq_true]
     intro hg
     rw[Xc hg b9.1 b9.2] at hb
     cases hb
    unfold NF NE ND
    rw[abn]
    refine⟨⟨b9,fun hb=>bad (by unfold p1;rw[hb];rfl),fun hb=>⟨⟨fun aL=> ?_,fun hc=>bad (by unfold p1;rw[hc,Bool.or_true])⟩,fun _=> ?_⟩⟩,fun hb=> ?_⟩
    ·have hb:o5 J (nth (bz M) v)=false:=not_eq hb
     rw[zj] at hb
     simp only[Bool.not_eq_false',Bool.and_eq_true,jd] at hb
     exact⟨hb.1.1,by omega⟩
    ·simp only[List.length_cons,List.length_nil];omega
    ·have hb:p1 J M v=false:=by
      unfold p1
      rw[Bool.and_eq_true] at hb
      rw[not_eq hb.1,not_eq hb.2];rfl
     have bi:=cG (cq kF) cZ hv hb
     have hw:IntKind.i64.wrap (v+1)=v+1:=fu (by omega) (by omega)
     refine⟨⟨bi.1,?_⟩,bi.2⟩
     rw[hw,hx,show(v+1).toNat=v.toNat+1 by omega,List.take_succ_eq_append_getElem b9.2,List.map_append,←gq b9.2]
     rfl
  ·have yZ:=b8 aX hi
   have J3:hD (nth [M.af,M.cQ,M.cu] i) J.af=false→false=g1 J M:=fun hb=>by
    symm
    rw[←Bool.not_eq_true]
    intro hg
    rw[Xb hg _ (dq yZ.2)] at hb
    cases hb
   unfold NI NH
   refine⟨fun aF h=>J3 ?_,fun⟨aF,h⟩=>⟨c6 (dd _),fun v lC=>⟨fun hv=> ?_,fun hv=> ?_⟩⟩⟩
   ·rw[←Bool.not_eq_true,pY]
    rintro⟨q1,-,q3⟩
    simp only[Bool.or_eq_true,decide_eq_true_eq] at h
    rcases h with h | h
    ·omega
    ·unfold dup at h;simp[q3] at h
   ·refine cG (by simp) aX hi ?_
    simp only[Bool.not_eq_true',Bool.or_eq_false_iff,decide_eq_false_iff_not] at h
    have bj:(nth [M.af,M.cQ,M.cu] i).Nodup:=by have:=h.2;unfold dup at this;simpa using this
    have:hD (nth [M.af,M.cQ,M.cu] i) J.af=true:=by
     rw[pY]
     refine⟨by omega,fun x hx=> ?_,bj⟩
     have:=mn (q:=fun x=> !b4 x 0 (J.af - 1)) (gG lC hv) x hx
     simpa using this
    rw[this];rfl
   ·rw[HZ]
    exact⟨⟨b8 lC hv,fun h=>J3 (Ov (b8 lC hv).2 h)⟩,fun h=>cG (cq aF) lC hv (not_eq h)⟩)
def aaR:ey Try.prog:=⟨73,[.dr,.kb],[.bool],none,fun x=>((g1 x.1 x.2.1),()),fun x h=>aaQ x.1 x.2.1⟩
def ZH:List Item:=[ap 0,ap 1,ap 2,ap 3,ap 4,ap 5,ap 6,ap 7,ap 8,ap 9,ap 10,ap 11,ap 12,ap 13,ap 14,ap 15,ap 16,ap 17,ap 18,ap 19,ap 20,ap 21,ap 22,ap 23,ap 24,ap 25,ap 26,ap 27,ap 28,ap 29,ap 30,ap 31,ap 32,ap 33,ap 34,ap 35,ap 36,ap 37,ap 38,ap 39,ap 40,ap 41,ap 42,ap 43,ap 44,ap 45,ap 46,ap 47]
def ZI:List (List Nat):=[[],[0],[],[0,1,2],rg 0 4,[],rg 0 6,rg 0 7,[],[8],[],[8,9,10],rg 8 12,[],rg 8 14,rg 8 15,rg 0 16,rg 0 17,rg 0 18,rg 0 18,rg 0 20,rg 0 21,rg 0 22,rg 0 23,rg 0 22,rg 0 25,rg 0 26,rg 0 22,rg 0 28,rg 0 29,rg 0 30,rg 0 31,rg 0 32,rg 0 33,rg 0 34,rg 0 33,rg 0 36,rg 0 37,rg 0 38,rg 0 33,rg 0 33++[39],rg 0 33,rg 0 33++[39,40,41],rg 0 33++rg 39 43,rg 0 33++rg 39 44,rg 0 45,rg 0 46,rg 0 47]
def MH (J:az) (al:jm) (hh fO:Int):Prop:=
  ((0≤fO∧fO.toNat<J.bW.length)∧((0≤hh∧hh.toNat<(nth J.bW fO).length)∧((0≤hh∧hh.toNat<J.bW.length)∧((0≤fO∧fO.toNat<(nth J.bW hh).length)∧(((nth (nth J.bW fO) hh) !=(nth (nth J.bW hh) fO))=false→(fO !=hh)=true→(0≤fO∧fO.toNat<J.bW.length)∧((0≤hh∧hh.toNat<(nth J.bW fO).length)∧((!(nth (nth J.bW fO) hh))=true→(0≤fO∧fO.toNat<J.O.length)∧(0≤hh∧hh.toNat<J.O.length))))))))∧((((nth (nth J.bW fO) hh) !=(nth (nth J.bW hh) fO)) || ((fO !=hh)&&((!(nth (nth J.bW fO) hh))&&(meets (nth J.O fO).af (nth J.O hh).af))))=true→(5=al.code)∧(fO=al.pos))
abbrev ik (r:Type):Type:=Int→Int→Int→Int→r
abbrev hV (r:Type):Type:=Int→Int→Int→Int→Int→r
def MI (bU:ik Prop) (bV:ik Nat) (cJ:hV Prop) (cL:hV Nat) (J:az) (al:jm) (ew gZ ic hh fO:Int):Prop:=
  ((decide (hh<(J.O.length:Int)))=false→bU ew gZ ic (IntKind.i64.wrap (fO+1))∧bV ew gZ ic (IntKind.i64.wrap (fO+1))<bV ew gZ ic fO)∧((decide (hh<(J.O.length:Int)))=true→(MH J al hh fO)∧((!(((nth (nth J.bW fO) hh) !=(nth (nth J.bW hh) fO)) || ((fO !=hh)&&((!(nth (nth J.bW fO) hh))&&(meets (nth J.O fO).af (nth J.O hh).af)))))=true→cJ ew gZ ic fO (IntKind.i64.wrap (hh+1))∧cL ew gZ ic fO (IntKind.i64.wrap (hh+1))<cL ew gZ ic fO hh))
abbrev dP (r:Type):Type:=Int→Int→Int→r
def MJ (bo:dP Prop) (bn:dP Nat) (J:az) (al:jm) (ew gZ ic:Int):Prop:=
  ((0≤ic∧ic.toNat<J.bW.length)∧((nth J.bW ic).length≤4611686018427387904→(((nth J.bW ic).length:Int) !=(J.O.length:Int))=true→(4=al.code)∧(ic=al.pos)))∧(((nth J.bW ic).length≤4611686018427387904)∧((!(((nth J.bW ic).length:Int) !=(J.O.length:Int)))=true)→bo ew gZ (IntKind.i64.wrap (ic+1))∧bn ew gZ (IntKind.i64.wrap (ic+1))<bn ew gZ ic)
def MK (bo:dP Prop) (bn:dP Nat) (bU:ik Prop) (bV:ik Nat) (cJ:hV Prop) (cL:hV Nat) (J:az) (al:jm) (ew gZ ic:Int):Prop:=
  ((decide (ic<(J.bW.length:Int)))=false→bU ew gZ ic 0∧ ∀(fO:Int),bU ew gZ ic fO→(((decide (fO<(J.O.length:Int)))=false→(0=al.code)∧(0=al.pos))∧((decide (fO<(J.O.length:Int)))=true→cJ ew gZ ic fO 0∧ ∀(hh:Int),cJ ew gZ ic fO hh→(MI bU bV cJ cL J al ew gZ ic hh fO))))∧((decide (ic<(J.bW.length:Int)))=true→MJ bo bn J al ew gZ ic)
def ML (aQ:Int→Int→Prop) (aR:Int→Int→Nat) (bo:dP Prop) (bn:dP Nat) (bU:ik Prop) (bV:ik Nat) (cJ:hV Prop) (cL:hV Nat) (J:az) (al:jm) (ew gZ:Int):Prop:=
  ((decide (gZ<(J.O.length:Int)))=false→(J.bW.length≤4611686018427387904→((J.bW.length:Int) !=(J.O.length:Int))=true→(4=al.code)∧(0=al.pos))∧((J.bW.length≤4611686018427387904)∧((!((J.bW.length:Int) !=(J.O.length:Int)))=true)→bo ew gZ 0∧ ∀(ic:Int),bo ew gZ ic→(MK bo bn bU bV cJ cL J al ew gZ ic)))∧((decide (gZ<(J.O.length:Int)))=true→((0≤gZ∧gZ.toNat<J.O.length)∧((!(g1 J (nth J.O gZ)))=true→(3=al.code)∧(gZ=al.pos)))∧((!(!(g1 J (nth J.O gZ))))=true→aQ ew (IntKind.i64.wrap (gZ+1))∧aR ew (IntKind.i64.wrap (gZ+1))<aR ew gZ))
def MM (ay:Int→Prop) (aB:Int→Nat) (aQ:Int→Int→Prop) (aR:Int→Int→Nat) (bo:dP Prop) (bn:dP Nat) (bU:ik Prop) (bV:ik Nat) (cJ:hV Prop) (cL:hV Nat) (J:az) (al:jm) (ew:Int):Prop:=
  ((decide (ew<(J.be.length:Int)))=false→J.O.length≤4611686018427387904→aQ ew 0∧ ∀(gZ:Int),aQ ew gZ→(ML aQ aR bo bn bU bV cJ cL J al ew gZ))∧((decide (ew<(J.be.length:Int)))=true→((0≤ew∧ew.toNat<J.be.length)∧(((decide ((nth J.be ew)<0)) || (decide ((nth J.be ew) ≥ J.af)))=true→(2=al.code)∧(ew=al.pos)))∧((!((decide ((nth J.be ew)<0)) || (decide ((nth J.be ew) ≥ J.af))))=true→ay (IntKind.i64.wrap (ew+1))∧aB (IntKind.i64.wrap (ew+1))<aB ew))
def MN (ay:Int→Prop) (aB:Int→Nat) (aQ:Int→Int→Prop) (aR:Int→Int→Nat) (bo:dP Prop) (bn:dP Nat) (bU:ik Prop) (bV:ik Nat) (cJ:hV Prop) (cL:hV Nat) (J:az) (al:jm):Prop:=
  (((decide (J.af<1)) || ((decide (J.af>60)) || ((decide (J.dx<1)) || ((decide (J.dx>300)) || ((decide ((J.be.length:Int)>40)) || (decide ((J.O.length:Int)>100)))))))=true→(1=al.code)∧(0=al.pos))∧((!((decide (J.af<1)) || ((decide (J.af>60)) || ((decide (J.dx<1)) || ((decide (J.dx>300)) || ((decide ((J.be.length:Int)>40)) || (decide ((J.O.length:Int)>100))))))))=true→J.be.length≤4611686018427387904→ay 0∧ ∀(ew:Int),ay ew→(MM ay aB aQ aR bo bn bU bV cJ cL J al ew))
def MG (J:az) (al:jm) (ay:Int→Prop) (aB:Int→Nat) (aQ:Int→Int→Prop) (aR:Int→Int→Nat) (bo:dP Prop) (bn:dP Nat) (bU:ik Prop) (bV:ik Nat) (cJ:hV Prop) (cL:hV Nat):Prop:=
 MN ay aB aQ aR bo bn bU bV cJ cL J al
theorem ZF (J:az):b2 Try.prog 26 [.agg (bg false J)] (.agg (Eh (hR J))):=(fun(ay:Int→Prop) (aB:Int→Nat) (aQ:Int→Int→Prop) (aR:Int→Int→Nat) (bo:dP Prop) (bn:dP Nat) (bU:ik Prop) (bV:ik Nat) (cJ:hV Prop) (cL:hV Nat) (h:MG J (hR J) ay aB aQ aR bo bn bU bV cJ cL)=>b2.run (ps:=[.dr]) (rs:=[.fault]) (x:=(J,())) (r:=((hR J),())) ⟨166,eh,[Gt,aaR]⟩ ⟨[81,86,96,103,109],[(29,ZH,ZI)],[],[],[]⟩ (eP [1,2,43,44] [(2,2),(1,5)] 45 ay aB fun aN=>(eP [1,2,62,63] [(2,2),(1,5)] 64 (aQ aN) (aR aN) fun bx=>(eP [1,2,85,86] [(2,2),(1,5)] 87 (bo aN bx) (bn aN bx) fun ch=>(eP [1,2,103] [(2,2),(1,5)] 104 (bU aN bx ch) (bV aN bx ch) fun eB=>(eP [1,2,9,103,104,109] [(2,2),(1,5)] 110 (cJ aN bx ch eB) (cL aN bx ch eB) fun _=> .nil))))) Try.func26 h) (cl J.be.length (fun j=> !b4 (nth J.be j) 0 (J.af - 1))) (cy J.be.length) (fun _=>cl J.O.length (fun j=> !g1 J (nth J.O j))) (fun _=>cy J.O.length) (fun _ _=>cl J.bW.length (fun j=>decide ((nth J.bW j).length≠J.O.length))) (fun _ _=>cy J.bW.length) (fun _ _ _=>cl J.O.length (fun i=>(List.range J.O.length).any fun k=>n5 J i.toNat k)) (fun _ _ _=>cy J.O.length) (fun _ _ _ i=>cl J.O.length (fun k=>n5 J i.toNat k.toNat)) (fun _ _ _ _=>cy J.O.length) (by
 unfold MG MN
 refine⟨fun h=> ?_,fun h my=> ?_⟩
 ·have hb:kS J=false:=by
   rw[←Bool.not_eq_true,sj]
   intro hb
   simp[kS] at h
   omega
  rw[Hu hb];exact⟨rfl,rfl⟩
 ·have hb:kS J=true:=by
   rw[sj]
   simp[kS] at h
   omega
  have dW:=sj.1 hb
  refine⟨c6 (dd _),fun hr pF=> ?_⟩
  unfold MM
  refine⟨fun hX BL=> ?_,fun h3=> ?_⟩
  case refine_2=>
   rw[HZ]
   refine⟨⟨b8 pF h3,fun m4=> ?_⟩,fun e1=>cG (cq my) pF h3 (not_eq e1)⟩
   rw[Pl hb (qh (q:=fun s=> !b4 s 0 (J.af - 1)) pF h3 m4)]
   have:=pF.1
   exact⟨rfl,by show hr=(hr.toNat:Int);omega⟩
  have f0:=qi (q:=fun s=> !b4 s 0 (J.af - 1)) pF hX
  refine⟨c6 (dd _),fun v1 pG=> ?_⟩
  unfold ML
  refine⟨fun bA=> ?_,fun k7=> ?_⟩
  case refine_2=>
   refine⟨⟨b8 pG k7,  fun m4=> ?_⟩,fun e1=>cG (cq BL) pG k7 (not_eq e1)⟩
   rw[Pm hb f0 (qh (q:=fun w=> !g1 J w) pG k7 m4)]
   have:=pG.1
   exact⟨rfl,by show v1=(v1.toNat:Int);omega⟩
  have f1:=qi (q:=fun w=> !g1 J w) pG bA
  rw[Hv hb f0 f1]
  refine⟨fun hm cm=> ?_,fun⟨hm,cm⟩=> ?_⟩
  ·have cm:J.bW.length≠J.O.length:=by
    intro e;rw[e] at cm;simp at cm
   rw[Pk cm];exact⟨rfl,rfl⟩
  have aL:J.bW.length=J.O.length:=by
   have:(J.bW.length:Int)=J.O.length:=by simpa using cm
   omega
  refine⟨c6 (dd _),fun v2 oi=> ?_⟩
  unfold MK
  refine⟨fun e2=> ?_,fun hv2=> ?_⟩
  case refine_2=>
   have oX:(((nth J.bW v2).length:Int) !=(J.O.length:Int))=decide ((nth J.bW v2).length≠J.O.length):=by
    rw[Bool.eq_iff_iff];simp;omega
   unfold MJ
   rw[oX]
   refine⟨⟨b8 oi hv2,fun aK m4=> ?_⟩,fun⟨aK,e1⟩=>cG (cq hm) oi hv2 (not_eq e1)⟩
   rw[Ph aL (qh (q:=fun b=>decide (b.length≠J.O.length)) oi hv2 m4)]
   have:=oi.1
   exact⟨rfl,by show v2=(v2.toNat:Int);omega⟩
  have f2:=qi (q:=fun b:List Bool=>decide (b.length≠J.O.length)) oi e2
  have zP: ∀i:Int,0≤i→i<J.O.length→(nth J.bW i).length=J.O.length:=fun i i0 i1=>by
   have:=gG oi e2 i i0 (by omega)
   simpa using this
  refine⟨c6 (dd _),fun np oj=>⟨fun dV=> ?_,fun BW=> ?_⟩⟩
  ·skip
   rw[Ht aL f2 (EK fun j ck e4=>gG oj dV j ck e4)]
   exact⟨rfl,rfl⟩
  ·have wV:np<(J.O.length:Int):=by simpa using BW
   have oW:=oj.1
   refine⟨c6 (dd _),fun v4 pH=> ?_⟩
   unfold MI MH
   rw[J5 oj.1 pH.1]
   have qF:=pH.1
   refine⟨fun iZ=>cG (by omega) oj BW (OK fun j ck e4=>gG pH iZ j ck e4),fun y_=> ?_⟩
   have za:v4<(J.O.length:Int):=by simpa using y_
   have fw:=zP np oj.1 wV
   have vg:=zP v4 pH.1 za
   refine⟨⟨⟨⟨oW,by omega⟩,⟨qF,by omega⟩,⟨qF,by omega⟩,⟨oW,by omega⟩,fun _ _=>⟨⟨oW,by omega⟩,⟨qF,by omega⟩,fun _=>⟨⟨oW,by omega⟩,⟨qF,by omega⟩⟩⟩⟩,fun m4=> ?_⟩,fun e1=>cG (by omega) pH y_ (not_eq e1)⟩
   rw[Pj aL f2 (EL oW wV (fun j ck e4=>oj.2.2 j ck e4) (JW qF za m4))]
   exact⟨rfl,by show np=(np.toNat:Int);omega⟩)
def ZG:ey Try.prog:=⟨26,[.dr],[.fault],none,fun x=>((hR x.1),()),fun x h=>ZF x.1⟩
end Go.Proofs.Ytglpfccgmfhkdaa.Fw
