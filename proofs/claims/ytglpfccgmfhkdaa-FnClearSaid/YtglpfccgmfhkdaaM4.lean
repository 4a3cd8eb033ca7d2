/- The machine, part G: code, loops, functions. -/
import Derived.Test.YtglpfccgmfhkdaaM3
set_option linter.unusedVariables false
namespace Go.Proofs.Ytglpfccgmfhkdaa.Fw
open Go
theorem DB {de:List Nat}: ∀(L:List (Nat×List AV)) (t:Nat),de.contains t=true→eK (nO de L) t=none
 | [],t,h=>rfl
 | (k,c)::L,t,h=>by
  unfold nO
  split
  ·exact DB L t h
  ·rename_i hk
   have:t≠k:=fun e=>by subst e;rw[h] at hk;cases hk
   simp only[eK,if_neg this];exact DB L t h
def ld (a b:AV):Prop:=b=a∨b= .undef∨ ∃rows full fr,a= .bC rows full fr∧b= .bC rows false fr
theorem ld.O8 {w:World} {PA PF:Nat→Prop} {rows:List (List AV)} {full fr:Bool} {v:Value} (h:bH w PA PF (.bC rows full fr) v):bH w PA PF (.bC rows false fr) v:=by
 cases h with
 | bC f_ gK hl cQ e9 dS=>exact .bC f_ gK (fun h=>by cases h) cQ e9 dS
theorem ld.v1 {E:Env} {a b:AV} {v:Value} (h:ld a b) (hv:cC E a v):cC E b v:=by
 rcases h with rfl | rfl | ⟨rows,full,fr,rfl,rfl⟩
 ·exact hv
 ·exact cC.undef _ _
 ·exact ld.O8 hv
theorem ld.m5 {E:Env} {a b:AV} {v:Value} (h:ld a b) (hv:V3 E a v):V3 E b v:=by
 rcases h with rfl | rfl | ⟨rows,full,fr,rfl,rfl⟩
 ·exact hv
 ·exact V3.undef _ _
 ·exact ld.O8 hv
theorem ld.of {a b:AV} (h:b=a∨b= .undef):ld a b:=h.imp_right .inl
theorem Weak.abY [cB] {T T':List AV} {L:List (Nat×List AV)} {H:List Blk} (aL:T'.length=T.length) (h: ∀t,ld (T.getD t .undef) (T'.getD t .undef)):Weak ⟨T,L,H⟩ ⟨T',L,H⟩:=fun cs E tmps g s=>
 ⟨E,rfl,g,s.h,s.l,fun t=>(h t).m5 (s.iq t),by show T'.length=_;rw[aL];exact s.size⟩
theorem Weak.cells [cB] {T:List AV} {L L':List (Nat×List AV)} {H:List Blk} (bY: ∀t cells,eK L t=some cells→ ∃gV,eK L' t=some gV∧gV.length=cells.length∧ ∀(i:Nat) (a:AV),gV[i]?=some a→ ∃b,cells[i]?=some b∧ld b a):Weak ⟨T,L,H⟩ ⟨T,L',H⟩:=fun cs E tmps g s=>
 ⟨E,rfl,g,s.h,fun t c hm=>by
  obtain⟨cells,a7,ty,q1,q2,q3⟩:=s.l t c hm
  obtain⟨gV,fj,fO,fu⟩:=bY t cells q1
  refine⟨gV,a7,ty,fj,q2,by rw[fO];exact q3.1,fun i a v a3 hv=> ?_⟩
  obtain⟨b,hb,q⟩:=fu i a a3
  exact q.v1 (q3.2 i b v hb hv),s.iq,s.size⟩
theorem aeB [cB] {T T':List AV} {L L':List (Nat×List AV)} {H:List Blk} (aL:T'.length=T.length) (cq: ∀t,ld (T.getD t .undef) (T'.getD t .undef)) (de:List Nat) (aI:T'.all (oL de)=true)
  (bY: ∀t cells,de.contains t=false→eK L t=some cells→ ∃gV,eK L' t=some gV∧gV.length=cells.length∧ ∀(i:Nat) (a:AV),gV[i]?=some a→ ∃b,cells[i]?=some b∧ld b a):Weak ⟨T,L,H⟩ ⟨T',L',H⟩:=by
 refine(Weak.abY aL cq).trans ((Weak.nO de aI).trans (Weak.cells fun t cells h=> ?_))
 cases br:de.contains t with
 | true=>rw[DB L t br] at h;cases h
 | false=>rw[Am L t br] at h;exact bY t cells br h
theorem NA (l:List (Nat×TV)) (k:Nat) (d:TV):(∃v,(k,v)∈l∧fN l k d=v)∨fN l k d=d:=by
 induction l with
 | nil=>exact .inr rfl
 | cons p r bR=>
  obtain⟨a,w⟩:=p
  rw[gD]
  by_cases e:a=k
  ·subst e;exact .inl ⟨w,List.mem_cons_self ..,if_pos rfl⟩
  ·rw[if_neg e]
   rcases bR with⟨v,h1,h2⟩ | h
   ·exact .inl ⟨v,List.mem_cons_of_mem _ h1,h2⟩
   ·exact .inr h
theorem Db (s:TS) (v:Nat): ∀(c m:Nat),(hL s v c m).length=m
 | _,0=>rfl
 | c,m+1=>by rw[hL,List.length_cons,Db s v (c+1) m]
theorem Af (s:TS) (v:Nat): ∀(m c i:Nat),(cJ (hL s v c m))[i]?=if i<m then some (s.get (e6 v (c+i))).bE else none
 | 0,c,i=>by simp[hL,cJ]
 | m+1,c,i=>by
  rw[hL,cJ]
  cases i with
  | zero=>simp
  | succ i=>
   rw[List.getElem?_cons_succ,Af s v m (c+1) i,show c+1+i=c+(i+1) by omega]
   by_cases h:i<m
   ·rw[if_pos h,if_pos (by omega)]
   ·rw[if_neg h,if_neg (by omega)]
theorem Ct [FZ] (n:Nat) (s:TS):s.aJ n=⟨(s.aJ n).T,(s.aJ n).L,(s.aJ n).H⟩:=rfl
theorem R5 [cB] [FZ] {n:Nat} {s S:TS} (c5:ii S=ii s) (cq: ∀t,t<n→ld (s.get t).bE (S.get t).bE) (de:List Nat) (aI:(S.aJ n).T.all (oL de)=true)
  (hv: ∀v m,de.contains v=false→kH s.vs v=some m→kH S.vs v=some m∧ ∀c,ld (s.get (e6 v c)).bE (S.get (e6 v c)).bE)
  (hb:S.bp=s.bp) (dV: ∀b,b<s.bp→(S.get (bD b)).ea=(s.get (bD b)).ea):Weak (s.aJ n) (S.aJ n):=by
 have aR:(S.aJ n).H=(s.aJ n).H:=by
  show S.gg++gY S=s.gg++gY s
  have e2:gY S=gY s:=by unfold gY;rw[c5]
  rw[e2]
  congr 1
  apply List.ext_getElem?
  intro b
  rw[pO,pO,hb]
  by_cases h:b<s.bp
  ·rw[if_pos h,if_pos h,dV b h]
  ·rw[if_neg h,if_neg h]
 rw[Ct n s,Ct n S,aR]
 refine aeB (by show((List.range n).map _).length=((List.range n).map _).length;simp) (fun t=> ?_) de aI fun t cells br h=> ?_
 ·rw[zB,zB]
  by_cases h:t<n
  ·rw[if_pos h,if_pos h];exact cq t h
  ·rw[if_neg h,if_neg h];exact .inl rfl
 ·rw[u2] at h
  cases hm:kH s.vs t with
  | none=>rw[hm] at h;cases h
  | some m=>
   rw[hm] at h
   cases h
   obtain⟨q1,q2⟩:=hv t m br hm
   refine⟨cJ (hL S t 0 m),by rw[u2,q1];rfl,?_,fun i a a3=> ?_⟩
   ·show(cJ _).length=(cJ _).length
    rw[nJ,nJ,List.length_map,List.length_map,Db,Db]
   ·rw[Af] at a3 ⊢
    by_cases hi:i<m
    ·rw[if_pos hi] at a3 ⊢
     cases a3
     exact⟨_,rfl,q2 (0+i)⟩
    ·rw[if_neg hi] at a3;cases a3
theorem ZI (l:List AV):l.all (oL [])=true:=by
 have aT: ∀a,uw [] a=true:=fun a=>by cases a<;>rfl
 have h1: ∀a,sL [] a=true:=fun a=>by
  unfold sL
  split
  ·exact List.all_eq_true.2 fun x _=>aT x
  ·exact aT _
 have h2: ∀a,sM [] a=true:=fun a=>by
  unfold sM
  split
  ·exact List.all_eq_true.2 fun x _=>h1 x
  ·exact h1 _
 have aN: ∀a,oL [] a=true:=fun a=>by
  unfold oL
  split
  ·exact List.all_eq_true.2 fun x _=>h2 x
  ·exact h2 _
 exact List.all_eq_true.2 fun x _=>aN x
theorem Fits.le [FZ] {s S:TS} (h:s.gI S) (f:Fits s):Fits S:=f.congr fun k h1 h2=>(h.get k).resolve_right fun q=>by
 rcases q with q | q
 ·have:=q.1;omega
 ·have:=q.1;omega
theorem aeC [cB] [FZ] {n:Nat} (aH:n≤1000000) {s S:TS} (h:s.gI S):Weak (s.aJ n) (S.aJ n):=by
 have Jv: ∀k,¬k<1000000→S.get k=s.get k∨(1000010≤k∧I9 (s.get k) (S.get k)):=fun k hk=>(h.get k).imp_right fun q=>q.resolve_left fun q=>hk q.1
 have yj: ∀k,¬k<1000000→(S.get k).bE=(s.get k).bE∧(S.get k).ea=(s.get k).ea:=fun k hk=>by
  rcases Jv k hk with e | ⟨_,g,c,c',bB,e2,dK⟩
  ·rw[e];exact⟨rfl,rfl⟩
  ·rw[bB,e2]
   refine⟨rfl,?_⟩
   show Blk.mk g c'.length [cJ c']=Blk.mk g c.length [cJ c]
   have aL:c'.length=c.length:=by have:=congrArg List.length dK;rwa [nJ,nJ,List.length_map,List.length_map] at this
   rw[dK,aL]
 have aP:S.get dC=s.get dC:=(Jv dC (by unfold dC;omega)).resolve_right fun q=>by have:=q.1;unfold dC at this;omega
 refine R5 (BH aP) (fun t br=> ?_) [] (ZI _) (fun v m _ hm=>⟨by rw[h.vs];exact hm,fun c=> .inl (yj _ (by unfold e6;omega)).1⟩) h.bp fun b _=>(yj _ (by unfold bD;omega)).2
 rcases h.get t with e | ⟨_,e⟩ | ⟨e,_⟩
 ·exact .inl (by rw[e])
 ·exact .of e
 ·omega
inductive lb:Type 1 where
 | nil
 | tA (a b:lb)
 | lp (lJ:List (Nat×Nat×bI)) (e7:List Nat) (kZ:List (Nat×Nat)) (kv:List bI) (rd:List Nat) (hM:cX kv→List (Nat×TV)) (I:cX kv→Prop) (m:cX kv→Nat) (b:cX kv→lb)
def lb.fst:lb→lb
 | .tA a _=>a
 | a=>a
def lb.snd:lb→lb
 | .tA _ b=>b
 | a=>a
def CV:(kv:List bI)→(cX kv→aV)→aV
 | [],F=>F ()
 | e::r,F=> .all e.T fun x=>CV r fun y=>F (x,y)
theorem Jf {R:Exit→TS→Prop}: ∀{kv:List bI} {F:cX kv→aV},(CV kv F).den R→ ∀v,(F v).den R
 | [],F,h,()=>h
 | e::r,F,h,(x,y)=>Jf (h x) y
def G7:(e:bI)→TV→(e.T→aV)→aV
 | .int,v,K=>(match v with
  | .i _ m=>K m
  | _=> .no)
 | .u64,v,K=>(match v with
  | .i _ m=>K m
  | _=> .no)
 | .bool,v,K=>(match v with
  | .b x=>K x.den
  | _=> .no)
 | .str,v,K=>(match v with
  | .s x=>K x
  | _=> .no)
 | .nat,v,K=>(match v with
  | .blk g _ _ _ _=>K g
  | _=> .no)
 | .c4,v,K=>(match v with
  | .et _ c=>K (bI.mk .c4 (oA bI.c4.kF c))
  | _=> .no)
 | .l e,v,K=>(match v with
  | .l dP xs _ _=>if h:dP=e then K (lN h xs) else .no
  | .blk _ dP xs _ _=>if h:dP=e then K (lN h xs) else .no
  | .nil _ _=>K []
  | _=> .no)
 | _,_,_=> .no
def Ca (s:TS):(kv:List bI)→List Nat→(cX kv→aV)→aV
 | [],_,K=>K ()
 | e::r,k::Bu,K=>G7 e (s.get k) fun x=>Ca s r Bu fun y=>K (x,y)
 | _,_,_=> .no
theorem aaM {R:Exit→TS→Prop} {e:bI} {v:TV} {K:e.T→aV} (h:(G7 e v K).den R): ∃x,(K x).den R:=by
 cases e with
 | int=>
  have h:(match v with
   | .i _ m=>K m
   | _=>aV.no).den R:=h
  split at h
  ·exact⟨_,h⟩
  ·exact h.elim
 | u64=>
  have h:(match v with
   | .i _ m=>K m
   | _=>aV.no).den R:=h
  split at h
  ·exact⟨_,h⟩
  ·exact h.elim
 | bool=>
  have h:(match v with
   | .b x=>K x.den
   | _=>aV.no).den R:=h
  split at h
  ·exact⟨_,h⟩
  ·exact h.elim
 | str=>
  have h:(match v with
   | .s x=>K x
   | _=>aV.no).den R:=h
  split at h
  ·exact⟨_,h⟩
  ·exact h.elim
 | nat=>
  have h:(match v with
   | .blk g _ _ _ _=>K g
   | _=>aV.no).den R:=h
  split at h
  ·exact⟨_,h⟩
  ·exact h.elim
 | c4=>
  have h:(match v with
   | .et _ c=>K (bI.mk .c4 (oA bI.c4.kF c))
   | _=>aV.no).den R:=h
  split at h
  ·exact⟨_,h⟩
  ·exact h.elim
 | l e=>
  have h:(match v with
   | .l dP xs _ _=>if h:dP=e then K (lN h xs) else aV.no
   | .blk _ dP xs _ _=>if h:dP=e then K (lN h xs) else aV.no
   | .nil _ _=>K []
   | _=>aV.no).den R:=h
  split at h
  ·split at h
   ·exact⟨_,h⟩
   ·exact h.elim
  ·split at h
   ·exact⟨_,h⟩
   ·exact h.elim
  ·exact⟨_,h⟩
  ·exact h.elim
 | _=>exact h.elim
theorem G8 {R:Exit→TS→Prop} {s:TS}: ∀{kv:List bI} {Bu:List Nat} {K:cX kv→aV},(Ca s kv Bu K).den R→ ∃v,(K v).den R
 | [],_,K,h=>⟨(),h⟩
 | e::r,k::Bu,K,h=>by
  obtain⟨x,h⟩:=aaM (show(G7 e (s.get k) _).den R from h)
  obtain⟨y,h⟩:=G8 h
  exact⟨(x,y),h⟩
 | e::r,[],K,h=>h.elim
def De (s:TS) (k:Nat) (w:TV) (t:aV):aV:=match w with
 | .ref b g m f=>(match s.get k with
  | .ref cj dB fq AC=>(match s.get (bD b) with
   | .blk _ _ xs NK _=> .eq cj b (.eq AC f (.eq dB g (.eq fq NK (.eq m xs.length t))))
   | _=> .no)
  | _=> .no)
 | .blk g e xs _ _=>(match s.get k with
  | .blk dB dP ve _ _=>if h:dP=e then .eq dB g (.eq (lN h ve) xs t) else .no
  | _=> .no)
 | .b y=>(match s.get k with
  | .b x=> .eq x.den y.den t
  | _=> .no)
 | .et g c=>(match s.get k with
  | .et dB c'=> .eq dB g (.eq (cJ c') (cJ c) (.eq c'.length c.length t))
  | _=> .no)
 | .l e xs en fr=>(match en with
  | true=> .eq (s.get k) (.l e xs true fr) t
  | false=>match s.get k with
   | .l dP ve _ x4=>if h:dP=e then .eq x4 fr (.eq (lN h ve) xs t) else .no
   | .nil _ x4=> .eq x4 fr (.eq [] xs t)
   | _=> .no)
 | w=> .eq (s.get k) w t
def Bs:TV→Bool
 | .blk _ _ _ _ _=>true
 | .et _ _=>true
 | .kr _ _ _=>true
 | _=>false
def F0:TV→Bool
 | .gX _ _ _ _=>true
 | .new _ _=>true
 | _=>false
theorem Ty [FZ] {R:Exit→TS→Prop} {s:TS} {k:Nat} {w:TV} {t:aV} (h:(De s k w t).den R):(ld (s.get k).bE w.bE∧(Bs w=true→w.ea=(s.get k).ea)∧(F0 w=true→s.get k=w))∧t.den R:=by
 unfold De at h
 split at h
 ·split at h
  ·rename_i cj dB fq AC hk
   split at h
   ·rename_i bx ie xs NK aL hb
    obtain⟨h1,h2,aN,be,ci,cK⟩:=h
    subst h1;subst h2;subst aN;subst be;subst ci
    refine⟨⟨.inl ?_,(fun q=>by cases q),fun q=>by cases q⟩,cK⟩
    rw[hk,aL]
   ·exact h.elim
  ·exact h.elim
 ·split at h
  ·rename_i dB dP ve fq qj hk
   split at h
   ·rename_i he
    subst he
    obtain⟨h1,h2,aN⟩:=h
    subst h1
    have h2:ve=_:=h2
    subst h2
    refine⟨⟨.inl ?_,fun _=> ?_,fun q=>by cases q⟩,aN⟩<;>rw[hk]<;>rfl
   ·exact h.elim
  ·exact h.elim
 ·split at h
  ·rename_i y _ x hk
   obtain⟨h1,h2⟩:=h
   refine⟨⟨.inl ?_,(fun q=>by cases q),fun q=>by cases q⟩,h2⟩
   rw[hk];show AV.bool y.den= .bool x.den;rw[h1]
  ·exact h.elim
 ·split at h
  ·rename_i dB c' hk
   obtain⟨h1,h2,aN,be⟩:=h
   refine⟨⟨.inl (by rw[hk];rfl),fun _=> ?_,fun q=>by cases q⟩,be⟩
   rw[hk]
   show(⟨_,_,_⟩:Blk)=⟨_,_,_⟩
   rw[h1,h2,aN]
  ·exact h.elim
 ·split at h
  ·obtain⟨h1,h2⟩:=h
   exact⟨⟨.inl (by rw[h1]),(fun _=>by rw[h1]),fun _=>h1⟩,h2⟩
  ·split at h
   ·rename_i dP ve Vi x4 hk
    split at h
    ·rename_i he
     subst he
     obtain⟨h1,h2,aN⟩:=h
     subst h1
     have h2:ve=_:=h2
     subst h2
     exact⟨⟨.inr (.inr ⟨_,_,_,by rw[hk];rfl,rfl⟩),(fun q=>by cases q),fun q=>by cases q⟩,aN⟩
    ·exact h.elim
   ·rename_i Vi x4 hk
    obtain⟨h1,h2,aN⟩:=h
    subst h1;subst h2
    exact⟨⟨.inr (.inr ⟨[],_,_,by rw[hk];rfl,rfl⟩),(fun q=>by cases q),fun q=>by cases q⟩,aN⟩
   ·exact h.elim
 ·obtain⟨h1,h2⟩:=h
  exact⟨⟨.inl (by rw[h1]),(fun _=>by rw[h1]),fun _=>h1⟩,h2⟩
def Df (s:TS):List (Nat×TV)→aV→aV
 | [],t=>t
 | (k,w)::r,t=>De s k w (Df s r t)
theorem JN [FZ] {R:Exit→TS→Prop} {s:TS} {t:aV}: ∀{l:List (Nat×TV)},(Df s l t).den R→(∀k w,(k,w)∈l→ld (s.get k).bE w.bE∧(Bs w=true→w.ea=(s.get k).ea)∧(F0 w=true→s.get k=w))∧t.den R
 | [],h=>⟨(fun k w h=>by cases h),h⟩
 | (k,w)::r,h=>by
  obtain⟨h1,h2⟩:=Ty h
  obtain⟨aN,be⟩:=JN h2
  refine⟨fun kC w' hm=> ?_,be⟩
  rcases List.mem_cons.1 hm with e | hm
  ·cases e;exact h1
  ·exact aN kC w' hm
def Cv (vs:List (Nat×Nat)):List (Nat×Nat)→Bool
 | []=>true
 | (v,m)::r=>(match kH vs v with
  | some fq=>Nat.beq m fq
  | none=>false)&&Cv vs r
def z0 (s:TS):Nat→Bool
 | 0=>true
 | b+1=>Bs (s.get (bD b))&&z0 s b
def vF (kZ:List (Nat×Nat)):List (Nat×Nat)→List Nat
 | []=>[]
 | (v,_)::r=>match(kH kZ v).isSome with
  | true=>vF kZ r
  | false=>v::vF kZ r
def ED (s S:TS) (t:aV):aV:=
 .eq (Cv s.vs S.vs) true (.eq (Nat.beq S.bp s.bp) true (.eq (z0 S s.bp) true (.eq (S.T.all fun p=>oL (vF S.vs s.vs) p.2.bE) true (.eq (ii S) (ii s) (Df s S.T t)))))
theorem Gj: ∀{l:List (Nat×Nat)} {v m:Nat},kH l v=some m→(v,m)∈l
 | [],_,_,h=>by cases h
 | (k,fq)::r,v,m,h=>by
  unfold kH at h
  split at h
  ·rename_i hk;cases h;rw[Nat.eq_of_beq_eq_true hk];exact List.mem_cons_self ..
  ·exact List.mem_cons_of_mem _ (Gj h)
theorem DC {kZ:List (Nat×Nat)}: ∀{l:List (Nat×Nat)} {v m:Nat},(vF kZ l).contains v=false→(v,m)∈l→(kH kZ v).isSome=true
 | [],_,_,_,h=>by cases h
 | (k,fq)::r,v,m,bi,h=>by
  unfold vF at bi
  split at bi
  ·rename_i hk
   rcases List.mem_cons.1 h with e | h
   ·cases e;exact hk
   ·exact DC bi h
  ·rename_i hk
   simp only[List.contains_cons,Bool.or_eq_false_iff] at bi
   rcases List.mem_cons.1 h with e | h
   ·cases e;simp at bi
   ·exact DC bi.2 h
theorem RM {vs:List (Nat×Nat)}: ∀{l:List (Nat×Nat)},Cv vs l=true→ ∀v m,(v,m)∈l→kH vs v=some m
 | [],_,_,_,h=>by cases h
 | (k,fq)::r,hs,v,m,h=>by
  simp only[Cv,Bool.and_eq_true] at hs
  rcases List.mem_cons.1 h with e | h
  ·cases e
   have h1:=hs.1
   split at h1
   ·rename_i bu hm;rw[hm,Nat.eq_of_beq_eq_true h1]
   ·cases h1
  ·exact RM hs.2 v m h
theorem Je {s:TS}: ∀{n:Nat},z0 s n=true→ ∀b,b<n→Bs (s.get (bD b))=true
 | 0,_,b,h=>by omega
 | n+1,hs,b,h=>by
  simp only[z0,Bool.and_eq_true] at hs
  rcases Nat.lt_or_ge b n with q | q
  ·exact Je hs.2 b q
  ·have:b=n:=by omega
   subst this;exact hs.1
theorem La [cB] [FZ] {n:Nat} {s S:TS} {t:aV} {R:Exit→TS→Prop} (dV:S.B=[]) (aP:Fits s) (h:(ED s S t).den R):Weak (s.aJ n) (S.aJ n)∧Fits S∧t.den R:=by
 obtain⟨h1,h2,aN,be,c5,ci⟩:=h
 obtain⟨cK,gC⟩:=JN ci
 have wg:=Nat.eq_of_beq_eq_true h2
 have g_: ∀k,(∃v,(k,v)∈S.T∧S.get k=v)∨S.get k= .u:=fun k=>by
  unfold TS.get;rw[dV];exact NA ..
 have K8: ∀k,ld (s.get k).bE (S.get k).bE:=fun k=>by
  rcases g_ k with⟨v,hm,e⟩ | e
  ·rw[e];exact(cK k v hm).1
  ·rw[e];exact .inr (.inl rfl)
 have wm: ∀k,F0 (S.get k)=true→s.get k=S.get k:=fun k hk=>by
  rcases g_ k with⟨v,hm,e⟩ | e
  ·rw[e] at hk ⊢;exact(cK k v hm).2.2 hk
  ·rw[e] at hk;cases hk
 have VS:Fits S:=fun V ids pA h' mb=>by
  have e:=wm dC (by rw[mb];rfl)
  obtain⟨q1,q2,q3⟩:=aP V ids pA h' (by rw[e,mb])
  exact⟨q1,q2,fun id xs kx=>q3 id xs (by rw[wm fV (by rw[kx];rfl),kx])⟩
 refine⟨R5 c5 (fun t _=>K8 t) (vF S.vs s.vs) ?_ (fun v m bi hm=> ?_) wg (fun b hb=> ?_),VS,gC⟩
 ·rw[List.all_eq_true]
  intro a a3
  obtain⟨k,_,rfl⟩:=List.mem_map.1 (show a∈(List.range n).map fun t=>(S.get t).bE from a3)
  rcases g_ k with⟨v,hm,e⟩ | e
  ·rw[e];exact List.all_eq_true.1 be (k,v) hm
  ·rw[e];rfl
 ·have hs:=DC bi (Gj hm)
  cases ak:kH S.vs v with
  | none=>rw[ak] at hs;cases hs
  | some fq=>
   have:=RM h1 v fq (Gj ak)
   rw[hm] at this
   cases this
   exact⟨rfl,fun c=>K8 _⟩
 ·have hi:=Je aN b hb
  rcases g_ (bD b) with⟨v,hm,e⟩ | e
  ·rw[e] at hi ⊢;exact(cK _ v hm).2.1 hi
  ·rw[e] at hi;cases hi
def AA (s:TS):Nat→Nat→List (Nat×TV)
 | _,0=>[]
 | b,k+1=>(bD b,s.get (bD b))::AA s (b+1) k
def mD (s S:TS):TS:=⟨S.T++AA s S.bp (s.bp - S.bp),[],S.vs,s.bp⟩
def OL (n:Nat):TV→Bool
 | .et _ c=>(cJ c).all (pL n)
 | .kr _ _ _=>false
 | _=>true
def JU (jY:Option Nat) (S:TS) (m:Nat):Bool:=match jY with
 | some k=>Nat.ble k S.bp&&Nat.ble S.bp m&&ii S&&S.T.all fun p=>xa S.bp p.2.bE&&OL S.bp p.2
 | none=>false
def toHead (jY:Option Nat) (s S:TS) (t:aV):aV:=match Nat.beq S.bp s.bp with
 | true=>ED s S t
 | false=>ED s (mD s S) (.eq (mD s S).cn S.cn (.eq (JU jY S s.bp) true t))
theorem Km (s:TS): ∀(k b:Nat) (j:Nat),(j<bD b)→ ∀v,(j,v) ∉ AA s b k
 | 0,b,j,h,v,hm=>by cases hm
 | k+1,b,j,h,v,hm=>by
  rcases List.mem_cons.1 hm with e | hm
  ·cases e;exact absurd h (Nat.lt_irrefl _)
  ·exact Km s k (b+1) j (by unfold bD at h ⊢;omega) v hm
theorem aeE {s S:TS} (dV:S.B=[]) {j:Nat} (h:j<bD S.bp):(mD s S).get j=S.get j:=by
 show fN (S.T++AA s S.bp (s.bp - S.bp)) j (fN [] j .u)=fN S.T j (fN S.B j .u)
 rw[rR,dV,sK (Km s _ _ j h)]
theorem Uc {n:Nat} (fr:Bool) (e:bI) (x:e.T):(b6 fr e x).all (pL n)=true:=by cases e<;>rfl
theorem aaX {n:Nat} {a:AV} (h:xa n a=true):pL n a=true:=by cases a<;>first | exact h | rfl
theorem toHead_sound [iJ:cB] [FZ] {n:Nat} (aH:n≤1000000) {jY:Option Nat} (ga: ∀k,jY=some k→iJ.n≤k) {s S:TS} {t:aV} {R:Exit→TS→Prop} (dV:S.B=[]) (aP:Fits s) (h:(toHead jY s S t).den R):Weak (s.aJ n) (S.aJ n)∧Fits S∧t.den R:=by
 unfold toHead at h
 split at h
 ·exact La dV aP h
 ·obtain⟨w,hf,iN,h1,h2⟩:=La (n:=n) (S:=mD s S) rfl aP h
  unfold JU at h1
  split at h1
  ·rename_i k
   simp only[Bool.and_eq_true] at h1
   obtain⟨⟨⟨q1,q2⟩,q3⟩,q4⟩:=h1
   have q1:=Nat.le_of_ble_eq_true q1
   have q2:=Nat.le_of_ble_eq_true q2
   have hg: ∀j,j<bD S.bp→(mD s S).get j=S.get j:=fun j h=>aeE dV h
   have A2: ∀b,b<S.bp→bD b<bD S.bp:=fun b h=>by unfold bD;omega
   have Xm:dC<bD S.bp:=by unfold dC bD;omega
   have WD:ii (mD s S)=true:=by rw[BH (hg dC Xm)];exact q3
   have eT:(mD s S).tT n=S.tT n:=List.map_congr_left fun t br=>by rw[hg t (by have:=List.mem_range.1 br;unfold bD;omega)]
   have g_: ∀k,(∃v,(k,v)∈S.T∧S.get k=v)∨S.get k= .u:=fun k=>by
    unfold TS.get;rw[dV];exact NA ..
   have EV: ∀k,xa S.bp (S.get k).bE=true∧OL S.bp (S.get k)=true:=fun k=>by
    rcases g_ k with⟨v,hm,e⟩ | e
    ·have:=List.all_eq_true.1 q4 _ hm
     rw[Bool.and_eq_true] at this
     rw[e];exact this
    ·rw[e];exact⟨rfl,rfl⟩
   have aR: ∀b,((mD s S).aJ n).H[b]?=if b<s.bp then some ((mD s S).get (bD b)).ea else none:=fun b=>by
    show((mD s S).gg++gY (mD s S))[b]?=_
    have:gY (mD s S)=[]:=by unfold gY;rw[WD]
    rw[this,List.append_nil,pO];rfl
   have JX:=Weak.cut (T:=S.tT n) (L:=S.cn) (H:=((mD s S).aJ n).H) S.bp (Nat.le_trans (ga k rfl) q1) (fun t=> ?_) (fun t cells hc=> ?_) (fun b blk hb yj row aK=> ?_)
   ·have bB:(mD s S).aJ n=⟨S.tT n,S.cn,((mD s S).aJ n).H⟩:=by rw[←eT,←iN];rfl
    have e2:(⟨S.tT n,S.cn,((mD s S).aJ n).H.take S.bp⟩:St)=S.aJ n:=by
     show _=(⟨S.tT n,S.cn,S.gg++gY S⟩:St)
     have:gY S=[]:=by unfold gY;rw[q3]
     rw[this,List.append_nil]
     congr 1
     apply List.ext_getElem?
     intro b
     rw[List.getElem?_take,aR,pO]
     by_cases hb:b<S.bp
     ·rw[if_pos hb,if_pos (by omega),if_pos hb,hg _ (A2 b hb)]
     ·rw[if_neg hb,if_neg hb]
    rw[bB] at w
    rw[e2] at JX
    exact⟨w.trans JX,hf.congr fun k h1 h2=>(hg k (by unfold bD;omega)).symm,h2⟩
   ·have:=zB (n:=n) (s:=S) t
    have this:(S.tT n).getD t .undef=_:=this
    rw[this]
    split
    ·exact(EV t).1
    ·rfl
   ·have:=u2 (n:=n) (s:=S) t
    have this:eK S.cn t=_:=this
    rw[this] at hc
    cases hm:kH S.vs t with
    | none=>rw[hm] at hc;cases hc
    | some m=>
     rw[hm] at hc
     cases hc
     rw[List.all_eq_true]
     intro a a3
     obtain⟨i,hi⟩:=List.mem_iff_getElem?.1 a3
     rw[Af] at hi
     split at hi
     ·cases hi;exact aaX (EV _).1
     ·cases hi
   ·rw[aR,if_pos (by omega),hg _ (A2 b hb)] at yj
    cases yj
    have ak:=(EV (bD b)).2
    revert aK ak
    cases S.get (bD b) with
    | blk g e xs m h=>
     intro aK _
     obtain⟨x,_,rfl⟩:=List.mem_map.1 (show row∈xs.map (b6 true e) from aK)
     exact Uc true e x
    | et g c=>
     intro aK ak
     rw[List.mem_singleton.1 (show row∈[cJ c] from aK)];exact ak
    | kr g m ids=>intro _ ak;cases ak
    | _=>intro aK _;cases aK
  ·cases h1
def vp (n:Nat):List (Nat×Nat×bI)→TS→(TS→aV)→aV
 | [],s,K=>K s
 | p::r,s,K=>
  let s1:=s.gJ s.bp (s.bp+1) (.blk 0 p.2.2 [] 0 rfl)
  match p.1 with
  | 0=> .eq (rN (cF n s (.tmp p.2.1)).bE) true (.eq s1.cn s.cn (.eq (ii s) true (vp n r (kl n s1 (some p.2.1) (.ref s.bp 0 0 false)) K)))
  | v+1=>
   let s2:=s1.add [(e6 v p.2.1,.ref s.bp 0 0 false)] s1.vs s1.bp
   match kH s.vs v with
   | some m=> .eq (rN ((cJ (hL s v 0 m)).getD p.2.1 .undef)) true (.eq s2.cn (k7 s.cn v ((cJ (hL s v 0 m)).set p.2.1 (.ref s.bp 0 0 0 false))) (.eq (o6 [(e6 v p.2.1,.ref s.bp 0 0 false)]) true (.eq (ii s) true (vp n r s2 K))))
   | none=> .no
theorem zZ [cB] [FZ] {n:Nat} (aH:n≤1000000) {R:Exit→TS→Prop} {K:TS→aV}: ∀{l:List (Nat×Nat×bI)} {s:TS},Fits s→(vp n l s K).den R→ ∃s',Weak (s.aJ n) (s'.aJ n)∧Fits s'∧(K s').den R
 | [],s,aP,h=>⟨s,.refl _,aP,h⟩
 | (p,q,e)::r,s,aP,h=>by
  unfold vp at h
  simp only at h
  split at h
  ·obtain⟨h1,h2,c5,h⟩:=h
   obtain⟨s',w,hf,h⟩:=zZ aH (y9 aH (p5 aP)) h
   refine⟨s',Weak.trans ?_ w,hf,h⟩
   have cq:(cF n s (.tmp q)).bE=(s.aJ n).T.getD q .undef:=(congrFun (k0 n s) (.tmp q)).symm
   rw[cq] at h1
   have:=Weak.SD q e.lX (L:=(s.aJ n).L) (H:=(s.aJ n).H) h1
   rw[y_ aH]
   show Weak _ ⟨putA ((s.gJ s.bp (s.bp+1) _).tT n) _ _,(s.gJ s.bp (s.bp+1) _).cn,((s.gJ s.bp (s.bp+1) _).aJ n).H⟩
   rw[p4 aH,h2,Aa c5]
   rw[Cu c5] at this
   exact this
  ·rename_i v
   split at h
   ·rename_i m hm
    obtain⟨h1,h2,dV,c5,h⟩:=h
    obtain⟨s',w,hf,h⟩:=zZ aH (xL dV (p5 aP)) h
    refine⟨s',Weak.trans ?_ w,hf,h⟩
    have:=Weak.tu v q e.lX (T:=(s.aJ n).T) (H:=(s.aJ n).H) (show eK (s.aJ n).L v=some (cJ (hL s v 0 m)) by rw[u2,hm];rfl) h1
    rw[Cu c5] at this
    show Weak _ ⟨(TS.add _ _ _ _).tT n,(TS.add _ _ _ _).cn,((TS.add _ _ _ _).aJ n).H⟩
    rw[h2,xK aH dV,p4 aH]
    have dK:=xJ (n:=n) (s:=s.gJ s.bp (s.bp+1) (.blk 0 e [] 0 rfl)) (vs:=(s.gJ s.bp (s.bp+1) (.blk 0 e [] 0 rfl)).vs) dV
    rw[dK,Aa c5]
    exact this
   ·exact h.elim
theorem Ub {e:bI} (h:e.oN=true) (x:e.T): ∀a∈b6 true e x,jv a=true∧nR a=true:=by
 have key:(b6 true e x).all (fun a=>jv a&&nR a)=true:=by cases e<;>first | rfl | cases h
 intro a a3
 have:=List.all_eq_true.1 key a a3
 rwa [Bool.and_eq_true] at this
theorem aev (e:bI) (x:e.T):(b6 true e x).map ko=b6 false e x:=by
 rw[←qa,←qa]
 have key: ∀(es:List bI) (y:cX es),(lQ true es y).map ko=lQ false es y:=by
  intro es
  induction es with
  | nil=>intro y;rfl
  | cons e r bR=>
   intro y
   show ko (oz true e y.1)::(lQ true r y.2).map ko=_
   rw[bR,lQ]
   congr 1
   cases e<;>rfl
 exact key _ _
def x6 (jY:Option Nat) (n:Nat):List (Nat×Nat)→TS→(TS→aV)→aV
 | [],s,K=>K s
 | p::r,s,K=>match s.get (match p.1 with
   | 0=>p.2
   | v+1=>e6 v p.2) with
  | .ref b g m _=>(match jY with
   | some k=>(match Nat.ble k b with
    | true=>rc s b g fun e xs fq h=>
     let s1:=s.gJ b s.bp (.blk (g+1) e [] 0 rfl)
     match p.1 with
     | 0=> .eq (Nat.blt p.2 n) true (.eq fq m (.eq e.oN true (.eq s1.cn s.cn (.p (xs.length≤4611686018427387904) (x6 jY n r (kl n s1 (some p.2) (.l e xs false true)) K)))))
     | v+1=>
      let s2:=s1.add [(e6 v p.2,.l e xs false true)] s1.vs s1.bp
      match kH s.vs v with
      | some hF=> .eq (Nat.blt p.2 hF&&o6 [(e6 v p.2,TV.l e xs false true)]) true (.eq fq m (.eq e.oN true (.eq s2.cn (k7 s.cn v ((cJ (hL s v 0 hF)).set p.2 (TV.l e xs false true).bE)) (.p (xs.length≤4611686018427387904) (x6 jY n r s2 K)))))
      | none=> .no
    | false=> .no)
   | none=> .no)
  | _=> .no
theorem Ec [iJ:cB] [FZ] {n:Nat} (aH:n≤1000000) {jY:Option Nat} (ga: ∀k,jY=some k→iJ.n≤k) {R:Exit→TS→Prop} {K:TS→aV}: ∀{l:List (Nat×Nat)} {s:TS},Fits s→(x6 jY n l s K).den R→ ∃s',Weak (s.aJ n) (s'.aJ n)∧Fits s'∧(K s').den R
 | [],s,aP,h=>⟨s,.refl _,aP,h⟩
 | (p,q)::r,s,aP,h=>by
  unfold x6 at h
  simp only at h
  split at h
  ·rename_i b g m en po
   split at h
   ·rename_i k
    split at h
    ·rename_i A2
     have K4:=Nat.le_trans (ga k rfl) (Nat.le_of_ble_eq_true A2)
     obtain⟨e,xs,fq,hm,h,hb,aR⟩:=vu (n:=n) h
     have gl: ∀row∈xs.map (b6 true e),e.oN=true→ ∀a∈row,jv a=true∧nR a=true:=fun row aK aC a a3=>by
      obtain⟨x,_,rfl⟩:=List.mem_map.1 aK
      exact Ub aC x a a3
     have qn:(xs.map (b6 true e)).map (fun row=>row.map ko)=xs.map (b6 false e):=by
      rw[List.map_map];exact List.map_congr_left fun x _=>aev e x
     cases p with
     | zero=>
      obtain⟨aT,h1,h2,aN,be,h⟩:=h
      replace po:s.get q= .ref b g m en:=po
      obtain⟨s',w,hf,h⟩:=Ec aH ga (y9 aH (p5 aP)) h
      refine⟨s',Weak.trans ?_ w,hf,h⟩
      have ak:q<n:=by rw[Nat.blt_eq] at aT;exact aT
      have cq:(s.aJ n).T.getD q .undef= .ref b g 0 m en:=by
       rw[zB,if_pos ak,po];rfl
      have:=Weak.Vh q (L:=(s.aJ n).L) cq (by rw[List.length_map,←h1];exact hm.symm) aR K4 (fun row aK a a3=>gl row aK h2 a a3) (by rw[List.length_map];exact be)
      rw[qn] at this
      rw[y_ aH]
      show Weak _ ⟨putA ((s.gJ b s.bp _).tT n) _ _,(s.gJ b s.bp _).cn,((s.gJ b s.bp _).aJ n).H⟩
      rw[p4 aH,aN,tz hb]
      exact this
     | succ v=>
      replace po:s.get (e6 v q)= .ref b g m en:=po
      simp only at h
      split at h
      ·rename_i hF rD
       obtain⟨aT,h1,h2,aN,be,h⟩:=h
       rw[Bool.and_eq_true,Nat.blt_eq] at aT
       obtain⟨s',w,hf,h⟩:=Ec aH ga (xL aT.2 (p5 aP)) h
       refine⟨s',Weak.trans ?_ w,hf,h⟩
       have hc:eK (s.aJ n).L v=some (cJ (hL s v 0 hF)):=by rw[u2,rD];rfl
       have cq:(cJ (hL s v 0 hF)).getD q .undef= .ref b g 0 m en:=by
        rw[List.getD_eq_getElem?_getD,Af,if_pos aT.1,Nat.zero_add,po];rfl
       have:=Weak.Vg v q (T:=(s.aJ n).T) hc cq (by rw[List.length_map,←h1];exact hm.symm) aR K4 (fun row aK a a3=>gl row aK h2 a a3) (by rw[List.length_map];exact be)
       rw[qn] at this
       show Weak _ ⟨(TS.add _ _ _ _).tT n,(TS.add _ _ _ _).cn,((TS.add _ _ _ _).aJ n).H⟩
       have dK:=xJ (n:=n) (s:=s.gJ b s.bp (.blk (g+1) e [] 0 rfl)) (vs:=(s.gJ b s.bp (.blk (g+1) e [] 0 rfl)).vs) aT.2
       rw[aN,xK aH aT.2,p4 aH,dK,tz hb]
       exact this
      ·exact h.elim
    ·exact h.elim
   ·exact h.elim
  ·exact h.elim
def M7 (k:Nat):List (Nat×TV)→Bool
 | []=>false
 | p::r=>match Nat.beq p.1 k with
  | true=>true
  | false=>M7 k r
def F7 (s:TS) (hM:List (Nat×TV)):List Nat→List (Nat×TV)
 | []=>[]
 | k::r=>match M7 k hM with
  | true=>F7 s hM r
  | false=>(k,s.get k)::F7 s hM r
def R3 (v:Nat):Nat→Nat→List Nat
 | _,0=>[]
 | c,m+1=>e6 v c::R3 v (c+1) m
def Nh:List (Nat×Nat)→List Nat
 | []=>[]
 | p::r=>R3 p.1 0 p.2++Nh r
def JC:Nat→List Nat
 | 0=>[]
 | b+1=>bD b::JC b
def eP (e7:List Nat) (kZ:List (Nat×Nat)) (k:Nat) (I:Int→Prop) (m:Int→Nat) (b:Int→lb):lb:= .lp [] e7 kZ [.int] [k] (fun v=>[(k,.i .i64 v.1)]) (fun v=>I v.1) (fun v=>m v.1) fun v=>b v.1
def aV.AB:aV→Bool
 | .kE ex _=>(match ex with
  | .normal=>false
  | _=>true)
 | .ht | .no | .all _ _=>false
 | .p _ t | .jV _ t | .eq _ _ t=>t.AB
 | .iP _ _ x y | .two x y | .hE x _ _ y=>(match x.AB with
  | true=>true
  | false=>y.AB)
def tM:Code→Bool
 | .loop _=>true
 | .seq x y=>tM x || tM y
 | .cond _ x y=>tM x || tM y
 | .block _ x=>tM x
 | .scope x=>tM x
 | _=>false
def DQ (jF:List (List (Nat×TV)×List (Nat×TV))) (t:aV):aV:=match jF with
 | []=>t
 | p::r=> .eq p.1 p.2 (DQ r t)
theorem J9 {R:Exit→TS→Prop} {t:aV}: ∀{jF:List (List (Nat×TV)×List (Nat×TV))},(DQ jF t).den R→(∀p∈jF,p.1=p.2)∧t.den R
 | [],h=>⟨(fun p h=>by cases h),h⟩
 | p::r,h=>by
  obtain⟨h1,h2⟩:=h
  obtain⟨aN,be⟩:=J9 h2
  exact⟨fun q ak=>by
   rcases List.mem_cons.1 ak with rfl | ak
   ·exact h1
   ·exact aN q ak,be⟩
structure vk (P:Program) where
 len:List Nat
 TR:List (Nat×List Item×List (List Nat))
 oV:List (r9 P)
 CB:List (lc P)
 OD:List (Nat×List (Nat×Nat)×List (Nat×Nat×bI))
def BA:List (Nat×List Item×List (List Nat))→Nat→(List Item→List (List Nat)→aV)→aV
 | [],_,_=> .no
 | p::r,id,K=>match Nat.beq p.1 id with
  | true=>K p.2.1 p.2.2
  | false=>BA r id K
def Gi:List (Nat×List (Nat×Nat)×List (Nat×Nat×bI))→Nat→List (Nat×Nat)×List (Nat×Nat×bI)
 | [],_=>([],[])
 | p::r,id=>match Nat.beq p.1 id with
  | true=>p.2
  | false=>Gi r id
section
variable {P:Program} (cf:g8 P) (ej:vk P) (jY:Option Nat)
def yl (s:TS) (e7:List Nat) (kZ:List (Nat×Nat)) (hM:List (Nat×TV)):TS:=⟨hM++F7 s hM (e7++(Nh kZ++(dC::JC s.bp))),[],kZ,s.bp⟩
def j5:Code→TS→lb→(Exit→TS→lb→aV)→aV
 | .skip,s,a,K=>K .normal s a
 | .ret,s,a,K=>K .ret s a
 | .exit id,s,a,K=>K (.exit id) s a
 | .region id ops draw,s,a,K=>x6 jY cf.n (Gi ej.OD id).1 s fun s=>vp cf.n (Gi ej.OD id).2 s fun s=>(match draw with
  | false=>Cf cf ⟨ej.len,ej.oV,ej.CB⟩ ops ops.toList s fun s=>K .normal s a
  | true=>BA ej.TR id fun ord j6=>Dz cf ⟨ej.len,ej.oV,ej.CB⟩ ops ord j6 s fun s=>K .normal s a)
 | .seq x y,s,a,K=>(match tM x with
  | true=>j5 x s a fun ex s a=>match ex with
   | .normal=>j5 y s a K
   | ex=>K ex s a
  | false=>match(j5 x s a fun ex s _=> .kE ex s).mQ with
   | .some S jF=>DQ jF (.hE ((j5 x s a fun ex s _=> .kE ex s).bind fun ex s=>match ex with
    | .normal=> .ht
    | ex=>K ex s a.fst) (j5 x s a fun ex s _=> .kE ex s).facts (j5 x s a fun ex s _=> .kE ex s).li (j5 y S (match(j5 x s a fun ex s _=> .kE ex s).AB with
    | true=>a.snd
    | false=>a) K))
   | _=>j5 x s a fun ex s a=>match ex with
    | .normal=>j5 y s a K
    | ex=>K ex s a)
 | .cond c x y,s,a,K=>(match cF cf.n s c with
  | .b z=>Cq z s fun b s=>match b with
   | true=>j5 x s a.fst K
   | false=>j5 y s a.snd K
  | _=> .no)
 | .block id c,s,a,K=>j5 c s a fun ex s a=>match ex with
  | .exit gm=>(match Nat.beq gm id with
   | true=>K .normal s a
   | false=>K (.exit gm) s a)
  | ex=>K ex s a
 | .loop c,s,a,K=>(match a with
  | .lp lJ e7 kZ kv rd hM I m b=>vp cf.n lJ s fun s=>Ca s kv rd fun h0=>toHead jY s (yl s e7 kZ (hM h0)) (.p (I h0) (CV kv fun v=> .jV (I v) (j5 c (yl s e7 kZ (hM v)) (b v) fun ex s' a=>match ex with
   | .normal=>Ca s' kv rd fun eW=>toHead jY s' (yl s e7 kZ (hM eW)) (.p (I eW∧m eW<m v) .ht)
   | ex=>K ex s' a)))
  | _=> .no)
 | _,_,_,_=> .no
end
section
variable {P:Program} {cf:g8 P} {ej:vk P}
theorem ZC {R:Exit→TS→Prop} {l:List (Nat×List Item×List (List Nat))} {id:Nat} {K:List Item→List (List Nat)→aV} (h:(BA l id K).den R): ∃o A,(K o A).den R:=by
 induction l with
 | nil=>exact h.elim
 | cons p r bR=>
  unfold BA at h
  split at h
  ·exact⟨_,_,h⟩
  ·exact bR h
theorem TT [cB] (aH:cf.n≤1000000) {ej:pU P} {R:Exit→TS→Prop} {ops:Array Oper} {ord:List Item} {j6:List (List Nat)} {s:TS} {K:TS→aV} {Q:Exit→St→Prop} {id:Nat} (hK: ∀s (Z:FZ),(K s).den R→ @Fits Z s→Q .normal (@TS.aJ Z cf.n s)) (Z:FZ) (aP:Fits s) (h:(Dz cf ej ops ord j6 s K).den R):WpS P (.region id ops true) Q (s.aJ cf.n):=by
 unfold Dz at h
 simp only at h
 split at h
 ·exact h.elim
 ·rename_i hb
  obtain⟨h1,h2,aN,be,ci,gC,nV,h⟩:=h
  rw[Ct]
  refine WpS.OT (esc:=[]) ord j6 h1 h2 aN rfl _ gC nV ?_
  have:=OY aH (Kp:=fun T L H=>Q .normal ⟨T,L,H⟩) (fun s Z hs hf=>hK s Z hs hf) ord Z _ (xL hb aP) be h
  rw[ci,xJ hb,xK aH hb] at this
  exact this
theorem R6 [iJ:cB] (aH:cf.n≤1000000) {jY:Option Nat} (ga: ∀k,jY=some k→iJ.n≤k): ∀(c:Code) {R:Exit→TS→Prop} {s:TS} {a:lb} {K:Exit→TS→lb→aV} {Q:Exit→St→Prop},(∀ex s a (Z:FZ),(K ex s a).den R→ @Fits Z s→Q ex (@TS.aJ Z cf.n s))→ ∀Z:FZ,@Fits Z s→(j5 cf ej jY c s a K).den R→WpS P c Q (@TS.aJ Z cf.n s):=by
 intro c
 induction c with
 | skip=>intro R s a K Q hK Z aP h;exact WpS.skip (hK _ _ _ Z h aP)
 | ret=>intro R s a K Q hK Z aP h;exact WpS.ret (hK _ _ _ Z h aP)
 | exit id=>intro R s a K Q hK Z aP h;exact WpS.exit (hK _ _ _ Z h aP)
 | region id ops draw=>
  intro R s a K Q hK Z aP h
  obtain⟨s1,bP,uh,h⟩:=Ec aH ga aP h
  obtain⟨s2,cb,ui,h⟩:=zZ aH uh h
  refine WpS.l8 ?_ (bP.trans cb)
  cases draw with
  | false=>
   rw[Ct]
   refine WpS.OU (esc:=[]) rfl ?_
   exact Hd aH (Kp:=fun T L H=>Q .normal ⟨T,L,H⟩) (fun s Z hs hf=>hK _ s _ Z hs hf) ops.toList Z s2 ui h
  | true=>
   obtain⟨ord,j6,h⟩:=ZC h
   exact TT aH (fun s Z hs hf=>hK _ s _ Z hs hf) Z ui h
 | cond c x y hQ hD=>
  intro R s a K Q hK Z aP h
  unfold j5 at h
  split at h
  ·rename_i z qs
   obtain⟨s',bB,e2,h⟩:=Iv (n:=cf.n) h
   have hf:=aP.congr fun k _ _=>e2 k
   rw[←bB]
   have hc:cm (s'.aJ cf.n).T c= .bool z.den:=by
    rw[bB,congrFun (k0 cf.n s) c]
    show(cF cf.n s c).bE=_
    rw[qs];rfl
   refine WpS.cond ?_
   rw[hc]
   refine⟨fun hb=> ?_,fun hb=> ?_⟩
   ·rw[hb] at h;exact hQ hK Z hf h
   ·rw[hb] at h;exact hD hK Z hf h
  ·exact h.elim
 | block id c bR=>
  intro R s a K Q hK Z aP h
  refine WpS.block (bR (K:=fun ex s a=>match ex with
   | .exit gm=>(match Nat.beq gm id with
    | true=>K .normal s a
    | false=>K (.exit gm) s a)
   | ex=>K ex s a) (fun ex s a Z hs hf=> ?_) Z aP h)
  cases ex with
  | exit gm=>
   show if gm=id then _ else _
   have hs:(match Nat.beq gm id with
    | true=>K .normal s a
    | false=>K (.exit gm) s a).den R:=hs
   split at hs
   ·rename_i hb;rw[if_pos (Nat.eq_of_beq_eq_true hb)];exact hK _ _ _ Z hs hf
   ·rename_i hb
    rw[if_neg fun e=>by subst e;rw[Nat.beq_refl] at hb;cases hb];exact hK _ _ _ Z hs hf
  | _=>exact hK _ _ _ Z hs hf
 | seq x y LQ LR=>
  intro R s a K Q hK Z aP h
  have JT:(j5 cf ej jY x s a fun ex s a=>match ex with
   | .normal=>j5 cf ej jY y s a K
   | ex=>K ex s a).den R→WpS P (.seq x y) Q (s.aJ cf.n):=fun h=>by
   refine WpS.seq (LQ (fun ex s a Z hs hf=> ?_) Z aP h)
   cases ex with
   | normal=>exact LR hK Z hf hs
   | _=>exact hK _ _ _ Z hs hf
  unfold j5 at h
  split at h
  ·exact JT h
  ·split at h
   ·rename_i S jF hm
    obtain⟨ak,h⟩:=J9 h
    obtain⟨h1,h2⟩:=h
    rw[aV.SZ] at h1
    have aN:=aV.ZO hm ak h1
    refine WpS.seq (LQ (K:=fun ex s _=> .kE ex s) (fun ex s' ia Z hs hf=> ?_) Z aP aN)
    have hs:_∧(ex= .normal→s'.gI S∧_∧_):=hs
    cases ex with
    | normal=>
     obtain⟨q1,q2,q3⟩:=hs.2 rfl
     exact WpS.l8 (LR hK Z (hf.le q1) (h2 (Uq q3 q2))) (aeC aH q1)
    | _=>exact hK _ _ _ Z hs.1 hf
   ·exact JT h
 | loop c bR=>
  intro R s a K Q hK Z aP h
  unfold j5 at h
  split at h
  ·rename_i lJ e7 kZ kv rd hM I m b
   obtain⟨s1,bP,uh,h⟩:=zZ aH aP h
   obtain⟨h0,h⟩:=G8 h
   obtain⟨cb,ui,h⟩:=toHead_sound (n:=cf.n) aH ga rfl uh h
   obtain⟨aT,h⟩:=h
   have hv:=Jf h
   refine WpS.NC (V:=cX kv×FZ) (fun v=> @TS.aJ v.2 cf.n (yl s1 e7 kZ (hM v.1))) (fun v=>I v.1∧ @Fits v.2 (yl s1 e7 kZ (hM v.1))) (fun v=>m v.1) rfl (h0,Z) (bP.trans cb) ⟨aT,ui⟩ fun v aZ=> ?_
   refine bR (fun ex s' a Z' hs hf=> ?_) v.2 aZ.2 (hv v.1 aZ.1)
   cases ex with
   | normal=>
    obtain⟨eW,hs⟩:=G8 hs
    obtain⟨eG,AW,hs⟩:=toHead_sound (n:=cf.n) aH ga rfl hf hs
    exact⟨(eW,Z'),⟨hs.1.1,AW⟩,hs.1.2,eG⟩
   | _=>exact hK _ _ _ Z' hs hf
  ·exact h.elim
 | _=>intro R s a K Q hK Z aP h;exact h.elim
end
def uG:(e:bI)→e.T→TV
 | .ptr e,x=> .dr e x 0
 | .ib f .unit,_=> .fn f []
 | .ib f e,x=> .fn f [uG e x]
 | e,x=>match e.isS with
  | true=> .agg (gA false e x)
  | false=>zH false e x
theorem N8: ∀(e:bI) (x:e.T),(uG e x).bE=nP e x:=by
 have bF: ∀(e:bI) (x:e.T),(match e.isS with
  | true=>TV.agg (gA false e x)
  | false=>zH false e x).bE=match e.isS with
  | true=> .agg (b6 false e x)
  | false=>oz false e x:=fun e x=>by
  cases e.isS with
  | true=>show AV.agg (cJ _)=_;rw[vB]
  | false=>exact IQ false e x
 intro e
 induction e with
 | ib f e bR=>
  intro x
  have key:uG (.ib f e) x= .fn f [uG e x]→nP (.ib f e) x= .fn f [nP e x]→(uG (.ib f e) x).bE=nP (.ib f e) x:=fun h1 h2=>by
   rw[h1,h2,←bR x];rfl
  cases e with
  | unit=>rfl
  | _=>exact key rfl rfl
 | ptr e bR=>intro x;rfl
 | _=>intro x;exact bF _ x
def uH:Nat→(es:List bI)→cX es→List (Nat×TV)
 | _,[],_=>[]
 | i,e::r,x=>(i,uG e x.1)::uH (i+1) r x.2
def pw (ps:List bI) (x:cX ps):TS:=⟨uH 0 ps x,[],[],0⟩
theorem N9: ∀(es:List bI) (x:cX es) (i t:Nat),(fN (uH i es x) t .u).bE=if t<i then .undef else(nQ es x).getD (t - i) .undef
 | [],x,i,t=>by
  show AV.undef=_
  split<;>simp[nQ]
 | e::r,x,i,t=>by
  rw[uH,gD,nQ]
  by_cases h:i=t
  ·subst h
   rw[if_pos rfl,if_neg (by omega),Nat.sub_self,N8];rfl
  ·rw[if_neg h,N9 r x.2 (i+1) t]
   by_cases h2:t<i
   ·rw[if_pos (by omega),if_pos h2]
   ·rw[if_neg (by omega),if_neg h2,show t - i=(t - (i+1))+1 by omega];rfl
theorem J5: ∀(es:List bI) (x:cX es),(nQ es x).length=es.length
 | [],_=>rfl
 | e::r,x=>by rw[nQ,List.length_cons,List.length_cons,J5 r]
theorem M_ (ps:List bI) (x:cX ps) (h:ps.length≤1000000):ii (pw ps x)=true:=by
 have key: ∀(es:List bI) (y:cX es) (i:Nat),i+es.length≤1000000→ ∀v,(dC,v) ∉ uH i es y:=by
  intro es
  induction es with
  | nil=>intro y i _ v hv;cases hv
  | cons e r bR=>
   intro y i hi v hv
   simp only[List.length_cons] at hi
   rcases List.mem_cons.1 hv with e | hv
   ·injection e with e _;unfold dC at e;omega
   ·exact bR y.2 (i+1) (by omega) v hv
 unfold ii
 have:(pw ps x).get dC= .u:=by
  show fN (uH 0 ps x) dC (fN [] dC .u)=_
  rw[sK (key ps x 0 (by omega))];rfl
 rw[this]
theorem Y3 [FZ] {fn:Func} {ps:List bI} {x:cX ps} (h:ps.length≤fn.ntmps) (aL:ps.length≤1000000):yK fn (nQ ps x) []=(pw ps x).aJ fn.ntmps:=by
 have cq:nQ ps x++List.replicate (fn.ntmps - (nQ ps x).length) AV.undef=((pw ps x).aJ fn.ntmps).T:=by
  apply List.ext_getElem?
  intro t
  show _=((List.range fn.ntmps).map fun t=>((pw ps x).get t).bE)[t]?
  rw[List.getElem?_map]
  rcases Nat.lt_or_ge t fn.ntmps with aL | aL
  ·rw[List.getElem?_range aL]
   show _=some (fN (uH 0 ps x) t .u).bE
   rw[N9,if_neg (by omega),Nat.sub_zero]
   rcases Nat.lt_or_ge t (nQ ps x).length with h1 | h1
   ·rw[List.getElem?_append_left h1,List.getD_eq_getElem?_getD,List.getElem?_eq_getElem h1];rfl
   ·rw[List.getElem?_append_right h1,List.getElem?_replicate,if_pos (by omega),List.getD_eq_getElem?_getD,List.getElem?_eq_none h1];rfl
  ·rw[List.getElem?_eq_none (l:=List.range fn.ntmps) (by simpa using aL),List.getElem?_eq_none]
   ·rfl
   ·rw[List.length_append,List.length_replicate,J5];omega
 have aR:((pw ps x).aJ fn.ntmps).H=[]:=by
  show(pw ps x).gg++gY (pw ps x)=[]
  unfold gY;rw[M_ ps x aL];rfl
 show(⟨_,[],[]⟩:St)=⟨((pw ps x).aJ fn.ntmps).T,[],((pw ps x).aJ fn.ntmps).H⟩
 rw[cq,aR]
def AF (s:TS):(e:bI)→TV→e.T→aV→aV
 | .int,v,r,t=>(match v with
  | .i k m=>if k= .i64 then .p (m=r) t else .no
  | _=> .no)
 | .u64,v,r,t=>(match v with
  | .i k m=>if k= .u64 then .p (m=r) t else .no
  | _=> .no)
 | .bool,v,r,t=>(match v with
  | .b x=> .p (x.den=r) t
  | _=> .no)
 | .str,v,r,t=>(match v with
  | .s x=> .p (x=r) t
  | _=> .no)
 | .l e,v,r,t=>(match v with
  | .l dP xs _ fr=>(match fr with
   | true=>if h:dP=e then .p (lN h xs=r) t else .no
   | false=> .no)
  | .nil _ _=> .p ([]=r) t
  | .ref b g m _=>rc s b g fun dP xs fq _=>if h:dP=e then .eq e.oN true (.eq fq m (.p (xs.length≤4611686018427387904∧lN h xs=r) t)) else .no
  | _=> .no)
 | _,_,_,_=> .no
def D6 (s:TS):(es:List bI)→List TV→cX es→aV→aV
 | [],[],_,t=>t
 | e::r,v::vs,x,t=>AF s e v x.1 (D6 s r vs x.2 t)
 | _,_,_,_=> .no
def AG (s:TS) (e:bI) (v:TV) (r:e.T) (t:aV):aV:=match e.isS with
 | true=>(match v with
  | .agg c=>D6 s e.kF c (e.un r) t
  | _=> .no)
 | false=>AF s e v r t
def AH (s:TS):(es:List bI)→List TV→cX es→aV→aV
 | [],[],_,t=>t
 | e::r,v::vs,x,t=>AG s e v x.1 (AH s r vs x.2 t)
 | _,_,_,_=> .no
def OX (P:Program) (n:Nat) (s:TS):ResultVar→TV
 | .tmp t=>cF n s (.tmp t)
 | .cell a t=>(match cF n s (.tmp a) with
  | .lp v c=>(match kH s.vs v with
   | some m=>u6 P t (hL s v 0 m) c
   | none=> .u)
  | _=> .u)
def vR (P:Program) (n:Nat) (fn:Func) (rs:List bI) (r:cX rs) (s:TS):aV:=
 let vs:=fn.results.toList.map (OX P n s)
 .eq (fun H Q=>qK P ⟨s.tT n,s.cn,H⟩ fn.results.toList Q) (fun _ Q=>Q (cJ vs)) (.eq ((cJ vs).all jX) true (AH s rs vs r .ht))
section
variable {n:Nat} {s:TS} {R:Exit→TS→Prop} {t:aV}
theorem Tt {H:List Blk} (e:bI) (x:e.T) (h:e.oN=true):kO H (b6 true e x) (b6 false e x):=by
 cases e with
 | int=>exact Tb x
 | u64=>exact .cons (.int _ _) rfl .nil
 | u8=>exact Td x
 | bool=>exact vz x
 | str=>exact Tc x
 | bn=>exact JG x
 | j4=>exact Te x
 | df=>exact .cons (.int _ _) rfl (.cons (kw _) rfl (.cons (kw _) rfl (.cons (kw _) rfl (.cons (.int _ _) rfl .nil))))
 | fI=>exact S_ x
 | g3=>exact xU x
 | held=>exact Ta x
 | frame=>exact .cons (.bool _) rfl (.cons (kw _) rfl (.cons (kw _) rfl (.cons (kw _) rfl .nil)))
 | done=>exact S9 x
 | fault=>exact .cons (.int _ _) rfl (.cons (.int _ _) rfl .nil)
 | stays=>exact .cons (kw _) rfl (.cons (kw _) rfl (.cons (kw _) rfl .nil))
 | c4=>exact .cons (kw _) rfl (.cons (.int _ _) rfl (.cons (.int _ _) rfl .nil))
 | l e=>exact .cons (kw _) rfl .nil
 | _=>cases h
end
section
variable [FZ] {n:Nat} {s:TS} {R:Exit→TS→Prop} {t:aV}
theorem Kr {e:bI} {v:TV} {r:e.T} (h:(AF s e v r t).den R):gv (s.aJ n).H v.bE (oz true e r)∧t.den R:=by
 cases e with
 | int=>
  have h:(match v with
   | .i k m=>if k=IntKind.i64 then aV.p (m=r) t else .no
   | _=> .no).den R:=h
  split at h
  ·split at h
   ·rename_i hk;subst hk;exact⟨xl h.1,h.2⟩
   ·exact h.elim
  ·exact h.elim
 | u64=>
  have h:(match v with
   | .i k m=>if k=IntKind.u64 then aV.p (m=r) t else .no
   | _=> .no).den R:=h
  split at h
  ·split at h
   ·rename_i hk;subst hk;exact⟨xl h.1,h.2⟩
   ·exact h.elim
  ·exact h.elim
 | bool=>
  have h:(match v with
   | .b x=>aV.p (x.den=r) t
   | _=> .no).den R:=h
  split at h
  ·exact⟨m3 h.1,h.2⟩
  ·exact h.elim
 | str=>
  have h:(match v with
   | .s x=>aV.p (x=r) t
   | _=> .no).den R:=h
  split at h
  ·exact⟨ad8 h.1,h.2⟩
  ·exact h.elim
 | l e=>
  have h:(match v with
   | .l dP xs _ fr=>(match fr with
    | true=>if h:dP=e then aV.p (lN h xs=r) t else .no
    | false=> .no)
   | .nil _ _=> .p ([]=r) t
   | .ref b g m _=>rc s b g fun dP xs fq _=>if h:dP=e then .eq e.oN true (.eq fq m (.p (xs.length≤4611686018427387904∧lN h xs=r) t)) else .no
   | _=> .no).den R:=h
  split at h
  ·split at h
   ·split at h
    ·rename_i he;subst he;exact⟨u0 (e:=b6 false _) h.1,h.2⟩
    ·exact h.elim
   ·exact h.elim
  ·exact⟨qU (e:=b6 false e) h.1,h.2⟩
  ·rename_i b g m en
   obtain⟨dP,xs,fq,hm,h,hb,aR⟩:=vu (n:=n) h
   split at h
   ·rename_i he
    subst he
    obtain⟨aT,h1,h2,aN⟩:=h
    subst h1
    subst hm
    exact⟨RD (eT:=b6 true dP) (eF:=b6 false dP) aR (fun x=>Tt dP x aT) h2,aN⟩
   ·exact h.elim
  ·exact h.elim
 | _=>exact h.elim
theorem Kt: ∀{es:List bI} {vs:List TV} {r:cX es},(D6 s es vs r t).den R→aD (gv (s.aJ n).H) (cJ vs) (lQ true es r)∧t.den R
 | [],[],_,h=>⟨aD.nil,h⟩
 | e::r,v::vs,x,h=>by
  obtain⟨h1,h2⟩:=Kr (n:=n) (show(AF s e v x.1 _).den R from h)
  obtain⟨aN,be⟩:=Kt h2
  exact⟨aD.cons h1 aN,be⟩
 | [],_::_,_,h=>h.elim
 | _::_,[],_,h=>h.elim
theorem Ux {e:bI} {v:TV} {r:e.T} (h:(AG s e v r t).den R):sa (s.aJ n).H v.bE (vJ e r)∧t.den R:=by
 unfold AG at h
 unfold vJ
 cases mJ:e.isS with
 | true=>
  rw[mJ] at h
  simp only at h
  split at h
  ·rename_i c
   obtain⟨h1,h2⟩:=Kt (n:=n) h
   refine⟨.inl ⟨cJ c,b6 true e r,rfl,rfl,?_⟩,h2⟩
   rw[←qa];exact h1
  ·exact h.elim
 | false=>
  rw[mJ] at h
  obtain⟨h1,h2⟩:=Kr (n:=n) h
  exact⟨.inr h1,h2⟩
theorem D5: ∀{es:List bI} {vs:List TV} {r:cX es},(AH s es vs r t).den R→aD (sa (s.aJ n).H) (cJ vs) (lR es r)∧t.den R
 | [],[],_,h=>⟨aD.nil,h⟩
 | e::r,v::vs,x,h=>by
  obtain⟨h1,h2⟩:=Ux (n:=n) (show(AG s e v x.1 _).den R from h)
  obtain⟨aN,be⟩:=D5 h2
  exact⟨aD.cons h1 aN,be⟩
 | [],_::_,_,h=>h.elim
 | _::_,[],_,h=>h.elim
theorem Ku {P:Program} {fn:Func} {rs:List bI} {r:cX rs} (h:(vR P n fn rs r s).den R):s5 P fn (s.aJ n) fun v H=>h_ H v (kS rs r):=by
 unfold vR at h
 simp only at h
 obtain⟨h1,h2,aN⟩:=h
 unfold s5
 have Vt:qK P (s.aJ n) fn.results.toList=_:=congrFun h1 (s.aJ n).H
 rw[congrFun Vt]
 refine⟨h2,?_⟩
 obtain⟨be,_⟩:=D5 (n:=n) aN
 have key: ∀(rs:List bI) (r:cX rs) (l:List AV),aD (sa (s.aJ n).H) l (lR rs r)→h_ (s.aJ n).H (r7 l) (kS rs r):=by
  intro rs r l aI
  match rs,r,l with
  | [],_,[]=>exact .inl ⟨[],[],rfl,rfl,aD.nil⟩
  | [],_,_::_=>have:=aI.1;simp[lR] at this
  | [e],r,[]=>have:=aI.1;simp[lR] at this
  | [e],r,[v]=>exact .inr aI.head
  | [e],r,_::_::_=>have:=aI.1;simp[lR] at this
  | e::dP::rs,r,[]=>have:=aI.1;simp[lR] at this
  | e::dP::rs,r,[v]=>have:=aI.1;simp[lR] at this
  | e::dP::rs,r,v::w::l=>exact .inl ⟨_,_,rfl,rfl,aI⟩
 exact key rs r _ be
end
def IN {P:Program} (cf:g8 P) (ej:vk P) (fn:Func) (ps rs:List bI) (x:cX ps) (r:cX rs) (a:lb):aV:=j5 cf ej (some 0) (iw fn) (pw ps x) a fun ex s _=>match ex with
 | .normal=>vR P cf.n fn rs r s
 | .ret=>vR P cf.n fn rs r s
 | _=> .no
theorem bZ.run {P:Program} {f:FuncId} {fn:Func} {ps rs:List bI} {x:cX ps} {r:cX rs} (cf:g8 P) (ej:vk P) (a:lb) {C:Prop} (hf:P.funcs[f]?=some fn) (h:C) (e:C=(IN cf ej fn ps rs x r a).nL.den:=by kernel_rfl)
  (e2:(IN cf ej fn ps rs x r a).lhs=(IN cf ej fn ps rs x r a).rhs:=by kernel_rfl) (hb:fn.body=some (iw fn):=by kernel_rfl) (hm:(fn.name== "runtime.NumGoroutine")=false:=by kernel_rfl)
  (aH:(Nat.beq cf.n fn.ntmps&&Nat.ble cf.n 1000000&&Nat.ble ps.length cf.n)=true:=by kernel_rfl):bZ P f (nQ ps x) (kS rs r):=by
 simp only[Bool.and_eq_true] at aH
 have h1:=Nat.eq_of_beq_eq_true aH.1.1
 have h2:=Nat.le_of_ble_eq_true aH.1.2
 have aN:=Nat.le_of_ble_eq_true aH.2
 refine dz.Gz hf hb hm fun iJ ga=> ?_
 rw[@Y3 ⟨[],[]⟩ fn ps x (by rw[←h1];exact aN) (by omega),←h1]
 refine R6 h2 (fun k e=>by cases e;rw[ga];exact Nat.le_refl _) (iw fn) (R:=fun _ _=>True) (K:=fun ex s _=>match ex with
  | .normal=>vR P cf.n fn rs r s
  | .ret=>vR P cf.n fn rs r s
  | _=> .no) (fun ex s _ Z hs hf=> ?_) ⟨[],[]⟩ (@Fits.none ⟨[],[]⟩ _ (M_ ps x (by omega))) (aV.full (e▸h) e2)
 cases ex with
 | normal=>exact Ku hs
 | ret=>exact Ku hs
 | _=>exact hs.elim
def ec:List (Nat×bI):=[(23,.u8),(25,.int),(26,.j4),(27,(.l .bool)),(33,.done),(35,.fI),(36,.bool),(37,.g3),(38,.held),(46,.j4),(66,.g3),(67,.held),(78,.bn),(138,.bn),(144,(.l .int)),(161,(.l .bn)),(170,.str)]
theorem rm {α:Type} {xs:List α} {q:α→Bool} (h:first xs q=none): ∀x∈xs,q x=false:=by
 unfold first at h;rwa [List.findIdx?_eq_none_iff] at h
theorem wY {p:aA} (h:dQ p=true):kK p=true∧(∀s∈p.bd,b0 s 0 (p.ah - 1)=true)∧(∀w∈p.O,gT p w=true)∧p.bU.length=p.O.length∧
  (∀b∈p.bU,b.length=p.O.length)∧ ∀i k:Nat,i<p.O.length→k<p.O.length→nK p i k=false:=by
 have hb:=aak h
 have aT:hG p=⟨0,0⟩:=by simpa[dQ] using h
 rw[GL hb] at aT
 unfold wZ at aT
 split at aT
 ·cases aT
 rename_i h1
 unfold w0 at aT
 split at aT
 ·cases aT
 rename_i h2
 unfold oO at aT
 split at aT
 ·rename_i aN
  split at aT
  ·cases aT
  rename_i be
  split at aT
  ·cases aT
  rename_i ci
  refine⟨hb,fun s hs=>by simpa using rm h1 s hs,fun w hw=>by simpa using rm h2 w hw,aN,fun b ak=>by simpa using rm be b ak,fun i k hi hk=> ?_⟩
  have:=rm ci i (List.mem_range.2 hi)
  rw[List.any_eq_false] at this
  simpa using this k (List.mem_range.2 hk)
 ·cases aT
def kR (p:aA) (i k:Int):Bool:=nth (nth p.bU i) k
structure I8 (p:aA):Prop where
 len:p.bU.length=p.O.length
 row: ∀i:Int,0≤i→i<p.O.length→(nth p.bU i).length=p.O.length
 sym: ∀i k:Int,0≤i→i<p.O.length→0≤k→k<p.O.length→kR p i k=kR p k i
 afs: ∀i k:Int,0≤i→i<p.O.length→0≤k→k<p.O.length→i≠k→meets (nth p.O i).ah (nth p.O k).ah=true→kR p i k=true
theorem sH {x n:Int} (h:b0 x 0 (n - 1)=true):0≤x∧x<n:=by have:=iQ.1 h;omega
theorem Gf {l:List Int} {n:Int} (h:hn l n=true):l.length≤30∧ ∀x∈l,0≤x∧x<n:=by
 have:=qz.1 h
 exact⟨this.1,fun x hx=>sH (this.2.1 x hx)⟩
theorem sS {p:aA} (h:dQ p=true):r_ p:=by
 obtain⟨h1,h2,aN,be,ci,cK⟩:=wY h
 have hb:=rV.1 h1
 have hw: ∀w∈p.O,_:=fun w hw=>oj.1 (aN w hw)
 refine⟨by omega,hb.2.2.2,hb.2.2.1,fun w m=>⟨(hw w m).1,Gf (hw w m).2.1⟩,fun w m=>Gf (hw w m).2.2.1,fun w m=>Gf (hw w m).2.2.2.1,fun w m=> ?_,fun x hx=>sH (h2 x hx)⟩
 have aL:=mh.1 (hw w m).2.2.2.2.1
 have hf:=mh.1 (hw w m).2.2.2.2.2.1
 refine⟨aL.1,hf.1,fun x hx=> ?_⟩
 rcases List.mem_append.1 hx with hx | hx
 ·have:=aL.2.1 x hx
  rw[Bool.and_eq_true] at this;exact sH this.1
 ·have:=hf.2.1 x hx
  rw[Bool.and_eq_true] at this;exact sH this.1
theorem y6 {p:aA} (h:dQ p=true):I8 p:=by
 obtain⟨h1,h2,aN,be,ci,cK⟩:=wY h
 have key: ∀i k:Int,0≤i→i<p.O.length→0≤k→k<p.O.length→kR p i k=kR p k i∧(i≠k→meets (nth p.O i).ah (nth p.O k).ah=true→kR p i k=true):=fun i k i0 i1 ba ei=>by
  have:=cK i.toNat k.toNat (by omega) (by omega)
  unfold nK rb at this
  rw[jD i0,jD ba,jD i0,jD ba,jD i0,jD ba] at this
  rw[Bool.or_eq_false_iff] at this
  refine⟨by unfold kR;simpa using this.1,fun ck hm=> ?_⟩
  have h2:=this.2
  rw[hm,Bool.and_true] at h2
  have bi:decide (i.toNat≠k.toNat)=true:=by simpa using(show i.toNat≠k.toNat by omega)
  rw[bi] at h2
  unfold kR
  simpa using h2
 exact⟨be,fun i i0 i1=>ci _ (du (by omega)),fun i k i0 i1 ba ei=>(key i k i0 i1 ba ei).1,fun i k i0 i1 ba ei=>(key i k i0 i1 ba ei).2⟩
def su (p:aA) (f:Frame) (i:Int):Bool:= !((decide ((nth f.O i).ar<0)) || ((decide ((nth f.O i).ar>4)) || ((((nth f.O i).ac.length:Int) !=((nth p.O i).ah.length:Int)) || ((decide ((nth f.O i).af<0)) || (decide ((nth f.O i).af ≥ ((nth p.O i).ah.length:Int)))))))
def tU (f:Frame) (i:Int):Bool:=bif ((nth f.O i).ar !=4) then(!(((nth f.O i).af !=0) || (jR (nth f.O i).ac true))) else(!(jR ((nth f.O i).ac.take (nth f.O i).af.toNat) false))
def tV (p:aA) (f:Frame) (i:Int):Bool:=bif ((nth f.O i).ar==3) then(!((decide ((nth f.O i).ap<1)) || (decide ((nth f.O i).ap>p.dl)))) else(!((nth f.O i).ap !=0))
def tW (f:Frame) (i:Int):Bool:=bif ((nth f.O i).ar==0) then(!(nth f.O i).ao) else(!(bif ((nth f.O i).ar==2) then((nth f.O i).ar==2) else((nth f.O i).ar==3)) || (!(!(nth f.O i).ao)))
theorem AU (p:aA) (f:Frame) (i:Int):g9 p f i=(su p f i&&(tU f i&&(tV p f i&&tW f i))):=by
 unfold g9 su tU tV tW
 simp only
 generalize nth f.O i=h
 generalize (nth p.O i).ah.length=n
 rcases h with⟨s,g,b,d,t⟩
 have bB:b.all (fun x=> !x)= !jR b true:=by
  cases h:jR b true with
  | true=>
   rw[List.all_eq_false.2 ⟨true,vZ.1 h,by simp⟩];rfl
  | false=>
   rw[List.all_eq_true.2 fun x hx=>by
    cases x with
    | false=>rfl
    | true=>rw[vZ.2 hx] at h;cases h];rfl
 have e2:(b.take g.toNat).all (fun x=>x)= !jR (b.take g.toNat) false:=by
  cases h:jR (b.take g.toNat) false with
  | true=>
   rw[List.all_eq_false.2 ⟨false,vZ.1 h,by simp⟩];rfl
  | false=>
   rw[List.all_eq_true.2 fun x hx=>by
    cases x with
    | true=>rfl
    | false=>rw[vZ.2 hx] at h;cases h];rfl
 simp only
 rw[bB,e2]
 have fj:b0 s 0 4= !((decide (s<0)) || (decide (s>4))):=by unfold b0;rw[Bool.eq_iff_iff];simp
 have fO:decide (b.length=n)= !((b.length:Int) !=(n:Int)):=by rw[Bool.eq_iff_iff];simp;omega
 have fu:b0 g 0 ((n:Int) - 1)= !((decide (g<0)) || (decide (g ≥ (n:Int)))):=by unfold b0;rw[Bool.eq_iff_iff];simp;omega
 have uP:b0 t 1 p.dl= !((decide (t<1)) || (decide (t>p.dl))):=by unfold b0;rw[Bool.eq_iff_iff];simp
 rw[fj,fO,fu,uP]
 generalize jR b true=B
 have hg:g=0→jR (b.take g.toNat) false=false:=fun h=>by subst h;rfl
 generalize jR (b.take g.toNat) false=C at hg
 generalize (decide (s<0))=aG
 generalize (decide (s>4))=bq
 generalize ((b.length:Int) !=(n:Int))=dU
 generalize (decide (g<0))=ev
 generalize (decide (g ≥ (n:Int)))=afC
 generalize (decide (t<1))=afD
 generalize (decide (t>p.dl))=afE
 have hs:s=0∨s=2∨s=3∨s=4∨(s≠0∧s≠2∧s≠3∧s≠4):=by omega
 have bi:decide (t=0)= !(t !=0):=by rw[Bool.eq_iff_iff];simp
 have rA:decide (g=0)= !(g !=0):=by rw[Bool.eq_iff_iff];simp
 rw[bi,rA]
 cases Lh:(g !=0) with
 | false=>
  have:C=false:=hg (by simpa using Lh)
  subst this
  generalize (t !=0)=aeI
  rcases hs with rfl | rfl | rfl | rfl | ⟨aT,h2,aN,be⟩
  ·cases B<;>cases d<;>simp[Bool.and_assoc]
  ·cases B<;>cases d<;>simp[Bool.and_assoc]
  ·cases B<;>cases d<;>simp[Bool.and_assoc]
  ·cases B<;>cases d<;>simp[Bool.and_assoc]
  ·have I0:(s==0)=false:=by simpa using aT
   have ol:(s==2)=false:=by simpa using h2
   have zP:(s==3)=false:=by simpa using aN
   have vf:(s !=4)=true:=by simpa using be
   rw[I0,ol,zP,vf]
   simp only[aT,h2,aN,be,if_false,decide_false,decide_true,ne_eq,not_false_eq_true]
   cases B<;>cases d<;>simp[Bool.and_assoc]
 | true=>
  clear hg Lh
  generalize (t !=0)=aeI
  rcases hs with rfl | rfl | rfl | rfl | ⟨aT,h2,aN,be⟩
  ·cases B<;>cases C<;>cases d<;>simp[Bool.and_assoc]
  ·cases B<;>cases C<;>cases d<;>simp[Bool.and_assoc]
  ·cases B<;>cases C<;>cases d<;>simp[Bool.and_assoc]
  ·cases B<;>cases C<;>cases d<;>simp[Bool.and_assoc]
  ·have I0:(s==0)=false:=by simpa using aT
   have ol:(s==2)=false:=by simpa using h2
   have zP:(s==3)=false:=by simpa using aN
   have vf:(s !=4)=true:=by simpa using be
   rw[I0,ol,zP,vf]
   simp only[aT,h2,aN,be,if_false,decide_false,decide_true,ne_eq,not_false_eq_true]
   cases B<;>cases C<;>cases d<;>simp[Bool.and_assoc]
def jk (x:bc):Bool:=b0 x.cy 1 2&&b0 x.a2 0 2
def jc (p:aA) (f:Frame) (i k:Int):Bool:=(i !=k)&&(kR p i k&&(((nth f.O i).ar !=0)&&((nth f.O k).ar !=0)))
def rp (p:aA) (f:Frame):Bool:= !((!(dQ p)) || ((!f.ok) || (((f.aw.length:Int) !=p.ah) || (((f.au.length:Int) !=(p.bd.length:Int)) || ((f.O.length:Int) !=(p.O.length:Int))))))
theorem mG {p:aA} {f:Frame}:rp p f=true↔dQ p=true∧f.ok=true∧(f.aw.length:Int)=p.ah∧f.au.length=p.bd.length∧f.O.length=p.O.length:=by
 unfold rp
 simp only[Bool.not_eq_true',Bool.or_eq_false_iff,Bool.not_eq_false',bne_eq_false_iff_eq]
 constructor
 ·rintro⟨a,b,c,d,e⟩;exact⟨a,b,c,by omega,by omega⟩
 ·rintro⟨a,b,c,d,e⟩;exact⟨a,b,c,by omega,by omega⟩
theorem SS {p:aA} {f:Frame}:CY p f=true↔ ∀i k:Int,0≤i→i<f.O.length→0≤k→k<f.O.length→jc p f i k=false:=by
 unfold CY
 rw[List.all_eq_true]
 have key: ∀i k:Nat,(decide (i=k) || !rb p i k || decide ((nth f.O i).ar=0) || decide ((nth f.O k).ar=0))= !jc p f i k:=fun i k=>by
  unfold jc kR rb
  have bB:decide (i=k)= !((i:Int) !=(k:Int)):=by rw[Bool.eq_iff_iff];simp;omega
  have e2: ∀x:Int,decide (x=0)= !(x !=0):=fun x=>by rw[Bool.eq_iff_iff];simp
  rw[bB,e2,e2]
  cases((i:Int) !=(k:Int))<;>cases nth (nth p.bU (i:Int)) (k:Int)<;>cases((nth f.O (i:Int)).ar !=0)<;>cases((nth f.O (k:Int)).ar !=0)<;>rfl
 constructor
 ·intro h i k i0 i1 ba ei
  have h1:=h i.toNat (List.mem_range.2 (by omega))
  rw[List.all_eq_true] at h1
  have h2:=h1 k.toNat (List.mem_range.2 (by omega))
  rw[key,Int.toNat_of_nonneg i0,Int.toNat_of_nonneg ba] at h2
  simpa using h2
 ·intro h i hi
  rw[List.all_eq_true]
  intro k hk
  rw[key,h i k (by omega) (by have:=List.mem_range.1 hi;omega) (by omega) (by have:=List.mem_range.1 hk;omega)];rfl
theorem tH {p:aA} {f:Frame}:eV p f=true↔rp p f=true∧(∀x∈f.au,jk x=true)∧(∀i:Int,0≤i→i<f.O.length→g9 p f i=true)∧
  (∀i k:Int,0≤i→i<f.O.length→0≤k→k<f.O.length→jc p f i k=false)∧f.O=(d_ p f).O:=by
 unfold eV og
 rw[mG,←SS]
 simp only[Bool.and_eq_true,decide_eq_true_eq,List.all_eq_true,List.mem_range]
 constructor
 ·rintro⟨⟨⟨⟨⟨⟨⟨⟨a,b⟩,c⟩,d⟩,e⟩,g⟩,h⟩,i⟩,j⟩
  refine⟨⟨a,b,c,d,e⟩,fun x hx=>by unfold jk;rw[Bool.and_eq_true];exact g x hx,fun q dL q1=> ?_,i,j⟩
  have:=h q.toNat (by omega)
  rwa [Int.toNat_of_nonneg dL] at this
 ·rintro⟨⟨a,b,c,d,e⟩,g,h,i,j⟩
  exact⟨⟨⟨⟨⟨⟨⟨⟨a,b⟩,c⟩,d⟩,e⟩,fun x hx=>by have:=g x hx;unfold jk at this;rwa [Bool.and_eq_true] at this⟩,fun q ak=>h q (by omega) (by omega)⟩,i⟩,j⟩
theorem Eb {p:aA} {f:Frame} (hb:rp p f=true) (bX: ∀i:Int,0≤i→i<f.O.length→su p f i=true):h9 p f:=by
 obtain⟨h1,h2,aN,be,ci⟩:=mG.1 hb
 have key: ∀i:Nat,i<f.O.length→((nth f.O i).ac.length:Int)=((nth p.O i).ah.length:Int)∧0≤(nth f.O i).af∧(nth f.O i).af<((nth p.O i).ah.length:Int):=fun i hi=>by
  have:=bX i (by omega) (by omega)
  unfold su at this
  simp only[Bool.not_eq_true',Bool.or_eq_false_iff,bne_eq_false_iff_eq,decide_eq_false_iff_not] at this
  exact⟨this.2.2.1,by omega,by omega⟩
 refine⟨aN,be,ci,fun i h w bB e2=> ?_,fun h hm=> ?_⟩
 ·have hi:=(List.getElem?_eq_some_iff.1 bB).1
  have aM:=(List.getElem?_eq_some_iff.1 e2).1
  have:=(key i hi).1
  rw[iT hi,iT aM,(List.getElem?_eq_some_iff.1 bB).2,(List.getElem?_eq_some_iff.1 e2).2] at this
  omega
 ·obtain⟨i,hi,rfl⟩:=List.mem_iff_getElem.1 hm
  have:=key i hi
  rw[iT hi] at this
  omega
theorem SR {p:aA} {f:Frame} {i k:Int} (dV:I8 p) (aL:f.O.length=p.O.length) (i0:0≤i) (i1:i<f.O.length) (ba:0≤k) (ei:k<f.O.length):jc p f i k=jc p f k i:=by
 unfold jc
 rw[dV.sym i k i0 (by omega) ba (by omega),show(i !=k)=(k !=i) by rw[Bool.eq_iff_iff];simp;omega,Bool.and_comm ((nth f.O i).ar !=0)]
def xd (p:aA) (f:Frame) (n:Nat) (i:Int):Bool:=(List.range n).any fun k=>jc p f i k
theorem aas (x:bc):(bif (x.cy !=1) then((x.cy !=2) || ((decide (x.a2<0)) || (decide (x.a2>2)))) else((decide (x.a2<0)) || (decide (x.a2>2))))= !jk x:=by
 unfold jk b0
 by_cases h:x.cy=1
 ·rw[h,Bool.eq_iff_iff];simp
 ·have:(x.cy !=1)=true:=by simpa using h
  rw[this,Bool.eq_iff_iff];simp;omega
def py (a n:Int):Bool:=decide (0≤a)&&decide (a<n)
theorem Y4 {a n:Int}:py a n=true↔0≤a∧a<n:=by unfold py;simp
structure Fit (p:aA) (f:Frame):Prop where
 nT:dQ p=true
 fr:h9 p f
theorem rq {p:aA} {f:Frame} (h:eV p f=true):Fit p f:=by
 obtain⟨h1,h2,aN,be,ci⟩:=tH.1 h
 refine⟨(mG.1 h1).1,Eb h1 fun i i0 i1=> ?_⟩
 have:=aN i i0 i1
 rw[AU,Bool.and_eq_true] at this;exact this.1
theorem Vf {p:aA} {f:Frame} (h:eV p f=true):(f.aw.length:Int)=p.ah∧f.au.length=p.bd.length∧f.O.length=p.O.length:=by
 have:=(rq h).fr
 exact⟨this.aw,this.au,this.O⟩
theorem Fit.in {p:aA} {f:Frame} (h:Fit p f):r_ p:=sS h.nT
def tq (p:aA) (f:Frame) (i:Int):Bool:=eV p f&&(py i p.O.length&&fi p f i)
def Ea (p:aA) (f:Frame) (i:Int):Prop:=jr f
def jg (p:aA) (f:Frame) (i s:Int):Bool:=((nth f.O i).ar !=0)&&((nth p.O i).ah.drop (nth f.O i).af.toNat).contains s
def wj (p:aA) (f:Frame) (i s:Int):Prop:=Fit p f∧0≤i∧i<p.O.length
theorem abd {p:aA} (h:dQ p=true) {w:Way} (hw:w∈p.O):w.ah.Nodup:=(qz.1 (oj.1 ((wY h).2.2.1 w hw)).2.1).2.2
theorem An {l:List Int} {g:Nat} {s:Int}:(l.drop g).contains s=true↔ ∃k,g≤k∧ ∃h:k<l.length,l[k]=s:=by
 rw[List.contains_iff_mem,List.mem_iff_getElem]
 constructor
 ·rintro⟨i,hi,he⟩
  rw[List.length_drop] at hi
  rw[List.getElem_drop] at he
  exact⟨g+i,by omega,by omega,he⟩
 ·rintro⟨k,hg,hk,he⟩
  refine⟨k - g,by rw[List.length_drop];omega,?_⟩
  rw[List.getElem_drop]
  simp only[show g+(k - g)=k by omega];exact he
theorem has_eq {l:List Int} (aH:l.Nodup) {g s:Int} (aT:0≤g):(decide (nm l s ≥ g)&&decide (nm l s ≥ 0))=(l.drop g.toNat).contains s:=by
 unfold nm
 cases h:first l (fun x=>s==x) with
 | none=>
  have:(l.drop g.toNat).contains s=false:=by
   rw[←Bool.not_eq_true,An]
   rintro⟨k,_,hk,he⟩
   have:=rm h _ (List.getElem_mem hk)
   rw[he] at this;simp at this
  rw[this];simp[BN]
 | some i=>
  unfold first at h
  rw[List.findIdx?_eq_some_iff_getElem] at h
  obtain⟨hi,hx,_⟩:=h
  have hx:s=l[i]:=by simpa using hx
  have hx:=hx.symm
  rw[Bool.eq_iff_iff,An]
  show(decide ((i:Int) ≥ g)&&decide ((i:Int) ≥ 0))=true↔_
  simp only[Bool.and_eq_true,decide_eq_true_eq]
  constructor
  ·intro h;exact⟨i,by omega,hi,hx⟩
  ·rintro⟨k,hg,hk,he⟩
   have:k=i:=by
    exact(List.getElem_inj aH).1 (he.trans hx.symm)
   omega
def dY (q:Int→Bool) (v:Int):List Int:=((List.range v.toNat).filter fun i=>q (i:Nat)).map fun i=>((i:Nat):Int)
theorem Uv (q:Int→Bool):dY q 0=[]:=rfl
theorem x2 {q:Int→Bool} {v:Int} (h:0≤v):dY q (v+1)=if q v=true then dY q v++[v] else dY q v:=by
 unfold dY
 rw[show(v+1).toNat=v.toNat+1 by omega,List.range_succ,List.filter_append,List.map_append]
 have hv:((v.toNat:Nat):Int)=v:=by omega
 cases ak:q v with
 | true=>simp[hv,ak]
 | false=>simp[hv,ak]
theorem so (q:Int→Bool) (v:Int):(dY q v).length≤v.toNat:=by
 unfold dY
 rw[List.length_map]
 exact Nat.le_trans (List.length_filter_le _ _) (by simp)
theorem Kq {q:Int→Bool} {v x:Int}:x∈dY q v↔0≤x∧x<v∧q x=true:=by
 unfold dY
 rw[List.mem_map]
 constructor
 ·rintro⟨i,hi,rfl⟩
  rw[List.mem_filter,List.mem_range] at hi
  exact⟨by omega,by omega,hi.2⟩
 ·rintro⟨aT,h1,h2⟩
  refine⟨x.toNat,?_,by omega⟩
  rw[List.mem_filter,List.mem_range,Int.toNat_of_nonneg aT]
  exact⟨by omega,h2⟩
theorem Uw {q:Int→Bool} {v:Int}:dY q v=[]↔ ∀x:Int,0≤x→x<v→q x=false:=by
 constructor
 ·intro h x aT h1
  cases ak:q x with
  | false=>rfl
  | true=>have:=Kq.2 ⟨aT,h1,ak⟩;rw[h] at this;cases this
 ·intro h
  rw[List.eq_nil_iff_forall_not_mem]
  intro x hx
  have:=Kq.1 hx
  rw[h x this.1 this.2.1] at this;cases this.2.2
def us (x:ct) (k:Int):Bool:=x.sw==k
def rL (l:List ct) (k:Int):Int:=BN (first l (fun x=>x.sw==k))
def kG (l:List ct) (k:Int):Bool:=l.any fun x=>x.sw==k
theorem Xw (l:List ct) (k:Int):(decide (rL l k ≥ 0))=kG l k:=by
 unfold rL kG
 cases h:first l (fun x=>x.sw==k) with
 | none=>
  rw[List.any_eq_false.2 fun x hx=>by rw[rm h x hx];simp];rfl
 | some i=>
  unfold first at h
  rw[List.findIdx?_eq_some_iff_getElem] at h
  obtain⟨hi,hx,_⟩:=h
  rw[List.any_eq_true.2 ⟨_,List.getElem_mem hi,hx⟩]
  show decide ((i:Int) ≥ 0)=true
  simp
def mC (p:aA) (f:Frame) (i k:Int):Bool:=((nth f.O i).ar !=0)&&(kG (nth p.O i).bA k || (kG (nth p.O i).a2 k&&jg p f i (nth p.bd k)))
def gr (p:aA) (f:Frame) (k:Int):List Int:=dY (fun i=>mC p f i k) p.O.length
def sT (p:aA) (f:Frame) (k:Int):Prop:=Fit p f∧0≤k∧k<p.bd.length
def o1 (p:aA) (f:Frame) (i k:Int):Int:=if(nth f.O i).ar=0 then 0 else match first (nth p.O i).bA (fun x=>x.sw==k) with
 | some j=>(nth (nth p.O i).bA j).bn
 | none=>match first (nth p.O i).a2 (fun x=>x.sw==k&&jg p f i (nth p.bd k)) with
  | some j=>(nth (nth p.O i).a2 j).bn
  | none=>0
def IX (p:aA) (f:Frame) (i k:Int):Prop:=Fit p f∧0≤i∧i<p.O.length∧0≤k∧k<p.bd.length
theorem By {p:aA} (h:dQ p=true) {w:Way} (hw:w∈p.O) {l:ct} (aL:l∈bz w):l.bn=1∨l.bn=2:=by
 have hg:=oj.1 ((wY h).2.2.1 w hw)
 have key: ∀{rS:List ct},lm p rS=true→ ∀x∈rS,x.bn=1∨x.bn=2:=fun h x hx=>by
  have:=(mh.1 h).2.1 x hx
  rw[Bool.and_eq_true] at this
  have:=iQ.1 this.2
  omega
 rcases List.mem_append.1 aL with aL | aL
 ·exact key hg.2.2.2.2.1 l aL
 ·exact key hg.2.2.2.2.2.1 l aL
theorem D7 {α:Type} [Inhabited α] {xs:List α} {q:α→Bool} {j:Nat} (h:first xs q=some j):nth xs j∈xs∧q (nth xs j)=true:=by
 unfold first at h
 rw[List.findIdx?_eq_some_iff_getElem] at h
 obtain⟨hi,hx,_⟩:=h
 rw[iT hi]
 exact⟨List.getElem_mem hi,hx⟩
theorem aey {p:aA} {f:Frame} {i k:Int} (h:dQ p=true) (hi:i.toNat<p.O.length):decide (o1 p f i k>0)=mC p f i k:=by
 unfold o1 mC kG
 by_cases hs:(nth f.O i).ar=0
 ·rw[if_pos hs,show((nth f.O i).ar !=0)=false by simpa using hs];rfl
 ·rw[if_neg hs,show((nth f.O i).ar !=0)=true by simpa using hs,Bool.true_and]
  have hm:=du hi
  cases h1:first (nth p.O i).bA (fun x=>x.sw==k) with
  | some j=>
   have:=D7 h1
   rw[List.any_eq_true.2 ⟨_,this⟩,Bool.true_or]
   have:=By h hm (List.mem_append_right _ this.1)
   simp only[decide_eq_true_eq];omega
  | none=>
   rw[List.any_eq_false.2 fun x hx=>by rw[rm h1 x hx];simp,Bool.false_or]
   cases h2:first (nth p.O i).a2 (fun x=>x.sw==k&&jg p f i (nth p.bd k)) with
   | some j=>
    have:=D7 h2
    have aN:=this.2
    rw[Bool.and_eq_true] at aN
    rw[List.any_eq_true.2 ⟨_,this.1,aN.1⟩,aN.2,Bool.true_and]
    have:=By h hm (List.mem_append_left _ this.1)
    simp only[decide_eq_true_eq];omega
   | none=>
    have:((nth p.O i).a2.any (fun x=>x.sw==k)&&jg p f i (nth p.bd k))=false:=by
     rw[Bool.and_eq_false_iff]
     cases bX:jg p f i (nth p.bd k) with
     | false=>exact .inr rfl
     | true=>
      refine .inl (List.any_eq_false.2 fun x hx=> ?_)
      have:=rm h2 x hx
      rw[bX,Bool.and_true] at this
      rw[this];simp
    rw[this];rfl
def kV (p:aA) (f:Frame) (w k:Int):Bool:=(k !=w)&&(((nth f.O k).ar !=0)&&(kR p w k || (meets (nth p.O w).ah (nth p.O k).cG || meets (nth p.O w).cG (nth p.O k).ah)))
def ni (p:aA) (f:Frame) (w s:Int):Bool:=nth f.aw s&&(fJ (nth p.O w).ah s || fJ (nth p.O w).cG s)
def kJ (p:aA) (f:Frame) (w k:Int):Bool:=(bz (nth p.O w)).any fun l=>l.sw==k&& !((nth f.au k).cy==l.bn)
def iR (p:aA) (f:Frame) (k:Int):Bool:=decide (((gr p f k).length:Int)>0)
def kj (p:aA) (f:Frame) (k:Int):Bool:=nth f.aw (nth p.bd k)
def kU (p:aA) (f:Frame) (w k:Int):Bool:=kJ p f w k&&(iR p f k || kj p f k)
def ly (p:aA) (f:Frame) (w:Int):nb:=⟨dY (kV p f w) p.O.length,dY (ni p f w) p.ah,dY (kU p f w) p.bd.length⟩
def x3 (p:aA) (f:Frame) (w:Int):Bool:= !(dY (fun k=>kJ p f w k&&iR p f k) p.bd.length).isEmpty
def Cn (p:aA) (f:Frame) (w:Int):Bool:= !(dY (fun k=>kJ p f w k&&kj p f k) p.bd.length).isEmpty
def iv (p:aA) (f:Frame) (w:Int):nb×Bool×Bool:=(ly p f w,x3 p f w,Cn p f w)
def codeF (p:aA) (f:Frame) (w:Int):Int:=if(ly p f w).O≠[] then 3 else if(ly p f w).ah≠[] then 4 else if x3 p f w=true then 5 else if Cn p f w=true then 6 else 0
def td (p:aA) (f:Frame) (w:Int):nb×Int:=(ly p f w,codeF p f w)
def eM (p:aA) (f:Frame) (w:Int):Int:=if(nth f.O w).ar≠0 then 2 else codeF p f w
def q7 (p:aA) (f:Frame) (w:Int):Prop:=Fit p f∧0≤w∧w<p.O.length
theorem qb {q:Int→Bool} {N v:Int} (aH:N≤4611686018427387904) (aZ:cr N (fun _=>false) v) (hv:decide (v<N)=true):
  (q v=true→dY q v++[v]=dY q (IntKind.i64.wrap (v+1)))∧(q v=false→dY q v=dY q (IntKind.i64.wrap (v+1)))∧(!(dY q (IntKind.i64.wrap (v+1))).isEmpty)=(!(dY q v).isEmpty || q v):=by
 rw[jL aH aZ.1 (by simpa using hv),x2 aZ.1]
 refine⟨fun h=>by rw[if_pos h],fun h=>by rw[if_neg (by rw[h];simp)],?_⟩
 cases h:q v with
 | true=>simp
 | false=>simp
theorem vP {q:Int→Bool} {N v:Int} (aZ:cr N (fun _=>false) v) (hv:decide (v<N)=false):dY q v=dY q N:=by
 have: ¬v<N:=by simpa using hv
 have h1:=aZ.2.1
 rw[show v=N by omega]
def nq (p:aA) (f:Frame) (w k:Int) (j:Nat):Bool:=((bz (nth p.O w)).take j).any fun l=>l.sw==k&& !((nth f.au k).cy==l.bn)
theorem abe (p:aA) (f:Frame) (w k:Int) {j:Nat} (h:(bz (nth p.O w)).length≤j):nq p f w k j=kJ p f w k:=by
 unfold nq kJ;rw[List.take_of_length_le h]
theorem abg {p:aA} {f:Frame} {w k:Int} {j:Nat} (h:j<(bz (nth p.O w)).length):nq p f w k (j+1)=(nq p f w k j || ((bz (nth p.O w))[j].sw==k&& !((nth f.au k).cy==(bz (nth p.O w))[j].bn))):=by
 unfold nq;rw[List.take_succ_eq_append_getElem h,List.any_append];simp
theorem Gs {p:aA} (h:dQ p=true) {w:Way} (hw:w∈p.O):((bz w).map (·.sw)).Nodup:=(oj.1 ((wY h).2.2.1 w hw)).2.2.2.2.2.2.1
theorem abf {p:aA} {f:Frame} {w k:Int} {j:Nat} (aH:((bz (nth p.O w)).map (·.sw)).Nodup) (h:j<(bz (nth p.O w)).length) (hk:((bz (nth p.O w))[j].sw==k)=true):nq p f w k j=false:=by
 unfold nq
 rw[List.any_eq_false]
 intro l aL
 obtain⟨i,hi,rfl⟩:=List.mem_take_iff_getElem.1 aL
 have fU:i<(bz (nth p.O w)).length:=by omega
 intro hc
 rw[Bool.and_eq_true] at hc
 have bB:(bz (nth p.O w))[i].sw=k:=by simpa using hc.1
 have e2:(bz (nth p.O w))[j].sw=k:=by simpa using hk
 have:=(List.getElem_inj (xs:=(bz (nth p.O w)).map (·.sw)) (i:=i) (j:=j) (h₀:=by simpa using fU) (h₁:=by simpa using h) aH).1 (by simp[bB,e2])
 omega
def S2 (p:aA) (f:Frame) (w k:Int) (x:List Int) (a b:Bool) (la:List Int) (j:Int) (ia cj:Bool):Prop:=
 cr (bz (nth p.O w)).length (fun _=>false) j∧la=(if(nq p f w k j.toNat&&(iR p f k || kj p f k))=true then x++[k] else x)∧ia=(a || (nq p f w k j.toNat&&iR p f k))∧cj=(b || (nq p f w k j.toNat&&kj p f k))
def vS (p:aA) (f:Frame) (w v:Int):Bool:= !(dY (fun k=>kJ p f w k&&iR p f k) v).isEmpty
def zu (p:aA) (f:Frame) (w v:Int):Bool:= !(dY (fun k=>kJ p f w k&&kj p f k) v).isEmpty
def v8 (p:aA) (f:Frame) (w v:Int):Int:=if vS p f w v=true then 5 else if zu p f w v=true then 6 else 0
def qx (a:Int) (l:List ct) (k:Int):Int:=l.foldl (fun a x=>bif x.sw==k then x.bn else a) a
theorem Nu {l:List ct} {k:Int} (h: ∀x∈l,(x.sw==k)=false): ∀a,qx a l k=a:=by
 induction l with
 | nil=>intro a;rfl
 | cons x l bR=>
  intro a
  show qx (bif x.sw==k then x.bn else a) l k=a
  rw[h x List.mem_cons_self]
  exact bR (fun y bt=>h y (List.mem_cons_of_mem _ bt)) a
theorem Gd {l:List ct} {k:Int} (aH:(l.map (·.sw)).Nodup) {x:ct} (hx:x∈l) (hk:(x.sw==k)=true): ∀a,qx a l k=x.bn:=by
 induction l with
 | nil=>cases hx
 | cons y l bR=>
  intro a
  show qx (bif y.sw==k then y.bn else a) l k=x.bn
  rw[List.map_cons,List.nodup_cons] at aH
  rcases List.mem_cons.1 hx with rfl | hx
  ·rw[hk]
   refine Nu (fun z aP=> ?_) _
   have hk:x.sw=k:=by simpa using hk
   rw[←hk,beq_eq_false_iff_ne]
   intro e
   exact aH.1 (List.mem_map.2 ⟨z,aP,e⟩)
  ·exact bR aH.2 hx _
theorem Zt {p:aA} {f:Frame} {w k:Int} (h:dQ p=true) (hw:w.toNat<p.O.length):((qx 0 (bz (nth p.O w)) k==0) || (qx 0 (bz (nth p.O w)) k==(nth f.au k).cy))= !kJ p f w k:=by
 have hm:=du hw
 have aH:=Gs h hm
 cases hf:first (bz (nth p.O w)) (fun x=>x.sw==k) with
 | none=>
  have eo:=rm hf
  rw[Nu eo,show kJ p f w k=false from List.any_eq_false.2 fun x hx=>by rw[eo x hx];simp];rfl
 | some j=>
  obtain⟨h1,h2⟩:=D7 hf
  have aL:=By h hm h1
  rw[Gd aH h1 h2]
  have z:((nth (bz (nth p.O w)) (j:Int)).bn==0)=false:=by rw[beq_eq_false_iff_ne];omega
  rw[z,Bool.false_or]
  have aC:kJ p f w k= !((nth f.au k).cy==(nth (bz (nth p.O w)) (j:Int)).bn):=by
   cases hb:((nth f.au k).cy==(nth (bz (nth p.O w)) (j:Int)).bn) with
   | false=>exact List.any_eq_true.2 ⟨_,h1,by rw[h2,hb];rfl⟩
   | true=>
    refine List.any_eq_false.2 fun x hx hc=> ?_
    rw[Bool.and_eq_true] at hc
    have bB:=Gd aH hx hc.1 0
    rw[Gd aH h1 h2] at bB
    rw[bB] at hb
    rw[hb] at hc;cases hc.2
  rw[aC,Bool.not_not,Bool.eq_iff_iff,beq_iff_eq,beq_iff_eq]
  exact⟨Eq.symm,Eq.symm⟩
def eI (p:aA):Frame:=if dQ p=true then⟨true,List.replicate p.ah.toNat false,List.replicate p.bd.length ⟨1,1⟩,p.O.map fun w=>ha w.ah.length⟩ else⟨false,[],[],[]⟩
def jH (l:List ct) (q:List bc):List bc:=l.foldl (fun q x=>q.set x.sw.toNat ⟨x.bn,(nth q x.sw).a2⟩) q
theorem zs (l:List ct): ∀q:List bc,(jH l q).length=q.length:=by
 induction l with
 | nil=>intro q;rfl
 | cons x l bR=>intro q;show(jH l _).length=_;rw[bR,List.length_set]
theorem Pk {l:List ct} {q:List bc} {j:Nat} (h:j<l.length):jH (l.take (j+1)) q=(jH (l.take j) q).set l[j].sw.toNat ⟨l[j].bn,(nth (jH (l.take j) q) l[j].sw).a2⟩:=by
 unfold jH
 rw[List.take_succ_eq_append_getElem h,List.foldl_append];rfl
def lz (p:aA) (i:Nat) (h:ae):ae:=if h.ar=3 then(if IntKind.i64.wrap (h.ap - 1)=0 then a4 p i else{h with ap:=IntKind.i64.wrap (h.ap - 1)}) else h
def hZ (p:aA):Nat→List ae→List ae
 | 0,ws=>ws
 | n+1,ws=>let g:=hZ p n ws;g.set n (lz p n (nth g n))
theorem zF (p:aA) (ws:List ae): ∀n,(hZ p n ws).length=ws.length
 | 0=>rfl
 | n+1=>by show(List.set _ _ _).length=_;rw[List.length_set];exact zF p ws n
def fe (p:aA) (f:Frame) (e:Event):Int:=
 if e.op=1 then eM p f e.ai
 else if e.op=2 then(if(nth f.O e.ai).ar≠1∧(nth f.O e.ai).ar≠2 then 2 else 0)
 else if e.op=6 then(if iR p f e.ai=true then 2 else if kj p f e.ai=true then 3 else 0)
 else 0
def ic (p:aA) (f:Frame) (e:Event):Frame:=
 if e.op=1 then{f with au:=jH (bz (nth p.O e.ai)) f.au,O:=f.O.set e.ai.toNat {nth f.O e.ai with ar:=1}}
 else if e.op=2 then(if((nth f.O e.ai).ao&&fX f (nth p.O e.ai).cD)=true then{f with O:=f.O.set e.ai.toNat {nth f.O e.ai with ar:=3,ap:=p.dl}} else{f with O:=f.O.set e.ai.toNat (a4 p e.ai)})
 else if e.op=3∨e.op=4 then{f with aw:=f.aw.set e.ai.toNat (e.op==3)}
 else if e.op=5 then{f with au:=f.au.set e.ai.toNat ⟨(nth f.au e.ai).cy,e.bn⟩}
 else if e.op=6 then{f with au:=f.au.set e.ai.toNat ⟨e.bn,(nth f.au e.ai).a2⟩}
 else if e.op=7 then{f with O:=hZ p f.O.length f.O}
 else f
def gW (p:aA) (f:Frame) (e:Event):fA:=if fe p f e≠0 then⟨fe p f e,f⟩ else⟨0,d_ p (ic p f e)⟩
def Dy (p:aA) (f:Frame) (e:Event):Prop:=Fit p f∧eU p e=true
theorem h9.qP {p:aA} {f:Frame} (h:h9 p f) {i:Nat} {x:ae} (hx:i<f.O.length→x.ac.length=(nth p.O i).ah.length∧0≤x.af∧x.af≤x.ac.length):h9 p {f with O:=f.O.set i x}:=by
 refine⟨h.aw,h.au,by rw[List.length_set];exact h.O,fun j y w h1 h2=> ?_,fun y bt=> ?_⟩
 ·replace h1:(f.O.set i x)[j]?=some y:=h1
  rw[List.getElem?_set] at h1
  split at h1
  ·rename_i e;subst e
   split at h1
   ·rename_i aH
    cases h1
    rw[(hx aH).1,iT (by have:=h.O;omega)]
    rw[List.getElem?_eq_getElem (by have:=h.O;omega)] at h2
    cases h2;rfl
   ·cases h1
  ·exact h.ac j y w h1 h2
 ·rcases List.mem_or_eq_of_mem_set bt with bt | rfl
  ·exact h.af y bt
  ·by_cases aH:i<f.O.length
   ·exact(hx aH).2
   ·rw[List.set_eq_of_length_le (by omega)] at bt
    exact h.af _ bt
theorem h9.at {p:aA} {f:Frame} (h:h9 p f) {i:Nat} (hi:i<f.O.length):(nth f.O i).ac.length=(nth p.O i).ah.length∧0≤(nth f.O i).af∧(nth f.O i).af≤(nth f.O i).ac.length:=by
 have aM:i<p.O.length:=by have:=h.O;omega
 refine⟨h.ac i _ _ ?_ ?_,h.af _ (du (by simpa using hi))⟩
 ·rw[iT hi];exact List.getElem?_eq_getElem hi
 ·rw[iT aM];exact List.getElem?_eq_getElem aM
theorem E7 (n:Nat):(ha n).ac.length=n∧0≤(ha n).af∧(ha n).af≤(ha n).ac.length:=by simp[ha]
theorem IL {p:aA} {f:Frame} (h:h9 p f): ∀n,h9 p {f with O:=hZ p n f.O}
 | 0=>h
 | n+1=>by
  have bR:=IL h n
  show h9 p {f with O:=(hZ p n f.O).set n (lz p n (nth (hZ p n f.O) n))}
  refine h9.qP bR (i:=n) fun aH=> ?_
  have a3:=bR.at aH
  unfold lz
  split
  ·split
   ·exact E7 _
   ·exact a3
  ·exact a3
theorem h9.jl {p:aA} {f:Frame} (h:h9 p f) {o:List Bool} {q:List bc} (aC:o.length=f.aw.length) (ak:q.length=f.au.length):h9 p {f with aw:=o,au:=q}:=
 ⟨by show(o.length:Int)=_;rw[aC];exact h.aw,by show q.length=_;rw[ak];exact h.au,h.O,h.ac,h.af⟩
theorem Dx {p:aA} {f:Frame} {e:Event} (h:h9 p f) (aT:e.op=1∨e.op=2→0≤e.ai∧e.ai<p.O.length):h9 p (ic p f e):=by
 unfold ic
 split
 ·rename_i aC
  have br:=aT (.inl aC)
  have aL:=h.O
  have a3:=h.at (i:=e.ai.toNat) (by omega)
  rw[jD br.1] at a3
  exact h9.qP (h.jl rfl (zs _ _)) fun _=>a3
 ·split
  ·rename_i aC
   have br:=aT (.inr aC)
   have aL:=h.O
   have a3:=h.at (i:=e.ai.toNat) (by omega)
   rw[jD br.1] at a3
   split
   ·exact h.qP fun _=>a3
   ·refine h.qP fun _=> ?_
    have:=E7 (nth p.O e.ai).ah.length
    rw[jD br.1];exact this
  ·split
   ·exact h.jl (List.length_set) rfl
   ·split
    ·exact h.jl rfl (List.length_set)
    ·split
     ·exact h.jl rfl (List.length_set)
     ·split
      ·exact IL h _
      ·exact h
theorem ri {p:aA} {e:Event} (h:eU p e=true) (aC:e.op=1∨e.op=2):0≤e.ai∧e.ai<p.O.length:=by
 rw[DS aC,Bool.and_eq_true] at h
 exact sH h.1
theorem DW {p:aA} {e:Event} (h:eU p e=true) (aC:e.op=3∨e.op=4):0≤e.ai∧e.ai<p.ah:=by
 rw[DT (by omega) aC,Bool.and_eq_true] at h
 exact sH h.1
theorem vM {p:aA} {e:Event} (h:eU p e=true) (aC:e.op=5∨e.op=6):0≤e.ai∧e.ai<p.bd.length:=by
 rcases aC with aC | aC
 ·rw[Aw aC,Bool.and_eq_true] at h;exact sH h.1
 ·rw[Ax aC,Bool.and_eq_true] at h;exact sH h.1
theorem AL {p:aA} {f:Frame} (h:Fit p f):jr f:=by
 have cx:=h.in
 have c5:=h.fr
 have h1:=cx.cR
 have h2:=cx.sw
 have aN:=cx.O
 have be:=c5.aw
 have ci:=c5.au
 have cK:=c5.O
 refine⟨by omega,by omega,by omega,fun x hx=> ?_⟩
 obtain⟨i,hi,rfl⟩:=List.mem_iff_getElem.1 hx
 have aM:i<p.O.length:=by omega
 have:=(cx.ah _ (List.getElem_mem aM)).2.1
 rw[c5.ac i _ _ (List.getElem?_eq_getElem hi) (List.getElem?_eq_getElem aM)];omega
theorem JZ {p:aA} {f:Frame} {e:Event} (h:Fit p f) (he:eU p e=true):Fit p (gW p f e).frame:=by
 unfold gW
 split
 ·exact h
 ·exact⟨h.nT,zt (Dx h.fr (ri he)) _⟩
theorem Js {p:aA} (h:dQ p=true):Fit p (eI p):=by
 have cx:=sS h
 have h1:=cx.cR
 unfold eI
 rw[if_pos h]
 refine⟨h,by show((List.replicate _ _).length:Int)=_;rw[List.length_replicate];omega,by show(List.replicate _ _).length=_;rw[List.length_replicate],by show(List.map _ _).length=_;rw[List.length_map],fun i x w bB e2=> ?_,fun x hx=> ?_⟩
 ·replace bB:(List.map _ _)[i]?=some x:=bB
  rw[List.getElem?_map,e2] at bB
  cases bB;simp[ha]
 ·obtain⟨w,_,rfl⟩:=List.mem_map.1 hx
  exact(E7 _).2
def jq (p:aA):Frame→List Event→List fA
 | _,[]=>[]
 | f,e::es=>if eU p e=true then gW p f e::jq p (gW p f e).frame es else⟨1,f⟩::jq p f es
def np (p:aA):Frame→List Event→Frame
 | f,[]=>f
 | f,e::es=>np p (if eU p e=true then(gW p f e).frame else f) es
def r2 (p:aA) (es:List Event):List fA:=if dQ p=true∧es.length≤1000 then jq p (eI p) es else[]
theorem O1 (p:aA) (e:Event): ∀(es:List Event) (f:Frame),jq p f (es++[e])=jq p f es++[if eU p e=true then gW p (np p f es) e else⟨1,np p f es⟩]∧np p f (es++[e])=(if eU p e=true then(gW p (np p f es) e).frame else np p f es)
 | [],f=>by
  show(if eU p e=true then _ else _)=_∧_
  constructor
  ·by_cases h:eU p e=true
   ·rw[if_pos h];simp[jq,np,h]
   ·rw[if_neg h];simp[jq,np,h]
  ·rfl
 | d::es,f=>by
  have bR:=fun g=>O1 p e es g
  by_cases h:eU p d=true
  ·simp only[List.cons_append,jq,np,if_pos h]
   exact⟨by rw[(bR _).1],(bR _).2⟩
  ·simp only[List.cons_append,jq,np,if_neg h]
   exact⟨by rw[(bR _).1],(bR _).2⟩
theorem F_ {p:aA}: ∀(es:List Event) {f:Frame},Fit p f→Fit p (np p f es)
 | [],f,h=>h
 | e::es,f,h=>by
  unfold np
  by_cases he:eU p e=true
  ·rw[if_pos he];exact F_ es (JZ h he)
  ·rw[if_neg he];exact F_ es h
theorem Ci (p:aA): ∀(es:List Event) (f:Frame),(jq p f es).length=es.length
 | [],f=>rfl
 | e::es,f=>by
  unfold jq
  split
  ·rw[List.length_cons,Ci p es];rfl
  ·rw[List.length_cons,Ci p es];rfl
section
variable {P:Program} {esc:List Nat} {ops:Array Oper} {n:Nat} {X:List Item} {i0:Nat} {A:List (Nat×AV)} {L:List (Nat×List AV)} {H:List Blk} {K:List (Nat×AV)→List (Nat×List AV)→List Blk→Prop}
theorem aen (ba:Nat) (d:Option Nat) (N:List (Nat×AV)) {i:Int} (B:Int) (z:List AV) (F:List Blk→Prop) (m:Nat) (kP:List Blk) (aT:0≤i∧B*i≤140737488355328∧i≤4611686018427387904) (aL:H.length=m) (hx:H++[⟨0,1,List.map aX (List.replicate i.toNat false)⟩]=kP) (c5:F kP)
  (h:evSD P esc ops n (X.drop (i0+ba)) (c_ d (.ref m 0 0 (List.replicate i.toNat false).length false) N A) L kP K) (aP:z=aX false:=by rfl)
  (e: ∀K,evSD P esc ops n ((X.drop i0).take ba) A L H K=(0≤i∧i≤i∧B*i≤140737488355328∧i≤4611686018427387904∧F (H++[⟨0,1,List.replicate i.toNat z⟩])∧K (c_ d (.ref H.length 0 0 i.toNat false) N A) L (H++[⟨0,1,List.replicate i.toNat z⟩])):=by intro K;kernel_rfl):evSD P esc ops n (X.drop i0) A L H K:=by
 rw[lh X i0 ba,e]
 subst aL;subst hx;subst aP
 rw[List.length_replicate,List.map_replicate] at h
 rw[List.map_replicate] at c5
 exact⟨aT.1,Int.le_refl _,aT.2.1,aT.2.2,⟨c5,h⟩⟩
end
theorem abh (a b:List ct) (q:List bc):jH (a++b) q=jH b (jH a q):=by unfold jH;rw[List.foldl_append]
def kN (w:Way):List (List ct):=[w.a2,w.bA]
theorem RT (w:Way):(kN w).flatten=bz w:=by simp[kN,bz]
theorem aeq {w:Way} {j:Nat} {q:List bc} (h:j<(kN w).length):jH ((kN w).take (j+1)).flatten q=jH (kN w)[j] (jH ((kN w).take j).flatten q):=by
 rw[List.take_succ_eq_append_getElem h,List.flatten_append,abh];simp
theorem aer {w:Way} {v:Int} {x:ct} (h:v.toNat<(kN w).length) (hx:x∈nth (kN w) v):x∈bz w:=by
 rw[←RT];exact List.mem_flatten.2 ⟨_,du h,hx⟩
def Nk (p:aA) (t:Int) (k:Bool) (o:List Bool) (q:List bc) (w:List ae) (i:List Nat) (b:List (List Bool)):Prop:=
 gk w i b∧r_ p∧0≤t∧t<w.length∧t<p.O.length∧q.length=p.bd.length
def Bw (p:aA) (t:Int) (k:Bool) (o:List Bool) (q:List bc) (w:List ae) (i:List Nat) (b:List (List Bool)) (lq:List Bool) (sW:List bc) (w':List ae) (iO:List Nat) (cj:List (List Bool)):Prop:=
 sW=jH (bz (nth p.O t)) q∧gk w' iO cj∧view w' iO cj=(view w i b).set t.toNat {nth (view w i b) t with ar:=1}
def Nj (p:aA) (t:Int) (k:Bool) (o:List Bool) (q:List bc) (w:List ae) (i:List Nat) (b:List (List Bool)):Prop:=
 gk w i b∧r_ p∧0≤t∧t<w.length∧t<p.O.length∧(o.length:Int)=p.ah
def z6 (p:aA) (f:Frame) (t:Int):ae:=
 if((nth f.O t).ao&&fX f (nth p.O t).cD)=true then{nth f.O t with ar:=3,ap:=p.dl} else ha (nth f.O t).ac.length
def se (f:Frame) (t:Int):Int:=if(nth f.O t).ar≠1∧(nth f.O t).ar≠2 then 2 else 0
def ur (p:aA) (t:Int) (k:Bool) (o:List Bool) (q:List bc) (w:List ae) (i:List Nat) (b:List (List Bool)) (lq:List Bool) (sW:List bc) (w':List ae) (iO:List Nat) (cj:List (List Bool)) (r:Int):Prop:=
 gk w' iO cj∧r=se (cW k o q w i b) t∧view w' iO cj=(if se (cW k o q w i b) t=0 then(view w i b).set t.toNat (z6 p (cW k o q w i b) t) else view w i b)
def jC (p:aA) (f:Frame) (e:Event):Frame:=if fe p f e=0 then ic p f e else f
def gf (p:aA) (f:Frame) (e:Event):fA:=if(eV p f&&eU p e)=true then⟨fe p f e,d_ p (jC p f e)⟩ else⟨1,⟨false,[],[],[]⟩⟩
def Cj (p:aA) (f:Frame) (e:Event):Prop:=jr f
theorem ZP {p:aA} {f:Frame} {e:Event} (h:h9 p f) (he:eU p e=true):h9 p (jC p f e):=by
 unfold jC
 split
 ·exact Dx h (ri he)
 ·exact h
theorem LP {p:aA} {f:Frame} (h:h9 p f) {t:Int} (aT:0≤t) (h1:t<p.O.length):ha (nth f.O t).ac.length=a4 p t:=by
 have aL:=h.O
 have a3:=h.at (i:=t.toNat) (by omega)
 rw[jD aT,jD aT] at a3
 unfold a4;rw[a3.1]
def xj (p:aA) (f:Frame) (e:Event):fA:=if(gf p f e).code=1 then⟨(gf p f e).code,f⟩ else gf p f e
def iW (p:aA) (f:Frame) (i:Nat) (h:ae):ae:=
 let s:=(nth p.O i).ah
 if h.ar=0 then h else
 let h:=if h.ar≠4∧dW f (nth s 0)=true then{h with ar:=4,ap:=0} else h
 let h:=if h.ar=1∨h.ar=2 then(if fi p f i=true then{h with ar:=2,ao:=true} else{h with ar:=1}) else h
 if h.ar=4 then hV s f h else h
theorem aec (p:aA) (f:Frame) (i:Nat):l5 p f i=iW p f i (nth f.O i):=rfl
theorem RI {p:aA} {f g:Frame} {i:Nat} {h:ae} (h1:f.aw=g.aw) (h2:f.au=g.au):iW p f i h=iW p g i h:=by
 have bB: ∀x,dW f x=dW g x:=fun x=>by unfold dW;rw[h1]
 have e2: ∀s x,hV s f x=hV s g x:=fun s x=>Oa h1
 have dK:fi p f i=fi p g i:=GR h1 h2
 unfold iW
 simp only[bB,e2,dK]
section
variable {p:aA} {f:Frame} {i:Nat} {h:ae}
theorem xo (aT:h.ar=0):iW p f i h=h:=by unfold iW;simp[aT]
theorem IC (aT:h.ar=4):iW p f i h=hV (nth p.O i).ah f h:=by unfold iW;simp[aT]
theorem ID (aT:h.ar≠0) (be:h.ar≠4) (aC:dW f (nth (nth p.O i).ah 0)=true):iW p f i h=hV (nth p.O i).ah f {h with ar:=4,ap:=0}:=by unfold iW;simp[aT,be,aC]
theorem IE (aT:h.ar=1∨h.ar=2) (aC:dW f (nth (nth p.O i).ah 0)=false) (aI:fi p f i=true):iW p f i h={h with ar:=2,ao:=true}:=by
 unfold iW
 rcases aT with aT | aT<;>simp[aT,aC,aI]
theorem Cw (aT:h.ar=1∨h.ar=2) (aC:dW f (nth (nth p.O i).ah 0)=false) (aI:fi p f i=false):iW p f i h={h with ar:=1}:=by
 unfold iW
 rcases aT with aT | aT<;>simp[aT,aC,aI]
theorem IF (h1:h.ar≠1) (h2:h.ar≠2) (be:h.ar≠4) (aC:dW f (nth (nth p.O i).ah 0)=false):iW p f i h=h:=by
 unfold iW
 simp[h1,h2,be,aC]
end
theorem Su (f:Frame): ∀(b:List Bool) (s:List Int),List.zipWith (fun b x=>b || dW f x) (List.zipWith (fun b x=>b || dW f x) b s) s=List.zipWith (fun b x=>b || dW f x) b s
 | [],s=>rfl
 | b::bs,[]=>rfl
 | b::bs,x::s=>by
  simp only[List.zipWith_cons_cons,Su f bs s]
  cases b<;>cases dW f x<;>rfl
theorem KR {s:List Int} {f:Frame} {ac:List Bool}: ∀(n g:Nat),s.length≤n+g→ ¬(gB s f ac n g<s.length∧ac.getD (gB s f ac n g) false=true∧dW f (s.getD (gB s f ac n g) 0)=false∧(gB s f ac n g+1=s.length∨ac.getD (gB s f ac n g+1) false=true))
 | 0,g,h=>fun bX=>by have:=bX.1;unfold gB at this;omega
 | n+1,g,h=>by
  by_cases hc:g<s.length∧ac.getD g false=true∧dW f (s.getD g 0)=false∧(g+1=s.length∨ac.getD (g+1) false=true)
  ·have e:gB s f ac (n+1) g=gB s f ac n (g+1):=if_pos hc
   rw[e];exact KR n (g+1) (by omega)
  ·have e:gB s f ac (n+1) g=g:=if_neg hc
   rw[e];exact hc
theorem Vo {s:List Int} {f:Frame} {ac:List Bool} {n m g:Nat} (h:s.length≤n+g):gB s f ac m (gB s f ac n g)=gB s f ac n g:=AN (KR n g h)
theorem KT {s:List Int} {f:Frame} {ac:List Bool}: ∀(n g:Nat),(∀j,j<g→ac.getD j false=true)→ ∀j,j<gB s f ac n g→ac.getD j false=true
 | 0,g,h=>h
 | n+1,g,h=>by
  unfold gB
  split
  ·rename_i hc
   refine KT n (g+1) fun j aM=> ?_
   by_cases e:j=g
   ·subst e;exact hc.2.1
   ·exact h j (by omega)
  ·exact h
theorem Ob (s:List Int) (f:Frame) (h:ae) (be:h.ar=4):(hV s f h=ha s.length)∨((hV s f h).ar=4∧hV s f (hV s f h)=hV s f h):=by
 unfold hV
 simp only
 split
 ·exact .inl rfl
 ·rename_i hg
  refine .inr ⟨be,?_⟩
  simp only[Su,Int.toNat_natCast]
  rw[Vo (by omega),if_neg hg]
theorem aee (p:aA) (f:Frame) (i:Nat) (h:ae):iW p f i (iW p f i h)=iW p f i h:=by
 have key: ∀x:ae,x.ar=4→iW p f i (hV (nth p.O i).ah f x)=hV (nth p.O i).ah f x:=fun x hx=>by
  rcases Ob (nth p.O i).ah f x hx with e | ⟨bB,e2⟩
  ·rw[e];exact xo rfl
  ·rw[IC bB,e2]
 by_cases aT:h.ar=0
 ·rw[xo aT,xo aT]
 by_cases be:h.ar=4
 ·rw[IC be];exact key h be
 cases aC:dW f (nth (nth p.O i).ah 0) with
 | true=>rw[ID aT be aC];exact key _ rfl
 | false=>
  by_cases nU:h.ar=1∨h.ar=2
  ·cases aI:fi p f i with
   | true=>rw[IE nU aC aI,IE (.inr rfl) aC aI]
   | false=>rw[Cw nU aC aI,Cw (.inl rfl) aC aI]
  ·rw[IF (fun e=>nU (.inl e)) (fun e=>nU (.inr e)) be aC,IF (fun e=>nU (.inl e)) (fun e=>nU (.inr e)) be aC]
theorem xh (p:aA) (f:Frame): ∀(n j:Nat),(io p n f).O[j]?=(f.O[j]?).map fun h=>if j<n then iW p f j h else h
 | 0,j=>by
  show f.O[j]?=_
  cases f.O[j]?<;>simp
 | n+1,j=>by
  show((io p n f).O.set n (l5 p (io p n f) n))[j]?=_
  rw[List.getElem?_set]
  have s:=qQ p f n
  split
  ·rename_i e;subst e
   have aL:=oT p f n
   by_cases aH:n<f.O.length
   ·rw[if_pos (by omega),aec,RI s.2.1 s.2.2]
    have bR:=xh p f n n
    rw[List.getElem?_eq_getElem aH,List.getElem?_eq_getElem (by omega)] at bR
    have XA:(io p n f).O[n]=f.O[n]:=by simpa using bR
    rw[iT (by omega),XA,List.getElem?_eq_getElem aH]
    simp
   ·rw[if_neg (by omega),List.getElem?_eq_none (by omega)];rfl
  ·rename_i ck
   rw[xh p f n j]
   congr 1
   funext h
   by_cases aM:j<n
   ·rw[if_pos aM,if_pos (by omega)]
   ·rw[if_neg aM,if_neg (by omega)]
theorem Hs {p:aA} {f:Frame} {i:Int} (aT:0≤i) (h1:i<f.O.length):nth (d_ p f).O i=iW p f i.toNat (nth f.O i):=by
 have e:=xh p f f.O.length i.toNat
 have aL:=oT p f f.O.length
 rw[List.getElem?_eq_getElem (by omega),List.getElem?_eq_getElem (show i.toNat<f.O.length by omega)] at e
 unfold d_
 rw[gE (by omega),gE (show i.toNat<f.O.length by omega)]
 simpa[show i.toNat<f.O.length by omega] using e
theorem abk (p:aA) (f:Frame):(d_ p (d_ p f)).O=(d_ p f).O:=by
 apply List.ext_getElem?
 intro j
 have s:=qQ p f f.O.length
 have aL:=oT p f f.O.length
 unfold d_
 rw[xh,xh,aL]
 cases h:f.O[j]? with
 | none=>rfl
 | some x=>
  have aM:=(List.getElem?_eq_some_iff.1 h).1
  simp only[Option.map_some,if_pos aM]
  rw[RI s.2.1 s.2.2,aee]
structure oo (n:Nat) (dl:Int) (h:ae):Prop where
 aJ:0≤h.ar∧h.ar≤4
 len:h.ac.length=n
 af:0≤h.af∧h.af<n
 still:h.ar≠4→h.af=0∧ ∀b∈h.ac,b=false
 ac: ∀j,j<h.af.toNat→h.ac.getD j false=true
 t3:h.ar=3→h.ao=true∧1≤h.ap∧h.ap≤dl
 t:h.ar≠3→h.ap=0
 e1:h.ar=0→h.ao=false
 s2:h.ar=2→h.ao=true
theorem Ly {p:aA} {f:Frame} {i:Int}:g9 p f i=true↔oo (nth p.O i).ah.length p.dl (nth f.O i):=by
 unfold g9
 simp only
 generalize nth f.O i=h
 generalize (nth p.O i).ah.length=n
 have eT: ∀(l:List Bool) (k:Nat),k≤l.length→((l.take k).all (fun b=>b)=true↔ ∀j,j<k→l.getD j false=true):=fun l k hk=>by
  rw[List.all_eq_true]
  constructor
  ·intro h j aM
   have:l[j]'(by omega)=true:=h _ (List.mem_take_iff_getElem.2 ⟨j,by omega,rfl⟩)
   rw[List.getD_eq_getElem?_getD,List.getElem?_eq_getElem (by omega)];exact this
  ·intro h x hx
   obtain⟨j,aM,rfl⟩:=List.mem_take_iff_getElem.1 hx
   have:=h j (by omega)
   rw[List.getD_eq_getElem?_getD,List.getElem?_eq_getElem (by omega)] at this;exact this
 rw[Bool.and_eq_true,Bool.and_eq_true,Bool.and_eq_true,Bool.and_eq_true,Bool.and_eq_true,iQ,iQ,decide_eq_true_eq,Bool.or_eq_true,Bool.and_eq_true,decide_eq_true_eq,decide_eq_true_eq,List.all_eq_true]
 constructor
 ·rintro⟨⟨⟨⟨⟨h1,h2⟩,aN⟩,be⟩,ci⟩,cK⟩
  refine⟨h1,h2,by omega,fun aH=> ?_,(eT _ _ (by omega)).1 ci,fun e=> ?_,fun e=> ?_,fun e=> ?_,fun e=> ?_⟩
  ·rcases be with be | be
   ·exact absurd be aH
   ·exact⟨be.1,fun b hb=>by have:=be.2 b hb;simpa using this⟩
  ·rw[if_pos e,Bool.and_eq_true,iQ] at cK;exact cK
  ·rw[if_neg e] at cK;simp only[Bool.and_eq_true,decide_eq_true_eq] at cK;exact cK.1.1
  ·rw[if_neg (by omega)] at cK;simp only[Bool.and_eq_true,decide_eq_true_eq,Bool.or_eq_true,Bool.not_eq_true'] at cK
   rcases cK.1.2 with h | h
   ·exact absurd e h
   ·exact h
  ·rw[if_neg (by omega)] at cK;simp only[Bool.and_eq_true,decide_eq_true_eq,Bool.or_eq_true,Bool.not_eq_true'] at cK
   rcases cK.2 with h | h
   ·exact absurd e h
   ·exact h
 ·intro H
  have hg:=H.af
  have aL:=H.len
  refine⟨⟨⟨⟨⟨H.aJ,H.len⟩,by omega⟩,?_⟩,(eT _ _ (by omega)).2 H.ac⟩,?_⟩
  ·by_cases be:h.ar=4
   ·exact .inl be
   ·exact .inr ⟨(H.still be).1,fun b hb=>by rw[(H.still be).2 b hb];rfl⟩
  ·by_cases aN:h.ar=3
   ·rw[if_pos aN,Bool.and_eq_true,iQ];exact H.t3 aN
   ·rw[if_neg aN];simp only[Bool.and_eq_true,decide_eq_true_eq,Bool.or_eq_true,Bool.not_eq_true']
    refine⟨⟨H.t aN,?_⟩,?_⟩
    ·by_cases aT:h.ar=0
     ·exact .inr (H.e1 aT)
     ·exact .inl aT
    ·by_cases aT:h.ar=2
     ·exact .inr (H.s2 aT)
     ·exact .inl aT
theorem Ba {n:Nat} {dl:Int} (h:0<n):oo n dl (ha n) where
 aJ:=⟨show(0:Int)≤0 by decide,show(0:Int)≤4 by decide⟩
 len:=by simp[ha]
 af:=⟨Int.le_refl _,show(0:Int)<n by omega⟩
 still:=fun _=>⟨rfl,fun b hb=>(List.mem_replicate.1 hb).2⟩
 ac:=fun j aM=>absurd aM (Nat.not_lt_zero _)
 t3:=fun e=>absurd e (show ¬(0:Int)=3 by decide)
 t:=fun _=>rfl
 e1:=fun _=>rfl
 s2:=fun e=>absurd e (show ¬(0:Int)=2 by decide)
theorem Lz {n:Nat} {dl:Int} {s:List Int} {f:Frame} {h:ae} (aH:s.length=n) (aT:0<n) (H:oo n dl h) (be:h.ar=4):oo n dl (hV s f h):=by
 subst aH
 have aP:(List.zipWith (fun b x=>b || dW f x) h.ac s).length=s.length:=by rw[List.length_zipWith,H.len];omega
 have hg:=H.af
 have sy:=(Ei (s:=s) (f:=f) (ac:=List.zipWith (fun b x=>b || dW f x) h.ac s) s.length h.af.toNat (by omega)).2
 have ui: ∀j,h.ac.getD j false=true→(List.zipWith (fun b x=>b || dW f x) h.ac s).getD j false=true:=fun j aM=>by
  have oD:j<h.ac.length:=by
   by_cases oD:j<h.ac.length
   ·exact oD
   ·rw[List.getD_eq_getElem?_getD,List.getElem?_eq_none (by omega)] at aM;cases aM
  have aL:=H.len
  rw[List.getD_eq_getElem?_getD,List.getElem?_eq_getElem oD] at aM
  rw[List.getD_eq_getElem?_getD,List.getElem?_eq_getElem (by omega),List.getElem_zipWith]
  have aM:h.ac[j]=true:=aM
  rw[aM];rfl
 unfold hV
 simp only
 split
 ·exact Ba aT
 ·rename_i ck
  exact⟨H.aJ,aP,⟨Int.natCast_nonneg _,by simp only;omega⟩,fun e=>absurd be e,by
   simp only[Int.toNat_natCast]
   exact KT _ _ fun j aM=>ui j (H.ac j aM),H.t3,H.t,H.e1,H.s2⟩
theorem WM {p:aA} {f:Frame} {i:Nat} {h:ae} {n:Nat} (aH:(nth p.O i).ah.length=n) (aT:0<n) (H:oo n p.dl h):oo n p.dl (iW p f i h):=by
 by_cases ie:h.ar=0
 ·rw[xo ie];exact H
 by_cases be:h.ar=4
 ·rw[IC be];exact Lz aH aT H be
 have bm:=H.aJ
 cases aC:dW f (nth (nth p.O i).ah 0) with
 | true=>
  rw[ID ie be aC]
  refine Lz aH aT ⟨⟨show(0:Int)≤4 by decide,show(4:Int)≤4 by decide⟩,H.len,H.af,fun e=>absurd rfl e,H.ac,fun e=>absurd e (show ¬(4:Int)=3 by decide),fun _=>rfl,fun e=>absurd e (show ¬(4:Int)=0 by decide),fun e=>absurd e (show ¬(4:Int)=2 by decide)⟩ rfl
 | false=>
  by_cases nU:h.ar=1∨h.ar=2
  ·have hs:=H.still be
   have br:=H.t (by omega)
   cases aI:fi p f i with
   | true=>
    rw[IE nU aC aI]
    exact⟨⟨show(0:Int)≤2 by decide,show(2:Int)≤4 by decide⟩,H.len,H.af,fun _=>hs,H.ac,fun e=>absurd e (show ¬(2:Int)=3 by decide),fun _=>br,fun e=>absurd e (show ¬(2:Int)=0 by decide),fun _=>rfl⟩
   | false=>
    rw[Cw nU aC aI]
    exact⟨⟨show(0:Int)≤1 by decide,show(1:Int)≤4 by decide⟩,H.len,H.af,fun _=>hs,H.ac,fun e=>absurd e (show ¬(1:Int)=3 by decide),fun _=>br,fun e=>absurd e (show ¬(1:Int)=0 by decide),fun e=>absurd e (show ¬(1:Int)=2 by decide)⟩
  ·rw[IF (fun e=>nU (.inl e)) (fun e=>nU (.inr e)) be aC];exact H
theorem aef {p:aA} {f:Frame} {i:Nat} {h:ae} (hs:(iW p f i h).ar≠0):h.ar≠0:=fun e=>hs (by rw[xo e];exact e)
structure o3 (p:aA) (f:Frame):Prop where
 base:rp p f=true
 jl: ∀x∈f.au,jk x=true
 held: ∀i:Int,0≤i→i<f.O.length→oo (nth p.O i).ah.length p.dl (nth f.O i)
 bU: ∀i k:Int,0≤i→i<f.O.length→0≤k→k<f.O.length→jc p f i k=false
theorem GA {p:aA} {f:Frame} (h:eV p f=true):o3 p f∧d_ p f=f:=by
 obtain⟨a,b,c,d,e⟩:=tH.1 h
 refine⟨⟨a,b,fun i i0 i1=>Ly.1 (c i i0 i1),d⟩,?_⟩
 have s:=qQ p f f.O.length
 have h1:(d_ p f).ok=f.ok:=s.1
 have h2:(d_ p f).aw=f.aw:=s.2.1
 have aN:(d_ p f).au=f.au:=s.2.2
 generalize d_ p f=g at e h1 h2 aN
 cases g;cases f
 simp only at e h1 h2 aN
 subst e;subst h1;subst h2;subst aN;rfl
theorem Jr {p:aA} {f g:Frame} (aL:g.O.length=f.O.length) (hs: ∀i:Int,0≤i→i<f.O.length→(nth g.O i).ar≠0→(nth f.O i).ar≠0)
  (h: ∀i k:Int,0≤i→i<f.O.length→0≤k→k<f.O.length→jc p f i k=false): ∀i k:Int,0≤i→i<g.O.length→0≤k→k<g.O.length→jc p g i k=false:=fun i k i0 i1 ba ei=>by
 have h1:=h i k i0 (by omega) ba (by omega)
 cases hb:jc p g i k with
 | false=>rfl
 | true=>
  unfold jc at hb h1
  simp only[Bool.and_eq_true,bne_iff_ne,ne_eq] at hb
  have s1:=hs i i0 (by omega) hb.2.2.1
  have s2:=hs k ba (by omega) hb.2.2.2
  rw[show(i !=k)=true by simpa using hb.1,hb.2.1,show((nth f.O i).ar !=0)=true by simpa using s1,show((nth f.O k).ar !=0)=true by simpa using s2] at h1
  cases h1
theorem Cm {p:aA} (h:dQ p=true) {i:Int} (i0:0≤i) (i1:i<p.O.length):0<(nth p.O i).ah.length:=
 List.length_pos_iff.2 ((sS h).ah _ (du (by omega))).1
theorem On {p:aA} {f:Frame} (h:o3 p f):eV p (d_ p f)=true:=by
 obtain⟨jb,db,pZ,jN,ju⟩:=mG.1 h.base
 have s:=qQ p f f.O.length
 have aL:(d_ p f).O.length=f.O.length:=oT p f f.O.length
 have h1:(d_ p f).ok=f.ok:=s.1
 have h2:(d_ p f).aw=f.aw:=s.2.1
 have aN:(d_ p f).au=f.au:=s.2.2
 refine tH.2 ⟨mG.2 ⟨jb,by rw[h1];exact db,by rw[h2];exact pZ,by rw[aN];exact jN,by rw[aL];exact ju⟩,by rw[aN];exact h.jl,fun i i0 i1=> ?_,Jr aL (fun i i0 i1 hs=> ?_) h.bU,(abk p f).symm⟩
 ·have LO:i<f.O.length:=by omega
  rw[Ly,Hs i0 LO]
  exact WM (by rw[jD i0]) (Cm jb i0 (by omega)) (h.held i i0 LO)
 ·rw[Hs i0 i1] at hs;exact aef hs
theorem wQ {α:Type} [Inhabited α] {l:List α} {t i:Int} {x:α} (t0:0≤t) (i0:0≤i) (i1:i<l.length):nth (l.set t.toNat x) i=if i=t then x else nth l i:=by
 rw[gE (by rw[List.length_set];omega),gE (show i.toNat<l.length by omega),List.getElem_set]
 by_cases e:i=t
 ·rw[if_pos (by omega),if_pos e]
 ·rw[if_neg (by omega),if_neg e]
theorem CA {p:aA} {ws:List ae} {i:Int} (i0:0≤i) (i1:i<ws.length): ∀n:Nat,nth (hZ p n ws) i=if i<n then lz p i.toNat (nth ws i) else nth ws i
 | 0=>by rw[if_neg (by omega)];rfl
 | n+1=>by
  show nth ((hZ p n ws).set n (lz p n (nth (hZ p n ws) n))) i=_
  have aL:=zF p ws n
  have e:=wQ (l:=hZ p n ws) (t:=(n:Int)) (i:=i) (x:=lz p n (nth (hZ p n ws) n)) (by omega) i0 (by omega)
  rw[Int.toNat_natCast] at e
  rw[e]
  by_cases aH:i=n
  ·subst aH
   rw[if_pos rfl,if_pos (by omega),CA i0 i1 n,if_neg (by omega),Int.toNat_natCast]
  ·rw[if_neg aH,CA i0 i1 n]
   by_cases hi:i<n
   ·rw[if_pos hi,if_pos (by omega)]
   ·rw[if_neg hi,if_neg (by omega)]
theorem WN {p:aA} (h:dQ p=true):1≤p.dl∧p.dl≤300:=(rV.1 (wY h).1).2.1
theorem Pj: ∀(l:List ct) (q:List bc),(∀x∈l,0≤x.sw∧x.sw<q.length∧(x.bn=1∨x.bn=2))→(∀x∈q,jk x=true)→ ∀x∈jH l q,jk x=true
 | [],q,_,h=>h
 | y::l,q,aL,h=>by
  show ∀x∈jH l (q.set y.sw.toNat ⟨y.bn,(nth q y.sw).a2⟩),jk x=true
  have bt:=aL y (List.mem_cons_self ..)
  refine Pj l _ (fun x hx=>by rw[List.length_set];exact aL x (List.mem_cons_of_mem _ hx)) fun x hx=> ?_
  rcases List.mem_or_eq_of_mem_set hx with hx | rfl
  ·exact h x hx
  ·have:=h _ (du (show y.sw.toNat<q.length by omega))
   unfold jk at this ⊢
   rw[Bool.and_eq_true,iQ,iQ] at this ⊢
   exact⟨by show 1≤y.bn∧y.bn≤2;omega,this.2⟩
theorem Oq {p:aA} {f:Frame} (h:o3 p f) {ws:List ae} (aL:ws.length=f.O.length) (hk: ∀i:Int,0≤i→i<f.O.length→oo (nth p.O i).ah.length p.dl (nth ws i))
  (hs: ∀i:Int,0≤i→i<f.O.length→(nth ws i).ar≠0→(nth f.O i).ar≠0):o3 p {f with O:=ws}:=by
 obtain⟨jb,db,pZ,jN,ju⟩:=mG.1 h.base
 exact⟨mG.2 ⟨jb,db,pZ,jN,by show(ws.length:Nat)=_;omega⟩,h.jl,fun i i0 i1=>hk i i0 (by rw[←aL];exact i1),Jr (f:=f) aL hs h.bU⟩
theorem Oo {p:aA} {f:Frame} (h:o3 p f) {t:Int} {x:ae} (t0:0≤t) (hk:oo (nth p.O t).ah.length p.dl x) (hs:x.ar≠0→(nth f.O t).ar≠0):o3 p {f with O:=f.O.set t.toNat x}:=by
 refine Oq h (List.length_set ..) (fun i i0 i1=> ?_) fun i i0 i1=> ?_
 ·rw[wQ t0 i0 i1]
  split
  ·rename_i e;rw[e];exact hk
  ·exact h.held i i0 i1
 ·rw[wQ t0 i0 i1]
  split
  ·rename_i e;rw[e];exact hs
  ·exact _root_.id
theorem BZ {p:aA} {f:Frame} (h:o3 p f) {o:List Bool} {q:List bc} (aC:o.length=f.aw.length) (ak:q.length=f.au.length) (aI: ∀x∈q,jk x=true):o3 p {f with aw:=o,au:=q}:=by
 obtain⟨jb,db,pZ,jN,ju⟩:=mG.1 h.base
 exact⟨mG.2 ⟨jb,db,by show(o.length:Int)=_;rw[aC];exact pZ,by show q.length=_;rw[ak];exact jN,ju⟩,aI,h.held,h.bU⟩
theorem Pm {q:List bc} {k:Nat} {x:bc} (h: ∀x∈q,jk x=true) (hx:jk x=true): ∀y∈q.set k x,jk y=true:=fun y bt=>by
 rcases List.mem_or_eq_of_mem_set bt with bt | rfl
 ·exact h y bt
 ·exact hx
theorem WL {n:Nat} {dl:Int} {h:ae} (H:oo n dl h) {x:Int} (be:h.ar≠4) (hx:x=1) (aN:h.ar≠3):oo n dl {h with ar:=x}:=by
 subst hx
 exact⟨⟨show(0:Int)≤1 by decide,show(1:Int)≤4 by decide⟩,H.len,H.af,fun _=>H.still be,H.ac,fun e=>absurd e (show ¬(1:Int)=3 by decide),fun _=>H.t aN,fun e=>absurd e (show ¬(1:Int)=0 by decide),fun e=>absurd e (show ¬(1:Int)=2 by decide)⟩
theorem aaq {p:aA} {f:Frame} {e:Event} (h:o3 p f) (he:eU p e=true):o3 p (jC p f e):=by
 obtain⟨jb,db,pZ,jN,ju⟩:=mG.1 h.base
 have cx:=sS jb
 have dV:=y6 jb
 have aR:=WN jb
 unfold jC
 split
 case isFalse=>exact h
 rename_i hc
 unfold ic
 split
 ·rename_i h1
  obtain⟨t0,t1⟩:=ri he (.inl h1)
  have IG:e.ai<f.O.length:=by omega
  have hw:eM p f e.ai=0:=by unfold fe at hc;rwa [if_pos h1] at hc
  have bm:(nth f.O e.ai).ar=0:=by
   unfold eM at hw
   by_cases aT:(nth f.O e.ai).ar=0
   ·exact aT
   ·rw[if_pos aT] at hw;cases hw
  have Wc:(ly p f e.ai).O=[]:=by
   unfold eM at hw
   rw[if_neg (by rw[bm];simp)] at hw
   unfold codeF at hw
   by_cases ak:(ly p f e.ai).O=[]
   ·exact ak
   ·rw[if_pos ak] at hw;cases hw
  have lU:=Uw.1 (show dY (kV p f e.ai) p.O.length=[] from Wc)
  have hk:=WL (x:=1) (h.held e.ai t0 IG) (by omega) rfl (by omega)
  have K1:=BZ h (o:=f.aw) (q:=jH (bz (nth p.O e.ai)) f.au) rfl (zs _ _) (Pj _ _ (fun x hx=>by
   have:=(cx.a2 _ (du (show e.ai.toNat<p.O.length by omega))).2.2 x hx
   exact⟨this.1,by omega,By jb (du (by omega)) hx⟩) h.jl)
  have kX: ∀i:Int,0≤i→i<f.O.length→nth (f.O.set e.ai.toNat {nth f.O e.ai with ar:=1}) i=if i=e.ai then{nth f.O e.ai with ar:=1} else nth f.O i:=fun i i0 i1=>wQ t0 i0 i1
  obtain⟨nc,lL,C7,C8,ae5⟩:=mG.1 K1.base
  have LA: ∀k:Int,0≤k→k<f.O.length→k≠e.ai→kR p e.ai k=true→(nth f.O k).ar≠0→False:=fun k ba ei ck hb hs=>by
   have:=lU k ba (by omega)
   unfold kV at this
   rw[show(k !=e.ai)=true by simpa using ck,hb,show((nth f.O k).ar !=0)=true by simpa using hs] at this
   cases this
  refine⟨mG.2 ⟨nc,lL,C7,C8,by show(f.O.set _ _).length=_;rw[List.length_set];exact ju⟩,K1.jl,fun i i0 i1=> ?_,fun i k i0 i1 ba ei=> ?_⟩
  ·have i1:i<f.O.length:=by
    have i1:i<((f.O.set e.ai.toNat {nth f.O e.ai with ar:=1}).length:Int):=i1
    rw[List.length_set] at i1;exact i1
   show oo _ _ (nth (f.O.set e.ai.toNat {nth f.O e.ai with ar:=1}) i)
   rw[kX i i0 i1]
   split
   ·rename_i dP;rw[dP];exact hk
   ·exact h.held i i0 i1
  ·have i1:i<f.O.length:=by
    have i1:i<((f.O.set e.ai.toNat {nth f.O e.ai with ar:=1}).length:Int):=i1
    rw[List.length_set] at i1;exact i1
   have ei:k<f.O.length:=by
    have ei:k<((f.O.set e.ai.toNat {nth f.O e.ai with ar:=1}).length:Int):=ei
    rw[List.length_set] at ei;exact ei
   have dl:=h.bU i k i0 i1 ba ei
   unfold jc at dl ⊢
   show((i !=k)&&(kR p i k&&(((nth (f.O.set e.ai.toNat {nth f.O e.ai with ar:=1}) i).ar !=0)&&((nth (f.O.set e.ai.toNat {nth f.O e.ai with ar:=1}) k).ar !=0))))=false
   rw[kX i i0 i1,kX k ba ei]
   by_cases Aq:i=e.ai
   ·by_cases vH:k=e.ai
    ·rw[Aq,vH];simp
    ·rw[if_neg vH]
     cases hb:kR p i k with
     | false=>simp
     | true=>
      cases hs:((nth f.O k).ar !=0) with
      | false=>simp
      | true=>exact(LA k ba ei vH (by rw[←Aq];exact hb) (by simpa using hs)).elim
   ·rw[if_neg Aq]
    by_cases vH:k=e.ai
    ·cases hb:kR p i k with
     | false=>simp
     | true=>
      cases hs:((nth f.O i).ar !=0) with
      | false=>simp
      | true=>exact(LA i i0 i1 Aq (by rw[←vH,dV.sym k i ba (by omega) i0 (by omega)];exact hb) (by simpa using hs)).elim
    ·rw[if_neg vH];exact dl
 rename_i h1
 split
 ·rename_i h2
  obtain⟨t0,t1⟩:=ri he (.inr h2)
  have IG:e.ai<f.O.length:=by omega
  have bm: ¬((nth f.O e.ai).ar≠1∧(nth f.O e.ai).ar≠2):=by
   unfold fe at hc
   rw[if_neg h1,if_pos h2] at hc
   intro bX;rw[if_pos bX] at hc;cases hc
  have bm:(nth f.O e.ai).ar=1∨(nth f.O e.ai).ar=2:=by omega
  have H:=h.held e.ai t0 IG
  split
  ·rename_i ak
   rw[Bool.and_eq_true] at ak
   refine Oo h t0 ⟨⟨show(0:Int)≤3 by decide,show(3:Int)≤4 by decide⟩,H.len,H.af,fun _=>H.still (by omega),H.ac,fun _=>⟨ak.1,aR.1,Int.le_refl _⟩,fun e=>absurd rfl e,fun e=>absurd e (show ¬(3:Int)=0 by decide),fun e=>absurd e (show ¬(3:Int)=2 by decide)⟩ (fun _=>by omega)
  ·exact Oo h t0 (Ba (Cm jb t0 t1)) (fun bX=>absurd rfl bX)
 rename_i h2
 split
 ·exact BZ h (List.length_set ..) rfl h.jl
 rename_i aN
 split
 ·rename_i ci
  obtain⟨t0,t1⟩:=vM he (.inl ci)
  rw[Aw ci,Bool.and_eq_true,iQ,iQ] at he
  refine BZ h rfl (List.length_set ..) (Pm h.jl ?_)
  have:=h.jl _ (du (show e.ai.toNat<f.au.length by omega))
  unfold jk at this ⊢
  rw[Bool.and_eq_true,iQ,iQ] at this ⊢
  exact⟨this.1,he.2⟩
 rename_i ci
 split
 ·rename_i cK
  obtain⟨t0,t1⟩:=vM he (.inr cK)
  rw[Ax cK,Bool.and_eq_true,iQ,iQ] at he
  refine BZ h rfl (List.length_set ..) (Pm h.jl ?_)
  have:=h.jl _ (du (show e.ai.toNat<f.au.length by omega))
  unfold jk at this ⊢
  rw[Bool.and_eq_true,iQ,iQ] at this ⊢
  exact⟨he.2,this.2⟩
 rename_i cK
 split
 ·refine Oq h (zF _ _ _) (fun i i0 i1=> ?_) fun i i0 i1=> ?_
  ·rw[CA i0 i1,if_pos i1]
   have H:=h.held i i0 i1
   unfold lz
   split
   ·rename_i hs
    have br:=H.t3 hs
    have hw:IntKind.i64.wrap ((nth f.O i).ap - 1)=(nth f.O i).ap - 1:=fw (by omega) (by omega)
    rw[hw]
    split
    ·unfold a4;rw[jD i0];exact Ba (Cm jb i0 (by omega))
    ·exact⟨H.aJ,H.len,H.af,H.still,H.ac,fun _=>⟨br.1,by simp only;omega,by simp only;omega⟩,fun e=>absurd hs e,H.e1,H.s2⟩
   ·exact H
  ·rw[CA i0 i1,if_pos i1]
   unfold lz
   split
   ·rename_i hs
    split
    ·exact fun bX=>absurd rfl bX
    ·exact _root_.id
   ·exact _root_.id
 ·exact h
theorem CZ {p:aA} (h:dQ p=true):eV p (eI p)=true:=by
 have hf:=Js h
 have aL:=hf.fr.O
 have e:eI p=⟨true,List.replicate p.ah.toNat false,List.replicate p.bd.length ⟨1,1⟩,p.O.map fun w=>ha w.ah.length⟩:=by unfold eI;rw[if_pos h]
 have hw: ∀i:Int,0≤i→i<(eI p).O.length→nth (eI p).O i=ha (nth p.O i).ah.length:=fun i i0 i1=>by
  rw[gE (by omega),gE (show i.toNat<p.O.length by omega)]
  simp only[e,List.getElem_map]
 have lj:o3 p (eI p):=by
  refine⟨mG.2 ⟨h,by rw[e],hf.fr.aw,hf.fr.au,aL⟩,fun x hx=> ?_,fun i i0 i1=> ?_,fun i k i0 i1 ba ei=> ?_⟩
  ·rw[e] at hx;rw[(List.mem_replicate.1 hx).2];decide
  ·rw[hw i i0 i1];exact Ba (Cm h i0 (by omega))
  ·unfold jc
   rw[hw i i0 i1];simp[ha]
 have hs:d_ p (eI p)=eI p:=by
  have s:=qQ p (eI p) (eI p).O.length
  have Bk:(d_ p (eI p)).O=(eI p).O:=by
   apply List.ext_getElem?
   intro j
   unfold d_
   rw[xh]
   cases hx:(eI p).O[j]? with
   | none=>rfl
   | some x=>
    have aM:=(List.getElem?_eq_some_iff.1 hx)
    have tY:=aM.1
    have:=hw j (by omega) (by omega)
    rw[iT aM.1,aM.2] at this
    simp only[Option.map_some,if_pos aM.1]
    rw[xo (by rw[this];rfl)]
  have h1:(d_ p (eI p)).ok=(eI p).ok:=s.1
  have h2:(d_ p (eI p)).aw=(eI p).aw:=s.2.1
  have aN:(d_ p (eI p)).au=(eI p).au:=s.2.2
  generalize d_ p (eI p)=g at Bk h1 h2 aN
  generalize eI p=b at Bk h1 h2 aN
  cases g;cases b
  simp only at Bk h1 h2 aN
  subst Bk;subst h1;subst h2;subst aN;rfl
 rw[←hs];exact On lj
theorem Tz (p:aA) (f:Frame) (e:Event):fe p f e≠1:=by
 unfold fe eM codeF
 repeat' split
 all_goals decide
theorem ZQ {p:aA} {f:Frame} {e:Event} (h:eV p f=true):fA.mk (fe p f e) (d_ p (jC p f e))=gW p f e:=by
 unfold gW jC
 by_cases hc:fe p f e=0
 ·rw[if_pos hc,if_neg (by rw[hc];simp),hc]
 ·rw[if_neg hc,if_pos hc,(GA h).2]
theorem RJ {p:aA} {f:Frame} {e:Event} (h:eV p f=true):xj p f e=(if eU p e=true then gW p f e else⟨1,f⟩)∧eV p (xj p f e).frame=true:=by
 unfold xj gf
 rw[h,Bool.true_and]
 by_cases he:eU p e=true
 ·simp only[if_pos he]
  rw[if_neg (Tz p f e)]
  exact⟨ZQ h,On (aaq (GA h).1 he)⟩
 ·simp only[if_neg he]
  exact⟨rfl,h⟩
def RF (h i v:Nat):Int:=if v=0 then 0 else if v=1 then 2 else if v<3+i∧ ¬(i=h∧v=2+h) then 3 else if i<h then 4 else 0
def CN (h i:Nat) (D:List fA):Prop:= ∀(v:Nat) (d:fA),D[v]?=some d→ ∃w,d.frame.O=[w]∧w.ar=RF h i v
theorem CN.more {h i:Nat} {D:List fA} (k:CN h i D) {w:ae} {c:Int} {o:Bool} {a:List Bool} {b:List bc} {n:Nat} (aH:D.length=n) (hw:w.ar=RF h i n):CN h i (D++[⟨c,o,a,b,[w]⟩]):=fun v d bi=>by
 rcases Nat.lt_or_ge v D.length with aL | aL
 ·rw[List.getElem?_append_left aL] at bi;exact k v d bi
 ·rw[List.getElem?_append_right aL] at bi
  cases hv:v - D.length with
  | zero=>rw[hv] at bi;cases bi;exact⟨w,rfl,by rw[hw,show v=n by omega]⟩
  | succ m=>rw[hv] at bi;simp at bi
def IZ (c:List UInt8):Bool:=true
def bV (k:Int) (c:a_):Prop:=0≤c.pos∧c.pos+k≤4611686018427387904
def ln (c:a_):a_:=bif decide (c.pos<(c.code.length:Int)) then a_.mk c.code (IntKind.i64.wrap (c.pos+1)) (IntKind.u64.wrap ((IntKind.u64.wrap ((IntKind.u64.wrap (c.tb*6364136223846793005))+(IntKind.u64.wrap (((nth c.code c.pos).toNat:Int)))))+1442695040888963407))
 else a_.mk c.code (IntKind.i64.wrap (c.pos+1)) (IntKind.u64.wrap ((IntKind.u64.wrap (c.tb*6364136223846793005))+1442695040888963407))
def mR (c:a_):Int:=bif decide (c.pos<(c.code.length:Int)) then IntKind.i64.wrap (((nth c.code c.pos).toNat:Int))
 else IntKind.i64.wrap (IntKind.u64.wrap (((BitVec.ofInt IntKind.u64.bits ((IntKind.u64.wrap ((IntKind.u64.wrap (c.tb*6364136223846793005))+1442695040888963407)).fdiv (2 ^ (min (40:Int).toNat IntKind.u64.bits)))&&&BitVec.ofInt IntKind.u64.bits 255).toNat:Int)))
theorem aes {n:Int} (h1:0≤n) (h2:n≤9223372036854775807):IntKind.u64.wrap n=n:=by
 have e:IntKind.u64.wrap n=n%2 ^ 64:=by
  unfold IntKind.wrap
  exact if_neg (fun h=>by simp[IntKind.signed] at h)
 rw[e];omega
theorem NQ (c:a_):0≤mR c∧mR c≤255:=by
 have key: ∀n:Nat,n≤255→(0≤IntKind.i64.wrap (n:Int)∧IntKind.i64.wrap (n:Int)≤255)∧IntKind.u64.wrap (n:Int)=n:=fun n h=>by
  rw[fw (by omega) (by omega),aes (by omega) (by omega)];omega
 unfold mR
 cases decide (c.pos<(c.code.length:Int)) with
 | true=>
  have:=(nth c.code c.pos).toNat_lt
  exact(key _ (by omega)).1
 | false=>
  have hb: ∀x:BitVec IntKind.u64.bits,(x&&&BitVec.ofInt IntKind.u64.bits 255).toNat≤255:=fun x=>by
   rw[BitVec.toNat_and];exact Nat.and_le_right
  simp only[cond_false]
  rw[(key _ (hb _)).2]
  exact(key _ (hb _)).1
theorem ZW {c:a_} (h:bV 1 c):(ln c).pos=c.pos+1:=by
 have:IntKind.i64.wrap (c.pos+1)=c.pos+1:=fw (by have:=h.1;omega) (by have:=h.2;omega)
 unfold ln
 cases decide (c.pos<(c.code.length:Int))<;>exact this
theorem bV.mono {k l:Int} {c:a_} (h:bV k c) (aL:l≤k):bV l c:=⟨h.1,by have:=h.2;omega⟩
theorem bV.next {k:Int} {c:a_} (h:bV (k+1) c) (hk:0≤k):bV k (ln c):=by
 have:=ZW (h.mono (by omega))
 exact⟨by have:=h.1;omega,by have:=h.2;omega⟩
def iz (n:Int) (c:a_):Prop:=bV 2 c
def bM (n:Int) (c:a_):a_:=if n≤1 then c else bif decide (n>200) then ln (ln c) else ln c
def cE (n:Int) (c:a_):Int:=if n≤1 then 0 else(bif decide (n>200) then IntKind.i64.wrap (IntKind.i64.wrap (mR c*256)+mR (ln c)) else mR c).tmod n
theorem mT (n:Int) (c:a_):0≤cE n c∧(1≤n→cE n c<n):=by
 unfold cE
 split
 ·omega
 ·rename_i aH
  have h1:=NQ c
  have h2:=NQ (ln c)
  have h: ∀x:Int,0≤x→0≤x.tmod n∧(1≤n→x.tmod n<n):=fun x hx=>by
   rw[Int.tmod_eq_emod_of_nonneg hx]
   exact⟨Int.emod_nonneg _ (by omega),fun _=>Int.emod_lt_of_pos _ (by omega)⟩
  cases decide (n>200) with
  | true=>
   simp only[cond_true]
   refine h _ ?_
   rw[fw (n:=mR c*256) (by omega) (by omega),fw (by omega) (by omega)];omega
  | false=>exact h _ h1.1
theorem bV.pick {k:Int} {c:a_} {n:Int} (h:bV (k+2) c) (hk:0≤k):bV k (bM n c):=by
 unfold bM
 split
 ·exact h.mono (by omega)
 ·cases decide (n>200) with
  | true=>exact(bV.next (k:=k+1) (h.mono (by omega)) (by omega)).next hk
  | false=>exact(bV.next (k:=k+1) (h.mono (by omega)) (by omega)).mono (by omega)
def uZ (n:Int) (no:List Int):Nat→a_→List Int→a_×List Int
 | 0,c,x=>(c,x)
 | k+1,c,x=>uZ n no k (bM n c) (if((!(meets [cE n c] x))&&(!(meets [cE n c] no)))=true then x++[cE n c] else x)
def zv (m:Int) (c:a_):Nat:=(cE (IntKind.i64.wrap (m+1)) c).toNat
def Hx (n m:Int) (no:List Int) (c:a_):a_×List Int:=uZ n no (zv m c) (bM (IntKind.i64.wrap (m+1)) c) []
def hY (n m:Int) (no:List Int) (c:a_):a_:=(Hx n m no c).1
def hr (n m:Int) (no:List Int) (c:a_):List Int:=(Hx n m no c).2
def zw (n m:Int) (no:List Int) (c:a_):Prop:=bV 10 c∧0≤m∧m≤4
theorem PO {m:Int} {c:a_} (aT:0≤m) (be:m≤4):zv m c≤4:=by
 unfold zv
 rw[fw (by omega) (by omega)]
 have:=(mT (m+1) c).2 (by omega)
 omega
structure vn (n:Int) (no:List Int) (x:List Int):Prop where
 xb: ∀y∈x,0≤y∧y<n
 wO:x.Nodup
 out: ∀y∈x,y ∉ no
theorem vn.push {n:Int} {no x:List Int} {c:a_} (aH:1≤n) (h:vn n no x):vn n no (if((!(meets [cE n c] x))&&(!(meets [cE n c] no)))=true then x++[cE n c] else x):=by
 split
 ·rename_i e
  rw[Bool.and_eq_true,Bool.not_eq_true',Bool.not_eq_true',ux,ux] at e
  have bB:cE n c ∉ x:=by simpa using e.1
  have e2:cE n c ∉ no:=by simpa using e.2
  have aK:=mT n c
  refine⟨fun y bt=> ?_,?_,fun y bt=> ?_⟩
  ·rcases List.mem_append.1 bt with bt | bt
   ·exact h.xb y bt
   ·obtain rfl:=List.mem_singleton.1 bt;exact⟨aK.1,aK.2 aH⟩
  ·rw[List.nodup_append]
   exact⟨h.wO,by simp,fun a a3 b hb e=>by obtain rfl:=List.mem_singleton.1 hb;subst e;exact bB a3⟩
  ·rcases List.mem_append.1 bt with bt | bt
   ·exact h.out y bt
   ·obtain rfl:=List.mem_singleton.1 bt;exact e2
 ·exact h
theorem PP {n:Int} {no:List Int} (aH:1≤n): ∀{k:Nat} {c:a_} {x:List Int} {q:Int},bV (q+2*k) c→0≤q→vn n no x→bV q (uZ n no k c x).1∧vn n no (uZ n no k c x).2∧(uZ n no k c x).2.length≤x.length+k
 | 0,c,x,q,h,ak,hx=>⟨h.mono (by omega),hx,by show x.length≤_;omega⟩
 | k+1,c,x,q,h,ak,hx=>by
  have:=PP aH (q:=q) (k:=k) (c:=bM n c) (bV.pick (h.mono (by omega)) (by omega)) ak (hx.push (c:=c) aH)
  refine⟨this.1,this.2.1,Nat.le_trans this.2.2 ?_⟩
  split<;>simp<;>omega
theorem xi {n m:Int} {no:List Int} {c:a_} {q:Int} (aH:1≤n) (h:bV (q+10) c) (ak:0≤q) (aT:0≤m) (be:m≤4):bV q (hY n m no c)∧vn n no (hr n m no c)∧(hr n m no c).length≤4:=by
 have kx:=PO (c:=c) aT be
 have:=PP aH (no:=no) (k:=zv m c) (c:=bM (IntKind.i64.wrap (m+1)) c) (x:=[]) (q:=q) (bV.pick (h.mono (by omega)) (by omega)) ak ⟨(by simp),List.nodup_nil,(by simp)⟩
 exact⟨this.1,this.2.1,Nat.le_trans this.2.2 (by simpa using kx)⟩
def zM (p:aA) (c:a_):a_:=bif decide ((p.O.length:Int)>0) then bM (p.O.length:Int) c else c
def zN (p:aA) (c:a_):a_:=bif decide (p.ah>0) then bM p.ah (zM p c) else zM p c
def zO (p:aA) (c:a_):a_:=bif decide ((p.bd.length:Int)>0) then bM (p.bd.length:Int) (zN p c) else zN p c
def g7 (p:aA) (c:a_):a_:=bM 20 (zO p c)
def fG (p:aA) (c:a_):Int:=cE 20 (zO p c)
def xA (p:aA) (c:a_):Int:=bif decide ((p.O.length:Int)>0) then cE (p.O.length:Int) c else 0
def xz (p:aA) (c:a_):Int:=bif decide (p.ah>0) then cE p.ah (zM p c) else 0
def kt (p:aA) (c:a_):Int:=bif decide ((p.bd.length:Int)>0) then cE (p.bd.length:Int) (zN p c) else 0
def xy (k:Int):Bool:=bif k==0 then k==0 else(bif k==1 then k==1 else(bif k==2 then k==2 else k==3))
def vd (k:Int):Bool:=bif k==13 then k==13 else(bif k==14 then k==14 else k==15)
def lG (a b k:Int):Bool:=bif k==a then k==a else k==b
theorem CH {a b k:Int} (h:lG a b k=true):k=a∨k=b:=by
 unfold lG at h
 cases e:k==a with
 | true=>left;simpa using e
 | false=>rw[e] at h;right;simpa using h
theorem R_ {k:Int} (h:vd k=true):k=13∨k=14∨k=15:=by
 unfold vd at h
 cases e:k==13 with
 | true=>left;simpa using e
 | false=>
  rw[e] at h
  cases e:k==14 with
  | true=>right;left;simpa using e
  | false=>rw[e] at h;right;right;simpa using h
theorem aeK {k:Int} (h:xy k=true):k=0∨k=1∨k=2∨k=3:=by
 unfold xy at h
 cases e:k==0 with
 | true=>left;simpa using e
 | false=>
  rw[e] at h
  cases e:k==1 with
  | true=>right;left;simpa using e
  | false=>
   rw[e] at h
   cases e:k==2 with
   | true=>right;right;left;simpa using e
   | false=>rw[e] at h;right;right;right;simpa using h
def u7 (p:aA) (f:Frame) (i:Int):Nat→Int→Option Event
 | 0,_=>none
 | m+1,k=>
  if(((nth f.O i).ar==4)&&((nth f.aw (nth (nth p.O i).ah k))&&((k==IntKind.i64.wrap (((nth p.O i).ah.length:Int) - 1)) || (nth f.aw (nth (nth p.O i).ah (IntKind.i64.wrap (k+1)))))))=true then some ⟨4,nth (nth p.O i).ah k,0⟩
  else if((decide (k ≥ (nth f.O i).af))&&(!(nth (nth f.O i).ac k)))=true then some ⟨3,nth (nth p.O i).ah k,0⟩
  else u7 p f i m (k+1)
def xr (p:aA) (f:Frame):Nat→Int→Event
 | 0,_=>⟨1,0,0⟩
 | m+1,i=>if(((nth f.O i).ar==0) || ((nth f.O i).ar==1))=true then xr p f m (i+1) else
  match u7 p f i (nth p.O i).ah.length 0 with
  | some e=>e
  | none=>xr p f m (i+1)
def pQ (p:aA) (f:Frame) (c:a_):Event:=xr p f f.O.length 0
def zG (p:aA) (f:Frame) (c:a_):a_:=c
def IP (p:aA) (f:Frame) (c:a_):Prop:=tc p f
def DX (p:aA) (f:Frame) (c:a_):Prop:=tc p f∧bV 10 c
def eA (p:aA) (f:Frame) (c:a_):a_:=
 if fG p c=10 then bM 2 (g7 p c) else if fG p c=16 then bM 3 (g7 p c) else g7 p c
def ff (p:aA) (f:Frame) (c:a_):Event:=
 bif xy (fG p c) then⟨1,xA p c,0⟩ else bif lG 4 5 (fG p c) then⟨2,xA p c,0⟩ else bif lG 6 7 (fG p c) then⟨3,xz p c,0⟩ else bif lG 8 9 (fG p c) then⟨4,xz p c,0⟩
 else bif fG p c==10 then⟨6,kt p c,IntKind.i64.wrap (1+cE 2 (g7 p c))⟩ else bif lG 11 12 (fG p c) then⟨7,0,0⟩
 else bif vd (fG p c) then(bif decide ((f.au.length:Int)>kt p c) then⟨5,kt p c,(nth f.au (kt p c)).cy⟩ else pQ p f (g7 p c))
 else bif fG p c==16 then⟨5,kt p c,cE 3 (g7 p c)⟩ else pQ p f (g7 p c)
def Gy (p:aA) (c:a_):Prop:=bV 8 c
def oM (p:aA) (c:a_):a_:=bM 2 (bM 4 (bM 8 (bM 9 c)))
def iy (p:aA) (c:a_):Event:=⟨cE 9 c,IntKind.i64.wrap (cE 8 (bM 9 c) - 1),bif cE 2 (bM 4 (bM 8 (bM 9 c)))==0 then 0 else IntKind.i64.wrap (cE 4 (bM 8 (bM 9 c)) - 1)⟩
theorem bV.wX {k:Int} {c:a_} {n:Int} {b:Bool} (h:bV (k+2) c) (hk:0≤k):bV k (bif b then bM n c else c):=by
 cases b with
 | true=>exact h.pick hk
 | false=>exact h.mono (by omega)
theorem aeL {p:aA} {c:a_} {k:Int} (h:bV (k+6) c) (hk:0≤k):bV k (zO p c):=
 bV.wX (bV.wX (k:=k+2) (bV.wX (k:=k+2+2) (h.mono (by omega)) (by omega)) (by omega)) hk
theorem aeM {p:aA} {c:a_} {k:Int} (h:bV (k+8) c) (hk:0≤k):bV k (g7 p c):=
 bV.pick (aeL (k:=k+2) (h.mono (by omega)) (by omega)) hk
theorem Kl {p:aA} {f:Frame} {c:a_} {k:Int} (h:bV (k+10) c) (hk:0≤k):bV k (eA p f c):=by
 have be:=aeM (p:=p) (k:=k+2) (h.mono (by omega)) (by omega)
 unfold eA
 split
 ·exact be.pick hk
 ·split
  ·exact be.pick hk
  ·exact be.mono (by omega)
theorem Z0 {p:aA} {c:a_} {k:Int} (h:bV (k+8) c) (hk:0≤k):bV k (oM p c):=
 bV.pick (bV.pick (k:=k+2) (bV.pick (k:=k+2+2) (bV.pick (k:=k+2+2+2) (h.mono (by omega)) (by omega)) (by omega)) (by omega)) hk
def di (c:a_):Int:=IntKind.i64.wrap (2+cE 6 c)
def uM (c:a_):Int:=IntKind.i64.wrap (1+cE 6 (bM 6 c))
theorem BW (c:a_):2≤di c∧di c≤7:=by
 have h:=mT 6 c
 have:=h.2 (by omega)
 unfold di;rw[fw (by omega) (by omega)];omega
theorem aai (c:a_):1≤uM c∧uM c≤6:=by
 have h:=mT 6 (bM 6 c)
 have:=h.2 (by omega)
 unfold uM;rw[fw (by omega) (by omega)];omega
def tf (n:Int):Nat→a_→List Int→a_×List Int
 | 0,c,x=>(c,x)
 | k+1,c,x=>tf n k (bM n c) (x++[cE n c])
theorem RN {n:Int} (aH:1≤n): ∀{k:Nat} {c:a_} {x:List Int} {q:Int},bV (q+2*k) c→0≤q→(∀y∈x,0≤y∧y<n)→
  bV q (tf n k c x).1∧(∀y∈(tf n k c x).2,0≤y∧y<n)∧(tf n k c x).2.length=x.length+k
 | 0,c,x,q,h,ak,hx=>⟨h.mono (by omega),hx,rfl⟩
 | k+1,c,x,q,h,ak,hx=>by
  have:=RN aH (q:=q) (k:=k) (c:=bM n c) (x:=x++[cE n c]) (bV.pick (h.mono (by omega)) (by omega)) ak (fun y bt=>by
   rcases List.mem_append.1 bt with bt | bt
   ·exact hx y bt
   ·obtain rfl:=List.mem_singleton.1 bt;exact⟨(mT n c).1,(mT n c).2 aH⟩)
  refine⟨this.1,this.2.1,this.2.2.trans ?_⟩
  simp;omega
def gq (c:a_):a_×List Int:=tf (di c) (cE 4 (bM 6 (bM 6 c))).toNat (bM 4 (bM 6 (bM 6 c))) []
theorem Oe {c:a_} {q:Int} (h:bV (q+12) c) (ak:0≤q):bV q (gq c).1∧(∀y∈(gq c).2,0≤y∧y<di c)∧(gq c).2.length≤3:=by
 have hv:=mT 4 (bM 6 (bM 6 c))
 have:=hv.2 (by omega)
 have aN:bV (q+6) (bM 4 (bM 6 (bM 6 c))):=bV.pick (bV.pick (k:=q+6+2) (bV.pick (k:=q+6+2+2) (h.mono (by omega)) (by omega)) (by omega)) (by omega)
 have:=RN (n:=di c) (by have:=BW c;omega) (k:=(cE 4 (bM 6 (bM 6 c))).toNat) (x:=[]) (aN.mono (l:=q+2*((cE 4 (bM 6 (bM 6 c))).toNat:Nat)) (by omega)) ak (by simp)
 exact⟨this.1,this.2.1,by show(tf _ _ _ _).2.length≤3;rw[this.2.2];simp;omega⟩
def jG (n:Int) (c:a_):a_×List Int:=if(((hr n 4 [] c).length:Int)==0)=true then(bM n (hY n 4 [] c),[cE n (hY n 4 [] c)]) else(hY n 4 [] c,hr n 4 [] c)
structure Sy (n:Int) (x:List Int):Prop where
 ne:x≠[]
 len:x.length≤4
 xb: ∀y∈x,0≤y∧y<n
 wO:x.Nodup
theorem Pf {n:Int} {c:a_} {q:Int} (aH:1≤n) (h:bV (q+12) c) (ak:0≤q):bV q (jG n c).1∧Sy n (jG n c).2:=by
 have hs:=xi (no:=[]) aH (h.mono (l:=q+2+10) (by omega)) (by omega) (m:=4) (by omega) (by omega)
 have hv:=mT n (hY n 4 [] c)
 unfold jG
 split
 ·exact⟨bV.pick hs.1 ak,by simp,by simp,fun y bt=>by obtain rfl:=List.mem_singleton.1 bt;exact⟨hv.1,hv.2 aH⟩,by simp⟩
 ·rename_i aL
  exact⟨hs.1.mono (by omega),fun e=>aL (by replace e:hr n 4 [] c=[]:=e;rw[e];rfl),hs.2.2,hs.2.1.xb,hs.2.1.wO⟩
def n9 (sw ss:List Int):Nat→Int→a_→List ct→List ct→a_×List ct×List ct
 | 0,_,c,x,y=>(c,x,y)
 | k+1,v,c,x,y=>if meets [nth sw v] ss=true then n9 sw ss k (v+1) (bM 2 c) (x++[⟨v,IntKind.i64.wrap (1+cE 2 c)⟩]) y
  else if(cE 3 c==0)=true then n9 sw ss k (v+1) (bM 2 (bM 3 c)) x (y++[⟨v,IntKind.i64.wrap (1+cE 2 (bM 3 c))⟩])
  else n9 sw ss k (v+1) (bM 3 c) x y
structure o2 (sw ss:List Int) (v:Int) (x y:List ct):Prop where
 rx: ∀l∈x,(0≤l.sw∧l.sw<v)∧(1≤l.bn∧l.bn≤2)∧ss.contains (nth sw l.sw)=true
 qO: ∀l∈y,(0≤l.sw∧l.sw<v)∧(1≤l.bn∧l.bn≤2)
 uA:(x.map (·.sw)).Nodup
 uB:(y.map (·.sw)).Nodup
 wS: ∀a∈x,∀b∈y,a.sw≠b.sw
 oK:(x.length:Int)+y.length≤v
theorem NR {x:List ct} {v t:Int} (h:(x.map (·.sw)).Nodup) (aL: ∀l∈x,l.sw<v):((x++[ct.mk v t]).map (·.sw)).Nodup:=by
 rw[List.map_append,List.nodup_append]
 refine⟨h,by simp,fun a a3 b hb e=> ?_⟩
 obtain⟨l,hm,rfl⟩:=List.mem_map.1 a3
 have hb:b=v:=by simpa using hb
 have:=aL l hm
 omega
theorem Nv (c:a_):1≤IntKind.i64.wrap (1+cE 2 c)∧IntKind.i64.wrap (1+cE 2 c)≤2:=by
 have h:=mT 2 c
 have:=h.2 (by omega)
 rw[fw (by omega) (by omega)];omega
theorem o2.up {sw ss:List Int} {v:Int} {x y:List ct} (h:o2 sw ss v x y):o2 sw ss (v+1) x y:=
 ⟨fun l aL=>⟨⟨(h.rx l aL).1.1,by have:=(h.rx l aL).1.2;omega⟩,(h.rx l aL).2⟩,fun l aL=>⟨⟨(h.qO l aL).1.1,by have:=(h.qO l aL).1.2;omega⟩,(h.qO l aL).2⟩,h.uA,h.uB,h.wS,by have:=h.oK;omega⟩
theorem o2.aat {sw ss:List Int} {v t:Int} {x y:List ct} (h:o2 sw ss v x y) (aT:0≤v) (br:1≤t∧t≤2) (hc:ss.contains (nth sw v)=true):o2 sw ss (v+1) (x++[⟨v,t⟩]) y where
 rx:=fun l aL=>by
  rcases List.mem_append.1 aL with aL | aL
  ·exact h.up.rx l aL
  ·obtain rfl:=List.mem_singleton.1 aL;exact⟨⟨aT,by show v<v+1;omega⟩,br,hc⟩
 qO:=h.up.qO
 uA:=NR h.uA fun l aL=>(h.rx l aL).1.2
 uB:=h.uB
 wS:=fun a a3 b hb=>by
  rcases List.mem_append.1 a3 with a3 | a3
  ·exact h.wS a a3 b hb
  ·obtain rfl:=List.mem_singleton.1 a3
   have:=(h.qO b hb).1.2
   show v≠b.sw;omega
 oK:=by have:=h.oK;simp;omega
theorem o2.aau {sw ss:List Int} {v t:Int} {x y:List ct} (h:o2 sw ss v x y) (aT:0≤v) (br:1≤t∧t≤2):o2 sw ss (v+1) x (y++[⟨v,t⟩]) where
 rx:=h.up.rx
 qO:=fun l aL=>by
  rcases List.mem_append.1 aL with aL | aL
  ·exact h.up.qO l aL
  ·obtain rfl:=List.mem_singleton.1 aL;exact⟨⟨aT,by show v<v+1;omega⟩,br⟩
 uA:=h.uA
 uB:=NR h.uB fun l aL=>(h.qO l aL).1.2
 wS:=fun a a3 b hb=>by
  rcases List.mem_append.1 hb with hb | hb
  ·exact h.wS a a3 b hb
  ·obtain rfl:=List.mem_singleton.1 hb
   have:=(h.rx a a3).1.2
   show a.sw≠v;omega
 oK:=by have:=h.oK;simp;omega
theorem Bx {sw ss:List Int}: ∀{k:Nat} {v:Int} {c:a_} {x y:List ct} {q:Int},0≤v→bV (q+4*k) c→0≤q→o2 sw ss v x y→
  bV q (n9 sw ss k v c x y).1∧o2 sw ss (v+k) (n9 sw ss k v c x y).2.1 (n9 sw ss k v c x y).2.2
 | 0,v,c,x,y,q,aT,h,ak,hx=>⟨h.mono (by omega),by rw[show v+((0:Nat):Int)=v by omega];exact hx⟩
 | k+1,v,c,x,y,q,aT,h,ak,hx=>by
  have e:v+((k+1:Nat):Int)=(v+1)+(k:Nat):=by omega
  rw[e]
  unfold n9
  split
  ·rename_i hm
   rw[ux] at hm
   exact Bx (by omega) (bV.pick (h.mono (by omega)) (by omega)) ak (hx.aat aT (Nv c) hm)
  ·split
   ·exact Bx (by omega) (bV.pick (bV.pick (k:=q+4*k+2) (h.mono (by omega)) (by omega)) (by omega)) ak (hx.aau aT (Nv _))
   ·exact Bx (by omega) (bV.pick (h.mono (by omega)) (by omega)) ak hx.up
def yQ (n:Int) (sw:List Int) (c:a_):a_×List ct×List ct:=n9 sw (jG n c).2 sw.length 0 (hY n 2 (jG n c).2 (hY n 2 (jG n c).2 (jG n c).1)) [] []
def vc (n:Int) (sw:List Int) (c:a_):a_×Way:=
 ((yQ n sw c).1,Way.mk (jG n c).2 (yQ n sw c).2.1 (yQ n sw c).2.2 (hr n 2 (jG n c).2 (jG n c).1) (hr n 2 (jG n c).2 (hY n 2 (jG n c).2 (jG n c).1)))
theorem ZM {a b:List Int} (h: ∀y∈b,y ∉ a):meets a b=false:=by
 unfold meets
 rw[List.any_eq_false]
 intro x hx e
 exact h x (by simpa using e) hx
theorem aez {n:Int} {sw:List Int} {c:a_} {q:Int} (aH:1≤n) (aL:sw.length≤3) (h:bV (q+44) c) (ak:0≤q):bV q (vc n sw c).1∧ ∀p:aA,p.ah=n→p.bd=sw→gT p (vc n sw c).2=true:=by
 have h1:=Pf aH (h.mono (l:=q+32+12) (by omega)) (by omega)
 have h2:=xi (no:=(jG n c).2) aH (h1.1.mono (l:=q+22+10) (by omega)) (by omega) (m:=2) (by omega) (by omega)
 have aN:=xi (no:=(jG n c).2) aH (h2.1.mono (l:=q+12+10) (by omega)) (by omega) (m:=2) (by omega) (by omega)
 have be:=Bx (sw:=sw) (ss:=(jG n c).2) (k:=sw.length) (v:=0) (x:=[]) (y:=[]) (Int.le_refl _) (aN.1.mono (l:=q+4*(sw.length:Nat)) (by omega)) ak ⟨(by simp),(by simp),(by simp),(by simp),(by simp),(by simp)⟩
 refine⟨be.1,fun p aI hs=> ?_⟩
 have be:=be.2
 subst aI;subst hs
 have hi: ∀x:Int,0≤x∧x<p.ah→b0 x 0 (p.ah - 1)=true:=fun x hx=>iQ.2 (by omega)
 have oK:=be.oK
 rw[oj]
 refine⟨h1.2.ne,qz.2 ⟨by have:=h1.2.len;show(jG _ c).2.length≤30;omega,fun x hx=>hi x (h1.2.xb x hx),h1.2.wO⟩,qz.2 ⟨by have:=h2.2.2;show(hr _ _ _ _).length≤30;omega,fun x hx=>hi x (h2.2.1.xb x hx),h2.2.1.wO⟩,
  qz.2 ⟨by have:=aN.2.2;show(hr _ _ _ _).length≤30;omega,fun x hx=>hi x (aN.2.1.xb x hx),aN.2.1.wO⟩,mh.2 ⟨by show(n9 _ _ _ _ _ _ _).2.1.length≤30;omega,fun l qj=> ?_,be.uA⟩,mh.2 ⟨by show(n9 _ _ _ _ _ _ _).2.2.length≤30;omega,fun l qj=> ?_,be.uB⟩,BF.2 ⟨be.uA,be.uB,be.wS⟩,fun l qj=>(be.rx l qj).2.2,ZM h2.2.1.out⟩
 ·have:=be.rx l qj
  rw[Bool.and_eq_true,iQ,iQ];omega
 ·have:=be.qO l qj
  rw[Bool.and_eq_true,iQ,iQ];omega
def tk (n:Int) (sw:List Int):Nat→a_→List Way→a_×List Way
 | 0,c,x=>(c,x)
 | k+1,c,x=>tk n sw k (vc n sw c).1 (x++[(vc n sw c).2])
theorem R8 {n:Int} {sw:List Int} (aH:1≤n) (aL:sw.length≤3): ∀{k:Nat} {c:a_} {x:List Way} {q:Int},bV (q+44*k) c→0≤q→(∀w∈x,∀p:aA,p.ah=n→p.bd=sw→gT p w=true)→
  bV q (tk n sw k c x).1∧(∀w∈(tk n sw k c x).2,∀p:aA,p.ah=n→p.bd=sw→gT p w=true)∧(tk n sw k c x).2.length=x.length+k
 | 0,c,x,q,h,ak,hx=>⟨h.mono (by omega),hx,rfl⟩
 | k+1,c,x,q,h,ak,hx=>by
  have hw:=aez aH aL (h.mono (l:=q+44*k+44) (by omega)) (by omega)
  have:=R8 aH aL (k:=k) (x:=x++[(vc n sw c).2]) hw.1 ak (fun y bt=>by
   rcases List.mem_append.1 bt with bt | bt
   ·exact hx y bt
   ·obtain rfl:=List.mem_singleton.1 bt;exact hw.2)
  refine⟨this.1,this.2.1,this.2.2.trans ?_⟩
  simp;omega
def ep (c:a_):a_×List Way:=tk (di c) (gq c).2 (IntKind.i64.wrap (1+cE 5 (gq c).1)).toNat (bM 5 (gq c).1) []
theorem KA (c:a_):1≤IntKind.i64.wrap (1+cE 5 c)∧IntKind.i64.wrap (1+cE 5 c)≤5:=by
 have h:=mT 5 c
 have:=h.2 (by omega)
 rw[fw (by omega) (by omega)];omega
theorem aaj {c:a_} {q:Int} (h:bV (q+234) c) (ak:0≤q):bV q (ep c).1∧(∀w∈(ep c).2,∀p:aA,p.ah=di c→p.bd=(gq c).2→gT p w=true)∧(ep c).2.length≤5:=by
 have hs:=Oe (h.mono (l:=q+222+12) (by omega)) (by omega)
 have ci:=KA (gq c).1
 have bi:bV (q+44*((IntKind.i64.wrap (1+cE 5 (gq c).1)).toNat:Nat)) (bM 5 (gq c).1):=(bV.pick (k:=q+220) (hs.1.mono (by omega)) (by omega)).mono (by omega)
 have:=R8 (n:=di c) (sw:=(gq c).2) (by have:=BW c;omega) hs.2.2 (x:=[]) bi ak (by simp)
 exact⟨this.1,this.2.1,by show(tk _ _ _ _ _).2.length≤5;rw[this.2.2];simp;omega⟩
def pM (ws:List Way) (bs:List (List Bool)) (i:Int):Nat→Int→a_→List Bool→a_×List Bool
 | 0,_,c,r=>(c,r)
 | m+1,k,c,r=>if decide (k<i)=true then pM ws bs i m (k+1) c (r.set k.toNat (nth (nth bs k) i))
  else if(i==k)=true then pM ws bs i m (k+1) c (r.set k.toNat true)
  else if meets (nth ws i).ah (nth ws k).ah=true then pM ws bs i m (k+1) c (r.set k.toNat true)
  else pM ws bs i m (k+1) (bM 4 c) (r.set k.toNat (cE 4 c==0))
structure ts (ws:List Way) (bs:List (List Bool)) (i k:Int) (r:List Bool):Prop where
 len:r.length=ws.length
 lt: ∀j:Int,0≤j→j<k→j<i→nth r j=nth (nth bs j) i
 gt: ∀j:Int,0≤j→j<k→i<j→meets (nth ws i).ah (nth ws j).ah=true→nth r j=true
theorem ts.set {ws:List Way} {bs:List (List Bool)} {i k:Int} {r:List Bool} (h:ts ws bs i k r) (aT:0≤k) (h1:k<ws.length) {b:Bool} (hb:(k<i→b=nth (nth bs k) i)∧(i<k→meets (nth ws i).ah (nth ws k).ah=true→b=true)):ts ws bs i (k+1) (r.set k.toNat b):=by
 have aL:=h.len
 refine⟨by rw[List.length_set];exact h.len,fun j cl e5 a9=> ?_,fun j cl e5 a9 hm=> ?_⟩
 ·rw[wQ aT cl (by omega)]
  split
  ·rename_i e;subst e;exact hb.1 a9
  ·exact h.lt j cl (by omega) a9
 ·rw[wQ aT cl (by omega)]
  split
  ·rename_i e;subst e;exact hb.2 a9 hm
  ·exact h.gt j cl (by omega) a9 hm
theorem zk {ws:List Way} {bs:List (List Bool)} {i:Int}: ∀{m:Nat} {k:Int} {c:a_} {r:List Bool} {q:Int},bV (q+2*m) c→0≤q→0≤k→k+m=ws.length→ts ws bs i k r→bV q (pM ws bs i m k c r).1∧ts ws bs i ws.length (pM ws bs i m k c r).2
 | 0,k,c,r,q,h,ak,aT,he,aK=>⟨h.mono (by omega),by rw[←he,show k+((0:Nat):Int)=k by omega];exact aK⟩
 | m+1,k,c,r,q,h,ak,aT,he,aK=>by
  unfold pM
  split
  ·rename_i hk
   have hk:k<i:=by simpa using hk
   exact zk (h.mono (by omega)) ak (by omega) (by omega) (aK.set aT (by omega) ⟨fun _=>rfl,fun _=>by omega⟩)
  ·rename_i hk
   have hk: ¬k<i:=by simpa using hk
   split
   ·rename_i Lj
    have Lj:i=k:=by simpa using Lj
    exact zk (h.mono (by omega)) ak (by omega) (by omega) (aK.set aT (by omega) ⟨fun _=>by omega,fun _ _=>rfl⟩)
   ·split
    ·exact zk (h.mono (by omega)) ak (by omega) (by omega) (aK.set aT (by omega) ⟨fun _=>by omega,fun _ _=>rfl⟩)
    ·rename_i hm
     exact zk (bV.pick (h.mono (by omega)) (by omega)) ak (by omega) (by omega) (aK.set aT (by omega) ⟨fun _=>by omega,fun _ e=>absurd e hm⟩)
def zl (ws:List Way) (bs:List (List Bool)) (i:Int) (c:a_):a_×List Bool:=pM ws bs i ws.length 0 c (List.replicate (ws.length:Int).toNat false)
def tB (ws:List Way):Nat→Int→a_→List (List Bool)→a_×List (List Bool)
 | 0,_,c,bs=>(c,bs)
 | m+1,i,c,bs=>tB ws m (i+1) (zl ws bs i c).1 (bs++[(zl ws bs i c).2])
structure vi (ws:List Way) (i:Int) (bs:List (List Bool)):Prop where
 len:(bs.length:Int)=i
 row: ∀j:Int,0≤j→j<i→(nth bs j).length=ws.length
 sym: ∀a b:Int,0≤b→b<a→a<i→nth (nth bs a) b=nth (nth bs b) a
 mt: ∀a b:Int,0≤a→a<b→a<i→b<ws.length→meets (nth ws a).ah (nth ws b).ah=true→nth (nth bs a) b=true
theorem Gv {α:Type} [Inhabited α] {xs:List α} {x:α} {j:Int} (aT:0≤j):nth (xs++[x]) j=if j<xs.length then nth xs j else if j=xs.length then x else default:=by
 unfold nth
 rw[List.getD_eq_getElem?_getD,List.getD_eq_getElem?_getD]
 split
 ·rw[List.getElem?_append_left (by omega)]
 ·split
  ·rw[List.getElem?_append_right (by omega),show j.toNat - xs.length=0 by omega];rfl
  ·rw[List.getElem?_eq_none (by simp;omega)];rfl
theorem aaZ {ws:List Way} {bs:List (List Bool)} {i:Int} {c:a_} {q:Int} (h:bV (q+10) c) (ak:0≤q) (hw:ws.length≤5):bV q (zl ws bs i c).1∧ts ws bs i ws.length (zl ws bs i c).2:=
 zk (h.mono (by omega)) ak (Int.le_refl _) (by omega) ⟨by simp,fun j cl e5=>by omega,fun j cl e5=>by omega⟩
theorem vi.push {ws:List Way} {i:Int} {bs:List (List Bool)} {r:List Bool} (h:vi ws i bs) (aT:0≤i) (aK:ts ws bs i ws.length r) (hi:i<ws.length):vi ws (i+1) (bs++[r]):=by
 have aL:=h.len
 have mS: ∀j:Int,0≤j→j<i→nth (bs++[r]) j=nth bs j:=fun j cl e5=>by rw[Gv cl,if_pos (by omega)]
 have new:nth (bs++[r]) i=r:=by rw[Gv aT,if_neg (by omega),if_pos (by omega)]
 refine⟨by simp;omega,fun j cl e5=> ?_,fun a b xN CX ag=> ?_,fun a b J al ag JB hm=> ?_⟩
 ·by_cases e:j=i
  ·subst e;rw[new];exact aK.len
  ·rw[mS j cl (by omega)];exact h.row j cl (by omega)
 ·rw[mS b xN (by omega)]
  by_cases e:a=i
  ·subst e;rw[new];exact aK.lt b xN (by omega) CX
  ·rw[mS a (by omega) (by omega)];exact h.sym a b xN CX (by omega)
 ·by_cases e:a=i
  ·subst e;rw[new];exact aK.gt b (by omega) JB al hm
  ·rw[mS a (by omega) (by omega)];exact h.mt a b J al (by omega) JB hm
theorem JD {ws:List Way} (hw:ws.length≤5): ∀{m:Nat} {i:Int} {c:a_} {bs:List (List Bool)} {q:Int},bV (q+10*m) c→0≤q→0≤i→i+m=ws.length→vi ws i bs→bV q (tB ws m i c bs).1∧vi ws ws.length (tB ws m i c bs).2
 | 0,i,c,bs,q,h,ak,aT,he,hb=>⟨h.mono (by omega),by rw[←he,show i+((0:Nat):Int)=i by omega];exact hb⟩
 | m+1,i,c,bs,q,h,ak,aT,he,hb=>by
  have aK:=aaZ (ws:=ws) (bs:=bs) (i:=i) (h.mono (l:=q+10*m+10) (by omega)) (by omega) hw
  exact JD (m:=m) hw aK.1 ak (by omega) (by omega) (hb.push aT aK.2 (by omega))
def uL (c:a_):a_×List (List Bool):=tB (ep c).2 (ep c).2.length 0 (ep c).1 []
def qF (c:a_):a_:=(uL c).1
def lr (c:a_):aA:=⟨di c,(gq c).2,(ep c).2,(uL c).2,uM c⟩
def GM (c:a_):Prop:=bV 300 c
theorem aal {p:aA} (hb:kK p=true) (hs: ∀s∈p.bd,b0 s 0 (p.ah - 1)=true) (hw: ∀w∈p.O,gT p w=true) (aL:p.bU.length=p.O.length)
  (aK: ∀b∈p.bU,b.length=p.O.length) (ak: ∀i k:Nat,i<p.O.length→k<p.O.length→nK p i k=false):dQ p=true:=by
 have none: ∀{α:Type} {xs:List α} {q:α→Bool},(∀x∈xs,q x=false)→first xs q=none:=fun h=>by unfold first;rw[List.findIdx?_eq_none_iff];exact h
 have:hG p=⟨0,0⟩:=by
  rw[GK hb (none fun s m=>by rw[hs s m];rfl) (none fun w m=>by rw[hw w m];rfl)]
  refine GI aL (none fun b m=>by rw[aK b m];simp) (none fun i m=> ?_)
  rw[List.any_eq_false]
  intro k hk
  rw[ak i k (List.mem_range.1 m) (List.mem_range.1 hk)];simp
 unfold dQ;rw[this];rfl
theorem Ol {c:a_} {q:Int} (h:bV (q+300) c) (ak:0≤q):bV q (qF c)∧dQ (lr c)=true:=by
 have mJ:=BW c
 have aR:=aai c
 have h1:=Oe (h.mono (l:=q+288+12) (by omega)) (by omega)
 have h2:=aaj (h.mono (l:=q+66+234) (by omega)) (by omega)
 have aN:=JD h2.2.2 (m:=(ep c).2.length) (i:=0) (bs:=[]) (q:=q) (h2.1.mono (by have:=h2.2.2;omega)) ak (Int.le_refl _) (by omega) ⟨rfl,fun j cl e5=>by omega,fun a b xN CX ag=>by omega,fun a b J al ag=>by omega⟩
 refine⟨aN.1,?_⟩
 have dV:vi (ep c).2 (ep c).2.length (uL c).2:=aN.2
 have hlen:=dV.len
 refine aal (rV.2 ⟨by show 1≤di c∧di c≤60;omega,by show 1≤uM c∧uM c≤300;omega,by have:=h1.2.2;show(gq c).2.length≤40;omega,by have:=h2.2.2;show(ep c).2.length≤100;omega⟩) (fun s hs=>iQ.2 ?_) (fun w hw=>h2.2.1 w hw _ rfl rfl) (by show(uL c).2.length=(ep c).2.length;omega) (fun b hb=> ?_) fun i k hi hk=> ?_
 ·have:=h1.2.1 s hs
  show 0≤s∧s≤di c - 1;omega
 ·obtain⟨j,aM,rfl⟩:=List.mem_iff_getElem.1 hb
  have n3:j<(uL c).2.length:=aM
  have:=dV.row j (by omega) (by omega)
  rw[iT n3] at this;exact this
 ·have hi:i<(ep c).2.length:=hi
  have hk:k<(ep c).2.length:=hk
  have ow: ∀a b:Nat,rb (lr c) a b=nth (nth (uL c).2 a) b:=fun _ _=>rfl
  have aeG: ∀a:Nat,(lr c).O=(ep c).2:=fun _=>rfl
  unfold nK
  rw[ow,ow,aeG 0]
  rcases Nat.lt_trichotomy i k with bf | rfl | po
  ·have hs:=dV.sym k i (by omega) (by omega) (by omega)
   have hm:=dV.mt i k (by omega) (by omega) (by omega) (by omega)
   rw[hs]
   cases e:meets (nth (ep c).2 i).ah (nth (ep c).2 k).ah with
   | true=>rw[hm e];simp
   | false=>simp
  ·simp
  ·have hs:=dV.sym i k (by omega) (by omega) (by omega)
   have hm:=dV.mt k i (by omega) (by omega) (by omega) (by omega)
   rw[hs]
   cases e:meets (nth (ep c).2 i).ah (nth (ep c).2 k).ah with
   | true=>rw[NG] at e;rw[hm e];simp
   | false=>simp
def qN (p:aA) (f:Frame) (c:a_):Event×a_:=
 bif cE 30 (eA p f c)==0 then(iy p (bM 30 (eA p f c)),oM p (bM 30 (eA p f c))) else(ff p f c,bM 30 (eA p f c))
def r3 (p:aA):Nat→Frame→a_→List Event→a_×List Event
 | 0,_,c,x=>(c,x)
 | k+1,f,c,x=>r3 p k (xj p f (qN p f c).1).frame (qN p f c).2 (x++[(qN p f c).1])
def DD (p:aA) (m:Int) (c:a_):a_×List Event:=r3 p (cE m c).toNat (eI p) (bM m c) []
def xY (p:aA) (m:Int) (c:a_):a_:=(DD p m c).1
def si (p:aA) (m:Int) (c:a_):List Event:=(DD p m c).2
def Ao (p:aA) (m:Int) (c:a_):Prop:=dQ p=true∧bV 1000 c∧1≤m∧m≤50
theorem aa1 {p:aA} {f:Frame} {c:a_} {k:Int} (h:bV (k+20) c) (hk:0≤k):bV k (qN p f c).2:=by
 have h1:=Kl (p:=p) (f:=f) (h.mono (l:=k+10+10) (by omega)) (by omega)
 have h2:=bV.pick (n:=30) (h1.mono (l:=k+8+2) (by omega)) (by omega)
 unfold qN
 cases cE 30 (eA p f c)==0 with
 | true=>exact Z0 (p:=p) h2 hk
 | false=>exact h2.mono (by omega)
theorem O5 {p:aA} {f:Frame} {d vC:a_} {x:List Event} {v:Int} {R:a_×List Event} {e:Event} (hf:eV p f=true) (aT:0<v) (bi:bV (20*v) d) (he:r3 p v.toNat f d x=R) (hN:qN p f d=(e,vC)):
  bV (20*(v - 1)) vC∧(((gf p f e).code !=1)=true→eV p (gf p f e).frame=true∧r3 p (v - 1).toNat (gf p f e).frame vC (x++[e])=R)∧(((gf p f e).code !=1)=false→r3 p (v - 1).toNat f vC (x++[e])=R):=by
 have h1:=aa1 (p:=p) (f:=f) (bi.mono (l:=20*(v - 1)+20) (by omega)) (by omega)
 have h2:=(RJ (e:=e) hf).2
 rw[show v.toNat=(v - 1).toNat+1 by omega] at he
 unfold r3 at he
 rw[hN] at h1 he
 refine⟨h1,fun hc=> ?_,fun hc=> ?_⟩
 ·have hc:(gf p f e).code≠1:=by simpa using hc
  unfold xj at h2 he
  rw[if_neg hc] at h2 he
  exact⟨h2,he⟩
 ·have hc:(gf p f e).code=1:=by simpa using hc
  unfold xj at he
  rw[if_pos hc] at he
  exact he
theorem O0 (p:aA): ∀(k:Nat) (f:Frame) (c:a_) (x:List Event),(r3 p k f c x).2.length=x.length+k
 | 0,_,_,x=>rfl
 | k+1,f,c,x=>(O0 p k _ _ _).trans (by simp;omega)
theorem T2 {p:aA} {c:a_} {m:Int} (h1:1≤m) (h2:m≤50):(si p m c).length≤49:=by
 have:=(mT m c).2 h1
 show(r3 p _ _ _ _).2.length≤49
 rw[O0];simp;omega
theorem GB {p:aA} {f:Frame} (h:eV p f=true):jr f:=by
 have hf:=(rq h).fr
 have aI:=(rq h).in
 have aC:=hf.aw
 have ak:=hf.au
 have hw:=hf.O
 have h1:=aI.cR
 have h2:=aI.O
 have aN:=aI.sw
 refine⟨by omega,by omega,by omega,fun h hm=> ?_⟩
 obtain⟨i,hi,rfl⟩:=List.mem_iff_getElem.1 hm
 have hb:=hf.ac i f.O[i] (p.O[i]'(by omega)) (List.getElem?_eq_getElem hi) (List.getElem?_eq_getElem (by omega))
 have:=(aI.ah _ (List.getElem_mem (l:=p.O) (n:=i) (by omega))).2.1
 omega
def vE (code:List UInt8):a_:=⟨code,0,0⟩
def o8 (code:List UInt8):aA×List Event:=(lr (vE code),si (lr (vE code)) 50 (qF (vE code)))
theorem DA (code:List UInt8):bV 1300 (vE code):=⟨Int.le_refl _,by show(0:Int)+1300≤_;omega⟩
theorem J0 (code:List UInt8):dQ (o8 code).1=true:=(Ol (q:=1000) (DA code) (by omega)).2
theorem TY (code:List UInt8):Ao (lr (vE code)) 50 (qF (vE code)):=⟨J0 code,(Ol (q:=1000) (DA code) (by omega)).1,by omega,by omega⟩
theorem TX (code:List UInt8):(o8 code).2.length≤49:=T2 (by omega) (by omega)
def te (p:aA) (f:Frame) (e:Event):fA:=if eU p e=true then gW p f e else⟨1,f⟩
def y8 (f:Frame) (R:List fA):Nat→Frame
 | 0=>f
 | k+1=>(nth R (k:Int)).frame
theorem Gw {α:Type} [Inhabited α] (x:α) (xs:List α) (k:Nat):nth (x::xs) ((k+1:Nat):Int)=nth xs (k:Int):=by
 unfold nth;rw[Int.toNat_natCast,Int.toNat_natCast];rfl
theorem Hf (p:aA) (f:Frame) (e:Event) (es:List Event):jq p f (e::es)=te p f e::jq p (te p f e).frame es:=by
 unfold te
 by_cases h:eU p e=true
 ·rw[if_pos h];simp only[jq,if_pos h]
 ·rw[if_neg h];simp only[jq,if_neg h]
theorem RG {p:aA} {f:Frame} {e:Event} (h:eV p f=true):eV p (te p f e).frame=true:=by
 have:=RJ (e:=e) h
 rw[this.1] at this;exact this.2
theorem Hh {p:aA}: ∀(es:List Event) {f:Frame},eV p f=true→ ∀k:Nat,k<es.length→eV p (y8 f (jq p f es) k)=true∧nth (jq p f es) (k:Int)=te p (y8 f (jq p f es) k) (nth es (k:Int))
 | [],f,h,k,hk=>by simp at hk
 | e::es,f,h,0,hk=>by rw[Hf];exact⟨h,rfl⟩
 | e::es,f,h,k+1,hk=>by
  have bR:=Hh es (RG (e:=e) h) k (by simpa using hk)
  have aI:y8 f (jq p f (e::es)) (k+1)=y8 (te p f e).frame (jq p (te p f e).frame es) k:=by
   rw[Hf]
   cases k with
   | zero=>rfl
   | succ j=>show(nth ((_:fA)::_) ((j+1:Nat):Int)).frame=_;rw[Gw];rfl
  rw[aI,Hf,Gw,Gw]
  exact bR
def hU (code:List UInt8):aA:=(o8 code).1
def n8 (code:List UInt8):List Event:=(o8 code).2
def gG (code:List UInt8):List fA:=r2 (hU code) (n8 code)
def BX (code:List UInt8) (v:Int):Frame:=y8 (eI (hU code)) (gG code) v.toNat
section
variable (code:List UInt8)
theorem GF:dQ (hU code)=true:=J0 code
theorem Zc:(n8 code).length≤49:=TX code
theorem G6:gG code=jq (hU code) (eI (hU code)) (n8 code):=by
 have:=Zc code
 unfold gG r2
 rw[if_pos ⟨GF code,by omega⟩]
theorem aaI:(gG code).length=(n8 code).length:=by rw[G6];exact Ci ..
end
section
variable {code:List UInt8} {v:Int}
theorem aap (aT:0≤v) (h1:v.toNat<(n8 code).length):eV (hU code) (BX code v)=true:=by
 unfold BX;rw[G6];exact(Hh _ (CZ (GF code)) _ h1).1
theorem aaJ (aT:0≤v) (h1:v.toNat<(n8 code).length):nth (gG code) v=te (hU code) (BX code v) (nth (n8 code) v):=by
 have:=(Hh (n8 code) (CZ (GF code)) _ h1).2
 rw[jD aT,jD aT] at this
 unfold BX;rw[G6];exact this
theorem aaK (aT:0≤v) (h1:v.toNat<(n8 code).length):eV (hU code) (nth (gG code) v).frame=true:=by
 rw[aaJ aT h1];exact RG (aap aT h1)
end
theorem UA {p:aA} {f:Frame} (h:eV p f=true) {i:Int} (i0:0≤i) (i1:i<f.O.length):iW p f i.toNat (nth f.O i)=nth f.O i:=by
 rw[←Hs i0 i1,(GA h).2]
theorem Tw {p:aA} {f:Frame} (h:eV p f=true) {i:Int} (i0:0≤i) (i1:i<f.O.length) (hs:(nth f.O i).ar=2):fi p f i=true:=by
 have e:=UA h i0 i1
 by_cases aC:dW f (nth (nth p.O i.toNat).ah 0)=true
 ·rw[ID (by omega) (by omega) aC] at e
  have e2:=congrArg ae.ar e
  rcases Ob (nth p.O i.toNat).ah f {nth f.O i with ar:=4,ap:=0} rfl with q | q
  ·rw[q,hs] at e2;cases e2
  ·rw[q.1,hs] at e2;cases e2
 ·by_cases aI:fi p f i.toNat=true
  ·rwa [Int.toNat_of_nonneg i0] at aI
  ·rw[Cw (.inr hs) (by simpa using aC) (by simpa using aI)] at e
   have e2:=congrArg ae.ar e
   rw[hs] at e2;cases e2
theorem aar {p:aA} {f:Frame} {i:Int} (h:fi p f i=true):fX f (nth p.O i).ah=false:=by
 unfold fi at h
 simp only[Bool.and_eq_true,Bool.not_eq_true'] at h
 exact h.1.2
theorem ab5 {f:Frame} {l:List Int} (h:fX f l=false) {x:Int} (hx:x∈l):nth f.aw x=false:=by
 unfold fX at h
 rw[List.any_eq_false] at h
 simpa[dW] using h x hx
end Go.Proofs.Ytglpfccgmfhkdaa.Fw
set_option linter.unusedVariables false
set_option maxRecDepth 100000
set_option maxHeartbeats 4000000
set_option linter.unusedSimpArgs false
namespace Go.Proofs.Ytglpfccgmfhkdaa.Fw
open Go
attribute [local irreducible] evS evSD WpS Weak Oper.looksAt
def acw (J:Int) (M:Int) (U:Int) (an:Bool):Prop:=
 ((decide (J ≥ M))&&(decide (J≤U)))=an
theorem HX (J:Int) (M:Int) (U:Int):bZ Try.prog 67 [ag J,ag M,ag U] (al (b0 J M U)):=(fun(h:acw J M U (b0 J M U))=>bZ.run (ps:=[.int,.int,.int]) (rs:=[.bool]) (x:=(J,M,U,())) (r:=((b0 J M U),())) ⟨15,ec,[]⟩ ⟨[],[],[],[],[]⟩ .nil Try.func67 h) (by
 rfl)
def zx:eg Try.prog:=⟨67,[.int,.int,.int],[.bool],none,fun x=>((b0 x.1 x.2.1 x.2.2.1),()),fun x h=>HX x.1 x.2.1 x.2.2.1⟩
def P6 (ay:Int→Prop) (aB:Int→Nat) (aS:Int→Int→Prop) (aU:Int→Int→Nat) (J M:(List Int)) (an:Bool) (v11:Int):Prop:=
  aS v11 0∧ ∀(eD:Int),aS v11 eD→(((decide (eD<(M.length:Int)))=false→ay (IntKind.i64.wrap (v11+1))∧aB (IntKind.i64.wrap (v11+1))<aB v11)∧((decide (eD<(M.length:Int)))=true→((0≤eD∧eD.toNat<M.length)∧(((nth J v11)==(nth M eD))=true→true=an))∧((!((nth J v11)==(nth M eD)))=true→aS v11 (IntKind.i64.wrap (eD+1))∧aU v11 (IntKind.i64.wrap (eD+1))<aU v11 eD)))
def P5 (J:(List Int)) (M:(List Int)) (an:Bool) (ay:Int→Prop) (aB:Int→Nat) (aS:Int→Int→Prop) (aU:Int→Int→Nat):Prop:=
 J.length≤4611686018427387904→ay 0∧ ∀(v11:Int),ay v11→(((decide (v11<(J.length:Int)))=false→false=an)∧((decide (v11<(J.length:Int)))=true→(0≤v11∧v11.toNat<J.length)∧(M.length≤4611686018427387904→P6 ay aB aS aU J M an v11)))
theorem acD (J:(List Int)) (M:(List Int)):bZ Try.prog 69 [bK c0 J,bK c0 M] (al (meets J M)):=(fun(ay:Int→Prop) (aB:Int→Nat) (aS:Int→Int→Prop) (aU:Int→Int→Nat) (h:P5 J M (meets J M) ay aB aS aU)=>bZ.run (ps:=[(.l .int),(.l .int)]) (rs:=[.bool]) (x:=(J,M,())) (r:=((meets J M),())) ⟨26,ec,[]⟩ ⟨[],[],[],[],[]⟩ (eP [1,9,10] [] 11 ay aB fun aW=>(eP [1,6,9,10,11,15,16] [] 17 (aS aW) (aU aW) fun _=> .nil)) Try.func69 h) (cr J.length (fun j=>fJ M (nth J j))) (cA J.length) (fun v=>cr M.length (fun k=>nth J v==nth M k)) (fun v=>cA M.length) (by
 unfold P5 P6
 intro aH
 refine⟨c7 (dh _),fun v aZ=>⟨fun hv=> ?_,fun hv=>⟨ca aZ hv,fun hm=>⟨c7 (dh _),fun k hK=>⟨fun hk=> ?_,fun hk=>⟨⟨ca hK hk,fun aI=> ?_⟩,fun aI=>cI (cv hm) hK hk (not_eq aI)⟩⟩⟩⟩⟩⟩
 ·exact(zJ (q:=fun x=>fJ M x) aZ hv).symm
 ·exact cI (cv aH) aZ hv (V1 (gH hK hk))
 ·exact(CE (q:=fun x=>fJ M x) aZ hv (V5 (ca hK hk).2 aI)).symm)
def zy:eg Try.prog:=⟨69,[(.l .int),(.l .int)],[.bool],none,fun x=>((meets x.1 x.2.1),()),fun x h=>acD x.1 x.2.1⟩
def PG (J:(List Int)) (M:Int) (an:Int) (ay:Int→Prop) (aB:Int→Nat):Prop:=
 J.length≤4611686018427387904→ay 0∧ ∀(cT:Int),ay cT→(((decide (cT<(J.length:Int)))=false→(-1)=an)∧((decide (cT<(J.length:Int)))=true→((0≤cT∧cT.toNat<J.length)∧((M==(nth J cT))=true→cT=an))∧((!(M==(nth J cT)))=true→ay (IntKind.i64.wrap (cT+1))∧aB (IntKind.i64.wrap (cT+1))<aB cT)))
theorem abX (J:(List Int)) (M:Int):bZ Try.prog 161 [bK c0 J,ag M] (ag (nm J M)):=(fun(ay:Int→Prop) (aB:Int→Nat) (h:PG J M (nm J M) ay aB)=>bZ.run (ps:=[(.l .int),.int]) (rs:=[.int]) (x:=(J,M,())) (r:=((nm J M),())) ⟨19,ec,[]⟩ ⟨[],[],[],[],[]⟩ (eP [0,1,7] [] 8 ay aB fun _=> .nil) Try.func161 h) (cr J.length (fun j=>M==nth J j)) (cA J.length) (by
 unfold PG
 intro aH
 refine⟨c7 (dh _),fun v aZ=>⟨fun hv=> ?_,fun hv=>⟨⟨ca aZ hv,fun aI=> ?_⟩,fun aI=>cI (cv aH) aZ hv (not_eq aI)⟩⟩⟩
 ·unfold nm;rw[pS (q:=fun x=>M==x) aZ hv];rfl
 ·unfold nm;rw[pR (q:=fun x=>M==x) aZ hv aI]
  have:=aZ.1
  show v=(v.toNat:Int)
  omega)
def PH:eg Try.prog:=⟨161,[(.l .int),.int],[.int],none,fun x=>((nm x.1 x.2.1),()),fun x h=>abX x.1 x.2.1⟩
def Pt (J:(List Int)) (M:Int) (an:Bool):Prop:=
 (decide ((nm J M) ≥ 0))=an
theorem abJ (J:(List Int)) (M:Int):bZ Try.prog 130 [bK c0 J,ag M] (al (fJ J M)):=(fun(h:Pt J M (fJ J M))=>bZ.run (ps:=[(.l .int),.int]) (rs:=[.bool]) (x:=(J,M,())) (r:=((fJ J M),())) ⟨9,ec,[PH]⟩ ⟨[],[],[],[],[]⟩ .nil Try.func130 h) (by
 unfold Pt
 exact Xv J M)
def Cp:eg Try.prog:=⟨130,[(.l .int),.int],[.bool],none,fun x=>((fJ x.1 x.2.1),()),fun x h=>abJ x.1 x.2.1⟩
def MA (J:(List Int)) (M:(List Int)) (an:Bool) (ay:Int→Prop) (aB:Int→Nat):Prop:=
 J.length≤4611686018427387904→ay 0∧ ∀(b5:Int),ay b5→(((decide (b5<(J.length:Int)))=false→false=an)∧((decide (b5<(J.length:Int)))=true→((0≤b5∧b5.toNat<J.length)∧((fJ M (nth J b5))=true→true=an))∧((!(fJ M (nth J b5)))=true→ay (IntKind.i64.wrap (b5+1))∧aB (IntKind.i64.wrap (b5+1))<aB b5)))
theorem Yt (J:(List Int)) (M:(List Int)):bZ Try.prog 74 [bK c0 J,bK c0 M] (al (meets J M)):=(fun(ay:Int→Prop) (aB:Int→Nat) (h:MA J M (meets J M) ay aB)=>bZ.run (ps:=[(.l .int),(.l .int)]) (rs:=[.bool]) (x:=(J,M,())) (r:=((meets J M),())) ⟨17,ec,[Cp]⟩ ⟨[],[],[],[],[]⟩ (eP [1,7,8] [] 9 ay aB fun _=> .nil) Try.func74 h) (cr J.length (fun j=>fJ M (nth J j))) (cA J.length) (by
 unfold MA
 intro aH
 refine⟨c7 (dh _),fun v aZ=>⟨fun hv=> ?_,fun hv=>⟨⟨ca aZ hv,fun aI=> ?_⟩,fun aI=>cI (cv aH) aZ hv (not_eq aI)⟩⟩⟩
 ·exact(zJ (q:=fun x=>fJ M x) aZ hv).symm
 ·exact(CE (q:=fun x=>fJ M x) aZ hv aI).symm)
def FJ:eg Try.prog:=⟨74,[(.l .int),(.l .int)],[.bool],none,fun x=>((meets x.1 x.2.1),()),fun x h=>Yt x.1 x.2.1⟩
noncomputable def abt:Code:=iw Try.f158
def Hu (J:(List ct)) (an:(List ct)):Prop:=
 (J≠[]→(J.length*16≤140737488355328∧J.length≤4611686018427387904)∧(J=an))∧(J=[]→ ∀db:Bool,(db=true→[]=an)∧(db=false→(J.length*16≤140737488355328∧J.length≤4611686018427387904)∧(J=an)))
theorem abu (J:(List ct)) (an:(List ct)) (h:Hu J an):dz Try.prog 158 [bK dd J] [] (fun r H=>r=aj 0 0 an.length∧H=[⟨0,2,List.map dd an⟩]):=by
 refine dz.toOwn ?_
 unfold Hu at h
 refine dz.go (fn:=Try.f158) [(0,bK dd J)] Try.func158 (fun _ _=> ?_)
 show WpS _ (bT abt 1) _ ⟨bh 8 [(0,bK dd J)],[],[]⟩
 refine dX [] 0 [(2,aF)] [] [1] ?_
 refine hB ?_
 refine hB ?_
 refine bL [] 1 ?_
 refine Hk 2 (some 4) [(3,bK dd J)] dd J (fun hx=> ?_) (fun hx db=> ?_)
 ·
  replace h:=h.1 hx
  refine dM [] ?_
  refine dR.normal ?_
  refine sg (.tmp 4) false (fun q3=> ?_) (fun q3=> ?_)
  ·
   cases q3
  ·
   refine eb ?_
   refine dR.normal ?_
   obtain⟨cV,h⟩:=h
   refine jO ⟨(bh 8 [(2,aj 0 0 J.length)]),[],[⟨0,2,List.map dd J⟩]⟩ (True) ?_ (fun q4=> ?_)
   ·
    replace h:=cV
    refine bL [] 3 ?_
    have cH:=h
    refine s7 3 (some 7) [(6,bK dd J),(5,aF)] dd J (lv false (List.map dd J)) 0 2 16 (fun r=>[⟨0,2,r⟩]) rfl cH ?_
    exact b1 [(2,aj 0 0 J.length)] trivial
   refine hj ?_
   refine mo (aj 0 0 J.length) [aj 0 0 J.length] ?_
   exact⟨oU [some 0],qD [some 0] rfl (by decide) ⟨rfl,(qM (b:=0) (g:=0) (sz:=2) (xs:=J) (ys:=an) rfl NX h),trivial⟩,(.inr (uE (by simp) rfl rfl (by have:=congrArg List.length h;simpa using this)))⟩
 ·
  replace h:=h.2 hx db
  refine dM [] ?_
  refine dR.normal ?_
  refine sg (.tmp 4) db (fun fE=> ?_) (fun fE=> ?_)
  ·
   replace h:=h.1 fE
   refine jO ⟨(bh 8 [(2,aF)]),[],[]⟩ (True) ?_ (fun ft=> ?_)
   ·
    refine bL [] 2 ?_
    exact b1 [(2,aF)] trivial
   refine hj ?_
   refine dR.ret ?_
   refine mo (aF) [aF] ?_
   exact⟨oU [none],qD [none] rfl (by decide) ⟨rfl,trivial,trivial⟩,(.inr (GD (by simp) rfl rfl (by rw[←h];rfl)))⟩
  ·
   replace h:=h.2 fE
   refine eb ?_
   refine dR.normal ?_
   obtain⟨ik,h⟩:=h
   refine jO ⟨(bh 8 [(2,aj 0 0 J.length)]),[],[⟨0,2,List.map dd J⟩]⟩ (True) ?_ (fun iA=> ?_)
   ·
    replace h:=ik
    refine bL [] 3 ?_
    have gP:=h
    refine s7 3 (some 7) [(6,bK dd J),(5,aF)] dd J (lv false (List.map dd J)) 0 2 16 (fun r=>[⟨0,2,r⟩]) rfl gP ?_
    exact b1 [(2,aj 0 0 J.length)] trivial
   refine hj ?_
   refine mo (aj 0 0 J.length) [aj 0 0 J.length] ?_
   exact⟨oU [some 0],qD [some 0] rfl (by decide) ⟨rfl,(qM (b:=0) (g:=0) (sz:=2) (xs:=J) (ys:=an) rfl NX h),trivial⟩,(.inr (uE (by simp) rfl rfl (by have:=congrArg List.length h;simpa using this)))⟩
theorem abr (J:(List ct)) (aI:small J):dz Try.prog 158 [bK dd J] [] (fun r H=>r=aj 0 0 (aa J).length∧H=[⟨0,2,List.map dd (aa J)⟩]):=abu J (aa J) (by
 have aI:J.length≤1048576:=aI
 unfold Hu
 refine⟨fun h=>⟨⟨by omega,by omega⟩,rfl⟩,fun h b=>⟨fun _=> ?_,fun _=>⟨⟨by omega,by omega⟩,rfl⟩⟩⟩
 exact h.symm)
noncomputable def MC:Code:=iw Try.f123
def Yu:List Item:=[aq 0,aq 1,aq 3,aq 4,⟨2,true,false,[3,4]⟩,⟨5,true,false,[]⟩,aq 6]
def Yv:List (List Nat):=[[],[0],[0,1],[],[3],rg 0 5,rg 0 6]
def FK (J:Way) (an:(List ct)):Prop:=
 ((small J.a2)∧(((aa J.a2).length+J.bA.length)*16≤140737488355328∧(aa J.a2).length+J.bA.length≤4611686018427387904))∧(((aa J.a2)++J.bA).length≤4611686018427387904∧((aa J.a2)++J.bA)=an)
theorem Yw (J:Way) (an:(List ct)) (h:FK J an):bZ Try.prog 123 [.agg (dk false J)] (hh dd an):=by
 unfold FK at h
 refine dz.go (fn:=Try.f123) [(0,.agg (dk false J))] Try.func123 (fun _ _=> ?_)
 show WpS _ (bT MC 1) _ ⟨bh 9 [(0,.agg (dk false J))],[],[]⟩
 refine p6 [] 0 [(2,aF),(1,az 1 0)] [0,1,1] [] [(1,(dk false J))] [] ?_
 obtain⟨cH,h⟩:=h
 refine eX [(2,aj 0 1 ((aa J.a2)++J.bA).length)] [] id (fun _=>[⟨1,2,List.map dd ((aa J.a2)++J.bA)⟩]) (True) ?_ (fun q2=> ?_)
 ·
  replace h:=cH
  refine m0 [] 1 Yu Yv [] ?_
  obtain⟨q3,h⟩:=h
  refine Cy 5 (some 5) [(7,bK dd J.bA),(6,az 1 2),(4,bK dd J.a2),(3,az 1 1)] [bK dd J.a2] (fun L H=>pa Try.prog (iU MC 6) [3,4] [(7,bK dd J.bA),(6,az 1 2),(4,bK dd J.a2),(3,az 1 1),(1,az 1 0)] L H) (aj 0 0 (aa J.a2).length) [⟨0,2,List.map dd (aa J.a2)⟩] (abr J.a2 q3) (aD.cons (c3.hT cz) aD.nil) (qC (fun _=>rfl) rfl) (qS (qR (fun _=>rfl) rfl) (by kernel_rfl)) (sQ (ψ:=((true=true∧true=true∧((az 1 2:AV)=az 1 2))∧((true=true∧true=true∧((bK dd J.bA:AV)=bK dd J.bA))∧True))) (by kernel_rfl) ⟨⟨rfl,rfl,rfl⟩,⟨⟨rfl,rfl,rfl⟩,trivial⟩⟩) ?_
  have q4:=h
  refine aem 1 (some 8) [] dd (aa J.a2) J.bA (lv false (List.map dd J.bA)) 0 0 2 16 (fun _=>True) (fun r=>[⟨1,2,r⟩]) rfl q4 trivial ?_
  exact kM [(2,aj 0 1 ((aa J.a2)++J.bA).length)] trivial
 exact hj (m1 (aj 0 1 ((aa J.a2)++J.bA).length) (h_.hT (qT (sz:=2) (by simp) rfl (JG) h)))
theorem MB (J:Way) (aI:w1 J):bZ Try.prog 123 [.agg (dk false J)] (hh dd (bz J)):=Yw J (bz J) (by
 obtain⟨h1,h2⟩:=aI
 unfold FK aa small
 exact⟨⟨h1,by omega,by omega⟩,by rw[List.length_append];omega,rfl⟩)
def FL:eg Try.prog:=⟨123,[.j4],[(.l .bn)],some fun x=>w1 x.1,fun x=>((bz x.1),()),fun x h=>MB x.1 h⟩
def YU:List Item:=[aq 0,aq 1,aq 2,aq 3,aq 4,aq 5,aq 6,aq 7]
def YV:List (List Nat):=[[],[],[0,1],[],[],[3,4],[3,4,5],rg 0 7]
def MV (ay:Int→Prop) (aB:Int→Nat) (J:(List Int)) (an:Bool):Prop:=
  J.length≤4611686018427387904→ay 0∧ ∀(v6:Int),ay v6→(((decide (v6<(J.length:Int)))=false→false=an)∧((decide (v6<(J.length:Int)))=true→(((0≤v6∧v6≤(J.length:Int))∧(0≤v6∧v6.toNat<J.length))∧((fJ (J.take v6.toNat) (nth J v6))=true→true=an))∧((!(fJ (J.take v6.toNat) (nth J v6)))=true→ay (IntKind.i64.wrap (v6+1))∧aB (IntKind.i64.wrap (v6+1))<aB v6)))
def MU (J:(List Int)) (an:Bool) (ay:Int→Prop) (aB:Int→Nat):Prop:=
 MV ay aB J an
theorem YS (J:(List Int)):bZ Try.prog 129 [bK c0 J] (al (dup J)):=(fun(ay:Int→Prop) (aB:Int→Nat) (h:MU J (dup J) ay aB)=>bZ.run (ps:=[(.l .int)]) (rs:=[.bool]) (x:=(J,())) (r:=((dup J),())) ⟨18,ec,[Cp]⟩ ⟨[],[(4,YU,YV)],[],[],[]⟩ (eP [0,5] [] 6 ay aB fun _=> .nil) Try.func129 h) (cr J.length (fun j=>fJ (J.take j.toNat) (nth J j))) (cA J.length) (by
 unfold MU MV
 intro aH
 refine⟨c7 (dh _),fun v aZ=>⟨fun hv=> ?_,fun hv=>⟨⟨⟨⟨aZ.1,aZ.2.1⟩,ca aZ hv⟩,fun aI=> ?_⟩,fun aI=>cI (cv aH) aZ hv (not_eq aI)⟩⟩⟩
 ·exact(J2 (gH aZ hv)).symm
 ·exact(T3 (ca aZ hv).1 (ca aZ hv).2 aI).symm)
def YT:eg Try.prog:=⟨129,[(.l .int)],[.bool],none,fun x=>((dup x.1),()),fun x h=>YS x.1⟩
def P4 (ay:Int→Prop) (aB:Int→Nat) (aS:Int→Int→Prop) (aU:Int→Int→Nat) (J:(List Int)) (M:Int) (an:Bool) (v10:Int):Prop:=
  ((!(b0 (nth J v10) 0 (IntKind.i64.wrap (M - 1))))=true→false=an)∧((!(!(b0 (nth J v10) 0 (IntKind.i64.wrap (M - 1)))))=true→aS v10 0∧ ∀(fb:Int),aS v10 fb→(((decide (fb<v10))=false→ay (IntKind.i64.wrap (v10+1))∧aB (IntKind.i64.wrap (v10+1))<aB v10)∧((decide (fb<v10))=true→((0≤fb∧fb.toNat<J.length)∧(((nth J fb)==(nth J v10))=true→false=an))∧((!((nth J fb)==(nth J v10)))=true→aS v10 (IntKind.i64.wrap (fb+1))∧aU v10 (IntKind.i64.wrap (fb+1))<aU v10 fb))))
def P3 (J:(List Int)) (M:Int) (an:Bool) (ay:Int→Prop) (aB:Int→Nat) (aS:Int→Int→Prop) (aU:Int→Int→Nat):Prop:=
 J.length≤4611686018427387904→ay 0∧ ∀(v10:Int),ay v10→(((decide (v10<(J.length:Int)))=false→(decide ((J.length:Int)≤30))=an)∧((decide (v10<(J.length:Int)))=true→(0≤v10∧v10.toNat<J.length)∧(P4 ay aB aS aU J M an v10)))
theorem acB (J:(List Int)) (M:Int) (aI:y7 J M):bZ Try.prog 126 [bK c0 J,ag M] (al (hn J M)):=(fun(ay:Int→Prop) (aB:Int→Nat) (aS:Int→Int→Prop) (aU:Int→Int→Nat) (h:P3 J M (hn J M) ay aB aS aU)=>bZ.run (ps:=[(.l .int),.int]) (rs:=[.bool]) (x:=(J,M,())) (r:=((hn J M),())) ⟨35,ec,[zx]⟩ ⟨[33],[],[],[],[]⟩ (eP [0,1,8,9] [] 10 ay aB fun aW=>(eP [0,1,5,6,8,9,10] [] 7 (aS aW) (aU aW) fun _=> .nil)) Try.func126 h) (cr J.length (fun j=> !b0 (nth J j) 0 (M - 1) || fJ (J.take j.toNat) (nth J j))) (cA J.length) (fun v=>cr v (fun k=>nth J k==nth J v)) (fun v=>cA v) (by
 have aI: -9223372036854775808<M∧M≤9223372036854775807:=aI
 unfold P3 P4
 intro aH
 refine⟨c7 (dh _),fun v aZ=>⟨fun hv=> ?_,fun hv=>⟨ca aZ hv,?_⟩⟩⟩
 ·exact(NM 30).trans (Zy (gH aZ hv)).symm
 ·have hi:=ca aZ hv
  rw[fw (by omega) (by omega)]
  refine⟨fun h=>(Nx hi.2 h).symm,fun aK=>⟨c7 aZ.1,fun k hK=>⟨fun hk=> ?_,fun hk=> ?_⟩⟩⟩
  ·refine cI (cv aH) aZ hv ?_
   rw[V4 aZ.1 (by simpa using hv) (gH hK hk),Bool.or_false]
   exact not_eq aK
  ·have jy:k<v:=by simpa using hk
   have:=hK.1
   exact⟨⟨⟨by omega,by omega⟩,fun he=>(Zx hK.1 jy (by omega) he).symm⟩,fun he=>cI (by omega) hK hk (not_eq he)⟩)
def acC:eg Try.prog:=⟨126,[(.l .int),.int],[.bool],some fun x=>y7 x.1 x.2.1,fun x=>((hn x.1 x.2.1),()),fun x h=>acB x.1 x.2.1 h⟩
def acz:List Item:=[aq 0,aq 1,aq 2,aq 3,aq 4,aq 5,aq 6,aq 7]
def acA:List (List Nat):=[[],[],[0,1],[0,1,2],rg 0 4,[],[5],rg 0 7]
def P1 (ay:Int→Prop) (aB:Int→Nat) (aS:Int→Int→Prop) (aU:Int→Int→Nat) (M:(List ct)) (an:Bool) (v10:Int):Prop:=
  aS v10 0∧ ∀(fb:Int),aS v10 fb→(((decide (fb<v10))=false→ay (IntKind.i64.wrap (v10+1))∧aB (IntKind.i64.wrap (v10+1))<aB v10)∧((decide (fb<v10))=true→((0≤fb∧fb.toNat<M.length)∧(((nth M fb).sw==(nth M v10).sw)=true→false=an))∧((!((nth M fb).sw==(nth M v10).sw))=true→aS v10 (IntKind.i64.wrap (fb+1))∧aU v10 (IntKind.i64.wrap (fb+1))<aU v10 fb)))
def P2 (ay:Int→Prop) (aB:Int→Nat) (aS:Int→Int→Prop) (aU:Int→Int→Nat) (J:aA) (M:(List ct)) (an:Bool) (v10:Int):Prop:=
  (J.bd.length≤4611686018427387904→((!(b0 (nth M v10).sw 0 (IntKind.i64.wrap ((J.bd.length:Int) - 1)))) || (!(b0 (nth M v10).bn 1 2)))=true→false=an)∧((J.bd.length≤4611686018427387904)∧((!((!(b0 (nth M v10).sw 0 (IntKind.i64.wrap ((J.bd.length:Int) - 1)))) || (!(b0 (nth M v10).bn 1 2))))=true)→P1 ay aB aS aU M an v10)
def P0 (J:aA) (M:(List ct)) (an:Bool) (ay:Int→Prop) (aB:Int→Nat) (aS:Int→Int→Prop) (aU:Int→Int→Nat):Prop:=
 M.length≤4611686018427387904→ay 0∧ ∀(v10:Int),ay v10→(((decide (v10<(M.length:Int)))=false→(decide ((M.length:Int)≤30))=an)∧((decide (v10<(M.length:Int)))=true→(0≤v10∧v10.toNat<M.length)∧(P2 ay aB aS aU J M an v10)))
theorem acx (J:aA) (M:(List ct)):bZ Try.prog 127 [.agg (bg false J),bK dd M] (al (lm J M)):=(fun(ay:Int→Prop) (aB:Int→Nat) (aS:Int→Int→Prop) (aU:Int→Int→Nat) (h:P0 J M (lm J M) ay aB aS aU)=>bZ.run (ps:=[.df,(.l .bn)]) (rs:=[.bool]) (x:=(J,M,())) (r:=((lm J M),())) ⟨46,ec,[zx]⟩ ⟨[44],[(9,acz,acA)],[],[],[]⟩ (eP [1,2,8,9] [(2,5)] 10 ay aB fun aW=>(eP [1,2,5,6,8,9,10] [(6,2),(2,5)] 7 (aS aW) (aU aW) fun _=> .nil)) Try.func127 h) (cr M.length (fun j=>oJ J (nth M j) || yP M j)) (cA M.length) (fun v=>cr v (fun k=>(nth M k).sw==(nth M v).sw)) (fun v=>cA v) (by
 unfold P0 P2 P1
 intro aH
 refine⟨c7 (dh _),fun v aZ=>⟨fun hv=> ?_,fun hv=>⟨ca aZ hv,?_⟩⟩⟩
 ·exact(NM 30).trans (Zv (gH aZ hv)).symm
 ·have hi:=ca aZ hv
  refine⟨fun hs h=> ?_,fun⟨hs,aK⟩=>⟨c7 aZ.1,fun k hK=>⟨fun hk=> ?_,fun hk=> ?_⟩⟩⟩
  ·rw[fw (by omega) (by omega)] at h
   exact(Zw hi.2 h).symm
  ·rw[fw (by omega) (by omega)] at aK
   refine cI (cv aH) aZ hv ?_
   rw[Zs aZ.1 (by simpa using hv) (gH hK hk),Bool.or_false]
   exact not_eq aK
  ·have jy:k<v:=by simpa using hk
   have:=hK.1
   exact⟨⟨⟨by omega,by omega⟩,fun he=>(Zu hK.1 jy (by omega) he).symm⟩,fun he=>cI (by omega) hK hk (not_eq he)⟩)
def acy:eg Try.prog:=⟨127,[.df,(.l .bn)],[.bool],none,fun x=>((lm x.1 x.2.1),()),fun x h=>acx x.1 x.2.1⟩
def acH:List Item:=[aq 0,aq 1,aq 2,aq 3,aq 4,aq 5,aq 6,aq 7,aq 8,aq 9,aq 10]
def acI:List (List Nat):=[[],[0],[],[2],rg 0 4,rg 0 5,rg 0 6,[],[7],rg 0 9,rg 0 10]
def P9 (ay:Int→Prop) (aB:Int→Nat) (aS:Int→Int→Prop) (aU:Int→Int→Nat) (J:aA) (M:Way) (an:Bool) (o0 fY:Int):Prop:=
  ((decide (o0<(M.bA.length:Int)))=false→(0≤(nth M.a2 fY).sw∧(nth M.a2 fY).sw.toNat<J.bd.length)∧(((!(meets [(nth J.bd (nth M.a2 fY).sw)] M.ah))=true→false=an)∧((!(meets [(nth J.bd (nth M.a2 fY).sw)] M.ah))=false→ay (IntKind.i64.wrap (fY+1))∧aB (IntKind.i64.wrap (fY+1))<aB fY)))∧((decide (o0<(M.bA.length:Int)))=true→((0≤o0∧o0.toNat<M.bA.length)∧(((nth M.a2 fY).sw==(nth M.bA o0).sw)=true→false=an))∧((!((nth M.a2 fY).sw==(nth M.bA o0).sw))=true→aS fY (IntKind.i64.wrap (o0+1))∧aU fY (IntKind.i64.wrap (o0+1))<aU fY o0))
def P_ (ay:Int→Prop) (aB:Int→Nat) (aS:Int→Int→Prop) (aU:Int→Int→Nat) (J:aA) (M:Way) (an:Bool):Prop:=
  ((M.ah.length≤4611686018427387904→((M.ah.length:Int)==0)=false→(y7 M.ah J.ah)∧((!(hn M.ah J.ah))=false→(y7 M.cG J.ah)∧((!(hn M.cG J.ah))=false→y7 M.cD J.ah)))∧(M.ah.length≤4611686018427387904→(((M.ah.length:Int)==0) || ((!(hn M.ah J.ah)) || ((!(hn M.cG J.ah)) || ((!(hn M.cD J.ah)) || ((!(lm J M.a2)) || (!(lm J M.bA)))))))=true→false=an))∧((M.ah.length≤4611686018427387904)∧((!(((M.ah.length:Int)==0) || ((!(hn M.ah J.ah)) || ((!(hn M.cG J.ah)) || ((!(hn M.cD J.ah)) || ((!(lm J M.a2)) || (!(lm J M.bA))))))))=true)→M.a2.length≤4611686018427387904→ay 0∧ ∀(fY:Int),ay fY→(((decide (fY<(M.a2.length:Int)))=false→(!(meets M.cG M.ah))=an)∧((decide (fY<(M.a2.length:Int)))=true→(0≤fY∧fY.toNat<M.a2.length)∧(M.bA.length≤4611686018427387904→aS fY 0∧ ∀(o0:Int),aS fY o0→(P9 ay aB aS aU J M an o0 fY)))))
def P8 (J:aA) (M:Way) (an:Bool) (ay:Int→Prop) (aB:Int→Nat) (aS:Int→Int→Prop) (aU:Int→Int→Nat):Prop:=
 P_ ay aB aS aU J M an
theorem acF (J:aA) (M:Way) (aI:GP J M):bZ Try.prog 68 [.agg (bg false J),.agg (dk false M)] (al (gT J M)):=(fun(ay:Int→Prop) (aB:Int→Nat) (aS:Int→Int→Prop) (aU:Int→Int→Nat) (h:P8 J M (gT J M) ay aB aS aU)=>bZ.run (ps:=[.df,.j4]) (rs:=[.bool]) (x:=(J,M,())) (r:=((gT J M),())) ⟨89,ec,[acC,acy,zy]⟩ ⟨[],[(12,acH,acI)],[],[],[]⟩ (eP [2,3,52,53] [(3,5),(2,5)] 54 ay aB fun aW=>(eP [2,3,6,52,53,54,59,60] [(6,2),(3,5),(2,5)] 61 (aS aW) (aU aW) fun _=> .nil)) Try.func68 h) (cr M.a2.length (fun j=>M.bA.any (fun y=>(nth M.a2 j).sw==y.sw) || !(M.ah.contains (nth J.bd (nth M.a2 j).sw)))) (cA M.a2.length) (fun v=>cr M.bA.length (fun k=>(nth M.a2 v).sw==(nth M.bA k).sw)) (fun v=>cA M.bA.length) (by
 unfold P8 P_ P9
 refine⟨⟨fun _ _=>⟨aI,fun _=>⟨aI,fun _=>aI⟩⟩,fun aH h=> ?_⟩,fun⟨aH,h⟩ aL=> ?_⟩
 ·symm
  rw[←Bool.not_eq_true,oj]
  rintro⟨h1,h2,aN,be,ci,cK,-⟩
  have aP:M.ah.length≠0:=fun e=>h1 (List.eq_nil_of_length_eq_zero e)
  simp only[h2,aN,be,ci,cK,Bool.not_true,Bool.or_false] at h
  simp at h
  exact h1 h
 ·simp only[Bool.not_eq_true',Bool.or_eq_false_iff,Bool.not_eq_false'] at h
  obtain⟨h1,h2,aN,be,ci,cK⟩:=h
  have h1:M.ah≠[]:=fun e=>by rw[e] at h1;simp at h1
  have EK:=mh.1 ci
  have Wv:=mh.1 cK
  refine⟨c7 (dh _),fun v aZ=>⟨fun hv=> ?_,fun hv=>⟨ca aZ hv,fun hf=>⟨c7 (dh _),fun k hK=>⟨fun hk=> ?_,fun hk=>⟨⟨ca hK hk,fun he=> ?_⟩,fun he=>cI (cv hf) hK hk (not_eq he)⟩⟩⟩⟩⟩⟩
  ·have eo:=gH aZ hv
   have bi:((bz M).map (·.sw)).Nodup:=by
    rw[BF]
    refine⟨EK.2.2,Wv.2.2,fun x hx y bt he=> ?_⟩
    have:=l6 (q:=fun x=>M.bA.any (fun y=>x.sw==y.sw) || !(M.ah.contains (nth J.bd x.sw))) eo x hx
    simp only[Bool.or_eq_false_iff] at this
    have:=this.1
    rw[List.any_eq_false] at this
    exact this y bt (by simpa using he)
   have hc: ∀x∈M.a2,M.ah.contains (nth J.bd x.sw)=true:=fun x hx=>by
    have:=l6 (q:=fun x=>M.bA.any (fun y=>x.sw==y.sw) || !(M.ah.contains (nth J.bd x.sw))) eo x hx
    simp only[Bool.or_eq_false_iff] at this
    simpa using this.2
   rw[NG,Bool.eq_iff_iff,oj]
   constructor
   ·intro hm;exact⟨h1,h2,aN,be,ci,cK,bi,hc,by simpa using hm⟩
   ·rintro⟨-,-,-,-,-,-,-,-,hm⟩;rw[hm];rfl
  ·have b9:=EK.2.1 _ (du (ca aZ hv).2)
   rw[Bool.and_eq_true,iQ] at b9
   refine⟨⟨b9.1.1,by omega⟩,fun hm=> ?_,fun hm=> ?_⟩
   ·symm
    rw[←Bool.not_eq_true,oj]
    rintro⟨-,-,-,-,-,-,-,hc,-⟩
    rw[ux,hc _ (du (ca aZ hv).2)] at hm
    cases hm
   ·refine cI (cv aL) aZ hv ?_
    rw[ux] at hm
    rw[hm,Bool.or_false]
    have:=l6 (q:=fun y:ct=>(nth M.a2 v).sw==y.sw) (gH hK hk)
    rw[List.any_eq_false]
    intro y bt
    rw[this y bt];simp
  ·symm
   rw[←Bool.not_eq_true,oj]
   rintro⟨-,-,-,-,-,-,bi,-,-⟩
   exact(BF.1 bi).2.2 _ (du (ca aZ hv).2) _ (du (ca hK hk).2) (by simpa using he))
def acG:eg Try.prog:=⟨68,[.df,.j4],[.bool],some fun x=>GP x.1 x.2.1,fun x=>((gT x.1 x.2.1),()),fun x h=>acF x.1 x.2.1 h⟩
def YY:List Item:=[aq 0,aq 1,aq 2,aq 3,aq 4,aq 5,aq 6,aq 7,aq 8,aq 9,aq 10,aq 11,aq 12,aq 13,aq 14,aq 15,aq 16]
def YZ:List (List Nat):=[[],[],[1],[1,2],rg 0 4,rg 0 5,rg 0 6,rg 0 7,rg 0 6,rg 0 6++[8],rg 0 6,rg 0 6++[10],rg 0 6++rg 8 12,rg 0 6++rg 8 13,rg 0 14,rg 0 15,rg 0 16]
def MX (J:aA) (M:Way) (an:Bool) (a8:(List Int)) (fQ:Int):Prop:=
  (((decide (fQ<(M.a2.length:Int)))=true→0≤(nth (bz M) fQ).sw∧(nth (bz M) fQ).sw.toNat<J.bd.length)∧(((decide (fQ<(M.a2.length:Int)))&&(!(fJ M.ah (nth J.bd (nth (bz M) fQ).sw))))=true→false=an))∧((!((decide (fQ<(M.a2.length:Int)))&&(!(fJ M.ah (nth J.bd (nth (bz M) fQ).sw)))))=true→(a8.length+[(nth (bz M) fQ).sw].length)*8≤140737488355328∧a8.length+[(nth (bz M) fQ).sw].length≤4611686018427387904)
def MY (J:aA) (M:Way) (an:Bool) (a8:(List Int)) (fQ:Int):Prop:=
  (((decide ((nth (bz M) fQ).sw<0)) || ((decide ((nth (bz M) fQ).sw ≥ (J.bd.length:Int))) || (((nth (bz M) fQ).bn !=1)&&((nth (bz M) fQ).bn !=2))))=true→false=an)∧((!((decide ((nth (bz M) fQ).sw<0)) || ((decide ((nth (bz M) fQ).sw ≥ (J.bd.length:Int))) || (((nth (bz M) fQ).bn !=1)&&((nth (bz M) fQ).bn !=2)))))=true→MX J M an a8 fQ)
abbrev qW (r:Type):Type:=Int→Nat→(List Int)→Int→r
def MZ (aS:qW Prop) (aU:qW Nat) (J:aA) (M:Way) (an:Bool) (da:Int) (bx:Nat) (a8:(List Int)) (fQ:Int):Prop:=
  ((0≤fQ∧fQ.toNat<(bz M).length)∧(MY J M an a8 fQ))∧(((!((decide ((nth (bz M) fQ).sw<0)) || ((decide ((nth (bz M) fQ).sw ≥ (J.bd.length:Int))) || (((nth (bz M) fQ).bn !=1)&&((nth (bz M) fQ).bn !=2)))))&&(!((decide (fQ<(M.a2.length:Int)))&&(!(fJ M.ah (nth J.bd (nth (bz M) fQ).sw))))))=true→aS da (bx+1) (a8++[(nth (bz M) fQ).sw]) (IntKind.i64.wrap (fQ+1))∧aU da (bx+1) (a8++[(nth (bz M) fQ).sw]) (IntKind.i64.wrap (fQ+1))<aU da bx a8 fQ)
def M0 (aS:qW Prop) (aU:qW Nat) (J:aA) (M:Way) (an:Bool) (da:Int):Prop:=
  (w1 M)∧((bz M).length≤4611686018427387904→aS da 0 ([]:List Int) 0∧ ∀(bx:Nat) (a8:(List Int)) (fQ:Int),aS da bx a8 fQ→(((decide (fQ<((bz M).length:Int)))=false→(a8.length≤4611686018427387904)∧(((!(dup a8))&&(!(meets M.ah M.cG)))=an))∧((decide (fQ<((bz M).length:Int)))=true→MZ aS aU J M an da bx a8 fQ)))
def M1 (bw:Int→Int→Prop) (bu:Int→Int→Nat) (J:aA) (M:Way) (an:Bool) (gQ da:Int):Prop:=
  ((0≤gQ∧gQ.toNat<(nth [M.ah,M.cG,M.cD] da).length)∧(((decide ((nth (nth [M.ah,M.cG,M.cD] da) gQ)<0)) || (decide ((nth (nth [M.ah,M.cG,M.cD] da) gQ) ≥ J.ah)))=true→false=an))∧((!((decide ((nth (nth [M.ah,M.cG,M.cD] da) gQ)<0)) || (decide ((nth (nth [M.ah,M.cG,M.cD] da) gQ) ≥ J.ah))))=true→bw da (IntKind.i64.wrap (gQ+1))∧bu da (IntKind.i64.wrap (gQ+1))<bu da gQ)
def M2 (ay:Int→Prop) (aB:Int→Nat) (bw:Int→Int→Prop) (bu:Int→Int→Nat) (J:aA) (M:Way) (an:Bool) (da:Int):Prop:=
  ((nth [M.ah,M.cG,M.cD] da).length≤4611686018427387904→((decide (((nth [M.ah,M.cG,M.cD] da).length:Int)>30)) || (dup (nth [M.ah,M.cG,M.cD] da)))=true→false=an)∧(((nth [M.ah,M.cG,M.cD] da).length≤4611686018427387904)∧((!((decide (((nth [M.ah,M.cG,M.cD] da).length:Int)>30)) || (dup (nth [M.ah,M.cG,M.cD] da))))=true)→bw da 0∧ ∀(gQ:Int),bw da gQ→(((decide (gQ<((nth [M.ah,M.cG,M.cD] da).length:Int)))=false→ay (IntKind.i64.wrap (da+1))∧aB (IntKind.i64.wrap (da+1))<aB da)∧((decide (gQ<((nth [M.ah,M.cG,M.cD] da).length:Int)))=true→M1 bw bu J M an gQ da)))
def M3 (ay:Int→Prop) (aB:Int→Nat) (aS:qW Prop) (aU:qW Nat) (bw:Int→Int→Prop) (bu:Int→Int→Nat) (J:aA) (M:Way) (an:Bool):Prop:=
  (M.ah.length≤4611686018427387904→(((M.ah.length:Int)==0) || ((decide ((M.a2.length:Int)>30)) || (decide ((M.bA.length:Int)>30))))=true→false=an)∧((M.ah.length≤4611686018427387904)∧((!(((M.ah.length:Int)==0) || ((decide ((M.a2.length:Int)>30)) || (decide ((M.bA.length:Int)>30)))))=true)→[M.ah,M.cG,M.cD].length≤4611686018427387904→ay 0∧ ∀(da:Int),ay da→(((decide (da<([M.ah,M.cG,M.cD].length:Int)))=false→M0 aS aU J M an da)∧((decide (da<([M.ah,M.cG,M.cD].length:Int)))=true→(0≤da∧da.toNat<[M.ah,M.cG,M.cD].length)∧(M2 ay aB bw bu J M an da))))
def MW (J:aA) (M:Way) (an:Bool) (ay:Int→Prop) (aB:Int→Nat) (aS:qW Prop) (aU:qW Nat) (bw:Int→Int→Prop) (bu:Int→Int→Nat):Prop:=
 M3 ay aB aS aU bw bu J M an
theorem YW (J:aA) (M:Way):bZ Try.prog 73 [.agg (bg false J),.agg (dk false M)] (al (gT J M)):=(fun(ay:Int→Prop) (aB:Int→Nat) (aS:qW Prop) (aU:qW Nat) (bw:Int→Int→Prop) (bu:Int→Int→Nat) (h:MW J M (gT J M) ay aB aS aU bw bu)=>bZ.run (ps:=[.df,.j4]) (rs:=[.bool]) (x:=(J,M,())) (r:=((gT J M),())) ⟨126,ec,[FL,YT,FJ,Cp]⟩ ⟨[48],[(21,YY,YZ)],[],[],[]⟩ (eP [2,3,34,35] [(3,5),(2,5)] 36 ay aB fun aW=>(.tA (.lp [(0,9,.int)] [2,3,64,65] [(3,5),(2,5)] [.nat,(.l .int),.int] [bD 0,bD 0,66] (fun bP=>[(9,.ref 0 bP.1 bP.2.1.length false),(66,.i .i64 bP.2.2.1),(bD 0,.blk bP.1 .int bP.2.1 _ rfl)]) (fun bP=>aS aW bP.1 bP.2.1 bP.2.2.1) (fun bP=>aU aW bP.1 bP.2.1 bP.2.2.1) fun _=> .nil) (eP [2,3,34,35,36,47,48] [(3,5),(2,5)] 49 (bw aW) (bu aW) fun _=> .nil))) Try.func73 h) (cr ([M.ah,M.cG,M.cD].length:Int) (fun k=> !hn (nth [M.ah,M.cG,M.cD] k) J.ah)) (cA ([M.ah,M.cG,M.cD].length:Int)) (fun _ _ x v=>cr (bz M).length (pC J M) v∧x=((bz M).take v.toNat).map (·.sw)) (fun _ _ _ v=>cA (bz M).length v) (fun i=>cr (nth [M.ah,M.cG,M.cD] i).length (fun j=> !b0 (nth (nth [M.ah,M.cG,M.cD] i) j) 0 (J.ah - 1))) (fun i=>cA (nth [M.ah,M.cG,M.cD] i).length) (by
 unfold MW M3
 have hlen:M.a2.length≤30→M.bA.length≤30→(bz M).length≤60:=by unfold bz;rw[List.length_append];omega
 refine⟨fun aH h=> ?_,fun⟨aH,h⟩ bY=> ?_⟩
 ·symm
  rw[←Bool.not_eq_true,oj]
  rintro⟨h1,-,-,-,ci,cK,-⟩
  have:=(mh.1 ci).1
  have:=(mh.1 cK).1
  simp at h
  rcases h with h | h | h
  ·exact h1 h
  ·omega
  ·omega
 ·simp at h
  obtain⟨h1,h2,aN⟩:=h
  have h2:M.a2.length≤30:=by omega
  have aN:M.bA.length≤30:=by omega
  have afc:=hlen h2 aN
  refine⟨c7 (dh _),fun i aZ=>⟨fun hi=> ?_,fun hi=>⟨ca aZ hi,?_⟩⟩⟩
  ·have eo: ∀l∈[M.ah,M.cG,M.cD],hn l J.ah=true:=fun l aL=>by
    have:=l6 (q:=fun l=> !hn l J.ah) (gH aZ hi) l aL
    simpa using this
   unfold M0
   refine⟨⟨by omega,by omega⟩,fun kx=>⟨⟨c7 (dh _),rfl⟩,fun g x v ⟨c1,hx⟩=>⟨fun hv=> ?_,fun hv=> ?_⟩⟩⟩
   ·have ki: ¬v<((bz M).length:Int):=by simpa using hv
    rw[List.take_of_length_le (by have:=c1.1;omega)] at hx
    subst hx
    exact⟨by rw[List.length_map];omega,Vp h1 eo h2 aN (gH c1 hv)⟩
   ·have b9:=ca c1 hv
    have qq:x.length≤60:=by rw[hx,List.length_map,List.length_take];omega
    have bad:pC J M v=true→false=gT J M:=fun hb=>by
     symm
     rw[←Bool.not_eq_true]
     intro hg
     rw[Vr hg b9.1 b9.2] at hb
     cases hb
    unfold MZ MY MX
    rw[Zr]
    refine⟨⟨b9,fun hb=>bad (by unfold pC;rw[hb];rfl),fun hb=>⟨⟨fun aL=> ?_,fun hc=>bad (by unfold pC;rw[hc,Bool.or_true])⟩,fun _=> ?_⟩⟩,fun hb=> ?_⟩
    ·have hb:oJ J (nth (bz M) v)=false:=not_eq hb
     rw[yO] at hb
     simp only[Bool.not_eq_false',Bool.and_eq_true,iQ] at hb
     exact⟨hb.1.1,by omega⟩
    ·simp only[List.length_cons,List.length_nil];omega
    ·have hb:pC J M v=false:=by
      unfold pC
      rw[Bool.and_eq_true] at hb
      rw[not_eq hb.1,not_eq hb.2];rfl
     have bm:=cI (cv kx) c1 hv hb
     have hw:IntKind.i64.wrap (v+1)=v+1:=fw (by omega) (by omega)
     refine⟨⟨bm.1,?_⟩,bm.2⟩
     rw[hw,hx,show(v+1).toNat=v.toNat+1 by omega,List.take_succ_eq_append_getElem b9.2,List.map_append,←gE b9.2]
     rfl
  ·have yr:=ca aZ hi
   have Jo:hn (nth [M.ah,M.cG,M.cD] i) J.ah=false→false=gT J M:=fun hb=>by
    symm
    rw[←Bool.not_eq_true]
    intro hg
    rw[Vq hg _ (du yr.2)] at hb
    cases hb
   unfold M2 M1
   refine⟨fun aH h=>Jo ?_,fun⟨aH,h⟩=>⟨c7 (dh _),fun v mb=>⟨fun hv=> ?_,fun hv=> ?_⟩⟩⟩
   ·rw[←Bool.not_eq_true,qz]
    rintro⟨q1,-,q3⟩
    simp only[Bool.or_eq_true,decide_eq_true_eq] at h
    rcases h with h | h
    ·omega
    ·unfold dup at h;simp[q3] at h
   ·refine cI (by simp) aZ hi ?_
    simp only[Bool.not_eq_true',Bool.or_eq_false_iff,decide_eq_false_iff_not] at h
    have bi:(nth [M.ah,M.cG,M.cD] i).Nodup:=by have:=h.2;unfold dup at this;simpa using this
    have:hn (nth [M.ah,M.cG,M.cD] i) J.ah=true:=by
     rw[qz]
     refine⟨by omega,fun x hx=> ?_,bi⟩
     have:=l6 (q:=fun x=> !b0 x 0 (J.ah - 1)) (gH mb hv) x hx
     simpa using this
    rw[this];rfl
   ·rw[He]
    exact⟨⟨ca mb hv,fun h=>Jo (Nx (ca mb hv).2 h)⟩,fun h=>cI (cv aH) mb hv (not_eq h)⟩)
def YX:eg Try.prog:=⟨73,[.df,.j4],[.bool],none,fun x=>((gT x.1 x.2.1),()),fun x h=>YW x.1 x.2.1⟩
def XM:List Item:=[aq 0,aq 1,aq 2,aq 3,aq 4,aq 5,aq 6,aq 7,aq 8,aq 9,aq 10,aq 11,aq 12,aq 13,aq 14,aq 15,aq 16,aq 17,aq 18,aq 19,aq 20,aq 21,aq 22,aq 23,aq 24,aq 25,aq 26,aq 27,aq 28,aq 29,aq 30,aq 31,aq 32,aq 33,aq 34,aq 35,aq 36,aq 37,aq 38,aq 39,aq 40,aq 41,aq 42,aq 43,aq 44,aq 45,aq 46,aq 47]
def XN:List (List Nat):=[[],[0],[],[0,1,2],rg 0 4,[],rg 0 6,rg 0 7,[],[8],[],[8,9,10],rg 8 12,[],rg 8 14,rg 8 15,rg 0 16,rg 0 17,rg 0 18,rg 0 18,rg 0 20,rg 0 21,rg 0 22,rg 0 23,rg 0 22,rg 0 25,rg 0 26,rg 0 22,rg 0 28,rg 0 29,rg 0 30,rg 0 31,rg 0 32,rg 0 33,rg 0 34,rg 0 33,rg 0 36,rg 0 37,rg 0 38,rg 0 33,rg 0 33++[39],rg 0 33,rg 0 33++[39,40,41],rg 0 33++rg 39 43,rg 0 33++rg 39 44,rg 0 45,rg 0 46,rg 0 47]
def L3 (J:aA) (an:ja) (g6 fF:Int):Prop:=
  ((0≤fF∧fF.toNat<J.bU.length)∧((0≤g6∧g6.toNat<(nth J.bU fF).length)∧((0≤g6∧g6.toNat<J.bU.length)∧((0≤fF∧fF.toNat<(nth J.bU g6).length)∧(((nth (nth J.bU fF) g6) !=(nth (nth J.bU g6) fF))=false→(fF !=g6)=true→(0≤fF∧fF.toNat<J.bU.length)∧((0≤g6∧g6.toNat<(nth J.bU fF).length)∧((!(nth (nth J.bU fF) g6))=true→(0≤fF∧fF.toNat<J.O.length)∧(0≤g6∧g6.toNat<J.O.length))))))))∧((((nth (nth J.bU fF) g6) !=(nth (nth J.bU g6) fF)) || ((fF !=g6)&&((!(nth (nth J.bU fF) g6))&&(meets (nth J.O fF).ah (nth J.O g6).ah))))=true→(5=an.code)∧(fF=an.pos))
abbrev h8 (r:Type):Type:=Int→Int→Int→Int→r
abbrev hJ (r:Type):Type:=Int→Int→Int→Int→Int→r
def L4 (cd:h8 Prop) (cc:h8 Nat) (dp:hJ Prop) (dq:hJ Nat) (J:aA) (an:ja) (ef gR h4 g6 fF:Int):Prop:=
  ((decide (g6<(J.O.length:Int)))=false→cd ef gR h4 (IntKind.i64.wrap (fF+1))∧cc ef gR h4 (IntKind.i64.wrap (fF+1))<cc ef gR h4 fF)∧((decide (g6<(J.O.length:Int)))=true→(L3 J an g6 fF)∧((!(((nth (nth J.bU fF) g6) !=(nth (nth J.bU g6) fF)) || ((fF !=g6)&&((!(nth (nth J.bU fF) g6))&&(meets (nth J.O fF).ah (nth J.O g6).ah)))))=true→dp ef gR h4 fF (IntKind.i64.wrap (g6+1))∧dq ef gR h4 fF (IntKind.i64.wrap (g6+1))<dq ef gR h4 fF g6))
abbrev c2 (r:Type):Type:=Int→Int→Int→r
def L5 (bw:c2 Prop) (bu:c2 Nat) (J:aA) (an:ja) (ef gR h4:Int):Prop:=
  ((0≤h4∧h4.toNat<J.bU.length)∧((nth J.bU h4).length≤4611686018427387904→(((nth J.bU h4).length:Int) !=(J.O.length:Int))=true→(4=an.code)∧(h4=an.pos)))∧(((nth J.bU h4).length≤4611686018427387904)∧((!(((nth J.bU h4).length:Int) !=(J.O.length:Int)))=true)→bw ef gR (IntKind.i64.wrap (h4+1))∧bu ef gR (IntKind.i64.wrap (h4+1))<bu ef gR h4)
def L6 (bw:c2 Prop) (bu:c2 Nat) (cd:h8 Prop) (cc:h8 Nat) (dp:hJ Prop) (dq:hJ Nat) (J:aA) (an:ja) (ef gR h4:Int):Prop:=
  ((decide (h4<(J.bU.length:Int)))=false→cd ef gR h4 0∧ ∀(fF:Int),cd ef gR h4 fF→(((decide (fF<(J.O.length:Int)))=false→(0=an.code)∧(0=an.pos))∧((decide (fF<(J.O.length:Int)))=true→dp ef gR h4 fF 0∧ ∀(g6:Int),dp ef gR h4 fF g6→(L4 cd cc dp dq J an ef gR h4 g6 fF))))∧((decide (h4<(J.bU.length:Int)))=true→L5 bw bu J an ef gR h4)
def L7 (aS:Int→Int→Prop) (aU:Int→Int→Nat) (bw:c2 Prop) (bu:c2 Nat) (cd:h8 Prop) (cc:h8 Nat) (dp:hJ Prop) (dq:hJ Nat) (J:aA) (an:ja) (ef gR:Int):Prop:=
  ((decide (gR<(J.O.length:Int)))=false→(J.bU.length≤4611686018427387904→((J.bU.length:Int) !=(J.O.length:Int))=true→(4=an.code)∧(0=an.pos))∧((J.bU.length≤4611686018427387904)∧((!((J.bU.length:Int) !=(J.O.length:Int)))=true)→bw ef gR 0∧ ∀(h4:Int),bw ef gR h4→(L6 bw bu cd cc dp dq J an ef gR h4)))∧((decide (gR<(J.O.length:Int)))=true→((0≤gR∧gR.toNat<J.O.length)∧((!(gT J (nth J.O gR)))=true→(3=an.code)∧(gR=an.pos)))∧((!(!(gT J (nth J.O gR))))=true→aS ef (IntKind.i64.wrap (gR+1))∧aU ef (IntKind.i64.wrap (gR+1))<aU ef gR))
def L8 (ay:Int→Prop) (aB:Int→Nat) (aS:Int→Int→Prop) (aU:Int→Int→Nat) (bw:c2 Prop) (bu:c2 Nat) (cd:h8 Prop) (cc:h8 Nat) (dp:hJ Prop) (dq:hJ Nat) (J:aA) (an:ja) (ef:Int):Prop:=
  ((decide (ef<(J.bd.length:Int)))=false→J.O.length≤4611686018427387904→aS ef 0∧ ∀(gR:Int),aS ef gR→(L7 aS aU bw bu cd cc dp dq J an ef gR))∧((decide (ef<(J.bd.length:Int)))=true→((0≤ef∧ef.toNat<J.bd.length)∧(((decide ((nth J.bd ef)<0)) || (decide ((nth J.bd ef) ≥ J.ah)))=true→(2=an.code)∧(ef=an.pos)))∧((!((decide ((nth J.bd ef)<0)) || (decide ((nth J.bd ef) ≥ J.ah))))=true→ay (IntKind.i64.wrap (ef+1))∧aB (IntKind.i64.wrap (ef+1))<aB ef))
def L9 (ay:Int→Prop) (aB:Int→Nat) (aS:Int→Int→Prop) (aU:Int→Int→Nat) (bw:c2 Prop) (bu:c2 Nat) (cd:h8 Prop) (cc:h8 Nat) (dp:hJ Prop) (dq:hJ Nat) (J:aA) (an:ja):Prop:=
  (((decide (J.ah<1)) || ((decide (J.ah>60)) || ((decide (J.dl<1)) || ((decide (J.dl>300)) || ((decide ((J.bd.length:Int)>40)) || (decide ((J.O.length:Int)>100)))))))=true→(1=an.code)∧(0=an.pos))∧((!((decide (J.ah<1)) || ((decide (J.ah>60)) || ((decide (J.dl<1)) || ((decide (J.dl>300)) || ((decide ((J.bd.length:Int)>40)) || (decide ((J.O.length:Int)>100))))))))=true→J.bd.length≤4611686018427387904→ay 0∧ ∀(ef:Int),ay ef→(L8 ay aB aS aU bw bu cd cc dp dq J an ef))
def L2 (J:aA) (an:ja) (ay:Int→Prop) (aB:Int→Nat) (aS:Int→Int→Prop) (aU:Int→Int→Nat) (bw:c2 Prop) (bu:c2 Nat) (cd:h8 Prop) (cc:h8 Nat) (dp:hJ Prop) (dq:hJ Nat):Prop:=
 L9 ay aB aS aU bw bu cd cc dp dq J an
theorem XK (J:aA):bZ Try.prog 26 [.agg (bg false J)] (.agg (DF (hG J))):=(fun(ay:Int→Prop) (aB:Int→Nat) (aS:Int→Int→Prop) (aU:Int→Int→Nat) (bw:c2 Prop) (bu:c2 Nat) (cd:h8 Prop) (cc:h8 Nat) (dp:hJ Prop) (dq:hJ Nat) (h:L2 J (hG J) ay aB aS aU bw bu cd cc dp dq)=>bZ.run (ps:=[.df]) (rs:=[.fault]) (x:=(J,())) (r:=((hG J),())) ⟨166,ec,[FJ,YX]⟩ ⟨[81,86,96,103,109],[(29,XM,XN)],[],[],[]⟩ (eP [1,2,43,44] [(2,2),(1,5)] 45 ay aB fun aW=>(eP [1,2,62,63] [(2,2),(1,5)] 64 (aS aW) (aU aW) fun bP=>(eP [1,2,85,86] [(2,2),(1,5)] 87 (bw aW bP) (bu aW bP) fun cb=>(eP [1,2,103] [(2,2),(1,5)] 104 (cd aW bP cb) (cc aW bP cb) fun eG=>(eP [1,2,9,103,104,109] [(2,2),(1,5)] 110 (dp aW bP cb eG) (dq aW bP cb eG) fun _=> .nil))))) Try.func26 h) (cr J.bd.length (fun j=> !b0 (nth J.bd j) 0 (J.ah - 1))) (cA J.bd.length) (fun _=>cr J.O.length (fun j=> !gT J (nth J.O j))) (fun _=>cA J.O.length) (fun _ _=>cr J.bU.length (fun j=>decide ((nth J.bU j).length≠J.O.length))) (fun _ _=>cA J.bU.length) (fun _ _ _=>cr J.O.length (fun i=>(List.range J.O.length).any fun k=>nK J i.toNat k)) (fun _ _ _=>cA J.O.length) (fun _ _ _ i=>cr J.O.length (fun k=>nK J i.toNat k.toNat)) (fun _ _ _ _=>cA J.O.length) (by
 unfold L2 L9
 refine⟨fun h=> ?_,fun h me=> ?_⟩
 ·have hb:kK J=false:=by
   rw[←Bool.not_eq_true,rV]
   intro hb
   simp[kK] at h
   omega
  rw[GJ hb];exact⟨rfl,rfl⟩
 ·have hb:kK J=true:=by
   rw[rV]
   simp[kK] at h
   omega
  have dV:=rV.1 hb
  refine⟨c7 (dh _),fun h0 pc=> ?_⟩
  unfold L8
  refine⟨fun ie A9=> ?_,fun hO=> ?_⟩
  case refine_2=>
   rw[He]
   refine⟨⟨ca pc hO,fun mK=> ?_⟩,fun fg=>cI (cv me) pc hO (not_eq fg)⟩
   rw[Oi hb (pR (q:=fun s=> !b0 s 0 (J.ah - 1)) pc hO mK)]
   have:=pc.1
   exact⟨rfl,by show h0=(h0.toNat:Int);omega⟩
  have f0:=pS (q:=fun s=> !b0 s 0 (J.ah - 1)) pc ie
  refine⟨c7 (dh _),fun v1 pd=> ?_⟩
  unfold L7
  refine⟨fun bB=> ?_,fun kY=> ?_⟩
  case refine_2=>
   refine⟨⟨ca pd kY,  fun mK=> ?_⟩,fun fg=>cI (cv A9) pd kY (not_eq fg)⟩
   rw[Oj hb f0 (pR (q:=fun w=> !gT J w) pd kY mK)]
   have:=pd.1
   exact⟨rfl,by show v1=(v1.toNat:Int);omega⟩
  have f1:=pS (q:=fun w=> !gT J w) pd bB
  rw[GK hb f0 f1]
  refine⟨fun hm ck=> ?_,fun⟨hm,ck⟩=> ?_⟩
  ·have ck:J.bU.length≠J.O.length:=by
    intro e;rw[e] at ck;simp at ck
   rw[Oh ck];exact⟨rfl,rfl⟩
  have aL:J.bU.length=J.O.length:=by
   have:(J.bU.length:Int)=J.O.length:=by simpa using ck
   omega
  refine⟨c7 (dh _),fun v2 nW=> ?_⟩
  unfold L6
  refine⟨fun e2=> ?_,fun hv2=> ?_⟩
  case refine_2=>
   have oC:(((nth J.bU v2).length:Int) !=(J.O.length:Int))=decide ((nth J.bU v2).length≠J.O.length):=by
    rw[Bool.eq_iff_iff];simp;omega
   unfold L5
   rw[oC]
   refine⟨⟨ca nW hv2,fun aK mK=> ?_⟩,fun⟨aK,fg⟩=>cI (cv hm) nW hv2 (not_eq fg)⟩
   rw[Of aL (pR (q:=fun b=>decide (b.length≠J.O.length)) nW hv2 mK)]
   have:=nW.1
   exact⟨rfl,by show v2=(v2.toNat:Int);omega⟩
  have f2:=pS (q:=fun b:List Bool=>decide (b.length≠J.O.length)) nW e2
  have zj: ∀i:Int,0≤i→i<J.O.length→(nth J.bU i).length=J.O.length:=fun i i0 i1=>by
   have:=gH nW e2 i i0 (by omega)
   simpa using this
  refine⟨c7 (dh _),fun m5 nX=>⟨fun dK=> ?_,fun Bi=> ?_⟩⟩
  ·skip
   rw[GI aL f2 (Ky fun j cl e5=>gH nX dK j cl e5)]
   exact⟨rfl,rfl⟩
  ·have wv:m5<(J.O.length:Int):=by simpa using Bi
   have oB:=nX.1
   refine⟨c7 (dh _),fun v4 pe=> ?_⟩
   unfold L4 L3
   rw[Jq nX.1 pe.1]
   have qd:=pe.1
   refine⟨fun iM=>cI (by omega) nX Bi (NL fun j cl e5=>gH pe iM j cl e5),fun yG=> ?_⟩
   have yH:v4<(J.O.length:Int):=by simpa using yG
   have fu:=zj m5 nX.1 wv
   have uP:=zj v4 pe.1 yH
   refine⟨⟨⟨⟨oB,by omega⟩,⟨qd,by omega⟩,⟨qd,by omega⟩,⟨oB,by omega⟩,fun _ _=>⟨⟨oB,by omega⟩,⟨qd,by omega⟩,fun _=>⟨⟨oB,by omega⟩,⟨qd,by omega⟩⟩⟩⟩,fun mK=> ?_⟩,fun fg=>cI (by omega) pe yG (not_eq fg)⟩
   rw[Og aL f2 (Kz oB wv (fun j cl e5=>nX.2.2 j cl e5) (Ji qd yH mK))]
   exact⟨rfl,by show m5=(m5.toNat:Int);omega⟩)
def XL:eg Try.prog:=⟨26,[.df],[.fault],none,fun x=>((hG x.1),()),fun x h=>XK x.1⟩
end Go.Proofs.Ytglpfccgmfhkdaa.Fw
