/- The machine, part G: code, loops, functions. -/
import Derived.Test.YtglpfccgmfhkdaaM3
set_option linter.unusedVariables false
namespace Go.Proofs.Ytglpfccgmfhkdaa.Fw
open Go
theorem xf {bQ:List Nat}: ∀(L:List (Nat×List AV)) (t:Nat),bQ.contains t=true→cG (jH bQ L) t=none
 | [],t,h=>rfl
 | (k,c)::L,t,h=>by
  unfold jH
  split
  ·exact xf L t h
  ·rename_i hk
   have:t≠k:=fun e=>by subst e;rw[h] at hk;cases hk
   simp only[cG,if_neg this];exact xf L t h
def xL:Bool→Bool→Bool
 | _,false=>true
 | a,true=>a
theorem CD {a b:Bool} (h:xL a b=true):b=true→a=true:=fun e=>by subst e;exact h
def hP (a b:AV):Prop:=b=a∨b= .undef∨ ∃rows full fr jp,a= .av rows full fr∧b= .av rows false jp∧(jp=true→fr=true)
theorem hP.GN {w:World} {PA PF:Nat→Prop} {rows:List (List AV)} {full fr jp:Bool} {v:Value} (ab: ∀c,PF c→PA c) (hf:jp=true→fr=true) (h:ar w PA PF (.av rows full fr) v):ar w PA PF (.av rows false jp) v:=by
 cases h with
 | av dc c2 dS bz cA hrel=>
  refine .av (fun c hc=> ?_) c2 (fun h=>by cases h) bz cA hrel
  have:=dc c hc
  cases jp with
  | true=>rw[hf rfl] at this;exact this
  | false=>
   cases fr with
   | true=>exact ab c this
   | false=>exact this
theorem hP.v1 {E:Env} {a b:AV} {v:Value} (ab: ∀c,E.PF c→E.PA c) (h:hP a b) (hv:be E a v):be E b v:=by
 rcases h with rfl | rfl | ⟨rows,full,fr,jp,rfl,rfl,hf⟩
 ·exact hv
 ·exact be.undef _ _
 ·exact hP.GN ab hf hv
theorem hP.v3 {E:Env} {a b:AV} {v:Value} (ab: ∀c,E.PF c→E.PA c) (h:hP a b) (hv:V3 E a v):V3 E b v:=by
 rcases h with rfl | rfl | ⟨rows,full,fr,jp,rfl,rfl,hf⟩
 ·exact hv
 ·exact V3.undef _ _
 ·exact hP.GN ab hf hv
theorem hP.of {a b:AV} (h:b=a∨b= .undef):hP a b:=h.imp_right .inl
theorem Weak.Rm [bF] {T T':List AV} {L:List (Nat×List AV)} {H:List Blk} (ak:T'.length=T.length) (h: ∀t,hP (T.getD t .undef) (T'.getD t .undef)):Weak ⟨T,L,H⟩ ⟨T',L,H⟩:=fun bx E tmps g s=>
 ⟨E,rfl,g,s.h,s.l,fun t=>(h t).v3 s.h.ck (s.fy t),by show T'.length=_;rw[ak];exact s.size⟩
theorem Weak.cells [bF] {T:List AV} {L L':List (Nat×List AV)} {H:List Blk} (aY: ∀t cells,cG L t=some cells→ ∃eE,cG L' t=some eE∧eE.length=cells.length∧ ∀(i:Nat) (a:AV),eE[i]?=some a→ ∃b,cells[i]?=some b∧hP b a):Weak ⟨T,L,H⟩ ⟨T,L',H⟩:=fun bx E tmps g s=>
 ⟨E,rfl,g,s.h,fun t c hm=>by
  obtain⟨cells,ad,ty,q1,q2,q3⟩:=s.l t c hm
  obtain⟨eE,cL,dd,ez⟩:=aY t cells q1
  refine⟨eE,ad,ty,cL,q2,by rw[dd];exact q3.1,fun i a v ai hv=> ?_⟩
  obtain⟨b,hb,q⟩:=ez i a ai
  exact q.v1 s.h.ck (q3.2 i b v hb hv),s.fy,s.size⟩
theorem Ss [bF] {T T':List AV} {L L':List (Nat×List AV)} {H:List Blk} (ak:T'.length=T.length) (bu: ∀t,hP (T.getD t .undef) (T'.getD t .undef)) (bQ:List Nat) (ab:T'.all (ks bQ)=true)
  (aY: ∀t cells,bQ.contains t=false→cG L t=some cells→ ∃eE,cG L' t=some eE∧eE.length=cells.length∧ ∀(i:Nat) (a:AV),eE[i]?=some a→ ∃b,cells[i]?=some b∧hP b a):Weak ⟨T,L,H⟩ ⟨T',L',H⟩:=by
 refine(Weak.Rm ak bu).trans ((Weak.jH bQ ab).trans (Weak.cells fun t cells h=> ?_))
 cases aC:bQ.contains t with
 | true=>rw[xf L t aC] at h;cases h
 | false=>rw[tu L t aC] at h;exact aY t cells aC h
theorem Fh (l:List (Nat×TV)) (k:Nat) (d:TV):(∃v,(k,v)∈l∧eS l k d=v)∨eS l k d=d:=by
 induction l with
 | nil=>exact .inr rfl
 | cons p r aT=>
  obtain⟨a,w⟩:=p
  rw[eZ]
  by_cases e:a=k
  ·subst e;exact .inl ⟨w,List.mem_cons_self ..,if_pos rfl⟩
  ·rw[if_neg e]
   rcases aT with⟨v,h1,h2⟩ | h
   ·exact .inl ⟨v,List.mem_cons_of_mem _ h1,h2⟩
   ·exact .inr h
theorem wT (s:TS) (v:Nat): ∀(c m:Nat),(fk s v c m).length=m
 | _,0=>rfl
 | c,m+1=>by rw[fk,List.length_cons,wT s v (c+1) m]
theorem tl (s:TS) (v:Nat): ∀(m c i:Nat),(bN (fk s v c m))[i]?=if i<m then some (s.get (iJ v (c+i))).aH else none
 | 0,c,i=>by simp[fk,bN]
 | m+1,c,i=>by
  rw[fk,bN]
  cases i with
  | zero=>simp
  | succ i=>
   rw[List.getElem?_cons_succ,tl s v m (c+1) i,show c+1+i=c+(i+1) by omega]
   by_cases h:i<m
   ·rw[if_pos h,if_pos (by omega)]
   ·rw[if_neg h,if_neg (by omega)]
theorem vv [FZ] (n:Nat) (s:TS):s.ac n=⟨(s.ac n).T,(s.ac n).L,(s.ac n).H⟩:=rfl
theorem HV [bF] [FZ] {n:Nat} {s S:TS} (eJ:fW S=fW s) (bu: ∀t,t<n→hP (s.get t).aH (S.get t).aH) (bQ:List Nat) (ab:(S.ac n).T.all (ks bQ)=true)
  (hv: ∀v m,bQ.contains v=false→hp s.vs v=some m→hp S.vs v=some m∧ ∀c,hP (s.get (iJ v c)).aH (S.get (iJ v c)).aH)
  (hb:S.aB=s.aB) (cH: ∀b,b<s.aB→(S.get (bc b)).dv=(s.get (bc b)).dv):Weak (s.ac n) (S.ac n):=by
 have ag:(S.ac n).H=(s.ac n).H:=by
  show S.ei++eW S=s.ei++eW s
  have e2:eW S=eW s:=by unfold eW;rw[eJ]
  rw[e2]
  congr 1
  apply List.ext_getElem?
  intro b
  rw[lf,lf,hb]
  by_cases h:b<s.aB
  ·rw[if_pos h,if_pos h,cH b h]
  ·rw[if_neg h,if_neg h]
 rw[vv n s,vv n S,ag]
 refine Ss (by show((List.range n).map _).length=((List.range n).map _).length;simp) (fun t=> ?_) bQ ab fun t cells aC h=> ?_
 ·rw[sq,sq]
  by_cases h:t<n
  ·rw[if_pos h,if_pos h];exact bu t h
  ·rw[if_neg h,if_neg h];exact .inl rfl
 ·rw[oW] at h
  cases hm:hp s.vs t with
  | none=>rw[hm] at h;cases h
  | some m=>
   rw[hm] at h
   cases h
   obtain⟨q1,q2⟩:=hv t m aC hm
   refine⟨bN (fk S t 0 m),by rw[oW,q1];rfl,?_,fun i a ai=> ?_⟩
   ·show(bN _).length=(bN _).length
    rw[jC,jC,List.length_map,List.length_map,wT,wT]
   ·rw[tl] at ai ⊢
    by_cases hi:i<m
    ·rw[if_pos hi] at ai ⊢
     cases ai
     exact⟨_,rfl,q2 (0+i)⟩
    ·rw[if_neg hi] at ai;cases ai
theorem PL (l:List AV):l.all (ks [])=true:=by
 have aA: ∀a,oA [] a=true:=fun a=>by cases a<;>rfl
 have h1: ∀a,nj [] a=true:=fun a=>by
  unfold nj
  split
  ·exact List.all_eq_true.2 fun x _=>aA x
  ·exact aA _
 have h2: ∀a,nk [] a=true:=fun a=>by
  unfold nk
  split
  ·exact List.all_eq_true.2 fun x _=>h1 x
  ·exact h1 _
 have ao: ∀a,ks [] a=true:=fun a=>by
  unfold ks
  split
  ·exact List.all_eq_true.2 fun x _=>h2 x
  ·exact h2 _
 exact List.all_eq_true.2 fun x _=>ao x
theorem Fits.le [FZ] {s S:TS} (h:s.ev S) (f:Fits s):Fits S:=f.congr fun k h1 h2=>(h.get k).resolve_right fun q=>by
 rcases q with q | q
 ·have:=q.1;omega
 ·have:=q.1;omega
theorem Su [bF] [FZ] {n:Nat} (af:n≤1000000) {s S:TS} (h:s.ev S):Weak (s.ac n) (S.ac n):=by
 have Bx: ∀k,¬k<1000000→S.get k=s.get k∨(1000010≤k∧A_ (s.get k) (S.get k)):=fun k hk=>(h.get k).imp_right fun q=>q.resolve_left fun q=>hk q.1
 have ry: ∀k,¬k<1000000→(S.get k).aH=(s.get k).aH∧(S.get k).dv=(s.get k).dv:=fun k hk=>by
  rcases Bx k hk with e | ⟨_,g,c,bB,aO,e2,cg⟩
  ·rw[e];exact⟨rfl,rfl⟩
  ·rw[aO,e2]
   refine⟨rfl,?_⟩
   show Blk.mk g bB.length [bN bB]=Blk.mk g c.length [bN c]
   have ak:bB.length=c.length:=by have:=congrArg List.length cg;rwa [jC,jC,List.length_map,List.length_map] at this
   rw[cg,ak]
 have an:S.get ch=s.get ch:=(Bx ch (by unfold ch;omega)).resolve_right fun q=>by have:=q.1;unfold ch at this;omega
 refine HV (uR an) (fun t aC=> ?_) [] (PL _) (fun v m _ hm=>⟨by rw[h.vs];exact hm,fun c=> .inl (ry _ (by unfold iJ;omega)).1⟩) h.aB fun b _=>(ry _ (by unfold bc;omega)).2
 rcases h.get t with e | ⟨_,e⟩ | ⟨e,_⟩
 ·exact .inl (by rw[e])
 ·exact .of e
 ·omega
inductive iv:Type 1 where
 | nil
 | wH (a b:iv)
 | lp (ia:List (Nat×Nat×aq)) (b3:List Nat) (hF:List (Nat×Nat)) (gZ:List aq) (rd:List Nat) (fT:bR gZ→List (Nat×TV)) (I:bR gZ→Prop) (m:bR gZ→Nat) (b:bR gZ→iv)
def iv.fst:iv→iv
 | .wH a _=>a
 | a=>a
def iv.snd:iv→iv
 | .wH _ b=>b
 | a=>a
def wv:(gZ:List aq)→(bR gZ→aj)→aj
 | [],F=>F ()
 | e::r,F=> .all e.T fun x=>wv r fun y=>F (x,y)
theorem Bj {R:Exit→TS→Prop}: ∀{gZ:List aq} {F:bR gZ→aj},(wv gZ F).den R→ ∀v,(F v).den R
 | [],F,h,()=>h
 | e::r,F,h,(x,y)=>Bj (h x) y
def zO:(e:aq)→TV→(e.T→aj)→aj
 | .int,v,K=>(match v with
  | .i _ m=>K m
  | _=> .no)
 | .u64,v,K=>(match v with
  | .i _ m=>K m
  | _=> .no)
 | .bool,v,K=>(match v with
  | .b x=>K x.den
  | _=> .no)
 | .str,v,K=>(match v with
  | .s x=>K x
  | _=> .no)
 | .nat,v,K=>(match v with
  | .blk g _ _ _ _=>K g
  | _=> .no)
 | .eG,v,K=>(match v with
  | .ds _ c=>K (aq.mk .eG (kR aq.eG.a6 c))
  | _=> .no)
 | .l e,v,K=>(match v with
  | .l bf xs _ _=>if h:bf=e then K (ig h xs) else .no
  | .blk _ bf xs _ _=>if h:bf=e then K (ig h xs) else .no
  | .nil _ _=>K []
  | _=> .no)
 | _,_,_=> .no
def vd (s:TS):(gZ:List aq)→List Nat→(bR gZ→aj)→aj
 | [],_,K=>K ()
 | e::r,k::uF,K=>zO e (s.get k) fun x=>vd s r uF fun y=>K (x,y)
 | _,_,_=> .no
theorem QL {R:Exit→TS→Prop} {e:aq} {v:TV} {K:e.T→aj} (h:(zO e v K).den R): ∃x,(K x).den R:=by
 cases e with
 | int=>
  have h:(match v with
   | .i _ m=>K m
   | _=>aj.no).den R:=h
  split at h
  ·exact⟨_,h⟩
  ·exact h.elim
 | u64=>
  have h:(match v with
   | .i _ m=>K m
   | _=>aj.no).den R:=h
  split at h
  ·exact⟨_,h⟩
  ·exact h.elim
 | bool=>
  have h:(match v with
   | .b x=>K x.den
   | _=>aj.no).den R:=h
  split at h
  ·exact⟨_,h⟩
  ·exact h.elim
 | str=>
  have h:(match v with
   | .s x=>K x
   | _=>aj.no).den R:=h
  split at h
  ·exact⟨_,h⟩
  ·exact h.elim
 | nat=>
  have h:(match v with
   | .blk g _ _ _ _=>K g
   | _=>aj.no).den R:=h
  split at h
  ·exact⟨_,h⟩
  ·exact h.elim
 | eG=>
  have h:(match v with
   | .ds _ c=>K (aq.mk .eG (kR aq.eG.a6 c))
   | _=>aj.no).den R:=h
  split at h
  ·exact⟨_,h⟩
  ·exact h.elim
 | l e=>
  have h:(match v with
   | .l bf xs _ _=>if h:bf=e then K (ig h xs) else aj.no
   | .blk _ bf xs _ _=>if h:bf=e then K (ig h xs) else aj.no
   | .nil _ _=>K []
   | _=>aj.no).den R:=h
  split at h
  ·split at h
   ·exact⟨_,h⟩
   ·exact h.elim
  ·split at h
   ·exact⟨_,h⟩
   ·exact h.elim
  ·exact⟨_,h⟩
  ·exact h.elim
 | _=>exact h.elim
theorem zP {R:Exit→TS→Prop} {s:TS}: ∀{gZ:List aq} {uF:List Nat} {K:bR gZ→aj},(vd s gZ uF K).den R→ ∃v,(K v).den R
 | [],_,K,h=>⟨(),h⟩
 | e::r,k::uF,K,h=>by
  obtain⟨x,h⟩:=QL (show(zO e (s.get k) _).den R from h)
  obtain⟨y,h⟩:=zP h
  exact⟨(x,y),h⟩
 | e::r,[],K,h=>h.elim
def wX (s:TS) (k:Nat) (w:TV) (t:aj):aj:=match w with
 | .ref b g m f=>(match s.get k with
  | .ref bC cc dg tH=>(match s.get (bc b) with
   | .blk _ _ xs Fz _=> .eq bC b (.eq tH f (.eq cc g (.eq dg Fz (.eq m xs.length t))))
   | _=> .no)
  | _=> .no)
 | .blk g e xs _ _=>(match s.get k with
  | .blk cc bf o4 _ _=>if h:bf=e then .eq cc g (.eq (ig h o4) xs t) else .no
  | _=> .no)
 | .b y=>(match s.get k with
  | .b x=> .eq x.den y.den t
  | _=> .no)
 | .ds g c=>(match s.get k with
  | .ds cc bB=> .eq cc g (.eq (bN bB) (bN c) (.eq bB.length c.length t))
  | _=> .no)
 | .l e xs cn fr=>(match cn with
  | true=> .eq (s.get k) (.l e xs true fr) t
  | false=>match s.get k with
   | .l bf o4 _ jp=>if h:bf=e then .eq (xL jp fr) true (.eq (ig h o4) xs t) else .no
   | .nil _ jp=> .eq (xL jp fr) true (.eq [] xs t)
   | _=> .no)
 | w=> .eq (s.get k) w t
def uB:TV→Bool
 | .blk _ _ _ _ _=>true
 | .ds _ _=>true
 | .gV _ _ _=>true
 | _=>false
def yS:TV→Bool
 | .eI _ _ _ _=>true
 | .new _ _=>true
 | _=>false
theorem JA [FZ] {R:Exit→TS→Prop} {s:TS} {k:Nat} {w:TV} {t:aj} (h:(wX s k w t).den R):(hP (s.get k).aH w.aH∧(uB w=true→w.dv=(s.get k).dv)∧(yS w=true→s.get k=w))∧t.den R:=by
 unfold wX at h
 split at h
 ·split at h
  ·rename_i bC cc dg tH hk
   split at h
   ·rename_i g0 iB xs Fz ak hb
    obtain⟨h1,h2,ao,a8,cw,cZ⟩:=h
    subst h1;subst h2;subst ao;subst a8;subst cw
    refine⟨⟨.inl ?_,(fun q=>by cases q),fun q=>by cases q⟩,cZ⟩
    rw[hk,ak]
   ·exact h.elim
  ·exact h.elim
 ·split at h
  ·rename_i cc bf o4 dg uc hk
   split at h
   ·rename_i he
    subst he
    obtain⟨h1,h2,ao⟩:=h
    subst h1
    have h2:o4=_:=h2
    subst h2
    refine⟨⟨.inl ?_,fun _=> ?_,fun q=>by cases q⟩,ao⟩<;>rw[hk]<;>rfl
   ·exact h.elim
  ·exact h.elim
 ·split at h
  ·rename_i y _ x hk
   obtain⟨h1,h2⟩:=h
   refine⟨⟨.inl ?_,(fun q=>by cases q),fun q=>by cases q⟩,h2⟩
   rw[hk];show AV.bool y.den= .bool x.den;rw[h1]
  ·exact h.elim
 ·split at h
  ·rename_i cc bB hk
   obtain⟨h1,h2,ao,a8⟩:=h
   refine⟨⟨.inl (by rw[hk];rfl),fun _=> ?_,fun q=>by cases q⟩,a8⟩
   rw[hk]
   show(⟨_,_,_⟩:Blk)=⟨_,_,_⟩
   rw[h1,h2,ao]
  ·exact h.elim
 ·split at h
  ·obtain⟨h1,h2⟩:=h
   exact⟨⟨.inl (by rw[h1]),(fun _=>by rw[h1]),fun _=>h1⟩,h2⟩
  ·split at h
   ·rename_i bf o4 Lj jp hk
    split at h
    ·rename_i he
     subst he
     obtain⟨h1,h2,ao⟩:=h
     have h2:o4=_:=h2
     subst h2
     exact⟨⟨.inr (.inr ⟨_,_,_,_,by rw[hk];rfl,rfl,CD h1⟩),(fun q=>by cases q),fun q=>by cases q⟩,ao⟩
    ·exact h.elim
   ·rename_i Lj jp hk
    obtain⟨h1,h2,ao⟩:=h
    subst h2
    exact⟨⟨.inr (.inr ⟨[],_,_,_,by rw[hk];rfl,rfl,CD h1⟩),(fun q=>by cases q),fun q=>by cases q⟩,ao⟩
   ·exact h.elim
 ·obtain⟨h1,h2⟩:=h
  exact⟨⟨.inl (by rw[h1]),(fun _=>by rw[h1]),fun _=>h1⟩,h2⟩
def wY (s:TS):List (Nat×TV)→aj→aj
 | [],t=>t
 | (k,w)::r,t=>wX s k w (wY s r t)
theorem BS [FZ] {R:Exit→TS→Prop} {s:TS} {t:aj}: ∀{l:List (Nat×TV)},(wY s l t).den R→(∀k w,(k,w)∈l→hP (s.get k).aH w.aH∧(uB w=true→w.dv=(s.get k).dv)∧(yS w=true→s.get k=w))∧t.den R
 | [],h=>⟨(fun k w h=>by cases h),h⟩
 | (k,w)::r,h=>by
  obtain⟨h1,h2⟩:=JA h
  obtain⟨ao,a8⟩:=BS h2
  refine⟨fun gl w' hm=> ?_,a8⟩
  rcases List.mem_cons.1 hm with e | hm
  ·cases e;exact h1
  ·exact ao gl w' hm
def vx (vs:List (Nat×Nat)):List (Nat×Nat)→Bool
 | []=>true
 | (v,m)::r=>(match hp vs v with
  | some dg=>Nat.beq m dg
  | none=>false)&&vx vs r
def sZ (s:TS):Nat→Bool
 | 0=>true
 | b+1=>uB (s.get (bc b))&&sZ s b
def py (hF:List (Nat×Nat)):List (Nat×Nat)→List Nat
 | []=>[]
 | (v,_)::r=>match(hp hF v).isSome with
  | true=>py hF r
  | false=>v::py hF r
def x8 (s S:TS) (t:aj):aj:=
 .eq (vx s.vs S.vs) true (.eq (Nat.beq S.aB s.aB) true (.eq (sZ S s.aB) true (.eq (S.T.all fun p=>ks (py S.vs s.vs) p.2.aH) true (.eq (fW S) (fW s) (wY s S.T t)))))
theorem y9: ∀{l:List (Nat×Nat)} {v m:Nat},hp l v=some m→(v,m)∈l
 | [],_,_,h=>by cases h
 | (k,dg)::r,v,m,h=>by
  unfold hp at h
  split at h
  ·rename_i hk;cases h;rw[Nat.eq_of_beq_eq_true hk];exact List.mem_cons_self ..
  ·exact List.mem_cons_of_mem _ (y9 h)
theorem xg {hF:List (Nat×Nat)}: ∀{l:List (Nat×Nat)} {v m:Nat},(py hF l).contains v=false→(v,m)∈l→(hp hF v).isSome=true
 | [],_,_,_,h=>by cases h
 | (k,dg)::r,v,m,aL,h=>by
  unfold py at aL
  split at aL
  ·rename_i hk
   rcases List.mem_cons.1 h with e | h
   ·cases e;exact hk
   ·exact xg aL h
  ·rename_i hk
   simp only[List.contains_cons,Bool.or_eq_false_iff] at aL
   rcases List.mem_cons.1 h with e | h
   ·cases e;simp at aL
   ·exact xg aL.2 h
theorem HA {vs:List (Nat×Nat)}: ∀{l:List (Nat×Nat)},vx vs l=true→ ∀v m,(v,m)∈l→hp vs v=some m
 | [],_,_,_,h=>by cases h
 | (k,dg)::r,hs,v,m,h=>by
  simp only[vx,Bool.and_eq_true] at hs
  rcases List.mem_cons.1 h with e | h
  ·cases e
   have h1:=hs.1
   split at h1
   ·rename_i bO hm;rw[hm,Nat.eq_of_beq_eq_true h1]
   ·cases h1
  ·exact HA hs.2 v m h
theorem Bi {s:TS}: ∀{n:Nat},sZ s n=true→ ∀b,b<n→uB (s.get (bc b))=true
 | 0,_,b,h=>by omega
 | n+1,hs,b,h=>by
  simp only[sZ,Bool.and_eq_true] at hs
  rcases Nat.lt_or_ge b n with q | q
  ·exact Bi hs.2 b q
  ·have:b=n:=by omega
   subst this;exact hs.1
theorem Db [bF] [FZ] {n:Nat} {s S:TS} {t:aj} {R:Exit→TS→Prop} (cH:S.B=[]) (an:Fits s) (h:(x8 s S t).den R):Weak (s.ac n) (S.ac n)∧Fits S∧t.den R:=by
 obtain⟨h1,h2,ao,a8,eJ,cw⟩:=h
 obtain⟨cZ,iT⟩:=BS cw
 have pO:=Nat.eq_of_beq_eq_true h2
 have eP: ∀k,(∃v,(k,v)∈S.T∧S.get k=v)∨S.get k= .u:=fun k=>by
  unfold TS.get;rw[cH];exact Fh ..
 have C6: ∀k,hP (s.get k).aH (S.get k).aH:=fun k=>by
  rcases eP k with⟨v,hm,e⟩ | e
  ·rw[e];exact(cZ k v hm).1
  ·rw[e];exact .inr (.inl rfl)
 have pS: ∀k,yS (S.get k)=true→s.get k=S.get k:=fun k hk=>by
  rcases eP k with⟨v,hm,e⟩ | e
  ·rw[e] at hk ⊢;exact(cZ k v hm).2.2 hk
  ·rw[e] at hk;cases hk
 have LS:Fits S:=fun V ids gm h' jq=>by
  have e:=pS ch (by rw[jq];rfl)
  obtain⟨q1,q2,q3⟩:=an V ids gm h' (by rw[e,jq])
  exact⟨q1,q2,fun id xs gh=>q3 id xs (by rw[pS dT (by rw[gh];rfl),gh])⟩
 refine⟨HV eJ (fun t _=>C6 t) (py S.vs s.vs) ?_ (fun v m aL hm=> ?_) pO (fun b hb=> ?_),LS,iT⟩
 ·rw[List.all_eq_true]
  intro a ai
  obtain⟨k,_,rfl⟩:=List.mem_map.1 (show a∈(List.range n).map fun t=>(S.get t).aH from ai)
  rcases eP k with⟨v,hm,e⟩ | e
  ·rw[e];exact List.all_eq_true.1 a8 (k,v) hm
  ·rw[e];rfl
 ·have hs:=xg aL (y9 hm)
  cases al:hp S.vs v with
  | none=>rw[al] at hs;cases hs
  | some dg=>
   have:=HA h1 v dg (y9 al)
   rw[hm] at this
   cases this
   exact⟨rfl,fun c=>C6 _⟩
 ·have hi:=Bi ao b hb
  rcases eP (bc b) with⟨v,hm,e⟩ | e
  ·rw[e] at hi ⊢;exact(cZ _ v hm).2.1 hi
  ·rw[e] at hi;cases hi
def tF (s:TS):Nat→Nat→List (Nat×TV)
 | _,0=>[]
 | b,k+1=>(bc b,s.get (bc b))::tF s (b+1) k
def iP (s S:TS):TS:=⟨S.T++tF s S.aB (s.aB - S.aB),[],S.vs,s.aB⟩
def Gn (n:Nat):TV→Bool
 | .ds _ c=>(bN c).all (lc n)
 | .gV _ _ _=>false
 | _=>true
def BZ (gz:Option Nat) (S:TS) (m:Nat):Bool:=match gz with
 | some k=>Nat.ble k S.aB&&Nat.ble S.aB m&&fW S&&S.T.all fun p=>ql S.aB p.2.aH&&Gn S.aB p.2
 | none=>false
def toHead (gz:Option Nat) (s S:TS) (t:aj):aj:=match Nat.beq S.aB s.aB with
 | true=>x8 s S t
 | false=>x8 s (iP s S) (.eq (iP s S).bw S.bw (.eq (BZ gz S s.aB) true t))
theorem Ck (s:TS): ∀(k b:Nat) (j:Nat),(j<bc b)→ ∀v,(j,v) ∉ tF s b k
 | 0,b,j,h,v,hm=>by cases hm
 | k+1,b,j,h,v,hm=>by
  rcases List.mem_cons.1 hm with e | hm
  ·cases e;exact absurd h (Nat.lt_irrefl _)
  ·exact Ck s k (b+1) j (by unfold bc at h ⊢;omega) v hm
theorem Sw {s S:TS} (cH:S.B=[]) {j:Nat} (h:j<bc S.aB):(iP s S).get j=S.get j:=by
 show eS (S.T++tF s S.aB (s.aB - S.aB)) j (eS [] j .u)=eS S.T j (eS S.B j .u)
 rw[oz,cH,ni (Ck s _ _ j h)]
theorem Kb {n:Nat} (fr:Bool) (e:aq) (x:e.T):(bD fr e x).all (lc n)=true:=by cases e<;>rfl
theorem QX {n:Nat} {a:AV} (h:ql n a=true):lc n a=true:=by cases a<;>first | exact h | rfl
theorem toHead_sound [fQ:bF] [FZ] {n:Nat} (af:n≤1000000) {gz:Option Nat} (hg: ∀k,gz=some k→fQ.n≤k) {s S:TS} {t:aj} {R:Exit→TS→Prop} (cH:S.B=[]) (an:Fits s) (h:(toHead gz s S t).den R):Weak (s.ac n) (S.ac n)∧Fits S∧t.den R:=by
 unfold toHead at h
 split at h
 ·exact Db cH an h
 ·obtain⟨w,hf,eV,h1,h2⟩:=Db (n:=n) (S:=iP s S) rfl an h
  unfold BZ at h1
  split at h1
  ·rename_i k
   simp only[Bool.and_eq_true] at h1
   obtain⟨⟨⟨q1,q2⟩,q3⟩,q4⟩:=h1
   have q1:=Nat.le_of_ble_eq_true q1
   have q2:=Nat.le_of_ble_eq_true q2
   have aJ: ∀j,j<bc S.aB→(iP s S).get j=S.get j:=fun j h=>Sw cH h
   have ub: ∀b,b<S.aB→bc b<bc S.aB:=fun b h=>by unfold bc;omega
   have Ng:ch<bc S.aB:=by unfold ch bc;omega
   have MF:fW (iP s S)=true:=by rw[uR (aJ ch Ng)];exact q3
   have eT:(iP s S).tT n=S.tT n:=List.map_congr_left fun t aC=>by rw[aJ t (by have:=List.mem_range.1 aC;unfold bc;omega)]
   have eP: ∀k,(∃v,(k,v)∈S.T∧S.get k=v)∨S.get k= .u:=fun k=>by
    unfold TS.get;rw[cH];exact Fh ..
   have yp: ∀k,ql S.aB (S.get k).aH=true∧Gn S.aB (S.get k)=true:=fun k=>by
    rcases eP k with⟨v,hm,e⟩ | e
    ·have:=List.all_eq_true.1 q4 _ hm
     rw[Bool.and_eq_true] at this
     rw[e];exact this
    ·rw[e];exact⟨rfl,rfl⟩
   have ag: ∀b,((iP s S).ac n).H[b]?=if b<s.aB then some ((iP s S).get (bc b)).dv else none:=fun b=>by
    show((iP s S).ei++eW (iP s S))[b]?=_
    have:eW (iP s S)=[]:=by unfold eW;rw[MF]
    rw[this,List.append_nil,lf];rfl
   have B2:=Weak.cut (T:=S.tT n) (L:=S.bw) (H:=((iP s S).ac n).H) S.aB (Nat.le_trans (hg k rfl) q1) (fun t=> ?_) (fun t cells hc=> ?_) (fun b blk hb ry row aa=> ?_)
   ·have aO:(iP s S).ac n=⟨S.tT n,S.bw,((iP s S).ac n).H⟩:=by rw[←eT,←eV];rfl
    have e2:(⟨S.tT n,S.bw,((iP s S).ac n).H.take S.aB⟩:St)=S.ac n:=by
     show _=(⟨S.tT n,S.bw,S.ei++eW S⟩:St)
     have:eW S=[]:=by unfold eW;rw[q3]
     rw[this,List.append_nil]
     congr 1
     apply List.ext_getElem?
     intro b
     rw[List.getElem?_take,ag,lf]
     by_cases hb:b<S.aB
     ·rw[if_pos hb,if_pos (by omega),if_pos hb,aJ _ (ub b hb)]
     ·rw[if_neg hb,if_neg hb]
    rw[aO] at w
    rw[e2] at B2
    exact⟨w.trans B2,hf.congr fun k h1 h2=>(aJ k (by unfold bc;omega)).symm,h2⟩
   ·have:=sq (n:=n) (s:=S) t
    have this:(S.tT n).getD t .undef=_:=this
    rw[this]
    split
    ·exact(yp t).1
    ·rfl
   ·have:=oW (n:=n) (s:=S) t
    have this:cG S.bw t=_:=this
    rw[this] at hc
    cases hm:hp S.vs t with
    | none=>rw[hm] at hc;cases hc
    | some m=>
     rw[hm] at hc
     cases hc
     rw[List.all_eq_true]
     intro a ai
     obtain⟨i,hi⟩:=List.mem_iff_getElem?.1 ai
     rw[tl] at hi
     split at hi
     ·cases hi;exact QX (yp _).1
     ·cases hi
   ·rw[ag,if_pos (by omega),aJ _ (ub b hb)] at ry
    cases ry
    have al:=(yp (bc b)).2
    revert aa al
    cases S.get (bc b) with
    | blk g e xs m h=>
     intro aa _
     obtain⟨x,_,rfl⟩:=List.mem_map.1 (show row∈xs.map (bD true e) from aa)
     exact Kb true e x
    | ds g c=>
     intro aa al
     rw[List.mem_singleton.1 (show row∈[bN c] from aa)];exact al
    | gV g m ids=>intro _ al;cases al
    | _=>intro aa _;cases aa
  ·cases h1
def ph (n:Nat):List (Nat×Nat×aq)→TS→(TS→aj)→aj
 | [],s,K=>K s
 | p::r,s,K=>
  let s1:=s.eD s.aB (s.aB+1) (.blk 0 p.2.2 [] 0 rfl)
  match p.1 with
  | 0=> .eq (mC (bI n s (.tmp p.2.1)).aH) true (.eq s1.bw s.bw (.eq (fW s) true (ph n r (gR n s1 (some p.2.1) (.ref s.aB 0 0 false)) K)))
  | v+1=>
   let s2:=s1.add [(iJ v p.2.1,.ref s.aB 0 0 false)] s1.vs s1.aB
   match hp s.vs v with
   | some m=> .eq (mC ((bN (fk s v 0 m)).getD p.2.1 .undef)) true (.eq s2.bw (hL s.bw v ((bN (fk s v 0 m)).set p.2.1 (.ref s.aB 0 0 0 false))) (.eq (kI [(iJ v p.2.1,.ref s.aB 0 0 false)]) true (.eq (fW s) true (ph n r s2 K))))
   | none=> .no
theorem sY [bF] [FZ] {n:Nat} (af:n≤1000000) {R:Exit→TS→Prop} {K:TS→aj}: ∀{l:List (Nat×Nat×aq)} {s:TS},Fits s→(ph n l s K).den R→ ∃s',Weak (s.ac n) (s'.ac n)∧Fits s'∧(K s').den R
 | [],s,an,h=>⟨s,.refl _,an,h⟩
 | (p,q,e)::r,s,an,h=>by
  unfold ph at h
  simp only at h
  split at h
  ·obtain⟨h1,h2,eJ,h⟩:=h
   obtain⟨s',w,hf,h⟩:=sY af (se af (lA an)) h
   refine⟨s',Weak.trans ?_ w,hf,h⟩
   have bu:(bI n s (.tmp q)).aH=(s.ac n).T.getD q .undef:=(congrFun (hH n s) (.tmp q)).symm
   rw[bu] at h1
   have:=Weak.Ix q e.im (L:=(s.ac n).L) (H:=(s.ac n).H) h1
   rw[sf af]
   show Weak _ ⟨putA ((s.eD s.aB (s.aB+1) _).tT n) _ _,(s.eD s.aB (s.aB+1) _).bw,((s.eD s.aB (s.aB+1) _).ac n).H⟩
   rw[lz af,h2,tb eJ]
   rw[vw eJ] at this
   exact this
  ·rename_i v
   split at h
   ·rename_i m hm
    obtain⟨h1,h2,cH,eJ,h⟩:=h
    obtain⟨s',w,hf,h⟩:=sY af (qY cH (lA an)) h
    refine⟨s',Weak.trans ?_ w,hf,h⟩
    have:=Weak.qZ v q e.im (T:=(s.ac n).T) (H:=(s.ac n).H) (show cG (s.ac n).L v=some (bN (fk s v 0 m)) by rw[oW,hm];rfl) h1
    rw[vw eJ] at this
    show Weak _ ⟨(TS.add _ _ _ _).tT n,(TS.add _ _ _ _).bw,((TS.add _ _ _ _).ac n).H⟩
    rw[h2,qX af cH,lz af]
    have cg:=qW (n:=n) (s:=s.eD s.aB (s.aB+1) (.blk 0 e [] 0 rfl)) (vs:=(s.eD s.aB (s.aB+1) (.blk 0 e [] 0 rfl)).vs) cH
    rw[cg,tb eJ]
    exact this
   ·exact h.elim
theorem Ka {e:aq} (h:e.ku=true) (x:e.T): ∀a∈bD true e x,gb a=true∧jM a=true:=by
 have key:(bD true e x).all (fun a=>gb a&&jM a)=true:=by cases e<;>first | rfl | cases h
 intro a ai
 have:=List.all_eq_true.1 key a ai
 rwa [Bool.and_eq_true] at this
theorem Sf (e:aq) (x:e.T):(bD true e x).map fO=bD false e x:=by
 rw[←jo,←jo]
 have key: ∀(es:List aq) (y:bR es),(fL true es y).map fO=fL false es y:=by
  intro es
  induction es with
  | nil=>intro y;rfl
  | cons e r aT=>
   intro y
   show fO (gf true e y.1)::(fL true r y.2).map fO=_
   rw[aT,fL]
   congr 1
   cases e<;>rfl
 exact key _ _
def rf (gz:Option Nat) (n:Nat):List (Nat×Nat)→TS→(TS→aj)→aj
 | [],s,K=>K s
 | p::r,s,K=>match s.get (match p.1 with
   | 0=>p.2
   | v+1=>iJ v p.2) with
  | .ref b g m _=>(match gz with
   | some k=>(match Nat.ble k b with
    | true=>mc s b g fun e xs dg h=>
     let s1:=s.eD b s.aB (.blk (g+1) e [] 0 rfl)
     match p.1 with
     | 0=> .eq (Nat.blt p.2 n) true (.eq dg m (.eq e.ku true (.eq s1.bw s.bw (.p (xs.length≤4611686018427387904) (rf gz n r (gR n s1 (some p.2) (.l e xs false true)) K)))))
     | v+1=>
      let s2:=s1.add [(iJ v p.2,.l e xs false true)] s1.vs s1.aB
      match hp s.vs v with
      | some fc=> .eq (Nat.blt p.2 fc&&kI [(iJ v p.2,TV.l e xs false true)]) true (.eq dg m (.eq e.ku true (.eq s2.bw (hL s.bw v ((bN (fk s v 0 fc)).set p.2 (TV.l e xs false true).aH)) (.p (xs.length≤4611686018427387904) (rf gz n r s2 K)))))
      | none=> .no
    | false=> .no)
   | none=> .no)
  | _=> .no
theorem xM [fQ:bF] [FZ] {n:Nat} (af:n≤1000000) {gz:Option Nat} (hg: ∀k,gz=some k→fQ.n≤k) {R:Exit→TS→Prop} {K:TS→aj}: ∀{l:List (Nat×Nat)} {s:TS},Fits s→(rf gz n l s K).den R→ ∃s',Weak (s.ac n) (s'.ac n)∧Fits s'∧(K s').den R
 | [],s,an,h=>⟨s,.refl _,an,h⟩
 | (p,q)::r,s,an,h=>by
  unfold rf at h
  simp only at h
  split at h
  ·rename_i b g m cn ki
   split at h
   ·rename_i k
    split at h
    ·rename_i ub
     have C1:=Nat.le_trans (hg k rfl) (Nat.le_of_ble_eq_true ub)
     obtain⟨e,xs,dg,hm,h,hb,ag⟩:=pk (n:=n) h
     have ec: ∀row∈xs.map (bD true e),e.ku=true→ ∀a∈row,gb a=true∧jM a=true:=fun row aa br a ai=>by
      obtain⟨x,_,rfl⟩:=List.mem_map.1 aa
      exact Ka br x a ai
     have lP:(xs.map (bD true e)).map (fun row=>row.map fO)=xs.map (bD false e):=by
      rw[List.map_map];exact List.map_congr_left fun x _=>Sf e x
     cases p with
     | zero=>
      obtain⟨aA,h1,h2,ao,a8,h⟩:=h
      replace ki:s.get q= .ref b g m cn:=ki
      obtain⟨s',w,hf,h⟩:=xM af hg (se af (lA an)) h
      refine⟨s',Weak.trans ?_ w,hf,h⟩
      have al:q<n:=by rw[Nat.blt_eq] at aA;exact aA
      have bu:(s.ac n).T.getD q .undef= .ref b g 0 m cn:=by
       rw[sq,if_pos al,ki];rfl
      have:=Weak.Li q (L:=(s.ac n).L) bu (by rw[List.length_map,←h1];exact hm.symm) ag C1 (fun row aa a ai=>ec row aa h2 a ai) (by rw[List.length_map];exact a8)
      rw[lP] at this
      rw[sf af]
      show Weak _ ⟨putA ((s.eD b s.aB _).tT n) _ _,(s.eD b s.aB _).bw,((s.eD b s.aB _).ac n).H⟩
      rw[lz af,ao,pj hb]
      exact this
     | succ v=>
      replace ki:s.get (iJ v q)= .ref b g m cn:=ki
      simp only at h
      split at h
      ·rename_i fc ms
       obtain⟨aA,h1,h2,ao,a8,h⟩:=h
       rw[Bool.and_eq_true,Nat.blt_eq] at aA
       obtain⟨s',w,hf,h⟩:=xM af hg (qY aA.2 (lA an)) h
       refine⟨s',Weak.trans ?_ w,hf,h⟩
       have hc:cG (s.ac n).L v=some (bN (fk s v 0 fc)):=by rw[oW,ms];rfl
       have bu:(bN (fk s v 0 fc)).getD q .undef= .ref b g 0 m cn:=by
        rw[List.getD_eq_getElem?_getD,tl,if_pos aA.1,Nat.zero_add,ki];rfl
       have:=Weak.Lh v q (T:=(s.ac n).T) hc bu (by rw[List.length_map,←h1];exact hm.symm) ag C1 (fun row aa a ai=>ec row aa h2 a ai) (by rw[List.length_map];exact a8)
       rw[lP] at this
       show Weak _ ⟨(TS.add _ _ _ _).tT n,(TS.add _ _ _ _).bw,((TS.add _ _ _ _).ac n).H⟩
       have cg:=qW (n:=n) (s:=s.eD b s.aB (.blk (g+1) e [] 0 rfl)) (vs:=(s.eD b s.aB (.blk (g+1) e [] 0 rfl)).vs) aA.2
       rw[ao,qX af aA.2,lz af,cg,pj hb]
       exact this
      ·exact h.elim
    ·exact h.elim
   ·exact h.elim
  ·exact h.elim
def D8 (k:Nat):List (Nat×TV)→Bool
 | []=>false
 | p::r=>match Nat.beq p.1 k with
  | true=>true
  | false=>D8 k r
def yX (s:TS) (fT:List (Nat×TV)):List Nat→List (Nat×TV)
 | []=>[]
 | k::r=>match D8 k fT with
  | true=>yX s fT r
  | false=>(k,s.get k)::yX s fT r
def HR (v:Nat):Nat→Nat→List Nat
 | _,0=>[]
 | c,m+1=>iJ v c::HR v (c+1) m
def Ee:List (Nat×Nat)→List Nat
 | []=>[]
 | p::r=>HR p.1 0 p.2++Ee r
def BC:Nat→List Nat
 | 0=>[]
 | b+1=>bc b::BC b
def fb (b3:List Nat) (hF:List (Nat×Nat)) (k:Nat) (I:Int→Prop) (m:Int→Nat) (b:Int→iv):iv:= .lp [] b3 hF [.int] [k] (fun v=>[(k,.i .i64 v.1)]) (fun v=>I v.1) (fun v=>m v.1) fun v=>b v.1
def aj.tG:aj→Bool
 | .ho ex _=>(match ex with
  | .normal=>false
  | _=>true)
 | .fh | .no | .all _ _=>false
 | .p _ t | .gw _ t | .eq _ _ t=>t.tG
 | .fM _ _ x y | .two x y | .e_ x _ _ y=>(match x.tG with
  | true=>true
  | false=>y.tG)
def n_:Code→Bool
 | .loop _=>true
 | .seq x y=>n_ x || n_ y
 | .cond _ x y=>n_ x || n_ y
 | .block _ x=>n_ x
 | .scope x=>n_ x
 | _=>false
def xt (gn:List (List (Nat×TV)×List (Nat×TV))) (t:aj):aj:=match gn with
 | []=>t
 | p::r=> .eq p.1 p.2 (xt r t)
theorem Cb {R:Exit→TS→Prop} {t:aj}: ∀{gn:List (List (Nat×TV)×List (Nat×TV))},(xt gn t).den R→(∀p∈gn,p.1=p.2)∧t.den R
 | [],h=>⟨(fun p h=>by cases h),h⟩
 | p::r,h=>by
  obtain⟨h1,h2⟩:=h
  obtain⟨ao,a8⟩:=Cb h2
  exact⟨fun q al=>by
   rcases List.mem_cons.1 al with rfl | al
   ·exact h1
   ·exact ao q al,a8⟩
structure sT (P:Program) where
 len:List Nat
 JT:List (Nat×List Item×List (List Nat))
 kA:List (mS P)
 vC:List (lj P)
 Gh:List (Nat×List (Nat×Nat)×List (Nat×Nat×aq))
def uI:List (Nat×List Item×List (List Nat))→Nat→(List Item→List (List Nat)→aj)→aj
 | [],_,_=> .no
 | p::r,id,K=>match Nat.beq p.1 id with
  | true=>K p.2.1 p.2.2
  | false=>uI r id K
def y8:List (Nat×List (Nat×Nat)×List (Nat×Nat×aq))→Nat→List (Nat×Nat)×List (Nat×Nat×aq)
 | [],_=>([],[])
 | p::r,id=>match Nat.beq p.1 id with
  | true=>p.2
  | false=>y8 r id
section
variable {P:Program} (cf:e7 P) (cW:sT P) (gz:Option Nat)
def rB (s:TS) (b3:List Nat) (hF:List (Nat×Nat)) (fT:List (Nat×TV)):TS:=⟨fT++yX s fT (b3++(Ee hF++(ch::BC s.aB))),[],hF,s.aB⟩
def gW:Code→TS→iv→(Exit→TS→iv→aj)→aj
 | .skip,s,a,K=>K .normal s a
 | .ret,s,a,K=>K .ret s a
 | .exit id,s,a,K=>K (.exit id) s a
 | .region id ops draw,s,a,K=>rf gz cf.n (y8 cW.Gh id).1 s fun s=>ph cf.n (y8 cW.Gh id).2 s fun s=>(match draw with
  | false=>vh cf ⟨cW.len,cW.kA,cW.vC⟩ ops ops.toList s fun s=>K .normal s a
  | true=>uI cW.JT id fun ord gD=>xe cf ⟨cW.len,cW.kA,cW.vC⟩ ops ord gD s fun s=>K .normal s a)
 | .seq x y,s,a,K=>(match n_ x with
  | true=>gW x s a fun ex s a=>match ex with
   | .normal=>gW y s a K
   | ex=>K ex s a
  | false=>match(gW x s a fun ex s _=> .ho ex s).jd with
   | .some S gn=>xt gn (.e_ ((gW x s a fun ex s _=> .ho ex s).bind fun ex s=>match ex with
    | .normal=> .fh
    | ex=>K ex s a.fst) (gW x s a fun ex s _=> .ho ex s).facts (gW x s a fun ex s _=> .ho ex s).hV (gW y S (match(gW x s a fun ex s _=> .ho ex s).tG with
    | true=>a.snd
    | false=>a) K))
   | _=>gW x s a fun ex s a=>match ex with
    | .normal=>gW y s a K
    | ex=>K ex s a)
 | .cond c x y,s,a,K=>(match bI cf.n s c with
  | .b z=>vq z s fun b s=>match b with
   | true=>gW x s a.fst K
   | false=>gW y s a.snd K
  | _=> .no)
 | .block id c,s,a,K=>gW c s a fun ex s a=>match ex with
  | .exit ed=>(match Nat.beq ed id with
   | true=>K .normal s a
   | false=>K (.exit ed) s a)
  | ex=>K ex s a
 | .loop c,s,a,K=>(match a with
  | .lp ia b3 hF gZ rd fT I m b=>ph cf.n ia s fun s=>vd s gZ rd fun v0=>toHead gz s (rB s b3 hF (fT v0)) (.p (I v0) (wv gZ fun v=> .gw (I v) (gW c (rB s b3 hF (fT v)) (b v) fun ex s' a=>match ex with
   | .normal=>vd s' gZ rd fun cM=>toHead gz s' (rB s b3 hF (fT cM)) (.p (I cM∧m cM<m v) .fh)
   | ex=>K ex s' a)))
  | _=> .no)
 | _,_,_,_=> .no
end
section
variable {P:Program} {cf:e7 P} {cW:sT P}
theorem PE {R:Exit→TS→Prop} {l:List (Nat×List Item×List (List Nat))} {id:Nat} {K:List Item→List (List Nat)→aj} (h:(uI l id K).den R): ∃o A,(K o A).den R:=by
 induction l with
 | nil=>exact h.elim
 | cons p r aT=>
  unfold uI at h
  split at h
  ·exact⟨_,_,h⟩
  ·exact aT h
theorem JU [bF] (af:cf.n≤1000000) {cW:lm P} {R:Exit→TS→Prop} {ops:Array Oper} {ord:List Item} {gD:List (List Nat)} {s:TS} {K:TS→aj} {Q:Exit→St→Prop} {id:Nat} (hK: ∀s (Z:FZ),(K s).den R→ @Fits Z s→Q .normal (@TS.ac Z cf.n s)) (Z:FZ) (an:Fits s) (h:(xe cf cW ops ord gD s K).den R):WpS P (.region id ops true) Q (s.ac cf.n):=by
 unfold xe at h
 simp only at h
 split at h
 ·exact h.elim
 ·rename_i hb
  obtain⟨h1,h2,ao,a8,cw,iT,mm,h⟩:=h
  rw[vv]
  refine WpS.Gz (esc:=[]) ord gD h1 h2 ao rfl _ iT mm ?_
  have:=GF af (Kp:=fun T L H=>Q .normal ⟨T,L,H⟩) (fun s Z hs hf=>hK s Z hs hf) ord Z _ (qY hb an) a8 h
  rw[cw,qW hb,qX af hb] at this
  exact this
theorem Sx [fQ:bF] (af:cf.n≤1000000) {gz:Option Nat} (hg: ∀k,gz=some k→fQ.n≤k): ∀(c:Code) {R:Exit→TS→Prop} {s:TS} {a:iv} {K:Exit→TS→iv→aj} {Q:Exit→St→Prop},(∀ex s a (Z:FZ),(K ex s a).den R→ @Fits Z s→Q ex (@TS.ac Z cf.n s))→ ∀Z:FZ,@Fits Z s→(gW cf cW gz c s a K).den R→WpS P c Q (@TS.ac Z cf.n s):=by
 intro c
 induction c with
 | skip=>intro R s a K Q hK Z an h;exact WpS.skip (hK _ _ _ Z h an)
 | ret=>intro R s a K Q hK Z an h;exact WpS.ret (hK _ _ _ Z h an)
 | exit id=>intro R s a K Q hK Z an h;exact WpS.exit (hK _ _ _ Z h an)
 | region id ops draw=>
  intro R s a K Q hK Z an h
  obtain⟨s1,bX,oq,h⟩:=xM af hg an h
  obtain⟨s2,du,rR,h⟩:=sY af oq h
  refine WpS.l2 ?_ (bX.trans du)
  cases draw with
  | false=>
   rw[vv]
   refine WpS.GA (esc:=[]) rfl ?_
   exact zW af (Kp:=fun T L H=>Q .normal ⟨T,L,H⟩) (fun s Z hs hf=>hK _ s _ Z hs hf) ops.toList Z s2 rR h
  | true=>
   obtain⟨ord,gD,h⟩:=PE h
   exact JU af (fun s Z hs hf=>hK _ s _ Z hs hf) Z rR h
 | cond c x y fl e9=>
  intro R s a K Q hK Z an h
  unfold gW at h
  split at h
  ·rename_i z lR
   obtain⟨s',aO,e2,h⟩:=Ap (n:=cf.n) h
   have hf:=an.congr fun k _ _=>e2 k
   rw[←aO]
   have hc:bt (s'.ac cf.n).T c= .bool z.den:=by
    rw[aO,congrFun (hH cf.n s) c]
    show(bI cf.n s c).aH=_
    rw[lR];rfl
   refine WpS.cond ?_
   rw[hc]
   refine⟨fun hb=> ?_,fun hb=> ?_⟩
   ·rw[hb] at h;exact fl hK Z hf h
   ·rw[hb] at h;exact e9 hK Z hf h
  ·exact h.elim
 | block id c aT=>
  intro R s a K Q hK Z an h
  refine WpS.block (aT (K:=fun ex s a=>match ex with
   | .exit ed=>(match Nat.beq ed id with
    | true=>K .normal s a
    | false=>K (.exit ed) s a)
   | ex=>K ex s a) (fun ex s a Z hs hf=> ?_) Z an h)
  cases ex with
  | exit ed=>
   show if ed=id then _ else _
   have hs:(match Nat.beq ed id with
    | true=>K .normal s a
    | false=>K (.exit ed) s a).den R:=hs
   split at hs
   ·rename_i hb;rw[if_pos (Nat.eq_of_beq_eq_true hb)];exact hK _ _ _ Z hs hf
   ·rename_i hb
    rw[if_neg fun e=>by subst e;rw[Nat.beq_refl] at hb;cases hb];exact hK _ _ _ Z hs hf
  | _=>exact hK _ _ _ Z hs hf
 | seq x y DK DL=>
  intro R s a K Q hK Z an h
  have BY:(gW cf cW gz x s a fun ex s a=>match ex with
   | .normal=>gW cf cW gz y s a K
   | ex=>K ex s a).den R→WpS P (.seq x y) Q (s.ac cf.n):=fun h=>by
   refine WpS.seq (DK (fun ex s a Z hs hf=> ?_) Z an h)
   cases ex with
   | normal=>exact DL hK Z hf hs
   | _=>exact hK _ _ _ Z hs hf
  unfold gW at h
  split at h
  ·exact BY h
  ·split at h
   ·rename_i S gn hm
    obtain⟨al,h⟩:=Cb h
    obtain⟨h1,h2⟩:=h
    rw[aj.IS] at h1
    have ao:=aj.PS hm al h1
    refine WpS.seq (DK (K:=fun ex s _=> .ho ex s) (fun ex s' fw Z hs hf=> ?_) Z an ao)
    have hs:_∧(ex= .normal→s'.ev S∧_∧_):=hs
    cases ex with
    | normal=>
     obtain⟨q1,q2,q3⟩:=hs.2 rfl
     exact WpS.l2 (DL hK Z (hf.le q1) (h2 (Ks q3 q2))) (Su af q1)
    | _=>exact hK _ _ _ Z hs.1 hf
   ·exact BY h
 | loop c aT=>
  intro R s a K Q hK Z an h
  unfold gW at h
  split at h
  ·rename_i ia b3 hF gZ rd fT I m b
   obtain⟨s1,bX,oq,h⟩:=sY af an h
   obtain⟨v0,h⟩:=zP h
   obtain⟨du,rR,h⟩:=toHead_sound (n:=cf.n) af hg rfl oq h
   obtain⟨aA,h⟩:=h
   have hv:=Bj h
   refine WpS.Fj (V:=bR gZ×FZ) (fun v=> @TS.ac v.2 cf.n (rB s1 b3 hF (fT v.1))) (fun v=>I v.1∧ @Fits v.2 (rB s1 b3 hF (fT v.1))) (fun v=>m v.1) rfl (v0,Z) (bX.trans du) ⟨aA,rR⟩ fun v bK=> ?_
   refine aT (fun ex s' a Z' hs hf=> ?_) v.2 bK.2 (hv v.1 bK.1)
   cases ex with
   | normal=>
    obtain⟨cM,hs⟩:=zP hs
    obtain⟨eB,tV,hs⟩:=toHead_sound (n:=cf.n) af hg rfl hf hs
    exact⟨(cM,Z'),⟨hs.1.1,tV⟩,hs.1.2,eB⟩
   | _=>exact hK _ _ _ Z' hs hf
  ·exact h.elim
 | _=>intro R s a K Q hK Z an h;exact h.elim
end
def qf:(e:aq)→e.T→TV
 | .ptr e,x=> .cv e x 0
 | .gK f .unit,_=> .fn f []
 | .gK f e,x=> .fn f [qf e x]
 | e,x=>match e.isS with
  | true=> .agg (gd false e x)
  | false=>sv false e x
theorem Qr: ∀(e:aq) (x:e.T),(qf e x).aH=jI e x:=by
 have aE: ∀(e:aq) (x:e.T),(match e.isS with
  | true=>TV.agg (gd false e x)
  | false=>sv false e x).aH=match e.isS with
  | true=> .agg (bD false e x)
  | false=>gf false e x:=fun e x=>by
  cases e.isS with
  | true=>show AV.agg (bN _)=_;rw[tk]
  | false=>exact AE false e x
 intro e
 induction e with
 | gK f e aT=>
  intro x
  have key:qf (.gK f e) x= .fn f [qf e x]→jI (.gK f e) x= .fn f [jI e x]→(qf (.gK f e) x).aH=jI (.gK f e) x:=fun h1 h2=>by
   rw[h1,h2,←aT x];rfl
  cases e with
  | unit=>rfl
  | _=>exact key rfl rfl
 | ptr e aT=>intro x;rfl
 | _=>intro x;exact aE _ x
def oG:Nat→(es:List aq)→bR es→List (Nat×TV)
 | _,[],_=>[]
 | i,e::r,x=>(i,qf e x.1)::oG (i+1) r x.2
def k6 (ps:List aq) (x:bR ps):TS:=⟨oG 0 ps x,[],[],0⟩
theorem FY: ∀(es:List aq) (x:bR es) (i t:Nat),(eS (oG i es x) t .u).aH=if t<i then .undef else(jJ es x).getD (t - i) .undef
 | [],x,i,t=>by
  show AV.undef=_
  split<;>simp[jJ]
 | e::r,x,i,t=>by
  rw[oG,eZ,jJ]
  by_cases h:i=t
  ·subst h
   rw[if_pos rfl,if_neg (by omega),Nat.sub_self,Qr];rfl
  ·rw[if_neg h,FY r x.2 (i+1) t]
   by_cases h2:t<i
   ·rw[if_pos (by omega),if_pos h2]
   ·rw[if_neg (by omega),if_neg h2,show t - i=(t - (i+1))+1 by omega];rfl
theorem B8: ∀(es:List aq) (x:bR es),(jJ es x).length=es.length
 | [],_=>rfl
 | e::r,x=>by rw[jJ,List.length_cons,List.length_cons,B8 r]
theorem D9 (ps:List aq) (x:bR ps) (h:ps.length≤1000000):fW (k6 ps x)=true:=by
 have key: ∀(es:List aq) (y:bR es) (i:Nat),i+es.length≤1000000→ ∀v,(ch,v) ∉ oG i es y:=by
  intro es
  induction es with
  | nil=>intro y i _ v hv;cases hv
  | cons e r aT=>
   intro y i hi v hv
   simp only[List.length_cons] at hi
   rcases List.mem_cons.1 hv with e | hv
   ·injection e with e _;unfold ch at e;omega
   ·exact aT y.2 (i+1) (by omega) v hv
 unfold fW
 have:(k6 ps x).get ch= .u:=by
  show eS (oG 0 ps x) ch (eS [] ch .u)=_
  rw[ni (key ps x 0 (by omega))];rfl
 rw[this]
theorem NW [FZ] {fn:Func} {ps:List aq} {x:bR ps} (h:ps.length≤fn.ntmps) (ak:ps.length≤1000000):uA fn (jJ ps x) []=(k6 ps x).ac fn.ntmps:=by
 have bu:jJ ps x++List.replicate (fn.ntmps - (jJ ps x).length) AV.undef=((k6 ps x).ac fn.ntmps).T:=by
  apply List.ext_getElem?
  intro t
  show _=((List.range fn.ntmps).map fun t=>((k6 ps x).get t).aH)[t]?
  rw[List.getElem?_map]
  rcases Nat.lt_or_ge t fn.ntmps with ak | ak
  ·rw[List.getElem?_range ak]
   show _=some (eS (oG 0 ps x) t .u).aH
   rw[FY,if_neg (by omega),Nat.sub_zero]
   rcases Nat.lt_or_ge t (jJ ps x).length with h1 | h1
   ·rw[List.getElem?_append_left h1,List.getD_eq_getElem?_getD,List.getElem?_eq_getElem h1];rfl
   ·rw[List.getElem?_append_right h1,List.getElem?_replicate,if_pos (by omega),List.getD_eq_getElem?_getD,List.getElem?_eq_none h1];rfl
  ·rw[List.getElem?_eq_none (l:=List.range fn.ntmps) (by simpa using ak),List.getElem?_eq_none]
   ·rfl
   ·rw[List.length_append,List.length_replicate,B8];omega
 have ag:((k6 ps x).ac fn.ntmps).H=[]:=by
  show(k6 ps x).ei++eW (k6 ps x)=[]
  unfold eW;rw[D9 ps x ak];rfl
 show(⟨_,[],[]⟩:St)=⟨((k6 ps x).ac fn.ntmps).T,[],((k6 ps x).ac fn.ntmps).H⟩
 rw[bu,ag]
def tK (s:TS):(e:aq)→TV→e.T→aj→aj
 | .int,v,r,t=>(match v with
  | .i k m=>if k= .i64 then .p (m=r) t else .no
  | _=> .no)
 | .u64,v,r,t=>(match v with
  | .i k m=>if k= .u64 then .p (m=r) t else .no
  | _=> .no)
 | .bool,v,r,t=>(match v with
  | .b x=> .p (x.den=r) t
  | _=> .no)
 | .str,v,r,t=>(match v with
  | .s x=> .p (x=r) t
  | _=> .no)
 | .l e,v,r,t=>(match v with
  | .l bf xs _ fr=>(match fr with
   | true=>if h:bf=e then .p (ig h xs=r) t else .no
   | false=> .no)
  | .nil _ _=> .p ([]=r) t
  | .ref b g m _=>mc s b g fun bf xs dg _=>if h:bf=e then .eq e.ku true (.eq dg m (.p (xs.length≤4611686018427387904∧ig h xs=r) t)) else .no
  | _=> .no)
 | _,_,_,_=> .no
def xH (s:TS):(es:List aq)→List TV→bR es→aj→aj
 | [],[],_,t=>t
 | e::r,v::vs,x,t=>tK s e v x.1 (xH s r vs x.2 t)
 | _,_,_,_=> .no
def tL (s:TS) (e:aq) (v:TV) (r:e.T) (t:aj):aj:=match e.isS with
 | true=>(match v with
  | .agg c=>xH s e.a6 c (e.un r) t
  | _=> .no)
 | false=>tK s e v r t
def xG (s:TS):(es:List aq)→List TV→bR es→aj→aj
 | [],[],_,t=>t
 | e::r,v::vs,x,t=>tL s e v x.1 (xG s r vs x.2 t)
 | _,_,_,_=> .no
def QU (P:Program) (n:Nat) (s:TS):ResultVar→TV
 | .tmp t=>bI n s (.tmp t)
 | .cell a t=>(match bI n s (.tmp a) with
  | .lp v c=>(match hp s.vs v with
   | some m=>oY P t (fk s v 0 m) c
   | none=> .u)
  | _=> .u)
def pE (P:Program) (n:Nat) (fn:Func) (rs:List aq) (r:bR rs) (s:TS):aj:=
 let vs:=fn.results.toList.map (QU P n s)
 .eq (fun H Q=>nv P ⟨s.tT n,s.bw,H⟩ fn.results.toList Q) (fun _ Q=>Q (bN vs)) (.eq ((bN vs).all h3) true (xG s rs vs r .fh))
section
variable {n:Nat} {s:TS} {R:Exit→TS→Prop} {t:aj}
theorem Jq {H:List Blk} (e:aq) (x:e.T) (h:e.ku=true):hr H (bD true e x) (bD false e x):=by
 cases e with
 | int=>exact I9 x
 | u64=>exact .cons (.int _ _) rfl .nil
 | u8=>exact Ja x
 | bool=>exact tf x
 | str=>exact I_ x
 | bZ=>exact BG x
 | cN=>exact Jb x
 | fe=>exact .cons (.int _ _) rfl (.cons (g_ _) rfl (.cons (g_ _) rfl (.cons (g_ _) rfl (.cons (.int _ _) rfl .nil))))
 | jL=>exact I7 x
 | eu=>exact wL x
 | held=>exact I8 x
 | frame=>exact .cons (.bool _) rfl (.cons (g_ _) rfl (.cons (g_ _) rfl (.cons (g_ _) rfl .nil)))
 | done=>exact I6 x
 | fault=>exact .cons (.int _ _) rfl (.cons (.int _ _) rfl .nil)
 | stays=>exact .cons (g_ _) rfl (.cons (g_ _) rfl (.cons (g_ _) rfl .nil))
 | eG=>exact .cons (g_ _) rfl (.cons (.int _ _) rfl (.cons (.int _ _) rfl .nil))
 | l e=>exact .cons (g_ _) rfl .nil
 | _=>cases h
end
section
variable [FZ] {n:Nat} {s:TS} {R:Exit→TS→Prop} {t:aj}
theorem Cp {e:aq} {v:TV} {r:e.T} (h:(tK s e v r t).den R):en (s.ac n).H v.aH (gf true e r)∧t.den R:=by
 cases e with
 | int=>
  have h:(match v with
   | .i k m=>if k=IntKind.i64 then aj.p (m=r) t else .no
   | _=> .no).den R:=h
  split at h
  ·split at h
   ·rename_i hk;subst hk;exact⟨Hw h.1,h.2⟩
   ·exact h.elim
  ·exact h.elim
 | u64=>
  have h:(match v with
   | .i k m=>if k=IntKind.u64 then aj.p (m=r) t else .no
   | _=> .no).den R:=h
  split at h
  ·split at h
   ·rename_i hk;subst hk;exact⟨Hw h.1,h.2⟩
   ·exact h.elim
  ·exact h.elim
 | bool=>
  have h:(match v with
   | .b x=>aj.p (x.den=r) t
   | _=> .no).den R:=h
  split at h
  ·exact⟨vr h.1,h.2⟩
  ·exact h.elim
 | str=>
  have h:(match v with
   | .s x=>aj.p (x=r) t
   | _=> .no).den R:=h
  split at h
  ·exact⟨RS h.1,h.2⟩
  ·exact h.elim
 | l e=>
  have h:(match v with
   | .l bf xs _ fr=>(match fr with
    | true=>if h:bf=e then aj.p (ig h xs=r) t else .no
    | false=> .no)
   | .nil _ _=> .p ([]=r) t
   | .ref b g m _=>mc s b g fun bf xs dg _=>if h:bf=e then .eq e.ku true (.eq dg m (.p (xs.length≤4611686018427387904∧ig h xs=r) t)) else .no
   | _=> .no).den R:=h
  split at h
  ·split at h
   ·split at h
    ·rename_i he;subst he;exact⟨RR (e:=bD false _) h.1,h.2⟩
    ·exact h.elim
   ·exact h.elim
  ·exact⟨vt (e:=bD false e) h.1,h.2⟩
  ·rename_i b g m cn
   obtain⟨bf,xs,dg,hm,h,hb,ag⟩:=pk (n:=n) h
   split at h
   ·rename_i he
    subst he
    obtain⟨aA,h1,h2,ao⟩:=h
    subst h1
    subst hm
    exact⟨Hu (eT:=bD true bf) (eF:=bD false bf) ag (fun x=>Jq bf x aA) h2,ao⟩
   ·exact h.elim
  ·exact h.elim
 | _=>exact h.elim
theorem Cr: ∀{es:List aq} {vs:List TV} {r:bR es},(xH s es vs r t).den R→aw (en (s.ac n).H) (bN vs) (fL true es r)∧t.den R
 | [],[],_,h=>⟨aw.nil,h⟩
 | e::r,v::vs,x,h=>by
  obtain⟨h1,h2⟩:=Cp (n:=n) (show(tK s e v x.1 _).den R from h)
  obtain⟨ao,a8⟩:=Cr h2
  exact⟨aw.cons h1 ao,a8⟩
 | [],_::_,_,h=>h.elim
 | _::_,[],_,h=>h.elim
theorem KB {e:aq} {v:TV} {r:e.T} (h:(tL s e v r t).den R):nP (s.ac n).H v.aH (jK e r)∧t.den R:=by
 unfold tL at h
 unfold jK
 cases b5:e.isS with
 | true=>
  rw[b5] at h
  simp only at h
  split at h
  ·rename_i c
   obtain⟨h1,h2⟩:=Cr (n:=n) h
   refine⟨.inl ⟨bN c,bD true e r,rfl,rfl,?_⟩,h2⟩
   rw[←jo];exact h1
  ·exact h.elim
 | false=>
  rw[b5] at h
  obtain⟨h1,h2⟩:=Cp (n:=n) h
  exact⟨.inr h1,h2⟩
theorem Cq: ∀{es:List aq} {vs:List TV} {r:bR es},(xG s es vs r t).den R→aw (nP (s.ac n).H) (bN vs) (kM es r)∧t.den R
 | [],[],_,h=>⟨aw.nil,h⟩
 | e::r,v::vs,x,h=>by
  obtain⟨h1,h2⟩:=KB (n:=n) (show(tL s e v x.1 _).den R from h)
  obtain⟨ao,a8⟩:=Cq h2
  exact⟨aw.cons h1 ao,a8⟩
 | [],_::_,_,h=>h.elim
 | _::_,[],_,h=>h.elim
theorem Cs {P:Program} {fn:Func} {rs:List aq} {r:bR rs} (h:(pE P n fn rs r s).den R):qj P fn (s.ac n) fun v H=>iy H v (m1 rs r):=by
 unfold pE at h
 simp only at h
 obtain⟨h1,h2,ao⟩:=h
 unfold qj
 have m6:nv P (s.ac n) fn.results.toList=_:=congrFun h1 (s.ac n).H
 rw[congrFun m6]
 refine⟨h2,?_⟩
 obtain⟨a8,_⟩:=Cq (n:=n) ao
 have key: ∀(rs:List aq) (r:bR rs) (l:List AV),aw (nP (s.ac n).H) l (kM rs r)→iy (s.ac n).H (qD l) (m1 rs r):=by
  intro rs r l ab
  match rs,r,l with
  | [],_,[]=>exact .inl ⟨[],[],rfl,rfl,aw.nil⟩
  | [],_,_::_=>have:=ab.1;simp[kM] at this
  | [e],r,[]=>have:=ab.1;simp[kM] at this
  | [e],r,[v]=>exact .inr ab.head
  | [e],r,_::_::_=>have:=ab.1;simp[kM] at this
  | e::bf::rs,r,[]=>have:=ab.1;simp[kM] at this
  | e::bf::rs,r,[v]=>have:=ab.1;simp[kM] at this
  | e::bf::rs,r,v::w::l=>exact .inl ⟨_,_,rfl,rfl,ab⟩
 exact key rs r _ a8
end
def AB {P:Program} (cf:e7 P) (cW:sT P) (fn:Func) (ps rs:List aq) (x:bR ps) (r:bR rs) (a:iv):aj:=gW cf cW (some 0) (lB fn) (k6 ps x) a fun ex s _=>match ex with
 | .normal=>pE P cf.n fn rs r s
 | .ret=>pE P cf.n fn rs r s
 | _=> .no
theorem bh.run {P:Program} {f:FuncId} {fn:Func} {ps rs:List aq} {x:bR ps} {r:bR rs} (cf:e7 P) (cW:sT P) (a:iv) {C:Prop} (hf:P.funcs[f]?=some fn) (h:C) (e:C=(AB cf cW fn ps rs x r a).kd.den:=by kernel_rfl)
  (e2:(AB cf cW fn ps rs x r a).lhs=(AB cf cW fn ps rs x r a).rhs:=by kernel_rfl) (hb:fn.body=some (lB fn):=by kernel_rfl) (hm:(fn.name== "runtime.NumGoroutine")=false:=by kernel_rfl)
  (af:(Nat.beq cf.n fn.ntmps&&Nat.ble cf.n 1000000&&Nat.ble ps.length cf.n)=true:=by kernel_rfl):bh P f (jJ ps x) (m1 rs r):=by
 simp only[Bool.and_eq_true] at af
 have h1:=Nat.eq_of_beq_eq_true af.1.1
 have h2:=Nat.le_of_ble_eq_true af.1.2
 have ao:=Nat.le_of_ble_eq_true af.2
 refine ej.FO hf hb hm fun fQ hg=> ?_
 rw[@NW ⟨[],[]⟩ fn ps x (by rw[←h1];exact ao) (by omega),←h1]
 refine Sx h2 (fun k e=>by cases e;rw[hg];exact Nat.le_refl _) (lB fn) (R:=fun _ _=>True) (K:=fun ex s _=>match ex with
  | .normal=>pE P cf.n fn rs r s
  | .ret=>pE P cf.n fn rs r s
  | _=> .no) (fun ex s _ Z hs hf=> ?_) ⟨[],[]⟩ (@Fits.none ⟨[],[]⟩ _ (D9 ps x (by omega))) (aj.full (e▸h) e2)
 cases ex with
 | normal=>exact Cs hs
 | ret=>exact Cs hs
 | _=>exact hs.elim
def Env.ro (w:World) (B:Nat→Prop):Env:={w:=w,PA:=B,PF:=fun _=>False,m:=fun _=>none,aE:=fun _=>0,sz:=fun _=>0,cp:=fun _=>0,mL:=fun _=>none}
def fj (w:World) (B:Nat→Prop) (a:AV) (v:Value):Prop:=V2 (Env.ro w B) a v
theorem fj.b3 {w w':World} {B B':Nat→Prop} {a:AV} {v:Value} (h:fj w B a v) (hk: ∀c,B c→w'.heap[c]?=w.heap[c]?) (hs: ∀c,B c→B' c):fj w' B' a v:=
 V2.le (E:=Env.ro w B) (E':=Env.ro w' B') ⟨hs,fun _ h=>h.elim,hk,fun _ h=>h.elim,fun _=>Nat.le_refl _,(fun _ _ h _=>by cases h),(fun _ _ h=>by cases h)⟩ h
theorem fj.at {w:World} {B:Nat→Prop} {a:AV} {v:Value} (h:fj w B a v) (ak: ∀c,B c→c<w.heap.size):V2 (Env.at w) a v:=fj.b3 (B':=fun c=>c<w.heap.size) h (fun _ _=>rfl) ak
def dY (w w':World) (c:Nat):Prop:=w.heap.size≤c∧c<w'.heap.size∧Plain w' c
def tA (e:aq) (x:e.T):AV:=match e.isS with
 | true=> .agg (bD false e x)
 | false=>gf false e x
theorem ar.fO {w:World} {PA PF B:Nat→Prop} (ab: ∀c,PF c→B c) (ai: ∀c,PA c→B c) {e:aq} {x:e.T} {v:Value} (h:ar w PA PF (gf true e x) v):ar w B (fun _=>False) (gf false e x) v:=by
 cases e with
 | l e=>
  cases h with
  | av dc c2 dS bz cA hrel=>exact .av (fun c hc=>ab c (by simpa using dc c hc)) c2 dS bz cA hrel
 | int=>cases h;exact .int _ _
 | u64=>cases h;exact .int _ _
 | u8=>cases h;exact .int _ _
 | bool=>cases h;exact .bool _
 | str=>cases h;exact .str _
 | _=>exact .undef _
theorem AF {w:World} {PA PF B:Nat→Prop} (ab: ∀c,PF c→B c) (ai: ∀c,PA c→B c): ∀{es:List aq} {x:bR es} {vs:List Value},aw (fun a v=>ar w PA PF a v) (fL true es x) vs→aw (be (Env.ro w B)) (fL false es x) vs
 | [],_,vs,h=>by obtain rfl:=h.jZ;exact aw.nil
 | e::r,x,vs,h=>by
  obtain⟨v,vs,rfl,h1,h2⟩:=h.cons_inv
  exact aw.cons (ar.v1 (E:=Env.ro w B) (ar.fO ab ai h1)) (AF ab ai h2)
theorem AI {E:Env} {fr:Bool} {e:aq} {x:e.T} {v:Value} (h:be E (gf fr e x) v):ar E.w E.PA E.PF (gf fr e x) v:=by
 cases e<;>exact h
theorem vH {E:Env} {fr:Bool}: ∀{es:List aq} {x:bR es} {vs:List Value},aw (be E) (fL fr es x) vs→aw (fun a v=>ar E.w E.PA E.PF a v) (fL fr es x) vs
 | [],_,vs,h=>by obtain rfl:=h.jZ;exact aw.nil
 | e::r,x,vs,h=>by
  obtain⟨v,vs,rfl,h1,h2⟩:=h.cons_inv
  exact aw.cons (AI h1) (vH h2)
theorem ar.P4 {w:World} {PA PF B:Nat→Prop} (ai: ∀c,PA c→B c) {e:aq} {x:e.T} {v:Value} (h:ar w PA PF (gf false e x) v):ar w B (fun _=>False) (gf false e x) v:=by
 cases e with
 | l e=>
  cases h with
  | av dc c2 dS bz cA hrel=>exact .av (fun c hc=>ai c (by simpa using dc c hc)) c2 dS bz cA hrel
 | int=>cases h;exact .int _ _
 | u64=>cases h;exact .int _ _
 | u8=>cases h;exact .int _ _
 | bool=>cases h;exact .bool _
 | str=>cases h;exact .str _
 | _=>exact .undef _
theorem FH {w:World} {PA PF B:Nat→Prop} (ai: ∀c,PA c→B c): ∀{es:List aq} {x:bR es} {vs:List Value},aw (fun a v=>ar w PA PF a v) (fL false es x) vs→aw (be (Env.ro w B)) (fL false es x) vs
 | [],_,vs,h=>by obtain rfl:=h.jZ;exact aw.nil
 | e::r,x,vs,h=>by
  obtain⟨v,vs,rfl,h1,h2⟩:=h.cons_inv
  exact aw.cons (ar.v1 (E:=Env.ro w B) (ar.P4 ai h1)) (FH ai h2)
theorem Sr {e:aq} {x:e.T} {w:World} {v:Value} (h:V2 (Env.wd w) (.agg (bD false e x)) v):fj w (fun c=>c<w.heap.size) (.agg (bD false e x)) v:=by
 obtain⟨dh,rfl,ab⟩:=(show ∃dh:List Value,v= .agg dh.toArray∧aw (be _) (bD false e x) dh from h)
 refine⟨dh,rfl,?_⟩
 rw[←jo] at ab ⊢
 exact FH (fun _ h=>h) (vH ab)
theorem bh.vB {P:Program} {f:FuncId} {args:List AV} {e:aq} {x:e.T} (h:bh P f args (jK e x)) {w:World} {vs:List Value} (ai:aw (V2 (Env.at w)) args vs):
  Calls P f vs.toArray w fun fK w'=> ∃v,fK= .returned v∧RowKit.Below w.heap.size w w'∧fj w' (dY w w') (tA e x) v:=by
 refine(h.2 (Env.at w) vs (fun _=>rfl) (wy w) ai).mono ?_
 rintro fK w' ⟨r,v,H',E',rfl,aa,rfl,af,hs,hv,aM⟩
 have hb:RowKit.Below w.heap.size w E'.w:=⟨aM.os,aM.tape,aM.output,aM.size,fun k hk=>aM.b3 k hk (fun⟨b,hb⟩=>by cases hb) (fun⟨b,hb⟩=>by cases hb)⟩
 have gh: ∀c,E'.PF c∨E'.dx c→dY w E'.w c:=fun c hc=>by
  rcases hc with hc | hc
  ·exact⟨(aM.dr c hc).elim (fun h=>h.elim) id,hs.cu c (hs.ck c hc),hs.dz c hc⟩
  ·exact⟨(aM.ko c hc).elim (fun⟨b,hb⟩=>by cases hb) id,hs.dB c hc,hs.DM hc⟩
 have hl:V3 {Env.ro E'.w (dY w E'.w) with PF:=dY w E'.w} (jK e x) v:=Ag (E':={Env.ro E'.w (dY w E'.w) with PF:=dY w E'.w}) hs rfl (fun c hc=>⟨gh c hc,gh c hc⟩) aa hv
 refine⟨v,rfl,hb,?_⟩
 unfold tA
 unfold jK at hl
 cases b5:e.isS with
 | true=>
  rw[b5] at hl
  obtain⟨dh,rfl,ab⟩:=(show ∃dh:List Value,v= .agg dh.toArray∧aw (be _) (bD true e x) dh from hl)
  refine⟨dh,rfl,?_⟩
  rw[←jo] at ab ⊢
  exact AF (fun _ h=>h) (fun _ h=>h) (vH ab)
 | false=>
  rw[b5] at hl
  have hl:V3 {Env.ro E'.w (dY w E'.w) with PF:=dY w E'.w} (gf true e x) v:=hl
  have h1:be {Env.ro E'.w (dY w E'.w) with PF:=dY w E'.w} (gf true e x) v:=by cases e<;>first | exact hl | cases b5
  have:=ar.fO (B:=dY w E'.w) (fun _ h=>h) (fun _ h=>h) (AI h1)
  exact h_ (ar.v1 (E:=Env.ro E'.w (dY w E'.w)) this)
theorem bh.int {P:Program} {f:FuncId} {args:List AV} {n:Int} (h:bh P f args (.int .i64 n)) {w:World} {vs:List Value} (ai:aw (V2 (Env.at w)) args vs):
  Calls P f vs.toArray w fun fK w'=>fK= .returned (.int .i64 n)∧RowKit.Below w.heap.size w w':=
 (bh.vB (e:= .int) (x:=n) h ai).mono fun fK w' ⟨v,h1,h2,ao⟩=>by
  have ao:ar w' _ _ (.int .i64 n) v:=ao
  cases ao;exact⟨h1,h2⟩
theorem bh.bool {P:Program} {f:FuncId} {args:List AV} {b:Bool} (h:bh P f args (.bool b)) {w:World} {vs:List Value} (ai:aw (V2 (Env.at w)) args vs):
  Calls P f vs.toArray w fun fK w'=>fK= .returned (.bool b)∧RowKit.Below w.heap.size w w':=
 (bh.vB (e:= .bool) (x:=b) h ai).mono fun fK w' ⟨v,h1,h2,ao⟩=>by
  have ao:ar w' _ _ (.bool b) v:=ao
  cases ao;exact⟨h1,h2⟩
theorem qz {w:World} {B:Nat→Prop} {rows:List (List AV)} {v:Value} (h:fj w B (.av rows false false) v): ∃A cap,v= .slice A rows.length cap∧ar w B (fun _=>False) (.av rows false false) v:=by
 have h:ar w B (fun _=>False) (.av rows false false) v:=h
 cases h with
 | av dc c2 dS bz cA hrel=>exact⟨_,_,rfl,.av dc c2 dS bz cA hrel⟩
structure dO where
 lo:Nat
 hi:Nat
 P:World→Prop
 ac: ∀w w':World,(∀c,lo≤c→c<hi→w'.heap[c]?=w.heap[c]?)→P w→P w'
structure cx (W w:World) (l:List dO):Prop where
 os:w.os=W.os
 tape:w.tape=W.tape
 output:w.output=W.output
 size:W.heap.size≤w.heap.size
 io: ∀c,c<W.heap.size→w.heap[c]?=W.heap[c]?
 ord:l.Pairwise fun a b=>a.hi≤b.lo
 all: ∀i∈l,i.hi≤w.heap.size∧i.P w
theorem cx.get {W w:World} {l:List dO} (h:cx W w l) (j:Nat) {i:dO} (e:l[j]?=some i:=by rfl):i.P w:=(h.all i (List.mem_of_getElem? e)).2
theorem cx.hi {W w:World} {l:List dO} (h:cx W w l) (j:Nat) {i:dO} (e:l[j]?=some i:=by rfl):i.hi≤w.heap.size:=(h.all i (List.mem_of_getElem? e)).1
theorem cx.below {W w w':World} {l:List dO} (h:cx W w l) (hb:RowKit.Below w.heap.size w w'):cx W w' l where
 os:=hb.os.trans h.os
 tape:=hb.tape.trans h.tape
 output:=hb.output.trans h.output
 size:=Nat.le_trans h.size hb.size
 io:=fun c hc=>(hb.block c (Nat.lt_of_lt_of_le hc h.size)).trans (h.io c hc)
 ord:=h.ord
 all:=fun i hi=>⟨Nat.le_trans (h.all i hi).1 hb.size,i.ac w w' (fun c _ hc=>hb.block c (Nat.lt_of_lt_of_le hc (h.all i hi).1)) (h.all i hi).2⟩
theorem cx.drewN {W w:World} {l:List dO} (h:cx W w l):cx W w.drew l:=h.below ⟨rfl,rfl,rfl,Nat.le_refl _,fun _ _=>rfl⟩
theorem cx.add {W w:World} {l:List dO} (h:cx W w l) (i:dO) (h1:i.hi≤w.heap.size) (h2:i.P w) (ao: ∀j∈l,j.hi≤i.lo):cx W w (l++[i]):=
 {h with
  ord:=List.pairwise_append.2 ⟨h.ord,List.pairwise_singleton _ _,fun a ai b hb=>by rw[List.mem_singleton.1 hb];exact ao a ai⟩
  all:=fun j O=>by
   rcases List.mem_append.1 O with O | O
   ·exact h.all j O
   ·rw[List.mem_singleton.1 O];exact⟨h1,h2⟩}
theorem cx.made {W w w':World} {l:List dO} (h:cx W w l) (hb:RowKit.Below w.heap.size w w') (i:dO) (aA:i.lo=w.heap.size) (h1:i.hi=w'.heap.size) (h2:i.P w'):cx W w' (l++[i]):=
 (h.below hb).add i (Nat.le_of_eq h1) h2 fun j O=>by rw[aA];exact(h.all j O).1
def i_ (b:Nat) (ad:Array Value) (ty:TypeId):dO where
 lo:=b
 hi:=b+1
 P:=fun w=>w.heap[b]?=some (.cells ad ty (0,0))
 ac:=fun w w' h ab=>(h b (Nat.le_refl _) (Nat.lt_succ_self _)).trans ab
theorem cx.box {W w:World} {l:List dO} (h:cx W w l) (ad:Array Value) (ty:TypeId):cx W (w.alloc (.cells ad ty (0,0))) (l++[i_ w.heap.size ad ty]):=
 h.made ((RowKit.Below.refl _ _).alloc (Nat.le_refl _) _) (i_ w.heap.size ad ty) rfl (by simp[i_]) (nS _ _)
theorem cx.wG {W w:World} {l:List dO} (h:cx W w l) (j:Nat) {b:Nat} {ad:Array Value} {ty:TypeId} (e:l[j]?=some (i_ b ad ty)):b<w.heap.size:=h.hi j e
def kn (n:Nat) (a:AV) (v:Value):dO where
 lo:=0
 hi:=n
 P:=fun w=>fj w (fun c=>c<n) a v
 ac:=fun w w' h ab=>ab.b3 (fun c hc=>h c (Nat.zero_le _) hc) (fun _ h=>h)
def DH (n:Nat) (a:AV) (v:Value) (b:AV) (u:Value):dO where
 lo:=0
 hi:=n
 P:=fun w=>fj w (fun c=>c<n) a v∧fj w (fun c=>c<n) b u
 ac:=fun w w' h ab=>⟨ab.1.b3 (fun c hc=>h c (Nat.zero_le _) hc) (fun _ h=>h),ab.2.b3 (fun c hc=>h c (Nat.zero_le _) hc) (fun _ h=>h)⟩
def j9 (w:World) (lo hi c:Nat):Prop:=lo≤c∧c<hi∧Plain w c
def ik (lo hi:Nat) (a:AV) (v:Value):dO where
 lo:=lo
 hi:=hi
 P:=fun w=>fj w (j9 w lo hi) a v
 ac:=fun w w' h ab=>ab.b3 (fun c hc=>h c hc.1 hc.2.1) fun c hc=>⟨hc.1,hc.2.1,hc.2.2.same (h c hc.1 hc.2.1)⟩
theorem cx.zq {W w w':World} {l:List dO} {a:AV} {v:Value} (h:cx W w l) (hb:RowKit.Below w.heap.size w w') (aC:fj w' (dY w w') a v):cx W w' (l++[ik w.heap.size w'.heap.size a v]):=
 h.made hb (ik w.heap.size w'.heap.size a v) rfl rfl aC
def DI (lo hi:Nat):dO:=⟨lo,hi,fun _=>True,fun _ _ _ _=>trivial⟩
theorem ik.at {W w:World} {l:List dO} (h:cx W w l) (j:Nat) {lo hi:Nat} {a:AV} {v:Value} (e:l[j]?=some (ik lo hi a v):=by rfl):V2 (Env.at w) a v:=
 (h.get j e).at fun c hc=>Nat.lt_of_lt_of_le hc.2.1 (h.hi j e)
theorem kn.at {W w:World} {l:List dO} (h:cx W w l) (j:Nat) {n:Nat} {a:AV} {v:Value} (e:l[j]?=some (kn n a v):=by rfl):V2 (Env.at w) a v:=
 (h.get j e).at fun c hc=>Nat.lt_of_lt_of_le hc (h.hi j e)
theorem DH.at {W w:World} {l:List dO} (h:cx W w l) (j:Nat) {n:Nat} {a b:AV} {v u:Value} (e:l[j]?=some (DH n a v b u):=by rfl):V2 (Env.at w) a v∧V2 (Env.at w) b u:=
 ⟨(h.get j e).1.at fun c hc=>Nat.lt_of_lt_of_le hc (h.hi j e),(h.get j e).2.at fun c hc=>Nat.lt_of_lt_of_le hc (h.hi j e)⟩
theorem cx.mark {W w w':World} {l:List dO} (h:cx W w l) (j:Nat) (i:dO) (e:l[j]?=some i) (O:W.heap.size≤i.lo) {S:Nat→Prop} (b5: ∀c,S c→i.lo≤c∧c<i.hi) (hk:cy S w w') (gv:dO) (ak:gv.lo=i.lo) (aX:gv.hi=i.hi) (ab:gv.P w'):cx W w' (l.set j gv):=by
 have hZ:=(List.getElem?_eq_some_iff.1 e).1
 have tZ:l[j]=i:=(List.getElem?_eq_some_iff.1 e).2
 refine⟨hk.os.trans h.os,hk.tape.trans h.tape,hk.output.trans h.output,Nat.le_trans h.size hk.size,fun c hc=>(hk.other c (Nat.lt_of_lt_of_le hc h.size) fun hs=>by have:=(b5 c hs).1;omega).trans (h.io c hc),?_,?_⟩
 ·rw[List.pairwise_iff_getElem]
  have br:=List.pairwise_iff_getElem.1 h.ord
  intro a b ai hb L2
  simp only[List.length_set] at ai hb
  have:=br a b ai hb L2
  rw[List.getElem_set,List.getElem_set]
  by_cases aO:j=a
  ·subst aO
   rw[if_pos rfl,if_neg (by omega),aX,←tZ];exact this
  ·rw[if_neg aO]
   by_cases e2:j=b
   ·subst e2
    rw[if_pos rfl,ak,←tZ];exact this
   ·rw[if_neg e2];exact this
 ·intro q al
  obtain⟨a,ai⟩:=List.mem_iff_getElem?.1 al
  rw[List.getElem?_set] at ai
  by_cases aO:j=a
  ·subst aO
   rw[if_pos rfl,if_pos hZ] at ai
   cases ai
   exact⟨by rw[aX];exact Nat.le_trans (h.all i (List.mem_of_getElem? e)).1 hk.size,ab⟩
  ·rw[if_neg aO] at ai
   have hm:=List.mem_of_getElem? ai
   refine⟨Nat.le_trans (h.all q hm).1 hk.size,q.ac w w' (fun c aV aQ=>hk.other c (Nat.lt_of_lt_of_le aQ (h.all q hm).1) fun hs=> ?_) (h.all q hm).2⟩
   have br:=List.pairwise_iff_getElem.1 h.ord
   have pK:=(List.getElem?_eq_some_iff.1 ai).1
   have C3:l[a]=q:=(List.getElem?_eq_some_iff.1 ai).2
   have h1:=b5 c hs
   rcases Nat.lt_or_gt_of_ne aO with ay | ki
   ·have:=br j a hZ pK ay
    rw[tZ,C3] at this;omega
   ·have:=br a j pK hZ ki
    rw[tZ,C3] at this;omega
theorem cx.after {W w:World} {l:List dO} (h:cx W w l) (i j:Nat) {a b:dO} (ai:l[i]?=some a) (hb:l[j]?=some b) (iD:i<j):a.hi≤b.lo:=by
 have h1:=(List.getElem?_eq_some_iff.1 ai).1
 have h2:=(List.getElem?_eq_some_iff.1 hb).1
 have:=List.pairwise_iff_getElem.1 h.ord i j h1 h2 iD
 rw[(List.getElem?_eq_some_iff.1 ai).2,(List.getElem?_eq_some_iff.1 hb).2] at this
 exact this
theorem cx.told {W w:World} {l:List dO} (h:cx W w l) (j:Nat) {lo hi:Nat} {a:AV} {v:Value} (e:l[j]?=some (ik lo hi a v)):fj w (j9 w lo hi) a v:=h.get j e
theorem cx.forget {W w w':World} {l:List dO} (h:cx W w l) (j:Nat) {lo hi:Nat} {a:AV} {v:Value} (e:l[j]?=some (ik lo hi a v)) (O:W.heap.size≤lo) (hk:cy (j9 w lo hi) w w'):cx W w' (l.set j (DI lo hi)):=
 h.mark j (ik lo hi a v) e O (fun c hc=>⟨hc.1,hc.2.1⟩) hk (DI lo hi) rfl rfl trivial
theorem cy.pl {w w':World} {lo hi:Nat} (hk:cy (j9 w lo hi) w w'): ∀c,j9 w lo hi c→j9 w' lo hi c:=fun c hc=>by
 obtain⟨ad,ty,hx⟩:=hc.2.2
 obtain⟨ba,h1,_⟩:=hk.at hx
 exact⟨hc.1,hc.2.1,ba,ty,h1⟩
theorem cx.end {W w:World} {l:List dO} (h:cx W w l):RowKit.Below W.heap.size W w:=⟨h.os,h.tape,h.output,h.size,h.io⟩
theorem cx.start (W:World):cx W W []:=⟨rfl,rfl,rfl,Nat.le_refl _,fun _ _=>rfl,List.Pairwise.nil,fun i h=>by cases h⟩
theorem bh.P9 {P:Program} {f:FuncId} {args:List AV} (eQ:nt P f=true)
  (h: ∀(w:World) (vs:List Value),aw (V2 (Env.wd w)) args vs→Calls P f vs.toArray w fun e w'=>e= .returned (.bool true)∧RowKit.Below w.heap.size w w'):bh P f args (.bool true):=by
 refine⟨eQ,fun E vs aY ag ai=>(h E.w vs (ai.mono fun _ _ k=>k.wd ag aY)).mono ?_⟩
 rintro e w' ⟨rfl,hb⟩
 have hk: ∀c,E.PA c→w'.heap[c]?=E.w.heap[c]?:=fun c hc=>hb.block c (ag.cu c hc)
 have hm:=fun b=>ag.fresh b (Nat.zero_le _)
 refine⟨.bool true,.bool true,[],{E with w:=w'},rfl,.inr (.inr (.bool true)),rfl,aY,{ag with
  heap:=fun b c C9=>by rw[(hm b).1] at C9;cases C9
  cu:=fun c hc=>Nat.lt_of_lt_of_le (ag.cu c hc) hb.size
  dB:=fun c hc=>Nat.lt_of_lt_of_le (ag.dB c hc) hb.size
  et:=fun c hc=>Nat.lt_of_lt_of_le (ag.et c hc) hb.size
  dz:=fun c hc=>(ag.dz c hc).same (hk c (ag.ck c hc))},ar.bool true,?_⟩
 exact⟨⟨fun _ h=>h,fun _ h=>h,hk,fun c hc=>hk c (ag.ck c hc),fun _=>Nat.le_refl _,fun _ _ h _=>⟨h,rfl,rfl⟩,fun _ _ h=>h⟩,hb.os,hb.tape,hb.output,hb.size,fun c hc _ _=>hb.block c hc,fun _ _ h=> .inl h,fun _ h=> .inl h,fun _ h=> .inl h,fun _ h=> .inl h⟩
open Go Go.RowKit
set_option maxHeartbeats 1000000
set_option maxRecDepth 100000
theorem Fo (A:Option Addr) (c o n cap:Nat) (k:Int) (w:World) (ad:Array Value) (ty:TypeId) (bG:0<n→A=some ⟨c,o,none⟩∧w.heap[c]?=some (.cells ad ty (0,0))∧o+n≤ad.size) (aA:0≤k) (h1:k+n≤4611686018427387904):
    Calls Try.prog 56 #[.slice A n cap,.int .i64 k] w fun e w'=>e= .returned (.int .i64 (k+n))∧gY w w' c o n (lT k):=by
  have gE:=Lib.hid bG;clear bG
  go_enter Try.func56,Try.ntmps56
  go_wp2
  go_loopw [1,5] (fun q i wr=> ∃j:Nat,j≤n∧i= .int .i64 j∧q= .int .i64 (k+j)∧gY w wr c o j (lT k)) (fun _ i _=>n - (intOf i).toNat)
  case atStart=>exact⟨0,Nat.zero_le _,rfl,by simp,.refl _ _ _ _⟩
  case round=>
    obtain⟨j,O,rfl,rfl,hm⟩:=hrel
    have dF:=Lib.hid hm;clear hm
    by_cases ay:j<n
    · obtain⟨aO,hw,af⟩:=gE.out (by omega)
      have hO:=Lib.hid hw;clear hw
      subst aO
      obtain⟨u,hu,hf⟩:=dF.out.cell hO.out (j:=o+j) (by omega)
      go_wp2
      go_roundw
      case rel=>exact⟨j+1,by omega,by go_num,by go_num,dF.out.snoc rfl⟩
      case measure=>simp[intOf];omega
    · have e:j=n:=by omega
      subst e
      go_wp2
      go_ret
      exact⟨rfl,dF.out⟩
theorem uK (A:Option Addr) (c o n cap:Nat) (k:Int) (w:World) (ad:Array Value) (ty:TypeId) (bG:0<n→A=some ⟨c,o,none⟩∧w.heap[c]?=some (.cells ad ty (0,0))∧o+n≤ad.size) (aA:0≤k) (h1:k+n≤4611686018427387904):
    Calls Try.prog 85 #[.slice A n cap,.int .i64 k] w fun e w'=>e= .returned (.int .i64 (k+n))∧gY w w' c o n (BE k):=by
  have gE:=Lib.hid bG;clear bG
  go_enter Try.func85,Try.ntmps85
  go_wp2
  go_loopw [1,5] (fun q i wr=> ∃j:Nat,j≤n∧i= .int .i64 j∧q= .int .i64 (k+j)∧gY w wr c o j (BE k)) (fun _ i _=>n - (intOf i).toNat)
  case atStart=>exact⟨0,Nat.zero_le _,rfl,by simp,.refl _ _ _ _⟩
  case round=>
    obtain⟨j,O,rfl,rfl,hm⟩:=hrel
    have dF:=Lib.hid hm;clear hm
    by_cases ay:j<n
    · obtain⟨aO,hw,af⟩:=gE.out (by omega)
      have hO:=Lib.hid hw;clear hw
      subst aO
      obtain⟨u,hu,hf⟩:=dF.out.cell hO.out (j:=o+j) (by omega)
      go_wp2
      go_roundw
      case rel=>exact⟨j+1,by omega,by go_num,by go_num,dF.out.snoc rfl⟩
      case measure=>simp[intOf];omega
    · have e:j=n:=by omega
      subst e
      go_wp2
      go_ret
      exact⟨rfl,dF.out⟩
theorem Fp (A:Option Addr) (c o n cap:Nat) (k:Int) (w:World) (ad:Array Value) (ty:TypeId) (bG:0<n→A=some ⟨c,o,none⟩∧w.heap[c]?=some (.cells ad ty (0,0))∧o+n*2≤ad.size) (aA:0≤k) (h1:k+2*n≤4611686018427387904):
    Calls Try.prog 134 #[.slice A n cap,.int .i64 k] w fun e w'=>e= .returned (.int .i64 (k+2*n))∧gY w w' c o (n*2) (lT k):=by
  have gE:=Lib.hid bG;clear bG
  go_enter Try.func134,Try.ntmps134
  go_wp2
  go_loopw [1,5] (fun q i wr=> ∃j:Nat,j≤n∧i= .int .i64 j∧q= .int .i64 (k+2*j)∧gY w wr c o (j*2) (lT k)) (fun _ i _=>n - (intOf i).toNat)
  case atStart=>exact⟨0,Nat.zero_le _,rfl,by simp,.refl _ _ _ _⟩
  case round=>
    obtain⟨j,O,rfl,rfl,hm⟩:=hrel
    have dF:=Lib.hid hm;clear hm
    by_cases ay:j<n
    · obtain⟨aO,hw,af⟩:=gE.out (by omega)
      have hO:=Lib.hid hw;clear hw
      subst aO
      obtain⟨vE,pT,rC⟩:=dF.out.cell hO.out (j:=o+j*2) (by omega)
      obtain⟨vF,km,rD⟩:=dF.out.cell hO.out (j:=o+j*2+1) (by omega)
      go_wp2
      go_roundw
      case rel=>exact⟨j+1,by omega,by go_num,by go_num,by
        have:=((dF.out.snoc (v:= .int .i64 (k+2*j)) (by unfold lT;congr 1;omega)).snoc (v:= .int .i64 (k+2*j+1)) (by unfold lT;congr 1;omega))
        rw[show(j+1)*2=j*2+1+1 by omega];exact this⟩
      case measure=>simp[intOf];omega
    · have e:j=n:=by omega
      subst e
      go_wp2
      go_ret
      exact⟨rfl,dF.out⟩
theorem Fq (A:Option Addr) (c o n cap:Nat) (k:Int) (w:World) (ad:Array Value) (ty:TypeId) (bG:0<n→A=some ⟨c,o,none⟩∧w.heap[c]?=some (.cells ad ty (0,0))∧o+n*2≤ad.size) (aA:0≤k) (h1:k+2*n≤4611686018427387904):
    Calls Try.prog 86 #[.slice A n cap,.int .i64 k] w fun e w'=>e= .returned (.int .i64 (k+2*n))∧gY w w' c o (n*2) (lT k):=by
  have gE:=Lib.hid bG;clear bG
  go_enter Try.func86,Try.ntmps86
  go_wp2
  go_loopw [1,5] (fun q i wr=> ∃j:Nat,j≤n∧i= .int .i64 j∧q= .int .i64 (k+2*j)∧gY w wr c o (j*2) (lT k)) (fun _ i _=>n - (intOf i).toNat)
  case atStart=>exact⟨0,Nat.zero_le _,rfl,by simp,.refl _ _ _ _⟩
  case round=>
    obtain⟨j,O,rfl,rfl,hm⟩:=hrel
    have dF:=Lib.hid hm;clear hm
    by_cases ay:j<n
    · obtain⟨aO,hw,af⟩:=gE.out (by omega)
      have hO:=Lib.hid hw;clear hw
      subst aO
      obtain⟨vE,pT,rC⟩:=dF.out.cell hO.out (j:=o+j*2) (by omega)
      obtain⟨vF,km,rD⟩:=dF.out.cell hO.out (j:=o+j*2+1) (by omega)
      go_wp2
      go_roundw
      case rel=>exact⟨j+1,by omega,by go_num,by go_num,by
        have:=((dF.out.snoc (v:= .int .i64 (k+2*j)) (by unfold lT;congr 1;omega)).snoc (v:= .int .i64 (k+2*j+1)) (by unfold lT;congr 1;omega))
        rw[show(j+1)*2=j*2+1+1 by omega];exact this⟩
      case measure=>simp[intOf];omega
    · have e:j=n:=by omega
      subst e
      go_wp2
      go_ret
      exact⟨rfl,dF.out⟩
open Go Go.RowKit
theorem cO.flat {w:World} {S:Nat→Prop} {κ e:aq} {L m n cap:Nat} {A:Option Addr} (pV:κ= .int∨κ= .bool) (aY:e.a6=List.replicate L κ) (aA:0<L) (h:cO w S (.l e) m (.slice A n cap)):
    m=n*L∧(0<n→ ∃(c o:Nat) (ad:Array Value) (ty:TypeId),A=some ⟨c,o,none⟩∧S c∧w.heap[c]?=some (.cells ad ty (0,0))∧o+n*L≤ad.size∧ ∀q,q<n*L→ ∃u,ad[o+q]?=some u∧cO w S κ 1 u):=by
  by_cases af:0<n
  · obtain⟨c,o,ad,ty,bH,bG,b5,aX,hm,bz,hv⟩:=h.cells af
    have ak:e.a6.length=L:=by rw[aY,List.length_replicate]
    rw[ak] at hm bz
    have O: ∀j,j<L→e.a6[j]?=some κ:=fun j O=>by rw[aY,List.getElem?_replicate,if_pos O]
    have one: ∀i j,i<n→j<L→bH i j=1∧ ∃u,ad[o+(i*L+j)]?=some u∧cO w S κ 1 u:=fun i j hi gr=>by
      obtain⟨u,hu,hk⟩:=hv i j κ hi (O j gr)
      rw[ak] at hu
      have:bH i j=1:=by
        rcases pV with rfl | rfl
        · exact hk.of_int.1
        · exact hk.of_bool.1
      exact⟨this,u,hu,this▸hk⟩
    refine⟨?_,fun _=>⟨c,o,ad,ty,bG,b5,aX,bz aA,fun q al=> ?_⟩⟩
    · rw[hm]
      exact AC fun i hi=>(AC (c:=1) fun j O=>(one i j hi O).1).trans (Nat.mul_one _)
    · have h1:q / L<n:=(Nat.div_lt_iff_lt_mul aA).2 al
      obtain⟨_,u,hu,hk⟩:=one (q / L) (q%L) h1 (Nat.mod_lt _ aA)
      refine⟨u,?_,hk⟩
      rw[Nat.mul_comm,Nat.div_add_mod] at hu
      exact hu
  · obtain rfl:n=0:=by omega
    exact⟨by rw[h.zero];simp,fun h=>absurd h af⟩
theorem cO.same {w:World} {S:Nat→Prop} {u:Value} (h:cO w S .int 1 u) (n:Int):jA (some u) (some (.int .i64 n)):=by
  obtain⟨_,m,rfl⟩:=h.of_int;exact .inr (.inl ⟨_,_,rfl,rfl⟩)
theorem cO.Q8 {w:World} {S:Nat→Prop} {u:Value} (h:cO w S .bool 1 u) (n:Bool):jA (some u) (some (.bool n)):=by
  obtain⟨_,m,rfl⟩:=h.of_bool;exact .inr (.inr ⟨_,_,rfl,rfl⟩)
theorem uN:qP Try.prog 56 (.l .int):=fun w S m v k h aA h1=>by
  obtain⟨A,n,cap,rfl⟩:=h.ju
  obtain⟨rfl,hc⟩:=h.flat (.inl rfl) (L:=1) rfl (by omega)
  rw[Nat.mul_one] at h1 hc ⊢
  have h2:k+n≤4611686018427387904:=by exact h1
  have aa:(Ending.returned (.int .i64 (k+n)):Ending)= .returned (.int .i64 (k+((n:Nat):Int))):=by rfl
  by_cases af:0<n
  · obtain⟨c,o,ad,ty,bG,b5,aX,an,hv⟩:=hc af
    refine(Fo A c o n cap k w ad ty (fun _=>⟨bG,aX,an⟩) aA h2).mono ?_
    rintro e w' ⟨rfl,hm⟩
    refine⟨aa,hm.dj b5 fun ba fz i hx hi=> ?_⟩
    rw[aX] at hx;cases hx
    obtain⟨u,hu,hk⟩:=hv i hi
    rw[hu];exact hk.same _
  · refine(Fo A w.heap.size 0 n cap k w #[] 0 (fun h=>absurd h af) aA h2).mono ?_
    rintro e w' ⟨rfl,hm⟩
    exact⟨aa,hm.uE⟩
theorem PV:qP Try.prog 85 (.l .bool):=fun w S m v k h aA h1=>by
  obtain⟨A,n,cap,rfl⟩:=h.ju
  obtain⟨rfl,hc⟩:=h.flat (.inr rfl) (L:=1) rfl (by omega)
  rw[Nat.mul_one] at h1 hc ⊢
  have h2:k+n≤4611686018427387904:=by exact h1
  have aa:(Ending.returned (.int .i64 (k+n)):Ending)= .returned (.int .i64 (k+((n:Nat):Int))):=by rfl
  by_cases af:0<n
  · obtain⟨c,o,ad,ty,bG,b5,aX,an,hv⟩:=hc af
    refine(uK A c o n cap k w ad ty (fun _=>⟨bG,aX,an⟩) aA h2).mono ?_
    rintro e w' ⟨rfl,hm⟩
    refine⟨aa,hm.dj b5 fun ba fz i hx hi=> ?_⟩
    rw[aX] at hx;cases hx
    obtain⟨u,hu,hk⟩:=hv i hi
    rw[hu];exact hk.Q8 _
  · refine(uK A w.heap.size 0 n cap k w #[] 0 (fun h=>absurd h af) aA h2).mono ?_
    rintro e w' ⟨rfl,hm⟩
    exact⟨aa,hm.uE⟩
theorem Fy:qP Try.prog 134 (.l .bZ):=fun w S m v k h aA h1=>by
  obtain⟨A,n,cap,rfl⟩:=h.ju
  obtain⟨rfl,hc⟩:=h.flat (.inl rfl) (L:=2) rfl (by omega)
  have h2:k+2*n≤4611686018427387904:=by omega
  have aa:(Ending.returned (.int .i64 (k+2*n)):Ending)= .returned (.int .i64 (k+((n*2:Nat):Int))):=by congr 2;omega
  by_cases af:0<n
  · obtain⟨c,o,ad,ty,bG,b5,aX,an,hv⟩:=hc af
    refine(Fp A c o n cap k w ad ty (fun _=>⟨bG,aX,an⟩) aA h2).mono ?_
    rintro e w' ⟨rfl,hm⟩
    refine⟨aa,hm.dj b5 fun ba fz i hx hi=> ?_⟩
    rw[aX] at hx;cases hx
    obtain⟨u,hu,hk⟩:=hv i hi
    rw[hu];exact hk.same _
  · refine(Fp A w.heap.size 0 n cap k w #[] 0 (fun h=>absurd h af) aA h2).mono ?_
    rintro e w' ⟨rfl,hm⟩
    exact⟨aa,hm.uE⟩
open Go Go.RowKit
theorem PW:qP Try.prog 84 (.l (.l .bool)):=fun w S m v k h aA h1=>by
  obtain⟨A,n,cap,rfl⟩:=h.ju
  obtain⟨mu,c,o,bH,bG,rfl,ak,_,_⟩:=h.elem
  have H1:=Lib.hid h1;clear h1
  have gE:=Lib.hid bG;clear bG
  have bR:=Lib.hid ak;clear ak
  clear h
  go_enter Try.func84,Try.ntmps84
  go_wp2
  go_loopw [1,5] (fun q i wr=> ∃j:Nat,j≤n∧i= .int .i64 j∧q= .int .i64 (k+(bW (fun i=>bW (bH i) 1) j:Nat))∧cy S w wr) (fun _ i _=>n - (intOf i).toNat)
  case atStart=>exact⟨0,Nat.zero_le _,rfl,by simp[bW],.refl _ _⟩
  case round=>
    obtain⟨j,O,rfl,rfl,hm⟩:=hrel
    have dF:=Lib.hid hm;clear hm
    by_cases ay:j<n
    · obtain rfl:=gE.out (by omega)
      obtain⟨bp,bo,a1,h2⟩:=bR.out j 0 .bool ay rfl
      obtain⟨x2,m_⟩:=h2 wr dF.out
      rw[show o+(j*(aq.l aq.bool).a6.length+0)=o+j from by show o+(j*1+0)=_;omega] at x2
      have qK:=Lib.hid m_;clear m_ h2
      have aC:bW (fun i=>bW (bH i) 1) (j+1)=bW (fun i=>bW (bH i) 1) j+bH j 0:=by show _+(0+bH j 0)=_;rw[Nat.zero_add]
      have hle:bW (fun i=>bW (bH i) 1) (j+1)≤bW (fun i=>bW (bH i) 1) n:=AD (by omega)
      have jy:Hid (k+(bW (fun i=>bW (bH i) 1) j:Nat)+(bH j 0:Nat)≤4611686018427387904∧0≤k+(bW (fun i=>bW (bH i) 1) j:Nat)):=by
        unfold Hid
        have h1:k+(bW (fun i=>bW (bH i) 1) n:Nat)≤4611686018427387904:=H1.out
        omega
      have jl:=Lib.hid aC;clear aC hle
      go_wp2_with (go_at_call 85;refine(PV _ S _ _ _ qK.out jy.out.2 jy.out.1).mono ?_)
      first
      | (rintro e bX rfl xY)
      | (rintro e bX ⟨rfl,xY⟩)
      have sS:=Lib.hid (dF.out.trans xY);clear xY
      go_wp2
      go_roundw
      case rel=>exact⟨j+1,by omega,by go_num,by rw[jl.out];congr 1;omega,sS.out⟩
      case measure=>simp[intOf];omega
    · have e:j=n:=by omega
      subst e
      go_wp2
      go_ret
      exact⟨rfl,dF.out⟩
theorem PY:qP Try.prog 83 (.l .cN):=fun w S m v k h aA h1=>by
  obtain⟨A,n,cap,rfl⟩:=h.ju
  obtain⟨mu,c,o,bH,bG,rfl,ak,_,_⟩:=h.elem
  have H1:=Lib.hid h1;clear h1
  have gE:=Lib.hid bG;clear bG
  have bR:=Lib.hid ak;clear ak
  clear h
  go_enter Try.func83,Try.ntmps83
  go_wp2
  go_loopw [1,5] (fun q i wr=> ∃j:Nat,j≤n∧i= .int .i64 j∧q= .int .i64 (k+(bW (fun i=>bW (bH i) 5) j:Nat))∧cy S w wr) (fun _ i _=>n - (intOf i).toNat)
  case atStart=>exact⟨0,Nat.zero_le _,rfl,by simp[bW],.refl _ _⟩
  case round=>
    obtain⟨j,O,rfl,rfl,hm⟩:=hrel
    have dF:=Lib.hid hm;clear hm
    by_cases ay:j<n
    · obtain rfl:=gE.out (by omega)
      obtain⟨bp,bo,a1,CP⟩:=bR.out j 0 .int ay rfl
      have h6:=Lib.hid CP;clear CP
      obtain⟨bq,bU,aV,m6⟩:=bR.out j 1 .bZ ay rfl
      have h7:=Lib.hid m6;clear m6
      obtain⟨bk,n2,aQ,hW⟩:=bR.out j 2 .bZ ay rfl
      have f_:=Lib.hid hW;clear hW
      obtain⟨H2,je,hz,CQ⟩:=bR.out j 3 .int ay rfl
      have AW:=Lib.hid CQ;clear CQ
      obtain⟨H3,zk,jE,CR⟩:=bR.out j 4 .int ay rfl
      have AX:=Lib.hid CR;clear CR
      have aC:bW (fun i=>bW (bH i) 5) (j+1)=bW (fun i=>bW (bH i) 5) j+(bH j 0+bH j 1+bH j 2+bH j 3+bH j 4):=by
        show _+(0+bH j 0+bH j 1+bH j 2+bH j 3+bH j 4)=_
        rw[Nat.zero_add]
      have hle:bW (fun i=>bW (bH i) 5) (j+1)≤bW (fun i=>bW (bH i) 5) n:=AD (by omega)
      have jy:Hid (0≤k+(bW (fun i=>bW (bH i) 5) j:Nat)∧k+(bW (fun i=>bW (bH i) 5) j:Nat)+((bH j 0:Nat)+(bH j 1:Nat)+(bH j 2:Nat)+(bH j 3:Nat)+(bH j 4:Nat))≤4611686018427387904):=by
        unfold Hid
        have h1:k+(bW (fun i=>bW (bH i) 5) n:Nat)≤4611686018427387904:=H1.out
        omega
      have jl:=Lib.hid aC;clear aC hle
      have x2:wr.cell? ⟨c,o+j*5,none⟩=some (.slice bp bo a1):=by
        have:=(h6.out wr dF.out).1
        rw[show o+(j*(aq.a6 .cN).length+0)=o+j*5 from by show o+(j*5+0)=_;omega] at this
        exact this
      have kF:Hid (0≤k+(bW (fun i=>bW (bH i) 5) j:Nat)∧k+(bW (fun i=>bW (bH i) 5) j:Nat)+(bH j 0:Nat)≤4611686018427387904):=by unfold Hid;have:=jy.out;omega
      go_wp2_with (go_at_call 56;refine(uN wr S _ _ _ (h6.out wr dF.out).2 kF.out.1 kF.out.2).mono ?_)
      first
      | (rintro e bX rfl hb)
      | (rintro e bX ⟨rfl,hb⟩)
      have v7:=Lib.hid (dF.out.trans hb);clear hb x2
      have mn:bX.cell? ⟨c,o+j*5+1,none⟩=some (.slice bq bU aV):=by
        have:=(h7.out bX v7.out).1
        rw[show o+(j*(aq.a6 .cN).length+1)=o+j*5+1 from by show o+(j*5+1)=_;omega] at this
        exact this
      have kG:Hid (0≤k+(bW (fun i=>bW (bH i) 5) j:Nat)+(bH j 0:Nat)∧k+(bW (fun i=>bW (bH i) 5) j:Nat)+(bH j 0:Nat)+(bH j 1:Nat)≤4611686018427387904):=by unfold Hid;have:=jy.out;omega
      go_wp2_with (go_at_call 134;refine(Fy bX S _ _ _ (h7.out bX v7.out).2 kG.out.1 kG.out.2).mono ?_)
      first
      | (rintro e du rfl hb)
      | (rintro e du ⟨rfl,hb⟩)
      have qO:=Lib.hid (v7.out.trans hb);clear hb mn
      have oc:du.cell? ⟨c,o+j*5+2,none⟩=some (.slice bk n2 aQ):=by
        have:=(f_.out du qO.out).1
        rw[show o+(j*(aq.a6 .cN).length+2)=o+j*5+2 from by show o+(j*5+2)=_;omega] at this
        exact this
      have h8:Hid (0≤k+(bW (fun i=>bW (bH i) 5) j:Nat)+(bH j 0:Nat)+(bH j 1:Nat)∧k+(bW (fun i=>bW (bH i) 5) j:Nat)+(bH j 0:Nat)+(bH j 1:Nat)+(bH j 2:Nat)≤4611686018427387904):=by unfold Hid;have:=jy.out;omega
      go_wp2_with (go_at_call 134;refine(Fy du S _ _ _ (f_.out du qO.out).2 h8.out.1 h8.out.2).mono ?_)
      first
      | (rintro e eB rfl hb)
      | (rintro e eB ⟨rfl,hb⟩)
      have v8:=Lib.hid (qO.out.trans hb);clear hb oc
      have L9:eB.cell? ⟨c,o+j*5+3,none⟩=some (.slice H2 je hz):=by
        have:=(AW.out eB v8.out).1
        rw[show o+(j*(aq.a6 .cN).length+3)=o+j*5+3 from by show o+(j*5+3)=_;omega] at this
        exact this
      have AY:Hid (0≤k+(bW (fun i=>bW (bH i) 5) j:Nat)+(bH j 0:Nat)+(bH j 1:Nat)+(bH j 2:Nat)∧k+(bW (fun i=>bW (bH i) 5) j:Nat)+(bH j 0:Nat)+(bH j 1:Nat)+(bH j 2:Nat)+(bH j 3:Nat)≤4611686018427387904):=by unfold Hid;have:=jy.out;omega
      go_wp2_with (go_at_call 56;refine(uN eB S _ _ _ (AW.out eB v8.out).2 AY.out.1 AY.out.2).mono ?_)
      first
      | (rintro e gC rfl hb)
      | (rintro e gC ⟨rfl,hb⟩)
      have v_:=Lib.hid (v8.out.trans hb);clear hb L9
      have L_:gC.cell? ⟨c,o+j*5+4,none⟩=some (.slice H3 zk jE):=by
        have:=(AX.out gC v_.out).1
        rw[show o+(j*(aq.a6 .cN).length+4)=o+j*5+4 from by show o+(j*5+4)=_;omega] at this
        exact this
      have AZ:Hid (0≤k+(bW (fun i=>bW (bH i) 5) j:Nat)+(bH j 0:Nat)+(bH j 1:Nat)+(bH j 2:Nat)+(bH j 3:Nat)∧k+(bW (fun i=>bW (bH i) 5) j:Nat)+(bH j 0:Nat)+(bH j 1:Nat)+(bH j 2:Nat)+(bH j 3:Nat)+(bH j 4:Nat)≤4611686018427387904):=by unfold Hid;have:=jy.out;omega
      go_wp2_with (go_at_call 56;refine(uN gC S _ _ _ (AX.out gC v_.out).2 AZ.out.1 AZ.out.2).mono ?_)
      first
      | (rintro e nB rfl hb)
      | (rintro e nB ⟨rfl,hb⟩)
      have Ia:=Lib.hid (v_.out.trans hb);clear hb L_
      go_wp2
      go_roundw
      case rel=>exact⟨j+1,by omega,by go_num,by rw[jl.out];congr 1;omega,Ia.out⟩
      case measure=>simp[intOf];omega
    · have e:j=n:=by omega
      subst e
      go_wp2
      go_ret
      exact⟨rfl,dF.out⟩
open Go Go.RowKit
theorem PX (w:World) (S:Nat→Prop) (qt dw:Int) (bp bq bk:Option Addr) (bo a1 au bU aV a7 n2 aQ bO:Nat) (k:Int) (kH:cO w S (.l .int) au (.slice bp bo a1)) (j7:cO w S (.l .cN) a7 (.slice bq bU aV)) (j8:cO w S (.l (.l .bool)) bO (.slice bk n2 aQ)) (aA:0≤k) (h1:k+(au:Nat)+(a7:Nat)+(bO:Nat)≤4611686018427387904):
    Calls Try.prog 35 #[.agg #[.int .i64 qt,.slice bp bo a1,.slice bq bU aV,.slice bk n2 aQ,.int .i64 dw],.int .i64 k] w fun fK w'=>fK= .returned (.int .i64 (k+(au:Nat)+(a7:Nat)+(bO:Nat)))∧cy S w w':=by
  have hO:Hid (cy S w (w.alloc (.cells #[.int .i64 qt,.slice bp bo a1,.slice bq bU aV,.slice bk n2 aQ,.int .i64 dw] 29))):=cy.below ((Below.refl _ _).alloc (Nat.le_refl _) _)
  have nN:Hid ((w.alloc (.cells #[.int .i64 qt,.slice bp bo a1,.slice bq bU aV,.slice bk n2 aQ,.int .i64 dw] 29)).heap[w.heap.size]?=some (.cells #[.int .i64 qt,.slice bp bo a1,.slice bq bU aV,.slice bk n2 aQ,.int .i64 dw] 29 (0,0))):=nS _ _
  have h6:=Lib.hid kH;clear kH
  have h7:=Lib.hid j7;clear j7
  have f_:=Lib.hid j8;clear j8
  go_enter Try.func35,Try.ntmps35
  have H_:Hid (cy S (w.alloc (.cells #[.int .i64 qt,.slice bp bo a1,.slice bq bU aV,.slice bk n2 aQ,.int .i64 dw] 29)) (w.alloc (.cells #[.int .i64 qt,.slice bp bo a1,.slice bq bU aV,.slice bk n2 aQ,.int .i64 dw] 29))):=cy.refl _ _
  have kF:Hid (0≤k∧k+(au:Nat)≤4611686018427387904):=by unfold Hid;omega
  go_wp2_with (go_at_call 56;refine(uN _ S _ _ _ (h6.out.dj hO.out) kF.out.1 kF.out.2).mono ?_)
  first
  | (rintro e bX rfl hb)
  | (rintro e bX ⟨rfl,hb⟩)
  have j5:=Lib.hid (H_.out.trans hb);clear hb
  have mn:bX.cell? ⟨w.heap.size,2,none⟩=some (.slice bq bU aV):=j5.out.head nN.out rfl
  have kG:Hid (0≤k+(au:Nat)∧k+(au:Nat)+(a7:Nat)≤4611686018427387904):=by unfold Hid;omega
  go_wp2_with (go_at_call 83;refine(PY _ S _ _ _ (h7.out.dj (hO.out.trans j5.out)) kG.out.1 kG.out.2).mono ?_)
  first
  | (rintro e du rfl hb)
  | (rintro e du ⟨rfl,hb⟩)
  have j6:=Lib.hid (j5.out.trans hb);clear hb mn
  have oc:du.cell? ⟨w.heap.size,3,none⟩=some (.slice bk n2 aQ):=j6.out.head nN.out rfl
  have h8:Hid (0≤k+(au:Nat)+(a7:Nat)∧k+(au:Nat)+(a7:Nat)+(bO:Nat)≤4611686018427387904):=by unfold Hid;omega
  go_wp2_with (go_at_call 84;refine(PW _ S _ _ _ (f_.out.dj (hO.out.trans j6.out)) h8.out.1 h8.out.2).mono ?_)
  first
  | (rintro e eB rfl hb)
  | (rintro e eB ⟨rfl,hb⟩)
  have qN:=Lib.hid (j6.out.trans hb);clear hb oc
  go_wp2
  go_ret
  exact⟨rfl,hO.out.trans qN.out⟩
def dm:List (Nat×aq):=[(23,.u8),(25,.int),(26,.cN),(27,(.l .bool)),(33,.done),(35,.jL),(36,.bool),(37,.eu),(38,.held),(46,.cN),(66,.eu),(67,.held),(78,.bZ),(138,.bZ),(144,(.l .int)),(161,(.l .bZ)),(170,.str)]
end Go.Proofs.Ytglpfccgmfhkdaa.Fw
set_option linter.unusedVariables false
set_option maxRecDepth 100000
set_option maxHeartbeats 4000000
set_option linter.unusedSimpArgs false
namespace Go.Proofs.Ytglpfccgmfhkdaa.Fw
open Go
attribute [local irreducible] evS evSD WpS Weak Oper.looksAt
def EK (a0:(List Int)) (J:Int) (ah:Int):Prop:=
 a0.length≤4611686018427387904→((decide ((IntKind.i64.wrap (J - (a0.length:Int)))<0))=true→(-1)=ah)∧((!(decide ((IntKind.i64.wrap (J - (a0.length:Int)))<0)))=true→(IntKind.i64.wrap (J - (a0.length:Int)))=ah)
theorem OT (a0:(List Int)) (J:Int) (ab:fN a0 J):bh Try.prog 64 [b_ c1 a0,aG J] (aG (b0 a0 J)):=(fun(h:EK a0 J (b0 a0 J))=>bh.run (ps:=[(.l .int),.int]) (rs:=[.int]) (x:=(a0,J,())) (r:=((b0 a0 J),())) ⟨12,dm,[]⟩ ⟨[],[],[],[],[]⟩ .nil Try.func64 h) (by
 unfold EK
 exact fun af=>Ax ab af)
def EL:c_ Try.prog:=⟨64,[(.l .int),.int],[.int],some fun x=>fN x.1 x.2.1,fun x=>((b0 x.1 x.2.1),()),fun x h=>OT x.1 x.2.1 h⟩
def EM (a0:(List cm)) (J:Int) (ah:Int):Prop:=
 a0.length≤4611686018427387904→((decide ((IntKind.i64.wrap (J - (a0.length:Int)))<0))=true→(-1)=ah)∧((!(decide ((IntKind.i64.wrap (J - (a0.length:Int)))<0)))=true→(IntKind.i64.wrap (J - (a0.length:Int)))=ah)
theorem OU (a0:(List cm)) (J:Int) (ab:fN a0 J):bh Try.prog 159 [b_ cK a0,aG J] (aG (b0 a0 J)):=(fun(h:EM a0 J (b0 a0 J))=>bh.run (ps:=[(.l .bZ),.int]) (rs:=[.int]) (x:=(a0,J,())) (r:=((b0 a0 J),())) ⟨12,dm,[]⟩ ⟨[],[],[],[],[]⟩ .nil Try.func159 h) (by
 unfold EM
 exact fun af=>Ax ab af)
def OV:c_ Try.prog:=⟨159,[(.l .bZ),.int],[.int],some fun x=>fN x.1 x.2.1,fun x=>((b0 x.1 x.2.1),()),fun x h=>OU x.1 x.2.1 h⟩
def ES (a0:Way) (J ah:Int):Prop:=
  ((decide ((b0 a0.b8 (b0 a0.ca (b0 a0.bA (b0 a0.ae J))))<0))=true→(-1)=ah)∧((!(decide ((b0 a0.b8 (b0 a0.ca (b0 a0.bA (b0 a0.ae J))))<0)))=true→(fN a0.ct (b0 a0.b8 (b0 a0.ca (b0 a0.bA (b0 a0.ae J)))))∧(((decide ((b0 a0.ct (b0 a0.b8 (b0 a0.ca (b0 a0.bA (b0 a0.ae J)))))<0))=true→(-1)=ah)∧((!(decide ((b0 a0.ct (b0 a0.b8 (b0 a0.ca (b0 a0.bA (b0 a0.ae J)))))<0)))=true→(b0 a0.ct (b0 a0.b8 (b0 a0.ca (b0 a0.bA (b0 a0.ae J)))))=ah)))
def ET (a0:Way) (J ah:Int):Prop:=
  ((decide ((b0 a0.bA (b0 a0.ae J))<0))=true→(-1)=ah)∧((!(decide ((b0 a0.bA (b0 a0.ae J))<0)))=true→(fN a0.ca (b0 a0.bA (b0 a0.ae J)))∧(((decide ((b0 a0.ca (b0 a0.bA (b0 a0.ae J)))<0))=true→(-1)=ah)∧((!(decide ((b0 a0.ca (b0 a0.bA (b0 a0.ae J)))<0)))=true→(fN a0.b8 (b0 a0.ca (b0 a0.bA (b0 a0.ae J))))∧(ES a0 J ah))))
def ER (a0:Way) (J:Int) (ah:Int):Prop:=
 (fN a0.ae J)∧(((decide ((b0 a0.ae J)<0))=true→(-1)=ah)∧((!(decide ((b0 a0.ae J)<0)))=true→(fN a0.bA (b0 a0.ae J))∧(ET a0 J ah)))
theorem OZ (a0:Way) (J:Int) (ab:fN a0 J):bh Try.prog 125 [.agg (cE false a0),aG J] (aG (l0 a0 J)):=(fun(h:ER a0 J (l0 a0 J))=>bh.run (ps:=[.cN,.int]) (rs:=[.int]) (x:=(a0,J,())) (r:=((l0 a0 J),())) ⟨36,dm,[EL,OV]⟩ ⟨[],[],[],[],[]⟩ .nil Try.func125 h) (by
 unfold ER ET ES l0 mQ b0
 have ab:0≤J∧J≤1048576:=ab
 refine⟨ab,nz (m:=a0.bA.length+a0.ca.length+a0.b8.length+a0.ct.length) ab (by omega) fun c k=>⟨k,?_⟩⟩
 rw[ow ab.1 c]
 refine nz (m:=a0.ca.length+a0.b8.length+a0.ct.length) ab (by omega) fun c k=>⟨k,?_⟩
 rw[ow ab.1 c]
 refine nz (m:=a0.b8.length+a0.ct.length) ab (by omega) fun c k=>⟨k,?_⟩
 rw[ow ab.1 c]
 refine nz (m:=a0.ct.length) ab (by omega) fun c k=>⟨k,?_⟩
 rw[ow ab.1 c]
 exact nz (m:=0) ab (by omega) fun c k=>rfl)
def O0:c_ Try.prog:=⟨125,[.cN,.int],[.int],some fun x=>fN x.1 x.2.1,fun x=>((l0 x.1 x.2.1),()),fun x h=>OZ x.1 x.2.1 h⟩
def EQ (ap:Int→Int→Prop) (au:Int→Int→Nat) (a0:(List Way)) (J ah:Int):Prop:=
  ap (IntKind.i64.wrap (J - (a0.length:Int))) 0∧ ∀(v1:Int) (v5:Int),ap v1 v5→(((decide (v5<(a0.length:Int)))=false→v1=ah)∧((decide (v5<(a0.length:Int)))=true→(((0≤v5∧v5.toNat<a0.length)∧(fN (nth a0 v5) v1))∧((decide ((l0 (nth a0 v5) v1)<0))=true→(-1)=ah))∧((!(decide ((l0 (nth a0 v5) v1)<0)))=true→ap (l0 (nth a0 v5) v1) (IntKind.i64.wrap (v5+1))∧au (l0 (nth a0 v5) v1) (IntKind.i64.wrap (v5+1))<au v1 v5)))
def EP (a0:(List Way)) (J:Int) (ah:Int) (ap:Int→Int→Prop) (au:Int→Int→Nat):Prop:=
 a0.length≤4611686018427387904→((decide ((IntKind.i64.wrap (J - (a0.length:Int)))<0))=true→(-1)=ah)∧((!(decide ((IntKind.i64.wrap (J - (a0.length:Int)))<0)))=true→EQ ap au a0 J ah)
theorem OX (a0:(List Way)) (J:Int) (ab:fN a0 J):bh Try.prog 65 [b_ (cE false) a0,aG J] (aG (ld a0 J)):=(fun(ap:Int→Int→Prop) (au:Int→Int→Nat) (h:EP a0 J (ld a0 J) ap au)=>bh.run (ps:=[(.l .cN),.int]) (rs:=[.int]) (x:=(a0,J,())) (r:=((ld a0 J),())) ⟨27,dm,[O0]⟩ ⟨[14],[],[],[],[]⟩ (.lp [] [0] [] [.int,.int] [1,5] (fun bi=>[(1,.i .i64 bi.1),(5,.i .i64 bi.2.1)]) (fun bi=>ap bi.1 bi.2.1) (fun bi=>au bi.1 bi.2.1) fun _=> .nil) Try.func65 h) (st a0 mQ J) (su a0) (by
 unfold EP EQ
 exact fun af=>HD (g:=l0) (fun _ _=>rfl) ab af)
def OY:c_ Try.prog:=⟨65,[(.l .cN),.int],[.int],some fun x=>fN x.1 x.2.1,fun x=>((ld x.1 x.2.1),()),fun x h=>OX x.1 x.2.1 h⟩
def EJ (a0:(List Bool)) (J:Int) (ah:Int):Prop:=
 a0.length≤4611686018427387904→((decide ((IntKind.i64.wrap (J - (a0.length:Int)))<0))=true→(-1)=ah)∧((!(decide ((IntKind.i64.wrap (J - (a0.length:Int)))<0)))=true→(IntKind.i64.wrap (J - (a0.length:Int)))=ah)
theorem OR (a0:(List Bool)) (J:Int) (ab:fN a0 J):bh Try.prog 94 [b_ bm a0,aG J] (aG (b0 a0 J)):=(fun(h:EJ a0 J (b0 a0 J))=>bh.run (ps:=[(.l .bool),.int]) (rs:=[.int]) (x:=(a0,J,())) (r:=((b0 a0 J),())) ⟨12,dm,[]⟩ ⟨[],[],[],[],[]⟩ .nil Try.func94 h) (by
 unfold EJ
 exact fun af=>Ax ab af)
def OS:c_ Try.prog:=⟨94,[(.l .bool),.int],[.int],some fun x=>fN x.1 x.2.1,fun x=>((b0 x.1 x.2.1),()),fun x h=>OR x.1 x.2.1 h⟩
def EI (ap:Int→Int→Prop) (au:Int→Int→Nat) (a0:(List (List Bool))) (J ah:Int):Prop:=
  ap (IntKind.i64.wrap (J - (a0.length:Int))) 0∧ ∀(v1:Int) (v5:Int),ap v1 v5→(((decide (v5<(a0.length:Int)))=false→v1=ah)∧((decide (v5<(a0.length:Int)))=true→(((0≤v5∧v5.toNat<a0.length)∧(fN (nth a0 v5) v1))∧((decide ((b0 (nth a0 v5) v1)<0))=true→(-1)=ah))∧((!(decide ((b0 (nth a0 v5) v1)<0)))=true→ap (b0 (nth a0 v5) v1) (IntKind.i64.wrap (v5+1))∧au (b0 (nth a0 v5) v1) (IntKind.i64.wrap (v5+1))<au v1 v5)))
def EH (a0:(List (List Bool))) (J:Int) (ah:Int) (ap:Int→Int→Prop) (au:Int→Int→Nat):Prop:=
 a0.length≤4611686018427387904→((decide ((IntKind.i64.wrap (J - (a0.length:Int)))<0))=true→(-1)=ah)∧((!(decide ((IntKind.i64.wrap (J - (a0.length:Int)))<0)))=true→EI ap au a0 J ah)
theorem OP (a0:(List (List Bool))) (J:Int) (ab:fN a0 J):bh Try.prog 66 [b_ (eV bm false) a0,aG J] (aG (ny a0 J)):=(fun(ap:Int→Int→Prop) (au:Int→Int→Nat) (h:EH a0 J (ny a0 J) ap au)=>bh.run (ps:=[(.l (.l .bool)),.int]) (rs:=[.int]) (x:=(a0,J,())) (r:=((ny a0 J),())) ⟨27,dm,[OS]⟩ ⟨[14],[],[],[],[]⟩ (.lp [] [0] [] [.int,.int] [1,5] (fun bi=>[(1,.i .i64 bi.1),(5,.i .i64 bi.2.1)]) (fun bi=>ap bi.1 bi.2.1) (fun bi=>au bi.1 bi.2.1) fun _=> .nil) Try.func66 h) (st a0 List.length J) (su a0) (by
 unfold EH EI
 exact fun af=>HD (g:=b0) (fun _ _=>rfl) ab af)
def OQ:c_ Try.prog:=⟨66,[(.l (.l .bool)),.int],[.int],some fun x=>fN x.1 x.2.1,fun x=>((ny x.1 x.2.1),()),fun x h=>OP x.1 x.2.1 h⟩
def EO (a0:aS) (J ah:Int):Prop:=
  ((decide ((ld a0.U (b0 a0.aR J))<0))=true→(-1)=ah)∧((!(decide ((ld a0.U (b0 a0.aR J))<0)))=true→(fN a0.a_ (ld a0.U (b0 a0.aR J)))∧(((decide ((ny a0.a_ (ld a0.U (b0 a0.aR J)))<0))=true→(-1)=ah)∧((!(decide ((ny a0.a_ (ld a0.U (b0 a0.aR J)))<0)))=true→(ny a0.a_ (ld a0.U (b0 a0.aR J)))=ah)))
def EN (a0:aS) (J:Int) (ah:Int):Prop:=
 (fN a0.aR J)∧(((decide ((b0 a0.aR J)<0))=true→(-1)=ah)∧((!(decide ((b0 a0.aR J)<0)))=true→(fN a0.U (b0 a0.aR J))∧(EO a0 J ah)))
theorem OW (a0:aS) (J:Int) (ab:fN a0 J):bh Try.prog 23 [.agg (bT false a0),aG J] (aG (mO a0 J)):=(fun(h:EN a0 J (mO a0 J))=>bh.run (ps:=[.fe,.int]) (rs:=[.int]) (x:=(a0,J,())) (r:=((mO a0 J),())) ⟨24,dm,[EL,OY,OQ]⟩ ⟨[],[],[],[],[]⟩ .nil Try.func23 h) (by
 unfold EN EO mO lY b0 ld ny
 have ab:0≤J∧J≤1048576:=ab
 refine⟨ab,nz (m:=qB a0.U+nV a0.a_) ab (by omega) fun c k=>⟨k,?_⟩⟩
 rw[ow ab.1 c]
 refine nz (m:=nV a0.a_) ab (by omega) fun c k=>⟨k,?_⟩
 rw[ow ab.1 c]
 exact nz (m:=0) ab (by omega) fun c k=>rfl)
def RA (a0:Int) (J:Int) (a2:Int) (ah:Bool):Prop:=
 ((decide (a0 ≥ J))&&(decide (a0≤a2)))=ah
theorem RB (a0:Int) (J:Int) (a2:Int):bh Try.prog 67 [aG a0,aG J,aG a2] (aP (cr a0 J a2)):=(fun(h:RA a0 J a2 (cr a0 J a2))=>bh.run (ps:=[.int,.int,.int]) (rs:=[.bool]) (x:=(a0,J,a2,())) (r:=((cr a0 J a2),())) ⟨15,dm,[]⟩ ⟨[],[],[],[],[]⟩ .nil Try.func67 h) (by
 rfl)
def Ao:c_ Try.prog:=⟨67,[.int,.int,.int],[.bool],none,fun x=>((cr x.1 x.2.1 x.2.2.1),()),fun x h=>RB x.1 x.2.1 x.2.2.1⟩
def Ho (ap:Int→Prop) (au:Int→Nat) (bj:Int→Int→Prop) (a7:Int→Int→Nat) (a0 J:(List Int)) (ah:Bool) (v11:Int):Prop:=
  bj v11 0∧ ∀(dI:Int),bj v11 dI→(((decide (dI<(J.length:Int)))=false→ap (IntKind.i64.wrap (v11+1))∧au (IntKind.i64.wrap (v11+1))<au v11)∧((decide (dI<(J.length:Int)))=true→((0≤dI∧dI.toNat<J.length)∧(((nth a0 v11)==(nth J dI))=true→true=ah))∧((!((nth a0 v11)==(nth J dI)))=true→bj v11 (IntKind.i64.wrap (dI+1))∧a7 v11 (IntKind.i64.wrap (dI+1))<a7 v11 dI)))
def Hn (a0:(List Int)) (J:(List Int)) (ah:Bool) (ap:Int→Prop) (au:Int→Nat) (bj:Int→Int→Prop) (a7:Int→Int→Nat):Prop:=
 a0.length≤4611686018427387904→ap 0∧ ∀(v11:Int),ap v11→(((decide (v11<(a0.length:Int)))=false→false=ah)∧((decide (v11<(a0.length:Int)))=true→(0≤v11∧v11.toNat<a0.length)∧(J.length≤4611686018427387904→Ho ap au bj a7 a0 J ah v11)))
theorem RI (a0:(List Int)) (J:(List Int)):bh Try.prog 69 [b_ c1 a0,b_ c1 J] (aP (meets a0 J)):=(fun(ap:Int→Prop) (au:Int→Nat) (bj:Int→Int→Prop) (a7:Int→Int→Nat) (h:Hn a0 J (meets a0 J) ap au bj a7)=>bh.run (ps:=[(.l .int),(.l .int)]) (rs:=[.bool]) (x:=(a0,J,())) (r:=((meets a0 J),())) ⟨26,dm,[]⟩ ⟨[],[],[],[],[]⟩ (fb [1,9,10] [] 11 ap au fun bi=>(fb [1,6,9,10,11,15,16] [] 17 (bj bi) (a7 bi) fun _=> .nil)) Try.func69 h) (c5 a0.length (fun j=>eK J (nth a0 j))) (dD a0.length) (fun v=>c5 J.length (fun k=>nth a0 v==nth J k)) (fun v=>dD J.length) (by
 unfold Hn Ho
 intro af
 refine⟨fp (ep _),fun v bK=>⟨fun hv=> ?_,fun hv=>⟨ea bK hv,fun hm=>⟨fp (ep _),fun k hK=>⟨fun hk=> ?_,fun hk=>⟨⟨ea hK hk,fun ab=> ?_⟩,fun ab=>eM (eR hm) hK hk (not_eq ab)⟩⟩⟩⟩⟩⟩
 ·exact(HQ (q:=fun x=>eK J x) bK hv).symm
 ·exact eM (eR af) bK hv (L3 (hq hK hk))
 ·exact(HP (q:=fun x=>eK J x) bK hv (L5 (ea hK hk).2 ab)).symm)
def Hp:c_ Try.prog:=⟨69,[(.l .int),(.l .int)],[.bool],none,fun x=>((meets x.1 x.2.1),()),fun x h=>RI x.1 x.2.1⟩
def EZ (ap:(List Int)→Int→Prop) (au:(List Int)→Int→Nat) (a0 ah:(List Int)):Prop:=
  ap (List.replicate (a0.length:Int).toNat (0:Int)) 0∧ ∀(bL:(List Int)) (v4:Int),ap bL v4→(((decide (v4<(a0.length:Int)))=false→bL.length≤4611686018427387904∧bL=ah)∧((decide (v4<(a0.length:Int)))=true→((0≤v4∧v4.toNat<a0.length)∧((0≤v4∧v4.toNat<bL.length)∧(v4.toNat<bL.length)))∧(ap (bL.set v4.toNat (nth a0 v4)) (IntKind.i64.wrap (v4+1))∧au (bL.set v4.toNat (nth a0 v4)) (IntKind.i64.wrap (v4+1))<au bL v4)))
def EY (a0:(List Int)) (ah:(List Int)) (ap:(List Int)→Int→Prop) (au:(List Int)→Int→Nat):Prop:=
 (a0.length≤4611686018427387904→0≤(a0.length:Int)∧8*(a0.length:Int)≤140737488355328∧(a0.length:Int)≤4611686018427387904)∧(a0.length≤4611686018427387904→EZ ap au a0 ah)
theorem O5 (a0:(List Int)) (ab:small a0):bh Try.prog 70 [b_ c1 a0] (nQ c1 (b7 a0)):=(fun(ap:(List Int)→Int→Prop) (au:(List Int)→Int→Nat) (h:EY a0 (b7 a0) ap au)=>bh.run (ps:=[(.l .int)]) (rs:=[(.l .int)]) (x:=(a0,())) (r:=((b7 a0),())) ⟨22,dm,[]⟩ ⟨[10],[],[],[],[]⟩ (.lp [] [0] [] [(.l .int),.int] [bc 0,4] (fun bi=>[(3,.ref 0 0 bi.1.length false),(4,.i .i64 bi.2.1),(bc 0,.blk 0 .int bi.1 _ rfl)]) (fun bi=>ap bi.1 bi.2.1) (fun bi=>au bi.1 bi.2.1) fun _=> .nil) Try.func70 h) (kO a0 (fun x=>x) (0:Int)) (lH a0) (by
 unfold EY EZ
 have ab:a0.length≤1048576:=ab
 exact⟨fun af=>⟨ep _,by omega,by omega⟩,fun af=>xF (f:=fun x=>x) af (by simp[b7])⟩)
def E0:c_ Try.prog:=⟨70,[(.l .int)],[(.l .int)],some fun x=>small x.1,fun x=>((b7 x.1),()),fun x h=>O5 x.1 h⟩
def O8 (a0:cm) (ah:cm):Prop:=
 (a0.bE=ah.bE)∧(a0.bZ=ah.bZ)
theorem O9 (a0:cm):bh Try.prog 168 [.agg (cK a0)] (.agg (cK (b7 a0))):=(fun(h:O8 a0 (b7 a0))=>bh.run (ps:=[.bZ]) (rs:=[.bZ]) (x:=(a0,())) (r:=((b7 a0),())) ⟨11,dm,[]⟩ ⟨[],[],[],[],[]⟩ .nil Try.func168 h) (by
 exact⟨rfl,rfl⟩)
def O_:c_ Try.prog:=⟨168,[.bZ],[.bZ],none,fun x=>((b7 x.1),()),fun x h=>O9 x.1⟩
def E3 (ap:(List cm)→Int→Prop) (au:(List cm)→Int→Nat) (a0 ah:(List cm)):Prop:=
  ap (List.replicate (a0.length:Int).toNat ({bE:=(0:Int),bZ:=(0:Int)}:cm)) 0∧ ∀(bL:(List cm)) (v4:Int),ap bL v4→(((decide (v4<(a0.length:Int)))=false→bL.length≤4611686018427387904∧bL=ah)∧((decide (v4<(a0.length:Int)))=true→((0≤v4∧v4.toNat<a0.length)∧((0≤v4∧v4.toNat<bL.length)∧(v4.toNat<bL.length)))∧(ap (bL.set v4.toNat (b7 (nth a0 v4))) (IntKind.i64.wrap (v4+1))∧au (bL.set v4.toNat (b7 (nth a0 v4))) (IntKind.i64.wrap (v4+1))<au bL v4)))
def E2 (a0:(List cm)) (ah:(List cm)) (ap:(List cm)→Int→Prop) (au:(List cm)→Int→Nat):Prop:=
 (a0.length≤4611686018427387904→0≤(a0.length:Int)∧16*(a0.length:Int)≤140737488355328∧(a0.length:Int)≤4611686018427387904)∧(a0.length≤4611686018427387904→E3 ap au a0 ah)
theorem O6 (a0:(List cm)) (ab:small a0):bh Try.prog 160 [b_ cK a0] (nQ cK (b7 a0)):=(fun(ap:(List cm)→Int→Prop) (au:(List cm)→Int→Nat) (h:E2 a0 (b7 a0) ap au)=>bh.run (ps:=[(.l .bZ)]) (rs:=[(.l .bZ)]) (x:=(a0,())) (r:=((b7 a0),())) ⟨23,dm,[O_]⟩ ⟨[10],[],[],[],[]⟩ (.lp [] [0] [] [(.l .bZ),.int] [bc 0,4] (fun bi=>[(3,.ref 0 0 bi.1.length false),(4,.i .i64 bi.2.1),(bc 0,.blk 0 .bZ bi.1 _ rfl)]) (fun bi=>ap bi.1 bi.2.1) (fun bi=>au bi.1 bi.2.1) fun _=> .nil) Try.func160 h) (kO a0 (b7) ({bE:=(0:Int),bZ:=(0:Int)}:cm)) (lH a0) (by
 unfold E2 E3
 have ab:a0.length≤1048576:=ab
 exact⟨fun af=>⟨ep _,by omega,by omega⟩,fun af=>xF (f:=b7) af (zf _)⟩)
def O7:c_ Try.prog:=⟨160,[(.l .bZ)],[(.l .bZ)],some fun x=>small x.1,fun x=>((b7 x.1),()),fun x h=>O6 x.1 h⟩
def E8 (a0:Way) (ah:Way):Prop:=
 (small a0.ae)∧((small a0.bA)∧((small a0.ca)∧((small a0.b8)∧((small a0.ct)∧(((b7 a0.ae)=ah.ae)∧((b7 a0.bA)=ah.bA)∧((b7 a0.ca)=ah.ca)∧((b7 a0.b8)=ah.b8)∧((b7 a0.ct)=ah.ct))))))
theorem Pd (a0:Way) (ab:so a0):bh Try.prog 128 [.agg (cE false a0)] (.agg (cE true (b7 a0))):=(fun(h:E8 a0 (b7 a0))=>bh.run (ps:=[.cN]) (rs:=[.cN]) (x:=(a0,())) (r:=((b7 a0),())) ⟨25,dm,[E0,O7]⟩ ⟨[],[],[],[],[]⟩ .nil Try.func128 h) (by
 have ab:a0.ae.length+a0.bA.length+a0.ca.length+a0.b8.length+a0.ct.length≤1048576:=ab
 unfold E8 small
 exact⟨by omega,by omega,by omega,by omega,by omega,rfl,rfl,rfl,rfl,rfl⟩)
def Pe:c_ Try.prog:=⟨128,[.cN],[.cN],some fun x=>so x.1,fun x=>((b7 x.1),()),fun x h=>Pd x.1 h⟩
def E6 (ap:(List Way)→Int→Prop) (au:(List Way)→Int→Nat) (a0 ah bL:(List Way)) (v4:Int):Prop:=
  ((decide (v4<(a0.length:Int)))=false→bL.length≤4611686018427387904∧bL=ah)∧((decide (v4<(a0.length:Int)))=true→((0≤v4∧v4.toNat<a0.length)∧((so (nth a0 v4))∧((0≤v4∧v4.toNat<bL.length)∧(v4.toNat<bL.length))))∧(ap (bL.set v4.toNat (b7 (nth a0 v4))) (IntKind.i64.wrap (v4+1))∧au (bL.set v4.toNat (b7 (nth a0 v4))) (IntKind.i64.wrap (v4+1))<au bL v4))
def E7 (ap:(List Way)→Int→Prop) (au:(List Way)→Int→Nat) (a0 ah:(List Way)):Prop:=
  (a0.length≤4611686018427387904→0≤(a0.length:Int)∧120*(a0.length:Int)≤140737488355328∧(a0.length:Int)≤4611686018427387904)∧(a0.length≤4611686018427387904→ap (List.replicate (a0.length:Int).toNat ({ae:=([]:(List Int)),bA:=([]:(List cm)),ca:=([]:(List cm)),b8:=([]:(List Int)),ct:=([]:(List Int))}:Way)) 0∧ ∀(bL:(List Way)) (v4:Int),ap bL v4→(E6 ap au a0 ah bL v4))
def E5 (a0:(List Way)) (ah:(List Way)) (ap:(List Way)→Int→Prop) (au:(List Way)→Int→Nat):Prop:=
 E7 ap au a0 ah
theorem Pb (a0:(List Way)) (ab:vp a0):bh Try.prog 71 [b_ (cE false) a0] (nQ (cE false) (b7 a0)):=(fun(ap:(List Way)→Int→Prop) (au:(List Way)→Int→Nat) (h:E5 a0 (b7 a0) ap au)=>bh.run (ps:=[(.l .cN)]) (rs:=[(.l .cN)]) (x:=(a0,())) (r:=((b7 a0),())) ⟨23,dm,[Pe]⟩ ⟨[10],[],[],[],[]⟩ (.lp [] [0] [] [(.l .cN),.int] [bc 0,4] (fun bi=>[(3,.ref 0 0 bi.1.length false),(4,.i .i64 bi.2.1),(bc 0,.blk 0 .cN bi.1 _ rfl)]) (fun bi=>ap bi.1 bi.2.1) (fun bi=>au bi.1 bi.2.1) fun _=> .nil) Try.func71 h) (kO a0 b7 ({ae:=([]:(List Int)),bA:=([]:(List cm)),ca:=([]:(List cm)),b8:=([]:(List Int)),ct:=([]:(List Int))}:Way)) (lH a0) (by
 unfold E5 E7 E6
 have ab:a0.length+(a0.map mQ).sum≤1048576:=ab
 refine⟨fun af=>⟨ep _,by omega,by omega⟩,fun af=>xE (f:=b7) (φ:=fun v=>so (nth a0 v)) af (zf _) fun v _ hv=> ?_⟩
 have:=zg mQ (iL hv)
 unfold so;omega)
def Pc:c_ Try.prog:=⟨71,[(.l .cN)],[(.l .cN)],some fun x=>vp x.1,fun x=>((b7 x.1),()),fun x h=>Pb x.1 h⟩
def EX (ap:(List Bool)→Int→Prop) (au:(List Bool)→Int→Nat) (a0 ah:(List Bool)):Prop:=
  ap (List.replicate (a0.length:Int).toNat false) 0∧ ∀(bL:(List Bool)) (v4:Int),ap bL v4→(((decide (v4<(a0.length:Int)))=false→bL.length≤4611686018427387904∧bL=ah)∧((decide (v4<(a0.length:Int)))=true→((0≤v4∧v4.toNat<a0.length)∧((0≤v4∧v4.toNat<bL.length)∧(v4.toNat<bL.length)))∧(ap (bL.set v4.toNat (nth a0 v4)) (IntKind.i64.wrap (v4+1))∧au (bL.set v4.toNat (nth a0 v4)) (IntKind.i64.wrap (v4+1))<au bL v4)))
def EW (a0:(List Bool)) (ah:(List Bool)) (ap:(List Bool)→Int→Prop) (au:(List Bool)→Int→Nat):Prop:=
 (a0.length≤4611686018427387904→0≤(a0.length:Int)∧1*(a0.length:Int)≤140737488355328∧(a0.length:Int)≤4611686018427387904)∧(a0.length≤4611686018427387904→EX ap au a0 ah)
theorem O3 (a0:(List Bool)) (ab:small a0):bh Try.prog 100 [b_ bm a0] (nQ bm (b7 a0)):=(fun(ap:(List Bool)→Int→Prop) (au:(List Bool)→Int→Nat) (h:EW a0 (b7 a0) ap au)=>bh.run (ps:=[(.l .bool)]) (rs:=[(.l .bool)]) (x:=(a0,())) (r:=((b7 a0),())) ⟨22,dm,[]⟩ ⟨[10],[],[],[],[]⟩ (.lp [] [0] [] [(.l .bool),.int] [bc 0,4] (fun bi=>[(3,.ref 0 0 bi.1.length false),(4,.i .i64 bi.2.1),(bc 0,.blk 0 .bool bi.1 _ rfl)]) (fun bi=>ap bi.1 bi.2.1) (fun bi=>au bi.1 bi.2.1) fun _=> .nil) Try.func100 h) (kO a0 (fun x=>x) false) (lH a0) (by
 unfold EW EX
 have ab:a0.length≤1048576:=ab
 exact⟨fun af=>⟨ep _,by omega,by omega⟩,fun af=>xF (f:=fun x=>x) af (by simp[b7])⟩)
def O4:c_ Try.prog:=⟨100,[(.l .bool)],[(.l .bool)],some fun x=>small x.1,fun x=>((b7 x.1),()),fun x h=>O3 x.1 h⟩
def EV (ap:(List (List Bool))→Int→Prop) (au:(List (List Bool))→Int→Nat) (a0 ah bL:(List (List Bool))) (v4:Int):Prop:=
  ((decide (v4<(a0.length:Int)))=false→bL.length≤4611686018427387904∧bL=ah)∧((decide (v4<(a0.length:Int)))=true→((0≤v4∧v4.toNat<a0.length)∧((small (nth a0 v4))∧((0≤v4∧v4.toNat<bL.length)∧(v4.toNat<bL.length))))∧(ap (bL.set v4.toNat (b7 (nth a0 v4))) (IntKind.i64.wrap (v4+1))∧au (bL.set v4.toNat (b7 (nth a0 v4))) (IntKind.i64.wrap (v4+1))<au bL v4))
def EU (a0:(List (List Bool))) (ah:(List (List Bool))) (ap:(List (List Bool))→Int→Prop) (au:(List (List Bool))→Int→Nat):Prop:=
 (a0.length≤4611686018427387904→0≤(a0.length:Int)∧24*(a0.length:Int)≤140737488355328∧(a0.length:Int)≤4611686018427387904)∧(a0.length≤4611686018427387904→ap (List.replicate (a0.length:Int).toNat ([]:(List Bool))) 0∧ ∀(bL:(List (List Bool))) (v4:Int),ap bL v4→(EV ap au a0 ah bL v4))
theorem O1 (a0:(List (List Bool))) (ab:vo a0):bh Try.prog 72 [b_ (eV bm false) a0] (nQ (eV bm false) (b7 a0)):=(fun(ap:(List (List Bool))→Int→Prop) (au:(List (List Bool))→Int→Nat) (h:EU a0 (b7 a0) ap au)=>bh.run (ps:=[(.l (.l .bool))]) (rs:=[(.l (.l .bool))]) (x:=(a0,())) (r:=((b7 a0),())) ⟨23,dm,[O4]⟩ ⟨[10],[],[],[],[]⟩ (.lp [] [0] [] [(.l (.l .bool)),.int] [bc 0,4] (fun bi=>[(3,.ref 0 0 bi.1.length false),(4,.i .i64 bi.2.1),(bc 0,.blk 0 (.l .bool) bi.1 _ rfl)]) (fun bi=>ap bi.1 bi.2.1) (fun bi=>au bi.1 bi.2.1) fun _=> .nil) Try.func72 h) (kO a0 b7 ([]:(List Bool))) (lH a0) (by
 unfold EU EV
 have ab:a0.length+(a0.map List.length).sum≤1048576:=ab
 refine⟨fun af=>⟨ep _,by omega,by omega⟩,fun af=>xE (f:=b7) (φ:=fun v=>small (nth a0 v)) af (zf _) fun v _ hv=> ?_⟩
 have:=zg List.length (iL hv)
 unfold small;omega)
def O2:c_ Try.prog:=⟨72,[(.l (.l .bool))],[(.l (.l .bool))],some fun x=>vo x.1,fun x=>((b7 x.1),()),fun x h=>O1 x.1 h⟩
def E4 (a0:aS) (ah:aS):Prop:=
 (small a0.aR)∧((vp a0.U)∧((vo a0.a_)∧((a0.ae=ah.ae)∧((b7 a0.aR)=ah.aR)∧((b7 a0.U)=ah.U)∧((b7 a0.a_)=ah.a_)∧(a0.dw=ah.dw))))
theorem Pa (a0:aS) (ab:Af a0):bh Try.prog 25 [.agg (bT false a0)] (.agg (bT true (b7 a0))):=(fun(h:E4 a0 (b7 a0))=>bh.run (ps:=[.fe]) (rs:=[.fe]) (x:=(a0,())) (r:=((b7 a0),())) ⟨23,dm,[E0,Pc,O2]⟩ ⟨[],[],[],[],[]⟩ .nil Try.func25 h) (by
 have ab:a0.aR.length+qB a0.U+nV a0.a_≤1048576:=ab
 unfold E4 small vp vo
 exact⟨by omega,by omega,by omega,rfl,rfl,rfl,rfl,rfl⟩)
def G2 (a0:(List Int)) (J:Int) (ah:Int) (ap:Int→Prop) (au:Int→Nat):Prop:=
 a0.length≤4611686018427387904→ap 0∧ ∀(lh:Int),ap lh→(((decide (lh<(a0.length:Int)))=false→(-1)=ah)∧((decide (lh<(a0.length:Int)))=true→((0≤lh∧lh.toNat<a0.length)∧((J==(nth a0 lh))=true→lh=ah))∧((!(J==(nth a0 lh)))=true→ap (IntKind.i64.wrap (lh+1))∧au (IntKind.i64.wrap (lh+1))<au lh)))
theorem Rk (a0:(List Int)) (J:Int):bh Try.prog 161 [b_ c1 a0,aG J] (aG (mB a0 J)):=(fun(ap:Int→Prop) (au:Int→Nat) (h:G2 a0 J (mB a0 J) ap au)=>bh.run (ps:=[(.l .int),.int]) (rs:=[.int]) (x:=(a0,J,())) (r:=((mB a0 J),())) ⟨19,dm,[]⟩ ⟨[],[],[],[],[]⟩ (fb [0,1,7] [] 8 ap au fun _=> .nil) Try.func161 h) (c5 a0.length (fun j=>J==nth a0 j)) (dD a0.length) (by
 unfold G2
 intro af
 refine⟨fp (ep _),fun v bK=>⟨fun hv=> ?_,fun hv=>⟨⟨ea bK hv,fun ab=> ?_⟩,fun ab=>eM (eR af) bK hv (not_eq ab)⟩⟩⟩
 ·unfold mB;rw[o0 (q:=fun x=>J==x) bK hv];rfl
 ·unfold mB;rw[oZ (q:=fun x=>J==x) bK hv ab]
  have:=bK.1
  show v=(v.toNat:Int)
  omega)
def Rl:c_ Try.prog:=⟨161,[(.l .int),.int],[.int],none,fun x=>((mB x.1 x.2.1),()),fun x h=>Rk x.1 x.2.1⟩
def G1 (a0:(List Int)) (J:Int) (ah:Bool):Prop:=
 (decide ((mB a0 J) ≥ 0))=ah
theorem Rj (a0:(List Int)) (J:Int):bh Try.prog 130 [b_ c1 a0,aG J] (aP (eK a0 J)):=(fun(h:G1 a0 J (eK a0 J))=>bh.run (ps:=[(.l .int),.int]) (rs:=[.bool]) (x:=(a0,J,())) (r:=((eK a0 J),())) ⟨9,dm,[Rl]⟩ ⟨[],[],[],[],[]⟩ .nil Try.func130 h) (by
 unfold G1
 exact Nq a0 J)
def Ae:c_ Try.prog:=⟨130,[(.l .int),.int],[.bool],none,fun x=>((eK x.1 x.2.1),()),fun x h=>Rj x.1 x.2.1⟩
def DV (a0:(List Int)) (J:(List Int)) (ah:Bool) (ap:Int→Prop) (au:Int→Nat):Prop:=
 a0.length≤4611686018427387904→ap 0∧ ∀(v9:Int),ap v9→(((decide (v9<(a0.length:Int)))=false→false=ah)∧((decide (v9<(a0.length:Int)))=true→((0≤v9∧v9.toNat<a0.length)∧((eK J (nth a0 v9))=true→true=ah))∧((!(eK J (nth a0 v9)))=true→ap (IntKind.i64.wrap (v9+1))∧au (IntKind.i64.wrap (v9+1))<au v9)))
theorem NF (a0:(List Int)) (J:(List Int)):bh Try.prog 74 [b_ c1 a0,b_ c1 J] (aP (meets a0 J)):=(fun(ap:Int→Prop) (au:Int→Nat) (h:DV a0 J (meets a0 J) ap au)=>bh.run (ps:=[(.l .int),(.l .int)]) (rs:=[.bool]) (x:=(a0,J,())) (r:=((meets a0 J),())) ⟨17,dm,[Ae]⟩ ⟨[],[],[],[],[]⟩ (fb [1,7,8] [] 9 ap au fun _=> .nil) Try.func74 h) (c5 a0.length (fun j=>eK J (nth a0 j))) (dD a0.length) (by
 unfold DV
 intro af
 refine⟨fp (ep _),fun v bK=>⟨fun hv=> ?_,fun hv=>⟨⟨ea bK hv,fun ab=> ?_⟩,fun ab=>eM (eR af) bK hv (not_eq ab)⟩⟩⟩
 ·exact(HQ (q:=fun x=>eK J x) bK hv).symm
 ·exact(HP (q:=fun x=>eK J x) bK hv ab).symm)
def DW:c_ Try.prog:=⟨74,[(.l .int),(.l .int)],[.bool],none,fun x=>((meets x.1 x.2.1),()),fun x h=>NF x.1 x.2.1⟩
noncomputable def Rh:Code:=lB Try.f158
def Ad (a0:(List cm)) (ah:(List cm)):Prop:=
 (a0≠[]→(a0.length*16≤140737488355328∧a0.length≤4611686018427387904)∧(a0=ah))∧(a0=[]→ ∀cJ:Bool,(cJ=true→[]=ah)∧(cJ=false→(a0.length*16≤140737488355328∧a0.length≤4611686018427387904)∧(a0=ah)))
theorem Ri (a0:(List cm)) (ah:(List cm)) (h:Ad a0 ah):ej Try.prog 158 [b_ cK a0] [] (fun r H=>r=aD 0 0 ah.length∧H=[⟨0,2,List.map cK ah⟩]):=by
 refine ej.toOwn ?_
 unfold Ad at h
 refine ej.go (fn:=Try.f158) [(0,b_ cK a0)] Try.func158 (fun _ _=> ?_)
 show WpS _ (bg Rh 1) _ ⟨bd 8 [(0,b_ cK a0)],[],[]⟩
 refine mX [] 0 [(2,aK)] [] [1] ?_
 refine pu ?_
 refine pu ?_
 refine gB [] 1 ?_
 refine Q5 2 (some 4) [(3,b_ cK a0)] cK a0 (fun hx=> ?_) (fun hx cJ=> ?_)
 ·
  replace h:=h.1 hx
  refine qq [] ?_
  refine hQ.normal ?_
  refine wK (.tmp 4) false (fun q3=> ?_) (fun q3=> ?_)
  ·
   cases q3
  ·
   refine mY ?_
   refine hQ.normal ?_
   obtain⟨c4,h⟩:=h
   refine nY ⟨(bd 8 [(2,aD 0 0 a0.length)]),[],[⟨0,2,List.map cK a0⟩]⟩ (True) ?_ (fun q4=> ?_)
   ·
    replace h:=c4
    refine gB [] 3 ?_
    have cI:=h
    refine GQ 3 (some 7) [(6,b_ cK a0),(5,aK)] cK a0 (kz false (List.map cK a0)) 0 2 16 (fun r=>[⟨0,2,r⟩]) rfl cI ?_
    exact jh [(2,aD 0 0 a0.length)] trivial
   refine me ?_
   refine qp (aD 0 0 a0.length) [aD 0 0 a0.length] ?_
   exact⟨oR [some 0],r_ [some 0] rfl (by decide) ⟨rfl,(qo (b:=0) (g:=0) (sz:=2) (xs:=a0) (ys:=ah) rfl FN h),trivial⟩,(.inr (zs (by simp) rfl rfl (by have:=congrArg List.length h;simpa using this)))⟩
 ·
  replace h:=h.2 hx cJ
  refine qq [] ?_
  refine hQ.normal ?_
  refine wK (.tmp 4) cJ (fun oM=> ?_) (fun oM=> ?_)
  ·
   replace h:=h.1 oM
   refine nY ⟨(bd 8 [(2,aK)]),[],[]⟩ (True) ?_ (fun va=> ?_)
   ·
    refine gB [] 2 ?_
    exact jh [(2,aK)] trivial
   refine me ?_
   refine hQ.ret ?_
   refine qp (aK) [aK] ?_
   exact⟨oR [none],r_ [none] rfl (by decide) ⟨rfl,trivial,trivial⟩,(.inr (u0 (by simp) rfl rfl (by rw[←h];rfl)))⟩
  ·
   replace h:=h.2 oM
   refine mY ?_
   refine hQ.normal ?_
   obtain⟨sh,h⟩:=h
   refine nY ⟨(bd 8 [(2,aD 0 0 a0.length)]),[],[⟨0,2,List.map cK a0⟩]⟩ (True) ?_ (fun vb=> ?_)
   ·
    replace h:=sh
    refine gB [] 3 ?_
    have QC:=h
    refine GQ 3 (some 7) [(6,b_ cK a0),(5,aK)] cK a0 (kz false (List.map cK a0)) 0 2 16 (fun r=>[⟨0,2,r⟩]) rfl QC ?_
    exact jh [(2,aD 0 0 a0.length)] trivial
   refine me ?_
   refine qp (aD 0 0 a0.length) [aD 0 0 a0.length] ?_
   exact⟨oR [some 0],r_ [some 0] rfl (by decide) ⟨rfl,(qo (b:=0) (g:=0) (sz:=2) (xs:=a0) (ys:=ah) rfl FN h),trivial⟩,(.inr (zs (by simp) rfl rfl (by have:=congrArg List.length h;simpa using this)))⟩
theorem Rg (a0:(List cm)) (ab:small a0):ej Try.prog 158 [b_ cK a0] [] (fun r H=>r=aD 0 0 (b7 a0).length∧H=[⟨0,2,List.map cK (b7 a0)⟩]):=Ri a0 (b7 a0) (by
 have ab:a0.length≤1048576:=ab
 unfold Ad
 refine⟨fun h=>⟨⟨by omega,by omega⟩,rfl⟩,fun h b=>⟨fun _=> ?_,fun _=>⟨⟨by omega,by omega⟩,rfl⟩⟩⟩
 exact h.symm)
noncomputable def DX:Code:=lB Try.f123
def NI:List Item:=[az 0,az 1,az 3,az 4,⟨2,true,false,[3,4]⟩,⟨5,true,false,[]⟩,az 6]
def NJ:List (List Nat):=[[],[0],[0,1],[],[3],rg 0 5,rg 0 6]
def yO (a0:Way) (ah:(List cm)):Prop:=
 ((small a0.bA)∧(((b7 a0.bA).length+a0.ca.length)*16≤140737488355328∧(b7 a0.bA).length+a0.ca.length≤4611686018427387904))∧(((b7 a0.bA)++a0.ca).length≤4611686018427387904∧((b7 a0.bA)++a0.ca)=ah)
theorem NK (a0:Way) (ah:(List cm)) (h:yO a0 ah):bh Try.prog 123 [.agg (cE false a0)] (nQ cK ah):=by
 unfold yO at h
 refine ej.go (fn:=Try.f123) [(0,.agg (cE false a0))] Try.func123 (fun _ _=> ?_)
 show WpS _ (bg DX 1) _ ⟨bd 9 [(0,.agg (cE false a0))],[],[]⟩
 refine ti [] 0 [(2,aK),(1,aZ 1 0)] [0,1,1] [] [(1,(cE false a0))] [] ?_
 obtain⟨cI,h⟩:=h
 refine mf [(2,aD 0 1 ((b7 a0.bA)++a0.ca).length)] [] id (fun _=>[⟨1,2,List.map cK ((b7 a0.bA)++a0.ca)⟩]) (True) ?_ (fun q2=> ?_)
 ·
  replace h:=cI
  refine zV [] 1 NI NJ [] ?_
  obtain⟨q3,h⟩:=h
  refine HG 5 (some 5) [(7,b_ cK a0.ca),(6,aZ 1 2),(4,b_ cK a0.bA),(3,aZ 1 1)] [b_ cK a0.bA] (fun L H=>m3 Try.prog (hI DX 6) [3,4] [(7,b_ cK a0.ca),(6,aZ 1 2),(4,b_ cK a0.bA),(3,aZ 1 1),(1,aZ 1 0)] L H) (aD 0 0 (b7 a0.bA).length) [⟨0,2,List.map cK (b7 a0.bA)⟩] (Rg a0.bA q3) (aw.cons (fB.uV j2) aw.nil) (FV (fun _=>rfl) rfl) (G0 (GZ (fun _=>rfl) rfl) (by kernel_rfl)) (r7 (ψ:=((true=true∧true=true∧((aZ 1 2:AV)=aZ 1 2))∧((true=true∧true=true∧((b_ cK a0.ca:AV)=b_ cK a0.ca))∧True))) (by kernel_rfl) ⟨⟨rfl,rfl,rfl⟩,⟨⟨rfl,rfl,rfl⟩,trivial⟩⟩) ?_
  have q4:=h
  refine R5 1 (some 8) [] cK (b7 a0.bA) a0.ca (kz false (List.map cK a0.ca)) 0 0 2 16 (fun _=>True) (fun r=>[⟨1,2,r⟩]) rfl q4 trivial ?_
  exact R6 [(2,aD 0 1 ((b7 a0.bA)++a0.ca).length)] trivial
 exact me (zZ (aD 0 1 ((b7 a0.bA)++a0.ca).length) (iy.uV (qw (sz:=2) (by simp) rfl (BG) h)))
theorem NG (a0:Way) (ab:zA a0):bh Try.prog 123 [.agg (cE false a0)] (nQ cK (cB a0)):=NK a0 (cB a0) (by
 obtain⟨h1,h2⟩:=ab
 unfold yO b7 small
 exact⟨⟨h1,by omega,by omega⟩,by rw[List.length_append];omega,rfl⟩)
def NH:c_ Try.prog:=⟨123,[.cN],[(.l .bZ)],some fun x=>zA x.1,fun x=>((cB x.1),()),fun x h=>NG x.1 h⟩
def NP:List Item:=[az 0,az 1,az 2,az 3,az 4,az 5,az 6,az 7]
def NQ:List (List Nat):=[[],[],[0,1],[],[],[3,4],[3,4,5],rg 0 7]
def DZ (ap:Int→Prop) (au:Int→Nat) (a0:(List Int)) (ah:Bool):Prop:=
  a0.length≤4611686018427387904→ap 0∧ ∀(v6:Int),ap v6→(((decide (v6<(a0.length:Int)))=false→false=ah)∧((decide (v6<(a0.length:Int)))=true→(((0≤v6∧v6≤(a0.length:Int))∧(0≤v6∧v6.toNat<a0.length))∧((eK (a0.take v6.toNat) (nth a0 v6))=true→true=ah))∧((!(eK (a0.take v6.toNat) (nth a0 v6)))=true→ap (IntKind.i64.wrap (v6+1))∧au (IntKind.i64.wrap (v6+1))<au v6)))
def DY (a0:(List Int)) (ah:Bool) (ap:Int→Prop) (au:Int→Nat):Prop:=
 DZ ap au a0 ah
theorem NN (a0:(List Int)):bh Try.prog 129 [b_ c1 a0] (aP (dup a0)):=(fun(ap:Int→Prop) (au:Int→Nat) (h:DY a0 (dup a0) ap au)=>bh.run (ps:=[(.l .int)]) (rs:=[.bool]) (x:=(a0,())) (r:=((dup a0),())) ⟨18,dm,[Ae]⟩ ⟨[],[(4,NP,NQ)],[],[],[]⟩ (fb [0,5] [] 6 ap au fun _=> .nil) Try.func129 h) (c5 a0.length (fun j=>eK (a0.take j.toNat) (nth a0 j))) (dD a0.length) (by
 unfold DY DZ
 intro af
 refine⟨fp (ep _),fun v bK=>⟨fun hv=> ?_,fun hv=>⟨⟨⟨⟨bK.1,bK.2.1⟩,ea bK hv⟩,fun ab=> ?_⟩,fun ab=>eM (eR af) bK hv (not_eq ab)⟩⟩⟩
 ·exact(B5 (hq bK hv)).symm
 ·exact(J0 (ea bK hv).1 (ea bK hv).2 ab).symm)
def NO:c_ Try.prog:=⟨129,[(.l .int)],[.bool],none,fun x=>((dup x.1),()),fun x h=>NN x.1⟩
def Ou:List Item:=[az 0,az 1,az 2,az 3,az 4,az 5,az 6,az 7,az 8]
def Ov:List (List Nat):=[[],[],[0,1],[0,1,2],[],[],[4,5],[4,5,6],rg 0 8]
def Et (ap:Int→Prop) (au:Int→Nat) (a0 J:(List Int)) (ah:Bool):Prop:=
  ((a0.length≤4611686018427387904)∧(J.length≤4611686018427387904)→((a0.length:Int) !=(J.length:Int))=true→false=ah)∧((a0.length≤4611686018427387904)∧(J.length≤4611686018427387904)∧((!((a0.length:Int) !=(J.length:Int)))=true)→ap 0∧ ∀(v5:Int),ap v5→(((decide (v5<(a0.length:Int)))=false→true=ah)∧((decide (v5<(a0.length:Int)))=true→(((0≤v5∧v5.toNat<a0.length)∧(0≤v5∧v5.toNat<J.length))∧(((nth a0 v5) !=(nth J v5))=true→false=ah))∧((!((nth a0 v5) !=(nth J v5)))=true→ap (IntKind.i64.wrap (v5+1))∧au (IntKind.i64.wrap (v5+1))<au v5))))
def Es (a0:(List Int)) (J:(List Int)) (ah:Bool) (ap:Int→Prop) (au:Int→Nat):Prop:=
 Et ap au a0 J ah
theorem Ot (a0:(List Int)) (J:(List Int)):bh Try.prog 55 [b_ c1 a0,b_ c1 J] (aP (eqv a0 J)):=(fun(ap:Int→Prop) (au:Int→Nat) (h:Es a0 J (eqv a0 J) ap au)=>bh.run (ps:=[(.l .int),(.l .int)]) (rs:=[.bool]) (x:=(a0,J,())) (r:=((eqv a0 J),())) ⟨26,dm,[]⟩ ⟨[13],[(6,Ou,Ov)],[],[],[]⟩ (fb [0,1] [] 5 ap au fun _=> .nil) Try.func55 h) (c5 a0.length (fun v=>nth a0 v !=nth J v)) (dD a0.length) (by
 unfold Es Et
 exact n3 (ne:=fun v=>nth a0 v !=nth J v) (fun v=>by simp[eqv]))
def Eu:c_ Try.prog:=⟨55,[(.l .int),(.l .int)],[.bool],none,fun x=>((eqv x.1 x.2.1),()),fun x h=>Ot x.1 x.2.1⟩
def Ex (a0:cm) (J:cm) (ah:Bool):Prop:=
 ((a0.bE !=J.bE)=true→false=ah)∧((!(a0.bE !=J.bE))=true→((a0.bZ !=J.bZ)=true→false=ah)∧((!(a0.bZ !=J.bZ))=true→true=ah))
theorem OA (a0:cm) (J:cm):bh Try.prog 169 [.agg (cK a0),.agg (cK J)] (aP (eqv a0 J)):=(fun(h:Ex a0 J (eqv a0 J))=>bh.run (ps:=[.bZ,.bZ]) (rs:=[.bool]) (x:=(a0,J,())) (r:=((eqv a0 J),())) ⟨15,dm,[]⟩ ⟨[],[],[],[],[]⟩ .nil Try.func169 h) (by
 unfold Ex
 obtain⟨c,p⟩:=a0
 obtain⟨bB,qe⟩:=J
 simp[eqv]
 intros
 simp_all)
def OB:c_ Try.prog:=⟨169,[.bZ,.bZ],[.bool],none,fun x=>((eqv x.1 x.2.1),()),fun x h=>OA x.1 x.2.1⟩
def Oy:List Item:=[az 0,az 1,az 2,az 3,az 4,az 5,az 6,az 7,az 8,az 9]
def Oz:List (List Nat):=[[],[],[0,1],[0,1,2],[],[],[4,5],[4,5,6],rg 0 8,rg 0 9]
def Ew (ap:Int→Prop) (au:Int→Nat) (a0 J:(List cm)) (ah:Bool):Prop:=
  ((a0.length≤4611686018427387904)∧(J.length≤4611686018427387904)→((a0.length:Int) !=(J.length:Int))=true→false=ah)∧((a0.length≤4611686018427387904)∧(J.length≤4611686018427387904)∧((!((a0.length:Int) !=(J.length:Int)))=true)→ap 0∧ ∀(v5:Int),ap v5→(((decide (v5<(a0.length:Int)))=false→true=ah)∧((decide (v5<(a0.length:Int)))=true→(((0≤v5∧v5.toNat<a0.length)∧(0≤v5∧v5.toNat<J.length))∧((!(eqv (nth a0 v5) (nth J v5)))=true→false=ah))∧((!(!(eqv (nth a0 v5) (nth J v5))))=true→ap (IntKind.i64.wrap (v5+1))∧au (IntKind.i64.wrap (v5+1))<au v5))))
def Ev (a0:(List cm)) (J:(List cm)) (ah:Bool) (ap:Int→Prop) (au:Int→Nat):Prop:=
 Ew ap au a0 J ah
theorem Ow (a0:(List cm)) (J:(List cm)):bh Try.prog 162 [b_ cK a0,b_ cK J] (aP (eqv a0 J)):=(fun(ap:Int→Prop) (au:Int→Nat) (h:Ev a0 J (eqv a0 J) ap au)=>bh.run (ps:=[(.l .bZ),(.l .bZ)]) (rs:=[.bool]) (x:=(a0,J,())) (r:=((eqv a0 J),())) ⟨27,dm,[OB]⟩ ⟨[13],[(6,Oy,Oz)],[],[],[]⟩ (fb [0,1] [] 5 ap au fun _=> .nil) Try.func162 h) (c5 a0.length (fun v=> !(eqv (nth a0 v) (nth J v)))) (dD a0.length) (by
 unfold Ev Ew
 exact n3 (ne:=fun v=> !(eqv (nth a0 v) (nth J v))) (fun v=>by simp[eqv]))
def Ox:c_ Try.prog:=⟨162,[(.l .bZ),(.l .bZ)],[.bool],none,fun x=>((eqv x.1 x.2.1),()),fun x h=>Ow x.1 x.2.1⟩
def EG (a0 J:Way) (ah:Bool):Prop:=
  ((!(eqv a0.ae J.ae))=true→false=ah)∧((!(!(eqv a0.ae J.ae)))=true→((!(eqv a0.bA J.bA))=true→false=ah)∧((!(!(eqv a0.bA J.bA)))=true→((!(eqv a0.ca J.ca))=true→false=ah)∧((!(!(eqv a0.ca J.ca)))=true→((!(eqv a0.b8 J.b8))=true→false=ah)∧((!(!(eqv a0.b8 J.b8)))=true→((!(eqv a0.ct J.ct))=true→false=ah)∧((!(!(eqv a0.ct J.ct)))=true→true=ah)))))
def EF (a0:Way) (J:Way) (ah:Bool):Prop:=
 EG a0 J ah
theorem ON (a0:Way) (J:Way):bh Try.prog 131 [.agg (cE false a0),.agg (cE false J)] (aP (eqv a0 J)):=(fun(h:EF a0 J (eqv a0 J))=>bh.run (ps:=[.cN,.cN]) (rs:=[.bool]) (x:=(a0,J,())) (r:=((eqv a0 J),())) ⟨35,dm,[Eu,Ox]⟩ ⟨[],[],[],[],[]⟩ .nil Try.func131 h) (by
 unfold EF EG
 obtain⟨a,b,c,d,e⟩:=a0
 obtain⟨fw,bC,bB,xc,bf⟩:=J
 simp[eqv]
 refine⟨fun h h1=>absurd h1 h,fun h=>⟨fun k _ df=>absurd df k,?_⟩⟩
 intros
 simp_all)
def OO:c_ Try.prog:=⟨131,[.cN,.cN],[.bool],none,fun x=>((eqv x.1 x.2.1),()),fun x h=>ON x.1 x.2.1⟩
def OL:List Item:=[az 0,az 1,az 2,az 3,az 4,az 5,az 6,az 7,az 8,az 9]
def OM:List (List Nat):=[[],[],[0,1],[0,1,2],[],[],[4,5],[4,5,6],rg 0 8,rg 0 9]
def EE (ap:Int→Prop) (au:Int→Nat) (a0 J:(List Way)) (ah:Bool):Prop:=
  ((a0.length≤4611686018427387904)∧(J.length≤4611686018427387904)→((a0.length:Int) !=(J.length:Int))=true→false=ah)∧((a0.length≤4611686018427387904)∧(J.length≤4611686018427387904)∧((!((a0.length:Int) !=(J.length:Int)))=true)→ap 0∧ ∀(v5:Int),ap v5→(((decide (v5<(a0.length:Int)))=false→true=ah)∧((decide (v5<(a0.length:Int)))=true→(((0≤v5∧v5.toNat<a0.length)∧(0≤v5∧v5.toNat<J.length))∧((!(eqv (nth a0 v5) (nth J v5)))=true→false=ah))∧((!(!(eqv (nth a0 v5) (nth J v5))))=true→ap (IntKind.i64.wrap (v5+1))∧au (IntKind.i64.wrap (v5+1))<au v5))))
def ED (a0:(List Way)) (J:(List Way)) (ah:Bool) (ap:Int→Prop) (au:Int→Nat):Prop:=
 EE ap au a0 J ah
theorem OJ (a0:(List Way)) (J:(List Way)):bh Try.prog 75 [b_ (cE false) a0,b_ (cE false) J] (aP (eqv a0 J)):=(fun(ap:Int→Prop) (au:Int→Nat) (h:ED a0 J (eqv a0 J) ap au)=>bh.run (ps:=[(.l .cN),(.l .cN)]) (rs:=[.bool]) (x:=(a0,J,())) (r:=((eqv a0 J),())) ⟨27,dm,[OO]⟩ ⟨[13],[(6,OL,OM)],[],[],[]⟩ (fb [0,1] [] 5 ap au fun _=> .nil) Try.func75 h) (c5 a0.length (fun v=> !(eqv (nth a0 v) (nth J v)))) (dD a0.length) (by
 unfold ED EE
 exact n3 (ne:=fun v=> !(eqv (nth a0 v) (nth J v))) (fun v=>by simp[eqv]))
def OK:c_ Try.prog:=⟨75,[(.l .cN),(.l .cN)],[.bool],none,fun x=>((eqv x.1 x.2.1),()),fun x h=>OJ x.1 x.2.1⟩
def Oh:List Item:=[az 0,az 1,az 2,az 3,az 4,az 5,az 6,az 7,az 8]
def Oi:List (List Nat):=[[],[],[0,1],[0,1,2],[],[],[4,5],[4,5,6],rg 0 8]
def El (ap:Int→Prop) (au:Int→Nat) (a0 J:(List Bool)) (ah:Bool):Prop:=
  ((a0.length≤4611686018427387904)∧(J.length≤4611686018427387904)→((a0.length:Int) !=(J.length:Int))=true→false=ah)∧((a0.length≤4611686018427387904)∧(J.length≤4611686018427387904)∧((!((a0.length:Int) !=(J.length:Int)))=true)→ap 0∧ ∀(v5:Int),ap v5→(((decide (v5<(a0.length:Int)))=false→true=ah)∧((decide (v5<(a0.length:Int)))=true→(((0≤v5∧v5.toNat<a0.length)∧(0≤v5∧v5.toNat<J.length))∧(((nth a0 v5) !=(nth J v5))=true→false=ah))∧((!((nth a0 v5) !=(nth J v5)))=true→ap (IntKind.i64.wrap (v5+1))∧au (IntKind.i64.wrap (v5+1))<au v5))))
def Ek (a0:(List Bool)) (J:(List Bool)) (ah:Bool) (ap:Int→Prop) (au:Int→Nat):Prop:=
 El ap au a0 J ah
theorem Og (a0:(List Bool)) (J:(List Bool)):bh Try.prog 80 [b_ bm a0,b_ bm J] (aP (eqv a0 J)):=(fun(ap:Int→Prop) (au:Int→Nat) (h:Ek a0 J (eqv a0 J) ap au)=>bh.run (ps:=[(.l .bool),(.l .bool)]) (rs:=[.bool]) (x:=(a0,J,())) (r:=((eqv a0 J),())) ⟨26,dm,[]⟩ ⟨[13],[(6,Oh,Oi)],[],[],[]⟩ (fb [0,1] [] 5 ap au fun _=> .nil) Try.func80 h) (c5 a0.length (fun v=>nth a0 v !=nth J v)) (dD a0.length) (by
 unfold Ek El
 exact n3 (ne:=fun v=>nth a0 v !=nth J v) (fun v=>by simp[eqv]))
def y0:c_ Try.prog:=⟨80,[(.l .bool),(.l .bool)],[.bool],none,fun x=>((eqv x.1 x.2.1),()),fun x h=>Og x.1 x.2.1⟩
def Oe:List Item:=[az 0,az 1,az 2,az 3,az 4,az 5,az 6,az 7,az 8,az 9]
def Of:List (List Nat):=[[],[],[0,1],[0,1,2],[],[],[4,5],[4,5,6],rg 0 8,rg 0 9]
def Ej (ap:Int→Prop) (au:Int→Nat) (a0 J:(List (List Bool))) (ah:Bool):Prop:=
  ((a0.length≤4611686018427387904)∧(J.length≤4611686018427387904)→((a0.length:Int) !=(J.length:Int))=true→false=ah)∧((a0.length≤4611686018427387904)∧(J.length≤4611686018427387904)∧((!((a0.length:Int) !=(J.length:Int)))=true)→ap 0∧ ∀(v5:Int),ap v5→(((decide (v5<(a0.length:Int)))=false→true=ah)∧((decide (v5<(a0.length:Int)))=true→(((0≤v5∧v5.toNat<a0.length)∧(0≤v5∧v5.toNat<J.length))∧((!(eqv (nth a0 v5) (nth J v5)))=true→false=ah))∧((!(!(eqv (nth a0 v5) (nth J v5))))=true→ap (IntKind.i64.wrap (v5+1))∧au (IntKind.i64.wrap (v5+1))<au v5))))
def Ei (a0:(List (List Bool))) (J:(List (List Bool))) (ah:Bool) (ap:Int→Prop) (au:Int→Nat):Prop:=
 Ej ap au a0 J ah
theorem Oc (a0:(List (List Bool))) (J:(List (List Bool))):bh Try.prog 76 [b_ (eV bm false) a0,b_ (eV bm false) J] (aP (eqv a0 J)):=(fun(ap:Int→Prop) (au:Int→Nat) (h:Ei a0 J (eqv a0 J) ap au)=>bh.run (ps:=[(.l (.l .bool)),(.l (.l .bool))]) (rs:=[.bool]) (x:=(a0,J,())) (r:=((eqv a0 J),())) ⟨27,dm,[y0]⟩ ⟨[13],[(6,Oe,Of)],[],[],[]⟩ (fb [0,1] [] 5 ap au fun _=> .nil) Try.func76 h) (c5 a0.length (fun v=> !(eqv (nth a0 v) (nth J v)))) (dD a0.length) (by
 unfold Ei Ej
 exact n3 (ne:=fun v=> !(eqv (nth a0 v) (nth J v))) (fun v=>by simp[eqv]))
def Od:c_ Try.prog:=⟨76,[(.l (.l .bool)),(.l (.l .bool))],[.bool],none,fun x=>((eqv x.1 x.2.1),()),fun x h=>Oc x.1 x.2.1⟩
def Ez (a0 J:aS) (ah:Bool):Prop:=
  ((a0.ae !=J.ae)=true→false=ah)∧((!(a0.ae !=J.ae))=true→((!(eqv a0.aR J.aR))=true→false=ah)∧((!(!(eqv a0.aR J.aR)))=true→((!(eqv a0.U J.U))=true→false=ah)∧((!(!(eqv a0.U J.U)))=true→((!(eqv a0.a_ J.a_))=true→false=ah)∧((!(!(eqv a0.a_ J.a_)))=true→((a0.dw !=J.dw)=true→false=ah)∧((!(a0.dw !=J.dw))=true→true=ah)))))
def Ey (a0:aS) (J:aS) (ah:Bool):Prop:=
 Ez a0 J ah
theorem OC (a0:aS) (J:aS):bh Try.prog 28 [.agg (bT false a0),.agg (bT false J)] (aP (eqv a0 J)):=(fun(h:Ey a0 J (eqv a0 J))=>bh.run (ps:=[.fe,.fe]) (rs:=[.bool]) (x:=(a0,J,())) (r:=((eqv a0 J),())) ⟨33,dm,[Eu,OK,Od]⟩ ⟨[],[],[],[],[]⟩ .nil Try.func28 h) (by
 unfold Ey Ez
 obtain⟨a,b,c,d,e⟩:=a0
 obtain⟨fw,bC,bB,xc,bf⟩:=J
 simp[eqv]
 refine⟨fun h h1=>absurd h1 h,fun h=>⟨fun k _ df=>absurd df k,?_⟩⟩
 intros
 simp_all)
end Go.Proofs.Ytglpfccgmfhkdaa.Fw
set_option linter.unusedVariables false
namespace Go.Proofs.Ytglpfccgmfhkdaa.Fw
open Go
theorem tP {α:Type} {xs:List α} {q:α→Bool} (h:first xs q=none): ∀x∈xs,q x=false:=by
 unfold first at h;rwa [List.findIdx?_eq_none_iff] at h
theorem Qx {p:aS} (h:e1 p=true):hJ p=true∧(∀s∈p.aR,cr s 0 (p.ae - 1)=true)∧(∀w∈p.U,fq p w=true)∧p.a_.length=p.U.length∧
  (∀b∈p.a_,b.length=p.U.length)∧ ∀i k:Nat,i<p.U.length→k<p.U.length→ly p i k=false:=by
 have hb:=Qw h
 have aA:fo p=⟨0,0⟩:=by simpa[e1] using h
 rw[zx hb] at aA
 unfold qg at aA
 split at aA
 ·cases aA
 rename_i h1
 unfold qh at aA
 split at aA
 ·cases aA
 rename_i h2
 unfold kw at aA
 split at aA
 ·rename_i ao
  split at aA
  ·cases aA
  rename_i a8
  split at aA
  ·cases aA
  rename_i cw
  refine⟨hb,fun s hs=>by simpa using tP h1 s hs,fun w hw=>by simpa using tP h2 w hw,ao,fun b al=>by simpa using tP a8 b al,fun i k hi hk=> ?_⟩
  have:=tP cw i (List.mem_range.2 hi)
  rw[List.any_eq_false] at this
  simpa using this k (List.mem_range.2 hk)
 ·cases aA
def wA (p:aS) (i k:Int):Bool:=nth (nth p.a_ i) k
theorem uz {x n:Int} (h:cr x 0 (n - 1)=true):0≤x∧x<n:=by have:=yQ.1 h;omega
theorem y5 {l:List Int} {n:Int} (h:eY l n=true):l.length≤30∧ ∀x∈l,0≤x∧x<n:=by
 have:=p3.1 h
 exact⟨this.1,fun x hx=>uz (this.2.1 x hx)⟩
theorem u5 {p:aS} (h:e1 p=true):wh p:=by
 obtain⟨h1,h2,ao,a8,cw,cZ⟩:=Qx h
 have hb:=oK.1 h1
 have hw: ∀w∈p.U,_:=fun w hw=>mP.1 (ao w hw)
 refine⟨by omega,hb.2.2.2,hb.2.2.1,fun w m=>⟨(hw w m).1,y5 (hw w m).2.1⟩,fun w m=>y5 (hw w m).2.2.1,fun w m=>y5 (hw w m).2.2.2.1,fun w m=> ?_,fun x hx=>uz (h2 x hx)⟩
 have ak:=jX.1 (hw w m).2.2.2.2.1
 have hf:=jX.1 (hw w m).2.2.2.2.2.1
 refine⟨ak.1,hf.1,fun x hx=> ?_⟩
 rcases List.mem_append.1 hx with hx | hx
 ·have:=ak.2.1 x hx
  rw[Bool.and_eq_true] at this;exact uz this.1
 ·have:=hf.2.1 x hx
  rw[Bool.and_eq_true] at this;exact uz this.1
end Go.Proofs.Ytglpfccgmfhkdaa.Fw
set_option linter.unusedVariables false
set_option maxRecDepth 100000
set_option maxHeartbeats 4000000
set_option linter.unusedSimpArgs false
namespace Go.Proofs.Ytglpfccgmfhkdaa.Fw
open Go
attribute [local irreducible] evS evSD WpS Weak Oper.looksAt
def EC (a0:b4) (J:b4) (ah:Bool):Prop:=
 ((a0.e6 !=J.e6)=true→false=ah)∧((!(a0.e6 !=J.e6))=true→((a0.bA !=J.bA)=true→false=ah)∧((!(a0.bA !=J.bA))=true→true=ah))
theorem OH (a0:b4) (J:b4):bh Try.prog 132 [.agg (cb a0),.agg (cb J)] (aP (eqv a0 J)):=(fun(h:EC a0 J (eqv a0 J))=>bh.run (ps:=[.eu,.eu]) (rs:=[.bool]) (x:=(a0,J,())) (r:=((eqv a0 J),())) ⟨15,dm,[]⟩ ⟨[],[],[],[],[]⟩ .nil Try.func132 h) (by
 unfold EC
 obtain⟨c,p⟩:=a0
 obtain⟨bB,qe⟩:=J
 simp[eqv]
 intros
 simp_all)
def OI:c_ Try.prog:=⟨132,[.eu,.eu],[.bool],none,fun x=>((eqv x.1 x.2.1),()),fun x h=>OH x.1 x.2.1⟩
def OF:List Item:=[az 0,az 1,az 2,az 3,az 4,az 5,az 6,az 7,az 8,az 9]
def OG:List (List Nat):=[[],[],[0,1],[0,1,2],[],[],[4,5],[4,5,6],rg 0 8,rg 0 9]
def EB (ap:Int→Prop) (au:Int→Nat) (a0 J:(List b4)) (ah:Bool):Prop:=
  ((a0.length≤4611686018427387904)∧(J.length≤4611686018427387904)→((a0.length:Int) !=(J.length:Int))=true→false=ah)∧((a0.length≤4611686018427387904)∧(J.length≤4611686018427387904)∧((!((a0.length:Int) !=(J.length:Int)))=true)→ap 0∧ ∀(v5:Int),ap v5→(((decide (v5<(a0.length:Int)))=false→true=ah)∧((decide (v5<(a0.length:Int)))=true→(((0≤v5∧v5.toNat<a0.length)∧(0≤v5∧v5.toNat<J.length))∧((!(eqv (nth a0 v5) (nth J v5)))=true→false=ah))∧((!(!(eqv (nth a0 v5) (nth J v5))))=true→ap (IntKind.i64.wrap (v5+1))∧au (IntKind.i64.wrap (v5+1))<au v5))))
def EA (a0:(List b4)) (J:(List b4)) (ah:Bool) (ap:Int→Prop) (au:Int→Nat):Prop:=
 EB ap au a0 J ah
theorem OD (a0:(List b4)) (J:(List b4)):bh Try.prog 81 [b_ cb a0,b_ cb J] (aP (eqv a0 J)):=(fun(ap:Int→Prop) (au:Int→Nat) (h:EA a0 J (eqv a0 J) ap au)=>bh.run (ps:=[(.l .eu),(.l .eu)]) (rs:=[.bool]) (x:=(a0,J,())) (r:=((eqv a0 J),())) ⟨27,dm,[OI]⟩ ⟨[13],[(6,OF,OG)],[],[],[]⟩ (fb [0,1] [] 5 ap au fun _=> .nil) Try.func81 h) (c5 a0.length (fun v=> !(eqv (nth a0 v) (nth J v)))) (dD a0.length) (by
 unfold EA EB
 exact n3 (ne:=fun v=> !(eqv (nth a0 v) (nth J v))) (fun v=>by simp[eqv]))
def OE:c_ Try.prog:=⟨81,[(.l .eu),(.l .eu)],[.bool],none,fun x=>((eqv x.1 x.2.1),()),fun x h=>OD x.1 x.2.1⟩
def Er (a0 J:aI) (ah:Bool):Prop:=
  ((a0.dW !=J.dW)=true→false=ah)∧((!(a0.dW !=J.dW))=true→((a0.cT !=J.cT)=true→false=ah)∧((!(a0.cT !=J.cT))=true→((!(eqv a0.aF J.aF))=true→false=ah)∧((!(!(eqv a0.aF J.aF)))=true→((a0.dV !=J.dV)=true→false=ah)∧((!(a0.dV !=J.dV))=true→((a0.dX !=J.dX)=true→false=ah)∧((!(a0.dX !=J.dX))=true→true=ah)))))
def Ep (a0:aI) (J:aI) (ah:Bool):Prop:=
 Er a0 J ah
theorem Oo (a0:aI) (J:aI):bh Try.prog 133 [.agg (ii false a0),.agg (ii false J)] (aP (eqv a0 J)):=(fun(h:Ep a0 J (eqv a0 J))=>bh.run (ps:=[.held,.held]) (rs:=[.bool]) (x:=(a0,J,())) (r:=((eqv a0 J),())) ⟨31,dm,[y0]⟩ ⟨[],[],[],[],[]⟩ .nil Try.func133 h) (by
 unfold Ep Er
 obtain⟨a,b,c,d,e⟩:=a0
 obtain⟨fw,bC,bB,xc,bf⟩:=J
 simp[eqv]
 refine⟨fun h h1=>absurd h1 h,fun h=>⟨fun k _ df=>absurd df k,?_⟩⟩
 intros
 simp_all)
def Oq:c_ Try.prog:=⟨133,[.held,.held],[.bool],none,fun x=>((eqv x.1 x.2.1),()),fun x h=>Oo x.1 x.2.1⟩
def Om:List Item:=[az 0,az 1,az 2,az 3,az 4,az 5,az 6,az 7,az 8,az 9]
def On:List (List Nat):=[[],[],[0,1],[0,1,2],[],[],[4,5],[4,5,6],rg 0 8,rg 0 9]
def Eo (ap:Int→Prop) (au:Int→Nat) (a0 J:(List aI)) (ah:Bool):Prop:=
  ((a0.length≤4611686018427387904)∧(J.length≤4611686018427387904)→((a0.length:Int) !=(J.length:Int))=true→false=ah)∧((a0.length≤4611686018427387904)∧(J.length≤4611686018427387904)∧((!((a0.length:Int) !=(J.length:Int)))=true)→ap 0∧ ∀(v5:Int),ap v5→(((decide (v5<(a0.length:Int)))=false→true=ah)∧((decide (v5<(a0.length:Int)))=true→(((0≤v5∧v5.toNat<a0.length)∧(0≤v5∧v5.toNat<J.length))∧((!(eqv (nth a0 v5) (nth J v5)))=true→false=ah))∧((!(!(eqv (nth a0 v5) (nth J v5))))=true→ap (IntKind.i64.wrap (v5+1))∧au (IntKind.i64.wrap (v5+1))<au v5))))
def En (a0:(List aI)) (J:(List aI)) (ah:Bool) (ap:Int→Prop) (au:Int→Nat):Prop:=
 Eo ap au a0 J ah
theorem Ok (a0:(List aI)) (J:(List aI)):bh Try.prog 82 [b_ (ii false) a0,b_ (ii false) J] (aP (eqv a0 J)):=(fun(ap:Int→Prop) (au:Int→Nat) (h:En a0 J (eqv a0 J) ap au)=>bh.run (ps:=[(.l .held),(.l .held)]) (rs:=[.bool]) (x:=(a0,J,())) (r:=((eqv a0 J),())) ⟨27,dm,[Oq]⟩ ⟨[13],[(6,Om,On)],[],[],[]⟩ (fb [0,1] [] 5 ap au fun _=> .nil) Try.func82 h) (c5 a0.length (fun v=> !(eqv (nth a0 v) (nth J v)))) (dD a0.length) (by
 unfold En Eo
 exact n3 (ne:=fun v=> !(eqv (nth a0 v) (nth J v))) (fun v=>by simp[eqv]))
def Ol:c_ Try.prog:=⟨82,[(.l .held),(.l .held)],[.bool],none,fun x=>((eqv x.1 x.2.1),()),fun x h=>Ok x.1 x.2.1⟩
def Em (a0:Frame) (J:Frame) (ah:Bool):Prop:=
 ((a0.ok !=J.ok)=true→false=ah)∧((!(a0.ok !=J.ok))=true→((!(eqv a0.bM J.bM))=true→false=ah)∧((!(!(eqv a0.bM J.bM)))=true→((!(eqv a0.bP J.bP))=true→false=ah)∧((!(!(eqv a0.bP J.bP)))=true→((!(eqv a0.U J.U))=true→false=ah)∧((!(!(eqv a0.U J.U)))=true→true=ah))))
theorem Oj (a0:Frame) (J:Frame):bh Try.prog 34 [.agg (hT false a0),.agg (hT false J)] (aP (eqv a0 J)):=(fun(h:Em a0 J (eqv a0 J))=>bh.run (ps:=[.frame,.frame]) (rs:=[.bool]) (x:=(a0,J,())) (r:=((eqv a0 J),())) ⟨28,dm,[y0,OE,Ol]⟩ ⟨[],[],[],[],[]⟩ .nil Try.func34 h) (by
 unfold Em
 obtain⟨a,b,c,d⟩:=a0
 obtain⟨fw,bC,bB,xc⟩:=J
 simp[eqv]
 refine⟨fun h h1=>absurd h1 h,fun h=>⟨fun k _ df=>absurd df k,?_⟩⟩
 intros
 simp_all)
end Go.Proofs.Ytglpfccgmfhkdaa.Fw
set_option linter.unusedVariables false
namespace Go.Proofs.Ytglpfccgmfhkdaa.Fw
open Go
structure Fit (p:aS) (f:Frame):Prop where
 rj:e1 p=true
 fr:l6 p f
theorem Fit.in {p:aS} {f:Frame} (h:Fit p f):wh p:=u5 h.rj
open Go Go.RowKit
theorem BR {p:aS} {l:Int} (hk:fN p l) {w:World} {v:Value} (h:V2 (Env.at w) (.agg (bT false p)) v):
    Calls Try.prog 23 #[v,.int .i64 l] w fun e w'=>e= .returned (.int .i64 (mO p l))∧Below w.heap.size w w':=
  bh.int (vs:=[v,.int .i64 l]) (OW p l hk) (.cons h (.cons (ar.int _ _) .nil))
theorem AA {p:aS} {w:World} {B:Nat→Prop} {v:Value} (h:fj w B (.agg (bT false p)) v): ∃bp a1 bq aV bk aQ,v= .agg #[.int .i64 p.ae,.slice bp p.aR.length a1,.slice bq p.U.length aV,.slice bk p.a_.length aQ,.int .i64 p.dw]∧
    ar w B (fun _=>False) (.av (p.aR.map c1) false false) (.slice bp p.aR.length a1)∧ar w B (fun _=>False) (.av (p.U.map (cE false)) false false) (.slice bq p.U.length aV)∧ar w B (fun _=>False) (.av (p.a_.map (eV bm false)) false false) (.slice bk p.a_.length aQ):=by
  obtain⟨vs,rfl,ab⟩:=(show ∃vs:List Value,v= .agg vs.toArray∧aw (be (Env.ro w B)) (bT false p) vs from h)
  obtain⟨a,vs,rfl,ai,ab⟩:=ab.cons_inv
  obtain⟨b,vs,rfl,hb,ab⟩:=ab.cons_inv
  obtain⟨c,vs,rfl,hc,ab⟩:=ab.cons_inv
  obtain⟨d,vs,rfl,aL,ab⟩:=ab.cons_inv
  obtain⟨e,vs,rfl,he,ab⟩:=ab.cons_inv
  obtain rfl:=ab.jZ
  have ai:ar w _ _ (.int .i64 p.ae) a:=ai
  have he:ar w _ _ (.int .i64 p.dw) e:=he
  cases ai;cases he
  obtain⟨bp,a1,rfl,ff⟩:=qz (h_ hb)
  obtain⟨bq,aV,rfl,cL⟩:=qz (h_ hc)
  obtain⟨bk,aQ,rfl,dd⟩:=qz (h_ aL)
  rw[List.length_map] at ff cL dd
  exact⟨bp,a1,bq,aV,bk,aQ,by simp,ff,cL,dd⟩
theorem R_ {p:Frame} {w:World} {B:Nat→Prop} {v:Value} (h:fj w B (.agg (hT false p)) v): ∃bp a1 bq aV bk aQ,v= .agg #[.bool p.ok,.slice bp p.bM.length a1,.slice bq p.bP.length aV,.slice bk p.U.length aQ]∧
    ar w B (fun _=>False) (.av (p.bM.map bm) false false) (.slice bp p.bM.length a1)∧ar w B (fun _=>False) (.av (p.bP.map cb) false false) (.slice bq p.bP.length aV)∧ar w B (fun _=>False) (.av (p.U.map (ii false)) false false) (.slice bk p.U.length aQ):=by
  obtain⟨vs,rfl,ab⟩:=(show ∃vs:List Value,v= .agg vs.toArray∧aw (be (Env.ro w B)) (hT false p) vs from h)
  obtain⟨a,vs,rfl,ai,ab⟩:=ab.cons_inv
  obtain⟨b,vs,rfl,hb,ab⟩:=ab.cons_inv
  obtain⟨c,vs,rfl,hc,ab⟩:=ab.cons_inv
  obtain⟨d,vs,rfl,aL,ab⟩:=ab.cons_inv
  obtain rfl:=ab.jZ
  have ai:ar w _ _ (.bool p.ok) a:=ai
  cases ai
  obtain⟨bp,a1,rfl,ff⟩:=qz (h_ hb)
  obtain⟨bq,aV,rfl,cL⟩:=qz (h_ hc)
  obtain⟨bk,aQ,rfl,dd⟩:=qz (h_ aL)
  rw[List.length_map] at ff cL dd
  exact⟨bp,a1,bq,aV,bk,aQ,by simp,ff,cL,dd⟩
theorem tn {p:aS} (ab:Af p) {w:World} {v:Value} (h:V2 (Env.at w) (.agg (bT false p)) v):
    Calls Try.prog 25 #[v] w fun e w'=> ∃bp a1 bq aV bk aQ,e= .returned (.agg #[.int .i64 p.ae,.slice bp p.aR.length a1,.slice bq p.U.length aV,.slice bk p.a_.length aQ,.int .i64 p.dw])∧Below w.heap.size w w'∧
      fj w' (dY w w') (.agg (bT false p)) (.agg #[.int .i64 p.ae,.slice bp p.aR.length a1,.slice bq p.U.length aV,.slice bk p.a_.length aQ,.int .i64 p.dw]):=
  (bh.vB (e:= .fe) (x:=p) (vs:=[v]) (Pa p ab) (.cons h .nil)).mono fun e w' ⟨cM,h1,h2,ao⟩=>by
    obtain⟨bp,a1,bq,aV,bk,aQ,rfl,_⟩:=AA ao
    exact⟨bp,a1,bq,aV,bk,aQ,h1,h2,ao⟩
theorem Jt {p:aS} {w:World} {v u:Value} (h:V2 (Env.at w) (.agg (bT false p)) v) (k:V2 (Env.at w) (.agg (bT false p)) u):
    Calls Try.prog 28 #[v,u] w fun e w'=>e= .returned (.bool true)∧Below w.heap.size w w':=by
  have:=bh.bool (vs:=[v,u]) (OC p p) (.cons h (.cons k .nil))
  unfold eqv at this
  rw[decide_eq_true rfl] at this
  exact this
theorem wV {p:Frame} {w:World} {v u:Value} (h:V2 (Env.at w) (.agg (hT false p)) v) (k:V2 (Env.at w) (.agg (hT false p)) u):
    Calls Try.prog 34 #[v,u] w fun e w'=>e= .returned (.bool true)∧Below w.heap.size w w':=by
  have:=bh.bool (vs:=[v,u]) (Oj p p) (.cons h (.cons k .nil))
  unfold eqv at this
  rw[decide_eq_true rfl] at this
  exact this
def nq (p:aS):Nat:=p.aR.length+(p.U.map oC).sum+(p.a_.map List.length).sum
theorem Jw {p:aS} {w:World} {B:Nat→Prop} {v:Value} {k:Int} (h:fj w B (.agg (bT false p)) v) (cH: ∀c,B c→Plain w c) (aA:0≤k) (h1:k+nq p≤4611686018427387904):
    Calls Try.prog 35 #[v,.int .i64 k] w fun e w'=>e= .returned (.int .i64 (k+(nq p:Nat)))∧cy B w w':=by
  obtain⟨bp,a1,bq,aV,bk,aQ,rfl,ff,cL,dd⟩:=AA h
  have hb: ∀c,B c→B c∧Plain w c:=fun c hc=>⟨hc,cH c hc⟩
  refine(PX w B p.ae p.dw bp bq bk _ _ _ _ _ _ _ _ _ k (uG ff hb (fun _ h=>h.elim)) (N7 cL hb (fun _ h=>h.elim)) (N4 dd hb (fun _ h=>h.elim)) aA (by unfold nq at h1;omega)).mono ?_
  rintro e w' ⟨rfl,hk⟩
  exact⟨by congr 2;unfold nq;omega,hk⟩
theorem HC {α:Type} {f g:α→Nat} (c:Nat) (h: ∀x,f x≤c*g x): ∀xs:List α,(xs.map f).sum≤c*(xs.map g).sum
  | []=>by simp
  | x::r=>by
    rw[List.map_cons,List.map_cons,List.sum_cons,List.sum_cons,Nat.mul_add]
    have:=h x
    have:=HC c h r
    omega
theorem P2 (p:aS):nq p≤2*lY p:=by
  unfold nq lY qB nV
  have:=HC (f:=oC) (g:=mQ) 2 (fun x=>by unfold oC mQ;omega) p.U
  omega
theorem nX {w:World} {b:Nat} {a1 aV aQ hz:Value} {ty:TypeId} (h:w.heap[b]?=some (.cells #[a1,aV,aQ,hz] ty (0,0))):w.cell? ⟨b,0,none⟩=some a1∧w.cell? ⟨b,1,none⟩=some aV∧w.cell? ⟨b,2,none⟩=some aQ∧w.cell? ⟨b,3,none⟩=some hz:=by
  refine⟨?_,?_,?_,?_⟩<;>simp[World.cell?,h]
theorem pr {w:World} {b:Nat} {a1 aV aQ hz jE:Value} {ty:TypeId} (h:w.heap[b]?=some (.cells #[a1,aV,aQ,hz,jE] ty (0,0))):w.cell? ⟨b,0,none⟩=some a1∧w.cell? ⟨b,1,none⟩=some aV∧w.cell? ⟨b,2,none⟩=some aQ∧w.cell? ⟨b,3,none⟩=some hz∧w.cell? ⟨b,4,none⟩=some jE:=by
  refine⟨?_,?_,?_,?_,?_⟩<;>simp[World.cell?,h]
theorem zo {bi w:World} {a:AV} {v:Value} (h:fj w (dY bi w) a v):V2 (Env.at w) a v:=h.at fun c hc=>hc.2.1
theorem GO {W w:World} {l:List dO} (h:cx W w l) (i j:Nat) {b bC:Nat} {a1 aV aQ hz jE f0 f1 f2 f3 f4:Value} {t fZ:TypeId} (e:l[i]?=some (i_ b #[a1,aV,aQ,hz,jE] t):=by rfl) (bf:l[j]?=some (i_ bC #[f0,f1,f2,f3,f4] fZ):=by rfl):
    cx W w l∧w.cell? ⟨b,0,none⟩=some a1∧w.cell? ⟨b,1,none⟩=some aV∧w.cell? ⟨b,2,none⟩=some aQ∧w.cell? ⟨b,3,none⟩=some hz∧w.cell? ⟨b,4,none⟩=some jE∧w.cell? ⟨bC,0,none⟩=some f0∧w.cell? ⟨bC,1,none⟩=some f1∧w.cell? ⟨bC,2,none⟩=some f2∧w.cell? ⟨bC,3,none⟩=some f3∧w.cell? ⟨bC,4,none⟩=some f4:=by
  obtain⟨a0,J,a2,a3,a4⟩:=pr (h.get i e)
  obtain⟨Bq,pi,cJ,wz,IL⟩:=pr (h.get j bf)
  exact⟨h,a0,J,a2,a3,a4,Bq,pi,cJ,wz,IL⟩
abbrev cl:=List (Nat×Nat×Bool)
def b2 (f:Nat→cl):Nat→cl
 | 0=>[]
 | n+1=>b2 f n++f n
theorem wQ {f:Nat→cl}: ∀{n j:Nat},j≤n→ ∃r,b2 f n=b2 f j++r
 | 0,j,h=>⟨[],by obtain rfl:j=0:=by omega
                 rfl⟩
 | n+1,j,h=>by
  by_cases e:j=n+1
  ·subst e;exact⟨[],(List.append_nil _).symm⟩
  ·obtain⟨r,aa⟩:=wQ (f:=f) (n:=n) (j:=j) (by omega)
   exact⟨r++f n,by rw[←List.append_assoc,←aa];rfl⟩
def np:Bool→Int→Value
 | true,k=> .bool (k%3==0)
 | false,k=> .int .i64 k
def ht (L:cl):Prop:=L.Pairwise fun x y=> ¬(x.1=y.1∧x.2.1=y.2.1)
def db (w:World):cl→Int→Prop
 | [],_=>True
 | x::L,k=>w.cell? ⟨x.1,x.2.1,none⟩=some (np x.2.2 k)∧db w L (k+1)
theorem db.lx {w:World} {M:cl}: ∀{L:cl} {k:Int},db w (L++M) k↔db w L k∧db w M (k+(L.length:Nat))
 | [],k=>by simp[db]
 | x::L,k=>by
  show(_∧db w (L++M) (k+1))↔(_∧db w L (k+1))∧_
  rw[db.lx (L:=L),and_assoc,show k+1+(L.length:Nat)=k+((x::L).length:Nat) by simp;omega]
theorem db.b3 {w w':World}: ∀{L:cl} {k:Int},db w L k→(∀x∈L,(∃u,w.cell? ⟨x.1,x.2.1,none⟩=some u)→w'.cell? ⟨x.1,x.2.1,none⟩=w.cell? ⟨x.1,x.2.1,none⟩)→db w' L k
 | [],k,_,_=>trivial
 | x::L,k,h,hk=>⟨(hk x (List.mem_cons_self ..) ⟨_,h.1⟩).trans h.1,db.b3 h.2 fun y ax=>hk y (List.mem_cons_of_mem _ ax)⟩
theorem db.here {w:World}: ∀{L:cl} {k:Int},db w L k→ ∀x∈L,∃u,w.cell? ⟨x.1,x.2.1,none⟩=some u
 | x::L,k,h,y,ax=>by
  rcases List.mem_cons.1 ax with rfl | ax
  ·exact⟨_,h.1⟩
  ·exact db.here h.2 y ax
theorem tj {w:World} {b o:Nat} {u:Value} (h:w.cell? ⟨b,o,none⟩=some u):b<w.heap.size:=by
 rcases Nat.lt_or_ge b w.heap.size with h' | h'
 ·exact h'
 ·simp[World.cell?,Array.getElem?_eq_none h'] at h
inductive cD (w:World) (S:Nat→Prop):aq→Nat→Nat→cl→Value→Prop where
 | int (c o:Nat) (n:Int):cD w S .int c o [(c,o,false)] (.int .i64 n)
 | bool (c o:Nat) (b:Bool):cD w S .bool c o [(c,o,true)] (.bool b)
 | av {e:aq} {a b n cap:Nat} {A:Option Addr} {Ls:Nat→Nat→cl} {vs:Nat→Nat→Value} (c o:Nat) (h1:n≤cap∧n≤4611686018427387904)
   (hc:0<n→ ∃ad ty,A=some ⟨c,o,none⟩∧S c∧w.heap[c]?=some (.cells ad ty (0,0))∧ ∀i j,i<n→j<e.a6.length→ad[o+(i*e.a6.length+j)]?=some (vs i j))
   (aa: ∀i j bf,i<n→e.a6[j]?=some bf→cD w S bf c (o+(i*e.a6.length+j)) (Ls i j) (vs i j)):cD w S (.l e) a b (b2 (fun i=>b2 (Ls i) e.a6.length) n) (.slice A n cap)
theorem cD.ju {w:World} {S:Nat→Prop} {e:aq} {a b:Nat} {L:cl} {v:Value} (h:cD w S (.l e) a b L v): ∃A n cap,v= .slice A n cap:=by cases h;exact⟨_,_,_,rfl⟩
theorem cD.of_int {w:World} {S:Nat→Prop} {a b:Nat} {L:cl} {v:Value} (h:cD w S .int a b L v):L=[(a,b,false)]∧ ∃n,v= .int .i64 n:=by cases h;exact⟨rfl,_,rfl⟩
theorem cD.of_bool {w:World} {S:Nat→Prop} {a b:Nat} {L:cl} {v:Value} (h:cD w S .bool a b L v):L=[(a,b,true)]∧ ∃n,v= .bool n:=by cases h;exact⟨rfl,_,rfl⟩
theorem cD.jU {w:World} {S:Nat→Prop} {e:aq} {a b:Nat} {L:cl} {n:Int} (h:cD w S e a b L (.int .i64 n)):e= .int∧L=[(a,b,false)]:=by cases h;exact⟨rfl,rfl⟩
theorem cD.jD {w:World} {S:Nat→Prop} {e:aq} {a b:Nat} {L:cl} {n:Bool} (h:cD w S e a b L (.bool n)):e= .bool∧L=[(a,b,true)]:=by cases h;exact⟨rfl,rfl⟩
theorem cD.Gu {w:World} {S:Nat→Prop} {e:aq} {a b:Nat} {L:cl} {v:Value} (h:cD w S (.l e) a b L v) (fw bC:Nat):cD w S (.l e) fw bC L v:=by
 cases h with
 | av c o h1 hc aa=>exact .av c o h1 hc aa
theorem cD.zero {w:World} {S:Nat→Prop} {e:aq} {a b cap:Nat} {A:Option Addr} {L:cl} (h:cD w S (.l e) a b L (.slice A 0 cap)):L=[]:=by
 cases h;rfl
theorem cD.b3 {w w':World} {S S':Nat→Prop} (hk: ∀c,S c→w'.heap[c]?=w.heap[c]?) (hs: ∀c,S c→S' c) {e:aq} {a b:Nat} {L:cl} {v:Value} (h:cD w S e a b L v):cD w' S' e a b L v:=by
 induction h with
 | int c o n=>exact .int c o n
 | bool c o b=>exact .bool c o b
 | av c o h1 hc aa aT=>
  refine .av c o h1 (fun af=> ?_) aT
  obtain⟨ad,ty,q1,q2,q3,q4⟩:=hc af
  exact⟨ad,ty,q1,hs c q2,(hk c q2).trans q3,q4⟩
theorem cD.dj {w w':World} {S S':Nat→Prop} (hw:cy S' w w') {e:aq} {a b:Nat} {L:cl} {v:Value} (h:cD w S e a b L v):cD w' S e a b L v:=by
 induction h with
 | int c o n=>exact .int c o n
 | bool c o b=>exact .bool c o b
 | @av e a b n cap A Ls vs c o h1 hc aa aT=>
  by_cases af:0<n
  ·obtain⟨ad,ty,bG,b5,aX,hv⟩:=hc af
   obtain⟨ba,q1,q2,q3⟩:=hw.at aX
   have key: ∀i j,i<n→j<e.a6.length→ ∃u,ba[o+(i*e.a6.length+j)]?=some u:=fun i j hi O=>by
    rcases q3 (o+(i*e.a6.length+j)) with q | ⟨_,_,_,q⟩ | ⟨_,_,_,q⟩
    ·exact⟨_,q.trans (hv i j hi O)⟩
    ·exact⟨_,q⟩
    ·exact⟨_,q⟩
   refine .av (vs:=fun i j=>(ba[o+(i*e.a6.length+j)]?).getD undef) c o h1 (fun _=>⟨ba,ty,bG,b5,q1,fun i j hi O=> ?_⟩) fun i j bf hi O=> ?_
   ·obtain⟨u,hu⟩:=key i j hi O
    rw[hu];rfl
   ·have hZ:j<e.a6.length:=(List.getElem?_eq_some_iff.1 O).1
    have hk:=aa i j bf hi O
    have om:=hv i j hi hZ
    show cD w' S bf c _ (Ls i j) ((ba[o+(i*e.a6.length+j)]?).getD undef)
    rcases q3 (o+(i*e.a6.length+j)) with q | ⟨x,y,iq,oF⟩ | ⟨x,y,iq,oF⟩
    ·rw[q,om];exact aT i j bf hi O
    ·rw[om] at iq
     rw[Option.some.inj iq] at hk
     obtain⟨rfl,hm⟩:=hk.jU
     rw[oF,hm];exact .int _ _ y
    ·rw[om] at iq
     rw[Option.some.inj iq] at hk
     obtain⟨rfl,hm⟩:=hk.jD
     rw[oF,hm];exact .bool _ _ y
  ·exact .av (vs:=vs) c o h1 (fun h=>absurd h af) fun i j bf hi _=>absurd (Nat.lt_of_le_of_lt (Nat.zero_le _) hi) af
theorem cD.elem {w:World} {S:Nat→Prop} {e:aq} {a b n cap:Nat} {A:Option Addr} {L:cl} (h:cD w S (.l e) a b L (.slice A n cap)):
  n≤4611686018427387904∧ ∃(c o:Nat) (Ls:Nat→Nat→cl),(0<n→A=some ⟨c,o,none⟩)∧L=b2 (fun i=>b2 (Ls i) e.a6.length) n∧
   (∀i j bf,i<n→e.a6[j]?=some (.l bf)→ ∃b9 gm iQ,∀wr,cy S w wr→wr.cell? ⟨c,o+(i*e.a6.length+j),none⟩=some (.slice b9 gm iQ)∧cD wr S (.l bf) 0 0 (Ls i j) (.slice b9 gm iQ))∧
   (∀i j,i<n→e.a6[j]?=some .int→Ls i j=[(c,o+(i*e.a6.length+j),false)]∧ ∀wr,cy S w wr→(∃u,wr.cell? ⟨c,o+(i*e.a6.length+j),none⟩=some u)∧wr.frozen? ⟨c,o+(i*e.a6.length+j),none⟩=false∧ ∀x,cy S w (wr.setCell ⟨c,o+(i*e.a6.length+j),none⟩ (.int .i64 x)))∧
   ∀i j,i<n→e.a6[j]?=some .bool→Ls i j=[(c,o+(i*e.a6.length+j),true)]∧ ∀wr,cy S w wr→(∃u,wr.cell? ⟨c,o+(i*e.a6.length+j),none⟩=some u)∧wr.frozen? ⟨c,o+(i*e.a6.length+j),none⟩=false∧ ∀x,cy S w (wr.setCell ⟨c,o+(i*e.a6.length+j),none⟩ (.bool x)):=by
 cases h with
 | @av _ _ _ _ _ _ Ls vs c o h1 hc aa=>
 refine⟨h1.2,c,o,Ls,fun af=> ?_,rfl,fun i j bf hi O=> ?_,fun i j hi O=> ?_,fun i j hi O=> ?_⟩
 ·obtain⟨ad,ty,bG,_⟩:=hc af
  exact bG
 ·obtain⟨ad,ty,bG,b5,aX,hv⟩:=hc (by omega)
  have hk:=aa i j _ hi O
  have hu:=hv i j hi (List.getElem?_eq_some_iff.1 O).1
  obtain⟨b9,gm,iQ,aO⟩:=hk.ju
  rw[aO] at hk hu
  exact⟨b9,gm,iQ,fun wr hw=>⟨hw.head aX hu,(hk.dj hw).Gu 0 0⟩⟩
 ·obtain⟨ad,ty,bG,b5,aX,hv⟩:=hc (by omega)
  have hk:=aa i j _ hi O
  have hu:=hv i j hi (List.getElem?_eq_some_iff.1 O).1
  obtain⟨h1,bL,aO⟩:=hk.of_int
  refine⟨h1,fun wr hw=> ?_⟩
  obtain⟨ba,q1,q2,q3⟩:=hw.at aX
  have al:=q3 (o+(i*e.a6.length+j))
  rw[hu,aO] at al
  have hs: ∃y,ba[o+(i*e.a6.length+j)]?=some (.int .i64 y):=by
   rcases al with q | ⟨_,y,_,q⟩ | ⟨_,_,q,_⟩
   ·exact⟨_,q⟩
   ·exact⟨_,q⟩
   ·cases q
  obtain⟨y,ax⟩:=hs
  exact⟨⟨_,by simp only[World.cell?,q1];exact ax⟩,by simp[World.frozen?,q1],fun x=>hw.trans (cy.setCell q1 b5 (by rw[ax];exact .inr (.inl ⟨_,_,rfl,rfl⟩)))⟩
 ·obtain⟨ad,ty,bG,b5,aX,hv⟩:=hc (by omega)
  have hk:=aa i j _ hi O
  have hu:=hv i j hi (List.getElem?_eq_some_iff.1 O).1
  obtain⟨h1,bL,aO⟩:=hk.of_bool
  refine⟨h1,fun wr hw=> ?_⟩
  obtain⟨ba,q1,q2,q3⟩:=hw.at aX
  have al:=q3 (o+(i*e.a6.length+j))
  rw[hu,aO] at al
  have hs: ∃y,ba[o+(i*e.a6.length+j)]?=some (.bool y):=by
   rcases al with q | ⟨_,_,q,_⟩ | ⟨_,y,_,q⟩
   ·exact⟨_,q⟩
   ·cases q
   ·exact⟨_,q⟩
  obtain⟨y,ax⟩:=hs
  exact⟨⟨_,by simp only[World.cell?,q1];exact ax⟩,by simp[World.frozen?,q1],fun x=>hw.trans (cy.setCell q1 b5 (by rw[ax];exact .inr (.inr ⟨_,_,rfl,rfl⟩)))⟩
structure eO (w w':World) (S:Nat→Prop) (L:cl) (k:Int):Prop where
 dj:cy S w w'
 nu: ∀c o,c<w.heap.size→(∀x∈L,¬(x.1=c∧x.2.1=o))→w'.cell? ⟨c,o,none⟩=w.cell? ⟨c,o,none⟩
 nn:db w' L k
theorem eO.nil (w:World) (S:Nat→Prop) (k:Int):eO w w S [] k:=⟨.refl _ _,fun _ _ _ _=>rfl,trivial⟩
theorem ht.left {L M:cl} (h:ht (L++M)):ht L:=(List.pairwise_append.1 h).1
theorem ht.right {L M:cl} (h:ht (L++M)):ht M:=(List.pairwise_append.1 h).2.1
theorem eO.b2 {w bX du:World} {S:Nat→Prop} {L M:cl} {k gl:Int} (h:eO w bX S L k) (g:eO bX du S M gl) (hD:ht (L++M)) (e:gl=k+(L.length:Nat)):eO w du S (L++M) k where
 dj:=h.dj.trans g.dj
 nu:=fun c o hc hx=>(g.nu c o (Nat.lt_of_lt_of_le hc h.dj.size) fun x hm=>hx x (List.mem_append.2 (.inr hm))).trans (h.nu c o hc fun x hm=>hx x (List.mem_append.2 (.inl hm)))
 nn:=by
  subst e
  refine db.lx.2 ⟨h.nn.b3 fun x hx ⟨u,hu⟩=>g.nu _ _ (tj hu) fun y ax e=> ?_,g.nn⟩
  exact(List.pairwise_append.1 hD).2.2 x hx y ax ⟨e.1.symm,e.2.symm⟩
theorem BM {w:World} {b o:Nat} {u v:Value} (h:w.cell? ⟨b,o,none⟩=some u):(w.setCell ⟨b,o,none⟩ v).cell? ⟨b,o,none⟩=some v:=by
 unfold World.cell? at h ⊢
 simp only at h ⊢
 cases hb:w.heap[b]? with
 | none=>rw[hb] at h;simp at h
 | some x=>
  rw[hb] at h
  cases x with
  | cells ad ty CJ=>
   simp only at h
   have ak:=(Array.getElem?_eq_some_iff.1 h).1
   simp[World.setCell,Array.getElem?_modify,hb,ak]
  | _=>simp at h
theorem wR {w:World} {b o c q:Nat} {v:Value} (h: ¬(b=c∧o=q)):(w.setCell ⟨b,o,none⟩ v).cell? ⟨c,q,none⟩=w.cell? ⟨c,q,none⟩:=by
 by_cases e:b=c
 ·subst e
  have e2:o≠q:=fun e=>h ⟨rfl,e⟩
  unfold World.cell?
  simp only[World.setCell,Array.getElem?_modify,if_pos]
  cases hb:w.heap[b]? with
  | none=>simp
  | some x=>cases x<;>simp[e2]
 ·unfold World.cell?
  rw[RowKit.Below.heap_setCell _ _ _ _ (fun bf=>e bf.symm)]
theorem eO.one {w:World} {S:Nat→Prop} {c o:Nat} {b:Bool} {v:Value} {k:Int} (hc: ∃u,w.cell? ⟨c,o,none⟩=some u) (hk:cy S w (w.setCell ⟨c,o,none⟩ v)) (hv:v=np b k):eO w (w.setCell ⟨c,o,none⟩ v) S [(c,o,b)] k where
 dj:=hk
 nu:=fun bB fD _ hx=>wR (hx _ (List.mem_singleton.2 rfl))
 nn:=by subst hv;obtain⟨u,hu⟩:=hc;exact⟨BM hu,trivial⟩
theorem eO.below {w bX du:World} {S:Nat→Prop} {L:cl} {k:Int} (hb:RowKit.Below w.heap.size w bX) (h:eO bX du S L k):eO w du S L k:=
 ⟨(cy.below hb).trans h.dj,fun c o hc hx=>(h.nu c o (Nat.lt_of_lt_of_le hc hb.size) hx).trans (by simp only[World.cell?,hb.block c hc]),h.nn⟩
theorem eO.snoc {w wr:World} {S:Nat→Prop} {L:cl} {k:Int} (h:eO w wr S L k) {c o:Nat} {b:Bool} {v:Value} (hc: ∃u,wr.cell? ⟨c,o,none⟩=some u) (hk:cy S w (wr.setCell ⟨c,o,none⟩ v)) (hD:ht (L++[(c,o,b)])) (hv:v=np b (k+(L.length:Nat))):eO w (wr.setCell ⟨c,o,none⟩ v) S (L++[(c,o,b)]) k where
 dj:=hk
 nu:=fun bB fD ak hx=>(wR (hx _ (List.mem_append.2 (.inr (List.mem_singleton.2 rfl))))).trans (h.nu bB fD ak fun x hm=>hx x (List.mem_append.2 (.inl hm)))
 nn:=by
  subst hv
  obtain⟨u,hu⟩:=hc
  refine db.lx.2 ⟨h.nn.b3 fun x hx _=>wR fun e=> ?_,BM hu,trivial⟩
  exact(List.pairwise_append.1 hD).2.2 x hx _ (List.mem_singleton.2 rfl) ⟨e.1.symm,e.2.symm⟩
def row (c o:Nat) (b:Bool):Nat→cl
 | 0=>[]
 | m+1=>row c o b m++[(c,o+m,b)]
theorem mM (c o:Nat) (b:Bool): ∀m,(row c o b m).length=m
 | 0=>rfl
 | m+1=>by show(row c o b m++_).length=_;rw[List.length_append,mM c o b m];rfl
theorem GG (c o:Nat) (b:Bool) (m:Nat): ∀n,row c o b (m+n)=row c o b m++row c (o+m) b n
 | 0=>(List.append_nil _).symm
 | n+1=>by
  show row c o b (m+n)++[(c,o+(m+n),b)]=_++(row c (o+m) b n++[(c,o+m+n,b)])
  rw[GG c o b m n,List.append_assoc,Nat.add_assoc]
theorem oP {c o:Nat} {b:Bool} {x:Nat×Nat×Bool}: ∀{m},x∈row c o b m↔ ∃i,i<m∧x=(c,o+i,b)
 | 0=>by simp[row]
 | m+1=>by
  show x∈row c o b m++_↔_
  rw[List.mem_append,oP (m:=m),List.mem_singleton]
  constructor
  ·rintro(⟨i,h1,h2⟩ | h)
   ·exact⟨i,by omega,h2⟩
   ·exact⟨m,by omega,h⟩
  ·rintro⟨i,h1,h2⟩
   by_cases e:i=m
   ·subst e;exact .inr h2
   ·exact .inl ⟨i,by omega,h2⟩
theorem db.row {w:World} {c o:Nat} {b:Bool} {k:Int}: ∀{m:Nat},db w (Fw.row c o b m) k↔ ∀i,i<m→w.cell? ⟨c,o+i,none⟩=some (np b (k+(i:Nat)))
 | 0=>⟨fun _ i h=>by omega,fun _=>trivial⟩
 | m+1=>by
  show db w (Fw.row c o b m++_) k↔_
  rw[db.lx,db.row (m:=m),mM]
  constructor
  ·rintro⟨h1,h2,_⟩ i hi
   by_cases e:i=m
   ·subst e;exact h2
   ·exact h1 i (by omega)
  ·intro h
   exact⟨fun i hi=>h i (by omega),h m (by omega),trivial⟩
theorem wP {g:Nat→cl} {c o:Nat} {b:Bool}: ∀{m:Nat},(∀j,j<m→g j=[(c,o+j,b)])→Fw.b2 g m=row c o b m
 | 0,_=>rfl
 | m+1,h=>by show Fw.b2 g m++g m=_;rw[wP fun j O=>h j (by omega),h m (by omega)];rfl
theorem wO {g:Nat→cl} {c o q:Nat} {b:Bool}: ∀{m:Nat},(∀j,j<m→g j=row c (o+j*q) b q)→Fw.b2 g m=row c o b (m*q)
 | 0,_=>by rw[Nat.zero_mul];rfl
 | m+1,h=>by show Fw.b2 g m++g m=_;rw[wO fun j O=>h j (by omega),h m (by omega),←GG,Nat.succ_mul]
theorem cD.flat {w:World} {S:Nat→Prop} {κ e:aq} {ic:Bool} {q n cap a b:Nat} {A:Option Addr} {L:cl} (pV:κ= .int∧ic=false∨κ= .bool∧ic=true) (aY:e.a6=List.replicate q κ) (h:cD w S (.l e) a b L (.slice A n cap)):
  n≤4611686018427387904∧ ∃c o:Nat,(0<n→A=some ⟨c,o,none⟩)∧L=row c o ic (n*q)∧
   (0<n→S c∧ ∃(ad:Array Value) (ty:TypeId),w.heap[c]?=some (.cells ad ty (0,0))∧(0<q→o+n*q≤ad.size)∧ ∀i,i<n*q→ ∃u,ad[o+i]?=some u∧ ∀z,jA (some u) (some (np ic z))):=by
 cases h with
 | @av _ _ _ _ _ _ Ls vs c o h1 hc aa=>
 have ak:e.a6.length=q:=by rw[aY,List.length_replicate]
 rw[ak] at hc aa ⊢
 have O: ∀j,j<q→e.a6[j]?=some κ:=fun j O=>by rw[aY,List.getElem?_replicate,if_pos O]
 have one: ∀i j,i<n→j<q→Ls i j=[(c,o+i*q+j,ic)]∧ ∀z,jA (some (vs i j)) (some (np ic z)):=fun i j hi gr=>by
  have hk:=aa i j κ hi (O j gr)
  rw[show o+(i*q+j)=o+i*q+j by omega] at hk
  rcases pV with⟨rfl,rfl⟩ | ⟨rfl,rfl⟩
  ·obtain⟨aO,m,e2⟩:=hk.of_int
   exact⟨aO,fun z=> .inr (.inl ⟨_,_,by rw[e2],rfl⟩)⟩
  ·obtain⟨aO,m,e2⟩:=hk.of_bool
   exact⟨aO,fun z=> .inr (.inr ⟨_,_,by rw[e2],rfl⟩)⟩
 refine⟨h1.2,c,o,fun af=> ?_,wO fun i hi=>wP fun j gr=>(one i j hi gr).1,fun af=> ?_⟩
 ·obtain⟨ad,ty,bG,_⟩:=hc af
  exact bG
 ·obtain⟨ad,ty,bG,b5,aX,hv⟩:=hc af
  refine⟨b5,ad,ty,aX,fun aA=> ?_,fun i hi=> ?_⟩
  ·have:=(Array.getElem?_eq_some_iff.1 (hv (n - 1) (q - 1) (by omega) (by omega))).1
   have aO:(n - 1)*q+q=n*q:=by rw[←Nat.succ_mul];congr 1;omega
   omega
  ·have aA:0<q:=by
    rcases Nat.eq_zero_or_pos q with e | e
    ·subst e;simp at hi
    ·exact e
   have h1:i / q<n:=(Nat.div_lt_iff_lt_mul aA).2 hi
   have hu:=hv (i / q) (i%q) h1 (Nat.mod_lt _ aA)
   rw[Nat.mul_comm,Nat.div_add_mod] at hu
   exact⟨_,hu,(one (i / q) (i%q) h1 (Nat.mod_lt _ aA)).2⟩
theorem eO.uW {w w':World} {S:Nat→Prop} {c o m:Nat} {b:Bool} {k:Int} {val:Nat→Value} (h:gY w w' c o m val) (hv: ∀i,val i=np b (k+(i:Nat))) (hc:0<m→S c∧ ∃(ad:Array Value) (ty:TypeId),w.heap[c]?=some (.cells ad ty (0,0))∧o+m≤ad.size∧ ∀i,i<m→ ∃u,ad[o+i]?=some u∧ ∀z,jA (some u) (some (np b z))) (aA:m=0→c=w.heap.size):eO w w' S (Fw.row c o b m) k:=by
 by_cases hm:0<m
 ·obtain⟨b5,ad,ty,aX,an,hu⟩:=hc hm
  obtain⟨ba,q1,q2,q3⟩:=h.blk ad ty aX
  refine⟨h.dj b5 fun pw ty2 i hx hi=> ?_,fun bB fD ak hx=> ?_,db.row.2 fun i hi=> ?_⟩
  ·rw[aX] at hx;cases hx
   obtain⟨u,h1,h2⟩:=hu i hi
   rw[h1,hv];exact h2 _
  ·by_cases e:bB=c
   ·subst e
    have nb: ¬(o≤fD∧fD<o+m):=fun aX=>hx (bB,o+(fD - o),b) (oP.2 ⟨fD - o,by omega,rfl⟩) ⟨rfl,by show o+(fD - o)=fD;omega⟩
    simp only[World.cell?,aX,q1]
    rcases Nat.lt_or_ge fD ad.size with O | O
    ·rw[q3 fD O,if_neg nb]
    ·rw[Array.getElem?_eq_none (by omega),Array.getElem?_eq_none O]
   ·simp only[World.cell?,h.other bB e]
  ·have e:ba[o+i]?=some (val (o+i - o)):=(q3 (o+i) (by omega)).trans (if_pos ⟨by omega,by omega⟩)
   rw[show o+i - o=i by omega,hv] at e
   simp only[World.cell?,q1]
   exact e
 ·obtain rfl:m=0:=by omega
  obtain rfl:=aA rfl
  exact⟨h.uE,fun bB fD ak _=>by simp only[World.cell?,h.other bB (by omega)],trivial⟩
def we (P:Program) (f:FuncId) (e:aq):Prop:= ∀(w:World) (S:Nat→Prop) (L:cl) (v:Value) (k:Int),cD w S e 0 0 L v→ht L→0≤k→k+(L.length:Nat)≤4611686018427387904→
 Calls P f #[v,.int .i64 k] w fun fK w'=>fK= .returned (.int .i64 (k+(L.length:Nat)))∧eO w w' S L k
def wa (P:Program) (f:FuncId) (e:aq):Prop:= ∀(w:World) (S:Nat→Prop) (L:cl) (v:Value) (k:Int),cD w S e 0 0 L v→db w L k→0≤k→k+(L.length:Nat)≤4611686018427387904→
 Calls P f #[v,.int .i64 k] w fun fK w'=>fK= .returned (.int .i64 (k+(L.length:Nat)))∧RowKit.Below w.heap.size w w'
def u2 (F:Frame):List Blk:=⟨0,1,List.map bm F.bM⟩::⟨0,2,List.map cb F.bP⟩::⟨0,5,cd 3 F.U (List.range F.U.length)⟩::List.map cj (List.map aI.aF F.U)
theorem Cn (ws:List aI):lk ws (List.range ws.length) (ws.map aI.aF)∧view ws (List.range ws.length) (ws.map aI.aF)=ws:=by
 have hb: ∀i (h:aI),ws[i]?=some h→(ws.map aI.aF).getD i []=h.aF:=fun i h e=>by
  rw[List.getD_eq_getElem?_getD,List.getElem?_map,e];rfl
 constructor
 ·refine⟨by simp,fun i id h=> ?_,fun i id h h1 h2=> ?_⟩
  ·obtain⟨h1,h2⟩:=List.getElem?_eq_some_iff.1 h
   rw[List.getElem_range] at h2
   simp at h1 ⊢;omega
  ·obtain⟨q1,q2⟩:=List.getElem?_eq_some_iff.1 h2
   rw[List.getElem_range] at q2
   subst q2
   rw[hb i h h1]
 ·refine List.ext_getElem? fun i=> ?_
  cases e:ws[i]? with
  | none=>
   rw[List.getElem?_eq_none]
   rw[List.getElem?_eq_none_iff] at e
   unfold view;rw[List.length_zipWith];simp;omega
  | some h=>
   have ak:=(List.getElem?_eq_some_iff.1 e).1
   rw[o1 e (List.getElem?_range ak),hb i h e]
section
variable {E:Env} {H:List Blk} {F:Frame}
def c7 (E:Env) (j:Nat):Nat:=match E.m j with
 | some (some c)=>c
 | _=>0
theorem Gw {j:Nat} (aJ:E.aE j=0) {n:Nat} {v:Value} (h:be E (.ref j 0 0 n false) v): ∃A cap,v= .slice A n cap∧n≤cap∧(0<n→E.m j=some (some (c7 E j))∧A=some ⟨c7 E j,0,none⟩):=by
 rcases(show cY E (.ref j 0 0 n false) v from h) with⟨h,_⟩ | ⟨_,⟨_,_,e,A,rfl⟩ | ⟨c,cap,hm,rfl,h1,_,_⟩⟩
 ·omega
 ·subst e;exact⟨A,0,rfl,Nat.le_refl _,fun h=>absurd h (by omega)⟩
 ·have e:c7 E j=c:=by unfold c7;rw[hm]
  exact⟨_,cap,rfl,h1,fun _=>⟨by rw[e];exact hm,by rw[e,Nat.zero_mul]⟩⟩
theorem mem_row {c o m:Nat} {b:Bool} {x:Nat×Nat×Bool} (h:x∈row c o b m):x.1=c∧o≤x.2.1∧x.2.1<o+m:=by
 obtain⟨i,hi,rfl⟩:=oP.1 h
 exact⟨rfl,Nat.le_add_right _ _,by show o+i<_;omega⟩
theorem uP (c o:Nat) (b:Bool): ∀m,ht (row c o b m)
 | 0=>List.Pairwise.nil
 | m+1=>List.pairwise_append.2 ⟨uP c o b m,List.pairwise_singleton _ _,fun x hx y ax=>by
   have h1:=mem_row hx
   rw[List.mem_singleton.1 ax]
   intro e
   have h2:x.2.1=o+m:=e.2
   omega⟩
theorem nl {f:Nat→cl} {x:Nat×Nat×Bool}: ∀{n:Nat},x∈b2 f n→ ∃i,i<n∧x∈f i
 | n+1,h=>by
  rcases List.mem_append.1 h with h | h
  ·obtain⟨i,h1,h2⟩:=nl h
   exact⟨i,by omega,h2⟩
  ·exact⟨n,by omega,h⟩
theorem FC {f:Nat→cl}: ∀{n:Nat},(∀i,i<n→ht (f i))→(∀i gv,i<n→gv<n→i≠gv→ ∀x∈f i,∀y∈f gv,¬(x.1=y.1∧x.2.1=y.2.1))→ht (b2 f n)
 | 0,_,_=>List.Pairwise.nil
 | n+1,h1,h2=>List.pairwise_append.2 ⟨FC (fun i hi=>h1 i (by omega)) (fun i gv hi kY=>h2 i gv (by omega) (by omega)),h1 n (by omega),fun x hx y ax=>by
   obtain⟨i,hi,hx⟩:=nl hx
   exact h2 i n (by omega) (by omega) (by omega) x hx y ax⟩
theorem zt {α:Type} {enc:α→List AV} {q:Nat} {e κ:aq} {ic:Bool} (pV:κ= .int∧ic=false∨κ= .bool∧ic=true) (aY:e.a6=List.replicate q κ) (hs:SimH E H) {S:Nat→Prop} (b5: ∀c,E.dx c→S c) {j:Nat} {xs:List α}
  (hb:H[j]?=some ⟨0,q,List.map enc xs⟩) (Mm: ∀(x:α) (i:Nat) (a:AV),(enc x)[i]?=some a→(κ= .int∧ ∃n,a= .int .i64 n)∨κ= .bool∧ ∃n,a= .bool n) (hlen: ∀x,(enc x).length=q) (dR:xs.length≤4611686018427387904) {v:Value} (h:be E (.ref j 0 0 xs.length false) v):
  ∃A cap,v= .slice A xs.length cap∧(0<xs.length→E.m j=some (some (c7 E j)))∧cD E.w S (.l e) 0 0 (row (c7 E j) 0 ic (xs.length*q)) v:=by
 have aJ:E.aE j=0:=hs.cS j _ hb
 obtain⟨A,cap,rfl,c2,bG⟩:=Gw aJ h
 refine⟨A,cap,rfl,fun h=>(bG h).1,?_⟩
 have ak:e.a6.length=q:=by rw[aY,List.length_replicate]
 have Mb:row (c7 E j) 0 ic (xs.length*q)=b2 (fun i=>b2 (fun gx=>[(c7 E j,i*q+gx,ic)]) e.a6.length) xs.length:=by
  rw[ak]
  exact(wO fun i hi=>wP fun gx gr=>by rw[Nat.zero_add]).symm
 rw[Mb]
 by_cases af:0<xs.length
 ·obtain⟨hm,rfl⟩:=bG af
  obtain⟨blk,ad,ty,h1,h2,ao,a8,cw,cZ⟩:=hs.heap j _ hm
  rw[hb] at h1
  cases h1
  have h2:E.sz j=q:=h2
  rw[h2] at cZ
  have cell: ∀i gx,i<xs.length→gx<q→ ∃u,ad[i*q+gx]?=some u∧cD E.w S κ (c7 E j) (i*q+gx) [(c7 E j,i*q+gx,ic)] u:=fun i gx hi gr=>by
   have aa:(List.map enc xs)[i]?=some (enc xs[i]):=by rw[List.getElem?_map,List.getElem?_eq_getElem hi];rfl
   obtain⟨a,ai⟩: ∃a,(enc xs[i])[gx]?=some a:=⟨(enc xs[i])[gx]'(by rw[hlen];exact gr),List.getElem?_eq_getElem _⟩
   obtain⟨u,hu,hv⟩:=cZ.2 i gx _ _ aa ai
   refine⟨u,hu,?_⟩
   rcases Mm _ _ _ ai with⟨rfl,n,e⟩ | ⟨rfl,n,e⟩
   ·rw[e] at hv
    have hv:ar E.aW.w E.aW.PA E.aW.PF (.int .i64 n) u:=hv
    cases hv
    rcases pV with⟨_,rfl⟩ | ⟨aX,_⟩
    ·exact .int _ _ n
    ·cases aX
   ·rw[e] at hv
    have hv:ar E.aW.w E.aW.PA E.aW.PF (.bool n) u:=hv
    cases hv
    rcases pV with⟨aX,_⟩ | ⟨_,rfl⟩
    ·cases aX
    ·exact .bool _ _ n
  refine .av (vs:=fun i gx=>(ad[i*q+gx]?).getD undef) (c7 E j) 0 ⟨c2,dR⟩ (fun _=>⟨ad,ty,rfl,b5 _ ⟨j,hm⟩,ao,fun i gx hi gr=> ?_⟩) fun i gx bf hi gr=> ?_
  ·rw[ak] at gr ⊢
   obtain⟨u,hu,_⟩:=cell i gx hi gr
   rw[Nat.zero_add,hu];rfl
  ·rw[ak]
   have m9:gx<q:=by rw[←ak];exact(List.getElem?_eq_some_iff.1 gr).1
   have aO:bf=κ:=by rw[aY,List.getElem?_replicate,if_pos m9] at gr;exact(Option.some.inj gr).symm
   subst aO
   obtain⟨u,hu,hk⟩:=cell i gx hi m9
   rw[Nat.zero_add,hu];exact hk
 ·have an:xs.length=0:=by omega
  rw[an]
  exact .av (Ls:=fun i gx=>[(c7 E j,i*q+gx,ic)]) (vs:=fun _ _=>undef) 0 0 ⟨Nat.zero_le _,Nat.zero_le _⟩ (fun h=>absurd h (by omega)) fun i gx bf hi _=>by omega
def jc (E:Env) (ws:List aI) (b s i j:Nat):cl:=match j with
 | 0=>[(c7 E b,i*5,false)]
 | 1=>[(c7 E b,i*5+1,false)]
 | 2=>row (c7 E (i+s)) 0 true (((ws[i]?).map fun h=>h.aF.length).getD 0*1)
 | 3=>[(c7 E b,i*5+3,true)]
 | 4=>[(c7 E b,i*5+4,false)]
 | _=>[]
theorem B6 (x:Bool) (i:Nat) (a:AV) (h:(bm x)[i]?=some a):((aq.bool:aq)= .int∧ ∃n,a= .int .i64 n)∨(aq.bool:aq)= .bool∧ ∃n,a= .bool n:=by
 match i,h with
 | 0,h=>cases h;exact .inr ⟨rfl,_,rfl⟩
theorem J5 (x:b4) (i:Nat) (a:AV) (h:(cb x)[i]?=some a):((aq.int:aq)= .int∧ ∃n,a= .int .i64 n)∨(aq.int:aq)= .bool∧ ∃n,a= .bool n:=by
 match i,h with
 | 0,h=>cases h;exact .inl ⟨rfl,_,rfl⟩
 | 1,h=>cases h;exact .inl ⟨rfl,_,rfl⟩
theorem Qm (hs:SimH E H) {S:Nat→Prop} (b5: ∀c,E.dx c→S c) {b s:Nat} {ws:List aI}
  (hb:H[b]?=some ⟨0,5,cd s ws (List.range ws.length)⟩) (hf: ∀(i:Nat) (h:aI),ws[i]?=some h→H[i+s]?=some (cj h.aF)) (dR:ws.length≤4611686018427387904) (pH: ∀h∈ws,h.aF.length≤4611686018427387904) {v:Value} (h:be E (.ref b 0 0 ws.length false) v):
  ∃A cap,v= .slice A ws.length cap∧(0<ws.length→E.m b=some (some (c7 E b)))∧(∀(i:Nat) (h:aI),ws[i]?=some h→0<h.aF.length→E.m (i+s)=some (some (c7 E (i+s))))∧cD E.w S (.l .held) 0 0 (b2 (fun i=>b2 (jc E ws b s i) 5) ws.length) v:=by
 have aJ:E.aE b=0:=hs.cS b _ hb
 obtain⟨A,cap,rfl,c2,bG⟩:=Gw aJ h
 by_cases af:0<ws.length
 ·obtain⟨hm,rfl⟩:=bG af
  obtain⟨blk,ad,ty,h1,h2,ao,a8,cw,cZ⟩:=hs.heap b _ hm
  rw[hb] at h1
  cases h1
  have h2:E.sz b=5:=h2
  rw[h2] at cZ
  have di: ∀i (hi:i<ws.length),(cd s ws (List.range ws.length))[i]?=some (hB s ws[i] i):=fun i hi=>by
   unfold cd
   rw[List.getElem?_zipWith,List.getElem?_eq_getElem hi,List.getElem?_range hi]
  have aF: ∀i (hi:i<ws.length),∃u,ad[i*5+2]?=some u∧ ∃b9 iQ,u= .slice b9 ws[i].aF.length iQ∧(0<ws[i].aF.length→E.m (i+s)=some (some (c7 E (i+s))))∧cD E.w S (.l .bool) 0 0 (row (c7 E (i+s)) 0 true (ws[i].aF.length*1)) u:=fun i hi=>by
   obtain⟨u,hu,hv⟩:=cZ.2 i 2 _ _ (di i hi) rfl
   have hv:be E (.ref (i+s) 0 0 ws[i].aF.length false) u:=hv
   obtain⟨b9,iQ,aO,e2,cg⟩:=zt (e:= .bool) (κ:= .bool) (.inr ⟨rfl,rfl⟩) (q:=1) rfl hs b5 (hf i _ (List.getElem?_eq_getElem hi)) B6 (fun _=>rfl) (pH _ (List.getElem_mem hi)) hv
   exact⟨u,hu,b9,iQ,aO,e2,cg⟩
  have cell: ∀i j bf,i<ws.length→(aq.a6 .held)[j]?=some bf→ ∃u,ad[i*5+j]?=some u∧cD E.w S bf (c7 E b) (i*5+j) (jc E ws b s i j) u:=fun i j bf hi O=>by
   match j,O with
   | 0,O=>
    cases O
    obtain⟨u,hu,hv⟩:=cZ.2 i 0 _ _ (di i hi) rfl
    have hv:ar E.aW.w E.aW.PA E.aW.PF (.int .i64 ws[i].dW) u:=hv
    cases hv
    exact⟨_,hu,.int _ _ _⟩
   | 1,O=>
    cases O
    obtain⟨u,hu,hv⟩:=cZ.2 i 1 _ _ (di i hi) rfl
    have hv:ar E.aW.w E.aW.PA E.aW.PF (.int .i64 ws[i].cT) u:=hv
    cases hv
    exact⟨_,hu,.int _ _ _⟩
   | 2,O=>
    cases O
    obtain⟨u,hu,b9,iQ,aO,e2,cg⟩:=aF i hi
    refine⟨u,hu,?_⟩
    show cD E.w S (.l .bool) _ _ (row (c7 E (i+s)) 0 true (((ws[i]?).map fun h=>h.aF.length).getD 0*1)) u
    rw[List.getElem?_eq_getElem hi]
    exact cg.Gu _ _
   | 3,O=>
    cases O
    obtain⟨u,hu,hv⟩:=cZ.2 i 3 _ _ (di i hi) rfl
    have hv:ar E.aW.w E.aW.PA E.aW.PF (.bool ws[i].dV) u:=hv
    cases hv
    exact⟨_,hu,.bool _ _ _⟩
   | 4,O=>
    cases O
    obtain⟨u,hu,hv⟩:=cZ.2 i 4 _ _ (di i hi) rfl
    have hv:ar E.aW.w E.aW.PA E.aW.PF (.int .i64 ws[i].dX) u:=hv
    cases hv
    exact⟨_,hu,.int _ _ _⟩
   | j+5,O=>exact absurd O (by simp[aq.a6])
  refine⟨_,cap,rfl,fun _=>hm,fun i h hi=> ?_,.av (e:= .held) (Ls:=jc E ws b s) (vs:=fun i j=>(ad[i*5+j]?).getD undef) (c7 E b) 0 ⟨c2,dR⟩ (fun _=>⟨ad,ty,rfl,b5 _ ⟨b,hm⟩,ao,fun i j hi O=> ?_⟩) fun i j bf hi O=> ?_⟩
  ·obtain⟨q1,q2⟩:=List.getElem?_eq_some_iff.1 hi
   obtain⟨u,hu,b9,iQ,aO,e2,cg⟩:=aF i q1
   subst q2;exact e2
  ·obtain⟨u,hu,_⟩:=cell i j _ hi (List.getElem?_eq_getElem O)
   rw[show 0+(i*(aq.a6 .held).length+j)=i*5+j from by show 0+(i*5+j)=_;omega,hu];rfl
  ·obtain⟨u,hu,hk⟩:=cell i j bf hi O
   rw[show 0+(i*(aq.a6 .held).length+j)=i*5+j from by show 0+(i*5+j)=_;omega,hu]
   exact hk
 ·have an:ws.length=0:=by omega
  refine⟨A,cap,rfl,fun h=>absurd h af,fun i h hi=> ?_,?_⟩
  ·rw[List.eq_nil_of_length_eq_zero an] at hi;simp at hi
  ·rw[an]
   exact .av (e:= .held) (Ls:=jc E ws b s) (vs:=fun _ _=>undef) 0 0 ⟨Nat.zero_le _,Nat.zero_le _⟩ (fun h=>absurd h (by omega)) fun i gx bf hi _=>by omega
theorem zb (ws:List aI) (b s:Nat) (hb:0<ws.length→E.m b=some (some (c7 E b))) (hf: ∀(i:Nat) (h:aI),ws[i]?=some h→0<h.aF.length→E.m (i+s)=some (some (c7 E (i+s)))) {i:Nat} (hi:i<ws.length) {x:Nat×Nat×Bool} (hx:x∈b2 (jc E ws b s i) 5):
  (E.m b=some (some x.1)∧i*5≤x.2.1∧x.2.1<i*5+5)∨E.m (i+s)=some (some x.1):=by
 have cH:=hb (by omega)
 have key: ∀o,i*5≤o→o<i*5+5→ ∀ic,x∈[((c7 E b,o,ic):Nat×Nat×Bool)]→(E.m b=some (some x.1)∧i*5≤x.2.1∧x.2.1<i*5+5)∨E.m (i+s)=some (some x.1):=fun o h1 h2 ic h=>by
  obtain rfl:=List.mem_singleton.1 h
  exact .inl ⟨cH,h1,h2⟩
 obtain⟨j,O,hx⟩:=nl hx
 match j,O,hx with
 | 0,_,hx=>exact key _ (by omega) (by omega) _ hx
 | 1,_,hx=>exact key _ (by omega) (by omega) _ hx
 | 3,_,hx=>exact key _ (by omega) (by omega) _ hx
 | 4,_,hx=>exact key _ (by omega) (by omega) _ hx
 | 2,_,hx=>
  have hx:x∈row (c7 E (i+s)) 0 true (((ws[i]?).map fun h=>h.aF.length).getD 0*1):=hx
  rw[List.getElem?_eq_getElem hi] at hx
  have hx:x∈row (c7 E (i+s)) 0 true (ws[i].aF.length*1):=hx
  obtain⟨q,al,e⟩:=oP.1 hx
  have:=hf i _ (List.getElem?_eq_getElem hi) (by omega)
  subst e
  exact .inr this
theorem P3 (hs:SimH E H) {ws:List aI} {b s:Nat} (jr:b<s) (hb:0<ws.length→E.m b=some (some (c7 E b))) (hf: ∀(i:Nat) (h:aI),ws[i]?=some h→0<h.aF.length→E.m (i+s)=some (some (c7 E (i+s)))):ht (b2 (fun i=>b2 (jc E ws b s i) 5) ws.length):=by
 refine FC (fun i hi=> ?_) fun i gv hi kY bV x hx y ax e=> ?_
 ·have cH:=hb (by omega)
  have di: ∀x∈jc E ws b s i 2,E.m (i+s)=some (some x.1):=fun x hx=>by
   have hx:x∈row (c7 E (i+s)) 0 true (((ws[i]?).map fun h=>h.aF.length).getD 0*1):=hx
   rw[List.getElem?_eq_getElem hi] at hx
   have hx:x∈row (c7 E (i+s)) 0 true (ws[i].aF.length*1):=hx
   obtain⟨q,al,e⟩:=oP.1 hx
   subst e
   exact hf i _ (List.getElem?_eq_getElem hi) (by omega)
  have nb: ∀x∈jc E ws b s i 2,x.1≠c7 E b:=fun x hx e=>by
   have h1:=di x hx
   rw[e] at h1
   have:=hs.ee _ _ _ h1 cH
   omega
  have aO:b2 (jc E ws b s i) 5=[(c7 E b,i*5,false),(c7 E b,i*5+1,false)]++jc E ws b s i 2++[(c7 E b,i*5+3,true),(c7 E b,i*5+4,false)]:=by
   show(((((([]:cl)++_)++_)++_)++_)++_)=_
   show(((((([]:cl)++[(c7 E b,i*5,false)])++[(c7 E b,i*5+1,false)])++jc E ws b s i 2)++[(c7 E b,i*5+3,true)])++[(c7 E b,i*5+4,false)])=_
   simp only[List.append_assoc,List.nil_append,List.cons_append]
  rw[aO]
  refine List.pairwise_append.2 ⟨List.pairwise_append.2 ⟨?_,uP _ _ _ _,fun x hx y ax e=> ?_⟩,?_,fun x hx y ax e=> ?_⟩
  ·refine List.pairwise_cons.2 ⟨fun y ax e=> ?_,List.pairwise_singleton _ _⟩
   obtain rfl:=List.mem_singleton.1 ax
   have h2:i*5=i*5+1:=e.2
   omega
  ·refine nb y ax ?_
   rcases List.mem_cons.1 hx with rfl | hx
   ·exact e.1.symm
   ·obtain rfl:=List.mem_singleton.1 hx;exact e.1.symm
  ·refine List.pairwise_cons.2 ⟨fun y ax e=> ?_,List.pairwise_singleton _ _⟩
   obtain rfl:=List.mem_singleton.1 ax
   have h2:i*5+3=i*5+4:=e.2
   omega
  ·have Nd:y.1=c7 E b∧i*5+3≤y.2.1:=by
    rcases List.mem_cons.1 ax with rfl | ax
    ·exact⟨rfl,Nat.le_refl _⟩
    ·obtain rfl:=List.mem_singleton.1 ax;exact⟨rfl,by show _≤i*5+4;omega⟩
   rcases List.mem_append.1 hx with hx | hx
   ·have SY:x.2.1≤i*5+1:=by
     rcases List.mem_cons.1 hx with rfl | hx
     ·show i*5≤_;omega
     ·obtain rfl:=List.mem_singleton.1 hx;exact Nat.le_refl _
    have:=e.2
    omega
   ·exact nb x hx (e.1.trans Nd.1)
 ·rcases zb ws b s hb hf hi hx with⟨h1,h2,ao⟩ | h1<;>rcases zb ws b s hb hf kY ax with⟨df,fa,kp⟩ | df
  ·have:=e.2
   omega
  ·rw[←e.1] at df
   have:=hs.ee _ _ _ h1 df
   omega
  ·rw[←e.1] at df
   have:=hs.ee _ _ _ h1 df
   omega
  ·rw[←e.1] at df
   have:=hs.ee _ _ _ h1 df
   omega
end
theorem cD.yR {w:World} {S:Nat→Prop} {e:aq} {a b:Nat} {L:cl} {v:Value} (h:cD w S e a b L v): ∀x∈L,x.1=a∨S x.1:=by
 induction h with
 | int c o n=>intro x hx;rw[List.mem_singleton.1 hx];exact .inl rfl
 | bool c o b=>intro x hx;rw[List.mem_singleton.1 hx];exact .inl rfl
 | @av e a b n cap A Ls vs c o h1 hc aa aT=>
  intro x hx
  obtain⟨i,hi,hx⟩:=nl hx
  obtain⟨j,O,hx⟩:=nl hx
  obtain⟨ad,ty,_,b5,_⟩:=hc (by omega)
  rcases aT i j _ hi (List.getElem?_eq_getElem O) x hx with h | h
  ·rw[h];exact .inr b5
  ·exact .inr h
theorem cD.yP {w:World} {S:Nat→Prop} {e:aq} {a b:Nat} {L:cl} {v:Value} (h:cD w S (.l e) a b L v): ∀x∈L,S x.1:=by
 cases h with
 | @av _ _ _ _ _ _ Ls vs c o h1 hc aa=>
  intro x hx
  obtain⟨i,hi,hx⟩:=nl hx
  obtain⟨j,O,hx⟩:=nl hx
  obtain⟨ad,ty,_,b5,_⟩:=hc (by omega)
  rcases(aa i j _ hi (List.getElem?_eq_getElem O)).yR x hx with h | h
  ·rw[h];exact b5
  ·exact h
def hR (w:World) (S:Nat→Prop) (bp bq bk:Option Addr) (bo a1 bU aV n2 aQ:Nat) (L:cl):Prop:=
 ∃de dP eU,L=de++dP++eU∧cD w S (.l .bool) 0 0 de (.slice bp bo a1)∧cD w S (.l .eu) 0 0 dP (.slice bq bU aV)∧cD w S (.l .held) 0 0 eU (.slice bk n2 aQ)
theorem hR.b3 {w w':World} {S S':Nat→Prop} {bp bq bk:Option Addr} {bo a1 bU aV n2 aQ:Nat} {L:cl} (h:hR w S bp bq bk bo a1 bU aV n2 aQ L) (hk: ∀c,S c→w'.heap[c]?=w.heap[c]?) (hs: ∀c,S c→S' c):hR w' S' bp bq bk bo a1 bU aV n2 aQ L:=by
 obtain⟨de,dP,eU,rfl,aA,h1,h2⟩:=h
 exact⟨de,dP,eU,rfl,aA.b3 hk hs,h1.b3 hk hs,h2.b3 hk hs⟩
theorem hR.dj {w w':World} {S S':Nat→Prop} {bp bq bk:Option Addr} {bo a1 bU aV n2 aQ:Nat} {L:cl} (h:hR w S bp bq bk bo a1 bU aV n2 aQ L) (hk:cy S' w w'):hR w' S bp bq bk bo a1 bU aV n2 aQ L:=by
 obtain⟨de,dP,eU,rfl,aA,h1,h2⟩:=h
 exact⟨de,dP,eU,rfl,aA.dj hk,h1.dj hk,h2.dj hk⟩
theorem hR.yR {w:World} {S:Nat→Prop} {bp bq bk:Option Addr} {bo a1 bU aV n2 aQ:Nat} {L:cl} (h:hR w S bp bq bk bo a1 bU aV n2 aQ L): ∀x∈L,S x.1:=by
 obtain⟨de,dP,eU,rfl,aA,h1,h2⟩:=h
 intro x hx
 rcases List.mem_append.1 hx with hx | hx
 ·rcases List.mem_append.1 hx with hx | hx
  ·exact aA.yP x hx
  ·exact h1.yP x hx
 ·exact h2.yP x hx
theorem db.same {w w':World} {L:cl} {k:Int} {S:Nat→Prop} (h:db w L k) (aY: ∀x∈L,S x.1) (hk: ∀c,S c→w'.heap[c]?=w.heap[c]?):db w' L k:=
 h.b3 fun x hx _=>by simp only[World.cell?,hk _ (aY x hx)]
def k4 (lo hi:Nat) (a:AV) (v:Value) (bp bq bk:Option Addr) (bo a1 bU aV n2 aQ:Nat) (L:cl):dO where
 lo:=lo
 hi:=hi
 P:=fun w=>fj w (j9 w lo hi) a v∧hR w (j9 w lo hi) bp bq bk bo a1 bU aV n2 aQ L
 ac:=fun w w' h ab=>⟨ab.1.b3 (fun c hc=>h c hc.1 hc.2.1) fun c hc=>⟨hc.1,hc.2.1,hc.2.2.same (h c hc.1 hc.2.1)⟩,ab.2.b3 (fun c hc=>h c hc.1 hc.2.1) fun c hc=>⟨hc.1,hc.2.1,hc.2.2.same (h c hc.1 hc.2.1)⟩⟩
def yA (lo hi:Nat) (bp bq bk:Option Addr) (bo a1 bU aV n2 aQ:Nat) (L:cl) (k:Int):dO where
 lo:=lo
 hi:=hi
 P:=fun w=>hR w (j9 w lo hi) bp bq bk bo a1 bU aV n2 aQ L∧db w L k
 ac:=fun w w' h ab=>⟨ab.1.b3 (fun c hc=>h c hc.1 hc.2.1) fun c hc=>⟨hc.1,hc.2.1,hc.2.2.same (h c hc.1 hc.2.1)⟩,ab.2.same ab.1.yR fun c hc=>h c hc.1 hc.2.1⟩
theorem cx.own {W w w':World} {l:List dO} {a:AV} {v:Value} {bp bq bk:Option Addr} {bo a1 bU aV n2 aQ:Nat} {L:cl} (h:cx W w l) (hb:RowKit.Below w.heap.size w w') (aC:fj w' (dY w w') a v) (hf:hR w' (dY w w') bp bq bk bo a1 bU aV n2 aQ L):cx W w' (l++[k4 w.heap.size w'.heap.size a v bp bq bk bo a1 bU aV n2 aQ L]):=
 h.made hb (k4 w.heap.size w'.heap.size a v bp bq bk bo a1 bU aV n2 aQ L) rfl rfl ⟨aC,hf⟩
theorem k4.at {W w:World} {l:List dO} (h:cx W w l) (j:Nat) {lo hi:Nat} {a:AV} {v:Value} {bp bq bk:Option Addr} {bo a1 bU aV n2 aQ:Nat} {L:cl} (e:l[j]?=some (k4 lo hi a v bp bq bk bo a1 bU aV n2 aQ L):=by rfl):V2 (Env.at w) a v:=
 (h.get j e).1.at fun c hc=>Nat.lt_of_lt_of_le hc.2.1 (h.hi j e)
theorem cx.Qh {W w:World} {l:List dO} (h:cx W w l) (j:Nat) {lo hi:Nat} {a:AV} {v:Value} {bp bq bk:Option Addr} {bo a1 bU aV n2 aQ:Nat} {L:cl} (e:l[j]?=some (k4 lo hi a v bp bq bk bo a1 bU aV n2 aQ L)):hR w (j9 w lo hi) bp bq bk bo a1 bU aV n2 aQ L:=(h.get j e).2
theorem cx.Fx {W w:World} {l:List dO} (h:cx W w l) (j:Nat) {lo hi:Nat} {bp bq bk:Option Addr} {bo a1 bU aV n2 aQ:Nat} {L:cl} {k:Int} (e:l[j]?=some (yA lo hi bp bq bk bo a1 bU aV n2 aQ L k)):hR w (j9 w lo hi) bp bq bk bo a1 bU aV n2 aQ L∧db w L k:=h.get j e
theorem cx.Qj {W w w':World} {l:List dO} (h:cx W w l) (j:Nat) {lo hi:Nat} {a:AV} {v:Value} {bp bq bk:Option Addr} {bo a1 bU aV n2 aQ:Nat} {L:cl} {k:Int} (e:l[j]?=some (k4 lo hi a v bp bq bk bo a1 bU aV n2 aQ L)) (O:W.heap.size≤lo) (hm:eO w w' (j9 w lo hi) L k):cx W w' (l.set j (yA lo hi bp bq bk bo a1 bU aV n2 aQ L k)):=
 h.mark j (k4 lo hi a v bp bq bk bo a1 bU aV n2 aQ L) e O (fun c hc=>⟨hc.1,hc.2.1⟩) hm.dj (yA lo hi bp bq bk bo a1 bU aV n2 aQ L k) rfl rfl ⟨(((h.get j e).2.dj hm.dj).b3 (fun _ _=>rfl) hm.dj.pl),hm.nn⟩
theorem Sa {e:aq} {x:e.T} {w:World} {H':List Blk} {E':Env} {r:AV} {v:Value} (hs:SimH E' H') (aa:iy H' r (jK e x)) (hv:V3 E' r v) (gh: ∀c,E'.PF c∨E'.dx c→dY w E'.w c):fj E'.w (dY w E'.w) (tA e x) v:=by
 have hl:V3 {Env.ro E'.w (dY w E'.w) with PF:=dY w E'.w} (jK e x) v:=Ag (E':={Env.ro E'.w (dY w E'.w) with PF:=dY w E'.w}) hs rfl (fun c hc=>⟨gh c hc,gh c hc⟩) aa hv
 unfold tA
 unfold jK at hl
 cases b5:e.isS with
 | true=>
  rw[b5] at hl
  obtain⟨dh,rfl,ab⟩:=(show ∃dh:List Value,v= .agg dh.toArray∧aw (be _) (bD true e x) dh from hl)
  refine⟨dh,rfl,?_⟩
  rw[←jo] at ab ⊢
  exact AF (fun _ h=>h) (fun _ h=>h) (vH ab)
 | false=>
  rw[b5] at hl
  have hl:V3 {Env.ro E'.w (dY w E'.w) with PF:=dY w E'.w} (gf true e x) v:=hl
  have h1:be {Env.ro E'.w (dY w E'.w) with PF:=dY w E'.w} (gf true e x) v:=by cases e<;>first | exact hl | cases b5
  have:=ar.fO (B:=dY w E'.w) (fun _ h=>h) (fun _ h=>h) (AI h1)
  exact h_ (ar.v1 (E:=Env.ro E'.w (dY w E'.w)) this)
theorem Qn {E:Env} {F:Frame} (hs:SimH E (u2 F)) {S:Nat→Prop} (b5: ∀c,E.dx c→S c) (dR:F.bM.length≤4611686018427387904∧F.bP.length≤4611686018427387904∧F.U.length≤4611686018427387904∧ ∀h∈F.U,h.aF.length≤4611686018427387904) {v0 v1 v2:Value}
  (aA:be E (.ref 0 0 0 F.bM.length false) v0) (h1:be E (.ref 1 0 0 F.bP.length false) v1) (h2:be E (.ref 2 0 0 F.U.length false) v2):
  ∃bp a1 bq aV bk aQ L,v0= .slice bp F.bM.length a1∧v1= .slice bq F.bP.length aV∧v2= .slice bk F.U.length aQ∧hR E.w S bp bq bk F.bM.length a1 F.bP.length aV F.U.length aQ L∧ht L∧L.length=F.bM.length+F.bP.length*2+(F.U.map fun h=>4+h.aF.length).sum:=by
 have hf: ∀(i:Nat) (h:aI),F.U[i]?=some h→(u2 F)[i+3]?=some (cj h.aF):=fun i h e=>by
  show(List.map cj (List.map aI.aF F.U))[i]?=_
  rw[List.getElem?_map,List.getElem?_map,e];rfl
 obtain⟨bp,a1,rfl,au,cX⟩:=zt (e:= .bool) (κ:= .bool) (.inr ⟨rfl,rfl⟩) (q:=1) rfl hs b5 (j:=0) (xs:=F.bM) rfl B6 (fun _=>rfl) dR.1 aA
 obtain⟨bq,aV,rfl,a7,s1⟩:=zt (e:= .eu) (κ:= .int) (.inl ⟨rfl,rfl⟩) (q:=2) rfl hs b5 (j:=1) (xs:=F.bP) rfl J5 (fun _=>rfl) dR.2.1 h1
 obtain⟨bk,aQ,rfl,bO,ef,s2⟩:=Qm hs b5 (b:=2) (s:=3) (ws:=F.U) rfl hf dR.2.2.1 dR.2.2.2 h2
 refine⟨bp,a1,bq,aV,bk,aQ,_,rfl,rfl,rfl,⟨_,_,_,rfl,cX,s1,s2⟩,?_,?_⟩
 ·have i0: ∀x∈row (c7 E 0) 0 true (F.bM.length*1),E.m 0=some (some x.1):=fun x hx=>by
   obtain⟨i,hi,rfl⟩:=oP.1 hx
   exact au (by omega)
  have i1: ∀x∈row (c7 E 1) 0 false (F.bP.length*2),E.m 1=some (some x.1):=fun x hx=>by
   obtain⟨i,hi,rfl⟩:=oP.1 hx
   exact a7 (by omega)
  have i2: ∀x∈b2 (fun i=>b2 (jc E F.U 2 3 i) 5) F.U.length,∃j,2≤j∧E.m j=some (some x.1):=fun x hx=>by
   obtain⟨i,hi,hx⟩:=nl hx
   rcases zb F.U 2 3 bO ef hi hx with⟨h,_⟩ | h
   ·exact⟨2,by omega,h⟩
   ·exact⟨i+3,by omega,h⟩
  refine List.pairwise_append.2 ⟨List.pairwise_append.2 ⟨uP _ _ _ _,uP _ _ _ _,fun x hx y ax e=> ?_⟩,P3 hs (by omega) bO ef,fun x hx y ax e=> ?_⟩
  ·have h1:=i0 x hx
   have h2:=i1 y ax
   rw[←e.1] at h2
   have:=hs.ee _ _ _ h1 h2
   omega
  ·obtain⟨j,O,h2⟩:=i2 y ax
   rw[←e.1] at h2
   rcases List.mem_append.1 hx with hx | hx
   ·have:=hs.ee _ _ _ (i0 x hx) h2
    omega
   ·have:=hs.ee _ _ _ (i1 x hx) h2
    omega
 ·rw[List.length_append,List.length_append,mM,mM,Nat.mul_one]
  congr 1
  have key: ∀n,n≤F.U.length→(b2 (fun i=>b2 (jc E F.U 2 3 i) 5) n).length=((F.U.take n).map fun h=>4+h.aF.length).sum:=fun n=>by
   induction n with
   | zero=>intro _;rfl
   | succ n aT=>
    intro af
    show(b2 (fun i=>b2 (jc E F.U 2 3 i) 5) n++b2 (jc E F.U 2 3 n) 5).length=_
    rw[List.length_append,aT (by omega),List.take_add_one,List.getElem?_eq_getElem (by omega:n<F.U.length),List.map_append,List.sum_append]
    congr 1
    show((((([]:cl)++[_])++[_])++row (c7 E (n+3)) 0 true (((F.U[n]?).map fun h:aI=>h.aF.length).getD 0*1))++[_]++[_]).length=_
    rw[List.getElem?_eq_getElem (by omega:n<F.U.length)]
    simp only[List.length_append,List.length_cons,List.length_nil,mM,Option.map_some,Option.getD_some,Option.toList,List.map_cons,List.map_nil,List.sum_cons,List.sum_nil]
    omega
  have:=key F.U.length (Nat.le_refl _)
  rw[List.take_length] at this
  exact this
open Go Go.RowKit
set_option maxHeartbeats 1000000
set_option maxRecDepth 100000
theorem HE:we Try.prog 85 (.l .bool):=fun w S L v k h hD aA h1=>by
  obtain⟨A,n,cap,rfl⟩:=h.ju
  obtain⟨mu,c,o,bG,rfl,hc⟩:=h.flat (.inr ⟨rfl,rfl⟩) (q:=1) rfl
  rw[mM] at h1 ⊢
  have h2:k+n≤4611686018427387904:=by omega
  have aa:(Ending.returned (.int .i64 (k+n)):Ending)= .returned (.int .i64 (k+((n*1:Nat):Int))):=by congr 2;omega
  rw[←aa]
  by_cases af:0<n
  · obtain⟨b5,ad,ty,aX,an,hu⟩:=hc af
    refine(uK A c o n cap k w ad ty (fun _=>⟨bG af,aX,by have:=an (by omega);omega⟩) aA h2).mono ?_
    rintro e w' ⟨rfl,hm⟩
    refine⟨rfl,?_⟩
    rw[Nat.mul_one] at an hu ⊢
    exact .uW hm (fun i=>rfl) (fun _=>⟨b5,ad,ty,aX,an (by omega),hu⟩) (fun e=>by omega)
  · obtain rfl:n=0:=by omega
    refine(uK A w.heap.size 0 0 cap k w #[] 0 (fun h=>absurd h af) aA h2).mono ?_
    rintro e w' ⟨rfl,hm⟩
    exact⟨rfl,show eO w w' S (row w.heap.size 0 true 0) k from eO.uW (m:=0) hm (fun i=>rfl) (fun h=>by omega) (fun _=>rfl)⟩
theorem R4:we Try.prog 86 (.l .eu):=fun w S L v k h hD aA h1=>by
  obtain⟨A,n,cap,rfl⟩:=h.ju
  obtain⟨mu,c,o,bG,rfl,hc⟩:=h.flat (.inl ⟨rfl,rfl⟩) (q:=2) rfl
  rw[mM] at h1 ⊢
  have h2:k+2*n≤4611686018427387904:=by omega
  have aa:(Ending.returned (.int .i64 (k+2*n)):Ending)= .returned (.int .i64 (k+((n*2:Nat):Int))):=by congr 2;omega
  rw[←aa]
  by_cases af:0<n
  · obtain⟨b5,ad,ty,aX,an,hu⟩:=hc af
    refine(Fq A c o n cap k w ad ty (fun _=>⟨bG af,aX,by have:=an (by omega);omega⟩) aA h2).mono ?_
    rintro e w' ⟨rfl,hm⟩
    refine⟨rfl,?_⟩
    skip
    exact .uW hm (fun i=>rfl) (fun _=>⟨b5,ad,ty,aX,an (by omega),hu⟩) (fun e=>by omega)
  · obtain rfl:n=0:=by omega
    refine(Fq A w.heap.size 0 0 cap k w #[] 0 (fun h=>absurd h af) aA h2).mono ?_
    rintro e w' ⟨rfl,hm⟩
    exact⟨rfl,show eO w w' S (row w.heap.size 0 false 0) k from eO.uW (m:=0) hm (fun i=>rfl) (fun h=>by omega) (fun _=>rfl)⟩
theorem R3:we Try.prog 87 (.l .held):=fun w S L v k h hD aA h1=>by
  obtain⟨A,n,cap,rfl⟩:=h.ju
  obtain⟨mu,c,o,Ls,bG,rfl,ak,hi,hb⟩:=h.elem
  have H1:Hid (k+((b2 (fun i=>b2 (Ls i) 5) n).length:Nat)≤4611686018427387904):=h1
  have qJ:Hid (ht (b2 (fun i=>b2 (Ls i) 5) n)):=hD
  have gE:=Lib.hid bG;clear bG
  have bR:=Lib.hid ak;clear ak
  have nM:=Lib.hid hi;clear hi
  have vT:=Lib.hid hb;clear hb
  clear h h1 hD
  show Calls _ _ _ _ fun fK w'=>fK= .returned (.int .i64 (k+((b2 (fun i=>b2 (Ls i) 5) n).length:Nat)))∧eO w w' S (b2 (fun i=>b2 (Ls i) 5) n) k
  go_enter Try.func87,Try.ntmps87
  go_wp2
  go_loopw [1,5] (fun q i wr=> ∃j:Nat,j≤n∧i= .int .i64 j∧q= .int .i64 (k+((b2 (fun i=>b2 (Ls i) 5) j).length:Nat))∧eO w wr S (b2 (fun i=>b2 (Ls i) 5) j) k) (fun _ i _=>n - (intOf i).toNat)
  case atStart=>exact⟨0,Nat.zero_le _,rfl,by simp[b2],.nil _ _ _⟩
  case round=>
    obtain⟨j,O,rfl,rfl,hm⟩:=hrel
    have dF:=Lib.hid hm;clear hm
    by_cases ay:j<n
    · obtain rfl:=gE.out (by omega)
      obtain⟨iB,o8⟩:=nM.out j 0 ay rfl
      rw[show o+(j*(aq.a6 .held).length+0)=o+j*5 from by show o+(j*5+0)=_;omega] at iB o8
      have o8:=Lib.hid o8
      obtain⟨aO,qH⟩:=nM.out j 1 ay rfl
      rw[show o+(j*(aq.a6 .held).length+1)=o+j*5+1 from by show o+(j*5+1)=_;omega] at aO qH
      have qH:=Lib.hid qH
      obtain⟨eH,qI⟩:=nM.out j 4 ay rfl
      rw[show o+(j*(aq.a6 .held).length+4)=o+j*5+4 from by show o+(j*5+4)=_;omega] at eH qI
      have qI:=Lib.hid qI
      obtain⟨cg,sF⟩:=vT.out j 3 ay rfl
      rw[show o+(j*(aq.a6 .held).length+3)=o+j*5+3 from by show o+(j*5+3)=_;omega] at cg sF
      have sF:=Lib.hid sF
      obtain⟨bk,n2,aQ,hW⟩:=bR.out j 2 .bool ay rfl
      rw[show o+(j*(aq.a6 .held).length+2)=o+j*5+2 from by show o+(j*5+2)=_;omega] at hW
      have aC:b2 (fun i=>b2 (Ls i) 5) (j+1)=b2 (fun i=>b2 (Ls i) 5) j++[(c,o+j*5,false)]++[(c,o+j*5+1,false)]++Ls j 2++[(c,o+j*5+3,true)]++[(c,o+j*5+4,false)]:=by
        show _++(((((([]:cl)++Ls j 0)++Ls j 1)++Ls j 2)++Ls j 3)++Ls j 4)=_
        rw[iB,aO,cg,eH];simp only[List.append_assoc,List.nil_append]
      obtain⟨P,fC⟩: ∃P,b2 (fun i=>b2 (Ls i) 5) j=P:=⟨_,rfl⟩
      obtain⟨gF,n8⟩: ∃gF,Ls j 2=gF:=⟨_,rfl⟩
      obtain⟨r,aa⟩:=wQ (f:=fun i=>b2 (Ls i) 5) (n:=n) (j:=j+1) (by omega)
      have kh:=qJ.out
      have h1:k+((b2 (fun i=>b2 (Ls i) 5) n).length:Nat)≤4611686018427387904:=H1.out
      have sR:Hid (eO w wr S P k):=fC▸dF.out
      rw[fC,n8] at aC
      rw[n8] at hW
      rw[aa,aC] at kh h1
      have f_:=Lib.hid hW;clear hW
      have jl:=Lib.hid aC;clear aC
      have pc:=Lib.hid kh.left;clear kh
      rw[List.length_append,List.length_append,List.length_append,List.length_append,List.length_append,List.length_append] at h1
      obtain⟨y,ax⟩: ∃y:Int,k+(P.length:Nat)=y:=⟨_,rfl⟩
      obtain⟨bO,kj⟩: ∃bO:Nat,gF.length=bO:=⟨_,rfl⟩
      have m6:k+(P.length+1+1+gF.length+1+1:Nat)≤4611686018427387904:=by
        simp only[List.length_cons,List.length_nil] at h1
        omega
      have Nb:0≤y:=by omega
      have uu:y+bO+4≤4611686018427387904:=by omega
      have ls:Hid (k+((P++[(c,o+j*5,false)]).length:Nat)=y+1):=by unfold Hid;rw[List.length_append,List.length_singleton];omega
      have lu:Hid (k+((P++[(c,o+j*5,false)]++[(c,o+j*5+1,false)]).length:Nat)=y+1+1):=by unfold Hid;rw[List.length_append,List.length_append,List.length_singleton,List.length_singleton];omega
      have Iv:Hid (k+((P++[(c,o+j*5,false)]++[(c,o+j*5+1,false)]++gF).length:Nat)=y+1+1+bO):=by unfold Hid;rw[List.length_append,List.length_append,List.length_append,List.length_singleton,List.length_singleton];omega
      have Iw:Hid (k+((P++[(c,o+j*5,false)]++[(c,o+j*5+1,false)]++gF++[(c,o+j*5+3,true)]).length:Nat)=y+1+1+bO+1):=by unfold Hid;rw[List.length_append,List.length_append,List.length_append,List.length_append,List.length_singleton,List.length_singleton,List.length_singleton];omega
      have wq:Hid (k+((P++[(c,o+j*5,false)]++[(c,o+j*5+1,false)]++gF++[(c,o+j*5+3,true)]++[(c,o+j*5+4,false)]).length:Nat)=y+1+1+bO+1+1):=by unfold Hid;rw[List.length_append,List.length_append,List.length_append,List.length_append,List.length_append,List.length_singleton,List.length_singleton,List.length_singleton,List.length_singleton];omega
      have lr:=Lib.hid ax
      rw[fC,ax]
      have h8:Hid (0≤y+1+1∧y+1+1+(gF.length:Nat)≤4611686018427387904):=by unfold Hid;omega
      have wc:=Lib.hid kj
      clear h1 m6 aa iB aO cg eH ax kj dF fC n8
      obtain⟨pT,rC,kH⟩:=o8.out wr sR.out.dj
      obtain⟨km,rD,_⟩:=qH.out wr sR.out.dj
      obtain⟨nd,_⟩:=f_.out wr sR.out.dj
      have Ba:Hid (eO w (wr.setCell ⟨c,o+j*5,none⟩ (.int .i64 y)) S (P++[(c,o+j*5,false)]) k):=sR.out.snoc pT (kH y) pc.out.left.left.left.left (by rw[lr.out];rfl)
      have Bb:Hid (eO w ((wr.setCell ⟨c,o+j*5,none⟩ (.int .i64 y)).setCell ⟨c,o+j*5+1,none⟩ (.int .i64 (y+1))) S (P++[(c,o+j*5,false)]++[(c,o+j*5+1,false)]) k):=by
        obtain⟨g0,g1,j7⟩:=qH.out _ Ba.out.dj
        exact Ba.out.snoc g0 (j7 (y+1)) pc.out.left.left.left (by rw[ls.out];rfl)
      obtain⟨vE,pT⟩:=pT
      obtain⟨vF,km⟩:=km
      clear kH
      go_wp2_with (go_at_call 85;refine(HE _ S gF _ _ (f_.out _ Bb.out.dj).2 pc.out.left.left.right h8.out.1 h8.out.2).mono ?_)
      rw[wc.out]
      first
      | (rintro e bX rfl hb)
      | (rintro e bX ⟨rfl,hb⟩)
      have wk:Hid (eO w bX S (P++[(c,o+j*5,false)]++[(c,o+j*5+1,false)]++gF) k):=Bb.out.b2 hb pc.out.left.left lu.out.symm
      clear hb pT rC km rD nd
      obtain⟨yu,SP,A9⟩:=sF.out bX wk.out.dj
      obtain⟨DB,SQ,_⟩:=qI.out bX wk.out.dj
      have Bc:Hid (eO w (bX.setCell ⟨c,o+j*5+3,none⟩ (.bool ((y+1+1+bO)%3==0))) S (P++[(c,o+j*5,false)]++[(c,o+j*5+1,false)]++gF++[(c,o+j*5+3,true)]) k):=wk.out.snoc yu (A9 _) pc.out.left (by rw[Iv.out];rfl)
      have Il:Hid (eO w ((bX.setCell ⟨c,o+j*5+3,none⟩ (.bool ((y+1+1+bO)%3==0))).setCell ⟨c,o+j*5+4,none⟩ (.int .i64 (y+1+1+bO+1))) S (P++[(c,o+j*5,false)]++[(c,o+j*5+1,false)]++gF++[(c,o+j*5+3,true)]++[(c,o+j*5+4,false)]) k):=by
        obtain⟨g0,g1,Ie⟩:=qI.out _ Bc.out.dj
        exact Bc.out.snoc g0 (Ie _) pc.out (by rw[Iw.out];rfl)
      obtain⟨S4,yu⟩:=yu
      obtain⟨S5,DB⟩:=DB
      clear A9
      go_wp2
      go_roundw
      case rel=>exact⟨j+1,by omega,by go_num,by rw[jl.out,wq.out],by rw[jl.out];exact Il.out⟩
      case measure=>simp[intOf];omega
    · have e:j=n:=by omega
      subst e
      go_wp2
      go_ret
      exact⟨rfl,dF.out⟩
open Go Go.RowKit
theorem BA (b:Bool):(b !=b)=false:=by cases b<;>rfl
theorem Mk (A:Option Addr) (c o n cap:Nat) (k:Int) (w:World) (bG:0<n→A=some ⟨c,o,none⟩) (hv: ∀i:Nat,i<n→w.cell? ⟨c,o+i,none⟩=some (.bool ((k+i)%3==0))) (aA:0≤k) (h1:k+n≤4611686018427387904):
    Calls Try.prog 88 #[.slice A n cap,.int .i64 k] w fun e w'=>e= .returned (.int .i64 (k+n))∧w'=w:=by
  have gE:=Lib.hid bG;clear bG
  replace hv:=Lib.hid hv
  go_enter Try.func88,Try.ntmps88
  go_wp2
  go_loopw [1,5] (fun q i wr=> ∃j:Nat,j≤n∧i= .int .i64 j∧q= .int .i64 (k+j)∧wr=w) (fun _ i _=>n - (intOf i).toNat)
  case atStart=>exact⟨0,Nat.zero_le _,rfl,by simp,rfl⟩
  case round=>
    obtain⟨j,O,rfl,rfl,rfl⟩:=hrel
    by_cases ay:j<n
    · obtain rfl:=gE.out (by omega)
      have Ib:=hv.out j ay
      have pa: ∀b:Bool,(b !=b)=false:=BA
      go_wp2
      go_roundw
      case rel=>exact⟨j+1,by omega,by go_num,by go_num,trivial⟩
      case measure=>simp[intOf];omega
    · have e:j=n:=by omega
      subst e
      go_wp2
      go_ret
      exact⟨rfl,rfl⟩
theorem Ml (A:Option Addr) (c o n cap:Nat) (k:Int) (w:World) (bG:0<n→A=some ⟨c,o,none⟩) (hv: ∀i:Nat,i<n→w.cell? ⟨c,o+i*2,none⟩=some (.int .i64 (k+2*i))∧w.cell? ⟨c,o+i*2+1,none⟩=some (.int .i64 (k+2*i+1))) (aA:0≤k) (h1:k+2*n≤4611686018427387904):
    Calls Try.prog 89 #[.slice A n cap,.int .i64 k] w fun e w'=>e= .returned (.int .i64 (k+2*n))∧w'=w:=by
  have gE:=Lib.hid bG;clear bG
  replace hv:=Lib.hid hv
  go_enter Try.func89,Try.ntmps89
  go_wp2
  go_loopw [1,5] (fun q i wr=> ∃j:Nat,j≤n∧i= .int .i64 j∧q= .int .i64 (k+2*j)∧wr=w) (fun _ i _=>n - (intOf i).toNat)
  case atStart=>exact⟨0,Nat.zero_le _,rfl,by simp,rfl⟩
  case round=>
    obtain⟨j,O,rfl,rfl,rfl⟩:=hrel
    by_cases ay:j<n
    · obtain rfl:=gE.out (by omega)
      obtain⟨Ib,SF⟩:=hv.out j ay
      have pa: ∀b:Bool,(b !=b)=false:=BA
      go_wp2
      go_roundw
      case rel=>exact⟨j+1,by omega,by go_num,by go_num,trivial⟩
      case measure=>simp[intOf];omega
    · have e:j=n:=by omega
      subst e
      go_wp2
      go_ret
      exact⟨rfl,rfl⟩
theorem Da:wa Try.prog 88 (.l .bool):=fun w S L v k h hm aA h1=>by
  obtain⟨A,n,cap,rfl⟩:=h.ju
  obtain⟨mu,c,o,bG,rfl,hc⟩:=h.flat (.inr ⟨rfl,rfl⟩) (q:=1) rfl
  rw[mM] at h1 ⊢
  have h2:k+n≤4611686018427387904:=by omega
  have aa:(Ending.returned (.int .i64 (k+n)):Ending)= .returned (.int .i64 (k+((n*1:Nat):Int))):=by congr 2;omega
  rw[←aa]
  have hv:=db.row.1 hm
  refine(Mk A c o n cap k w bG (fun i hi=>hv i (by omega)) aA h2).mono ?_
  rintro e w' ⟨rfl,rfl⟩
  exact⟨rfl,.refl _ _⟩
theorem Mh:wa Try.prog 89 (.l .eu):=fun w S L v k h hm aA h1=>by
  obtain⟨A,n,cap,rfl⟩:=h.ju
  obtain⟨mu,c,o,bG,rfl,hc⟩:=h.flat (.inl ⟨rfl,rfl⟩) (q:=2) rfl
  rw[mM] at h1 ⊢
  have h2:k+2*n≤4611686018427387904:=by omega
  have aa:(Ending.returned (.int .i64 (k+2*n)):Ending)= .returned (.int .i64 (k+((n*2:Nat):Int))):=by congr 2;omega
  rw[←aa]
  have hv:=db.row.1 hm
  refine(Ml A c o n cap k w bG (fun i hi=>⟨(hv (i*2) (by omega)).trans (by show some (Value.int .i64 (k+((i*2:Nat):Int)))=_;congr 2;omega),(by rw[Nat.add_assoc];exact(hv (i*2+1) (by omega)).trans (by show some (Value.int .i64 (k+((i*2+1:Nat):Int)))=_;congr 2;omega))⟩) aA h2).mono ?_
  rintro e w' ⟨rfl,rfl⟩
  exact⟨rfl,.refl _ _⟩
theorem Mg:wa Try.prog 90 (.l .held):=fun w S L v k h Dp aA h1=>by
  obtain⟨A,n,cap,rfl⟩:=h.ju
  obtain⟨mu,c,o,Ls,bG,rfl,ak,hi,hb⟩:=h.elem
  have H1:Hid (k+((b2 (fun i=>b2 (Ls i) 5) n).length:Nat)≤4611686018427387904):=h1
  have qJ:Hid (db w (b2 (fun i=>b2 (Ls i) 5) n) k):=Dp
  have gE:=Lib.hid bG;clear bG
  have bR:=Lib.hid ak;clear ak
  have nM:=Lib.hid hi;clear hi
  have vT:=Lib.hid hb;clear hb
  clear h h1 Dp
  show Calls _ _ _ _ fun fK w'=>fK= .returned (.int .i64 (k+((b2 (fun i=>b2 (Ls i) 5) n).length:Nat)))∧Below w.heap.size w w'
  go_enter Try.func90,Try.ntmps90
  go_wp2
  go_loopw [1,5] (fun q i wr=> ∃j:Nat,j≤n∧i= .int .i64 j∧q= .int .i64 (k+((b2 (fun i=>b2 (Ls i) 5) j).length:Nat))∧Below w.heap.size w wr) (fun _ i _=>n - (intOf i).toNat)
  case atStart=>exact⟨0,Nat.zero_le _,rfl,by simp[b2],.refl _ _⟩
  case round=>
    obtain⟨j,O,rfl,rfl,hm⟩:=hrel
    have dF:=Lib.hid hm;clear hm
    by_cases ay:j<n
    · obtain rfl:=gE.out (by omega)
      obtain⟨iB,-⟩:=nM.out j 0 ay rfl
      rw[show o+(j*(aq.a6 .held).length+0)=o+j*5 from by show o+(j*5+0)=_;omega] at iB
      obtain⟨aO,-⟩:=nM.out j 1 ay rfl
      rw[show o+(j*(aq.a6 .held).length+1)=o+j*5+1 from by show o+(j*5+1)=_;omega] at aO
      obtain⟨eH,-⟩:=nM.out j 4 ay rfl
      rw[show o+(j*(aq.a6 .held).length+4)=o+j*5+4 from by show o+(j*5+4)=_;omega] at eH
      obtain⟨cg,-⟩:=vT.out j 3 ay rfl
      rw[show o+(j*(aq.a6 .held).length+3)=o+j*5+3 from by show o+(j*5+3)=_;omega] at cg
      obtain⟨bk,n2,aQ,hW⟩:=bR.out j 2 .bool ay rfl
      rw[show o+(j*(aq.a6 .held).length+2)=o+j*5+2 from by show o+(j*5+2)=_;omega] at hW
      have aC:b2 (fun i=>b2 (Ls i) 5) (j+1)=b2 (fun i=>b2 (Ls i) 5) j++([(c,o+j*5,false),(c,o+j*5+1,false)]++(Ls j 2++[(c,o+j*5+3,true),(c,o+j*5+4,false)])):=by
        show _++(((((([]:cl)++Ls j 0)++Ls j 1)++Ls j 2)++Ls j 3)++Ls j 4)=_
        rw[iB,aO,cg,eH];simp only[List.append_assoc,List.nil_append,List.cons_append]
      obtain⟨P,fC⟩: ∃P,b2 (fun i=>b2 (Ls i) 5) j=P:=⟨_,rfl⟩
      obtain⟨gF,n8⟩: ∃gF,Ls j 2=gF:=⟨_,rfl⟩
      obtain⟨r,aa⟩:=wQ (f:=fun i=>b2 (Ls i) 5) (n:=n) (j:=j+1) (by omega)
      have kh:=qJ.out
      have h1:k+((b2 (fun i=>b2 (Ls i) 5) n).length:Nat)≤4611686018427387904:=H1.out
      rw[fC,n8] at aC
      rw[n8] at hW
      rw[aa,aC] at kh h1
      have f_:=Lib.hid hW;clear hW
      have jl:=Lib.hid aC;clear aC
      obtain⟨y,ax⟩: ∃y:Int,k+(P.length:Nat)=y:=⟨_,rfl⟩
      obtain⟨bO,kj⟩: ∃bO:Nat,gF.length=bO:=⟨_,rfl⟩
      have kh:=(db.lx.1 (db.lx.1 kh).1).2
      rw[ax] at kh
      obtain⟨⟨d0,d1,-⟩,kh⟩:=db.lx.1 kh
      obtain⟨d2,d3,d4,-⟩:=db.lx.1 kh
      rw[show(([(c,o+j*5,false),(c,o+j*5+1,false)]:cl).length:Nat)=2 from rfl] at d2 d3 d4
      rw[kj] at d3 d4
      have m6:k+(P.length+2+gF.length+2:Nat)≤4611686018427387904:=by
        simp only[List.length_append,List.length_cons,List.length_nil] at h1
        omega
      have Nb:0≤y:=by omega
      have uu:y+bO+4≤4611686018427387904:=by omega
      have hX:=tj d0
      have ff:w.cell? ⟨c,o+j*5,none⟩=some (.int .i64 y):=d0
      have cL:w.cell? ⟨c,o+j*5+1,none⟩=some (.int .i64 (y+1)):=d1
      have ez:w.cell? ⟨c,o+j*5+3,none⟩=some (.bool ((y+1+1+bO)%3==0)):=by
        refine d3.trans ?_
        show some (Value.bool ((y+(2:Nat)+bO)%3==0))=_
        rw[show y+((2:Nat):Int)=y+1+1 by omega]
      have kx:w.cell? ⟨c,o+j*5+4,none⟩=some (.int .i64 (y+1+1+bO+1)):=by
        refine d4.trans ?_
        show some (Value.int .i64 (y+(2:Nat)+bO+1))=_
        rw[show y+((2:Nat):Int)=y+1+1 by omega]
      have Ij:=Lib.hid ez;clear ez
      have Ik:=Lib.hid kx;clear kx
      have vP:Hid (db w gF (y+1+1)):=by rw[show y+((2:Nat):Int)=y+1+1 by omega] at d2;exact d2
      have wq:Hid (k+((P++([(c,o+j*5,false),(c,o+j*5+1,false)]++(gF++[(c,o+j*5+3,true),(c,o+j*5+4,false)]))).length:Nat)=y+1+1+bO+1+1):=by
        unfold Hid;simp only[List.length_append,List.length_cons,List.length_nil];omega
      rw[fC,ax]
      have h8:Hid (0≤y+1+1∧y+1+1+(gF.length:Nat)≤4611686018427387904):=by unfold Hid;omega
      have wc:=Lib.hid kj
      have A0:=Lib.hid hX
      have bJ:wr.cell? ⟨c,o+j*5,none⟩=some (.int .i64 y):=by simp only[World.cell?,dF.out.block c hX];exact ff
      have q1:wr.cell? ⟨c,o+j*5+1,none⟩=some (.int .i64 (y+1)):=by simp only[World.cell?,dF.out.block c hX];exact cL
      obtain⟨q2,_⟩:=f_.out wr (cy.below dF.out)
      have g1:decide (y+1+1+(bO:Int)<0)=false:=decide_eq_false (by omega)
      clear h1 m6 aa iB aO cg eH ax kj fC n8 ff cL d0 d1 d2 d3 d4 kh hX
      go_wp2_with (go_at_call 88;refine(Da _ S gF _ _ (f_.out _ (cy.below dF.out)).2 (vP.out.b3 fun x hx ⟨u,hu⟩=>by simp only[World.cell?,dF.out.block _ (tj hu)]) h8.out.1 h8.out.2).mono ?_)
      rw[wc.out]
      first
      | (rintro e bX rfl hb)
      | (rintro e bX ⟨rfl,hb⟩)
      have vZ:=Lib.hid (dF.out.trans (hb.mono dF.out.size));clear hb bJ q1 q2
      have q3:bX.cell? ⟨c,o+j*5+3,none⟩=some (.bool ((y+1+1+bO)%3==0)):=by simp only[World.cell?,vZ.out.block c A0.out];exact Ij.out
      have q4:bX.cell? ⟨c,o+j*5+4,none⟩=some (.int .i64 (y+1+1+bO+1)):=by simp only[World.cell?,vZ.out.block c A0.out];exact Ik.out
      go_wp2
      go_roundw
      case rel=>exact⟨j+1,by omega,by go_num,by rw[jl.out,wq.out],vZ.out⟩
      case measure=>simp[intOf];omega
    · have e:j=n:=by omega
      subst e
      go_wp2
      go_ret
      exact⟨rfl,dF.out⟩
open Go Go.RowKit
theorem BF {w:World} {b:Nat} {a1 aV aQ hz:Value} {ty:TypeId} (h:w.heap[b]?=some (.cells #[a1,aV,aQ,hz] ty (0,0))):w.cell? ⟨b,0,none⟩=some a1∧w.cell? ⟨b,1,none⟩=some aV∧w.cell? ⟨b,2,none⟩=some aQ∧w.cell? ⟨b,3,none⟩=some hz:=by
  refine⟨?_,?_,?_,?_⟩<;>simp[World.cell?,h]
theorem R2 (w:World) (S:Nat→Prop) (ok:Bool) (bp bq bk:Option Addr) (bo a1 bU aV n2 aQ:Nat) (de dP eU:cl) (k:Int) (kH:cD w S (.l .bool) 0 0 de (.slice bp bo a1)) (j7:cD w S (.l .eu) 0 0 dP (.slice bq bU aV)) (j8:cD w S (.l .held) 0 0 eU (.slice bk n2 aQ)) (hD:ht (de++dP++eU)) (aA:0≤k) (h1:k+(de.length:Nat)+(dP.length:Nat)+(eU.length:Nat)≤4611686018427387904):
    Calls Try.prog 36 #[.agg #[.bool ok,.slice bp bo a1,.slice bq bU aV,.slice bk n2 aQ],.int .i64 k] w fun fK w'=>fK= .returned (.int .i64 (k+(de.length:Nat)+(dP.length:Nat)+(eU.length:Nat)))∧eO w w' S (de++dP++eU) k:=by
  have hO:Hid (cy S w (w.alloc (.cells #[.bool ok,.slice bp bo a1,.slice bq bU aV,.slice bk n2 aQ] 40))):=cy.below ((Below.refl _ _).alloc (Nat.le_refl _) _)
  have pb:Hid (Below w.heap.size w (w.alloc (.cells #[.bool ok,.slice bp bo a1,.slice bq bU aV,.slice bk n2 aQ] 40))):=(Below.refl _ _).alloc (Nat.le_refl _) _
  have nN:Hid ((w.alloc (.cells #[.bool ok,.slice bp bo a1,.slice bq bU aV,.slice bk n2 aQ] 40)).heap[w.heap.size]?=some (.cells #[.bool ok,.slice bp bo a1,.slice bq bU aV,.slice bk n2 aQ] 40 (0,0))):=nS _ _
  have h6:=Lib.hid kH;clear kH
  have h7:=Lib.hid j7;clear j7
  have f_:=Lib.hid j8;clear j8
  have qQ:=Lib.hid hD;clear hD
  go_enter Try.func36,Try.ntmps36
  have kF:Hid (0≤k∧k+(de.length:Nat)≤4611686018427387904):=by unfold Hid;omega
  go_wp2_with (go_at_call 85;refine(HE _ S de _ _ (h6.out.dj hO.out) qQ.out.left.left kF.out.1 kF.out.2).mono ?_)
  first
  | (rintro e bX rfl hb)
  | (rintro e bX ⟨rfl,hb⟩)
  have j5:=Lib.hid hb;clear hb
  have mn:bX.cell? ⟨w.heap.size,2,none⟩=some (.slice bq bU aV):=j5.out.dj.head nN.out rfl
  have kG:Hid (0≤k+(de.length:Nat)∧k+(de.length:Nat)+(dP.length:Nat)≤4611686018427387904):=by unfold Hid;omega
  go_wp2_with (go_at_call 86;refine(R4 _ S dP _ _ (h7.out.dj (hO.out.trans j5.out.dj)) qQ.out.left.right kG.out.1 kG.out.2).mono ?_)
  first
  | (rintro e du rfl hb)
  | (rintro e du ⟨rfl,hb⟩)
  have j6:=Lib.hid (j5.out.b2 hb qQ.out.left rfl);clear hb mn
  have oc:du.cell? ⟨w.heap.size,3,none⟩=some (.slice bk n2 aQ):=j6.out.dj.head nN.out rfl
  have h8:Hid (0≤k+(de.length:Nat)+(dP.length:Nat)∧k+(de.length:Nat)+(dP.length:Nat)+(eU.length:Nat)≤4611686018427387904):=by unfold Hid;omega
  go_wp2_with (go_at_call 87;refine(R3 _ S eU _ _ (f_.out.dj (hO.out.trans j6.out.dj)) qQ.out.right h8.out.1 h8.out.2).mono ?_)
  first
  | (rintro e eB rfl hb)
  | (rintro e eB ⟨rfl,hb⟩)
  have qN:=Lib.hid (j6.out.b2 hb qQ.out (by rw[List.length_append];omega));clear hb oc
  go_wp2
  go_ret
  exact⟨rfl,.below pb.out qN.out⟩
theorem Mf (w:World) (S:Nat→Prop) (ok:Bool) (bp bq bk:Option Addr) (bo a1 bU aV n2 aQ:Nat) (de dP eU:cl) (k:Int) (kH:cD w S (.l .bool) 0 0 de (.slice bp bo a1)) (j7:cD w S (.l .eu) 0 0 dP (.slice bq bU aV)) (j8:cD w S (.l .held) 0 0 eU (.slice bk n2 aQ)) (hm:db w (de++dP++eU) k) (aA:0≤k) (h1:k+(de.length:Nat)+(dP.length:Nat)+(eU.length:Nat)≤4611686018427387904):
    Calls Try.prog 37 #[.agg #[.bool ok,.slice bp bo a1,.slice bq bU aV,.slice bk n2 aQ],.int .i64 k] w fun fK w'=>fK= .returned (.int .i64 (k+(de.length:Nat)+(dP.length:Nat)+(eU.length:Nat)))∧Below w.heap.size w w':=by
  have pb:Hid (Below w.heap.size w (w.alloc (.cells #[.bool ok,.slice bp bo a1,.slice bq bU aV,.slice bk n2 aQ] 40))):=(Below.refl _ _).alloc (Nat.le_refl _) _
  have nN:Hid ((w.alloc (.cells #[.bool ok,.slice bp bo a1,.slice bq bU aV,.slice bk n2 aQ] 40)).heap[w.heap.size]?=some (.cells #[.bool ok,.slice bp bo a1,.slice bq bU aV,.slice bk n2 aQ] 40 (0,0))):=nS _ _
  have h6:=Lib.hid kH;clear kH
  have h7:=Lib.hid j7;clear j7
  have f_:=Lib.hid j8;clear j8
  obtain⟨hm,kj⟩:=db.lx.1 hm
  obtain⟨mr,ug⟩:=db.lx.1 hm
  clear hm
  rw[List.length_append,show k+((de.length+dP.length:Nat):Int)=k+(de.length:Nat)+(dP.length:Nat) by omega] at kj
  have H5:=Lib.hid mr;clear mr
  have H6:=Lib.hid ug;clear ug
  have vP:=Lib.hid kj;clear kj
  have qK:Hid (∀(L:cl) (k:Int) (w':World),Below w.heap.size w w'→db w L k→db w' L k):=fun L k w' hb h=>h.b3 fun x hx ⟨u,hu⟩=>by simp only[World.cell?,hb.block _ (tj hu)]
  have vV:Hid (∀{w':World},Below w.heap.size w w'→ ∀{e:aq} {L:cl} {v:Value},cD w S e 0 0 L v→cD w' S e 0 0 L v):=fun hb _ _ _ h=>h.dj (S':=S) (cy.below hb)
  have sS:Hid ((w.alloc (.cells #[.bool ok,.slice bp bo a1,.slice bq bU aV,.slice bk n2 aQ] 40)).heap.size=w.heap.size+1):=by unfold Hid;simp
  go_enter Try.func37,Try.ntmps37
  have kF:Hid (0≤k∧k+(de.length:Nat)≤4611686018427387904):=by unfold Hid;omega
  have g1:decide (k+(de.length:Nat)<0)=false:=decide_eq_false (by omega)
  have g2:decide (k+(de.length:Nat)+(dP.length:Nat)<0)=false:=decide_eq_false (by omega)
  have g3:decide (k+(de.length:Nat)+(dP.length:Nat)+(eU.length:Nat)<0)=false:=decide_eq_false (by omega)
  go_wp2_with (go_at_call 88;go_loud (refine(Da _ S de (.slice bp bo a1) k (vV.out pb.out h6.out) (qK.out de k _ pb.out H5.out) kF.out.1 kF.out.2).mono ?_))
  first
  | (rintro e bX rfl hb)
  | (rintro e bX ⟨rfl,hb⟩)
  have DD:bX.heap[w.heap.size]?=some (.cells #[.bool ok,.slice bp bo a1,.slice bq bU aV,.slice bk n2 aQ] 40 (0,0)):=(hb.block _ (by rw[sS.out];omega)).trans nN.out
  have cU:w.heap.size<bX.heap.size:=Nat.lt_of_lt_of_le (by rw[sS.out];omega) hb.size
  have A5:=Lib.hid DD;clear DD
  have qO:=Lib.hid cU;clear cU
  have j5:=Lib.hid (pb.out.trans (hb.mono pb.out.size));clear hb
  obtain⟨-,-,mn,-⟩:=BF A5.out
  have kG:Hid (0≤k+(de.length:Nat)∧k+(de.length:Nat)+(dP.length:Nat)≤4611686018427387904):=by unfold Hid;omega
  go_wp2_with (go_at_call 89;refine(Mh _ S dP _ _ (vV.out j5.out h7.out) (qK.out _ _ _ j5.out H6.out) kG.out.1 kG.out.2).mono ?_)
  first
  | (rintro e du rfl hb)
  | (rintro e du ⟨rfl,hb⟩)
  have DE:du.heap[w.heap.size]?=some (.cells #[.bool ok,.slice bp bo a1,.slice bq bU aV,.slice bk n2 aQ] 40 (0,0)):=(hb.block _ qO.out).trans A5.out
  have Ic:=Lib.hid DE;clear DE
  have j6:=Lib.hid (j5.out.trans (hb.mono j5.out.size));clear hb mn
  obtain⟨-,-,-,oc⟩:=BF Ic.out
  have h8:Hid (0≤k+(de.length:Nat)+(dP.length:Nat)∧k+(de.length:Nat)+(dP.length:Nat)+(eU.length:Nat)≤4611686018427387904):=by unfold Hid;omega
  go_wp2_with (go_at_call 90;refine(Mg _ S eU _ _ (vV.out j6.out f_.out) (qK.out _ _ _ j6.out vP.out) h8.out.1 h8.out.2).mono ?_)
  first
  | (rintro e eB rfl hb)
  | (rintro e eB ⟨rfl,hb⟩)
  have qN:=Lib.hid (j6.out.trans (hb.mono j6.out.size));clear hb oc
  go_wp2
  go_ret
  exact⟨rfl,qN.out⟩
open Go Go.RowKit
def oB (F:Frame):Nat:=F.bM.length+F.bP.length*2+(F.U.map fun h=>4+h.aF.length).sum
def G5 (F:Frame):Prop:=F.bM.length≤4611686018427387904∧F.bP.length≤4611686018427387904∧F.U.length≤4611686018427387904∧ ∀h∈F.U,h.aF.length≤4611686018427387904
theorem Jx {P:Program} {f:FuncId} {args:List AV} {F:Frame} (h:ej P f args [] fun r H=>r= .agg [aP F.ok,aD 0 0 F.bM.length,aD 1 0 F.bP.length,aD 2 0 F.U.length]∧H=u2 F) (dR:G5 F) {w:World} {vs:List Value} (ai:aw (V2 (Env.at w)) args vs):
    Calls P f vs.toArray w fun e w'=> ∃bp a1 bq aV bk aQ L,e= .returned (.agg #[.bool F.ok,.slice bp F.bM.length a1,.slice bq F.bP.length aV,.slice bk F.U.length aQ])∧Below w.heap.size w w'∧fj w' (dY w w') (.agg (hT false F)) (.agg #[.bool F.ok,.slice bp F.bM.length a1,.slice bq F.bP.length aV,.slice bk F.U.length aQ])∧hR w' (dY w w') bp bq bk F.bM.length a1 F.bP.length aV F.U.length aQ L∧ht L∧L.length=oB F:=by
  refine(h.2 (Env.at w) vs (fun _=>rfl) (wy w) ai).mono ?_
  rintro fK w' ⟨r,v,H',E',rfl,⟨rfl,rfl⟩,rfl,af,hs,hv,aM⟩
  have hb:RowKit.Below w.heap.size w E'.w:=⟨aM.os,aM.tape,aM.output,aM.size,fun k hk=>aM.b3 k hk (fun⟨b,hb⟩=>by cases hb) (fun⟨b,hb⟩=>by cases hb)⟩
  have gh: ∀c,E'.PF c∨E'.dx c→dY w E'.w c:=fun c hc=>by
    rcases hc with hc | hc
    · exact⟨(aM.dr c hc).elim (fun h=>h.elim) id,hs.cu c (hs.ck c hc),hs.dz c hc⟩
    · exact⟨(aM.ko c hc).elim (fun⟨b,hb⟩=>by cases hb) id,hs.dB c hc,hs.DM hc⟩
  have aa:iy (u2 F) (.agg [aP F.ok,aD 0 0 F.bM.length,aD 1 0 F.bP.length,aD 2 0 F.U.length]) (jK .frame F):=by
    refine iy.agg (aw.cons (vr rfl) (aw.cons (qw (sz:=1) rfl rfl tf ⟨dR.1,rfl⟩) (aw.cons (qw (sz:=2) rfl rfl wL ⟨dR.2.1,rfl⟩) (aw.cons (Hv (s:=3) (ws:=F.U) (ids:=List.range F.U.length) (bs:=F.U.map aI.aF) rfl rfl (fun id k h=>h) ⟨(Cn F.U).1,dR.2.2.1,fun x hx=> ?_,(Cn F.U).2⟩) aw.nil))))
    obtain⟨q,al,rfl⟩:=List.mem_map.1 hx
    exact dR.2.2.2 q al
  have aC:=Sa (e:= .frame) (x:=F) hs aa hv gh
  obtain⟨dh,rfl,ab⟩:=(show ∃dh:List Value,v= .agg dh.toArray∧aw (be E') [aP F.ok,aD 0 0 F.bM.length,aD 1 0 F.bP.length,aD 2 0 F.U.length] dh from hv)
  obtain⟨Si,dh,rfl,ob,ab⟩:=ab.cons_inv
  obtain⟨v0,dh,rfl,aA,ab⟩:=ab.cons_inv
  obtain⟨v1,dh,rfl,h1,ab⟩:=ab.cons_inv
  obtain⟨v2,dh,rfl,h2,ab⟩:=ab.cons_inv
  obtain rfl:=ab.jZ
  have ob:ar E'.w E'.PA E'.PF (.bool F.ok) Si:=ob
  cases ob
  obtain⟨bp,a1,bq,aV,bk,aQ,L,rfl,rfl,rfl,hf,aL,ak⟩:=Qn hs (S:=dY w E'.w) (fun c hc=>gh c (.inr hc)) dR aA h1 h2
  exact⟨bp,a1,bq,aV,bk,aQ,L,rfl,hb,aC,hf,aL,ak⟩
theorem Ju {P:Program} {f:FuncId} {args:List AV} {F:Frame} (h:bh P f args (.agg (hT true F))) {w:World} {vs:List Value} (ai:aw (V2 (Env.at w)) args vs):
    Calls P f vs.toArray w fun e w'=> ∃bp a1 bq aV bk aQ,e= .returned (.agg #[.bool F.ok,.slice bp F.bM.length a1,.slice bq F.bP.length aV,.slice bk F.U.length aQ])∧Below w.heap.size w w'∧fj w' (dY w w') (.agg (hT false F)) (.agg #[.bool F.ok,.slice bp F.bM.length a1,.slice bq F.bP.length aV,.slice bk F.U.length aQ]):=
  (bh.vB (e:= .frame) (x:=F) h ai).mono fun e w' ⟨cM,h1,h2,ao⟩=>by
    obtain⟨bp,a1,bq,aV,bk,aQ,rfl,_⟩:=R_ ao
    exact⟨bp,a1,bq,aV,bk,aQ,h1,h2,ao⟩
theorem Jv {w:World} {S:Nat→Prop} {ok:Bool} {bp bq bk:Option Addr} {bo a1 bU aV n2 aQ:Nat} {L:cl} {k:Int} (h:hR w S bp bq bk bo a1 bU aV n2 aQ L) (aL:ht L) (aA:0≤k) (h1:k+(L.length:Nat)≤4611686018427387904):
    Calls Try.prog 36 #[.agg #[.bool ok,.slice bp bo a1,.slice bq bU aV,.slice bk n2 aQ],.int .i64 k] w fun e w'=>e= .returned (.int .i64 (k+(L.length:Nat)))∧eO w w' S L k:=by
  obtain⟨de,dP,eU,rfl,cX,s1,s2⟩:=h
  have aO:k+((de++dP++eU).length:Nat)=k+(de.length:Nat)+(dP.length:Nat)+(eU.length:Nat):=by rw[List.length_append,List.length_append];omega
  rw[aO] at h1 ⊢
  exact R2 w S ok bp bq bk bo a1 bU aV n2 aQ de dP eU k cX s1 s2 aL aA h1
theorem BP {w:World} {S:Nat→Prop} {ok:Bool} {bp bq bk:Option Addr} {bo a1 bU aV n2 aQ:Nat} {L:cl} {k:Int} (h:hR w S bp bq bk bo a1 bU aV n2 aQ L∧db w L k) (aA:0≤k) (h1:k+(L.length:Nat)≤4611686018427387904):
    Calls Try.prog 37 #[.agg #[.bool ok,.slice bp bo a1,.slice bq bU aV,.slice bk n2 aQ],.int .i64 k] w fun e w'=>e= .returned (.int .i64 (k+(L.length:Nat)))∧Below w.heap.size w w':=by
  obtain⟨⟨de,dP,eU,rfl,cX,s1,s2⟩,hm⟩:=h
  have aO:k+((de++dP++eU).length:Nat)=k+(de.length:Nat)+(dP.length:Nat)+(eU.length:Nat):=by rw[List.length_append,List.length_append];omega
  rw[aO] at h1 ⊢
  exact Mf w S ok bp bq bk bo a1 bU aV n2 aQ de dP eU k cX s1 s2 hm aA h1
theorem HB {α:Type} {f:α→Nat} {c:Nat}: ∀{xs:List α},(∀x∈xs,f x≤c)→(xs.map f).sum≤xs.length*c
  | [],_=>by simp
  | x::r,h=>by
    rw[List.map_cons,List.sum_cons,List.length_cons,Nat.succ_mul]
    have:=h x (List.mem_cons_self ..)
    have:=HB (xs:=r) fun y ax=>h y (List.mem_cons_of_mem _ ax)
    omega
def fR (p:aS):Frame:=if e1 p=true then⟨true,List.replicate p.ae.toNat false,List.replicate p.aR.length ⟨1,1⟩,p.U.map fun w=>jT w.ae.length⟩ else⟨false,[],[],[]⟩
theorem l6.GY {p:aS} {f:Frame} (h:l6 p f) {i:Nat} {x:aI} (hx:i<f.U.length→x.aF.length=(nth p.U i).ae.length∧0≤x.cT∧x.cT≤x.aF.length):l6 p {f with U:=f.U.set i x}:=by
 refine⟨h.bM,h.bP,by rw[List.length_set];exact h.U,fun j y w h1 h2=> ?_,fun y ax=> ?_⟩
 ·replace h1:(f.U.set i x)[j]?=some y:=h1
  rw[List.getElem?_set] at h1
  split at h1
  ·rename_i e;subst e
   split at h1
   ·rename_i af
    cases h1
    rw[(hx af).1,kt (by have:=h.U;omega)]
    rw[List.getElem?_eq_getElem (by have:=h.U;omega)] at h2
    cases h2;rfl
   ·cases h1
  ·exact h.aF j y w h1 h2
 ·rcases List.mem_or_eq_of_mem_set ax with ax | rfl
  ·exact h.cT y ax
  ·by_cases af:i<f.U.length
   ·exact(hx af).2
   ·rw[List.set_eq_of_length_le (by omega)] at ax
    exact h.cT _ ax
theorem l6.at {p:aS} {f:Frame} (h:l6 p f) {i:Nat} (hi:i<f.U.length):(nth f.U i).aF.length=(nth p.U i).ae.length∧0≤(nth f.U i).cT∧(nth f.U i).cT≤(nth f.U i).aF.length:=by
 have O:i<p.U.length:=by have:=h.U;omega
 refine⟨h.aF i _ _ ?_ ?_,h.cT _ (iL (by simpa using hi))⟩
 ·rw[kt hi];exact List.getElem?_eq_getElem hi
 ·rw[kt O];exact List.getElem?_eq_getElem O
theorem l6.sd {p:aS} {f:Frame} (h:l6 p f) {o:List Bool} {q:List b4} (br:o.length=f.bM.length) (al:q.length=f.bP.length):l6 p {f with bM:=o,bP:=q}:=
 ⟨by show(o.length:Int)=_;rw[br];exact h.bM,by show q.length=_;rw[al];exact h.bP,h.U,h.aF,h.cT⟩
section
variable {P:Program} {esc:List Nat} {ops:Array Oper} {n:Nat} {X:List Item} {i0:Nat} {A:List (Nat×AV)} {L:List (Nat×List AV)} {H:List Blk} {K:List (Nat×AV)→List (Nat×List AV)→List Blk→Prop}
theorem R8 (cs:Nat) (d:Option Nat) (N:List (Nat×AV)) {i:Int} (B:Int) (z:List AV) (F:List Blk→Prop) (m:Nat) (ll:List Blk) (aA:0≤i∧B*i≤140737488355328∧i≤4611686018427387904) (ak:H.length=m) (hx:H++[⟨0,1,List.map bm (List.replicate i.toNat false)⟩]=ll) (eJ:F ll)
  (h:evSD P esc ops n (X.drop (i0+cs)) (fE d (.ref m 0 0 (List.replicate i.toNat false).length false) N A) L ll K) (an:z=bm false:=by rfl)
  (e: ∀K,evSD P esc ops n ((X.drop i0).take cs) A L H K=(0≤i∧i≤i∧B*i≤140737488355328∧i≤4611686018427387904∧F (H++[⟨0,1,List.replicate i.toNat z⟩])∧K (fE d (.ref H.length 0 0 i.toNat false) N A) L (H++[⟨0,1,List.replicate i.toNat z⟩])):=by intro K;kernel_rfl):evSD P esc ops n (X.drop i0) A L H K:=by
 rw[pC X i0 cs,e]
 subst ak;subst hx;subst an
 rw[List.length_replicate,List.map_replicate] at h
 rw[List.map_replicate] at eJ
 exact⟨aA.1,Int.le_refl _,aA.2.1,aA.2.2,⟨eJ,h⟩⟩
end
end Go.Proofs.Ytglpfccgmfhkdaa.Fw
