/- The machine, part G: code, loops, functions. -/
import Derived.Test.YtejmihecgodhnaaGreatM3
set_option linter.unusedVariables false
namespace Go.Proofs.YtejmihecgodhnaaGreat.Fw
open Go
theorem Lu {c3:List Nat}: ∀(L:List (Nat×List AV)) (t:Nat),c3.contains t=true→eV (qq c3 L) t=none
 | [],t,h=>rfl
 | (k,c)::L,t,h=>by
  unfold qq
  split
  ·exact Lu L t h
  ·rename_i hk
   have:t≠k:=fun e=>by subst e;rw[h] at hk;cases hk
   simp only[eV,if_neg this];exact Lu L t h
def L2:Bool→Bool→Bool
 | _,false=>true
 | a,true=>a
theorem Uj {a b:Bool} (h:L2 a b=true):b=true→a=true:=fun e=>by subst e;exact h
def mR (a b:AV):Prop:=b=a∨b= .undef∨ ∃rows full fr py,a= .aP rows full fr∧b= .aP rows false py∧(py=true→fr=true)
theorem mR.aag {w:World} {PA PF:Nat→Prop} {rows:List (List AV)} {full fr py:Bool} {v:Value} (ab: ∀c,PF c→PA c) (hf:py=true→fr=true) (h:a1 w PA PF (.aP rows full fr) v):a1 w PA PF (.aP rows false py) v:=by
 cases h with
 | aP fx fl gw cn dz hrel=>
  refine .aP (fun c hc=> ?_) fl (fun h=>by cases h) cn dz hrel
  have:=fx c hc
  cases py with
  | true=>rw[hf rfl] at this;exact this
  | false=>
   cases fr with
   | true=>exact ab c this
   | false=>exact this
theorem mR.v1 {E:Env} {a b:AV} {v:Value} (ab: ∀c,E.PF c→E.PA c) (h:mR a b) (hv:b6 E a v):b6 E b v:=by
 rcases h with rfl | rfl | ⟨rows,full,fr,py,rfl,rfl,hf⟩
 ·exact hv
 ·exact b6.undef _ _
 ·exact mR.aag ab hf hv
theorem mR.v3 {E:Env} {a b:AV} {v:Value} (ab: ∀c,E.PF c→E.PA c) (h:mR a b) (hv:V3 E a v):V3 E b v:=by
 rcases h with rfl | rfl | ⟨rows,full,fr,py,rfl,rfl,hf⟩
 ·exact hv
 ·exact V3.undef _ _
 ·exact mR.aag ab hf hv
theorem mR.of {a b:AV} (h:b=a∨b= .undef):mR a b:=h.imp_right .inl
theorem Weak.aoe [cL] {T T':List AV} {L:List (Nat×List AV)} {H:List Blk} (au:T'.length=T.length) (h: ∀t,mR (T.getD t .undef) (T'.getD t .undef)):Weak ⟨T,L,H⟩ ⟨T',L,H⟩:=fun cj E tmps g s=>
 ⟨E,rfl,g,s.h,s.l,fun t=>(h t).v3 s.h.dU (s.jD t),by show T'.length=_;rw[au];exact s.size⟩
theorem Weak.cells [cL] {T:List AV} {L L':List (Nat×List AV)} {H:List Blk} (bB: ∀t cells,eV L t=some cells→ ∃hD,eV L' t=some hD∧hD.length=cells.length∧ ∀(i:Nat) (a:AV),hD[i]?=some a→ ∃b,cells[i]?=some b∧mR b a):Weak ⟨T,L,H⟩ ⟨T,L',H⟩:=fun cj E tmps g s=>
 ⟨E,rfl,g,s.h,fun t c hm=>by
  obtain⟨cells,an,ty,q1,q2,q3⟩:=s.l t c hm
  obtain⟨hD,c5,dP,eJ⟩:=bB t cells q1
  refine⟨hD,an,ty,c5,q2,by rw[dP];exact q3.1,fun i a v aw hv=> ?_⟩
  obtain⟨b,hb,q⟩:=eJ i a aw
  exact q.v1 s.h.dU (q3.2 i b v hb hv),s.jD,s.size⟩
theorem aqt [cL] {T T':List AV} {L L':List (Nat×List AV)} {H:List Blk} (au:T'.length=T.length) (cd: ∀t,mR (T.getD t .undef) (T'.getD t .undef)) (c3:List Nat) (ab:T'.all (rB c3)=true)
  (bB: ∀t cells,c3.contains t=false→eV L t=some cells→ ∃hD,eV L' t=some hD∧hD.length=cells.length∧ ∀(i:Nat) (a:AV),hD[i]?=some a→ ∃b,cells[i]?=some b∧mR b a):Weak ⟨T,L,H⟩ ⟨T',L',H⟩:=by
 refine(Weak.aoe au cd).trans ((Weak.qq c3 ab).trans (Weak.cells fun t cells h=> ?_))
 cases aO:c3.contains t with
 | true=>rw[Lu L t aO] at h;cases h
 | false=>rw[GP L t aO] at h;exact bB t cells aO h
theorem Yr (l:List (Nat×TV)) (k:Nat) (d:TV):(∃v,(k,v)∈l∧hS l k d=v)∨hS l k d=d:=by
 induction l with
 | nil=>exact .inr rfl
 | cons p r bp=>
  obtain⟨a,w⟩:=p
  rw[h5]
  by_cases e:a=k
  ·subst e;exact .inl ⟨w,List.mem_cons_self ..,if_pos rfl⟩
  ·rw[if_neg e]
   rcases bp with⟨v,h1,h2⟩ | h
   ·exact .inl ⟨v,List.mem_cons_of_mem _ h1,h2⟩
   ·exact .inr h
theorem K5 (s:TS) (v:Nat): ∀(c m:Nat),(ix s v c m).length=m
 | _,0=>rfl
 | c,m+1=>by rw[ix,List.length_cons,K5 s v (c+1) m]
theorem GB (s:TS) (v:Nat): ∀(m c i:Nat),(cW (ix s v c m))[i]?=if i<m then some (s.get (h4 v (c+i))).br else none
 | 0,c,i=>by simp[ix,cW]
 | m+1,c,i=>by
  rw[ix,cW]
  cases i with
  | zero=>simp
  | succ i=>
   rw[List.getElem?_cons_succ,GB s v m (c+1) i,show c+1+i=c+(i+1) by omega]
   by_cases h:i<m
   ·rw[if_pos h,if_pos (by omega)]
   ·rw[if_neg h,if_neg (by omega)]
theorem JM [FZ] (n:Nat) (s:TS):s.ar n=⟨(s.ar n).T,(s.ar n).L,(s.ar n).H⟩:=rfl
theorem acH [cL] [FZ] {n:Nat} {s S:TS} (dn:kp S=kp s) (cd: ∀t,t<n→mR (s.get t).br (S.get t).br) (c3:List Nat) (ab:(S.ar n).T.all (rB c3)=true)
  (hv: ∀v m,c3.contains v=false→l3 s.vs v=some m→l3 S.vs v=some m∧ ∀c,mR (s.get (h4 v c)).br (S.get (h4 v c)).br)
  (hb:S.be=s.be) (dF: ∀b,b<s.be→(S.get (bJ b)).eG=(s.get (bJ b)).eG):Weak (s.ar n) (S.ar n):=by
 have aB:(S.ar n).H=(s.ar n).H:=by
  show S.gZ++h0 S=s.gZ++h0 s
  have e2:h0 S=h0 s:=by unfold h0;rw[dn]
  rw[e2]
  congr 1
  apply List.ext_getElem?
  intro b
  rw[sK,sK,hb]
  by_cases h:b<s.be
  ·rw[if_pos h,if_pos h,dF b h]
  ·rw[if_neg h,if_neg h]
 rw[JM n s,JM n S,aB]
 refine aqt (by show((List.range n).map _).length=((List.range n).map _).length;simp) (fun t=> ?_) c3 ab fun t cells aO h=> ?_
 ·rw[Fz,Fz]
  by_cases h:t<n
  ·rw[if_pos h,if_pos h];exact cd t h
  ·rw[if_neg h,if_neg h];exact .inl rfl
 ·rw[zB] at h
  cases hm:l3 s.vs t with
  | none=>rw[hm] at h;cases h
  | some m=>
   rw[hm] at h
   cases h
   obtain⟨q1,q2⟩:=hv t m aO hm
   refine⟨cW (ix S t 0 m),by rw[zB,q1];rfl,?_,fun i a aw=> ?_⟩
   ·show(cW _).length=(cW _).length
    rw[ql,ql,List.length_map,List.length_map,K5,K5]
   ·rw[GB] at aw ⊢
    by_cases hi:i<m
    ·rw[if_pos hi] at aw ⊢
     cases aw
     exact⟨_,rfl,q2 (0+i)⟩
    ·rw[if_neg hi] at aw;cases aw
theorem al1 (l:List AV):l.all (rB [])=true:=by
 have aA: ∀a,y2 [] a=true:=fun a=>by cases a<;>rfl
 have h1: ∀a,wN [] a=true:=fun a=>by
  unfold wN
  split
  ·exact List.all_eq_true.2 fun x _=>aA x
  ·exact aA _
 have h2: ∀a,wO [] a=true:=fun a=>by
  unfold wO
  split
  ·exact List.all_eq_true.2 fun x _=>h1 x
  ·exact h1 _
 have aC: ∀a,rB [] a=true:=fun a=>by
  unfold rB
  split
  ·exact List.all_eq_true.2 fun x _=>h2 x
  ·exact h2 _
 exact List.all_eq_true.2 fun x _=>aC x
theorem Fits.le [FZ] {s S:TS} (h:s.hp S) (f:Fits s):Fits S:=f.congr fun k h1 h2=>(h.get k).resolve_right fun q=>by
 rcases q with q | q
 ·have:=q.1;omega
 ·have:=q.1;omega
theorem aqu [cL] [FZ] {n:Nat} (ag:n≤1000000) {s S:TS} (h:s.hp S):Weak (s.ar n) (S.ar n):=by
 have S2: ∀k,¬k<1000000→S.get k=s.get k∨(1000010≤k∧SB (s.get k) (S.get k)):=fun k hk=>(h.get k).imp_right fun q=>q.resolve_left fun q=>hk q.1
 have DO: ∀k,¬k<1000000→(S.get k).br=(s.get k).br∧(S.get k).eG=(s.get k).eG:=fun k hk=>by
  rcases S2 k hk with e | ⟨_,g,c,cv,aN,e2,dc⟩
  ·rw[e];exact⟨rfl,rfl⟩
  ·rw[aN,e2]
   refine⟨rfl,?_⟩
   show Blk.mk g cv.length [cW cv]=Blk.mk g c.length [cW c]
   have au:cv.length=c.length:=by have:=congrArg List.length dc;rwa [ql,ql,List.length_map,List.length_map] at this
   rw[dc,au]
 have aH:S.get dO=s.get dO:=(S2 dO (by unfold dO;omega)).resolve_right fun q=>by have:=q.1;unfold dO at this;omega
 refine acH (IP aH) (fun t aO=> ?_) [] (al1 _) (fun v m _ hm=>⟨by rw[h.vs];exact hm,fun c=> .inl (DO _ (by unfold h4;omega)).1⟩) h.be fun b _=>(DO _ (by unfold bJ;omega)).2
 rcases h.get t with e | ⟨_,e⟩ | ⟨e,_⟩
 ·exact .inl (by rw[e])
 ·exact .of e
 ·omega
inductive mP:Type 1 where
 | nil
 | Ag (a b:mP)
 | lp (nn:List (Nat×Nat×aX)) (cT:List Nat) (mu:List (Nat×Nat)) (lU:List aX) (rd:List Nat) (iz:cD lU→List (Nat×TV)) (I:cD lU→Prop) (m:cD lU→Nat) (b:cD lU→mP)
def mP.fst:mP→mP
 | .Ag a _=>a
 | a=>a
def mP.snd:mP→mP
 | .Ag _ b=>b
 | a=>a
def KM:(lU:List aX)→(cD lU→aK)→aK
 | [],F=>F ()
 | e::r,F=> .all e.T fun x=>KM r fun y=>F (x,y)
theorem SO {R:Exit→TS→Prop}: ∀{lU:List aX} {F:cD lU→aK},(KM lU F).den R→ ∀v,(F v).den R
 | [],F,h,()=>h
 | e::r,F,h,(x,y)=>SO (h x) y
def Pu:(e:aX)→TV→(e.T→aK)→aK
 | .int,v,K=>(match v with
  | .i _ m=>K m
  | _=> .no)
 | .u64,v,K=>(match v with
  | .i _ m=>K m
  | _=> .no)
 | .bool,v,K=>(match v with
  | .b x=>K x.den
  | _=> .no)
 | .str,v,K=>(match v with
  | .s x=>K x
  | _=> .no)
 | .nat,v,K=>(match v with
  | .blk g _ _ _ _=>K g
  | _=> .no)
 | .fU,v,K=>(match v with
  | .fo _ c=>K (aX.mk .fU (sd aX.fU.bN c))
  | _=> .no)
 | .l e,v,K=>(match v with
  | .l bX xs _ _=>if h:bX=e then K (ns h xs) else .no
  | .blk _ bX xs _ _=>if h:bX=e then K (ns h xs) else .no
  | .nil _ _=>K []
  | _=> .no)
 | _,_,_=> .no
def Jd (s:TS):(lU:List aX)→List Nat→(cD lU→aK)→aK
 | [],_,K=>K ()
 | e::r,k::Iz,K=>Pu e (s.get k) fun x=>Jd s r Iz fun y=>K (x,y)
 | _,_,_=> .no
theorem anf {R:Exit→TS→Prop} {e:aX} {v:TV} {K:e.T→aK} (h:(Pu e v K).den R): ∃x,(K x).den R:=by
 cases e with
 | int=>
  have h:(match v with
   | .i _ m=>K m
   | _=>aK.no).den R:=h
  split at h
  ·exact⟨_,h⟩
  ·exact h.elim
 | u64=>
  have h:(match v with
   | .i _ m=>K m
   | _=>aK.no).den R:=h
  split at h
  ·exact⟨_,h⟩
  ·exact h.elim
 | bool=>
  have h:(match v with
   | .b x=>K x.den
   | _=>aK.no).den R:=h
  split at h
  ·exact⟨_,h⟩
  ·exact h.elim
 | str=>
  have h:(match v with
   | .s x=>K x
   | _=>aK.no).den R:=h
  split at h
  ·exact⟨_,h⟩
  ·exact h.elim
 | nat=>
  have h:(match v with
   | .blk g _ _ _ _=>K g
   | _=>aK.no).den R:=h
  split at h
  ·exact⟨_,h⟩
  ·exact h.elim
 | fU=>
  have h:(match v with
   | .fo _ c=>K (aX.mk .fU (sd aX.fU.bN c))
   | _=>aK.no).den R:=h
  split at h
  ·exact⟨_,h⟩
  ·exact h.elim
 | l e=>
  have h:(match v with
   | .l bX xs _ _=>if h:bX=e then K (ns h xs) else aK.no
   | .blk _ bX xs _ _=>if h:bX=e then K (ns h xs) else aK.no
   | .nil _ _=>K []
   | _=>aK.no).den R:=h
  split at h
  ·split at h
   ·exact⟨_,h⟩
   ·exact h.elim
  ·split at h
   ·exact⟨_,h⟩
   ·exact h.elim
  ·exact⟨_,h⟩
  ·exact h.elim
 | _=>exact h.elim
theorem Pv {R:Exit→TS→Prop} {s:TS}: ∀{lU:List aX} {Iz:List Nat} {K:cD lU→aK},(Jd s lU Iz K).den R→ ∃v,(K v).den R
 | [],_,K,h=>⟨(),h⟩
 | e::r,k::Iz,K,h=>by
  obtain⟨x,h⟩:=anf (show(Pu e (s.get k) _).den R from h)
  obtain⟨y,h⟩:=Pv h
  exact⟨(x,y),h⟩
 | e::r,[],K,h=>h.elim
def Lb (s:TS) (k:Nat) (w:TV) (t:aK):aK:=match w with
 | .ref b g m f=>(match s.get k with
  | .ref b4 dC fM G9=>(match s.get (bJ b) with
   | .blk _ _ xs YF _=> .eq b4 b (.eq G9 f (.eq dC g (.eq fM YF (.eq m xs.length t))))
   | _=> .no)
  | _=> .no)
 | .blk g e xs _ _=>(match s.get k with
  | .blk dC bX zK _ _=>if h:bX=e then .eq dC g (.eq (ns h zK) xs t) else .no
  | _=> .no)
 | .b y=>(match s.get k with
  | .b x=> .eq x.den y.den t
  | _=> .no)
 | .fo g c=>(match s.get k with
  | .fo dC cv=> .eq dC g (.eq (cW cv) (cW c) (.eq cv.length c.length t))
  | _=> .no)
 | .l e xs ee fr=>(match ee with
  | true=> .eq (s.get k) (.l e xs true fr) t
  | false=>match s.get k with
   | .l bX zK _ py=>if h:bX=e then .eq (L2 py fr) true (.eq (ns h zK) xs t) else .no
   | .nil _ py=> .eq (L2 py fr) true (.eq [] xs t)
   | _=> .no)
 | w=> .eq (s.get k) w t
def Iv:TV→Bool
 | .blk _ _ _ _ _=>true
 | .fo _ _=>true
 | .lP _ _ _=>true
 | _=>false
def Oo:TV→Bool
 | .hF _ _ _ _=>true
 | .new _ _=>true
 | _=>false
theorem aeQ [FZ] {R:Exit→TS→Prop} {s:TS} {k:Nat} {w:TV} {t:aK} (h:(Lb s k w t).den R):(mR (s.get k).br w.br∧(Iv w=true→w.eG=(s.get k).eG)∧(Oo w=true→s.get k=w))∧t.den R:=by
 unfold Lb at h
 split at h
 ·split at h
  ·rename_i b4 dC fM G9 hk
   split at h
   ·rename_i g0 eg xs YF au hb
    obtain⟨h1,h2,aC,bg,ch,cy⟩:=h
    subst h1;subst h2;subst aC;subst bg;subst ch
    refine⟨⟨.inl ?_,(fun q=>by cases q),fun q=>by cases q⟩,cy⟩
    rw[hk,au]
   ·exact h.elim
  ·exact h.elim
 ·split at h
  ·rename_i dC bX zK fM HD hk
   split at h
   ·rename_i he
    subst he
    obtain⟨h1,h2,aC⟩:=h
    subst h1
    have h2:zK=_:=h2
    subst h2
    refine⟨⟨.inl ?_,fun _=> ?_,fun q=>by cases q⟩,aC⟩<;>rw[hk]<;>rfl
   ·exact h.elim
  ·exact h.elim
 ·split at h
  ·rename_i y _ x hk
   obtain⟨h1,h2⟩:=h
   refine⟨⟨.inl ?_,(fun q=>by cases q),fun q=>by cases q⟩,h2⟩
   rw[hk];show AV.bool y.den= .bool x.den;rw[h1]
  ·exact h.elim
 ·split at h
  ·rename_i dC cv hk
   obtain⟨h1,h2,aC,bg⟩:=h
   refine⟨⟨.inl (by rw[hk];rfl),fun _=> ?_,fun q=>by cases q⟩,bg⟩
   rw[hk]
   show(⟨_,_,_⟩:Blk)=⟨_,_,_⟩
   rw[h1,h2,aC]
  ·exact h.elim
 ·split at h
  ·obtain⟨h1,h2⟩:=h
   exact⟨⟨.inl (by rw[h1]),(fun _=>by rw[h1]),fun _=>h1⟩,h2⟩
  ·split at h
   ·rename_i bX zK agy py hk
    split at h
    ·rename_i he
     subst he
     obtain⟨h1,h2,aC⟩:=h
     have h2:zK=_:=h2
     subst h2
     exact⟨⟨.inr (.inr ⟨_,_,_,_,by rw[hk];rfl,rfl,Uj h1⟩),(fun q=>by cases q),fun q=>by cases q⟩,aC⟩
    ·exact h.elim
   ·rename_i agy py hk
    obtain⟨h1,h2,aC⟩:=h
    subst h2
    exact⟨⟨.inr (.inr ⟨[],_,_,_,by rw[hk];rfl,rfl,Uj h1⟩),(fun q=>by cases q),fun q=>by cases q⟩,aC⟩
   ·exact h.elim
 ·obtain⟨h1,h2⟩:=h
  exact⟨⟨.inl (by rw[h1]),(fun _=>by rw[h1]),fun _=>h1⟩,h2⟩
def Lc (s:TS):List (Nat×TV)→aK→aK
 | [],t=>t
 | (k,w)::r,t=>Lb s k w (Lc s r t)
theorem Tp [FZ] {R:Exit→TS→Prop} {s:TS} {t:aK}: ∀{l:List (Nat×TV)},(Lc s l t).den R→(∀k w,(k,w)∈l→mR (s.get k).br w.br∧(Iv w=true→w.eG=(s.get k).eG)∧(Oo w=true→s.get k=w))∧t.den R
 | [],h=>⟨(fun k w h=>by cases h),h⟩
 | (k,w)::r,h=>by
  obtain⟨h1,h2⟩:=aeQ h
  obtain⟨aC,bg⟩:=Tp h2
  refine⟨fun kU w' hm=> ?_,bg⟩
  rcases List.mem_cons.1 hm with e | hm
  ·cases e;exact h1
  ·exact aC kU w' hm
def JP (vs:List (Nat×Nat)):List (Nat×Nat)→Bool
 | []=>true
 | (v,m)::r=>(match l3 vs v with
  | some fM=>Nat.beq m fM
  | none=>false)&&JP vs r
def Gi (s:TS):Nat→Bool
 | 0=>true
 | b+1=>Iv (s.get (bJ b))&&Gi s b
def Am (mu:List (Nat×Nat)):List (Nat×Nat)→List Nat
 | []=>[]
 | (v,_)::r=>match(l3 mu v).isSome with
  | true=>Am mu r
  | false=>v::Am mu r
def Mv (s S:TS) (t:aK):aK:=
 .eq (JP s.vs S.vs) true (.eq (Nat.beq S.be s.be) true (.eq (Gi S s.be) true (.eq (S.T.all fun p=>rB (Am S.vs s.vs) p.2.br) true (.eq (kp S) (kp s) (Lc s S.T t)))))
theorem OL: ∀{l:List (Nat×Nat)} {v m:Nat},l3 l v=some m→(v,m)∈l
 | [],_,_,h=>by cases h
 | (k,fM)::r,v,m,h=>by
  unfold l3 at h
  split at h
  ·rename_i hk;cases h;rw[Nat.eq_of_beq_eq_true hk];exact List.mem_cons_self ..
  ·exact List.mem_cons_of_mem _ (OL h)
theorem Lv {mu:List (Nat×Nat)}: ∀{l:List (Nat×Nat)} {v m:Nat},(Am mu l).contains v=false→(v,m)∈l→(l3 mu v).isSome=true
 | [],_,_,_,h=>by cases h
 | (k,fM)::r,v,m,aY,h=>by
  unfold Am at aY
  split at aY
  ·rename_i hk
   rcases List.mem_cons.1 h with e | h
   ·cases e;exact hk
   ·exact Lv aY h
  ·rename_i hk
   simp only[List.contains_cons,Bool.or_eq_false_iff] at aY
   rcases List.mem_cons.1 h with e | h
   ·cases e;simp at aY
   ·exact Lv aY.2 h
theorem acg {vs:List (Nat×Nat)}: ∀{l:List (Nat×Nat)},JP vs l=true→ ∀v m,(v,m)∈l→l3 vs v=some m
 | [],_,_,_,h=>by cases h
 | (k,fM)::r,hs,v,m,h=>by
  simp only[JP,Bool.and_eq_true] at hs
  rcases List.mem_cons.1 h with e | h
  ·cases e
   have h1:=hs.1
   split at h1
   ·rename_i bw hm;rw[hm,Nat.eq_of_beq_eq_true h1]
   ·cases h1
  ·exact acg hs.2 v m h
theorem SN {s:TS}: ∀{n:Nat},Gi s n=true→ ∀b,b<n→Iv (s.get (bJ b))=true
 | 0,_,b,h=>by omega
 | n+1,hs,b,h=>by
  simp only[Gi,Bool.and_eq_true] at hs
  rcases Nat.lt_or_ge b n with q | q
  ·exact SN hs.2 b q
  ·have:b=n:=by omega
   subst this;exact hs.1
theorem UZ [cL] [FZ] {n:Nat} {s S:TS} {t:aK} {R:Exit→TS→Prop} (dF:S.B=[]) (aH:Fits s) (h:(Mv s S t).den R):Weak (s.ar n) (S.ar n)∧Fits S∧t.den R:=by
 obtain⟨h1,h2,aC,bg,dn,ch⟩:=h
 obtain⟨cy,hr⟩:=Tp ch
 have AQ:=Nat.eq_of_beq_eq_true h2
 have hQ: ∀k,(∃v,(k,v)∈S.T∧S.get k=v)∨S.get k= .u:=fun k=>by
  unfold TS.get;rw[dF];exact Yr ..
 have UR: ∀k,mR (s.get k).br (S.get k).br:=fun k=>by
  rcases hQ k with⟨v,hm,e⟩ | e
  ·rw[e];exact(cy k v hm).1
  ·rw[e];exact .inr (.inl rfl)
 have AX: ∀k,Oo (S.get k)=true→s.get k=S.get k:=fun k hk=>by
  rcases hQ k with⟨v,hm,e⟩ | e
  ·rw[e] at hk ⊢;exact(cy k v hm).2.2 hk
  ·rw[e] at hk;cases hk
 have ag8:Fits S:=fun V ids kY h' nW=>by
  have e:=AX dO (by rw[nW];rfl)
  obtain⟨q1,q2,q3⟩:=aH V ids kY h' (by rw[e,nW])
  exact⟨q1,q2,fun id xs iY=>q3 id xs (by rw[AX gG (by rw[iY];rfl),iY])⟩
 refine⟨acH dn (fun t _=>UR t) (Am S.vs s.vs) ?_ (fun v m aY hm=> ?_) AQ (fun b hb=> ?_),ag8,hr⟩
 ·rw[List.all_eq_true]
  intro a aw
  obtain⟨k,_,rfl⟩:=List.mem_map.1 (show a∈(List.range n).map fun t=>(S.get t).br from aw)
  rcases hQ k with⟨v,hm,e⟩ | e
  ·rw[e];exact List.all_eq_true.1 bg (k,v) hm
  ·rw[e];rfl
 ·have hs:=Lv aY (OL hm)
  cases U:l3 S.vs v with
  | none=>rw[U] at hs;cases hs
  | some fM=>
   have:=acg h1 v fM (OL U)
   rw[hm] at this
   cases this
   exact⟨rfl,fun c=>UR _⟩
 ·have hi:=SN aC b hb
  rcases hQ (bJ b) with⟨v,hm,e⟩ | e
  ·rw[e] at hi ⊢;exact(cy _ v hm).2.1 hi
  ·rw[e] at hi;cases hi
def G7 (s:TS):Nat→Nat→List (Nat×TV)
 | _,0=>[]
 | b,k+1=>(bJ b,s.get (bJ b))::G7 s (b+1) k
def ow (s S:TS):TS:=⟨S.T++G7 s S.be (s.be - S.be),[],S.vs,s.be⟩
def ZQ (n:Nat):TV→Bool
 | .fo _ c=>(cW c).all (sD n)
 | .lP _ _ _=>false
 | _=>true
def Tx (lc:Option Nat) (S:TS) (m:Nat):Bool:=match lc with
 | some k=>Nat.ble k S.be&&Nat.ble S.be m&&kp S&&S.T.all fun p=>BY S.be p.2.br&&ZQ S.be p.2
 | none=>false
def toHead (lc:Option Nat) (s S:TS) (t:aK):aK:=match Nat.beq S.be s.be with
 | true=>Mv s S t
 | false=>Mv s (ow s S) (.eq (ow s S).cl S.cl (.eq (Tx lc S s.be) true t))
theorem T2 (s:TS): ∀(k b:Nat) (j:Nat),(j<bJ b)→ ∀v,(j,v) ∉ G7 s b k
 | 0,b,j,h,v,hm=>by cases hm
 | k+1,b,j,h,v,hm=>by
  rcases List.mem_cons.1 hm with e | hm
  ·cases e;exact absurd h (Nat.lt_irrefl _)
  ·exact T2 s k (b+1) j (by unfold bJ at h ⊢;omega) v hm
theorem aqw {s S:TS} (dF:S.B=[]) {j:Nat} (h:j<bJ S.be):(ow s S).get j=S.get j:=by
 show hS (S.T++G7 s S.be (s.be - S.be)) j (hS [] j .u)=hS S.T j (hS S.B j .u)
 rw[y1,dF,wM (T2 s _ _ j h)]
theorem afr {n:Nat} (fr:Bool) (e:aX) (x:e.T):(cE fr e x).all (sD n)=true:=by cases e<;>rfl
theorem anr {n:Nat} {a:AV} (h:BY n a=true):sD n a=true:=by cases a<;>first | exact h | rfl
theorem toHead_sound [j0:cL] [FZ] {n:Nat} (ag:n≤1000000) {lc:Option Nat} (gN: ∀k,lc=some k→j0.n≤k) {s S:TS} {t:aK} {R:Exit→TS→Prop} (dF:S.B=[]) (aH:Fits s) (h:(toHead lc s S t).den R):Weak (s.ar n) (S.ar n)∧Fits S∧t.den R:=by
 unfold toHead at h
 split at h
 ·exact UZ dF aH h
 ·obtain⟨w,hf,hq,h1,h2⟩:=UZ (n:=n) (S:=ow s S) rfl aH h
  unfold Tx at h1
  split at h1
  ·rename_i k
   simp only[Bool.and_eq_true] at h1
   obtain⟨⟨⟨q1,q2⟩,q3⟩,q4⟩:=h1
   have q1:=Nat.le_of_ble_eq_true q1
   have q2:=Nat.le_of_ble_eq_true q2
   have az: ∀j,j<bJ S.be→(ow s S).get j=S.get j:=fun j h=>aqw dF h
   have HB: ∀b,b<S.be→bJ b<bJ S.be:=fun b h=>by unfold bJ;omega
   have H3:dO<bJ S.be:=by unfold dO bJ;omega
   have ahX:kp (ow s S)=true:=by rw[IP (az dO H3)];exact q3
   have eT:(ow s S).tT n=S.tT n:=List.map_congr_left fun t aO=>by rw[az t (by have:=List.mem_range.1 aO;unfold bJ;omega)]
   have hQ: ∀k,(∃v,(k,v)∈S.T∧S.get k=v)∨S.get k= .u:=fun k=>by
    unfold TS.get;rw[dF];exact Yr ..
   have MT: ∀k,BY S.be (S.get k).br=true∧ZQ S.be (S.get k)=true:=fun k=>by
    rcases hQ k with⟨v,hm,e⟩ | e
    ·have:=List.all_eq_true.1 q4 _ hm
     rw[Bool.and_eq_true] at this
     rw[e];exact this
    ·rw[e];exact⟨rfl,rfl⟩
   have aB: ∀b,((ow s S).ar n).H[b]?=if b<s.be then some ((ow s S).get (bJ b)).eG else none:=fun b=>by
    show((ow s S).gZ++h0 (ow s S))[b]?=_
    have:h0 (ow s S)=[]:=by unfold h0;rw[ahX]
    rw[this,List.append_nil,sK];rfl
   have TA:=Weak.cut (T:=S.tT n) (L:=S.cl) (H:=((ow s S).ar n).H) S.be (Nat.le_trans (gN k rfl) q1) (fun t=> ?_) (fun t cells hc=> ?_) (fun b blk hb DO row ak=> ?_)
   ·have aN:(ow s S).ar n=⟨S.tT n,S.cl,((ow s S).ar n).H⟩:=by rw[←eT,←hq];rfl
    have e2:(⟨S.tT n,S.cl,((ow s S).ar n).H.take S.be⟩:St)=S.ar n:=by
     show _=(⟨S.tT n,S.cl,S.gZ++h0 S⟩:St)
     have:h0 S=[]:=by unfold h0;rw[q3]
     rw[this,List.append_nil]
     congr 1
     apply List.ext_getElem?
     intro b
     rw[List.getElem?_take,aB,sK]
     by_cases hb:b<S.be
     ·rw[if_pos hb,if_pos (by omega),if_pos hb,az _ (HB b hb)]
     ·rw[if_neg hb,if_neg hb]
    rw[aN] at w
    rw[e2] at TA
    exact⟨w.trans TA,hf.congr fun k h1 h2=>(az k (by unfold bJ;omega)).symm,h2⟩
   ·have:=Fz (n:=n) (s:=S) t
    have this:(S.tT n).getD t .undef=_:=this
    rw[this]
    split
    ·exact(MT t).1
    ·rfl
   ·have:=zB (n:=n) (s:=S) t
    have this:eV S.cl t=_:=this
    rw[this] at hc
    cases hm:l3 S.vs t with
    | none=>rw[hm] at hc;cases hc
    | some m=>
     rw[hm] at hc
     cases hc
     rw[List.all_eq_true]
     intro a aw
     obtain⟨i,hi⟩:=List.mem_iff_getElem?.1 aw
     rw[GB] at hi
     split at hi
     ·cases hi;exact anr (MT _).1
     ·cases hi
   ·rw[aB,if_pos (by omega),az _ (HB b hb)] at DO
    cases DO
    have U:=(MT (bJ b)).2
    revert ak U
    cases S.get (bJ b) with
    | blk g e xs m h=>
     intro ak _
     obtain⟨x,_,rfl⟩:=List.mem_map.1 (show row∈xs.map (cE true e) from ak)
     exact afr true e x
    | fo g c=>
     intro ak U
     rw[List.mem_singleton.1 (show row∈[cW c] from ak)];exact U
    | lP g m ids=>intro _ U;cases U
    | _=>intro ak _;cases ak
  ·cases h1
def z7 (n:Nat):List (Nat×Nat×aX)→TS→(TS→aK)→aK
 | [],s,K=>K s
 | p::r,s,K=>
  let s1:=s.hC s.be (s.be+1) (.blk 0 p.2.2 [] 0 rfl)
  match p.1 with
  | 0=> .eq (vb (cP n s (.tmp p.2.1)).br) true (.eq s1.cl s.cl (.eq (kp s) true (z7 n r (lK n s1 (some p.2.1) (.ref s.be 0 0 false)) K)))
  | v+1=>
   let s2:=s1.add [(h4 v p.2.1,.ref s.be 0 0 false)] s1.vs s1.be
   match l3 s.vs v with
   | some m=> .eq (vb ((cW (ix s v 0 m)).getD p.2.1 .undef)) true (.eq s2.cl (mH s.cl v ((cW (ix s v 0 m)).set p.2.1 (.ref s.be 0 0 0 false))) (.eq (r6 [(h4 v p.2.1,.ref s.be 0 0 false)]) true (.eq (kp s) true (z7 n r s2 K))))
   | none=> .no
theorem Gh [cL] [FZ] {n:Nat} (ag:n≤1000000) {R:Exit→TS→Prop} {K:TS→aK}: ∀{l:List (Nat×Nat×aX)} {s:TS},Fits s→(z7 n l s K).den R→ ∃s',Weak (s.ar n) (s'.ar n)∧Fits s'∧(K s').den R
 | [],s,aH,h=>⟨s,.refl _,aH,h⟩
 | (p,q,e)::r,s,aH,h=>by
  unfold z7 at h
  simp only at h
  split at h
  ·obtain⟨h1,h2,dn,h⟩:=h
   obtain⟨s',w,hf,h⟩:=Gh ag (ET ag (sY aH)) h
   refine⟨s',Weak.trans ?_ w,hf,h⟩
   have cd:(cP n s (.tmp q)).br=(s.ar n).T.getD q .undef:=(congrFun (mw n s) (.tmp q)).symm
   rw[cd] at h1
   have:=Weak.adH q e.nD (L:=(s.ar n).L) (H:=(s.ar n).H) h1
   rw[EU ag]
   show Weak _ ⟨putA ((s.hC s.be (s.be+1) _).tT n) _ _,(s.hC s.be (s.be+1) _).cl,((s.hC s.be (s.be+1) _).ar n).H⟩
   rw[sX ag,h2,Gw dn]
   rw[JN dn] at this
   exact this
  ·rename_i v
   split at h
   ·rename_i m hm
    obtain⟨h1,h2,dF,dn,h⟩:=h
    obtain⟨s',w,hf,h⟩:=Gh ag (Dh dF (sY aH)) h
    refine⟨s',Weak.trans ?_ w,hf,h⟩
    have:=Weak.xU v q e.nD (T:=(s.ar n).T) (H:=(s.ar n).H) (show eV (s.ar n).L v=some (cW (ix s v 0 m)) by rw[zB,hm];rfl) h1
    rw[JN dn] at this
    show Weak _ ⟨(TS.add _ _ _ _).tT n,(TS.add _ _ _ _).cl,((TS.add _ _ _ _).ar n).H⟩
    rw[h2,Dg ag dF,sX ag]
    have dc:=Df (n:=n) (s:=s.hC s.be (s.be+1) (.blk 0 e [] 0 rfl)) (vs:=(s.hC s.be (s.be+1) (.blk 0 e [] 0 rfl)).vs) dF
    rw[dc,Gw dn]
    exact this
   ·exact h.elim
theorem afq {e:aX} (h:e.rC=true) (x:e.T): ∀a∈cE true e x,kK a=true∧qt a=true:=by
 have key:(cE true e x).all (fun a=>kK a&&qt a)=true:=by cases e<;>first | rfl | cases h
 intro a aw
 have:=List.all_eq_true.1 key a aw
 rwa [Bool.and_eq_true] at this
theorem aqc (e:aX) (x:e.T):(cE true e x).map kd=cE false e x:=by
 rw[←pv,←pv]
 have key: ∀(es:List aX) (y:cD es),(j5 true es y).map kd=j5 false es y:=by
  intro es
  induction es with
  | nil=>intro y;rfl
  | cons e r bp=>
   intro y
   show kd (kM true e y.1)::(j5 true r y.2).map kd=_
   rw[bp,j5]
   congr 1
   cases e<;>rfl
 exact key _ _
def DB (lc:Option Nat) (n:Nat):List (Nat×Nat)→TS→(TS→aK)→aK
 | [],s,K=>K s
 | p::r,s,K=>match s.get (match p.1 with
   | 0=>p.2
   | v+1=>h4 v p.2) with
  | .ref b g m _=>(match lc with
   | some k=>(match Nat.ble k b with
    | true=>uB s b g fun e xs fM h=>
     let s1:=s.hC b s.be (.blk (g+1) e [] 0 rfl)
     match p.1 with
     | 0=> .eq (Nat.blt p.2 n) true (.eq fM m (.eq e.rC true (.eq s1.cl s.cl (.p (xs.length≤4611686018427387904) (DB lc n r (lK n s1 (some p.2) (.l e xs false true)) K)))))
     | v+1=>
      let s2:=s1.add [(h4 v p.2,.l e xs false true)] s1.vs s1.be
      match l3 s.vs v with
      | some im=> .eq (Nat.blt p.2 im&&r6 [(h4 v p.2,TV.l e xs false true)]) true (.eq fM m (.eq e.rC true (.eq s2.cl (mH s.cl v ((cW (ix s v 0 im)).set p.2 (TV.l e xs false true).br)) (.p (xs.length≤4611686018427387904) (DB lc n r s2 K)))))
      | none=> .no
    | false=> .no)
   | none=> .no)
  | _=> .no
theorem L4 [j0:cL] [FZ] {n:Nat} (ag:n≤1000000) {lc:Option Nat} (gN: ∀k,lc=some k→j0.n≤k) {R:Exit→TS→Prop} {K:TS→aK}: ∀{l:List (Nat×Nat)} {s:TS},Fits s→(DB lc n l s K).den R→ ∃s',Weak (s.ar n) (s'.ar n)∧Fits s'∧(K s').den R
 | [],s,aH,h=>⟨s,.refl _,aH,h⟩
 | (p,q)::r,s,aH,h=>by
  unfold DB at h
  simp only at h
  split at h
  ·rename_i b g m ee pE
   split at h
   ·rename_i k
    split at h
    ·rename_i HB
     have UN:=Nat.le_trans (gN k rfl) (Nat.le_of_ble_eq_true HB)
     obtain⟨e,xs,fM,hm,h,hb,aB⟩:=Ac (n:=n) h
     have gU: ∀row∈xs.map (cE true e),e.rC=true→ ∀a∈row,kK a=true∧qt a=true:=fun row ak aj a aw=>by
      obtain⟨x,_,rfl⟩:=List.mem_map.1 ak
      exact afq aj x a aw
     have tn:(xs.map (cE true e)).map (fun row=>row.map kd)=xs.map (cE false e):=by
      rw[List.map_map];exact List.map_congr_left fun x _=>aqc e x
     cases p with
     | zero=>
      obtain⟨aA,h1,h2,aC,bg,h⟩:=h
      replace pE:s.get q= .ref b g m ee:=pE
      obtain⟨s',w,hf,h⟩:=L4 ag gN (ET ag (sY aH)) h
      refine⟨s',Weak.trans ?_ w,hf,h⟩
      have U:q<n:=by rw[Nat.blt_eq] at aA;exact aA
      have cd:(s.ar n).T.getD q .undef= .ref b g 0 m ee:=by
       rw[Fz,if_pos U,pE];rfl
      have:=Weak.agx q (L:=(s.ar n).L) cd (by rw[List.length_map,←h1];exact hm.symm) aB UN (fun row ak a aw=>gU row ak h2 a aw) (by rw[List.length_map];exact bg)
      rw[tn] at this
      rw[EU ag]
      show Weak _ ⟨putA ((s.hC b s.be _).tT n) _ _,(s.hC b s.be _).cl,((s.hC b s.be _).ar n).H⟩
      rw[sX ag,aC,Ab hb]
      exact this
     | succ v=>
      replace pE:s.get (h4 v q)= .ref b g m ee:=pE
      simp only at h
      split at h
      ·rename_i im uR
       obtain⟨aA,h1,h2,aC,bg,h⟩:=h
       rw[Bool.and_eq_true,Nat.blt_eq] at aA
       obtain⟨s',w,hf,h⟩:=L4 ag gN (Dh aA.2 (sY aH)) h
       refine⟨s',Weak.trans ?_ w,hf,h⟩
       have hc:eV (s.ar n).L v=some (cW (ix s v 0 im)):=by rw[zB,uR];rfl
       have cd:(cW (ix s v 0 im)).getD q .undef= .ref b g 0 m ee:=by
        rw[List.getD_eq_getElem?_getD,GB,if_pos aA.1,Nat.zero_add,pE];rfl
       have:=Weak.agw v q (T:=(s.ar n).T) hc cd (by rw[List.length_map,←h1];exact hm.symm) aB UN (fun row ak a aw=>gU row ak h2 a aw) (by rw[List.length_map];exact bg)
       rw[tn] at this
       show Weak _ ⟨(TS.add _ _ _ _).tT n,(TS.add _ _ _ _).cl,((TS.add _ _ _ _).ar n).H⟩
       have dc:=Df (n:=n) (s:=s.hC b s.be (.blk (g+1) e [] 0 rfl)) (vs:=(s.hC b s.be (.blk (g+1) e [] 0 rfl)).vs) aA.2
       rw[aC,Dg ag aA.2,sX ag,dc,Ab hb]
       exact this
      ·exact h.elim
    ·exact h.elim
   ·exact h.elim
  ·exact h.elim
def W8 (k:Nat):List (Nat×TV)→Bool
 | []=>false
 | p::r=>match Nat.beq p.1 k with
  | true=>true
  | false=>W8 k r
def Ox (s:TS) (iz:List (Nat×TV)):List Nat→List (Nat×TV)
 | []=>[]
 | k::r=>match W8 k iz with
  | true=>Ox s iz r
  | false=>(k,s.get k)::Ox s iz r
def acE (v:Nat):Nat→Nat→List Nat
 | _,0=>[]
 | c,m+1=>h4 v c::acE v (c+1) m
def Xe:List (Nat×Nat)→List Nat
 | []=>[]
 | p::r=>acE p.1 0 p.2++Xe r
def S_:Nat→List Nat
 | 0=>[]
 | b+1=>bJ b::S_ b
def fz (cT:List Nat) (mu:List (Nat×Nat)) (k:Nat) (I:Int→Prop) (m:Int→Nat) (b:Int→mP):mP:= .lp [] cT mu [.int] [k] (fun v=>[(k,.i .i64 v.1)]) (fun v=>I v.1) (fun v=>m v.1) fun v=>b v.1
def aK.G8:aK→Bool
 | .l2 ex _=>(match ex with
  | .normal=>false
  | _=>true)
 | .iv | .no | .all _ _=>false
 | .p _ t | .k9 _ t | .eq _ _ t=>t.G8
 | .j7 _ _ x y | .two x y | .il x _ _ y=>(match x.G8 with
  | true=>true
  | false=>y.G8)
def yd:Code→Bool
 | .loop _=>true
 | .seq x y=>yd x || yd y
 | .cond _ x y=>yd x || yd y
 | .block _ x=>yd x
 | .scope x=>yd x
 | _=>false
def LF (k0:List (List (Nat×TV)×List (Nat×TV))) (t:aK):aK:=match k0 with
 | []=>t
 | p::r=> .eq p.1 p.2 (LF r t)
theorem TM {R:Exit→TS→Prop} {t:aK}: ∀{k0:List (List (Nat×TV)×List (Nat×TV))},(LF k0 t).den R→(∀p∈k0,p.1=p.2)∧t.den R
 | [],h=>⟨(fun p h=>by cases h),h⟩
 | p::r,h=>by
  obtain⟨h1,h2⟩:=h
  obtain⟨aC,bg⟩:=TM h2
  exact⟨fun q U=>by
   rcases List.mem_cons.1 U with rfl | U
   ·exact h1
   ·exact aC q U,bg⟩
structure zU (P:Program) where
 len:List Nat
 afa:List (Nat×List Item×List (List Nat))
 rQ:List (vG P)
 JW:List (sP P)
 ZI:List (Nat×List (Nat×Nat)×List (Nat×Nat×aX))
def IE:List (Nat×List Item×List (List Nat))→Nat→(List Item→List (List Nat)→aK)→aK
 | [],_,_=> .no
 | p::r,id,K=>match Nat.beq p.1 id with
  | true=>K p.2.1 p.2.2
  | false=>IE r id K
def OK:List (Nat×List (Nat×Nat)×List (Nat×Nat×aX))→Nat→List (Nat×Nat)×List (Nat×Nat×aX)
 | [],_=>([],[])
 | p::r,id=>match Nat.beq p.1 id with
  | true=>p.2
  | false=>OK r id
section
variable {P:Program} (cf:hO P) (eN:zU P) (lc:Option Nat)
def DQ (s:TS) (cT:List Nat) (mu:List (Nat×Nat)) (iz:List (Nat×TV)):TS:=⟨iz++Ox s iz (cT++(Xe mu++(dO::S_ s.be))),[],mu,s.be⟩
def lh:Code→TS→mP→(Exit→TS→mP→aK)→aK
 | .skip,s,a,K=>K .normal s a
 | .ret,s,a,K=>K .ret s a
 | .exit id,s,a,K=>K (.exit id) s a
 | .region id ops draw,s,a,K=>DB lc cf.n (OK eN.ZI id).1 s fun s=>z7 cf.n (OK eN.ZI id).2 s fun s=>(match draw with
  | false=>Jj cf ⟨eN.len,eN.rQ,eN.JW⟩ ops ops.toList s fun s=>K .normal s a
  | true=>IE eN.afa id fun ord li=>Lt cf ⟨eN.len,eN.rQ,eN.JW⟩ ops ord li s fun s=>K .normal s a)
 | .seq x y,s,a,K=>(match yd x with
  | true=>lh x s a fun ex s a=>match ex with
   | .normal=>lh y s a K
   | ex=>K ex s a
  | false=>match(lh x s a fun ex s _=> .l2 ex s).oX with
   | .some S k0=>LF k0 (.il ((lh x s a fun ex s _=> .l2 ex s).bind fun ex s=>match ex with
    | .normal=> .iv
    | ex=>K ex s a.fst) (lh x s a fun ex s _=> .l2 ex s).facts (lh x s a fun ex s _=> .l2 ex s).mX (lh y S (match(lh x s a fun ex s _=> .l2 ex s).G8 with
    | true=>a.snd
    | false=>a) K))
   | _=>lh x s a fun ex s a=>match ex with
    | .normal=>lh y s a K
    | ex=>K ex s a)
 | .cond c x y,s,a,K=>(match cP cf.n s c with
  | .b z=>JJ z s fun b s=>match b with
   | true=>lh x s a.fst K
   | false=>lh y s a.snd K
  | _=> .no)
 | .block id c,s,a,K=>lh c s a fun ex s a=>match ex with
  | .exit gm=>(match Nat.beq gm id with
   | true=>K .normal s a
   | false=>K (.exit gm) s a)
  | ex=>K ex s a
 | .loop c,s,a,K=>(match a with
  | .lp nn cT mu lU rd iz I m b=>z7 cf.n nn s fun s=>Jd s lU rd fun v0=>toHead lc s (DQ s cT mu (iz v0)) (.p (I v0) (KM lU fun v=> .k9 (I v) (lh c (DQ s cT mu (iz v)) (b v) fun ex s' a=>match ex with
   | .normal=>Jd s' lU rd fun ea=>toHead lc s' (DQ s cT mu (iz ea)) (.p (I ea∧m ea<m v) .iv)
   | ex=>K ex s' a)))
  | _=> .no)
 | _,_,_,_=> .no
end
section
variable {P:Program} {cf:hO P} {eN:zU P}
theorem alU {R:Exit→TS→Prop} {l:List (Nat×List Item×List (List Nat))} {id:Nat} {K:List Item→List (List Nat)→aK} (h:(IE l id K).den R): ∃o A,(K o A).den R:=by
 induction l with
 | nil=>exact h.elim
 | cons p r bp=>
  unfold IE at h
  split at h
  ·exact⟨_,_,h⟩
  ·exact bp h
theorem afb [cL] (ag:cf.n≤1000000) {eN:sQ P} {R:Exit→TS→Prop} {ops:Array Oper} {ord:List Item} {li:List (List Nat)} {s:TS} {K:TS→aK} {Q:Exit→St→Prop} {id:Nat} (hK: ∀s (Z:FZ),(K s).den R→ @Fits Z s→Q .normal (@TS.ar Z cf.n s)) (Z:FZ) (aH:Fits s) (h:(Lt cf eN ops ord li s K).den R):WpS P (.region id ops true) Q (s.ar cf.n):=by
 unfold Lt at h
 simp only at h
 split at h
 ·exact h.elim
 ·rename_i hb
  obtain⟨h1,h2,aC,bg,ch,hr,uM,h⟩:=h
  rw[JM]
  refine WpS.Z4 (esc:=[]) ord li h1 h2 aC rfl _ hr uM ?_
  have:=Z8 ag (Kp:=fun T L H=>Q .normal ⟨T,L,H⟩) (fun s Z hs hf=>hK s Z hs hf) ord Z _ (Dh hb aH) bg h
  rw[ch,Df hb,Dg ag hb] at this
  exact this
theorem acI [j0:cL] (ag:cf.n≤1000000) {lc:Option Nat} (gN: ∀k,lc=some k→j0.n≤k): ∀(c:Code) {R:Exit→TS→Prop} {s:TS} {a:mP} {K:Exit→TS→mP→aK} {Q:Exit→St→Prop},(∀ex s a (Z:FZ),(K ex s a).den R→ @Fits Z s→Q ex (@TS.ar Z cf.n s))→ ∀Z:FZ,@Fits Z s→(lh cf eN lc c s a K).den R→WpS P c Q (@TS.ar Z cf.n s):=by
 intro c
 induction c with
 | skip=>intro R s a K Q hK Z aH h;exact WpS.skip (hK _ _ _ Z h aH)
 | ret=>intro R s a K Q hK Z aH h;exact WpS.ret (hK _ _ _ Z h aH)
 | exit id=>intro R s a K Q hK Z aH h;exact WpS.exit (hK _ _ _ Z h aH)
 | region id ops draw=>
  intro R s a K Q hK Z aH h
  obtain⟨s1,bq,qD,h⟩:=L4 ag gN aH h
  obtain⟨s2,bo,qE,h⟩:=Gh ag qD h
  refine WpS.nQ ?_ (bq.trans bo)
  cases draw with
  | false=>
   rw[JM]
   refine WpS.Z5 (esc:=[]) rfl ?_
   exact PG ag (Kp:=fun T L H=>Q .normal ⟨T,L,H⟩) (fun s Z hs hf=>hK _ s _ Z hs hf) ops.toList Z s2 qE h
  | true=>
   obtain⟨ord,li,h⟩:=alU h
   exact afb ag (fun s Z hs hf=>hK _ s _ Z hs hf) Z qE h
 | cond c x y iD ij=>
  intro R s a K Q hK Z aH h
  unfold lh at h
  split at h
  ·rename_i z ts
   obtain⟨s',aN,e2,h⟩:=RD (n:=cf.n) h
   have hf:=aH.congr fun k _ _=>e2 k
   rw[←aN]
   have hc:ci (s'.ar cf.n).T c= .bool z.den:=by
    rw[aN,congrFun (mw cf.n s) c]
    show(cP cf.n s c).br=_
    rw[ts];rfl
   refine WpS.cond ?_
   rw[hc]
   refine⟨fun hb=> ?_,fun hb=> ?_⟩
   ·rw[hb] at h;exact iD hK Z hf h
   ·rw[hb] at h;exact ij hK Z hf h
  ·exact h.elim
 | block id c bp=>
  intro R s a K Q hK Z aH h
  refine WpS.block (bp (K:=fun ex s a=>match ex with
   | .exit gm=>(match Nat.beq gm id with
    | true=>K .normal s a
    | false=>K (.exit gm) s a)
   | ex=>K ex s a) (fun ex s a Z hs hf=> ?_) Z aH h)
  cases ex with
  | exit gm=>
   show if gm=id then _ else _
   have hs:(match Nat.beq gm id with
    | true=>K .normal s a
    | false=>K (.exit gm) s a).den R:=hs
   split at hs
   ·rename_i hb;rw[if_pos (Nat.eq_of_beq_eq_true hb)];exact hK _ _ _ Z hs hf
   ·rename_i hb
    rw[if_neg fun e=>by subst e;rw[Nat.beq_refl] at hb;cases hb];exact hK _ _ _ Z hs hf
  | _=>exact hK _ _ _ Z hs hf
 | seq x y VK VL=>
  intro R s a K Q hK Z aH h
  have Tv:(lh cf eN lc x s a fun ex s a=>match ex with
   | .normal=>lh cf eN lc y s a K
   | ex=>K ex s a).den R→WpS P (.seq x y) Q (s.ar cf.n):=fun h=>by
   refine WpS.seq (VK (fun ex s a Z hs hf=> ?_) Z aH h)
   cases ex with
   | normal=>exact VL hK Z hf hs
   | _=>exact hK _ _ _ Z hs hf
  unfold lh at h
  split at h
  ·exact Tv h
  ·split at h
   ·rename_i S k0 hm
    obtain⟨U,h⟩:=TM h
    obtain⟨h1,h2⟩:=h
    rw[aK.ad4] at h1
    have aC:=aK.al9 hm U h1
    refine WpS.seq (VK (K:=fun ex s _=> .l2 ex s) (fun ex s' hB Z hs hf=> ?_) Z aH aC)
    have hs:_∧(ex= .normal→s'.hp S∧_∧_):=hs
    cases ex with
    | normal=>
     obtain⟨q1,q2,q3⟩:=hs.2 rfl
     exact WpS.nQ (VL hK Z (hf.le q1) (h2 (afF q3 q2))) (aqu ag q1)
    | _=>exact hK _ _ _ Z hs.1 hf
   ·exact Tv h
 | loop c bp=>
  intro R s a K Q hK Z aH h
  unfold lh at h
  split at h
  ·rename_i nn cT mu lU rd iz I m b
   obtain⟨s1,bq,qD,h⟩:=Gh ag aH h
   obtain⟨v0,h⟩:=Pv h
   obtain⟨bo,qE,h⟩:=toHead_sound (n:=cf.n) ag gN rfl qD h
   obtain⟨aA,h⟩:=h
   have hv:=SO h
   refine WpS.Yt (V:=cD lU×FZ) (fun v=> @TS.ar v.2 cf.n (DQ s1 cT mu (iz v.1))) (fun v=>I v.1∧ @Fits v.2 (DQ s1 cT mu (iz v.1))) (fun v=>m v.1) rfl (v0,Z) (bq.trans bo) ⟨aA,qE⟩ fun v aT=> ?_
   refine bp (fun ex s' a Z' hs hf=> ?_) v.2 aT.2 (hv v.1 aT.1)
   cases ex with
   | normal=>
    obtain⟨ea,hs⟩:=Pv hs
    obtain⟨bK,Hr,hs⟩:=toHead_sound (n:=cf.n) ag gN rfl hf hs
    exact⟨(ea,Z'),⟨hs.1.1,Hr⟩,hs.1.2,bK⟩
   | _=>exact hK _ _ _ Z' hs hf
  ·exact h.elim
 | _=>intro R s a K Q hK Z aH h;exact h.elim
end
def BJ:(e:aX)→e.T→TV
 | .ptr e,x=> .dv e x 0
 | .j4 f .unit,_=> .fn f []
 | .j4 f e,x=> .fn f [BJ e x]
 | e,x=>match e.isS with
  | true=> .agg (kL false e x)
  | false=>FH false e x
theorem amM: ∀(e:aX) (x:e.T),(BJ e x).br=qs e x:=by
 have bk: ∀(e:aX) (x:e.T),(match e.isS with
  | true=>TV.agg (kL false e x)
  | false=>FH false e x).br=match e.isS with
  | true=> .agg (cE false e x)
  | false=>kM false e x:=fun e x=>by
  cases e.isS with
  | true=>show AV.agg (cW _)=_;rw[GA]
  | false=>exact RZ false e x
 intro e
 induction e with
 | j4 f e bp=>
  intro x
  have key:BJ (.j4 f e) x= .fn f [BJ e x]→qs (.j4 f e) x= .fn f [qs e x]→(BJ (.j4 f e) x).br=qs (.j4 f e) x:=fun h1 h2=>by
   rw[h1,h2,←bp x];rfl
  cases e with
  | unit=>rfl
  | _=>exact key rfl rfl
 | ptr e bp=>intro x;rfl
 | _=>intro x;exact bk _ x
def zb:Nat→(es:List aX)→cD es→List (Nat×TV)
 | _,[],_=>[]
 | i,e::r,x=>(i,BJ e x.1)::zb (i+1) r x.2
def ry (ps:List aX) (x:cD ps):TS:=⟨zb 0 ps x,[],[],0⟩
theorem Zh: ∀(es:List aX) (x:cD es) (i t:Nat),(hS (zb i es x) t .u).br=if t<i then .undef else(pw es x).getD (t - i) .undef
 | [],x,i,t=>by
  show AV.undef=_
  split<;>simp[pw]
 | e::r,x,i,t=>by
  rw[zb,h5,pw]
  by_cases h:i=t
  ·subst h
   rw[if_pos rfl,if_neg (by omega),Nat.sub_self,amM];rfl
  ·rw[if_neg h,Zh r x.2 (i+1) t]
   by_cases h2:t<i
   ·rw[if_pos (by omega),if_pos h2]
   ·rw[if_neg (by omega),if_neg h2,show t - i=(t - (i+1))+1 by omega];rfl
theorem TI: ∀(es:List aX) (x:cD es),(pw es x).length=es.length
 | [],_=>rfl
 | e::r,x=>by rw[pw,List.length_cons,List.length_cons,TI r]
theorem On (ps:List aX) (x:cD ps) (h:ps.length≤1000000):kp (ry ps x)=true:=by
 have key: ∀(es:List aX) (y:cD es) (i:Nat),i+es.length≤1000000→ ∀v,(dO,v) ∉ zb i es y:=by
  intro es
  induction es with
  | nil=>intro y i _ v hv;cases hv
  | cons e r bp=>
   intro y i hi v hv
   simp only[List.length_cons] at hi
   rcases List.mem_cons.1 hv with e | hv
   ·injection e with e _;unfold dO at e;omega
   ·exact bp y.2 (i+1) (by omega) v hv
 unfold kp
 have:(ry ps x).get dO= .u:=by
  show hS (zb 0 ps x) dO (hS [] dO .u)=_
  rw[wM (key ps x 0 (by omega))];rfl
 rw[this]
theorem W9 [FZ] {fn:Func} {ps:List aX} {x:cD ps} (h:ps.length≤fn.ntmps) (au:ps.length≤1000000):Iu fn (pw ps x) []=(ry ps x).ar fn.ntmps:=by
 have cd:pw ps x++List.replicate (fn.ntmps - (pw ps x).length) AV.undef=((ry ps x).ar fn.ntmps).T:=by
  apply List.ext_getElem?
  intro t
  show _=((List.range fn.ntmps).map fun t=>((ry ps x).get t).br)[t]?
  rw[List.getElem?_map]
  rcases Nat.lt_or_ge t fn.ntmps with au | au
  ·rw[List.getElem?_range au]
   show _=some (hS (zb 0 ps x) t .u).br
   rw[Zh,if_neg (by omega),Nat.sub_zero]
   rcases Nat.lt_or_ge t (pw ps x).length with h1 | h1
   ·rw[List.getElem?_append_left h1,List.getD_eq_getElem?_getD,List.getElem?_eq_getElem h1];rfl
   ·rw[List.getElem?_append_right h1,List.getElem?_replicate,if_pos (by omega),List.getD_eq_getElem?_getD,List.getElem?_eq_none h1];rfl
  ·rw[List.getElem?_eq_none (l:=List.range fn.ntmps) (by simpa using au),List.getElem?_eq_none]
   ·rfl
   ·rw[List.length_append,List.length_replicate,TI];omega
 have aB:((ry ps x).ar fn.ntmps).H=[]:=by
  show(ry ps x).gZ++h0 (ry ps x)=[]
  unfold h0;rw[On ps x au];rfl
 show(⟨_,[],[]⟩:St)=⟨((ry ps x).ar fn.ntmps).T,[],((ry ps x).ar fn.ntmps).H⟩
 rw[cd,aB]
def Hd (s:TS):(e:aX)→TV→e.T→aK→aK
 | .int,v,r,t=>(match v with
  | .i k m=>if k= .i64 then .p (m=r) t else .no
  | _=> .no)
 | .u64,v,r,t=>(match v with
  | .i k m=>if k= .u64 then .p (m=r) t else .no
  | _=> .no)
 | .bool,v,r,t=>(match v with
  | .b x=> .p (x.den=r) t
  | _=> .no)
 | .str,v,r,t=>(match v with
  | .s x=> .p (x=r) t
  | _=> .no)
 | .l e,v,r,t=>(match v with
  | .l bX xs _ fr=>(match fr with
   | true=>if h:bX=e then .p (ns h xs=r) t else .no
   | false=> .no)
  | .nil _ _=> .p ([]=r) t
  | .ref b g m _=>uB s b g fun bX xs fM _=>if h:bX=e then .eq e.rC true (.eq fM m (.p (xs.length≤4611686018427387904∧ns h xs=r) t)) else .no
  | _=> .no)
 | _,_,_,_=> .no
def LW (s:TS):(es:List aX)→List TV→cD es→aK→aK
 | [],[],_,t=>t
 | e::r,v::vs,x,t=>Hd s e v x.1 (LW s r vs x.2 t)
 | _,_,_,_=> .no
def He (s:TS) (e:aX) (v:TV) (r:e.T) (t:aK):aK:=match e.isS with
 | true=>(match v with
  | .agg c=>LW s e.bN c (e.un r) t
  | _=> .no)
 | false=>Hd s e v r t
def LV (s:TS):(es:List aX)→List TV→cD es→aK→aK
 | [],[],_,t=>t
 | e::r,v::vs,x,t=>He s e v x.1 (LV s r vs x.2 t)
 | _,_,_,_=> .no
def Py (P:Program) (n:Nat) (s:TS):ResultVar→TV
 | .tmp t=>cP n s (.tmp t)
 | .cell a t=>(match cP n s (.tmp a) with
  | .lp v c=>(match l3 s.vs v with
   | some m=>zF P t (ix s v 0 m) c
   | none=> .u)
  | _=> .u)
def uG (P:Program) (n:Nat) (fn:Func) (rs:List aX) (r:cD rs) (s:TS):aK:=
 let vs:=fn.results.toList.map (Py P n s)
 .eq (fun H Q=>vn P ⟨s.tT n,s.cl,H⟩ fn.results.toList Q) (fun _ Q=>Q (cW vs)) (.eq ((cW vs).all lF) true (LV s rs vs r .iv))
section
variable {n:Nat} {s:TS} {R:Exit→TS→Prop} {t:aK}
theorem aez {H:List Blk} (e:aX) (x:e.T) (h:e.rC=true):l_ H (cE true e x) (cE false e x):=by
 cases e with
 | int=>exact aeg x
 | u64=>exact .cons (.int _ _) rfl .nil
 | u8=>exact aei x
 | bool=>exact vU x
 | str=>exact aeh x
 | bi=>exact Te x
 | e6=>exact aej x
 | eO=>exact .cons (.int _ _) rfl (.cons (lV _) rfl (.cons (lV _) rfl (.cons (lV _) rfl (.cons (.int _ _) rfl .nil))))
 | fQ=>exact aee x
 | e0=>exact x0 x
 | held=>exact aef x
 | frame=>exact .cons (.bool _) rfl (.cons (lV _) rfl (.cons (lV _) rfl (.cons (lV _) rfl .nil)))
 | done=>exact aed x
 | fault=>exact .cons (.int _ _) rfl (.cons (.int _ _) rfl .nil)
 | stays=>exact .cons (lV _) rfl (.cons (lV _) rfl (.cons (lV _) rfl .nil))
 | fU=>exact .cons (lV _) rfl (.cons (.int _ _) rfl (.cons (.int _ _) rfl .nil))
 | l e=>exact .cons (lV _) rfl .nil
 | _=>cases h
end
section
variable [FZ] {n:Nat} {s:TS} {R:Exit→TS→Prop} {t:aK}
theorem T6 {e:aX} {v:TV} {r:e.T} (h:(Hd s e v r t).den R):gT (s.ar n).H v.br (kM true e r)∧t.den R:=by
 cases e with
 | int=>
  have h:(match v with
   | .i k m=>if k=IntKind.i64 then aK.p (m=r) t else .no
   | _=> .no).den R:=h
  split at h
  ·split at h
   ·rename_i hk;subst hk;exact⟨Ct h.1,h.2⟩
   ·exact h.elim
  ·exact h.elim
 | u64=>
  have h:(match v with
   | .i k m=>if k=IntKind.u64 then aK.p (m=r) t else .no
   | _=> .no).den R:=h
  split at h
  ·split at h
   ·rename_i hk;subst hk;exact⟨Ct h.1,h.2⟩
   ·exact h.elim
  ·exact h.elim
 | bool=>
  have h:(match v with
   | .b x=>aK.p (x.den=r) t
   | _=> .no).den R:=h
  split at h
  ·exact⟨pe h.1,h.2⟩
  ·exact h.elim
 | str=>
  have h:(match v with
   | .s x=>aK.p (x=r) t
   | _=> .no).den R:=h
  split at h
  ·exact⟨apH h.1,h.2⟩
  ·exact h.elim
 | l e=>
  have h:(match v with
   | .l bX xs _ fr=>(match fr with
    | true=>if h:bX=e then aK.p (ns h xs=r) t else .no
    | false=> .no)
   | .nil _ _=> .p ([]=r) t
   | .ref b g m _=>uB s b g fun bX xs fM _=>if h:bX=e then .eq e.rC true (.eq fM m (.p (xs.length≤4611686018427387904∧ns h xs=r) t)) else .no
   | _=> .no).den R:=h
  split at h
  ·split at h
   ·split at h
    ·rename_i he;subst he;exact⟨apG (e:=cE false _) h.1,h.2⟩
    ·exact h.elim
   ·exact h.elim
  ·exact⟨ub (e:=cE false e) h.1,h.2⟩
  ·rename_i b g m ee
   obtain⟨bX,xs,fM,hm,h,hb,aB⟩:=Ac (n:=n) h
   split at h
   ·rename_i he
    subst he
    obtain⟨aA,h1,h2,aC⟩:=h
    subst h1
    subst hm
    exact⟨ab9 (eT:=cE true bX) (eF:=cE false bX) aB (fun x=>aez bX x aA) h2,aC⟩
   ·exact h.elim
  ·exact h.elim
 | _=>exact h.elim
theorem T8: ∀{es:List aX} {vs:List TV} {r:cD es},(LW s es vs r t).den R→ah (gT (s.ar n).H) (cW vs) (j5 true es r)∧t.den R
 | [],[],_,h=>⟨ah.nil,h⟩
 | e::r,v::vs,x,h=>by
  obtain⟨h1,h2⟩:=T6 (n:=n) (show(Hd s e v x.1 _).den R from h)
  obtain⟨aC,bg⟩:=T8 h2
  exact⟨ah.cons h1 aC,bg⟩
 | [],_::_,_,h=>h.elim
 | _::_,[],_,h=>h.elim
theorem afP {e:aX} {v:TV} {r:e.T} (h:(He s e v r t).den R):xQ (s.ar n).H v.br (px e r)∧t.den R:=by
 unfold He at h
 unfold px
 cases dr:e.isS with
 | true=>
  rw[dr] at h
  simp only at h
  split at h
  ·rename_i c
   obtain⟨h1,h2⟩:=T8 (n:=n) h
   refine⟨.inl ⟨cW c,cE true e r,rfl,rfl,?_⟩,h2⟩
   rw[←pv];exact h1
  ·exact h.elim
 | false=>
  rw[dr] at h
  obtain⟨h1,h2⟩:=T6 (n:=n) h
  exact⟨.inr h1,h2⟩
theorem T7: ∀{es:List aX} {vs:List TV} {r:cD es},(LV s es vs r t).den R→ah (xQ (s.ar n).H) (cW vs) (r8 es r)∧t.den R
 | [],[],_,h=>⟨ah.nil,h⟩
 | e::r,v::vs,x,h=>by
  obtain⟨h1,h2⟩:=afP (n:=n) (show(He s e v x.1 _).den R from h)
  obtain⟨aC,bg⟩:=T7 h2
  exact⟨ah.cons h1 aC,bg⟩
 | [],_::_,_,h=>h.elim
 | _::_,[],_,h=>h.elim
theorem LX {P:Program} {fn:Func} {rs:List aX} {r:cD rs} (h:(uG P n fn rs r s).den R):xb P fn (s.ar n) fun v H=>ie H v (s5 rs r):=by
 unfold uG at h
 simp only at h
 obtain⟨h1,h2,aC⟩:=h
 unfold xb
 have pB:vn P (s.ar n) fn.results.toList=_:=congrFun h1 (s.ar n).H
 rw[congrFun pB]
 refine⟨h2,?_⟩
 obtain⟨bg,_⟩:=T7 (n:=n) aC
 have key: ∀(rs:List aX) (r:cD rs) (l:List AV),ah (xQ (s.ar n).H) l (r8 rs r)→ie (s.ar n).H (ug l) (s5 rs r):=by
  intro rs r l ab
  match rs,r,l with
  | [],_,[]=>exact .inl ⟨[],[],rfl,rfl,ah.nil⟩
  | [],_,_::_=>have:=ab.1;simp[r8] at this
  | [e],r,[]=>have:=ab.1;simp[r8] at this
  | [e],r,[v]=>exact .inr ab.head
  | [e],r,_::_::_=>have:=ab.1;simp[r8] at this
  | e::bX::rs,r,[]=>have:=ab.1;simp[r8] at this
  | e::bX::rs,r,[v]=>have:=ab.1;simp[r8] at this
  | e::bX::rs,r,v::w::l=>exact .inl ⟨_,_,rfl,rfl,ab⟩
 exact key rs r _ bg
end
def RV {P:Program} (cf:hO P) (eN:zU P) (fn:Func) (ps rs:List aX) (x:cD ps) (r:cD rs) (a:mP):aK:=lh cf eN (some 0) (jK fn) (ry ps x) a fun ex s _=>match ex with
 | .normal=>uG P cf.n fn rs r s
 | .ret=>uG P cf.n fn rs r s
 | _=> .no
theorem bn.run {P:Program} {f:FuncId} {fn:Func} {ps rs:List aX} {x:cD ps} {r:cD rs} (cf:hO P) (eN:zU P) (a:mP) {C:Prop} (hf:P.funcs[f]?=some fn) (h:C) (e:C=(RV cf eN fn ps rs x r a).qn.den:=by kernel_rfl)
  (e2:(RV cf eN fn ps rs x r a).lhs=(RV cf eN fn ps rs x r a).rhs:=by kernel_rfl) (hb:fn.body=some (jK fn):=by kernel_rfl) (hm:(fn.name== "runtime.NumGoroutine")=false:=by kernel_rfl)
  (ag:(Nat.beq cf.n fn.ntmps&&Nat.ble cf.n 1000000&&Nat.ble ps.length cf.n)=true:=by kernel_rfl):bn P f (pw ps x) (s5 rs r):=by
 simp only[Bool.and_eq_true] at ag
 have h1:=Nat.eq_of_beq_eq_true ag.1.1
 have h2:=Nat.le_of_ble_eq_true ag.1.2
 have aC:=Nat.le_of_ble_eq_true ag.2
 refine c8.O0 hf hb hm fun j0 gN=> ?_
 rw[@W9 ⟨[],[]⟩ fn ps x (by rw[←h1];exact aC) (by omega),←h1]
 refine acI h2 (fun k e=>by cases e;rw[gN];exact Nat.le_refl _) (jK fn) (R:=fun _ _=>True) (K:=fun ex s _=>match ex with
  | .normal=>uG P cf.n fn rs r s
  | .ret=>uG P cf.n fn rs r s
  | _=> .no) (fun ex s _ Z hs hf=> ?_) ⟨[],[]⟩ (@Fits.none ⟨[],[]⟩ _ (On ps x (by omega))) (aK.full (e▸h) e2)
 cases ex with
 | normal=>exact LX hs
 | ret=>exact LX hs
 | _=>exact hs.elim
def dy:List (Nat×aX):=[(22,.int),(23,.e6),(24,(.l .bool)),(27,.bool),(28,.e0),(29,.held),(37,.e6),(41,.e0),(42,.held),(53,.fQ),(55,.done),(57,.fQ),(120,.bi),(126,.bi),(129,(.l .bi)),(162,(.l .int))]
def PX (b0 b1 b2 s:Nat) (ids:List Nat):Nat→Option Nat
 | 0=>some b0
 | 1=>some b1
 | 2=>some b2
 | j+3=>(ids[j]?).map fun id=>id+s
theorem amH {R:Frame} {ok:Bool} {aE:List Bool} {jf:List bL} {ws:List av} {ids:List Nat} {bs:List (List Bool)} {H:List Blk} {b0 b1 b2 g0 g1 g2 s ct dG n2:Nat} {f0 f1 f2:Bool} {pre pre':List Int}
  (a8:H[b0]?=some ⟨g0,1,List.map aR aE⟩) (c_:H[b1]?=some ⟨g1,2,List.map ba jf⟩) (hj:H[b2]?=some ⟨g2,5,aW s ws ids⟩) (b7:b0≠b1∧b0≠b2∧b1≠b2∧b0<s∧b1<s∧b2<s)
  (hf: ∀(id:Nat) (k:Blk),(List.map bj bs)[id]?=some k→H[id+s]?=some k) (G:gB ws ids bs)
  (h:pre=pre'∧ok=R.ok∧aE=R.aE∧jf=R.ay∧view ws ids bs=R.O) (aA:ct=aE.length) (h1:dG=jf.length) (h2:n2=ws.length):
  ∃db,ur H
   (⟨0,1,List.map aR R.aE⟩::⟨0,2,List.map ba R.ay⟩::⟨0,5,aW 3 R.O (List.range R.O.length)⟩::List.map bj (List.map av.ae R.O)) db∧
   F9 H
    (⟨0,1,List.map aR R.aE⟩::⟨0,2,List.map ba R.ay⟩::⟨0,5,aW 3 R.O (List.range R.O.length)⟩::List.map bj (List.map av.ae R.O)).length db (.agg (pre.map (AV.int .i64)++[.bool ok,.ref b0 g0 0 ct f0,.ref b1 g1 0 dG f1,.ref b2 g2 0 n2 f2]))
    (.agg (pre'.map (AV.int .i64)++[.bool R.ok,.ref 0 0 0 R.aE.length false,.ref 1 0 0 R.ay.length false,.ref 2 0 0 R.O.length false])):=by
 obtain⟨rfl,rfl,rfl,rfl,hv⟩:=h
 subst aA;subst h1;subst h2
 obtain⟨YG,YH,YI,arm,wL,kV⟩:=b7
 have pI:R.O.length=ws.length:=by rw[←hv];exact jT G.ok
 have hlen:(⟨0,1,List.map aR R.aE⟩::⟨0,2,List.map ba R.ay⟩::⟨0,5,aW 3 R.O (List.range R.O.length)⟩::List.map bj (List.map av.ae R.O):List Blk).length=R.O.length+3:=by simp
 have VD: ∀i,i<ws.length→ ∃x id,ws[i]?=some x∧ids[i]?=some id∧id<bs.length∧R.O[i]?=some {x with ae:=bs.getD id []}∧x.ae.length=(bs.getD id []).length:=fun i hi=>by
  have e2:ids[i]?=some (ids[i]'(by have:=G.ok.len;omega)):=List.getElem?_eq_getElem _
  exact⟨_,_,List.getElem?_eq_getElem hi,e2,G.ok.lt i _ e2,by rw[←hv];exact xA (List.getElem?_eq_getElem hi) e2,G.ok.ae i _ _ (List.getElem?_eq_getElem hi) e2⟩
 have uX: ∀j b,PX b0 b1 b2 s ids (j+3)=some b→ ∃id,ids[j]?=some id∧b=id+s:=fun j b e=>by
  have e:(ids[j]?).map (fun id=>id+s)=some b:=e
  cases q:ids[j]? with
  | none=>rw[q] at e;cases e
  | some id=>rw[q] at e;cases e;exact⟨id,rfl,rfl⟩
 refine⟨PX b0 b1 b2 s ids,⟨fun i j b hi ac aN e2=> ?_,fun j k hk=> ?_,fun j b k hk e=> ?_⟩,.inl ⟨_,_,rfl,rfl,?_⟩⟩
 ·match i,j,aN,e2 with
  | 0,0,_,_=>rfl
  | 1,1,_,_=>rfl
  | 2,2,_,_=>rfl
  | 0,1,aN,e2=>cases aN;cases e2;exact absurd rfl YG
  | 1,0,aN,e2=>cases aN;cases e2;exact absurd rfl YG
  | 0,2,aN,e2=>cases aN;cases e2;exact absurd rfl YH
  | 2,0,aN,e2=>cases aN;cases e2;exact absurd rfl YH
  | 1,2,aN,e2=>cases aN;cases e2;exact absurd rfl YI
  | 2,1,aN,e2=>cases aN;cases e2;exact absurd rfl YI
  | 0,j+3,aN,e2=>obtain⟨id,_,h⟩:=uX j b e2;cases aN;omega
  | 1,j+3,aN,e2=>obtain⟨id,_,h⟩:=uX j b e2;cases aN;omega
  | 2,j+3,aN,e2=>obtain⟨id,_,h⟩:=uX j b e2;cases aN;omega
  | i+3,0,aN,e2=>obtain⟨id,_,h⟩:=uX i b aN;cases e2;omega
  | i+3,1,aN,e2=>obtain⟨id,_,h⟩:=uX i b aN;cases e2;omega
  | i+3,2,aN,e2=>obtain⟨id,_,h⟩:=uX i b aN;cases e2;omega
  | i+3,j+3,aN,e2=>
   obtain⟨id,q1,h⟩:=uX i b aN
   obtain⟨gm,q2,h'⟩:=uX j b e2
   obtain rfl:id=gm:=by omega
   rw[G.lE i j id q1 q2]
 ·match j,hk with
  | 0,hk=>simp at hk;subst hk;rfl
  | 1,hk=>simp at hk;subst hk;rfl
  | 2,hk=>simp at hk;subst hk;rfl
  | j+3,hk=>simp at hk;obtain⟨x,_,rfl⟩:=hk;rfl
 ·rw[hlen]
  match j,hk,e with
  | 0,hk,e=>simp at hk;subst hk;cases e;exact qR (b:=b0) a8 y7 rfl
  | 1,hk,e=>simp at hk;subst hk;cases e;exact qR (b:=b1) c_ IT rfl
  | 2,hk,e=>
   simp at hk;subst hk;cases e
   refine⟨_,hj,rfl,⟨by rw[wa G.ok.len,wa (by simp),pI],fun i Pt fo aw hb=> ?_⟩⟩
   obtain⟨x,id,hx,aY,rfl⟩:=tQ aw
   obtain⟨mO,gm,jL,pD,rfl⟩:=tQ hb
   have th:i<ws.length:=(List.getElem?_eq_some_iff.1 hx).1
   obtain⟨y,aiJ,jO,oa,EP,za,Zf⟩:=VD i th
   rw[hx] at jO;cases jO
   rw[aY] at oa;cases oa
   rw[za] at jL;cases jL
   obtain rfl:i=gm:=by rw[List.getElem?_range (by omega)] at pD;exact Option.some.inj pD
   refine .cons (.int _ _) (.cons (.int _ _) (.cons ?_ (.cons (.bool _) (.cons (.int _ _) .nil))))
   show ic H _ _ (.ref (id+s) 0 0 x.ae.length false) (.ref (i+3) 0 0 (bs.getD id []).length false)
   rw[Zf]
   refine ic.ref (blk:=bj (bs.getD id [])) (by omega) ?_ (hf id _ (s7 EP)) rfl
   show(ids[i]?).map (fun id=>id+s)=_
   rw[aY];rfl
  | j+3,hk,e=>
   obtain⟨id,q1,rfl⟩:=uX j b e
   have hk:(List.map bj (List.map av.ae R.O))[j]?=some k:=by simpa using hk
   have ki:j<ws.length:=by have:=(List.getElem?_eq_some_iff.1 q1).1;have:=G.ok.len;omega
   obtain⟨y,aiJ,jO,oa,EP,za,Zf⟩:=VD j ki
   rw[q1] at oa;cases oa
   rw[List.getElem?_map,List.getElem?_map,za] at hk
   cases hk
   exact qR (b:=id+s) (hf id _ (s7 EP)) y7 rfl
 ·rw[hlen]
  have key: ∀l:List Int,ah (ic H (R.O.length+3) (PX b0 b1 b2 s ids)) (l.map (AV.int .i64)++[.bool R.ok,.ref b0 g0 0 R.aE.length f0,.ref b1 g1 0 R.ay.length f1,.ref b2 g2 0 ws.length f2]) (l.map (AV.int .i64)++[.bool R.ok,.ref 0 0 0 R.aE.length false,.ref 1 0 0 R.ay.length false,.ref 2 0 0 R.O.length false]):=fun l=>by
   induction l with
   | nil=>
    rw[pI]
    exact .cons (.bool _) (.cons (.ref (by omega) rfl a8 rfl) (.cons (.ref (by omega) rfl c_ rfl) (.cons (.ref (by omega) rfl hj rfl) .nil)))
   | cons x r bp=>exact .cons (.int _ _) bp
  exact key pre
def jy (F:Frame):List Blk:=⟨0,1,List.map aR F.aE⟩::⟨0,2,List.map ba F.ay⟩::⟨0,5,aW 3 F.O (List.range F.O.length)⟩::List.map bj (List.map av.ae F.O)
theorem Za (F:Frame):(jy F).length=F.O.length+3:=by simp[jy]
theorem O4 (F:Frame) {j:Nat} {k:Blk} (h:(jy F)[j]?=some k):k.bk=0∧ ∀row∈k.rows,∀a∈row,(∃q n,a= .int q n)∨(∃b,a= .bool b)∨ ∃i n,i<F.O.length+3∧a= .ref i 0 0 n false:=by
 match j,h with
 | 0,h=>
  cases h
  refine⟨rfl,fun row ak a aw=> ?_⟩
  obtain⟨b,_,rfl⟩:=List.mem_map.1 ak
  rw[List.mem_singleton.1 aw];exact .inr (.inl ⟨_,rfl⟩)
 | 1,h=>
  cases h
  refine⟨rfl,fun row ak a aw=> ?_⟩
  obtain⟨b,_,rfl⟩:=List.mem_map.1 ak
  rcases List.mem_cons.1 aw with rfl | aw
  ·exact .inl ⟨_,_,rfl⟩
  ·rw[List.mem_singleton.1 aw];exact .inl ⟨_,_,rfl⟩
 | 2,h=>
  cases h
  refine⟨rfl,fun row ak a aw=> ?_⟩
  obtain⟨i,hi⟩:=List.mem_iff_getElem?.1 ak
  obtain⟨x,id,hx,aY,rfl⟩:=tQ hi
  have th:=(List.getElem?_eq_some_iff.1 hx).1
  rw[List.getElem?_range th] at aY
  cases aY
  have aw:a∈[AV.int .i64 x.aF,.int .i64 x.bc,.ref (i+3) 0 0 x.ae.length false,.bool x.bW,.int .i64 x.bU]:=aw
  simp only[List.mem_cons,List.not_mem_nil,or_false] at aw
  rcases aw with rfl | rfl | rfl | rfl | rfl
  ·exact .inl ⟨_,_,rfl⟩
  ·exact .inl ⟨_,_,rfl⟩
  ·exact .inr (.inr ⟨_,_,by omega,rfl⟩)
  ·exact .inr (.inl ⟨_,rfl⟩)
  ·exact .inl ⟨_,_,rfl⟩
 | j+3,h=>
  have h:(List.map bj (List.map av.ae F.O))[j]?=some k:=h
  rw[List.getElem?_map] at h
  cases q:(List.map av.ae F.O)[j]? with
  | none=>rw[q] at h;cases h
  | some x=>
   rw[q] at h;cases h
   refine⟨rfl,fun row ak a aw=> ?_⟩
   obtain⟨b,_,rfl⟩:=List.mem_map.1 ak
   rw[List.mem_singleton.1 aw];exact .inr (.inl ⟨_,rfl⟩)
theorem Ze {R T:Frame} {H:List Blk} {pre pre':List Int} (h:pre=pre'∧T=R):
  ∃db,ur (H++(jy T).map (ir H.length)) (jy R) db∧
   F9 (H++(jy T).map (ir H.length)) (jy R).length db (.agg (pre.map (AV.int .i64)++[.bool T.ok,.ref (H.length+0) 0 0 T.aE.length false,.ref (H.length+1) 0 0 T.ay.length false,.ref (H.length+2) 0 0 T.O.length false]))
    (.agg (pre'.map (AV.int .i64)++[.bool R.ok,.ref 0 0 0 R.aE.length false,.ref 1 0 0 R.ay.length false,.ref 2 0 0 R.O.length false])):=by
 obtain⟨rfl,rfl⟩:=h
 have hs: ∀j b,(if j<(jy T).length then some (H.length+j) else none)=some b→j<(jy T).length∧b=H.length+j:=fun j b e=>by
  split at e
  ·cases e;exact⟨‹_›,rfl⟩
  ·cases e
 have get: ∀j,(H++(jy T).map (ir H.length))[H.length+j]?=((jy T)[j]?).map (ir H.length):=fun j=>by
  rw[List.getElem?_append_right (Nat.le_add_right _ _),Nat.add_sub_cancel_left,List.getElem?_map]
 have cell: ∀a:AV,((∃q n,a= .int q n)∨(∃b,a= .bool b)∨ ∃i n,i<T.O.length+3∧a= .ref i 0 0 n false)→ic (H++(jy T).map (ir H.length)) (jy T).length (fun j=>if j<(jy T).length then some (H.length+j) else none) (ji H.length a) a:=fun a aw=>by
  rcases aw with⟨q,n,rfl⟩ | ⟨b,rfl⟩ | ⟨i,n,hi,rfl⟩
  ·exact .int _ _
  ·exact .bool _
  ·rw[←Za] at hi
   refine ic.ref (blk:=ir H.length (jy T)[i]) hi (if_pos hi) ?_ (O4 T (List.getElem?_eq_getElem hi)).1
   rw[get,List.getElem?_eq_getElem hi];rfl
 refine⟨fun j=>if j<(jy T).length then some (H.length+j) else none,⟨fun i j b hi ac aN e2=> ?_,fun j k hk=>(O4 T hk).1,fun j b k hk e=> ?_⟩,.inl ⟨_,_,rfl,rfl,?_⟩⟩
 ·have:=(hs i b aN).2
  have:=(hs j b e2).2
  omega
 ·obtain⟨_,rfl⟩:=hs j b e
  refine⟨ir H.length k,by rw[get,hk];rfl,rfl,by show(List.map _ _).length=_;rw[List.length_map],fun i Pt fo aw hb=> ?_⟩
  have aw:(List.map (fun row=>row.map (ji H.length)) k.rows)[i]?=some Pt:=aw
  rw[List.getElem?_map,hb] at aw
  cases aw
  refine⟨by rw[List.length_map],fun l x y hx aU=> ?_⟩
  rw[List.getElem?_map,aU] at hx
  cases hx
  exact cell y ((O4 T hk).2 fo (List.mem_of_getElem? hb) y (List.mem_of_getElem? aU))
 ·have au:=Za T
  have key: ∀l:List Int,ah (ic (H++(jy T).map (ir H.length)) (jy T).length (fun j=>if j<(jy T).length then some (H.length+j) else none)) (l.map (AV.int .i64)++[.bool T.ok,.ref (H.length+0) 0 0 T.aE.length false,.ref (H.length+1) 0 0 T.ay.length false,.ref (H.length+2) 0 0 T.O.length false]) (l.map (AV.int .i64)++[.bool T.ok,.ref 0 0 0 T.aE.length false,.ref 1 0 0 T.ay.length false,.ref 2 0 0 T.O.length false]):=fun l=>by
   induction l with
   | nil=>exact .cons (.bool _) (.cons (cell (.ref 0 0 0 _ false) (.inr (.inr ⟨_,_,by omega,rfl⟩))) (.cons (cell (.ref 1 0 0 _ false) (.inr (.inr ⟨_,_,by omega,rfl⟩))) (.cons (cell (.ref 2 0 0 _ false) (.inr (.inr ⟨_,_,by omega,rfl⟩))) .nil)))
   | cons x r bp=>exact .cons (.int _ _) bp
  exact key pre
theorem bn.amu {P:Program} {f:FuncId} {args:List AV} {F:Frame} {l:List Int} (h:c8 P f args [] fun r H=>r= .agg (l.map (AV.int .i64)++[.bool F.ok,.ref 0 0 0 F.aE.length false,.ref 1 0 0 F.ay.length false,.ref 2 0 0 F.O.length false])∧H=jy F)
  (aA:F.aE.length≤4611686018427387904) (h1:F.ay.length≤4611686018427387904) (h2:F.O.length≤4611686018427387904) (aC: ∀h∈F.O,h.ae.length≤4611686018427387904):bn P f args (.agg (l.map (AV.int .i64)++cq true F)):=by
 refine h.mono fun r H ⟨aN,e2⟩=> ?_
 subst aN;subst e2
 obtain⟨c5,dP,eJ⟩:=x5 F.O
 have key: ∀l:List Int,ah (gT (jy F)) (l.map (AV.int .i64)++[.bool F.ok,.ref 0 0 0 F.aE.length false,.ref 1 0 0 F.ay.length false,.ref 2 0 0 F.O.length false]) (l.map (AV.int .i64)++cq true F):=fun l=>by
  induction l with
  | nil=>
   refine ah.cons (pe rfl) (ah.cons (p_ (sz:=1) rfl rfl vU ⟨aA,rfl⟩) (ah.cons (p_ (sz:=2) rfl rfl x0 ⟨h1,rfl⟩) (ah.cons (Cs (s:=3) (ws:=F.O) (ids:=List.range F.O.length) (bs:=F.O.map av.ae) rfl rfl (fun id k h=>h) ⟨c5,h2,fun x hx=> ?_,eJ⟩) ah.nil)))
   obtain⟨q,U,rfl⟩:=List.mem_map.1 hx
   exact aC q U
  | cons x r bp=>exact .cons (Ct rfl) bp
 exact ie.agg (key l)
theorem uH {α:Type} {xs:List α} {q:α→Bool} (h:first xs q=none): ∀x∈xs,q x=false:=by
 unfold first at h;rwa [List.findIdx?_eq_none_iff] at h
theorem BK {p:aL} (h:eD p=true):my p=true∧(∀s∈p.a7,ca s 0 (p.ao - 1)=true)∧(∀w∈p.O,iS p w=true)∧p.bG.length=p.O.length∧
  (∀b∈p.bG,b.length=p.O.length)∧ ∀i k:Nat,i<p.O.length→k<p.O.length→r5 p i k=false:=by
 have hb:=amW h
 have aA:iJ p=⟨0,0⟩:=by simpa[eD] using h
 rw[O_ hb] at aA
 unfold BL at aA
 split at aA
 ·cases aA
 rename_i h1
 unfold BM at aA
 split at aA
 ·cases aA
 rename_i h2
 unfold rD at aA
 split at aA
 ·rename_i aC
  split at aA
  ·cases aA
  rename_i bg
  split at aA
  ·cases aA
  rename_i ch
  refine⟨hb,fun s hs=>by simpa using uH h1 s hs,fun w hw=>by simpa using uH h2 w hw,aC,fun b U=>by simpa using uH bg b U,fun i k hi hk=> ?_⟩
  have:=uH ch i (List.mem_range.2 hi)
  rw[List.any_eq_false] at this
  simpa using this k (List.mem_range.2 hk)
 ·cases aA
def mT (p:aL) (i k:Int):Bool:=nth (nth p.bG i) k
structure adw (p:aL):Prop where
 len:p.bG.length=p.O.length
 row: ∀i:Int,0≤i→i<p.O.length→(nth p.bG i).length=p.O.length
 sym: ∀i k:Int,0≤i→i<p.O.length→0≤k→k<p.O.length→mT p i k=mT p k i
 aro: ∀i k:Int,0≤i→i<p.O.length→0≤k→k<p.O.length→i≠k→meets (nth p.O i).ao (nth p.O k).ao=true→mT p i k=true
theorem wI {x n:Int} (h:ca x 0 (n - 1)=true):0≤x∧x<n:=by have:=ms.1 h;omega
theorem OH {l:List Int} {n:Int} (h:je l n=true):l.length≤30∧ ∀x∈l,0≤x∧x<n:=by
 have:=yZ.1 h
 exact⟨this.1,fun x hx=>wI (this.2.1 x hx)⟩
theorem w3 {p:aL} (h:eD p=true):us p:=by
 obtain⟨h1,h2,aC,bg,ch,cy⟩:=BK h
 have hb:=w2.1 h1
 have hw: ∀w∈p.O,_:=fun w hw=>rY.1 (aC w hw)
 refine⟨by omega,hb.2.2.2,hb.2.2.1,fun w m=>⟨(hw w m).1,OH (hw w m).2.1⟩,fun w m=>OH (hw w m).2.2.1,fun w m=>OH (hw w m).2.2.2.1,fun w m=> ?_,fun x hx=>wI (h2 x hx)⟩
 have au:=pQ.1 (hw w m).2.2.2.2.1
 have hf:=pQ.1 (hw w m).2.2.2.2.2.1
 refine⟨au.1,hf.1,fun x hx=> ?_⟩
 rcases List.mem_append.1 hx with hx | hx
 ·have:=au.2.1 x hx
  rw[Bool.and_eq_true] at this;exact wI this.1
 ·have:=hf.2.1 x hx
  rw[Bool.and_eq_true] at this;exact wI this.1
theorem I1 {p:aL} (h:eD p=true):adw p:=by
 obtain⟨h1,h2,aC,bg,ch,cy⟩:=BK h
 have key: ∀i k:Int,0≤i→i<p.O.length→0≤k→k<p.O.length→mT p i k=mT p k i∧(i≠k→meets (nth p.O i).ao (nth p.O k).ao=true→mT p i k=true):=fun i k i0 i1 a8 c_=>by
  have:=cy i.toNat k.toNat (by omega) (by omega)
  unfold r5 vS at this
  rw[lG i0,lG a8,lG i0,lG a8,lG i0,lG a8] at this
  rw[Bool.or_eq_false_iff] at this
  refine⟨by unfold mT;simpa using this.1,fun b7 hm=> ?_⟩
  have h2:=this.2
  rw[hm,Bool.and_true] at h2
  have aY:decide (i.toNat≠k.toNat)=true:=by simpa using(show i.toNat≠k.toNat by omega)
  rw[aY] at h2
  unfold mT
  simpa using h2
 exact⟨bg,fun i i0 i1=>ch _ (dT (by omega)),fun i k i0 i1 a8 c_=>(key i k i0 i1 a8 c_).1,fun i k i0 i1 a8 c_=>(key i k i0 i1 a8 c_).2⟩
def Hq (p:aL) (f:Frame) (i:Int):Bool:= !((decide ((nth f.O i).aF<0)) || ((decide ((nth f.O i).aF>4)) || ((((nth f.O i).ae.length:Int) !=((nth p.O i).ao.length:Int)) || ((decide ((nth f.O i).bc<0)) || (decide ((nth f.O i).bc ≥ ((nth p.O i).ao.length:Int)))))))
def U0 (f:Frame) (i:Int):Bool:=bif ((nth f.O i).aF !=4) then(!(((nth f.O i).bc !=0) || (sh (nth f.O i).ae true))) else(!(sh ((nth f.O i).ae.take (nth f.O i).bc.toNat) false))
def U1 (p:aL) (f:Frame) (i:Int):Bool:=bif ((nth f.O i).aF==3) then(!((decide ((nth f.O i).bU<1)) || (decide ((nth f.O i).bU>p.cB)))) else(!((nth f.O i).bU !=0))
def U2 (f:Frame) (i:Int):Bool:=bif ((nth f.O i).aF==0) then(!(nth f.O i).bW) else(!(bif ((nth f.O i).aF==2) then((nth f.O i).aF==2) else((nth f.O i).aF==3)) || (!(!(nth f.O i).bW)))
theorem U3 (p:aL) (f:Frame) (i:Int):i_ p f i=(Hq p f i&&(U0 f i&&(U1 p f i&&U2 f i))):=by
 unfold i_ Hq U0 U1 U2
 simp only
 generalize nth f.O i=h
 generalize (nth p.O i).ao.length=n
 rcases h with⟨s,g,b,d,t⟩
 have aN:b.all (fun x=> !x)= !sh b true:=by
  cases h:sh b true with
  | true=>
   rw[List.all_eq_false.2 ⟨true,Ho.1 h,by simp⟩];rfl
  | false=>
   rw[List.all_eq_true.2 fun x hx=>by
    cases x with
    | false=>rfl
    | true=>rw[Ho.2 hx] at h;cases h];rfl
 have e2:(b.take g.toNat).all (fun x=>x)= !sh (b.take g.toNat) false:=by
  cases h:sh (b.take g.toNat) false with
  | true=>
   rw[List.all_eq_false.2 ⟨false,Ho.1 h,by simp⟩];rfl
  | false=>
   rw[List.all_eq_true.2 fun x hx=>by
    cases x with
    | true=>rfl
    | false=>rw[Ho.2 hx] at h;cases h];rfl
 simp only
 rw[aN,e2]
 have c5:ca s 0 4= !((decide (s<0)) || (decide (s>4))):=by unfold ca;rw[Bool.eq_iff_iff];simp
 have dP:decide (b.length=n)= !((b.length:Int) !=(n:Int)):=by rw[Bool.eq_iff_iff];simp;omega
 have eJ:ca g 0 ((n:Int) - 1)= !((decide (g<0)) || (decide (g ≥ (n:Int)))):=by unfold ca;rw[Bool.eq_iff_iff];simp;omega
 have m8:ca t 1 p.cB= !((decide (t<1)) || (decide (t>p.cB))):=by unfold ca;rw[Bool.eq_iff_iff];simp
 rw[c5,dP,eJ,m8]
 generalize sh b true=B
 have az:g=0→sh (b.take g.toNat) false=false:=fun h=>by subst h;rfl
 generalize sh (b.take g.toNat) false=C at az
 generalize (decide (s<0))=ax
 generalize (decide (s>4))=bC
 generalize ((b.length:Int) !=(n:Int))=acM
 generalize (decide (g<0))=arD
 generalize (decide (g ≥ (n:Int)))=arE
 generalize (decide (t<1))=arF
 generalize (decide (t>p.cB))=arG
 have hs:s=0∨s=2∨s=3∨s=4∨(s≠0∧s≠2∧s≠3∧s≠4):=by omega
 have aY:decide (t=0)= !(t !=0):=by rw[Bool.eq_iff_iff];simp
 have yj:decide (g=0)= !(g !=0):=by rw[Bool.eq_iff_iff];simp
 rw[aY,yj]
 cases Vb:(g !=0) with
 | false=>
  have:C=false:=az (by simpa using Vb)
  subst this
  generalize (t !=0)=aqy
  rcases hs with rfl | rfl | rfl | rfl | ⟨aA,h2,aC,bg⟩
  ·cases B<;>cases d<;>simp[Bool.and_assoc]
  ·cases B<;>cases d<;>simp[Bool.and_assoc]
  ·cases B<;>cases d<;>simp[Bool.and_assoc]
  ·cases B<;>cases d<;>simp[Bool.and_assoc]
  ·have z0:(s==0)=false:=by simpa using aA
   have z2:(s==2)=false:=by simpa using h2
   have z3:(s==3)=false:=by simpa using aC
   have z4:(s !=4)=true:=by simpa using bg
   rw[z0,z2,z3,z4]
   simp only[aA,h2,aC,bg,if_false,decide_false,decide_true,ne_eq,not_false_eq_true]
   cases B<;>cases d<;>simp[Bool.and_assoc]
 | true=>
  clear az Vb
  generalize (t !=0)=aqy
  rcases hs with rfl | rfl | rfl | rfl | ⟨aA,h2,aC,bg⟩
  ·cases B<;>cases C<;>cases d<;>simp[Bool.and_assoc]
  ·cases B<;>cases C<;>cases d<;>simp[Bool.and_assoc]
  ·cases B<;>cases C<;>cases d<;>simp[Bool.and_assoc]
  ·cases B<;>cases C<;>cases d<;>simp[Bool.and_assoc]
  ·have z0:(s==0)=false:=by simpa using aA
   have z2:(s==2)=false:=by simpa using h2
   have z3:(s==3)=false:=by simpa using aC
   have z4:(s !=4)=true:=by simpa using bg
   rw[z0,z2,z3,z4]
   simp only[aA,h2,aC,bg,if_false,decide_false,decide_true,ne_eq,not_false_eq_true]
   cases B<;>cases C<;>cases d<;>simp[Bool.and_assoc]
def m5 (x:bL):Bool:=ca x.dR 1 2&&ca x.bI 0 2
def oB (p:aL) (f:Frame) (i k:Int):Bool:=(i !=k)&&(mT p i k&&(((nth f.O i).aF !=0)&&((nth f.O k).aF !=0)))
def x7 (p:aL) (f:Frame):Bool:= !((!(eD p)) || ((!f.ok) || (((f.aE.length:Int) !=p.ao) || (((f.ay.length:Int) !=(p.a7.length:Int)) || ((f.O.length:Int) !=(p.O.length:Int))))))
theorem pz {p:aL} {f:Frame}:x7 p f=true↔eD p=true∧f.ok=true∧(f.aE.length:Int)=p.ao∧f.ay.length=p.a7.length∧f.O.length=p.O.length:=by
 unfold x7
 simp only[Bool.not_eq_true',Bool.or_eq_false_iff,Bool.not_eq_false',bne_eq_false_iff_eq]
 constructor
 ·rintro⟨a,b,c,d,e⟩;exact⟨a,b,c,by omega,by omega⟩
 ·rintro⟨a,b,c,d,e⟩;exact⟨a,b,c,by omega,by omega⟩
theorem adW {p:aL} {f:Frame}:KO p f=true↔ ∀i k:Int,0≤i→i<f.O.length→0≤k→k<f.O.length→oB p f i k=false:=by
 unfold KO
 rw[List.all_eq_true]
 have key: ∀i k:Nat,(decide (i=k) || !vS p i k || decide ((nth f.O i).aF=0) || decide ((nth f.O k).aF=0))= !oB p f i k:=fun i k=>by
  unfold oB mT vS
  have aN:decide (i=k)= !((i:Int) !=(k:Int)):=by rw[Bool.eq_iff_iff];simp;omega
  have e2: ∀x:Int,decide (x=0)= !(x !=0):=fun x=>by rw[Bool.eq_iff_iff];simp
  rw[aN,e2,e2]
  cases((i:Int) !=(k:Int))<;>cases nth (nth p.bG (i:Int)) (k:Int)<;>cases((nth f.O (i:Int)).aF !=0)<;>cases((nth f.O (k:Int)).aF !=0)<;>rfl
 constructor
 ·intro h i k i0 i1 a8 c_
  have h1:=h i.toNat (List.mem_range.2 (by omega))
  rw[List.all_eq_true] at h1
  have h2:=h1 k.toNat (List.mem_range.2 (by omega))
  rw[key,Int.toNat_of_nonneg i0,Int.toNat_of_nonneg a8] at h2
  simpa using h2
 ·intro h i hi
  rw[List.all_eq_true]
  intro k hk
  rw[key,h i k (by omega) (by have:=List.mem_range.1 hi;omega) (by omega) (by have:=List.mem_range.1 hk;omega)];rfl
theorem DA {p:aL} {f:Frame}:kh p f=true↔x7 p f=true∧(∀x∈f.ay,m5 x=true)∧(∀i:Int,0≤i→i<f.O.length→i_ p f i=true)∧
  (∀i k:Int,0≤i→i<f.O.length→0≤k→k<f.O.length→oB p f i k=false)∧f.O=(dV p f).O:=by
 unfold kh qS
 rw[pz,←adW]
 simp only[Bool.and_eq_true,decide_eq_true_eq,List.all_eq_true,List.mem_range]
 constructor
 ·rintro⟨⟨⟨⟨⟨⟨⟨⟨a,b⟩,c⟩,d⟩,e⟩,g⟩,h⟩,i⟩,j⟩
  refine⟨⟨a,b,c,d,e⟩,fun x hx=>by unfold m5;rw[Bool.and_eq_true];exact g x hx,fun q cG q1=> ?_,i,j⟩
  have:=h q.toNat (by omega)
  rwa [Int.toNat_of_nonneg cG] at this
 ·rintro⟨⟨a,b,c,d,e⟩,g,h,i,j⟩
  exact⟨⟨⟨⟨⟨⟨⟨⟨a,b⟩,c⟩,d⟩,e⟩,fun x hx=>by have:=g x hx;unfold m5 at this;rwa [Bool.and_eq_true] at this⟩,fun q U=>h q (by omega) (by omega)⟩,i⟩,j⟩
theorem Um {p:aL} {f:Frame} (hb:x7 p f=true) (bt: ∀i:Int,0≤i→i<f.O.length→Hq p f i=true):iT p f:=by
 obtain⟨h1,h2,aC,bg,ch⟩:=pz.1 hb
 have key: ∀i:Nat,i<f.O.length→((nth f.O i).ae.length:Int)=((nth p.O i).ao.length:Int)∧0≤(nth f.O i).bc∧(nth f.O i).bc<((nth p.O i).ao.length:Int):=fun i hi=>by
  have:=bt i (by omega) (by omega)
  unfold Hq at this
  simp only[Bool.not_eq_true',Bool.or_eq_false_iff,bne_eq_false_iff_eq,decide_eq_false_iff_not] at this
  exact⟨this.2.2.1,by omega,by omega⟩
 refine⟨aC,bg,ch,fun i h w aN e2=> ?_,fun h hm=> ?_⟩
 ·have hi:=(List.getElem?_eq_some_iff.1 aN).1
  have ac:=(List.getElem?_eq_some_iff.1 e2).1
  have:=(key i hi).1
  rw[kq hi,kq ac,(List.getElem?_eq_some_iff.1 aN).2,(List.getElem?_eq_some_iff.1 e2).2] at this
  omega
 ·obtain⟨i,hi,rfl⟩:=List.mem_iff_getElem.1 hm
  have:=key i hi
  rw[kq hi] at this
  omega
def PI (p:aL) (f:Frame) (n:Nat) (i:Int):Bool:=(List.range n).any fun k=>oB p f i k
structure Fit (p:aL) (f:Frame):Prop where
 oF:eD p=true
 fr:iT p f
theorem L3 {p:aL} {f:Frame} (h:kh p f=true):Fit p f:=by
 obtain⟨h1,h2,aC,bg,ch⟩:=DA.1 h
 refine⟨(pz.1 h1).1,Um h1 fun i i0 i1=> ?_⟩
 have:=aC i i0 i1
 rw[U3,Bool.and_eq_true] at this;exact this.1
theorem Fit.in {p:aL} {f:Frame} (h:Fit p f):us p:=w3 h.oF
def kQ (p:aL) (f:Frame) (i s:Int):Bool:=((nth f.O i).aF !=0)&&((nth p.O i).ao.drop (nth f.O i).bc.toNat).contains s
def AT (p:aL) (f:Frame) (i s:Int):Prop:=Fit p f∧0≤i∧i<p.O.length
theorem anL {p:aL} (h:eD p=true) {w:Way} (hw:w∈p.O):w.ao.Nodup:=(yZ.1 (rY.1 ((BK h).2.2.1 w hw)).2.1).2.2
theorem GQ {l:List Int} {g:Nat} {s:Int}:(l.drop g).contains s=true↔ ∃k,g≤k∧ ∃h:k<l.length,l[k]=s:=by
 rw[List.contains_iff_mem,List.mem_iff_getElem]
 constructor
 ·rintro⟨i,hi,he⟩
  rw[List.length_drop] at hi
  rw[List.getElem_drop] at he
  exact⟨g+i,by omega,by omega,he⟩
 ·rintro⟨k,az,hk,he⟩
  refine⟨k - g,by rw[List.length_drop];omega,?_⟩
  rw[List.getElem_drop]
  simp only[show g+(k - g)=k by omega];exact he
theorem has_eq {l:List Int} (ag:l.Nodup) {g s:Int} (aA:0≤g):(decide (pK l s ≥ g)&&decide (pK l s ≥ 0))=(l.drop g.toNat).contains s:=by
 unfold pK
 cases h:first l (fun x=>s==x) with
 | none=>
  have:(l.drop g.toNat).contains s=false:=by
   rw[←Bool.not_eq_true,GQ]
   rintro⟨k,_,hk,he⟩
   have:=uH h _ (List.getElem_mem hk)
   rw[he] at this;simp at this
  rw[this];simp[O1]
 | some i=>
  unfold first at h
  rw[List.findIdx?_eq_some_iff_getElem] at h
  obtain⟨hi,hx,_⟩:=h
  have hx:s=l[i]:=by simpa using hx
  have hx:=hx.symm
  rw[Bool.eq_iff_iff,GQ]
  show(decide ((i:Int) ≥ g)&&decide ((i:Int) ≥ 0))=true↔_
  simp only[Bool.and_eq_true,decide_eq_true_eq]
  constructor
  ·intro h;exact⟨i,by omega,hi,hx⟩
  ·rintro⟨k,az,hk,he⟩
   have:k=i:=by
    exact(List.getElem_inj ag).1 (he.trans hx.symm)
   omega
def eu (q:Int→Bool) (v:Int):List Int:=((List.range v.toNat).filter fun i=>q (i:Nat)).map fun i=>((i:Nat):Int)
theorem afN (q:Int→Bool):eu q 0=[]:=rfl
theorem Dx {q:Int→Bool} {v:Int} (h:0≤v):eu q (v+1)=if q v=true then eu q v++[v] else eu q v:=by
 unfold eu
 rw[show(v+1).toNat=v.toNat+1 by omega,List.range_succ,List.filter_append,List.map_append]
 have hv:((v.toNat:Nat):Int)=v:=by omega
 cases U:q v with
 | true=>simp[hv,U]
 | false=>simp[hv,U]
theorem v7 (q:Int→Bool) (v:Int):(eu q v).length≤v.toNat:=by
 unfold eu
 rw[List.length_map]
 exact Nat.le_trans (List.length_filter_le _ _) (by simp)
theorem T5 {q:Int→Bool} {v x:Int}:x∈eu q v↔0≤x∧x<v∧q x=true:=by
 unfold eu
 rw[List.mem_map]
 constructor
 ·rintro⟨i,hi,rfl⟩
  rw[List.mem_filter,List.mem_range] at hi
  exact⟨by omega,by omega,hi.2⟩
 ·rintro⟨aA,h1,h2⟩
  refine⟨x.toNat,?_,by omega⟩
  rw[List.mem_filter,List.mem_range,Int.toNat_of_nonneg aA]
  exact⟨by omega,h2⟩
theorem afO {q:Int→Bool} {v:Int}:eu q v=[]↔ ∀x:Int,0≤x→x<v→q x=false:=by
 constructor
 ·intro h x aA h1
  cases U:q x with
  | false=>rfl
  | true=>have:=T5.2 ⟨aA,h1,U⟩;rw[h] at this;cases this
 ·intro h
  rw[List.eq_nil_iff_forall_not_mem]
  intro x hx
  have:=T5.1 hx
  rw[h x this.1 this.2.1] at this;cases this.2.2
def yX (x:c9) (k:Int):Bool:=x.bh==k
def u0 (l:List c9) (k:Int):Int:=O1 (first l (fun x=>x.bh==k))
def m4 (l:List c9) (k:Int):Bool:=l.any fun x=>x.bh==k
theorem aiO (l:List c9) (k:Int):(decide (u0 l k ≥ 0))=m4 l k:=by
 unfold u0 m4
 cases h:first l (fun x=>x.bh==k) with
 | none=>
  rw[List.any_eq_false.2 fun x hx=>by rw[uH h x hx];simp];rfl
 | some i=>
  unfold first at h
  rw[List.findIdx?_eq_some_iff_getElem] at h
  obtain⟨hi,hx,_⟩:=h
  rw[List.any_eq_true.2 ⟨_,List.getElem_mem hi,hx⟩]
  show decide ((i:Int) ≥ 0)=true
  simp
def ov (p:aL) (f:Frame) (i k:Int):Bool:=((nth f.O i).aF !=0)&&(m4 (nth p.O i).cR k || (m4 (nth p.O i).bI k&&kQ p f i (nth p.a7 k)))
def kt (p:aL) (f:Frame) (k:Int):List Int:=eu (fun i=>ov p f i k) p.O.length
def w4 (p:aL) (f:Frame) (k:Int):Prop:=Fit p f∧0≤k∧k<p.a7.length
def rX (p:aL) (f:Frame) (i k:Int):Int:=if(nth f.O i).aF=0 then 0 else match first (nth p.O i).cR (fun x=>x.bh==k) with
 | some j=>(nth (nth p.O i).cR j).bi
 | none=>match first (nth p.O i).bI (fun x=>x.bh==k&&kQ p f i (nth p.a7 k)) with
  | some j=>(nth (nth p.O i).bI j).bi
  | none=>0
def R9 (p:aL) (f:Frame) (i k:Int):Prop:=Fit p f∧0≤i∧i<p.O.length∧0≤k∧k<p.a7.length
theorem IC {p:aL} (h:eD p=true) {w:Way} (hw:w∈p.O) {l:c9} (au:l∈bV w):l.bi=1∨l.bi=2:=by
 have az:=rY.1 ((BK h).2.2.1 w hw)
 have key: ∀{ko:List c9},n_ p ko=true→ ∀x∈ko,x.bi=1∨x.bi=2:=fun h x hx=>by
  have:=(pQ.1 h).2.1 x hx
  rw[Bool.and_eq_true] at this
  have:=ms.1 this.2
  omega
 rcases List.mem_append.1 au with au | au
 ·exact key az.2.2.2.2.1 l au
 ·exact key az.2.2.2.2.2.1 l au
theorem LY {α:Type} [Inhabited α] {xs:List α} {q:α→Bool} {j:Nat} (h:first xs q=some j):nth xs j∈xs∧q (nth xs j)=true:=by
 unfold first at h
 rw[List.findIdx?_eq_some_iff_getElem] at h
 obtain⟨hi,hx,_⟩:=h
 rw[kq hi]
 exact⟨List.getElem_mem hi,hx⟩
theorem aqq {p:aL} {f:Frame} {i k:Int} (h:eD p=true) (hi:i.toNat<p.O.length):decide (rX p f i k>0)=ov p f i k:=by
 unfold rX ov m4
 by_cases hs:(nth f.O i).aF=0
 ·rw[if_pos hs,show((nth f.O i).aF !=0)=false by simpa using hs];rfl
 ·rw[if_neg hs,show((nth f.O i).aF !=0)=true by simpa using hs,Bool.true_and]
  have hm:=dT hi
  cases h1:first (nth p.O i).cR (fun x=>x.bh==k) with
  | some j=>
   have:=LY h1
   rw[List.any_eq_true.2 ⟨_,this⟩,Bool.true_or]
   have:=IC h hm (List.mem_append_right _ this.1)
   simp only[decide_eq_true_eq];omega
  | none=>
   rw[List.any_eq_false.2 fun x hx=>by rw[uH h1 x hx];simp,Bool.false_or]
   cases h2:first (nth p.O i).bI (fun x=>x.bh==k&&kQ p f i (nth p.a7 k)) with
   | some j=>
    have:=LY h2
    have aC:=this.2
    rw[Bool.and_eq_true] at aC
    rw[List.any_eq_true.2 ⟨_,this.1,aC.1⟩,aC.2,Bool.true_and]
    have:=IC h hm (List.mem_append_left _ this.1)
    simp only[decide_eq_true_eq];omega
   | none=>
    have:((nth p.O i).bI.any (fun x=>x.bh==k)&&kQ p f i (nth p.a7 k))=false:=by
     rw[Bool.and_eq_false_iff]
     cases bt:kQ p f i (nth p.a7 k) with
     | false=>exact .inr rfl
     | true=>
      refine .inl (List.any_eq_false.2 fun x hx=> ?_)
      have:=uH h2 x hx
      rw[bt,Bool.and_true] at this
      rw[this];simp
    rw[this];rfl
def mm (p:aL) (f:Frame) (w k:Int):Bool:=(k !=w)&&(((nth f.O k).aF !=0)&&(mT p w k || (meets (nth p.O w).ao (nth p.O k).di || meets (nth p.O w).di (nth p.O k).ao)))
def pF (p:aL) (f:Frame) (w s:Int):Bool:=nth f.aE s&&(hh (nth p.O w).ao s || hh (nth p.O w).di s)
def l4 (p:aL) (f:Frame) (w k:Int):Bool:=(bV (nth p.O w)).any fun l=>l.bh==k&& !((nth f.ay k).dR==l.bi)
def j9 (p:aL) (f:Frame) (k:Int):Bool:=decide (((kt p f k).length:Int)>0)
def lH (p:aL) (f:Frame) (k:Int):Bool:=nth f.aE (nth p.a7 k)
def ml (p:aL) (f:Frame) (w k:Int):Bool:=l4 p f w k&&(j9 p f k || lH p f k)
def nd (p:aL) (f:Frame) (w:Int):sR:=⟨eu (mm p f w) p.O.length,eu (pF p f w) p.ao,eu (ml p f w) p.a7.length⟩
def Dz (p:aL) (f:Frame) (w:Int):Bool:= !(eu (fun k=>l4 p f w k&&j9 p f k) p.a7.length).isEmpty
def Jq (p:aL) (f:Frame) (w:Int):Bool:= !(eu (fun k=>l4 p f w k&&lH p f k) p.a7.length).isEmpty
def j2 (p:aL) (f:Frame) (w:Int):sR×Bool×Bool:=(nd p f w,Dz p f w,Jq p f w)
def codeF (p:aL) (f:Frame) (w:Int):Int:=if(nd p f w).O≠[] then 3 else if(nd p f w).ao≠[] then 4 else if Dz p f w=true then 5 else if Jq p f w=true then 6 else 0
def xv (p:aL) (f:Frame) (w:Int):sR×Int:=(nd p f w,codeF p f w)
def hd (p:aL) (f:Frame) (w:Int):Int:=if(nth f.O w).aF≠0 then 2 else codeF p f w
def sO (p:aL) (f:Frame) (w:Int):Prop:=Fit p f∧0≤w∧w<p.O.length
theorem s9 {q:Int→Bool} {N v:Int} (ag:N≤4611686018427387904) (aT:cr N (fun _=>false) v) (hv:decide (v<N)=true):
  (q v=true→eu q v++[v]=eu q (IntKind.i64.wrap (v+1)))∧(q v=false→eu q v=eu q (IntKind.i64.wrap (v+1)))∧(!(eu q (IntKind.i64.wrap (v+1))).isEmpty)=(!(eu q v).isEmpty || q v):=by
 rw[kH ag aT.1 (by simpa using hv),Dx aT.1]
 refine⟨fun h=>by rw[if_pos h],fun h=>by rw[if_neg (by rw[h];simp)],?_⟩
 cases h:q v with
 | true=>simp
 | false=>simp
theorem Au {q:Int→Bool} {N v:Int} (aT:cr N (fun _=>false) v) (hv:decide (v<N)=false):eu q v=eu q N:=by
 have: ¬v<N:=by simpa using hv
 have h1:=aT.2.1
 rw[show v=N by omega]
def pS (p:aL) (f:Frame) (w k:Int) (j:Nat):Bool:=((bV (nth p.O w)).take j).any fun l=>l.bh==k&& !((nth f.ay k).dR==l.bi)
theorem anM (p:aL) (f:Frame) (w k:Int) {j:Nat} (h:(bV (nth p.O w)).length≤j):pS p f w k j=l4 p f w k:=by
 unfold pS l4;rw[List.take_of_length_le h]
theorem anO {p:aL} {f:Frame} {w k:Int} {j:Nat} (h:j<(bV (nth p.O w)).length):pS p f w k (j+1)=(pS p f w k j || ((bV (nth p.O w))[j].bh==k&& !((nth f.ay k).dR==(bV (nth p.O w))[j].bi))):=by
 unfold pS;rw[List.take_succ_eq_append_getElem h,List.any_append];simp
theorem OX {p:aL} (h:eD p=true) {w:Way} (hw:w∈p.O):((bV w).map (·.bh)).Nodup:=(rY.1 ((BK h).2.2.1 w hw)).2.2.2.2.2.2.1
theorem anN {p:aL} {f:Frame} {w k:Int} {j:Nat} (ag:((bV (nth p.O w)).map (·.bh)).Nodup) (h:j<(bV (nth p.O w)).length) (hk:((bV (nth p.O w))[j].bh==k)=true):pS p f w k j=false:=by
 unfold pS
 rw[List.any_eq_false]
 intro l au
 obtain⟨i,hi,rfl⟩:=List.mem_take_iff_getElem.1 au
 have eI:i<(bV (nth p.O w)).length:=by omega
 intro hc
 rw[Bool.and_eq_true] at hc
 have aN:(bV (nth p.O w))[i].bh=k:=by simpa using hc.1
 have e2:(bV (nth p.O w))[j].bh=k:=by simpa using hk
 have:=(List.getElem_inj (xs:=(bV (nth p.O w)).map (·.bh)) (i:=i) (j:=j) (h₀:=by simpa using eI) (h₁:=by simpa using h) ag).1 (by simp[aN,e2])
 omega
def ad7 (p:aL) (f:Frame) (w k:Int) (x:List Int) (a b:Bool) (mO:List Int) (j:Int) (hB b4:Bool):Prop:=
 cr (bV (nth p.O w)).length (fun _=>false) j∧mO=(if(pS p f w k j.toNat&&(j9 p f k || lH p f k))=true then x++[k] else x)∧hB=(a || (pS p f w k j.toNat&&j9 p f k))∧b4=(b || (pS p f w k j.toNat&&lH p f k))
def Aw (p:aL) (f:Frame) (w v:Int):Bool:= !(eu (fun k=>l4 p f w k&&j9 p f k) v).isEmpty
def Fe (p:aL) (f:Frame) (w v:Int):Bool:= !(eu (fun k=>l4 p f w k&&lH p f k) v).isEmpty
def AH (p:aL) (f:Frame) (w v:Int):Int:=if Aw p f w v=true then 5 else if Fe p f w v=true then 6 else 0
def tF (a:Int) (l:List c9) (k:Int):Int:=l.foldl (fun a x=>bif x.bh==k then x.bi else a) a
theorem Ym {l:List c9} {k:Int} (h: ∀x∈l,(x.bh==k)=false): ∀a,tF a l k=a:=by
 induction l with
 | nil=>intro a;rfl
 | cons x l bp=>
  intro a
  show tF (bif x.bh==k then x.bi else a) l k=a
  rw[h x List.mem_cons_self]
  exact bp (fun y aU=>h y (List.mem_cons_of_mem _ aU)) a
theorem OF {l:List c9} {k:Int} (ag:(l.map (·.bh)).Nodup) {x:c9} (hx:x∈l) (hk:(x.bh==k)=true): ∀a,tF a l k=x.bi:=by
 induction l with
 | nil=>cases hx
 | cons y l bp=>
  intro a
  show tF (bif y.bh==k then y.bi else a) l k=x.bi
  rw[List.map_cons,List.nodup_cons] at ag
  rcases List.mem_cons.1 hx with rfl | hx
  ·rw[hk]
   refine Ym (fun z aH=> ?_) _
   have hk:x.bh=k:=by simpa using hk
   rw[←hk,beq_eq_false_iff_ne]
   intro e
   exact ag.1 (List.mem_map.2 ⟨z,aH,e⟩)
  ·exact bp ag.2 hx _
theorem alL {p:aL} {f:Frame} {w k:Int} (h:eD p=true) (hw:w.toNat<p.O.length):((tF 0 (bV (nth p.O w)) k==0) || (tF 0 (bV (nth p.O w)) k==(nth f.ay k).dR))= !l4 p f w k:=by
 have hm:=dT hw
 have ag:=OX h hm
 cases hf:first (bV (nth p.O w)) (fun x=>x.bh==k) with
 | none=>
  have eR:=uH hf
  rw[Ym eR,show l4 p f w k=false from List.any_eq_false.2 fun x hx=>by rw[eR x hx];simp];rfl
 | some j=>
  obtain⟨h1,h2⟩:=LY hf
  have au:=IC h hm h1
  rw[OF ag h1 h2]
  have z:((nth (bV (nth p.O w)) (j:Int)).bi==0)=false:=by rw[beq_eq_false_iff_ne];omega
  rw[z,Bool.false_or]
  have aj:l4 p f w k= !((nth f.ay k).dR==(nth (bV (nth p.O w)) (j:Int)).bi):=by
   cases hb:((nth f.ay k).dR==(nth (bV (nth p.O w)) (j:Int)).bi) with
   | false=>exact List.any_eq_true.2 ⟨_,h1,by rw[h2,hb];rfl⟩
   | true=>
    refine List.any_eq_false.2 fun x hx hc=> ?_
    rw[Bool.and_eq_true] at hc
    have aN:=OF ag hx hc.1 0
    rw[OF ag h1 h2] at aN
    rw[aN] at hb
    rw[hb] at hc;cases hc.2
  rw[aj,Bool.not_not,Bool.eq_iff_iff,beq_iff_eq,beq_iff_eq]
  exact⟨Eq.symm,Eq.symm⟩
def cA (p:aL):Frame:=if eD p=true then⟨true,List.replicate p.ao.toNat false,List.replicate p.a7.length ⟨1,1⟩,p.O.map fun w=>hR w.ao.length⟩ else⟨false,[],[],[]⟩
def k1 (l:List c9) (q:List bL):List bL:=l.foldl (fun q x=>q.set x.bh.toNat ⟨x.bi,(nth q x.bh).bI⟩) q
theorem Fc (l:List c9): ∀q:List bL,(k1 l q).length=q.length:=by
 induction l with
 | nil=>intro q;rfl
 | cons x l bp=>intro q;show(k1 l _).length=_;rw[bp,List.length_set]
theorem aat {l:List c9} {q:List bL} {j:Nat} (h:j<l.length):k1 (l.take (j+1)) q=(k1 (l.take j) q).set l[j].bh.toNat ⟨l[j].bi,(nth (k1 (l.take j) q) l[j].bh).bI⟩:=by
 unfold k1
 rw[List.take_succ_eq_append_getElem h,List.foldl_append];rfl
def nf (p:aL) (i:Nat) (h:av):av:=if h.aF=3 then(if IntKind.i64.wrap (h.bU - 1)=0 then c7 p i else{h with bU:=IntKind.i64.wrap (h.bU - 1)}) else h
def iP (p:aL):Nat→List av→List av
 | 0,ws=>ws
 | n+1,ws=>let g:=iP p n ws;g.set n (nf p n (nth g n))
theorem FG (p:aL) (ws:List av): ∀n,(iP p n ws).length=ws.length
 | 0=>rfl
 | n+1=>by show(List.set _ _ _).length=_;rw[List.length_set];exact FG p ws n
def fK (p:aL) (f:Frame) (e:Event):Int:=
 if e.op=1 then hd p f e.aG
 else if e.op=2 then(if(nth f.O e.aG).aF≠1∧(nth f.O e.aG).aF≠2 then 2 else 0)
 else if e.op=6 then(if j9 p f e.aG=true then 2 else if lH p f e.aG=true then 3 else 0)
 else 0
def jq (p:aL) (f:Frame) (e:Event):Frame:=
 if e.op=1 then{f with ay:=k1 (bV (nth p.O e.aG)) f.ay,O:=f.O.set e.aG.toNat {nth f.O e.aG with aF:=1}}
 else if e.op=2 then(if((nth f.O e.aG).bW&&hU f (nth p.O e.aG).ek)=true then{f with O:=f.O.set e.aG.toNat {nth f.O e.aG with aF:=3,bU:=p.cB}} else{f with O:=f.O.set e.aG.toNat (c7 p e.aG)})
 else if e.op=3∨e.op=4 then{f with aE:=f.aE.set e.aG.toNat (e.op==3)}
 else if e.op=5 then{f with ay:=f.ay.set e.aG.toNat ⟨(nth f.ay e.aG).dR,e.bi⟩}
 else if e.op=6 then{f with ay:=f.ay.set e.aG.toNat ⟨e.bi,(nth f.ay e.aG).bI⟩}
 else if e.op=7 then{f with O:=iP p f.O.length f.O}
 else f
def ih (p:aL) (f:Frame) (e:Event):fj:=if fK p f e≠0 then⟨fK p f e,f⟩ else⟨0,dV p (jq p f e)⟩
def GN (p:aL) (f:Frame) (e:Event):Prop:=Fit p f∧fD p e=true
theorem iT.tU {p:aL} {f:Frame} (h:iT p f) {i:Nat} {x:av} (hx:i<f.O.length→x.ae.length=(nth p.O i).ao.length∧0≤x.bc∧x.bc≤x.ae.length):iT p {f with O:=f.O.set i x}:=by
 refine⟨h.aE,h.ay,by rw[List.length_set];exact h.O,fun j y w h1 h2=> ?_,fun y aU=> ?_⟩
 ·replace h1:(f.O.set i x)[j]?=some y:=h1
  rw[List.getElem?_set] at h1
  split at h1
  ·rename_i e;subst e
   split at h1
   ·rename_i ag
    cases h1
    rw[(hx ag).1,kq (by have:=h.O;omega)]
    rw[List.getElem?_eq_getElem (by have:=h.O;omega)] at h2
    cases h2;rfl
   ·cases h1
  ·exact h.ae j y w h1 h2
 ·rcases List.mem_or_eq_of_mem_set aU with aU | rfl
  ·exact h.bc y aU
  ·by_cases ag:i<f.O.length
   ·exact(hx ag).2
   ·rw[List.set_eq_of_length_le (by omega)] at aU
    exact h.bc _ aU
theorem iT.at {p:aL} {f:Frame} (h:iT p f) {i:Nat} (hi:i<f.O.length):(nth f.O i).ae.length=(nth p.O i).ao.length∧0≤(nth f.O i).bc∧(nth f.O i).bc≤(nth f.O i).ae.length:=by
 have ac:i<p.O.length:=by have:=h.O;omega
 refine⟨h.ae i _ _ ?_ ?_,h.bc _ (dT (by simpa using hi))⟩
 ·rw[kq hi];exact List.getElem?_eq_getElem hi
 ·rw[kq ac];exact List.getElem?_eq_getElem ac
theorem M7 (n:Nat):(hR n).ae.length=n∧0≤(hR n).bc∧(hR n).bc≤(hR n).ae.length:=by simp[hR]
theorem RU {p:aL} {f:Frame} (h:iT p f): ∀n,iT p {f with O:=iP p n f.O}
 | 0=>h
 | n+1=>by
  have bp:=RU h n
  show iT p {f with O:=(iP p n f.O).set n (nf p n (nth (iP p n f.O) n))}
  refine iT.tU bp (i:=n) fun ag=> ?_
  have aw:=bp.at ag
  unfold nf
  split
  ·split
   ·exact M7 _
   ·exact aw
  ·exact aw
theorem iT.jf {p:aL} {f:Frame} (h:iT p f) {o:List Bool} {q:List bL} (aj:o.length=f.aE.length) (U:q.length=f.ay.length):iT p {f with aE:=o,ay:=q}:=
 ⟨by show(o.length:Int)=_;rw[aj];exact h.aE,by show q.length=_;rw[U];exact h.ay,h.O,h.ae,h.bc⟩
theorem GM {p:aL} {f:Frame} {e:Event} (h:iT p f) (aA:e.op=1∨e.op=2→0≤e.aG∧e.aG<p.O.length):iT p (jq p f e):=by
 unfold jq
 split
 ·rename_i aj
  have aO:=aA (.inl aj)
  have au:=h.O
  have aw:=h.at (i:=e.aG.toNat) (by omega)
  rw[lG aO.1] at aw
  exact iT.tU (h.jf rfl (Fc _ _)) fun _=>aw
 ·split
  ·rename_i aj
   have aO:=aA (.inr aj)
   have au:=h.O
   have aw:=h.at (i:=e.aG.toNat) (by omega)
   rw[lG aO.1] at aw
   split
   ·exact h.tU fun _=>aw
   ·refine h.tU fun _=> ?_
    have:=M7 (nth p.O e.aG).ao.length
    rw[lG aO.1];exact this
  ·split
   ·exact h.jf (List.length_set) rfl
   ·split
    ·exact h.jf rfl (List.length_set)
    ·split
     ·exact h.jf rfl (List.length_set)
     ·split
      ·exact RU h _
      ·exact h
theorem s6 {p:aL} {e:Event} (h:fD p e=true) (aj:e.op=1∨e.op=2):0≤e.aG∧e.aG<p.O.length:=by
 rw[LG aj,Bool.and_eq_true] at h
 exact wI h.1
theorem LK {p:aL} {e:Event} (h:fD p e=true) (aj:e.op=3∨e.op=4):0≤e.aG∧e.aG<p.ao:=by
 rw[LH (by omega) aj,Bool.and_eq_true] at h
 exact wI h.1
theorem As {p:aL} {e:Event} (h:fD p e=true) (aj:e.op=5∨e.op=6):0≤e.aG∧e.aG<p.a7.length:=by
 rcases aj with aj | aj
 ·rw[G3 aj,Bool.and_eq_true] at h;exact wI h.1
 ·rw[G4 aj,Bool.and_eq_true] at h;exact wI h.1
theorem Av {p:aL} {f:Frame} (h:Fit p f):iu f:=by
 have bZ:=h.in
 have dn:=h.fr
 have h1:=bZ.cY
 have h2:=bZ.bh
 have aC:=bZ.O
 have bg:=dn.aE
 have ch:=dn.ay
 have cy:=dn.O
 refine⟨by omega,by omega,by omega,fun x hx=> ?_⟩
 obtain⟨i,hi,rfl⟩:=List.mem_iff_getElem.1 hx
 have ac:i<p.O.length:=by omega
 have:=(bZ.ao _ (List.getElem_mem ac)).2.1
 rw[dn.ae i _ _ (List.getElem?_eq_getElem hi) (List.getElem?_eq_getElem ac)];omega
theorem GO {p:aL} {f:Frame} {e:Event} (h:Fit p f) (he:fD p e=true):Fit p (ih p f e).frame:=by
 unfold ih
 split
 ·exact h
 ·exact⟨h.oF,zm (GM h.fr (s6 he)) _⟩
theorem Gs {p:aL} (h:eD p=true):Fit p (cA p):=by
 have bZ:=w3 h
 have h1:=bZ.cY
 unfold cA
 rw[if_pos h]
 refine⟨h,by show((List.replicate _ _).length:Int)=_;rw[List.length_replicate];omega,by show(List.replicate _ _).length=_;rw[List.length_replicate],by show(List.map _ _).length=_;rw[List.length_map],fun i x w aN e2=> ?_,fun x hx=> ?_⟩
 ·replace aN:(List.map _ _)[i]?=some x:=aN
  rw[List.getElem?_map,e2] at aN
  cases aN;simp[hR]
 ·obtain⟨w,_,rfl⟩:=List.mem_map.1 hx
  exact(M7 _).2
def lN (p:aL):Frame→List Event→List fj
 | _,[]=>[]
 | f,e::es=>if fD p e=true then ih p f e::lN p (ih p f e).frame es else⟨1,f⟩::lN p f es
def kW (p:aL):Frame→List Event→Frame
 | f,[]=>f
 | f,e::es=>kW p (if fD p e=true then(ih p f e).frame else f) es
def xd (p:aL) (es:List Event):List fj:=if eD p=true∧es.length≤1000 then lN p (cA p) es else[]
theorem aaa (p:aL) (e:Event): ∀(es:List Event) (f:Frame),lN p f (es++[e])=lN p f es++[if fD p e=true then ih p (kW p f es) e else⟨1,kW p f es⟩]∧kW p f (es++[e])=(if fD p e=true then(ih p (kW p f es) e).frame else kW p f es)
 | [],f=>by
  show(if fD p e=true then _ else _)=_∧_
  constructor
  ·by_cases h:fD p e=true
   ·rw[if_pos h];simp[lN,kW,h]
   ·rw[if_neg h];simp[lN,kW,h]
  ·rfl
 | d::es,f=>by
  have bp:=fun g=>aaa p e es g
  by_cases h:fD p d=true
  ·simp only[List.cons_append,lN,kW,if_pos h]
   exact⟨by rw[(bp _).1],(bp _).2⟩
  ·simp only[List.cons_append,lN,kW,if_neg h]
   exact⟨by rw[(bp _).1],(bp _).2⟩
theorem OA {p:aL}: ∀(es:List Event) {f:Frame},Fit p f→Fit p (kW p f es)
 | [],f,h=>h
 | e::es,f,h=>by
  unfold kW
  by_cases he:fD p e=true
  ·rw[if_pos he];exact OA es (GO h he)
  ·rw[if_neg he];exact OA es h
theorem xe (p:aL): ∀(es:List Event) (f:Frame),(lN p f es).length=es.length
 | [],f=>rfl
 | e::es,f=>by
  unfold lN
  split
  ·rw[List.length_cons,xe p es];rfl
  ·rw[List.length_cons,xe p es];rfl
end Go.Proofs.YtejmihecgodhnaaGreat.Fw
set_option linter.unusedVariables false
set_option maxRecDepth 100000
set_option maxHeartbeats 4000000
set_option linter.unusedSimpArgs false
namespace Go.Proofs.YtejmihecgodhnaaGreat.Fw
open Go
attribute [local irreducible] evS evSD WpS Weak Oper.looksAt
section
variable (a0:(List Int)) (J aa:Int)
def XT:Prop:=
 a0.length≤4611686018427387904→((decide ((IntKind.i64.wrap (J - (a0.length:Int)))<0))=true→(-1)=aa)∧((!(decide ((IntKind.i64.wrap (J - (a0.length:Int)))<0)))=true→(IntKind.i64.wrap (J - (a0.length:Int)))=aa)
theorem ak6 (ab:jw a0 J):bn Tryz.prog 34 [bA cx a0,ad J] (ad (fc a0 J)):=(fun(h:XT a0 J (fc a0 J))=>bn.run (ps:=[(.l .int),.int]) (rs:=[.int]) (x:=(a0,J,())) (r:=((fc a0 J),())) ⟨12,dy,[]⟩ ⟨[],[],[],[],[]⟩ .nil Tryz.func34 h) (by
 unfold XT
 exact fun ag=>JQ ab ag)
def XU:dJ Tryz.prog:=⟨34,[(.l .int),.int],[.int],some fun x=>jw x.1 x.2.1,fun x=>((fc x.1 x.2.1),()),fun x h=>ak6 x.1 x.2.1 h⟩
end
section
variable (a0:(List c9)) (J aa:Int)
def XV:Prop:=
 a0.length≤4611686018427387904→((decide ((IntKind.i64.wrap (J - (a0.length:Int)))<0))=true→(-1)=aa)∧((!(decide ((IntKind.i64.wrap (J - (a0.length:Int)))<0)))=true→(IntKind.i64.wrap (J - (a0.length:Int)))=aa)
theorem ak7 (ab:jw a0 J):bn Tryz.prog 115 [bA dd a0,ad J] (ad (fc a0 J)):=(fun(h:XV a0 J (fc a0 J))=>bn.run (ps:=[(.l .bi),.int]) (rs:=[.int]) (x:=(a0,J,())) (r:=((fc a0 J),())) ⟨12,dy,[]⟩ ⟨[],[],[],[],[]⟩ .nil Tryz.func115 h) (by
 unfold XV
 exact fun ag=>JQ ab ag)
def ak8:dJ Tryz.prog:=⟨115,[(.l .bi),.int],[.int],some fun x=>jw x.1 x.2.1,fun x=>((fc x.1 x.2.1),()),fun x h=>ak7 x.1 x.2.1 h⟩
end
section
variable (a0:Way) (J aa:Int)
abbrev Ey:=fc a0.cR (fc a0.bI (fc a0.ao J))
abbrev yV:=fc a0.di (Ey a0 J)
def X1:Prop:=
  ((decide ((yV a0 J)<0))=true→(-1)=aa)∧((!(decide ((yV a0 J)<0)))=true→(jw a0.ek (yV a0 J))∧(((decide ((fc a0.ek (yV a0 J))<0))=true→(-1)=aa)∧((!(decide ((fc a0.ek (yV a0 J))<0)))=true→(fc a0.ek (yV a0 J))=aa)))
def X2:Prop:=
  ((decide ((fc a0.bI (fc a0.ao J))<0))=true→(-1)=aa)∧((!(decide ((fc a0.bI (fc a0.ao J))<0)))=true→(jw a0.cR (fc a0.bI (fc a0.ao J)))∧(((decide ((Ey a0 J)<0))=true→(-1)=aa)∧((!(decide ((Ey a0 J)<0)))=true→(jw a0.di (Ey a0 J))∧(X1 a0 J aa))))
def X0:Prop:=
 (jw a0.ao J)∧(((decide ((fc a0.ao J)<0))=true→(-1)=aa)∧((!(decide ((fc a0.ao J)<0)))=true→(jw a0.bI (fc a0.ao J))∧(X2 a0 J aa)))
theorem alb (ab:jw a0 J):bn Tryz.prog 85 [.agg (dj false a0),ad J] (ad (uc a0 J)):=(fun(h:X0 a0 J (uc a0 J))=>bn.run (ps:=[.e6,.int]) (rs:=[.int]) (x:=(a0,J,())) (r:=((uc a0 J),())) ⟨36,dy,[XU,ak8]⟩ ⟨[],[],[],[],[]⟩ .nil Tryz.func85 h) (by
 unfold X0 X2 X1 yV Ey uc vE fc
 have ab:0≤J∧J≤1048576:=ab
 refine⟨ab,xy (m:=a0.bI.length+a0.cR.length+a0.di.length+a0.ek.length) ab (by omega) fun c k=>⟨k,?_⟩⟩
 rw[yW ab.1 c]
 refine xy (m:=a0.cR.length+a0.di.length+a0.ek.length) ab (by omega) fun c k=>⟨k,?_⟩
 rw[yW ab.1 c]
 refine xy (m:=a0.di.length+a0.ek.length) ab (by omega) fun c k=>⟨k,?_⟩
 rw[yW ab.1 c]
 refine xy (m:=a0.ek.length) ab (by omega) fun c k=>⟨k,?_⟩
 rw[yW ab.1 c]
 exact xy (m:=0) ab (by omega) fun c k=>rfl)
def alc:dJ Tryz.prog:=⟨85,[.e6,.int],[.int],some fun x=>jw x.1 x.2.1,fun x=>((uc x.1 x.2.1),()),fun x h=>alb x.1 x.2.1 h⟩
end
section
variable (ai:Int→Int→Prop) (al:Int→Int→Nat) (a0:(List Way)) (J aa:Int)
def XZ:Prop:=
  ai (IntKind.i64.wrap (J - (a0.length:Int))) 0∧ ∀(v1:Int) (v5:Int),ai v1 v5→(((decide (v5<(a0.length:Int)))=false→v1=aa)∧((decide (v5<(a0.length:Int)))=true→(((0≤v5∧v5.toNat<a0.length)∧(jw (nth a0 v5) v1))∧((decide ((uc (nth a0 v5) v1)<0))=true→(-1)=aa))∧((!(decide ((uc (nth a0 v5) v1)<0)))=true→ai (uc (nth a0 v5) v1) (IntKind.i64.wrap (v5+1))∧al (uc (nth a0 v5) v1) (IntKind.i64.wrap (v5+1))<al v1 v5)))
def XY (a0:(List Way)) (J:Int) (aa:Int) (ai:Int→Int→Prop) (al:Int→Int→Nat):Prop:=
 a0.length≤4611686018427387904→((decide ((IntKind.i64.wrap (J - (a0.length:Int)))<0))=true→(-1)=aa)∧((!(decide ((IntKind.i64.wrap (J - (a0.length:Int)))<0)))=true→XZ ai al a0 J aa)
theorem ak_ (ab:jw a0 J):bn Tryz.prog 35 [bA (dj false) a0,ad J] (ad (Cx a0 J)):=(fun(ai:Int→Int→Prop) (al:Int→Int→Nat) (h:XY a0 J (Cx a0 J) ai al)=>bn.run (ps:=[(.l .e6),.int]) (rs:=[.int]) (x:=(a0,J,())) (r:=((Cx a0 J),())) ⟨27,dy,[alc]⟩ ⟨[14],[],[],[],[]⟩ (.lp [] [0] [] [.int,.int] [1,5] (fun aS=>[(1,.i .i64 aS.1),(5,.i .i64 aS.2.1)]) (fun aS=>ai aS.1 aS.2.1) (fun aS=>al aS.1 aS.2.1) fun _=> .nil) Tryz.func35 h) (FB a0 vE J) (FC a0) (by
 unfold XY XZ
 exact fun ag=>aci (g:=uc) (fun _ _=>rfl) ab ag)
def ala:dJ Tryz.prog:=⟨35,[(.l .e6),.int],[.int],some fun x=>jw x.1 x.2.1,fun x=>((Cx x.1 x.2.1),()),fun x h=>ak_ x.1 x.2.1 h⟩
end
section
variable (a0:(List Bool)) (J aa:Int)
def XR:Prop:=
 a0.length≤4611686018427387904→((decide ((IntKind.i64.wrap (J - (a0.length:Int)))<0))=true→(-1)=aa)∧((!(decide ((IntKind.i64.wrap (J - (a0.length:Int)))<0)))=true→(IntKind.i64.wrap (J - (a0.length:Int)))=aa)
theorem ak3 (ab:jw a0 J):bn Tryz.prog 37 [bA aR a0,ad J] (ad (fc a0 J)):=(fun(h:XR a0 J (fc a0 J))=>bn.run (ps:=[(.l .bool),.int]) (rs:=[.int]) (x:=(a0,J,())) (r:=((fc a0 J),())) ⟨12,dy,[]⟩ ⟨[],[],[],[],[]⟩ .nil Tryz.func37 h) (by
 unfold XR
 exact fun ag=>JQ ab ag)
def ak4:dJ Tryz.prog:=⟨37,[(.l .bool),.int],[.int],some fun x=>jw x.1 x.2.1,fun x=>((fc x.1 x.2.1),()),fun x h=>ak3 x.1 x.2.1 h⟩
end
section
variable (ai:Int→Int→Prop) (al:Int→Int→Nat) (a0:(List (List Bool))) (J aa:Int)
def XQ:Prop:=
  ai (IntKind.i64.wrap (J - (a0.length:Int))) 0∧ ∀(v1:Int) (v5:Int),ai v1 v5→(((decide (v5<(a0.length:Int)))=false→v1=aa)∧((decide (v5<(a0.length:Int)))=true→(((0≤v5∧v5.toNat<a0.length)∧(jw (nth a0 v5) v1))∧((decide ((fc (nth a0 v5) v1)<0))=true→(-1)=aa))∧((!(decide ((fc (nth a0 v5) v1)<0)))=true→ai (fc (nth a0 v5) v1) (IntKind.i64.wrap (v5+1))∧al (fc (nth a0 v5) v1) (IntKind.i64.wrap (v5+1))<al v1 v5)))
def XP (a0:(List (List Bool))) (J:Int) (aa:Int) (ai:Int→Int→Prop) (al:Int→Int→Nat):Prop:=
 a0.length≤4611686018427387904→((decide ((IntKind.i64.wrap (J - (a0.length:Int)))<0))=true→(-1)=aa)∧((!(decide ((IntKind.i64.wrap (J - (a0.length:Int)))<0)))=true→XQ ai al a0 J aa)
theorem ak1 (ab:jw a0 J):bn Tryz.prog 36 [bA (hq aR false) a0,ad J] (ad (xx a0 J)):=(fun(ai:Int→Int→Prop) (al:Int→Int→Nat) (h:XP a0 J (xx a0 J) ai al)=>bn.run (ps:=[(.l (.l .bool)),.int]) (rs:=[.int]) (x:=(a0,J,())) (r:=((xx a0 J),())) ⟨27,dy,[ak4]⟩ ⟨[14],[],[],[],[]⟩ (.lp [] [0] [] [.int,.int] [1,5] (fun aS=>[(1,.i .i64 aS.1),(5,.i .i64 aS.2.1)]) (fun aS=>ai aS.1 aS.2.1) (fun aS=>al aS.1 aS.2.1) fun _=> .nil) Tryz.func36 h) (FB a0 List.length J) (FC a0) (by
 unfold XP XQ
 exact fun ag=>aci (g:=fc) (fun _ _=>rfl) ab ag)
def ak2:dJ Tryz.prog:=⟨36,[(.l (.l .bool)),.int],[.int],some fun x=>jw x.1 x.2.1,fun x=>((xx x.1 x.2.1),()),fun x h=>ak1 x.1 x.2.1 h⟩
end
section
variable (a0:aL) (J aa:Int)
abbrev yU:=Cx a0.O (fc a0.a7 J)
def XX:Prop:=
  ((decide ((yU a0 J)<0))=true→(-1)=aa)∧((!(decide ((yU a0 J)<0)))=true→(jw a0.bG (yU a0 J))∧(((decide ((xx a0.bG (yU a0 J))<0))=true→(-1)=aa)∧((!(decide ((xx a0.bG (yU a0 J))<0)))=true→(xx a0.bG (yU a0 J))=aa)))
def XW:Prop:=
 (jw a0.a7 J)∧(((decide ((fc a0.a7 J)<0))=true→(-1)=aa)∧((!(decide ((fc a0.a7 J)<0)))=true→(jw a0.O (fc a0.a7 J))∧(XX a0 J aa)))
theorem ak9 (ab:jw a0 J):bn Tryz.prog 6 [.agg (bD false a0),ad J] (ad (sI a0 J)):=(fun(h:XW a0 J (sI a0 J))=>bn.run (ps:=[.eO,.int]) (rs:=[.int]) (x:=(a0,J,())) (r:=((sI a0 J),())) ⟨24,dy,[XU,ala,ak2]⟩ ⟨[],[],[],[],[]⟩ .nil Tryz.func6 h) (by
 unfold XW XX yU sI mz fc Cx xx
 have ab:0≤J∧J≤1048576:=ab
 refine⟨ab,xy (m:=CU a0.O+xY a0.bG) ab (by omega) fun c k=>⟨k,?_⟩⟩
 rw[yW ab.1 c]
 refine xy (m:=xY a0.bG) ab (by omega) fun c k=>⟨k,?_⟩
 rw[yW ab.1 c]
 exact xy (m:=0) ab (by omega) fun c k=>rfl)
end
section
variable (a0 J a2:Int) (aa:Bool)
def aoG:Prop:=
 ((decide (a0 ≥ J))&&(decide (a0≤a2)))=aa
theorem QK:bn Tryz.prog 41 [ad a0,ad J,ad a2] (aq (ca a0 J a2)):=(fun(h:aoG a0 J a2 (ca a0 J a2))=>bn.run (ps:=[.int,.int,.int]) (rs:=[.bool]) (x:=(a0,J,a2,())) (r:=((ca a0 J a2),())) ⟨15,dy,[]⟩ ⟨[],[],[],[],[]⟩ .nil Tryz.func41 h) (by
 rfl)
def Fp:dJ Tryz.prog:=⟨41,[.int,.int,.int],[.bool],none,fun x=>((ca x.1 x.2.1 x.2.2.1),()),fun x h=>QK x.1 x.2.1 x.2.2.1⟩
end
section
variable (ai:Int→Prop) (al:Int→Nat) (bb:Int→Int→Prop) (a_:Int→Int→Nat) (a0 J:(List Int)) (aa:Bool) (v11:Int)
def abg:Prop:=
  bb v11 0∧ ∀(gJ:Int),bb v11 gJ→(((decide (gJ<(J.length:Int)))=false→ai (IntKind.i64.wrap (v11+1))∧al (IntKind.i64.wrap (v11+1))<al v11)∧((decide (gJ<(J.length:Int)))=true→((0≤gJ∧gJ.toNat<J.length)∧(((nth a0 v11)==(nth J gJ))=true→true=aa))∧((!((nth a0 v11)==(nth J gJ)))=true→bb v11 (IntKind.i64.wrap (gJ+1))∧a_ v11 (IntKind.i64.wrap (gJ+1))<a_ v11 gJ)))
def abf (a0:(List Int)) (J:(List Int)) (aa:Bool) (ai:Int→Prop) (al:Int→Nat) (bb:Int→Int→Prop) (a_:Int→Int→Nat):Prop:=
 a0.length≤4611686018427387904→ai 0∧ ∀(v11:Int),ai v11→(((decide (v11<(a0.length:Int)))=false→false=aa)∧((decide (v11<(a0.length:Int)))=true→(0≤v11∧v11.toNat<a0.length)∧(J.length≤4611686018427387904→abg ai al bb a_ a0 J aa v11)))
theorem aoN:bn Tryz.prog 89 [bA cx a0,bA cx J] (aq (meets a0 J)):=(fun(ai:Int→Prop) (al:Int→Nat) (bb:Int→Int→Prop) (a_:Int→Int→Nat) (h:abf a0 J (meets a0 J) ai al bb a_)=>bn.run (ps:=[(.l .int),(.l .int)]) (rs:=[.bool]) (x:=(a0,J,())) (r:=((meets a0 J),())) ⟨26,dy,[]⟩ ⟨[],[],[],[],[]⟩ (fz [1,9,10] [] 11 ai al fun aS=>(fz [1,6,9,10,11,15,16] [] 17 (bb aS) (a_ aS) fun _=> .nil)) Tryz.func89 h) (cr a0.length (fun j=>hh J (nth a0 j))) (cM a0.length) (fun v=>cr J.length (fun k=>nth a0 v==nth J k)) (fun v=>cM J.length) (by
 unfold abf abg
 intro ag
 refine⟨dA (dp _),fun v aT=>⟨fun hv=> ?_,fun hv=>⟨cC aT hv,fun hm=>⟨dA (dp _),fun k hK=>⟨fun hk=> ?_,fun hk=>⟨⟨cC hK hk,fun ab=> ?_⟩,fun ab=>da (cO hm) hK hk (not_eq ab)⟩⟩⟩⟩⟩⟩
 ·exact(FJ (q:=fun x=>hh J x) aT hv).symm
 ·exact da (cO ag) aT hv (ahg (hV hK hk))
 ·exact(JZ (q:=fun x=>hh J x) aT hv (ahi (cC hK hk).2 ab)).symm)
def QM:dJ Tryz.prog:=⟨89,[(.l .int),(.l .int)],[.bool],none,fun x=>((meets x.1 x.2.1),()),fun x h=>aoN x.1 x.2.1⟩
end
section
variable (ai:(List Int)→Int→Prop) (al:(List Int)→Int→Nat) (a0 aa:(List Int))
def X_:Prop:=
  ai (List.replicate (a0.length:Int).toNat (0:Int)) 0∧ ∀(aI:(List Int)) (v4:Int),ai aI v4→(((decide (v4<(a0.length:Int)))=false→aI.length≤4611686018427387904∧aI=aa)∧((decide (v4<(a0.length:Int)))=true→((0≤v4∧v4.toNat<a0.length)∧((0≤v4∧v4.toNat<aI.length)∧(v4.toNat<aI.length)))∧(ai (aI.set v4.toNat (nth a0 v4)) (IntKind.i64.wrap (v4+1))∧al (aI.set v4.toNat (nth a0 v4)) (IntKind.i64.wrap (v4+1))<al aI v4)))
def X9 (a0:(List Int)) (aa:(List Int)) (ai:(List Int)→Int→Prop) (al:(List Int)→Int→Nat):Prop:=
 (a0.length≤4611686018427387904→0≤(a0.length:Int)∧8*(a0.length:Int)≤140737488355328∧(a0.length:Int)≤4611686018427387904)∧(a0.length≤4611686018427387904→X_ ai al a0 aa)
theorem alm (ab:small a0):bn Tryz.prog 43 [bA cx a0] (pt cx (aV a0)):=(fun(ai:(List Int)→Int→Prop) (al:(List Int)→Int→Nat) (h:X9 a0 (aV a0) ai al)=>bn.run (ps:=[(.l .int)]) (rs:=[(.l .int)]) (x:=(a0,())) (r:=((aV a0),())) ⟨22,dy,[]⟩ ⟨[10],[],[],[],[]⟩ (.lp [] [0] [] [(.l .int),.int] [bJ 0,4] (fun aS=>[(3,.ref 0 0 aS.1.length false),(4,.i .i64 aS.2.1),(bJ 0,.blk 0 .int aS.1 _ rfl)]) (fun aS=>ai aS.1 aS.2.1) (fun aS=>al aS.1 aS.2.1) fun _=> .nil) Tryz.func43 h) (rj a0 (fun x=>x) (0:Int)) (r_ a0) (by
 unfold X9 X_
 have ab:a0.length≤1048576:=ab
 exact⟨fun ag=>⟨dp _,by omega,by omega⟩,fun ag=>Hb (f:=fun x=>x) ag (by simp[aV])⟩)
def Ya:dJ Tryz.prog:=⟨43,[(.l .int)],[(.l .int)],some fun x=>small x.1,fun x=>((aV x.1),()),fun x h=>alm x.1 h⟩
end
section
variable (a0 aa:c9)
def alp:Prop:=
 (a0.bh=aa.bh)∧(a0.bi=aa.bi)
theorem alq:bn Tryz.prog 131 [.agg (dd a0)] (.agg (dd (aV a0))):=(fun(h:alp a0 (aV a0))=>bn.run (ps:=[.bi]) (rs:=[.bi]) (x:=(a0,())) (r:=((aV a0),())) ⟨11,dy,[]⟩ ⟨[],[],[],[],[]⟩ .nil Tryz.func131 h) (by
 exact⟨rfl,rfl⟩)
def alr:dJ Tryz.prog:=⟨131,[.bi],[.bi],none,fun x=>((aV x.1),()),fun x h=>alq x.1⟩
end
section
variable (ai:(List c9)→Int→Prop) (al:(List c9)→Int→Nat) (a0 aa:(List c9))
def Yc:Prop:=
  ai (List.replicate (a0.length:Int).toNat ({bh:=(0:Int),bi:=(0:Int)}:c9)) 0∧ ∀(aI:(List c9)) (v4:Int),ai aI v4→(((decide (v4<(a0.length:Int)))=false→aI.length≤4611686018427387904∧aI=aa)∧((decide (v4<(a0.length:Int)))=true→((0≤v4∧v4.toNat<a0.length)∧((0≤v4∧v4.toNat<aI.length)∧(v4.toNat<aI.length)))∧(ai (aI.set v4.toNat (aV (nth a0 v4))) (IntKind.i64.wrap (v4+1))∧al (aI.set v4.toNat (aV (nth a0 v4))) (IntKind.i64.wrap (v4+1))<al aI v4)))
def Yb (a0:(List c9)) (aa:(List c9)) (ai:(List c9)→Int→Prop) (al:(List c9)→Int→Nat):Prop:=
 (a0.length≤4611686018427387904→0≤(a0.length:Int)∧16*(a0.length:Int)≤140737488355328∧(a0.length:Int)≤4611686018427387904)∧(a0.length≤4611686018427387904→Yc ai al a0 aa)
theorem aln (ab:small a0):bn Tryz.prog 116 [bA dd a0] (pt dd (aV a0)):=(fun(ai:(List c9)→Int→Prop) (al:(List c9)→Int→Nat) (h:Yb a0 (aV a0) ai al)=>bn.run (ps:=[(.l .bi)]) (rs:=[(.l .bi)]) (x:=(a0,())) (r:=((aV a0),())) ⟨23,dy,[alr]⟩ ⟨[10],[],[],[],[]⟩ (.lp [] [0] [] [(.l .bi),.int] [bJ 0,4] (fun aS=>[(3,.ref 0 0 aS.1.length false),(4,.i .i64 aS.2.1),(bJ 0,.blk 0 .bi aS.1 _ rfl)]) (fun aS=>ai aS.1 aS.2.1) (fun aS=>al aS.1 aS.2.1) fun _=> .nil) Tryz.func116 h) (rj a0 (aV) ({bh:=(0:Int),bi:=(0:Int)}:c9)) (r_ a0) (by
 unfold Yb Yc
 have ab:a0.length≤1048576:=ab
 exact⟨fun ag=>⟨dp _,by omega,by omega⟩,fun ag=>Hb (f:=aV) ag (IG _)⟩)
def alo:dJ Tryz.prog:=⟨116,[(.l .bi)],[(.l .bi)],some fun x=>small x.1,fun x=>((aV x.1),()),fun x h=>aln x.1 h⟩
end
section
variable (a0 aa:Way)
def Yh:Prop:=
 (small a0.ao)∧((small a0.bI)∧((small a0.cR)∧((small a0.di)∧((small a0.ek)∧(((aV a0.ao)=aa.ao)∧((aV a0.bI)=aa.bI)∧((aV a0.cR)=aa.cR)∧((aV a0.di)=aa.di)∧((aV a0.ek)=aa.ek))))))
theorem alv (ab:Ff a0):bn Tryz.prog 90 [.agg (dj false a0)] (.agg (dj true (aV a0))):=(fun(h:Yh a0 (aV a0))=>bn.run (ps:=[.e6]) (rs:=[.e6]) (x:=(a0,())) (r:=((aV a0),())) ⟨25,dy,[Ya,alo]⟩ ⟨[],[],[],[],[]⟩ .nil Tryz.func90 h) (by
 have ab:a0.ao.length+a0.bI.length+a0.cR.length+a0.di.length+a0.ek.length≤1048576:=ab
 unfold Yh small
 exact⟨by omega,by omega,by omega,by omega,by omega,rfl,rfl,rfl,rfl,rfl⟩)
def alw:dJ Tryz.prog:=⟨90,[.e6],[.e6],some fun x=>Ff x.1,fun x=>((aV x.1),()),fun x h=>alv x.1 h⟩
end
section
variable (ai:(List Way)→Int→Prop) (al:(List Way)→Int→Nat) (a0 aa aI:(List Way)) (v4:Int)
def Yf:Prop:=
  ((decide (v4<(a0.length:Int)))=false→aI.length≤4611686018427387904∧aI=aa)∧((decide (v4<(a0.length:Int)))=true→((0≤v4∧v4.toNat<a0.length)∧((Ff (nth a0 v4))∧((0≤v4∧v4.toNat<aI.length)∧(v4.toNat<aI.length))))∧(ai (aI.set v4.toNat (aV (nth a0 v4))) (IntKind.i64.wrap (v4+1))∧al (aI.set v4.toNat (aV (nth a0 v4))) (IntKind.i64.wrap (v4+1))<al aI v4))
def Yg:Prop:=
  (a0.length≤4611686018427387904→0≤(a0.length:Int)∧120*(a0.length:Int)≤140737488355328∧(a0.length:Int)≤4611686018427387904)∧(a0.length≤4611686018427387904→ai (List.replicate (a0.length:Int).toNat ({ao:=([]:(List Int)),bI:=([]:(List c9)),cR:=([]:(List c9)),di:=([]:(List Int)),ek:=([]:(List Int))}:Way)) 0∧ ∀(aI:(List Way)) (v4:Int),ai aI v4→(Yf ai al a0 aa aI v4))
def Ye (a0:(List Way)) (aa:(List Way)) (ai:(List Way)→Int→Prop) (al:(List Way)→Int→Nat):Prop:=
 Yg ai al a0 aa
theorem alt (ab:Jt a0):bn Tryz.prog 44 [bA (dj false) a0] (pt (dj false) (aV a0)):=(fun(ai:(List Way)→Int→Prop) (al:(List Way)→Int→Nat) (h:Ye a0 (aV a0) ai al)=>bn.run (ps:=[(.l .e6)]) (rs:=[(.l .e6)]) (x:=(a0,())) (r:=((aV a0),())) ⟨23,dy,[alw]⟩ ⟨[10],[],[],[],[]⟩ (.lp [] [0] [] [(.l .e6),.int] [bJ 0,4] (fun aS=>[(3,.ref 0 0 aS.1.length false),(4,.i .i64 aS.2.1),(bJ 0,.blk 0 .e6 aS.1 _ rfl)]) (fun aS=>ai aS.1 aS.2.1) (fun aS=>al aS.1 aS.2.1) fun _=> .nil) Tryz.func44 h) (rj a0 aV ({ao:=([]:(List Int)),bI:=([]:(List c9)),cR:=([]:(List c9)),di:=([]:(List Int)),ek:=([]:(List Int))}:Way)) (r_ a0) (by
 unfold Ye Yg Yf
 have ab:a0.length+(a0.map vE).sum≤1048576:=ab
 refine⟨fun ag=>⟨dp _,by omega,by omega⟩,fun ag=>LU (f:=aV) (φ:=fun v=>Ff (nth a0 v)) ag (IG _) fun v _ hv=> ?_⟩
 have:=OR vE (dT hv)
 unfold Ff;omega)
def alu:dJ Tryz.prog:=⟨44,[(.l .e6)],[(.l .e6)],some fun x=>Jt x.1,fun x=>((aV x.1),()),fun x h=>alt x.1 h⟩
end
section
variable (ai:(List Bool)→Int→Prop) (al:(List Bool)→Int→Nat) (a0 aa:(List Bool))
def X6:Prop:=
  ai (List.replicate (a0.length:Int).toNat false) 0∧ ∀(aI:(List Bool)) (v4:Int),ai aI v4→(((decide (v4<(a0.length:Int)))=false→aI.length≤4611686018427387904∧aI=aa)∧((decide (v4<(a0.length:Int)))=true→((0≤v4∧v4.toNat<a0.length)∧((0≤v4∧v4.toNat<aI.length)∧(v4.toNat<aI.length)))∧(ai (aI.set v4.toNat (nth a0 v4)) (IntKind.i64.wrap (v4+1))∧al (aI.set v4.toNat (nth a0 v4)) (IntKind.i64.wrap (v4+1))<al aI v4)))
def X5 (a0:(List Bool)) (aa:(List Bool)) (ai:(List Bool)→Int→Prop) (al:(List Bool)→Int→Nat):Prop:=
 (a0.length≤4611686018427387904→0≤(a0.length:Int)∧1*(a0.length:Int)≤140737488355328∧(a0.length:Int)≤4611686018427387904)∧(a0.length≤4611686018427387904→X6 ai al a0 aa)
theorem alf (ab:small a0):bn Tryz.prog 46 [bA aR a0] (pt aR (aV a0)):=(fun(ai:(List Bool)→Int→Prop) (al:(List Bool)→Int→Nat) (h:X5 a0 (aV a0) ai al)=>bn.run (ps:=[(.l .bool)]) (rs:=[(.l .bool)]) (x:=(a0,())) (r:=((aV a0),())) ⟨22,dy,[]⟩ ⟨[10],[],[],[],[]⟩ (.lp [] [0] [] [(.l .bool),.int] [bJ 0,4] (fun aS=>[(3,.ref 0 0 aS.1.length false),(4,.i .i64 aS.2.1),(bJ 0,.blk 0 .bool aS.1 _ rfl)]) (fun aS=>ai aS.1 aS.2.1) (fun aS=>al aS.1 aS.2.1) fun _=> .nil) Tryz.func46 h) (rj a0 (fun x=>x) false) (r_ a0) (by
 unfold X5 X6
 have ab:a0.length≤1048576:=ab
 exact⟨fun ag=>⟨dp _,by omega,by omega⟩,fun ag=>Hb (f:=fun x=>x) ag (by simp[aV])⟩)
def alg:dJ Tryz.prog:=⟨46,[(.l .bool)],[(.l .bool)],some fun x=>small x.1,fun x=>((aV x.1),()),fun x h=>alf x.1 h⟩
end
section
variable (ai:(List (List Bool))→Int→Prop) (al:(List (List Bool))→Int→Nat) (a0 aa aI:(List (List Bool))) (v4:Int)
def X4:Prop:=
  ((decide (v4<(a0.length:Int)))=false→aI.length≤4611686018427387904∧aI=aa)∧((decide (v4<(a0.length:Int)))=true→((0≤v4∧v4.toNat<a0.length)∧((small (nth a0 v4))∧((0≤v4∧v4.toNat<aI.length)∧(v4.toNat<aI.length))))∧(ai (aI.set v4.toNat (aV (nth a0 v4))) (IntKind.i64.wrap (v4+1))∧al (aI.set v4.toNat (aV (nth a0 v4))) (IntKind.i64.wrap (v4+1))<al aI v4))
def X3 (a0:(List (List Bool))) (aa:(List (List Bool))) (ai:(List (List Bool))→Int→Prop) (al:(List (List Bool))→Int→Nat):Prop:=
 (a0.length≤4611686018427387904→0≤(a0.length:Int)∧24*(a0.length:Int)≤140737488355328∧(a0.length:Int)≤4611686018427387904)∧(a0.length≤4611686018427387904→ai (List.replicate (a0.length:Int).toNat ([]:(List Bool))) 0∧ ∀(aI:(List (List Bool))) (v4:Int),ai aI v4→(X4 ai al a0 aa aI v4))
theorem ald (ab:Js a0):bn Tryz.prog 45 [bA (hq aR false) a0] (pt (hq aR false) (aV a0)):=(fun(ai:(List (List Bool))→Int→Prop) (al:(List (List Bool))→Int→Nat) (h:X3 a0 (aV a0) ai al)=>bn.run (ps:=[(.l (.l .bool))]) (rs:=[(.l (.l .bool))]) (x:=(a0,())) (r:=((aV a0),())) ⟨23,dy,[alg]⟩ ⟨[10],[],[],[],[]⟩ (.lp [] [0] [] [(.l (.l .bool)),.int] [bJ 0,4] (fun aS=>[(3,.ref 0 0 aS.1.length false),(4,.i .i64 aS.2.1),(bJ 0,.blk 0 (.l .bool) aS.1 _ rfl)]) (fun aS=>ai aS.1 aS.2.1) (fun aS=>al aS.1 aS.2.1) fun _=> .nil) Tryz.func45 h) (rj a0 aV ([]:(List Bool))) (r_ a0) (by
 unfold X3 X4
 have ab:a0.length+(a0.map List.length).sum≤1048576:=ab
 refine⟨fun ag=>⟨dp _,by omega,by omega⟩,fun ag=>LU (f:=aV) (φ:=fun v=>small (nth a0 v)) ag (IG _) fun v _ hv=> ?_⟩
 have:=OR List.length (dT hv)
 unfold small;omega)
def ale:dJ Tryz.prog:=⟨45,[(.l (.l .bool))],[(.l (.l .bool))],some fun x=>Js x.1,fun x=>((aV x.1),()),fun x h=>ald x.1 h⟩
end
section
variable (a0 aa:aL)
def Yd:Prop:=
 (small a0.a7)∧((Jt a0.O)∧((Js a0.bG)∧((a0.ao=aa.ao)∧((aV a0.a7)=aa.a7)∧((aV a0.O)=aa.O)∧((aV a0.bG)=aa.bG)∧(a0.cB=aa.cB))))
theorem als (ab:P6 a0):bn Tryz.prog 9 [.agg (bD false a0)] (.agg (bD true (aV a0))):=(fun(h:Yd a0 (aV a0))=>bn.run (ps:=[.eO]) (rs:=[.eO]) (x:=(a0,())) (r:=((aV a0),())) ⟨23,dy,[Ya,alu,ale]⟩ ⟨[],[],[],[],[]⟩ .nil Tryz.func9 h) (by
 have ab:a0.a7.length+CU a0.O+xY a0.bG≤1048576:=ab
 unfold Yd small Jt Js
 exact⟨by omega,by omega,by omega,rfl,rfl,rfl,rfl,rfl⟩)
end
section
variable (a0:(List Int)) (J aa:Int) (ai:Int→Prop) (al:Int→Nat)
def aaC:Prop:=
 a0.length≤4611686018427387904→ai 0∧ ∀(dk:Int),ai dk→(((decide (dk<(a0.length:Int)))=false→(-1)=aa)∧((decide (dk<(a0.length:Int)))=true→((0≤dk∧dk.toNat<a0.length)∧((J==(nth a0 dk))=true→dk=aa))∧((!(J==(nth a0 dk)))=true→ai (IntKind.i64.wrap (dk+1))∧al (IntKind.i64.wrap (dk+1))<al dk)))
theorem aod:bn Tryz.prog 123 [bA cx a0,ad J] (ad (pK a0 J)):=(fun(ai:Int→Prop) (al:Int→Nat) (h:aaC a0 J (pK a0 J) ai al)=>bn.run (ps:=[(.l .int),.int]) (rs:=[.int]) (x:=(a0,J,())) (r:=((pK a0 J),())) ⟨19,dy,[]⟩ ⟨[],[],[],[],[]⟩ (fz [0,1,7] [] 8 ai al fun _=> .nil) Tryz.func123 h) (cr a0.length (fun j=>J==nth a0 j)) (cM a0.length) (by
 unfold aaC
 intro ag
 refine⟨dA (dp _),fun v aT=>⟨fun hv=> ?_,fun hv=>⟨⟨cC aT hv,fun ab=> ?_⟩,fun ab=>da (cO ag) aT hv (not_eq ab)⟩⟩⟩
 ·unfold pK;rw[ue (q:=fun x=>J==x) aT hv];rfl
 ·unfold pK;rw[ud (q:=fun x=>J==x) aT hv ab]
  have:=aT.1
  show v=(v.toNat:Int)
  omega)
def aaD:dJ Tryz.prog:=⟨123,[(.l .int),.int],[.int],none,fun x=>((pK x.1 x.2.1),()),fun x h=>aod x.1 x.2.1⟩
end
section
variable (a0:(List Int)) (J:Int) (aa:Bool)
def aaA:Prop:=
 (decide ((pK a0 J) ≥ 0))=aa
theorem aoa:bn Tryz.prog 97 [bA cx a0,ad J] (aq (hh a0 J)):=(fun(h:aaA a0 J (hh a0 J))=>bn.run (ps:=[(.l .int),.int]) (rs:=[.bool]) (x:=(a0,J,())) (r:=((hh a0 J),())) ⟨9,dy,[aaD]⟩ ⟨[],[],[],[],[]⟩ .nil Tryz.func97 h) (by
 unfold aaA
 exact aiN a0 J)
def Jr:dJ Tryz.prog:=⟨97,[(.l .int),.int],[.bool],none,fun x=>((hh x.1 x.2.1),()),fun x h=>aoa x.1 x.2.1⟩
end
section
variable (a0 J:(List Int)) (aa:Bool) (ai:Int→Prop) (al:Int→Nat)
def Ww:Prop:=
 a0.length≤4611686018427387904→ai 0∧ ∀(v9:Int),ai v9→(((decide (v9<(a0.length:Int)))=false→false=aa)∧((decide (v9<(a0.length:Int)))=true→((0≤v9∧v9.toNat<a0.length)∧((hh J (nth a0 v9))=true→true=aa))∧((!(hh J (nth a0 v9)))=true→ai (IntKind.i64.wrap (v9+1))∧al (IntKind.i64.wrap (v9+1))<al v9)))
theorem ajw:bn Tryz.prog 96 [bA cx a0,bA cx J] (aq (meets a0 J)):=(fun(ai:Int→Prop) (al:Int→Nat) (h:Ww a0 J (meets a0 J) ai al)=>bn.run (ps:=[(.l .int),(.l .int)]) (rs:=[.bool]) (x:=(a0,J,())) (r:=((meets a0 J),())) ⟨17,dy,[Jr]⟩ ⟨[],[],[],[],[]⟩ (fz [1,7,8] [] 9 ai al fun _=> .nil) Tryz.func96 h) (cr a0.length (fun j=>hh J (nth a0 j))) (cM a0.length) (by
 unfold Ww
 intro ag
 refine⟨dA (dp _),fun v aT=>⟨fun hv=> ?_,fun hv=>⟨⟨cC aT hv,fun ab=> ?_⟩,fun ab=>da (cO ag) aT hv (not_eq ab)⟩⟩⟩
 ·exact(FJ (q:=fun x=>hh J x) aT hv).symm
 ·exact(JZ (q:=fun x=>hh J x) aT hv ab).symm)
def N1:dJ Tryz.prog:=⟨96,[(.l .int),(.l .int)],[.bool],none,fun x=>((meets x.1 x.2.1),()),fun x h=>ajw x.1 x.2.1⟩
end
section
variable (a0 aa:(List c9))
abbrev P0:=a0.length*16≤140737488355328∧a0.length≤4611686018427387904
noncomputable def an1:Code:=jK Tryz.f124
def PZ:Prop:=
 (a0≠[]→(P0 a0)∧(a0=aa))∧(a0=[]→ ∀b2:Bool,(b2=true→[]=aa)∧(b2=false→(P0 a0)∧(a0=aa)))
theorem an2 (h:PZ a0 aa):c8 Tryz.prog 124 [bA dd a0] [] (fun r H=>r=ap 0 0 aa.length∧H=[⟨0,2,List.map dd aa⟩]):=by
 refine c8.toOwn ?_
 unfold PZ at h
 refine c8.go (fn:=Tryz.f124) [(0,bA dd a0)] Tryz.func124 (fun _ _=> ?_)
 show WpS _ (bQ an1 1) _ ⟨bm 8 [(0,bA dd a0)],[],[]⟩
 refine et [] 0 [(2,cu)] [] [1] ?_
 refine ig ?_
 refine ig ?_
 refine bx [] 1 ?_
 refine PP 2 (some 4) [(3,bA dd a0)] dd a0 (fun hx=> ?_) (fun hx b2=> ?_)
 ·
  replace h:=h.1 hx
  refine d_ [] ?_
  refine ef.normal ?_
  refine vV (.tmp 4) false (fun q3=> ?_) (fun q3=> ?_)
  ·
   cases q3
  ·
   refine ew ?_
   refine ef.normal ?_
   obtain⟨c0,h⟩:=h
   refine k4 ⟨(bm 8 [(2,ap 0 0 a0.length)]),[],[⟨0,2,List.map dd a0⟩]⟩ (True) ?_ (fun q4=> ?_)
   ·
    replace h:=c0
    refine bx [] 3 ?_
    have cQ:=h
    refine xf 3 (some 7) [(6,bA dd a0),(5,cu)] dd a0 (m9 false (List.map dd a0)) 0 2 16 (fun r=>[⟨0,2,r⟩]) rfl cQ ?_
    exact b3 [(2,ap 0 0 a0.length)] trivial
   refine hZ ?_
   refine mE (ap 0 0 a0.length) [ap 0 0 a0.length] ?_
   exact⟨rK [some 0],tL [some 0] rfl (by decide) ⟨rfl,(qR (b:=0) (g:=0) (sz:=2) (xs:=a0) (ys:=aa) rfl Y0 h),trivial⟩,(.inr (y9 (by simp) rfl rfl (by have:=congrArg List.length h;simpa using this)))⟩
 ·
  replace h:=h.2 hx b2
  refine d_ [] ?_
  refine ef.normal ?_
  refine vV (.tmp 4) b2 (fun gp=> ?_) (fun gp=> ?_)
  ·
   replace h:=h.1 gp
   refine k4 ⟨(bm 8 [(2,cu)]),[],[]⟩ (True) ?_ (fun gb=> ?_)
   ·
    refine bx [] 2 ?_
    exact b3 [(2,cu)] trivial
   refine hZ ?_
   refine ef.ret ?_
   refine mE (cu) [cu] ?_
   exact⟨rK [none],tL [none] rfl (by decide) ⟨rfl,trivial,trivial⟩,(.inr (O3 (by simp) rfl rfl (by rw[←h];rfl)))⟩
  ·
   replace h:=h.2 gp
   refine ew ?_
   refine ef.normal ?_
   obtain⟨jz,h⟩:=h
   refine k4 ⟨(bm 8 [(2,ap 0 0 a0.length)]),[],[⟨0,2,List.map dd a0⟩]⟩ (True) ?_ (fun jP=> ?_)
   ·
    replace h:=jz
    refine bx [] 3 ?_
    have hy:=h
    refine xf 3 (some 7) [(6,bA dd a0),(5,cu)] dd a0 (m9 false (List.map dd a0)) 0 2 16 (fun r=>[⟨0,2,r⟩]) rfl hy ?_
    exact b3 [(2,ap 0 0 a0.length)] trivial
   refine hZ ?_
   refine mE (ap 0 0 a0.length) [ap 0 0 a0.length] ?_
   exact⟨rK [some 0],tL [some 0] rfl (by decide) ⟨rfl,(qR (b:=0) (g:=0) (sz:=2) (xs:=a0) (ys:=aa) rfl Y0 h),trivial⟩,(.inr (y9 (by simp) rfl rfl (by have:=congrArg List.length h;simpa using this)))⟩
theorem an0 (ab:small a0):c8 Tryz.prog 124 [bA dd a0] [] (fun r H=>r=ap 0 0 (aV a0).length∧H=[⟨0,2,List.map dd (aV a0)⟩]):=an2 a0 (aV a0) (by
 have ab:a0.length≤1048576:=ab
 unfold PZ P0
 refine⟨fun h=>⟨⟨by omega,by omega⟩,rfl⟩,fun h b=>⟨fun _=> ?_,fun _=>⟨⟨by omega,by omega⟩,rfl⟩⟩⟩
 exact h.symm)
end
section
variable (a0:Way) (aa:(List c9))
abbrev yK:=(aV a0.bI)++a0.cR
noncomputable def Wy:Code:=jK Tryz.f98
def ajx:List Item:=[cz 0,cz 1,cz 3,cz 4,⟨2,true,false,[3,4]⟩,⟨5,true,false,[]⟩,cz 6]
def ajy:List (List Nat):=[[],[0],[0,1],[],[3],rg 0 5,rg 0 6]
def N2:Prop:=
 ((small a0.bI)∧(((aV a0.bI).length+a0.cR.length)*16≤140737488355328∧(aV a0.bI).length+a0.cR.length≤4611686018427387904))∧((yK a0).length≤4611686018427387904∧(yK a0)=aa)
theorem ajz (h:N2 a0 aa):bn Tryz.prog 98 [.agg (dj false a0)] (pt dd aa):=by
 unfold N2 at h
 refine c8.go (fn:=Tryz.f98) [(0,.agg (dj false a0))] Tryz.func98 (fun _ _=> ?_)
 show WpS _ (bQ Wy 1) _ ⟨bm 9 [(0,.agg (dj false a0))],[],[]⟩
 refine sZ [] 0 [(2,cu),(1,aJ 1 0)] [0,1,1] [] [(1,(dj false a0))] [] ?_
 obtain⟨cQ,h⟩:=h
 refine fk [(2,ap 0 1 (yK a0).length)] [] id (fun _=>[⟨1,2,List.map dd (yK a0)⟩]) (True) ?_ (fun q2=> ?_)
 ·
  replace h:=cQ
  refine o5 [] 1 ajx ajy [] ?_
  obtain⟨q3,h⟩:=h
  refine JS 5 (some 5) [(7,bA dd a0.cR),(6,aJ 1 2),(4,bA dd a0.bI),(3,aJ 1 1)] [bA dd a0.bI] (fun L H=>sb Tryz.prog (j_ Wy 6) [3,4] [(7,bA dd a0.cR),(6,aJ 1 2),(4,bA dd a0.bI),(3,aJ 1 1),(1,aJ 1 0)] L H) (ap 0 0 (aV a0.bI).length) [⟨0,2,List.map dd (aV a0.bI)⟩] (an0 a0.bI q3) (ah.cons (c6.iH cJ) ah.nil) (tK (fun _=>rfl) rfl) (tW (tV (fun _=>rfl) rfl) (by kernel_rfl)) (wW (ψ:=((true=true∧true=true∧((aJ 1 2:AV)=aJ 1 2))∧((true=true∧true=true∧((bA dd a0.cR:AV)=bA dd a0.cR))∧True))) (by kernel_rfl) ⟨⟨rfl,rfl,rfl⟩,⟨⟨rfl,rfl,rfl⟩,trivial⟩⟩) ?_
  have q4:=h
  refine ap0 1 (some 8) [] dd (aV a0.bI) a0.cR (m9 false (List.map dd a0.cR)) 0 0 2 16 (fun _=>True) (fun r=>[⟨1,2,r⟩]) rfl q4 trivial ?_
  exact l8 [(2,ap 0 1 (yK a0).length)] trivial
 exact hZ (rI (ap 0 1 (yK a0).length) (ie.iH (p_ (sz:=2) (by simp) rfl (Te) h)))
theorem Wx (ab:BN a0):bn Tryz.prog 98 [.agg (dj false a0)] (pt dd (bV a0)):=ajz a0 (bV a0) (by
 obtain⟨h1,h2⟩:=ab
 unfold N2 yK aV small
 exact⟨⟨h1,by omega,by omega⟩,by rw[List.length_append];omega,rfl⟩)
def N3:dJ Tryz.prog:=⟨98,[.e6],[(.l .bi)],some fun x=>BN x.1,fun x=>((bV x.1),()),fun x h=>Wx x.1 h⟩
end
section
variable (ai:Int→Prop) (al:Int→Nat) (a0:(List Int)) (aa:Bool)
def ajT:List Item:=(List.range 8).map cz
def ajU:List (List Nat):=[[],[],[0,1],[],[],[3,4],[3,4,5],rg 0 7]
def WW:Prop:=
  a0.length≤4611686018427387904→ai 0∧ ∀(v6:Int),ai v6→(((decide (v6<(a0.length:Int)))=false→false=aa)∧((decide (v6<(a0.length:Int)))=true→(((0≤v6∧v6≤(a0.length:Int))∧(0≤v6∧v6.toNat<a0.length))∧((hh (a0.take v6.toNat) (nth a0 v6))=true→true=aa))∧((!(hh (a0.take v6.toNat) (nth a0 v6)))=true→ai (IntKind.i64.wrap (v6+1))∧al (IntKind.i64.wrap (v6+1))<al v6)))
def WV (a0:(List Int)) (aa:Bool) (ai:Int→Prop) (al:Int→Nat):Prop:=
 WW ai al a0 aa
theorem ajR:bn Tryz.prog 137 [bA cx a0] (aq (dup a0)):=(fun(ai:Int→Prop) (al:Int→Nat) (h:WV a0 (dup a0) ai al)=>bn.run (ps:=[(.l .int)]) (rs:=[.bool]) (x:=(a0,())) (r:=((dup a0),())) ⟨18,dy,[Jr]⟩ ⟨[],[(4,ajT,ajU)],[],[],[]⟩ (fz [0,5] [] 6 ai al fun _=> .nil) Tryz.func137 h) (cr a0.length (fun j=>hh (a0.take j.toNat) (nth a0 j))) (cM a0.length) (by
 unfold WV WW
 intro ag
 refine⟨dA (dp _),fun v aT=>⟨fun hv=> ?_,fun hv=>⟨⟨⟨⟨aT.1,aT.2.1⟩,cC aT hv⟩,fun ab=> ?_⟩,fun ab=>da (cO ag) aT hv (not_eq ab)⟩⟩⟩
 ·exact(TD (hV aT hv)).symm
 ·exact(afh (cC aT hv).1 (cC aT hv).2 ab).symm)
def ajS:dJ Tryz.prog:=⟨137,[(.l .int)],[.bool],none,fun x=>((dup x.1),()),fun x h=>ajR x.1⟩

end
section
variable (ai:Int→Prop) (al:Int→Nat) (a0 J:(List Int)) (aa:Bool)
def akG:List Item:=(List.range 9).map cz
def akH:List (List Nat):=[[],[],[0,1],[0,1,2],[],[],[4,5],[4,5,6],rg 0 8]
def XB:Prop:=
  ((a0.length≤4611686018427387904)∧(J.length≤4611686018427387904)→((a0.length:Int) !=(J.length:Int))=true→false=aa)∧((a0.length≤4611686018427387904)∧(J.length≤4611686018427387904)∧((!((a0.length:Int) !=(J.length:Int)))=true)→ai 0∧ ∀(v5:Int),ai v5→(((decide (v5<(a0.length:Int)))=false→true=aa)∧((decide (v5<(a0.length:Int)))=true→(((0≤v5∧v5.toNat<a0.length)∧(0≤v5∧v5.toNat<J.length))∧(((nth a0 v5) !=(nth J v5))=true→false=aa))∧((!((nth a0 v5) !=(nth J v5)))=true→ai (IntKind.i64.wrap (v5+1))∧al (IntKind.i64.wrap (v5+1))<al v5))))
def XA (a0:(List Int)) (J:(List Int)) (aa:Bool) (ai:Int→Prop) (al:Int→Nat):Prop:=
 XB ai al a0 J aa
theorem akF:bn Tryz.prog 52 [bA cx a0,bA cx J] (aq (eqv a0 J)):=(fun(ai:Int→Prop) (al:Int→Nat) (h:XA a0 J (eqv a0 J) ai al)=>bn.run (ps:=[(.l .int),(.l .int)]) (rs:=[.bool]) (x:=(a0,J,())) (r:=((eqv a0 J),())) ⟨26,dy,[]⟩ ⟨[13],[(6,akG,akH)],[],[],[]⟩ (fz [0,1] [] 5 ai al fun _=> .nil) Tryz.func52 h) (cr a0.length (fun v=>nth a0 v !=nth J v)) (cM a0.length) (by
 unfold XA XB
 exact uD (ne:=fun v=>nth a0 v !=nth J v) (fun v=>by simp[eqv]))
def XC:dJ Tryz.prog:=⟨52,[(.l .int),(.l .int)],[.bool],none,fun x=>((eqv x.1 x.2.1),()),fun x h=>akF x.1 x.2.1⟩
end
section
variable (a0 J:c9) (aa:Bool)
def XF:Prop:=
 ((a0.bh !=J.bh)=true→false=aa)∧((!(a0.bh !=J.bh))=true→((a0.bi !=J.bi)=true→false=aa)∧((!(a0.bi !=J.bi))=true→true=aa))
theorem akM:bn Tryz.prog 134 [.agg (dd a0),.agg (dd J)] (aq (eqv a0 J)):=(fun(h:XF a0 J (eqv a0 J))=>bn.run (ps:=[.bi,.bi]) (rs:=[.bool]) (x:=(a0,J,())) (r:=((eqv a0 J),())) ⟨15,dy,[]⟩ ⟨[],[],[],[],[]⟩ .nil Tryz.func134 h) (by
 unfold XF
 obtain⟨c,p⟩:=a0
 obtain⟨cv,y_⟩:=J
 simp[eqv]
 intros
 simp_all)
def akN:dJ Tryz.prog:=⟨134,[.bi,.bi],[.bool],none,fun x=>((eqv x.1 x.2.1),()),fun x h=>akM x.1 x.2.1⟩
end
section
variable (ai:Int→Prop) (al:Int→Nat) (a0 J:(List c9)) (aa:Bool)
def akK:List Item:=(List.range 10).map cz
def akL:List (List Nat):=[[],[],[0,1],[0,1,2],[],[],[4,5],[4,5,6],rg 0 8,rg 0 9]
def XE:Prop:=
  ((a0.length≤4611686018427387904)∧(J.length≤4611686018427387904)→((a0.length:Int) !=(J.length:Int))=true→false=aa)∧((a0.length≤4611686018427387904)∧(J.length≤4611686018427387904)∧((!((a0.length:Int) !=(J.length:Int)))=true)→ai 0∧ ∀(v5:Int),ai v5→(((decide (v5<(a0.length:Int)))=false→true=aa)∧((decide (v5<(a0.length:Int)))=true→(((0≤v5∧v5.toNat<a0.length)∧(0≤v5∧v5.toNat<J.length))∧((!(eqv (nth a0 v5) (nth J v5)))=true→false=aa))∧((!(!(eqv (nth a0 v5) (nth J v5))))=true→ai (IntKind.i64.wrap (v5+1))∧al (IntKind.i64.wrap (v5+1))<al v5))))
def XD (a0:(List c9)) (J:(List c9)) (aa:Bool) (ai:Int→Prop) (al:Int→Nat):Prop:=
 XE ai al a0 J aa
theorem akI:bn Tryz.prog 127 [bA dd a0,bA dd J] (aq (eqv a0 J)):=(fun(ai:Int→Prop) (al:Int→Nat) (h:XD a0 J (eqv a0 J) ai al)=>bn.run (ps:=[(.l .bi),(.l .bi)]) (rs:=[.bool]) (x:=(a0,J,())) (r:=((eqv a0 J),())) ⟨27,dy,[akN]⟩ ⟨[13],[(6,akK,akL)],[],[],[]⟩ (fz [0,1] [] 5 ai al fun _=> .nil) Tryz.func127 h) (cr a0.length (fun v=> !(eqv (nth a0 v) (nth J v)))) (cM a0.length) (by
 unfold XD XE
 exact uD (ne:=fun v=> !(eqv (nth a0 v) (nth J v))) (fun v=>by simp[eqv]))
def akJ:dJ Tryz.prog:=⟨127,[(.l .bi),(.l .bi)],[.bool],none,fun x=>((eqv x.1 x.2.1),()),fun x h=>akI x.1 x.2.1⟩
end
section
variable (a0 J:Way) (aa:Bool)
def XO:Prop:=
  ((!(eqv a0.ao J.ao))=true→false=aa)∧((!(!(eqv a0.ao J.ao)))=true→((!(eqv a0.bI J.bI))=true→false=aa)∧((!(!(eqv a0.bI J.bI)))=true→((!(eqv a0.cR J.cR))=true→false=aa)∧((!(!(eqv a0.cR J.cR)))=true→((!(eqv a0.di J.di))=true→false=aa)∧((!(!(eqv a0.di J.di)))=true→((!(eqv a0.ek J.ek))=true→false=aa)∧((!(!(eqv a0.ek J.ek)))=true→true=aa)))))
def XN:Prop:=
 XO a0 J aa
theorem akZ:bn Tryz.prog 100 [.agg (dj false a0),.agg (dj false J)] (aq (eqv a0 J)):=(fun(h:XN a0 J (eqv a0 J))=>bn.run (ps:=[.e6,.e6]) (rs:=[.bool]) (x:=(a0,J,())) (r:=((eqv a0 J),())) ⟨35,dy,[XC,akJ]⟩ ⟨[],[],[],[],[]⟩ .nil Tryz.func100 h) (by
 unfold XN XO
 obtain⟨a,b,c,d,e⟩:=a0
 obtain⟨hB,b4,cv,GL,bX⟩:=J
 simp[eqv]
 refine⟨fun h h1=>absurd h1 h,fun h=>⟨fun k _ c_=>absurd c_ k,?_⟩⟩
 intros
 simp_all)
def ak0:dJ Tryz.prog:=⟨100,[.e6,.e6],[.bool],none,fun x=>((eqv x.1 x.2.1),()),fun x h=>akZ x.1 x.2.1⟩
end
section
variable (ai:Int→Prop) (al:Int→Nat) (a0 J:(List Way)) (aa:Bool)
def akX:List Item:=(List.range 10).map cz
def akY:List (List Nat):=[[],[],[0,1],[0,1,2],[],[],[4,5],[4,5,6],rg 0 8,rg 0 9]
def XM:Prop:=
  ((a0.length≤4611686018427387904)∧(J.length≤4611686018427387904)→((a0.length:Int) !=(J.length:Int))=true→false=aa)∧((a0.length≤4611686018427387904)∧(J.length≤4611686018427387904)∧((!((a0.length:Int) !=(J.length:Int)))=true)→ai 0∧ ∀(v5:Int),ai v5→(((decide (v5<(a0.length:Int)))=false→true=aa)∧((decide (v5<(a0.length:Int)))=true→(((0≤v5∧v5.toNat<a0.length)∧(0≤v5∧v5.toNat<J.length))∧((!(eqv (nth a0 v5) (nth J v5)))=true→false=aa))∧((!(!(eqv (nth a0 v5) (nth J v5))))=true→ai (IntKind.i64.wrap (v5+1))∧al (IntKind.i64.wrap (v5+1))<al v5))))
def XL (a0:(List Way)) (J:(List Way)) (aa:Bool) (ai:Int→Prop) (al:Int→Nat):Prop:=
 XM ai al a0 J aa
theorem akV:bn Tryz.prog 53 [bA (dj false) a0,bA (dj false) J] (aq (eqv a0 J)):=(fun(ai:Int→Prop) (al:Int→Nat) (h:XL a0 J (eqv a0 J) ai al)=>bn.run (ps:=[(.l .e6),(.l .e6)]) (rs:=[.bool]) (x:=(a0,J,())) (r:=((eqv a0 J),())) ⟨27,dy,[ak0]⟩ ⟨[13],[(6,akX,akY)],[],[],[]⟩ (fz [0,1] [] 5 ai al fun _=> .nil) Tryz.func53 h) (cr a0.length (fun v=> !(eqv (nth a0 v) (nth J v)))) (cM a0.length) (by
 unfold XL XM
 exact uD (ne:=fun v=> !(eqv (nth a0 v) (nth J v))) (fun v=>by simp[eqv]))
def akW:dJ Tryz.prog:=⟨53,[(.l .e6),(.l .e6)],[.bool],none,fun x=>((eqv x.1 x.2.1),()),fun x h=>akV x.1 x.2.1⟩
end
section
variable (ai:Int→Prop) (al:Int→Nat) (a0 J:(List Bool)) (aa:Bool)
def akl:List Item:=(List.range 9).map cz
def akm:List (List Nat):=[[],[],[0,1],[0,1,2],[],[],[4,5],[4,5,6],rg 0 8]
def Xo:Prop:=
  ((a0.length≤4611686018427387904)∧(J.length≤4611686018427387904)→((a0.length:Int) !=(J.length:Int))=true→false=aa)∧((a0.length≤4611686018427387904)∧(J.length≤4611686018427387904)∧((!((a0.length:Int) !=(J.length:Int)))=true)→ai 0∧ ∀(v5:Int),ai v5→(((decide (v5<(a0.length:Int)))=false→true=aa)∧((decide (v5<(a0.length:Int)))=true→(((0≤v5∧v5.toNat<a0.length)∧(0≤v5∧v5.toNat<J.length))∧(((nth a0 v5) !=(nth J v5))=true→false=aa))∧((!((nth a0 v5) !=(nth J v5)))=true→ai (IntKind.i64.wrap (v5+1))∧al (IntKind.i64.wrap (v5+1))<al v5))))
def Xn (a0:(List Bool)) (J:(List Bool)) (aa:Bool) (ai:Int→Prop) (al:Int→Nat):Prop:=
 Xo ai al a0 J aa
theorem akk:bn Tryz.prog 55 [bA aR a0,bA aR J] (aq (eqv a0 J)):=(fun(ai:Int→Prop) (al:Int→Nat) (h:Xn a0 J (eqv a0 J) ai al)=>bn.run (ps:=[(.l .bool),(.l .bool)]) (rs:=[.bool]) (x:=(a0,J,())) (r:=((eqv a0 J),())) ⟨26,dy,[]⟩ ⟨[13],[(6,akl,akm)],[],[],[]⟩ (fz [0,1] [] 5 ai al fun _=> .nil) Tryz.func55 h) (cr a0.length (fun v=>nth a0 v !=nth J v)) (cM a0.length) (by
 unfold Xn Xo
 exact uD (ne:=fun v=>nth a0 v !=nth J v) (fun v=>by simp[eqv]))
def OB:dJ Tryz.prog:=⟨55,[(.l .bool),(.l .bool)],[.bool],none,fun x=>((eqv x.1 x.2.1),()),fun x h=>akk x.1 x.2.1⟩
end
section
variable (ai:Int→Prop) (al:Int→Nat) (a0 J:(List (List Bool))) (aa:Bool)
def aki:List Item:=(List.range 10).map cz
def akj:List (List Nat):=[[],[],[0,1],[0,1,2],[],[],[4,5],[4,5,6],rg 0 8,rg 0 9]
def Xm:Prop:=
  ((a0.length≤4611686018427387904)∧(J.length≤4611686018427387904)→((a0.length:Int) !=(J.length:Int))=true→false=aa)∧((a0.length≤4611686018427387904)∧(J.length≤4611686018427387904)∧((!((a0.length:Int) !=(J.length:Int)))=true)→ai 0∧ ∀(v5:Int),ai v5→(((decide (v5<(a0.length:Int)))=false→true=aa)∧((decide (v5<(a0.length:Int)))=true→(((0≤v5∧v5.toNat<a0.length)∧(0≤v5∧v5.toNat<J.length))∧((!(eqv (nth a0 v5) (nth J v5)))=true→false=aa))∧((!(!(eqv (nth a0 v5) (nth J v5))))=true→ai (IntKind.i64.wrap (v5+1))∧al (IntKind.i64.wrap (v5+1))<al v5))))
def Xl (a0:(List (List Bool))) (J:(List (List Bool))) (aa:Bool) (ai:Int→Prop) (al:Int→Nat):Prop:=
 Xm ai al a0 J aa
theorem akg:bn Tryz.prog 54 [bA (hq aR false) a0,bA (hq aR false) J] (aq (eqv a0 J)):=(fun(ai:Int→Prop) (al:Int→Nat) (h:Xl a0 J (eqv a0 J) ai al)=>bn.run (ps:=[(.l (.l .bool)),(.l (.l .bool))]) (rs:=[.bool]) (x:=(a0,J,())) (r:=((eqv a0 J),())) ⟨27,dy,[OB]⟩ ⟨[13],[(6,aki,akj)],[],[],[]⟩ (fz [0,1] [] 5 ai al fun _=> .nil) Tryz.func54 h) (cr a0.length (fun v=> !(eqv (nth a0 v) (nth J v)))) (cM a0.length) (by
 unfold Xl Xm
 exact uD (ne:=fun v=> !(eqv (nth a0 v) (nth J v))) (fun v=>by simp[eqv]))
def akh:dJ Tryz.prog:=⟨54,[(.l (.l .bool)),(.l (.l .bool))],[.bool],none,fun x=>((eqv x.1 x.2.1),()),fun x h=>akg x.1 x.2.1⟩
end
section
variable (a0 J:aL) (aa:Bool)
def XH:Prop:=
  ((a0.ao !=J.ao)=true→false=aa)∧((!(a0.ao !=J.ao))=true→((!(eqv a0.a7 J.a7))=true→false=aa)∧((!(!(eqv a0.a7 J.a7)))=true→((!(eqv a0.O J.O))=true→false=aa)∧((!(!(eqv a0.O J.O)))=true→((!(eqv a0.bG J.bG))=true→false=aa)∧((!(!(eqv a0.bG J.bG)))=true→((a0.cB !=J.cB)=true→false=aa)∧((!(a0.cB !=J.cB))=true→true=aa)))))
def XG:Prop:=
 XH a0 J aa
theorem akO:bn Tryz.prog 13 [.agg (bD false a0),.agg (bD false J)] (aq (eqv a0 J)):=(fun(h:XG a0 J (eqv a0 J))=>bn.run (ps:=[.eO,.eO]) (rs:=[.bool]) (x:=(a0,J,())) (r:=((eqv a0 J),())) ⟨33,dy,[XC,akW,akh]⟩ ⟨[],[],[],[],[]⟩ .nil Tryz.func13 h) (by
 unfold XG XH
 obtain⟨a,b,c,d,e⟩:=a0
 obtain⟨hB,b4,cv,GL,bX⟩:=J
 simp[eqv]
 refine⟨fun h h1=>absurd h1 h,fun h=>⟨fun k _ c_=>absurd c_ k,?_⟩⟩
 intros
 simp_all)
end
section
variable (ai:Int→Prop) (al:Int→Nat) (bb:Int→Int→Prop) (a_:Int→Int→Nat) (a0:(List Int)) (J:Int) (aa:Bool) (v10:Int)
def abe:Prop:=
  ((!(ca (nth a0 v10) 0 (IntKind.i64.wrap (J - 1))))=true→false=aa)∧((!(!(ca (nth a0 v10) 0 (IntKind.i64.wrap (J - 1)))))=true→bb v10 0∧ ∀(gd:Int),bb v10 gd→(((decide (gd<v10))=false→ai (IntKind.i64.wrap (v10+1))∧al (IntKind.i64.wrap (v10+1))<al v10)∧((decide (gd<v10))=true→((0≤gd∧gd.toNat<a0.length)∧(((nth a0 gd)==(nth a0 v10))=true→false=aa))∧((!((nth a0 gd)==(nth a0 v10)))=true→bb v10 (IntKind.i64.wrap (gd+1))∧a_ v10 (IntKind.i64.wrap (gd+1))<a_ v10 gd))))
def abd (a0:(List Int)) (J:Int) (aa:Bool) (ai:Int→Prop) (al:Int→Nat) (bb:Int→Int→Prop) (a_:Int→Int→Nat):Prop:=
 a0.length≤4611686018427387904→ai 0∧ ∀(v10:Int),ai v10→(((decide (v10<(a0.length:Int)))=false→(decide ((a0.length:Int)≤30))=aa)∧((decide (v10<(a0.length:Int)))=true→(0≤v10∧v10.toNat<a0.length)∧(abe ai al bb a_ a0 J aa v10)))
theorem aoL (ab:ES a0 J):bn Tryz.prog 135 [bA cx a0,ad J] (aq (je a0 J)):=(fun(ai:Int→Prop) (al:Int→Nat) (bb:Int→Int→Prop) (a_:Int→Int→Nat) (h:abd a0 J (je a0 J) ai al bb a_)=>bn.run (ps:=[(.l .int),.int]) (rs:=[.bool]) (x:=(a0,J,())) (r:=((je a0 J),())) ⟨35,dy,[Fp]⟩ ⟨[33],[],[],[],[]⟩ (fz [0,1,8,9] [] 10 ai al fun aS=>(fz [0,1,5,6,8,9,10] [] 7 (bb aS) (a_ aS) fun _=> .nil)) Tryz.func135 h) (cr a0.length (fun j=> !ca (nth a0 j) 0 (J - 1) || hh (a0.take j.toNat) (nth a0 j))) (cM a0.length) (fun v=>cr v (fun k=>nth a0 k==nth a0 v)) (fun v=>cM v) (by
 have ab: -9223372036854775808<J∧J≤9223372036854775807:=ab
 unfold abd abe
 intro ag
 refine⟨dA (dp _),fun v aT=>⟨fun hv=> ?_,fun hv=>⟨cC aT hv,?_⟩⟩⟩
 ·exact(YL 30).trans (alQ (hV aT hv)).symm
 ·have hi:=cC aT hv
  rw[jH (by omega) (by omega)]
  refine⟨fun h=>(Yo hi.2 h).symm,fun ak=>⟨dA aT.1,fun k hK=>⟨fun hk=> ?_,fun hk=> ?_⟩⟩⟩
  ·refine da (cO ag) aT hv ?_
   rw[ahh aT.1 (by simpa using hv) (hV hK hk),Bool.or_false]
   exact not_eq ak
  ·have lx:k<v:=by simpa using hk
   have:=hK.1
   exact⟨⟨⟨by omega,by omega⟩,fun he=>(alP hK.1 lx (by omega) he).symm⟩,fun he=>da (by omega) hK hk (not_eq he)⟩)
def aoM:dJ Tryz.prog:=⟨135,[(.l .int),.int],[.bool],some fun x=>ES x.1 x.2.1,fun x=>((je x.1 x.2.1),()),fun x h=>aoL x.1 x.2.1 h⟩
end
section
variable (ai:Int→Prop) (al:Int→Nat) (bb:Int→Int→Prop) (a_:Int→Int→Nat) (a0:aL) (J:(List c9)) (aa:Bool) (v10:Int)
abbrev QL:=(!(ca (nth J v10).bh 0 (IntKind.i64.wrap ((a0.a7.length:Int) - 1)))) || (!(ca (nth J v10).bi 1 2))
def aoJ:List Item:=(List.range 8).map cz
def aoK:List (List Nat):=[[],[],[0,1],[0,1,2],rg 0 4,[],[5],rg 0 7]
def abb:Prop:=
  bb v10 0∧ ∀(gd:Int),bb v10 gd→(((decide (gd<v10))=false→ai (IntKind.i64.wrap (v10+1))∧al (IntKind.i64.wrap (v10+1))<al v10)∧((decide (gd<v10))=true→((0≤gd∧gd.toNat<J.length)∧(((nth J gd).bh==(nth J v10).bh)=true→false=aa))∧((!((nth J gd).bh==(nth J v10).bh))=true→bb v10 (IntKind.i64.wrap (gd+1))∧a_ v10 (IntKind.i64.wrap (gd+1))<a_ v10 gd)))
def abc:Prop:=
  (a0.a7.length≤4611686018427387904→(QL a0 J v10)=true→false=aa)∧((a0.a7.length≤4611686018427387904)∧((!(QL a0 J v10))=true)→abb ai al bb a_ J aa v10)
def aba (a0:aL) (J:(List c9)) (aa:Bool) (ai:Int→Prop) (al:Int→Nat) (bb:Int→Int→Prop) (a_:Int→Int→Nat):Prop:=
 J.length≤4611686018427387904→ai 0∧ ∀(v10:Int),ai v10→(((decide (v10<(J.length:Int)))=false→(decide ((J.length:Int)≤30))=aa)∧((decide (v10<(J.length:Int)))=true→(0≤v10∧v10.toNat<J.length)∧(abc ai al bb a_ a0 J aa v10)))
theorem aoH:bn Tryz.prog 136 [.agg (bD false a0),bA dd J] (aq (n_ a0 J)):=(fun(ai:Int→Prop) (al:Int→Nat) (bb:Int→Int→Prop) (a_:Int→Int→Nat) (h:aba a0 J (n_ a0 J) ai al bb a_)=>bn.run (ps:=[.eO,(.l .bi)]) (rs:=[.bool]) (x:=(a0,J,())) (r:=((n_ a0 J),())) ⟨46,dy,[Fp]⟩ ⟨[44],[(9,aoJ,aoK)],[],[],[]⟩ (fz [1,2,8,9] [(2,5)] 10 ai al fun aS=>(fz [1,2,5,6,8,9,10] [(6,2),(2,5)] 7 (bb aS) (a_ aS) fun _=> .nil)) Tryz.func136 h) (cr J.length (fun j=>rA a0 (nth J j) || EB J j)) (cM J.length) (fun v=>cr v (fun k=>(nth J k).bh==(nth J v).bh)) (fun v=>cM v) (by
 unfold aba abc abb QL
 intro ag
 refine⟨dA (dp _),fun v aT=>⟨fun hv=> ?_,fun hv=>⟨cC aT hv,?_⟩⟩⟩
 ·exact(YL 30).trans (alN (hV aT hv)).symm
 ·have hi:=cC aT hv
  refine⟨fun hs h=> ?_,fun⟨hs,ak⟩=>⟨dA aT.1,fun k hK=>⟨fun hk=> ?_,fun hk=> ?_⟩⟩⟩
  ·rw[jH (by omega) (by omega)] at h
   exact(alO hi.2 h).symm
  ·rw[jH (by omega) (by omega)] at ak
   refine da (cO ag) aT hv ?_
   rw[alK aT.1 (by simpa using hv) (hV hK hk),Bool.or_false]
   exact not_eq ak
  ·have lx:k<v:=by simpa using hk
   have:=hK.1
   exact⟨⟨⟨by omega,by omega⟩,fun he=>(alM hK.1 lx (by omega) he).symm⟩,fun he=>da (by omega) hK hk (not_eq he)⟩)
def aoI:dJ Tryz.prog:=⟨136,[.eO,(.l .bi)],[.bool],none,fun x=>((n_ x.1 x.2.1),()),fun x h=>aoH x.1 x.2.1⟩
end
section
variable (ai:Int→Prop) (al:Int→Nat) (bb:Int→Int→Prop) (a_:Int→Int→Nat) (a0:aL) (J:Way) (aa:Bool) (rW gL:Int)
abbrev QO:=((J.ao.length:Int)==0) || ((!(je J.ao a0.ao)) || ((!(je J.di a0.ao)) || ((!(je J.ek a0.ao)) || ((!(n_ a0 J.bI)) || (!(n_ a0 J.cR))))))
def aoS:List Item:=(List.range 11).map cz
def aoT:List (List Nat):=[[],[0],[],[2],rg 0 4,rg 0 5,rg 0 6,[],[7],rg 0 9,rg 0 10]
def abi:Prop:=
  ((decide (rW<(J.cR.length:Int)))=false→(0≤(nth J.bI gL).bh∧(nth J.bI gL).bh.toNat<a0.a7.length)∧(((!(meets [(nth a0.a7 (nth J.bI gL).bh)] J.ao))=true→false=aa)∧((!(meets [(nth a0.a7 (nth J.bI gL).bh)] J.ao))=false→ai (IntKind.i64.wrap (gL+1))∧al (IntKind.i64.wrap (gL+1))<al gL)))∧((decide (rW<(J.cR.length:Int)))=true→((0≤rW∧rW.toNat<J.cR.length)∧(((nth J.bI gL).bh==(nth J.cR rW).bh)=true→false=aa))∧((!((nth J.bI gL).bh==(nth J.cR rW).bh))=true→bb gL (IntKind.i64.wrap (rW+1))∧a_ gL (IntKind.i64.wrap (rW+1))<a_ gL rW))
def abj:Prop:=
  ((J.ao.length≤4611686018427387904→((J.ao.length:Int)==0)=false→(ES J.ao a0.ao)∧((!(je J.ao a0.ao))=false→(ES J.di a0.ao)∧((!(je J.di a0.ao))=false→ES J.ek a0.ao)))∧(J.ao.length≤4611686018427387904→(QO a0 J)=true→false=aa))∧((J.ao.length≤4611686018427387904)∧((!(QO a0 J))=true)→J.bI.length≤4611686018427387904→ai 0∧ ∀(gL:Int),ai gL→(((decide (gL<(J.bI.length:Int)))=false→(!(meets J.di J.ao))=aa)∧((decide (gL<(J.bI.length:Int)))=true→(0≤gL∧gL.toNat<J.bI.length)∧(J.cR.length≤4611686018427387904→bb gL 0∧ ∀(rW:Int),bb gL rW→(abi ai al bb a_ a0 J aa rW gL)))))
def abh (a0:aL) (J:Way) (aa:Bool) (ai:Int→Prop) (al:Int→Nat) (bb:Int→Int→Prop) (a_:Int→Int→Nat):Prop:=
 abj ai al bb a_ a0 J aa
theorem aoQ (ab:Pc a0 J):bn Tryz.prog 128 [.agg (bD false a0),.agg (dj false J)] (aq (iS a0 J)):=(fun(ai:Int→Prop) (al:Int→Nat) (bb:Int→Int→Prop) (a_:Int→Int→Nat) (h:abh a0 J (iS a0 J) ai al bb a_)=>bn.run (ps:=[.eO,.e6]) (rs:=[.bool]) (x:=(a0,J,())) (r:=((iS a0 J),())) ⟨89,dy,[aoM,aoI,QM]⟩ ⟨[],[(12,aoS,aoT)],[],[],[]⟩ (fz [2,3,52,53] [(3,5),(2,5)] 54 ai al fun aS=>(fz [2,3,6,52,53,54,59,60] [(6,2),(3,5),(2,5)] 61 (bb aS) (a_ aS) fun _=> .nil)) Tryz.func128 h) (cr J.bI.length (fun j=>J.cR.any (fun y=>(nth J.bI j).bh==y.bh) || !(J.ao.contains (nth a0.a7 (nth J.bI j).bh)))) (cM J.bI.length) (fun v=>cr J.cR.length (fun k=>(nth J.bI v).bh==(nth J.cR k).bh)) (fun v=>cM J.cR.length) (by
 unfold abh abj abi QO
 refine⟨⟨fun _ _=>⟨ab,fun _=>⟨ab,fun _=>ab⟩⟩,fun ag h=> ?_⟩,fun⟨ag,h⟩ au=> ?_⟩
 ·symm
  rw[←Bool.not_eq_true,rY]
  rintro⟨h1,h2,aC,bg,ch,cy,-⟩
  have aH:J.ao.length≠0:=fun e=>h1 (List.eq_nil_of_length_eq_zero e)
  simp only[h2,aC,bg,ch,cy,Bool.not_true,Bool.or_false] at h
  simp at h
  exact h1 h
 ·simp only[Bool.not_eq_true',Bool.or_eq_false_iff,Bool.not_eq_false'] at h
  obtain⟨h1,h2,aC,bg,ch,cy⟩:=h
  have h1:J.ao≠[]:=fun e=>by rw[e] at h1;simp at h1
  have AL:=pQ.1 ch
  have MG:=pQ.1 cy
  refine⟨dA (dp _),fun v aT=>⟨fun hv=> ?_,fun hv=>⟨cC aT hv,fun hf=>⟨dA (dp _),fun k hK=>⟨fun hk=> ?_,fun hk=>⟨⟨cC hK hk,fun he=> ?_⟩,fun he=>da (cO hf) hK hk (not_eq he)⟩⟩⟩⟩⟩⟩
  ·have eR:=hV aT hv
   have aY:((bV J).map (·.bh)).Nodup:=by
    rw[OW]
    refine⟨AL.2.2,MG.2.2,fun x hx y aU he=> ?_⟩
    have:=oo (q:=fun x=>J.cR.any (fun y=>x.bh==y.bh) || !(J.ao.contains (nth a0.a7 x.bh))) eR x hx
    simp only[Bool.or_eq_false_iff] at this
    have:=this.1
    rw[List.any_eq_false] at this
    exact this y aU (by simpa using he)
   have hc: ∀x∈J.bI,J.ao.contains (nth a0.a7 x.bh)=true:=fun x hx=>by
    have:=oo (q:=fun x=>J.cR.any (fun y=>x.bh==y.bh) || !(J.ao.contains (nth a0.a7 x.bh))) eR x hx
    simp only[Bool.or_eq_false_iff] at this
    simpa using this.2
   rw[al7,Bool.eq_iff_iff,rY]
   constructor
   ·intro hm;exact⟨h1,h2,aC,bg,ch,cy,aY,hc,by simpa using hm⟩
   ·rintro⟨-,-,-,-,-,-,-,-,hm⟩;rw[hm];rfl
  ·have ck:=AL.2.1 _ (dT (cC aT hv).2)
   rw[Bool.and_eq_true,ms] at ck
   refine⟨⟨ck.1.1,by omega⟩,fun hm=> ?_,fun hm=> ?_⟩
   ·symm
    rw[←Bool.not_eq_true,rY]
    rintro⟨-,-,-,-,-,-,-,hc,-⟩
    rw[Bt,hc _ (dT (cC aT hv).2)] at hm
    cases hm
   ·refine da (cO au) aT hv ?_
    rw[Bt] at hm
    rw[hm,Bool.or_false]
    have:=oo (q:=fun y:c9=>(nth J.bI v).bh==y.bh) (hV hK hk)
    rw[List.any_eq_false]
    intro y aU
    rw[this y aU];simp
  ·symm
   rw[←Bool.not_eq_true,rY]
   rintro⟨-,-,-,-,-,-,aY,-,-⟩
   exact(OW.1 aY).2.2 _ (dT (cC aT hv).2) _ (dT (cC hK hk).2) (by simpa using he))
def aoR:dJ Tryz.prog:=⟨128,[.eO,.e6],[.bool],some fun x=>Pc x.1 x.2.1,fun x=>((iS x.1 x.2.1),()),fun x h=>aoQ x.1 x.2.1 h⟩
end
section
abbrev CQ (r:Type):Type:=Int→Nat→(List Int)→Int→r
variable (ai:Int→Prop) (al:Int→Nat) (bb:CQ Prop) (a_:CQ Nat) (b8:Int→Int→Prop) (bw:Int→Int→Nat) (a0:aL) (J:Way) (aa:Bool) (v49 gR:Int) (g0:Nat) (aI:(List Int)) (ia:Int)
abbrev Io:=(decide ((nth (bV J) ia).bh<0)) || ((decide ((nth (bV J) ia).bh ≥ (a0.a7.length:Int))) || (((nth (bV J) ia).bi !=1)&&((nth (bV J) ia).bi !=2)))
abbrev yQ:=[J.ao,J.di,J.ek]
abbrev tB:=nth (yQ J) gR
abbrev Ip:=(decide (ia<(J.bI.length:Int)))&&(!(hh J.ao (nth a0.a7 (nth (bV J) ia).bh)))
abbrev Ok:=((J.ao.length:Int)==0) || ((decide ((J.bI.length:Int)>30)) || (decide ((J.cR.length:Int)>30)))
abbrev Ol:=(decide ((nth (tB J gR) v49)<0)) || (decide ((nth (tB J gR) v49) ≥ a0.ao))
abbrev Om:=(decide (((tB J gR).length:Int)>30)) || (dup (tB J gR))
def ajX:List Item:=(List.range 17).map cz
def ajY:List (List Nat):=[[],[],[1],[1,2],rg 0 4,rg 0 5,rg 0 6,rg 0 7,rg 0 6,rg 0 6++[8],rg 0 6,rg 0 6++[10],rg 0 6++rg 8 12,rg 0 6++rg 8 13,rg 0 14,rg 0 15,rg 0 16]
def WY:Prop:=
  (((decide (ia<(J.bI.length:Int)))=true→0≤(nth (bV J) ia).bh∧(nth (bV J) ia).bh.toNat<a0.a7.length)∧((Ip a0 J ia)=true→false=aa))∧((!(Ip a0 J ia))=true→(aI.length+[(nth (bV J) ia).bh].length)*8≤140737488355328∧aI.length+[(nth (bV J) ia).bh].length≤4611686018427387904)
def WZ:Prop:=
  ((Io a0 J ia)=true→false=aa)∧((!(Io a0 J ia))=true→WY a0 J aa aI ia)
def W0:Prop:=
  ((0≤ia∧ia.toNat<(bV J).length)∧(WZ a0 J aa aI ia))∧(((!(Io a0 J ia))&&(!(Ip a0 J ia)))=true→bb gR (g0+1) (aI++[(nth (bV J) ia).bh]) (IntKind.i64.wrap (ia+1))∧a_ gR (g0+1) (aI++[(nth (bV J) ia).bh]) (IntKind.i64.wrap (ia+1))<a_ gR g0 aI ia)
def W1:Prop:=
  (BN J)∧((bV J).length≤4611686018427387904→bb gR 0 ([]:List Int) 0∧ ∀(g0:Nat) (aI:(List Int)) (ia:Int),bb gR g0 aI ia→(((decide (ia<((bV J).length:Int)))=false→(aI.length≤4611686018427387904)∧(((!(dup aI))&&(!(meets J.ao J.di)))=aa))∧((decide (ia<((bV J).length:Int)))=true→W0 bb a_ a0 J aa gR g0 aI ia)))
def W2:Prop:=
  ((0≤v49∧v49.toNat<(tB J gR).length)∧((Ol a0 J v49 gR)=true→false=aa))∧((!(Ol a0 J v49 gR))=true→b8 gR (IntKind.i64.wrap (v49+1))∧bw gR (IntKind.i64.wrap (v49+1))<bw gR v49)
def W3:Prop:=
  ((tB J gR).length≤4611686018427387904→(Om J gR)=true→false=aa)∧(((tB J gR).length≤4611686018427387904)∧((!(Om J gR))=true)→b8 gR 0∧ ∀(v49:Int),b8 gR v49→(((decide (v49<((tB J gR).length:Int)))=false→ai (IntKind.i64.wrap (gR+1))∧al (IntKind.i64.wrap (gR+1))<al gR)∧((decide (v49<((tB J gR).length:Int)))=true→W2 b8 bw a0 J aa v49 gR)))
def W4:Prop:=
  (J.ao.length≤4611686018427387904→(Ok J)=true→false=aa)∧((J.ao.length≤4611686018427387904)∧((!(Ok J))=true)→(yQ J).length≤4611686018427387904→ai 0∧ ∀(gR:Int),ai gR→(((decide (gR<((yQ J).length:Int)))=false→W1 bb a_ a0 J aa gR)∧((decide (gR<((yQ J).length:Int)))=true→(0≤gR∧gR.toNat<(yQ J).length)∧(W3 ai al b8 bw a0 J aa gR))))
def WX (a0:aL) (J:Way) (aa:Bool) (ai:Int→Prop) (al:Int→Nat) (bb:CQ Prop) (a_:CQ Nat) (b8:Int→Int→Prop) (bw:Int→Int→Nat):Prop:=
 W4 ai al bb a_ b8 bw a0 J aa
theorem ajV:bn Tryz.prog 129 [.agg (bD false a0),.agg (dj false J)] (aq (iS a0 J)):=(fun(ai:Int→Prop) (al:Int→Nat) (bb:CQ Prop) (a_:CQ Nat) (b8:Int→Int→Prop) (bw:Int→Int→Nat) (h:WX a0 J (iS a0 J) ai al bb a_ b8 bw)=>bn.run (ps:=[.eO,.e6]) (rs:=[.bool]) (x:=(a0,J,())) (r:=((iS a0 J),())) ⟨126,dy,[N3,ajS,N1,Jr]⟩ ⟨[48],[(21,ajX,ajY)],[],[],[]⟩ (fz [2,3,34,35] [(3,5),(2,5)] 36 ai al fun aS=>(.Ag (.lp [(0,9,.int)] [2,3,64,65] [(3,5),(2,5)] [.nat,(.l .int),.int] [bJ 0,bJ 0,66] (fun bq=>[(9,.ref 0 bq.1 bq.2.1.length false),(66,.i .i64 bq.2.2.1),(bJ 0,.blk bq.1 .int bq.2.1 _ rfl)]) (fun bq=>bb aS bq.1 bq.2.1 bq.2.2.1) (fun bq=>a_ aS bq.1 bq.2.1 bq.2.2.1) fun _=> .nil) (fz [2,3,34,35,36,47,48] [(3,5),(2,5)] 49 (b8 aS) (bw aS) fun _=> .nil))) Tryz.func129 h) (cr ([J.ao,J.di,J.ek].length:Int) (fun k=> !je (nth [J.ao,J.di,J.ek] k) a0.ao)) (cM ([J.ao,J.di,J.ek].length:Int)) (fun _ _ x v=>cr (bV J).length (su a0 J) v∧x=((bV J).take v.toNat).map (·.bh)) (fun _ _ _ v=>cM (bV J).length v) (fun i=>cr (nth [J.ao,J.di,J.ek] i).length (fun j=> !ca (nth (nth [J.ao,J.di,J.ek] i) j) 0 (a0.ao - 1))) (fun i=>cM (nth [J.ao,J.di,J.ek] i).length) (by
 unfold WX W4 Ok yQ
 have hlen:J.bI.length≤30→J.cR.length≤30→(bV J).length≤60:=by unfold bV;rw[List.length_append];omega
 refine⟨fun ag h=> ?_,fun⟨ag,h⟩ bB=> ?_⟩
 ·symm
  rw[←Bool.not_eq_true,rY]
  rintro⟨h1,-,-,-,ch,cy,-⟩
  have:=(pQ.1 ch).1
  have:=(pQ.1 cy).1
  simp at h
  rcases h with h | h | h
  ·exact h1 h
  ·omega
  ·omega
 ·simp at h
  obtain⟨h1,h2,aC⟩:=h
  have h2:J.bI.length≤30:=by omega
  have aC:J.cR.length≤30:=by omega
  have aq5:=hlen h2 aC
  refine⟨dA (dp _),fun i aT=>⟨fun hi=> ?_,fun hi=>⟨cC aT hi,?_⟩⟩⟩
  ·have eR: ∀l∈[J.ao,J.di,J.ek],je l a0.ao=true:=fun l au=>by
    have:=oo (q:=fun l=> !je l a0.ao) (hV aT hi) l au
    simpa using this
   unfold W1
   refine⟨⟨by omega,by omega⟩,fun iY=>⟨⟨dA (dp _),rfl⟩,fun g x v ⟨dq,hx⟩=>⟨fun hv=> ?_,fun hv=> ?_⟩⟩⟩
   ·have lC: ¬v<((bV J).length:Int):=by simpa using hv
    rw[List.take_of_length_le (by have:=dq.1;omega)] at hx
    subst hx
    exact⟨by rw[List.length_map];omega,agG h1 eR h2 aC (hV dq hv)⟩
   ·have ck:=cC dq hv
    have qC:x.length≤60:=by rw[hx,List.length_map,List.length_take];omega
    have bad:su a0 J v=true→false=iS a0 J:=fun hb=>by
     symm
     rw[←Bool.not_eq_true]
     intro az
     rw[agI az ck.1 ck.2] at hb
     cases hb
    unfold W0 WZ WY Ip Io
    rw[alJ]
    refine⟨⟨ck,fun hb=>bad (by unfold su;rw[hb];rfl),fun hb=>⟨⟨fun au=> ?_,fun hc=>bad (by unfold su;rw[hc,Bool.or_true])⟩,fun _=> ?_⟩⟩,fun hb=> ?_⟩
    ·have hb:rA a0 (nth (bV J) v)=false:=not_eq hb
     rw[EA] at hb
     simp only[Bool.not_eq_false',Bool.and_eq_true,ms] at hb
     exact⟨hb.1.1,by omega⟩
    ·simp only[List.length_cons,List.length_nil];omega
    ·have hb:su a0 J v=false:=by
      unfold su
      rw[Bool.and_eq_true] at hb
      rw[not_eq hb.1,not_eq hb.2];rfl
     have a6:=da (cO iY) dq hv hb
     have hw:IntKind.i64.wrap (v+1)=v+1:=jH (by omega) (by omega)
     refine⟨⟨a6.1,?_⟩,a6.2⟩
     rw[hw,hx,show(v+1).toNat=v.toNat+1 by omega,List.take_succ_eq_append_getElem ck.2,List.map_append,←gX ck.2]
     rfl
  ·have DV:=cC aT hi
   have SX:je (nth [J.ao,J.di,J.ek] i) a0.ao=false→false=iS a0 J:=fun hb=>by
    symm
    rw[←Bool.not_eq_true]
    intro az
    rw[agH az _ (dT DV.2)] at hb
    cases hb
   unfold W3 W2 Om Ol tB yQ
   refine⟨fun ag h=>SX ?_,fun⟨ag,h⟩=>⟨dA (dp _),fun v nW=>⟨fun hv=> ?_,fun hv=> ?_⟩⟩⟩
   ·rw[←Bool.not_eq_true,yZ]
    rintro⟨q1,-,q3⟩
    simp only[Bool.or_eq_true,decide_eq_true_eq] at h
    rcases h with h | h
    ·omega
    ·unfold dup at h;simp[q3] at h
   ·refine da (by simp) aT hi ?_
    simp only[Bool.not_eq_true',Bool.or_eq_false_iff,decide_eq_false_iff_not] at h
    have aY:(nth [J.ao,J.di,J.ek] i).Nodup:=by have:=h.2;unfold dup at this;simpa using this
    have:je (nth [J.ao,J.di,J.ek] i) a0.ao=true:=by
     rw[yZ]
     refine⟨by omega,fun x hx=> ?_,aY⟩
     have:=oo (q:=fun x=> !ca x 0 (a0.ao - 1)) (hV nW hv) x hx
     simpa using this
    rw[this];rfl
   ·rw[PH]
    exact⟨⟨cC nW hv,fun h=>SX (Yo (cC nW hv).2 h)⟩,fun h=>da (cO ag) nW hv (not_eq h)⟩)
def ajW:dJ Tryz.prog:=⟨129,[.eO,.e6],[.bool],none,fun x=>((iS x.1 x.2.1),()),fun x h=>ajV x.1 x.2.1⟩
end
section
abbrev kC (r:Type):Type:=Int→Int→Int→r
abbrev rR (r:Type):Type:=Int→Int→Int→Int→r
abbrev rS (r:Type):Type:=Int→Int→Int→Int→Int→r
variable (ai:Int→Prop) (al:Int→Nat) (bb:Int→Int→Prop) (a_:Int→Int→Nat) (b8:kC Prop) (bw:kC Nat) (dK:rR Prop) (cX:rR Nat) (gg:rS Prop) (eZ:rS Nat) (a0:aL) (aa:rZ) (eS h_ v87 iR g_:Int)
abbrev n3:=(a0.O.length:Int)
abbrev Np:=(decide (a0.ao<1)) || ((decide (a0.ao>60)) || ((decide (a0.cB<1)) || ((decide (a0.cB>300)) || ((decide ((a0.a7.length:Int)>40)) || (decide ((n3 a0)>100))))))
abbrev Nq:=((nth (nth a0.bG g_) iR) !=(nth (nth a0.bG iR) g_)) || ((g_ !=iR)&&((!(nth (nth a0.bG g_) iR))&&(meets (nth a0.O g_).ao (nth a0.O iR).ao)))
abbrev Nr:=(decide ((nth a0.a7 eS)<0)) || (decide ((nth a0.a7 eS) ≥ a0.ao))
def aiZ:List Item:=(List.range 48).map cz
def ai0:List (List Nat):=[[],[0],[],[0,1,2],rg 0 4,[],rg 0 6,rg 0 7,[],[8],[],[8,9,10],rg 8 12,[],rg 8 14,rg 8 15,rg 0 16,rg 0 17,rg 0 18,rg 0 18,rg 0 20,rg 0 21,rg 0 22,rg 0 23,rg 0 22,rg 0 25,rg 0 26,rg 0 22,rg 0 28,rg 0 29,rg 0 30,rg 0 31,rg 0 32,rg 0 33,rg 0 34,rg 0 33,rg 0 36,rg 0 37,rg 0 38,rg 0 33,rg 0 33++[39],rg 0 33,rg 0 33++[39,40,41],rg 0 33++rg 39 43,rg 0 33++rg 39 44,rg 0 45,rg 0 46,rg 0 47]
def VT:Prop:=
  ((0≤g_∧g_.toNat<a0.bG.length)∧((0≤iR∧iR.toNat<(nth a0.bG g_).length)∧((0≤iR∧iR.toNat<a0.bG.length)∧((0≤g_∧g_.toNat<(nth a0.bG iR).length)∧(((nth (nth a0.bG g_) iR) !=(nth (nth a0.bG iR) g_))=false→(g_ !=iR)=true→(0≤g_∧g_.toNat<a0.bG.length)∧((0≤iR∧iR.toNat<(nth a0.bG g_).length)∧((!(nth (nth a0.bG g_) iR))=true→(0≤g_∧g_.toNat<a0.O.length)∧(0≤iR∧iR.toNat<a0.O.length))))))))∧((Nq a0 iR g_)=true→(5=aa.code)∧(g_=aa.pos))
def VU:Prop:=
  ((decide (iR<(n3 a0)))=false→dK eS h_ v87 (IntKind.i64.wrap (g_+1))∧cX eS h_ v87 (IntKind.i64.wrap (g_+1))<cX eS h_ v87 g_)∧((decide (iR<(n3 a0)))=true→(VT a0 aa iR g_)∧((!(Nq a0 iR g_))=true→gg eS h_ v87 g_ (IntKind.i64.wrap (iR+1))∧eZ eS h_ v87 g_ (IntKind.i64.wrap (iR+1))<eZ eS h_ v87 g_ iR))
def VV:Prop:=
  ((0≤v87∧v87.toNat<a0.bG.length)∧((nth a0.bG v87).length≤4611686018427387904→(((nth a0.bG v87).length:Int) !=(n3 a0))=true→(4=aa.code)∧(v87=aa.pos)))∧(((nth a0.bG v87).length≤4611686018427387904)∧((!(((nth a0.bG v87).length:Int) !=(n3 a0)))=true)→b8 eS h_ (IntKind.i64.wrap (v87+1))∧bw eS h_ (IntKind.i64.wrap (v87+1))<bw eS h_ v87)
def VW:Prop:=
  ((decide (v87<(a0.bG.length:Int)))=false→dK eS h_ v87 0∧ ∀(g_:Int),dK eS h_ v87 g_→(((decide (g_<(n3 a0)))=false→(0=aa.code)∧(0=aa.pos))∧((decide (g_<(n3 a0)))=true→gg eS h_ v87 g_ 0∧ ∀(iR:Int),gg eS h_ v87 g_ iR→(VU dK cX gg eZ a0 aa eS h_ v87 iR g_))))∧((decide (v87<(a0.bG.length:Int)))=true→VV b8 bw a0 aa eS h_ v87)
def VX:Prop:=
  ((decide (h_<(n3 a0)))=false→(a0.bG.length≤4611686018427387904→((a0.bG.length:Int) !=(n3 a0))=true→(4=aa.code)∧(0=aa.pos))∧((a0.bG.length≤4611686018427387904)∧((!((a0.bG.length:Int) !=(n3 a0)))=true)→b8 eS h_ 0∧ ∀(v87:Int),b8 eS h_ v87→(VW b8 bw dK cX gg eZ a0 aa eS h_ v87)))∧((decide (h_<(n3 a0)))=true→((0≤h_∧h_.toNat<a0.O.length)∧((!(iS a0 (nth a0.O h_)))=true→(3=aa.code)∧(h_=aa.pos)))∧((!(!(iS a0 (nth a0.O h_))))=true→bb eS (IntKind.i64.wrap (h_+1))∧a_ eS (IntKind.i64.wrap (h_+1))<a_ eS h_))
def VY:Prop:=
  ((decide (eS<(a0.a7.length:Int)))=false→a0.O.length≤4611686018427387904→bb eS 0∧ ∀(h_:Int),bb eS h_→(VX bb a_ b8 bw dK cX gg eZ a0 aa eS h_))∧((decide (eS<(a0.a7.length:Int)))=true→((0≤eS∧eS.toNat<a0.a7.length)∧((Nr a0 eS)=true→(2=aa.code)∧(eS=aa.pos)))∧((!(Nr a0 eS))=true→ai (IntKind.i64.wrap (eS+1))∧al (IntKind.i64.wrap (eS+1))<al eS))
def VZ:Prop:=
  ((Np a0)=true→(1=aa.code)∧(0=aa.pos))∧((!(Np a0))=true→a0.a7.length≤4611686018427387904→ai 0∧ ∀(eS:Int),ai eS→(VY ai al bb a_ b8 bw dK cX gg eZ a0 aa eS))
def VS (a0:aL) (aa:rZ) (ai:Int→Prop) (al:Int→Nat) (bb:Int→Int→Prop) (a_:Int→Int→Nat) (b8:kC Prop) (bw:kC Nat) (dK:rR Prop) (cX:rR Nat) (gg:rS Prop) (eZ:rS Nat):Prop:=
 VZ ai al bb a_ b8 bw dK cX gg eZ a0 aa
theorem aiX:bn Tryz.prog 105 [.agg (bD false a0)] (.agg (Lx (iJ a0))):=(fun(ai:Int→Prop) (al:Int→Nat) (bb:Int→Int→Prop) (a_:Int→Int→Nat) (b8:kC Prop) (bw:kC Nat) (dK:rR Prop) (cX:rR Nat) (gg:rS Prop) (eZ:rS Nat) (h:VS a0 (iJ a0) ai al bb a_ b8 bw dK cX gg eZ)=>bn.run (ps:=[.eO]) (rs:=[.fault]) (x:=(a0,())) (r:=((iJ a0),())) ⟨166,dy,[N1,ajW]⟩ ⟨[81,86,96,103,109],[(29,aiZ,ai0)],[],[],[]⟩ (fz [1,2,43,44] [(2,2),(1,5)] 45 ai al fun aS=>(fz [1,2,62,63] [(2,2),(1,5)] 64 (bb aS) (a_ aS) fun bq=>(fz [1,2,85,86] [(2,2),(1,5)] 87 (b8 aS bq) (bw aS bq) fun bo=>(fz [1,2,103] [(2,2),(1,5)] 104 (dK aS bq bo) (cX aS bq bo) fun bK=>(fz [1,2,9,103,104,109] [(2,2),(1,5)] 110 (gg aS bq bo bK) (eZ aS bq bo bK) fun _=> .nil))))) Tryz.func105 h) (cr a0.a7.length (fun j=> !ca (nth a0.a7 j) 0 (a0.ao - 1))) (cM a0.a7.length) (fun _=>cr a0.O.length (fun j=> !iS a0 (nth a0.O j))) (fun _=>cM a0.O.length) (fun _ _=>cr a0.bG.length (fun j=>decide ((nth a0.bG j).length≠a0.O.length))) (fun _ _=>cM a0.bG.length) (fun _ _ _=>cr a0.O.length (fun i=>(List.range a0.O.length).any fun k=>r5 a0 i.toNat k)) (fun _ _ _=>cM a0.O.length) (fun _ _ _ i=>cr a0.O.length (fun k=>r5 a0 i.toNat k.toNat)) (fun _ _ _ _=>cM a0.O.length) (by
 unfold VS VZ Np n3
 refine⟨fun h=> ?_,fun h lY=> ?_⟩
 ·have hb:my a0=false:=by
   rw[←Bool.not_eq_true,w2]
   intro hb
   simp[my] at h
   omega
  rw[O9 hb];exact⟨rfl,rfl⟩
 ·have hb:my a0=true:=by
   rw[w2]
   simp[my] at h
   omega
  have dF:=w2.1 hb
  refine⟨dA (dp _),fun v0 se=> ?_⟩
  unfold VY Nr
  refine⟨fun eg HM=> ?_,fun iB=> ?_⟩
  case refine_2=>
   rw[PH]
   refine⟨⟨cC se iB,fun oI=> ?_⟩,fun gk=>da (cO lY) se iB (not_eq gk)⟩
   rw[Zq hb (ud (q:=fun s=> !ca s 0 (a0.ao - 1)) se iB oI)]
   have:=se.1
   exact⟨rfl,by show v0=(v0.toNat:Int);omega⟩
  have f0:=ue (q:=fun s=> !ca s 0 (a0.ao - 1)) se eg
  refine⟨dA (dp _),fun v1 sf=> ?_⟩
  unfold VX n3
  refine⟨fun aN=> ?_,fun mq=> ?_⟩
  case refine_2=>
   refine⟨⟨cC sf mq,  fun oI=> ?_⟩,fun gk=>da (cO HM) sf mq (not_eq gk)⟩
   rw[Zr hb f0 (ud (q:=fun w=> !iS a0 w) sf mq oI)]
   have:=sf.1
   exact⟨rfl,by show v1=(v1.toNat:Int);omega⟩
  have f1:=ue (q:=fun w=> !iS a0 w) sf aN
  rw[Zs hb f0 f1]
  refine⟨fun hm b7=> ?_,fun⟨hm,b7⟩=> ?_⟩
  ·have b7:a0.bG.length≠a0.O.length:=by
    intro e;rw[e] at b7;simp at b7
   rw[Zp b7];exact⟨rfl,rfl⟩
  have au:a0.bG.length=a0.O.length:=by
   have:(a0.bG.length:Int)=a0.O.length:=by simpa using b7
   omega
  refine⟨dA (dp _),fun v2 qy=> ?_⟩
  unfold VW n3
  refine⟨fun e2=> ?_,fun hv2=> ?_⟩
  case refine_2=>
   have rl:(((nth a0.bG v2).length:Int) !=(a0.O.length:Int))=decide ((nth a0.bG v2).length≠a0.O.length):=by
    rw[Bool.eq_iff_iff];simp;omega
   unfold VV n3
   rw[rl]
   refine⟨⟨cC qy hv2,fun ak oI=> ?_⟩,fun⟨ak,gk⟩=>da (cO hm) qy hv2 (not_eq gk)⟩
   rw[Zn au (ud (q:=fun b=>decide (b.length≠a0.O.length)) qy hv2 oI)]
   have:=qy.1
   exact⟨rfl,by show v2=(v2.toNat:Int);omega⟩
  have f2:=ue (q:=fun b:List Bool=>decide (b.length≠a0.O.length)) qy e2
  have E5: ∀i:Int,0≤i→i<a0.O.length→(nth a0.bG i).length=a0.O.length:=fun i i0 i1=>by
   have:=hV qy e2 i i0 (by omega)
   simpa using this
  refine⟨dA (dp _),fun v3 qz=>⟨fun dc=> ?_,fun l0=> ?_⟩⟩
  ·skip
   rw[Zm au f2 (Uc fun j cF fX=>hV qz dc j cF fX)]
   exact⟨rfl,rfl⟩
  ·have AZ:v3<(a0.O.length:Int):=by simpa using l0
   have rk:=qz.1
   refine⟨dA (dp _),fun v4 sg=> ?_⟩
   unfold VU VT Nq n3
   rw[SZ qz.1 sg.1]
   have ta:=sg.1
   refine⟨fun hE=>da (by omega) qz l0 (YK fun j cF fX=>hV sg hE j cF fX),fun Ed=> ?_⟩
   have Ee:v4<(a0.O.length:Int):=by simpa using Ed
   have eJ:=E5 v3 qz.1 AZ
   have m8:=E5 v4 sg.1 Ee
   refine⟨⟨⟨⟨rk,by omega⟩,⟨ta,by omega⟩,⟨ta,by omega⟩,⟨rk,by omega⟩,fun _ _=>⟨⟨rk,by omega⟩,⟨ta,by omega⟩,fun _=>⟨⟨rk,by omega⟩,⟨ta,by omega⟩⟩⟩⟩,fun oI=> ?_⟩,fun gk=>da (by omega) sg Ed (not_eq gk)⟩
   rw[Zo au f2 (Ud rk AZ (fun j cF fX=>qz.2.2 j cF fX) (SQ ta Ee oI))]
   exact⟨rfl,by show v3=(v3.toNat:Int);omega⟩)
def aiY:dJ Tryz.prog:=⟨105,[.eO],[.fault],none,fun x=>((iJ x.1),()),fun x h=>aiX x.1⟩
end
section
variable (ai:Int→Prop) (al:Int→Nat) (bb:Int→Int→Prop) (a_:Int→Int→Nat) (b8:kC Prop) (bw:kC Nat) (dK:rR Prop) (cX:rR Nat) (gg:rS Prop) (eZ:rS Nat) (a0:aL) (aa:rZ) (gK hM jk jF gS:Int)
abbrev QH:=((nth (nth a0.bG gS) jF) !=(nth (nth a0.bG jF) gS)) || ((gS !=jF)&&((!(nth (nth a0.bG gS) jF))&&(meets (nth a0.O gS).ao (nth a0.O jF).ao)))
abbrev QI:=(!(ca a0.ao 1 60)) || ((decide ((a0.a7.length:Int)>40)) || ((decide ((a0.O.length:Int)>100)) || (!(ca a0.cB 1 300))))
def aoD:List Item:=(List.range 34).map cz
def aoE:List (List Nat):=[[],[],[1],[],[1,2,3],rg 1 5,[],rg 1 7,rg 1 8,rg 0 9,rg 0 10,rg 0 11,rg 0 11,rg 0 13,rg 0 14,rg 0 15,rg 0 16,rg 0 17,rg 0 18,rg 0 19,rg 0 20,rg 0 19,rg 0 22,rg 0 23,rg 0 24,rg 0 19,rg 0 19++[25],rg 0 19,rg 0 19++[25,26,27],rg 0 19++rg 25 29,rg 0 19++rg 25 30,rg 0 31,rg 0 32,rg 0 33]
def aaY:Prop:=
  ((0≤jF∧jF.toNat<a0.bG.length)∧((0≤gS∧gS.toNat<(nth a0.bG jF).length)∧(((nth (nth a0.bG gS) jF) !=(nth (nth a0.bG jF) gS))=false→(gS !=jF)=true→(!(nth (nth a0.bG gS) jF))=true→(0≤gS∧gS.toNat<a0.O.length)∧(0≤jF∧jF.toNat<a0.O.length))))∧((QH a0 jF gS)=true→(5=aa.code)∧(gS=aa.pos))
def aaZ:Prop:=
  ((0≤jF∧jF.toNat<(nth a0.bG gS).length)∧(aaY a0 aa jF gS))∧((!(QH a0 jF gS))=true→gg gK hM jk gS (IntKind.i64.wrap (jF+1))∧eZ gK hM jk gS (IntKind.i64.wrap (jF+1))<eZ gK hM jk gS jF)
def aa0:Prop:=
  (nth a0.bG gS).length≤4611686018427387904→gg gK hM jk gS 0∧ ∀(jF:Int),gg gK hM jk gS jF→(((decide (jF<((nth a0.bG gS).length:Int)))=false→dK gK hM jk (IntKind.i64.wrap (gS+1))∧cX gK hM jk (IntKind.i64.wrap (gS+1))<cX gK hM jk gS)∧((decide (jF<((nth a0.bG gS).length:Int)))=true→aaZ gg eZ a0 aa gK hM jk jF gS))
def aa1:Prop:=
  ((0≤jk∧jk.toNat<a0.bG.length)∧((nth a0.bG jk).length≤4611686018427387904→(((nth a0.bG jk).length:Int) !=(a0.O.length:Int))=true→(4=aa.code)∧(jk=aa.pos)))∧(((nth a0.bG jk).length≤4611686018427387904)∧((!(((nth a0.bG jk).length:Int) !=(a0.O.length:Int)))=true)→b8 gK hM (IntKind.i64.wrap (jk+1))∧bw gK hM (IntKind.i64.wrap (jk+1))<bw gK hM jk)
def aa2:Prop:=
  ((decide (jk<(a0.bG.length:Int)))=false→dK gK hM jk 0∧ ∀(gS:Int),dK gK hM jk gS→(((decide (gS<(a0.bG.length:Int)))=false→(0=aa.code)∧(0=aa.pos))∧((decide (gS<(a0.bG.length:Int)))=true→(0≤gS∧gS.toNat<a0.bG.length)∧(aa0 dK cX gg eZ a0 aa gK hM jk gS))))∧((decide (jk<(a0.bG.length:Int)))=true→aa1 b8 bw a0 aa gK hM jk)
def aa3:Prop:=
  ((decide (hM<(a0.O.length:Int)))=false→(a0.bG.length≤4611686018427387904→((a0.bG.length:Int) !=(a0.O.length:Int))=true→(4=aa.code)∧(0=aa.pos))∧((a0.bG.length≤4611686018427387904)∧((!((a0.bG.length:Int) !=(a0.O.length:Int)))=true)→b8 gK hM 0∧ ∀(jk:Int),b8 gK hM jk→(aa2 b8 bw dK cX gg eZ a0 aa gK hM jk)))∧((decide (hM<(a0.O.length:Int)))=true→((0≤hM∧hM.toNat<a0.O.length)∧((Pc a0 (nth a0.O hM))∧((!(iS a0 (nth a0.O hM)))=true→(3=aa.code)∧(hM=aa.pos))))∧((!(!(iS a0 (nth a0.O hM))))=true→bb gK (IntKind.i64.wrap (hM+1))∧a_ gK (IntKind.i64.wrap (hM+1))<a_ gK hM))
def aa4:Prop:=
  ((decide (gK<(a0.a7.length:Int)))=false→a0.O.length≤4611686018427387904→bb gK 0∧ ∀(hM:Int),bb gK hM→(aa3 bb a_ b8 bw dK cX gg eZ a0 aa gK hM))∧((decide (gK<(a0.a7.length:Int)))=true→((0≤gK∧gK.toNat<a0.a7.length)∧((!(ca (nth a0.a7 gK) 0 (IntKind.i64.wrap (a0.ao - 1))))=true→(2=aa.code)∧(gK=aa.pos)))∧((!(!(ca (nth a0.a7 gK) 0 (IntKind.i64.wrap (a0.ao - 1)))))=true→ai (IntKind.i64.wrap (gK+1))∧al (IntKind.i64.wrap (gK+1))<al gK))
def aa5:Prop:=
  ((QI a0)=true→(1=aa.code)∧(0=aa.pos))∧((!(QI a0))=true→a0.a7.length≤4611686018427387904→ai 0∧ ∀(gK:Int),ai gK→(aa4 ai al bb a_ b8 bw dK cX gg eZ a0 aa gK))
def aaX (a0:aL) (aa:rZ) (ai:Int→Prop) (al:Int→Nat) (bb:Int→Int→Prop) (a_:Int→Int→Nat) (b8:kC Prop) (bw:kC Nat) (dK:rR Prop) (cX:rR Nat) (gg:rS Prop) (eZ:rS Nat):Prop:=
 aa5 ai al bb a_ b8 bw dK cX gg eZ a0 aa
theorem aoB:bn Tryz.prog 104 [.agg (bD false a0)] (.agg (Lx (iJ a0))):=(fun(ai:Int→Prop) (al:Int→Nat) (bb:Int→Int→Prop) (a_:Int→Int→Nat) (b8:kC Prop) (bw:kC Nat) (dK:rR Prop) (cX:rR Nat) (gg:rS Prop) (eZ:rS Nat) (h:aaX a0 (iJ a0) ai al bb a_ b8 bw dK cX gg eZ)=>bn.run (ps:=[.eO]) (rs:=[.fault]) (x:=(a0,())) (r:=((iJ a0),())) ⟨147,dy,[Fp,QM,aoR]⟩ ⟨[73,78,88,95],[(29,aoD,aoE)],[],[],[]⟩ (fz [1,2,37,38] [(2,2),(1,5)] 39 ai al fun aS=>(fz [1,2,54,55] [(2,2),(1,5)] 56 (bb aS) (a_ aS) fun bq=>(fz [1,2,77,78] [(2,2),(1,5)] 79 (b8 aS bq) (bw aS bq) fun bo=>(fz [1,2,94,95] [(2,2),(1,5)] 96 (dK aS bq bo) (cX aS bq bo) fun bK=>(fz [1,2,9,94,95,96,101,102] [(2,2),(1,5)] 103 (gg aS bq bo bK) (eZ aS bq bo bK) fun _=> .nil))))) Tryz.func104 h) (cr a0.a7.length (fun j=> !ca (nth a0.a7 j) 0 (a0.ao - 1))) (cM a0.a7.length) (fun _=>cr a0.O.length (fun j=> !iS a0 (nth a0.O j))) (fun _=>cM a0.O.length) (fun _ _=>cr a0.bG.length (fun j=>decide ((nth a0.bG j).length≠a0.O.length))) (fun _ _=>cM a0.bG.length) (fun _ _ _=>cr a0.O.length (fun i=>(List.range a0.O.length).any fun k=>r5 a0 i.toNat k)) (fun _ _ _=>cM a0.O.length) (fun _ _ _ i=>cr a0.O.length (fun k=>r5 a0 i.toNat k.toNat)) (fun _ _ _ _=>cM a0.O.length) (by
 unfold aaX aa5 QI
 refine⟨fun h=> ?_,fun h lY=> ?_⟩
 ·have hb:my a0=false:=by
   rw[←Bool.not_eq_true,w2]
   intro hb
   simp[ca] at h
   omega
  rw[O9 hb];exact⟨rfl,rfl⟩
 ·have hb:my a0=true:=by
   rw[w2]
   simp[ca] at h
   omega
  have dF:=w2.1 hb
  refine⟨dA (dp _),fun v0 se=> ?_⟩
  unfold aa4
  refine⟨fun eg HM=> ?_,fun iB=> ?_⟩
  case refine_2=>
   rw[jH (n:=a0.ao - 1) (by omega) (by omega)]
   refine⟨⟨cC se iB,fun oI=> ?_⟩,fun gk=>da (cO lY) se iB (not_eq gk)⟩
   rw[Zq hb (ud (q:=fun s=> !ca s 0 (a0.ao - 1)) se iB oI)]
   have:=se.1
   exact⟨rfl,by show v0=(v0.toNat:Int);omega⟩
  have f0:=ue (q:=fun s=> !ca s 0 (a0.ao - 1)) se eg
  refine⟨dA (dp _),fun v1 sf=> ?_⟩
  unfold aa3
  refine⟨fun aN=> ?_,fun mq=> ?_⟩
  case refine_2=>
   refine⟨⟨cC sf mq,⟨by omega,by omega⟩,fun oI=> ?_⟩,fun gk=>da (cO HM) sf mq (not_eq gk)⟩
   rw[Zr hb f0 (ud (q:=fun w=> !iS a0 w) sf mq oI)]
   have:=sf.1
   exact⟨rfl,by show v1=(v1.toNat:Int);omega⟩
  have f1:=ue (q:=fun w=> !iS a0 w) sf aN
  rw[Zs hb f0 f1]
  refine⟨fun hm b7=> ?_,fun⟨hm,b7⟩=> ?_⟩
  ·have b7:a0.bG.length≠a0.O.length:=by
    intro e;rw[e] at b7;simp at b7
   rw[Zp b7];exact⟨rfl,rfl⟩
  have au:a0.bG.length=a0.O.length:=by
   have:(a0.bG.length:Int)=a0.O.length:=by simpa using b7
   omega
  refine⟨dA (dp _),fun v2 qy=> ?_⟩
  unfold aa2
  refine⟨fun e2=> ?_,fun hv2=> ?_⟩
  case refine_2=>
   have rl:(((nth a0.bG v2).length:Int) !=(a0.O.length:Int))=decide ((nth a0.bG v2).length≠a0.O.length):=by
    rw[Bool.eq_iff_iff];simp;omega
   unfold aa1
   rw[rl]
   refine⟨⟨cC qy hv2,fun ak oI=> ?_⟩,fun⟨ak,gk⟩=>da (cO hm) qy hv2 (not_eq gk)⟩
   rw[Zn au (ud (q:=fun b=>decide (b.length≠a0.O.length)) qy hv2 oI)]
   have:=qy.1
   exact⟨rfl,by show v2=(v2.toNat:Int);omega⟩
  have f2:=ue (q:=fun b:List Bool=>decide (b.length≠a0.O.length)) qy e2
  have E5: ∀i:Int,0≤i→i<a0.O.length→(nth a0.bG i).length=a0.O.length:=fun i i0 i1=>by
   have:=hV qy e2 i i0 (by omega)
   simpa using this
  refine⟨dA (dp _),fun v3 qz=>⟨fun dc=> ?_,fun l0=> ?_⟩⟩
  ·have dc:decide (v3<(a0.O.length:Int))=false:=by rw[←au];exact dc
   rw[Zm au f2 (Uc fun j cF fX=>hV qz dc j cF fX)]
   exact⟨rfl,rfl⟩
  ·have AZ:v3<(a0.O.length:Int):=by rw[←au];simpa using l0
   have rk:=qz.1
   have eJ:=E5 v3 qz.1 AZ
   refine⟨⟨rk,by omega⟩,?_⟩
   unfold aa0
   rw[eJ]
   intro _
   refine⟨dA (dp _),fun v4 sg=> ?_⟩
   unfold aaZ aaY QH
   rw[SZ qz.1 sg.1,eJ]
   have ta:=sg.1
   refine⟨fun hE=>da (by omega) qz (by simpa using AZ) (YK fun j cF fX=>hV sg hE j cF fX),fun Ed=> ?_⟩
   have Ee:v4<(a0.O.length:Int):=by simpa using Ed
   have m8:=E5 v4 sg.1 Ee
   refine⟨⟨⟨ta,by omega⟩,⟨⟨ta,by omega⟩,⟨rk,by omega⟩,fun _ _ _=>⟨⟨rk,by omega⟩,⟨ta,by omega⟩⟩⟩,fun oI=> ?_⟩,fun gk=>da (by omega) sg Ed (not_eq gk)⟩
   rw[Zo au f2 (Ud rk AZ (fun j cF fX=>qz.2.2 j cF fX) (SQ ta Ee oI))]
   exact⟨rfl,by show v3=(v3.toNat:Int);omega⟩)
def aoC:dJ Tryz.prog:=⟨104,[.eO],[.fault],none,fun x=>((iJ x.1),()),fun x h=>aoB x.1⟩
end
section
variable (a0:aL) (aa:Bool)
def aoO:Prop:=
 ((iJ a0).code==0)=aa
theorem QN:bn Tryz.prog 65 [.agg (bD false a0)] (aq (eD a0)):=(fun(h:aoO a0 (eD a0))=>bn.run (ps:=[.eO]) (rs:=[.bool]) (x:=(a0,())) (r:=((eD a0),())) ⟨9,dy,[aoC]⟩ ⟨[],[],[],[],[]⟩ .nil Tryz.func65 h) (by
 exact amY a0)
def aoP:dJ Tryz.prog:=⟨65,[.eO],[.bool],none,fun x=>((eD x.1),()),fun x h=>QN x.1⟩
end
section
variable (a0:aL) (J:Event) (aa:Bool)
abbrev JA:=bif (J.op==1) then(J.op==1) else(J.op==2)
abbrev JB:=bif (J.op==3) then(J.op==3) else(J.op==4)
def abo:Prop:=
  ((J.op==5)=true→a0.a7.length≤4611686018427387904→((ca J.aG 0 (IntKind.i64.wrap ((a0.a7.length:Int) - 1)))&&(ca J.bi 0 2))=aa)∧((J.op==5)=false→((J.op==6)=true→a0.a7.length≤4611686018427387904→((ca J.aG 0 (IntKind.i64.wrap ((a0.a7.length:Int) - 1)))&&(ca J.bi 1 2))=aa)∧((J.op==6)=false→(J.op==7)=true→((J.aG==0)&&(J.bi==0))=aa))
def abp:Prop:=
  ((JA J)=true→a0.O.length≤4611686018427387904→((ca J.aG 0 (IntKind.i64.wrap ((a0.O.length:Int) - 1)))&&(J.bi==0))=aa)∧((JA J)=false→((JB J)=true→((ca J.aG 0 (IntKind.i64.wrap (a0.ao - 1)))&&(J.bi==0))=aa)∧((JB J)=false→abo a0 J aa))
def abn:Prop:=
 (abp a0 J aa)∧((!(JA J)&&(!(JB J)&&(!(J.op==5)&&(!(J.op==6)&&(!(J.op==7))))))=true→false=aa)
theorem ao1 (ab:Zu a0 J):bn Tryz.prog 77 [.agg (bD false a0),.agg (dL J)] (aq (fD a0 J)):=(fun(h:abn a0 J (fD a0 J))=>bn.run (ps:=[.eO,.fQ]) (rs:=[.bool]) (x:=(a0,J,())) (r:=((fD a0 J),())) ⟨74,dy,[Fp]⟩ ⟨[],[],[],[],[]⟩ .nil Tryz.func77 h) (by
 have ab: -9223372036854775808<a0.ao∧a0.ao≤9223372036854775807:=ab
 unfold abn abp abo JB JA
 rw[EO,EO,sV,sV,sV,sV,sV]
 simp only[decide_eq_true_eq,decide_eq_false_iff_not]
 refine⟨⟨fun h au=> ?_,fun h1=>⟨fun h=> ?_,fun aC=>⟨fun h au=> ?_,fun ch=>⟨fun h au=> ?_,fun cy h=> ?_⟩⟩⟩⟩,fun h=> ?_⟩
 ·rw[jH (by omega) (by omega),LG h]
 ·rw[jH (by omega) (by omega),LH h1 h]
 ·rw[jH (by omega) (by omega),G3 h]
 ·rw[jH (by omega) (by omega),G4 h]
 ·rw[TP h]
 ·simp only[Bool.and_eq_true,Bool.not_eq_true',decide_eq_false_iff_not] at h
  exact(TR h.1 h.2.1 h.2.2.1 h.2.2.2.1 h.2.2.2.2).symm)
end
section
variable (a0 aa:Event)
def ali:Prop:=
 (a0.op=aa.op)∧(a0.aG=aa.aG)∧(a0.bi=aa.bi)
theorem alj:bn Tryz.prog 29 [.agg (dL a0)] (.agg (dL (aV a0))):=(fun(h:ali a0 (aV a0))=>bn.run (ps:=[.fQ]) (rs:=[.fQ]) (x:=(a0,())) (r:=((aV a0),())) ⟨14,dy,[]⟩ ⟨[],[],[],[],[]⟩ .nil Tryz.func29 h) (by
 exact⟨rfl,rfl,rfl⟩)
def alk:dJ Tryz.prog:=⟨29,[.fQ],[.fQ],none,fun x=>((aV x.1),()),fun x h=>alj x.1⟩
end
section
variable (a0:aL) (aa:Bool)
def ajG:Prop:=
 ((iJ a0).code==0&&(iJ a0).pos==0)=aa
theorem WH:bn Tryz.prog 68 [.agg (bD false a0)] (aq (eD a0)):=(fun(h:ajG a0 (eD a0))=>bn.run (ps:=[.eO]) (rs:=[.bool]) (x:=(a0,())) (r:=((eD a0),())) ⟨7,dy,[aiY]⟩ ⟨[],[],[],[],[]⟩ .nil Tryz.func68 h) (by
 exact amX a0)
end
section
variable (a0:Int) (J:Event) (aa:Bool)
def aji:Prop:=
 ((decide (J.aG ≥ 0))&&(decide (J.aG<a0)))=aa
theorem ajj:bn Tryz.prog 109 [ad a0,.dv (dL J) 0] (aq (tC a0 J)):=(fun(h:aji a0 J (tC a0 J))=>bn.run (ps:=[.int,(.ptr .fQ)]) (rs:=[.bool]) (x:=(a0,J,())) (r:=((tC a0 J),())) ⟨13,dy,[]⟩ ⟨[],[],[],[],[]⟩ .nil Tryz.func109 h) (by
 rfl)
def ajk:dJ Tryz.prog:=⟨109,[.int,(.ptr .fQ)],[.bool],none,fun x=>((tC x.1 x.2.1),()),fun x h=>ajj x.1 x.2.1⟩
end
section
variable (a0:aL) (J:Event) (aa:Bool)
abbrev Ig:=bif (J.op==1) then(J.op==1) else(J.op==2)
abbrev Ih:=bif (J.op==3) then(J.op==3) else(J.op==4)
def Wt:Prop:=
  ((J.op==5)=true→a0.a7.length≤4611686018427387904→((tC (a0.a7.length:Int) J)&&((decide (J.bi ≥ 0))&&(decide (J.bi≤2))))=aa)∧((J.op==5)=false→((J.op==6)=true→a0.a7.length≤4611686018427387904→((tC (a0.a7.length:Int) J)&&((decide (J.bi ≥ 1))&&(decide (J.bi≤2))))=aa)∧((J.op==6)=false→(J.op==7)=true→((J.aG==0)&&(J.bi==0))=aa))
def Wu:Prop:=
  ((Ig J)=true→a0.O.length≤4611686018427387904→((tC (a0.O.length:Int) J)&&(J.bi==0))=aa)∧((Ig J)=false→((Ih J)=true→((tC a0.ao J)&&(J.bi==0))=aa)∧((Ih J)=false→Wt a0 J aa))
def Ws:Prop:=
 (Wu a0 J aa)∧((!(Ig J)&&(!(Ih J)&&(!(J.op==5)&&(!(J.op==6)&&(!(J.op==7))))))=true→false=aa)
theorem ajl:bn Tryz.prog 71 [.agg (bD false a0),.agg (dL J)] (aq (fD a0 J)):=(fun(h:Ws a0 J (fD a0 J))=>bn.run (ps:=[.eO,.fQ]) (rs:=[.bool]) (x:=(a0,J,())) (r:=((fD a0 J),())) ⟨78,dy,[ajk]⟩ ⟨[],[],[],[],[]⟩ .nil Tryz.func71 h) (by
 unfold Ws Wu Wt Ih Ig
 rw[EO,EO,sV,sV,sV,sV,sV,RT,RT,RT]
 simp only[decide_eq_true_eq,decide_eq_false_iff_not]
 refine⟨⟨fun h au=> ?_,fun h1=>⟨fun h=> ?_,fun aC=>⟨fun h au=> ?_,fun ch=>⟨fun h au=> ?_,fun cy h=> ?_⟩⟩⟩⟩,fun h=> ?_⟩
 ·rw[LG h]
 ·rw[LH h1 h]
 ·rw[G3 h];rfl
 ·rw[G4 h];rfl
 ·rw[TP h]
 ·simp only[Bool.and_eq_true,Bool.not_eq_true',decide_eq_false_iff_not] at h
  exact(TR h.1 h.2.1 h.2.2.1 h.2.2.2.1 h.2.2.2.2).symm)
end
section
variable (a0 aa:(List Bool))
abbrev P4:=a0.length*1≤140737488355328∧a0.length≤4611686018427387904
noncomputable def an6:Code:=jK Tryz.f107
def P3:Prop:=
 (a0≠[]→(P4 a0)∧(a0=aa))∧(a0=[]→ ∀b2:Bool,(b2=true→[]=aa)∧(b2=false→(P4 a0)∧(a0=aa)))
theorem an7 (h:P3 a0 aa):c8 Tryz.prog 107 [bA aR a0] [] (fun r H=>r=ap 0 0 aa.length∧H=[⟨0,1,List.map aR aa⟩]):=by
 refine c8.toOwn ?_
 unfold P3 at h
 refine c8.go (fn:=Tryz.f107) [(0,bA aR a0)] Tryz.func107 (fun _ _=> ?_)
 show WpS _ (bQ an6 1) _ ⟨bm 8 [(0,bA aR a0)],[],[]⟩
 refine et [] 0 [(2,cu)] [] [1] ?_
 refine ig ?_
 refine ig ?_
 refine bx [] 1 ?_
 refine PP 2 (some 4) [(3,bA aR a0)] aR a0 (fun hx=> ?_) (fun hx b2=> ?_)
 ·
  replace h:=h.1 hx
  refine d_ [] ?_
  refine ef.normal ?_
  refine vV (.tmp 4) false (fun q3=> ?_) (fun q3=> ?_)
  ·
   cases q3
  ·
   refine ew ?_
   refine ef.normal ?_
   obtain⟨c0,h⟩:=h
   refine k4 ⟨(bm 8 [(2,ap 0 0 a0.length)]),[],[⟨0,1,List.map aR a0⟩]⟩ (True) ?_ (fun q4=> ?_)
   ·
    replace h:=c0
    refine bx [] 3 ?_
    have cQ:=h
    refine xf 3 (some 7) [(6,bA aR a0),(5,cu)] aR a0 (m9 false (List.map aR a0)) 0 1 1 (fun r=>[⟨0,1,r⟩]) rfl cQ ?_
    exact b3 [(2,ap 0 0 a0.length)] trivial
   refine hZ ?_
   refine mE (ap 0 0 a0.length) [ap 0 0 a0.length] ?_
   exact⟨rK [some 0],tL [some 0] rfl (by decide) ⟨rfl,(qR (b:=0) (g:=0) (sz:=1) (xs:=a0) (ys:=aa) rfl y7 h),trivial⟩,(.inr (y9 (by simp) rfl rfl (by have:=congrArg List.length h;simpa using this)))⟩
 ·
  replace h:=h.2 hx b2
  refine d_ [] ?_
  refine ef.normal ?_
  refine vV (.tmp 4) b2 (fun gp=> ?_) (fun gp=> ?_)
  ·
   replace h:=h.1 gp
   refine k4 ⟨(bm 8 [(2,cu)]),[],[]⟩ (True) ?_ (fun gb=> ?_)
   ·
    refine bx [] 2 ?_
    exact b3 [(2,cu)] trivial
   refine hZ ?_
   refine ef.ret ?_
   refine mE (cu) [cu] ?_
   exact⟨rK [none],tL [none] rfl (by decide) ⟨rfl,trivial,trivial⟩,(.inr (O3 (by simp) rfl rfl (by rw[←h];rfl)))⟩
  ·
   replace h:=h.2 gp
   refine ew ?_
   refine ef.normal ?_
   obtain⟨jz,h⟩:=h
   refine k4 ⟨(bm 8 [(2,ap 0 0 a0.length)]),[],[⟨0,1,List.map aR a0⟩]⟩ (True) ?_ (fun jP=> ?_)
   ·
    replace h:=jz
    refine bx [] 3 ?_
    have hy:=h
    refine xf 3 (some 7) [(6,bA aR a0),(5,cu)] aR a0 (m9 false (List.map aR a0)) 0 1 1 (fun r=>[⟨0,1,r⟩]) rfl hy ?_
    exact b3 [(2,ap 0 0 a0.length)] trivial
   refine hZ ?_
   refine mE (ap 0 0 a0.length) [ap 0 0 a0.length] ?_
   exact⟨rK [some 0],tL [some 0] rfl (by decide) ⟨rfl,(qR (b:=0) (g:=0) (sz:=1) (xs:=a0) (ys:=aa) rfl y7 h),trivial⟩,(.inr (y9 (by simp) rfl rfl (by have:=congrArg List.length h;simpa using this)))⟩
theorem aaz (ab:small a0):c8 Tryz.prog 107 [bA aR a0] [] (fun r H=>r=ap 0 0 (aV a0).length∧H=[⟨0,1,List.map aR (aV a0)⟩]):=an7 a0 (aV a0) (by
 have ab:a0.length≤1048576:=ab
 unfold P3 P4
 exact⟨fun h=>⟨⟨by omega,by omega⟩,rfl⟩,fun h b=>⟨fun _=>h.symm,fun _=>⟨⟨by omega,by omega⟩,rfl⟩⟩⟩)
end
section
variable (a0 aa:(List bL))
abbrev P2:=a0.length*16≤140737488355328∧a0.length≤4611686018427387904
noncomputable def an4:Code:=jK Tryz.f108
def P1:Prop:=
 (a0≠[]→(P2 a0)∧(a0=aa))∧(a0=[]→ ∀b2:Bool,(b2=true→[]=aa)∧(b2=false→(P2 a0)∧(a0=aa)))
theorem an5 (h:P1 a0 aa):c8 Tryz.prog 108 [bA ba a0] [] (fun r H=>r=ap 0 0 aa.length∧H=[⟨0,2,List.map ba aa⟩]):=by
 refine c8.toOwn ?_
 unfold P1 at h
 refine c8.go (fn:=Tryz.f108) [(0,bA ba a0)] Tryz.func108 (fun _ _=> ?_)
 show WpS _ (bQ an4 1) _ ⟨bm 8 [(0,bA ba a0)],[],[]⟩
 refine et [] 0 [(2,cu)] [] [1] ?_
 refine ig ?_
 refine ig ?_
 refine bx [] 1 ?_
 refine PP 2 (some 4) [(3,bA ba a0)] ba a0 (fun hx=> ?_) (fun hx b2=> ?_)
 ·
  replace h:=h.1 hx
  refine d_ [] ?_
  refine ef.normal ?_
  refine vV (.tmp 4) false (fun q3=> ?_) (fun q3=> ?_)
  ·
   cases q3
  ·
   refine ew ?_
   refine ef.normal ?_
   obtain⟨c0,h⟩:=h
   refine k4 ⟨(bm 8 [(2,ap 0 0 a0.length)]),[],[⟨0,2,List.map ba a0⟩]⟩ (True) ?_ (fun q4=> ?_)
   ·
    replace h:=c0
    refine bx [] 3 ?_
    have cQ:=h
    refine xf 3 (some 7) [(6,bA ba a0),(5,cu)] ba a0 (m9 false (List.map ba a0)) 0 2 16 (fun r=>[⟨0,2,r⟩]) rfl cQ ?_
    exact b3 [(2,ap 0 0 a0.length)] trivial
   refine hZ ?_
   refine mE (ap 0 0 a0.length) [ap 0 0 a0.length] ?_
   exact⟨rK [some 0],tL [some 0] rfl (by decide) ⟨rfl,(qR (b:=0) (g:=0) (sz:=2) (xs:=a0) (ys:=aa) rfl IT h),trivial⟩,(.inr (y9 (by simp) rfl rfl (by have:=congrArg List.length h;simpa using this)))⟩
 ·
  replace h:=h.2 hx b2
  refine d_ [] ?_
  refine ef.normal ?_
  refine vV (.tmp 4) b2 (fun gp=> ?_) (fun gp=> ?_)
  ·
   replace h:=h.1 gp
   refine k4 ⟨(bm 8 [(2,cu)]),[],[]⟩ (True) ?_ (fun gb=> ?_)
   ·
    refine bx [] 2 ?_
    exact b3 [(2,cu)] trivial
   refine hZ ?_
   refine ef.ret ?_
   refine mE (cu) [cu] ?_
   exact⟨rK [none],tL [none] rfl (by decide) ⟨rfl,trivial,trivial⟩,(.inr (O3 (by simp) rfl rfl (by rw[←h];rfl)))⟩
  ·
   replace h:=h.2 gp
   refine ew ?_
   refine ef.normal ?_
   obtain⟨jz,h⟩:=h
   refine k4 ⟨(bm 8 [(2,ap 0 0 a0.length)]),[],[⟨0,2,List.map ba a0⟩]⟩ (True) ?_ (fun jP=> ?_)
   ·
    replace h:=jz
    refine bx [] 3 ?_
    have hy:=h
    refine xf 3 (some 7) [(6,bA ba a0),(5,cu)] ba a0 (m9 false (List.map ba a0)) 0 2 16 (fun r=>[⟨0,2,r⟩]) rfl hy ?_
    exact b3 [(2,ap 0 0 a0.length)] trivial
   refine hZ ?_
   refine mE (ap 0 0 a0.length) [ap 0 0 a0.length] ?_
   exact⟨rK [some 0],tL [some 0] rfl (by decide) ⟨rfl,(qR (b:=0) (g:=0) (sz:=2) (xs:=a0) (ys:=aa) rfl IT h),trivial⟩,(.inr (y9 (by simp) rfl rfl (by have:=congrArg List.length h;simpa using this)))⟩
theorem an3 (ab:small a0):c8 Tryz.prog 108 [bA ba a0] [] (fun r H=>r=ap 0 0 (aV a0).length∧H=[⟨0,2,List.map ba (aV a0)⟩]):=an5 a0 (aV a0) (by
 have ab:a0.length≤1048576:=ab
 unfold P1 P2
 exact⟨fun h=>⟨⟨by omega,by omega⟩,rfl⟩,fun h b=>⟨fun _=>h.symm,fun _=>⟨⟨by omega,by omega⟩,rfl⟩⟩⟩)
end
section
abbrev rT (r:Type):Type:=List (List Bool)→Nat→Nat→List Nat→Int→List av→r
variable (ai:rT Prop) (al:rT Nat) (a0 aa:Frame) (aM:List (List Bool)) (g2 g3:Nat) (aD:List Nat) (cK:Int) (ws2:List av)
abbrev wE:List AV:=[ad (nth a0.O cK).aF,ad (nth a0.O cK).bc,ap (aM.length+4) 0 (aV (nth a0.O cK).ae).length,aq (nth a0.O cK).bW,ad (nth a0.O cK).bU]
abbrev u5:=av.mk (nth a0.O cK).aF (nth a0.O cK).bc (aV (nth a0.O cK).ae) (nth a0.O cK).bW (nth a0.O cK).bU
abbrev A8:List AV:=[aq a0.ok,ap 0 0 (aV a0.aE).length,ap 1 0 (aV a0.ay).length,ap 2 g2 ws2.length]
abbrev H_:=bm 34 [(16,bA (gE false) a0.O),(17,ad (a0.O.length:Int)),(18,ad 0),(3,aJ 3 0),(2,aJ 2 0)]
abbrev wF:List AV:=[aq false,cu,cu,cu]
abbrev Nz:List (Nat×List AV):=[(3,[aq a0.ok,ap 0 0 (aV a0.aE).length,ap 1 0 (aV a0.ay).length,ap 2 0 ([]:List av).length]),(2,wF),(1,(cq false a0))]
abbrev Em:List AV:=[aq a0.ok,ap 0 0 (aV a0.aE).length,ap 1 0 (aV a0.ay).length,cu]
abbrev u3:=aM++[(aV (nth a0.O cK).ae)]
abbrev NA:List Blk:=(⟨0,1,List.map aR (aV a0.aE)⟩::⟨0,2,List.map ba (aV a0.ay)⟩::⟨(g2+1),5,aW 4 (ws2++[(u5 a0 cK)]) (aD++[aM.length])⟩::⟨(g3+1),5,[(wE a0 aM cK)]⟩::List.map bj (u3 a0 aM cK))
abbrev NB:List (Nat×List AV):=[(5,(wE a0 aM cK)),(3,[aq a0.ok,ap 0 0 (aV a0.aE).length,ap 1 0 (aV a0.ay).length,ap 2 (g2+1) (ws2++[(u5 a0 cK)]).length]),(2,wF)]
abbrev Ia:List Blk:=[⟨0,1,List.map aR (aV a0.aE)⟩,⟨0,2,List.map ba (aV a0.ay)⟩]
abbrev wG:=IntKind.i64.wrap (cK+1)
abbrev Wa:=bm 34 [(18,ad (wG cK)),(32,ad (wG cK)),(2,aJ 2 0),(3,aJ 3 0),(16,bA (gE false) a0.O),(17,ad (a0.O.length:Int))]
abbrev Wb:List Blk:=(⟨0,1,List.map aR (aV a0.aE)⟩::⟨0,2,List.map ba (aV a0.ay)⟩::⟨g2,5,aW 4 ws2 aD⟩::⟨g3,5,[]⟩::List.map bj (u3 a0 aM cK))
abbrev Wc:List Blk:=[⟨0,1,List.map aR (aV a0.aE)⟩,⟨0,2,List.map ba (aV a0.ay)⟩,⟨0,5,aW 4 ([]:List av) ([]:List Nat)⟩]
abbrev u4:=[1000003]
abbrev Wd:=true=true∧true=true∧((aJ 1 0:AV)=aJ 1 0)
abbrev We:=true=true∧true=true∧((aJ 3 0:AV)=aJ 3 0)
abbrev Wf:=true=true∧true=true∧((aq a0.ok:AV)=aq a0.ok)
abbrev El:=decide (cK<(a0.O.length:Int))
noncomputable def Ny:Code:=jK Tryz.f70
def ai8:List Item:=[cz 0,cz 1,cz 2,cz 3,cz 5,cz 6,cz 9,⟨4,true,false,[0,1,5,6,9]⟩,⟨7,true,false,[0,1,9]⟩,cz 8,⟨10,true,false,[]⟩]
def ai9:List (List Nat):=[[],[0],[],[2],[2,3],[],[5],rg 2 7,rg 0 8,[],rg 0 10]
def Nw:Prop:=
  ai (u3 a0 aM cK) (g2+1) (g3+1) (aD++[aM.length]) (wG cK) (ws2++[(u5 a0 cK)])∧al (u3 a0 aM cK) (g2+1) (g3+1) (aD++[aM.length]) (wG cK) (ws2++[(u5 a0 cK)])<al aM g2 g3 aD cK ws2
def Nx:Prop:=
  ((El a0 cK)=false→a0.ok=aa.ok∧(aV a0.aE)=aa.aE∧(aV a0.ay)=aa.ay∧ws2=aa.O∧aD=List.range ws2.length∧aM=ws2.map av.ae)∧((El a0 cK)=true→((0≤cK∧cK.toNat<a0.O.length)∧((small (nth a0.O cK).ae)∧(ws2.length=aD.length∧((ws2.length+1)*56≤140737488355328∧ws2.length+1≤4611686018427387904))))∧(Nw ai al a0 aM g2 g3 aD cK ws2))
def Nv (a0:Frame) (aa:Frame) (ai:rT Prop) (al:rT Nat):Prop:=
 ((small a0.aE)∧(small a0.ay))∧(a0.O.length≤4611686018427387904→ai ([]:List (List Bool)) 0 0 ([]:List Nat) 0 ([]:List av)∧ ∀(aM:List (List Bool)) (g2:Nat) (g3:Nat) (aD:List Nat) (cK:Int) (ws2:List av),ai aM g2 g3 aD cK ws2→(Nx ai al a0 aa aM g2 g3 aD cK ws2))
theorem ai_ (a0:Frame) (aa:Frame) (ai:rT Prop) (al:rT Nat) (h:Nv a0 aa ai al):c8 Tryz.prog 70 [.agg (cq false a0)] [] (fun r H=>r= .agg [aq aa.ok,ap 0 0 aa.aE.length,ap 1 0 aa.ay.length,ap 2 0 aa.O.length]∧H=(⟨0,1,List.map aR aa.aE⟩::⟨0,2,List.map ba aa.ay⟩::⟨0,5,aW 3 aa.O (List.range aa.O.length)⟩::List.map bj (List.map av.ae aa.O))):=by
 refine c8.toOwn ?_
 unfold Nv at h
 refine c8.go (fn:=Tryz.f70) [(0,.agg (cq false a0))] Tryz.func70 (fun _ _=> ?_)
 show WpS _ (bQ Ny 1) _ ⟨bm 34 [(0,.agg (cq false a0))],[],[]⟩
 refine sZ u4 0 [(2,aJ 2 0),(1,aJ 1 0)] [2] [] [(2,wF),(1,(cq false a0))] [] ?_
 obtain⟨kZ,h⟩:=h
 refine fk [(3,aJ 3 0)] [2] (fun L=>(3,(Em a0))::L) (fun _=>(Ia a0)) (True) ?_ (fun q2=> ?_)
 ·
  replace h:=kZ
  refine o5 u4 1 ai8 ai9 [(3,wF)] ?_
  obtain⟨q3,h⟩:=h
  refine JS 8 (some 10) [(3,aJ 3 0),(12,bA ba a0.ay),(11,aJ 1 2),(9,bA aR a0.aE),(8,aJ 1 1),(7,aq a0.ok),(6,aJ 1 0)] [bA aR a0.aE] (fun L H=>sb Tryz.prog (j_ Ny 6) [0,1,5,6,9] [(3,aJ 3 0),(12,bA ba a0.ay),(11,aJ 1 2),(9,bA aR a0.aE),(8,aJ 1 1),(7,aq a0.ok),(6,aJ 1 0),(2,aJ 2 0),(1,aJ 1 0)] L H) (ap 0 0 (aV a0.aE).length) [⟨0,1,List.map aR (aV a0.aE)⟩] (aaz a0.aE q3) (ah.cons (c6.iH cJ) ah.nil) (tK (fun _=>rfl) rfl) (tW (tV (fun _=>rfl) rfl) (by kernel_rfl)) (wW (ψ:=(Wd∧((Wf a0)∧((true=true∧true=true∧((aJ 1 2:AV)=aJ 1 2))∧((true=true∧true=true∧((bA ba a0.ay:AV)=bA ba a0.ay))∧(We∧True)))))) (by kernel_rfl) ⟨⟨rfl,rfl,rfl⟩,⟨⟨rfl,rfl,rfl⟩,⟨⟨rfl,rfl,rfl⟩,⟨⟨rfl,rfl,rfl⟩,⟨⟨rfl,rfl,rfl⟩,trivial⟩⟩⟩⟩⟩) ?_
  have q4:=h
  refine JS 1 (some 13) [] [bA ba a0.ay] (fun L H=>sb Tryz.prog (j_ Ny 6) [0,1,9] [(10,ap 0 0 (aV a0.aE).length),(3,aJ 3 0),(12,bA ba a0.ay),(11,aJ 1 2),(9,bA aR a0.aE),(8,aJ 1 1),(7,aq a0.ok),(6,aJ 1 0),(2,aJ 2 0),(1,aJ 1 0)] L H) (ap 1 0 (aV a0.ay).length) (Ia a0) (an3 a0.ay q4) (ah.cons (c6.iH cJ) ah.nil) (tK (fun _=>rfl) rfl) (tW (tV (fun _=>rfl) rfl) (by kernel_rfl)) (wW (ψ:=(Wd∧((Wf a0)∧(We∧True)))) (by kernel_rfl) ⟨⟨rfl,rfl,rfl⟩,⟨⟨rfl,rfl,rfl⟩,⟨⟨rfl,rfl,rfl⟩,trivial⟩⟩⟩) ?_
  refine FE 2 [(14,.agg (Em a0))] [(3,(Em a0)),(2,wF),(1,(cq false a0))] (Ia a0) (φ:=True) trivial ?_
  exact l8 [] trivial
 refine ig ?_
 refine cw [(16,bA (gE false) a0.O),(17,ad (a0.O.length:Int)),(18,ad 0)] [2] (a0.O.length≤4611686018427387904) ?_ (fun cQ=> ?_)
 ·
  refine bx u4 2 ?_
  refine sLen 3 (some 17) [(16,bA (gE false) a0.O),(15,aJ 1 3)] (gE false) a0.O (fun c0=> ?_)
  exact b3 [(18,ad 0)] c0
 replace h:=h cQ
 refine fJ 0 ?_
 refine WpS.nQ ?_ (hX (s'':=⟨(H_ a0),(Nz a0),(Wc a0)⟩) (Weak.xU (T:=(H_ a0)) (L:=[(3,(Em a0)),(2,wF),(1,(cq false a0))]) (H:=(Ia a0)) (cells:=(Em a0)) 3 3 5 (by kernel_rfl) (by kernel_rfl)) (by kernel_rfl))
 refine WpS.nQ ?_ (hX (s'':=⟨(H_ a0),(Nz a0),(⟨0,1,List.map aR (aV a0.aE)⟩::⟨0,2,List.map ba (aV a0.ay)⟩::⟨0,5,aW 4 ([]:List av) ([]:List Nat)⟩::⟨0,5,[]⟩::List.map bj ([]:List (List Bool)))⟩) (Weak.Bw (T:=(H_ a0)) (L:=(Nz a0)) (H:=(Wc a0)) 5) (by kernel_rfl))
 obtain⟨lL,h⟩:=h
 refine ln (fun(v:List (List Bool)×Nat×Nat×List Nat×Int×List av)=>(⟨(bm 34 [(2,aJ 2 0),(3,aJ 3 0),(16,bA (gE false) a0.O),(17,ad (a0.O.length:Int)),(18,ad (v.2.2.2.2.1))]),[(3,[aq a0.ok,ap 0 0 (aV a0.aE).length,ap 1 0 (aV a0.ay).length,ap 2 (v.2.1) (v.2.2.2.2.2).length]),(2,wF)],(⟨0,1,List.map aR (aV a0.aE)⟩::⟨0,2,List.map ba (aV a0.ay)⟩::⟨(v.2.1),5,aW 4 (v.2.2.2.2.2) (v.2.2.2.1)⟩::⟨(v.2.2.1),5,[]⟩::List.map bj (v.1))⟩:St)) (fun(v:List (List Bool)×Nat×Nat×List Nat×Int×List av)=>ai (v.1) (v.2.1) (v.2.2.1) (v.2.2.2.1) (v.2.2.2.2.1) (v.2.2.2.2.2)) (fun(v:List (List Bool)×Nat×Nat×List Nat×Int×List av)=>al (v.1) (v.2.1) (v.2.2.1) (v.2.2.2.1) (v.2.2.2.2.1) (v.2.2.2.2.2)) (([]:List (List Bool)),0,0,([]:List Nat),0,([]:List av)) (dw [1]) lL (fun v aT=> ?_)
 obtain⟨aM,g2,g3,aD,cK,ws2⟩:=v
 replace h:=h aM g2 g3 aD cK ws2 aT
 dsimp only
 refine et u4 3 [(19,aq (El a0 cK))] [1] [5] ?_
 unfold Nx at h
 obtain⟨jA,h⟩:=h
 refine cw [] [0,1,5] ((El a0 cK)=true) ?_ (fun gb=> ?_)
 ·
  replace h:=jA
  refine dB (fun jP=> ?_) (fun jP=> ?_)
  ·
   refine ew ?_
   exact b_.normal (by simp only[jP]<;>rfl) ei
  ·
   replace h:=h jP
   refine j3 0 ?_
   refine b_.exit ?_
   refine ed.exit ?_
   refine cc.here ?_
   refine ef.normal ?_
   refine k4 ⟨(bm 34 [(2,aJ 2 0)]),[(3,(A8 a0 g2 ws2)),(2,(A8 a0 g2 ws2))],(⟨0,1,List.map aR (aV a0.aE)⟩::⟨0,2,List.map ba (aV a0.ay)⟩::⟨g2,5,aW 4 ws2 aD⟩::⟨g3,5,[]⟩::List.map bj aM)⟩ (True) ?_ (fun hy=> ?_)
   ·
    refine bx u4 8 ?_
    exact b3 [(33,.agg (A8 a0 g2 ws2))] trivial
   refine hZ ?_
   refine mE (.agg (A8 a0 g2 ws2)) [.agg (A8 a0 g2 ws2)] ?_
   exact Zb h rfl rfl rfl rfl
 replace h:=h gb
 obtain⟨h8,h⟩:=h
 refine fk [] [5] (fun L=>(5,(wE a0 aM cK))::iz 0 3 (ap 2 (g2+1) (ws2++[(u5 a0 cK)]).length) L) (fun _=>(NA a0 aM g2 g3 aD cK ws2)) (True) ?_ (fun jz=> ?_)
 ·
  replace h:=h8
  refine fJ 1 ?_
  obtain⟨nF,h⟩:=h
  refine fk [(5,aJ 5 0)] [5] (fun L=>(5,(gE false (nth a0.O cK)))::L) id (True) ?_ (fun iL=> ?_)
  ·
   replace h:=nF
   refine bx u4 4 ?_
   have gj:=h
   refine mF 1 (some 20) [] (gE false) a0.O 5 gj ?_
   exact b3 [(5,aJ 5 0),(21,.agg (gE false (nth a0.O cK)))] trivial
  obtain⟨io,h⟩:=h
  refine fk [] [6] (fun L=>er 0 (wE a0 aM cK) L) (fun _=>(Wb a0 aM g2 g3 aD cK ws2)) (True) ?_ (fun tM=> ?_)
  ·
   replace h:=io
   refine bx u4 5 ?_
   have ka:=h
   refine tS 3 (some 24) [(23,bA aR (nth a0.O cK).ae),(22,aJ 5 2)] [bA aR (nth a0.O cK).ae] (ap (aM.length+4) 0 (aV (nth a0.O cK).ae).length) (Wb a0 aM g2 g3 aD cK ws2) (aaz (nth a0.O cK).ae ka) (ah.cons (c6.iH cJ) ah.nil) (tK (fun _=>rfl) rfl) (tW (tV (fun _=>rfl) rfl) (by simp only[List.cons_append,List.map_nil,uF])) ?_ (er:=by simp[oh,p1,ji])
   exact b3 [(25,aJ 5 2)] trivial
  refine bx u4 6 ?_
  refine Jn 4 [(29,.ref 3 (g3+1) 0 1 true),(28,.agg (wE a0 aM cK)),(27,ap 2 g2 ws2.length),(26,aJ 3 3)] [(5,(wE a0 aM cK)),(3,(A8 a0 g2 ws2)),(2,wF)] (⟨0,1,List.map aR (aV a0.aE)⟩::⟨0,2,List.map ba (aV a0.ay)⟩::⟨g2,5,aW 4 ws2 aD⟩::⟨(g3+1),5,[(wE a0 aM cK)]⟩::List.map bj (u3 a0 aM cK)) ?_
  have ld:=h
  refine aaj 1 (some 30) [] 4 2 g2 (g3+1) 56 ws2 aD (u5 a0 cK) aM.length (fun r=>(⟨0,1,List.map aR (aV a0.aE)⟩::⟨0,2,List.map ba (aV a0.ay)⟩::⟨(g2+1),5,r⟩::⟨(g3+1),5,[(wE a0 aM cK)]⟩::List.map bj (u3 a0 aM cK))) ld.1 ld.2 ?_
  refine Jm [(31,aJ 3 3)] (NB a0 aM g2 cK ws2) (NA a0 aM g2 g3 aD cK ws2) ?_
  refine cc.normal ?_
  exact b_.normal trivial ei
 unfold Nw at h
 refine bx u4 7 ?_
 refine d_ [(18,ad (wG cK)),(32,ad (wG cK))] ?_
 exact ed.again ((u3 a0 aM cK),(g2+1),(g3+1),(aD++[aM.length]),(wG cK),(ws2++[(u5 a0 cK)])) h ((Weak.clear 3 rfl:Weak ⟨(Wa a0 cK),(NB a0 aM g2 cK ws2),(NA a0 aM g2 g3 aD cK ws2)⟩ ⟨(Wa a0 cK),(NB a0 aM g2 cK ws2),(⟨0,1,List.map aR (aV a0.aE)⟩::⟨0,2,List.map ba (aV a0.ay)⟩::⟨(g2+1),5,aW 4 (ws2++[(u5 a0 cK)]) (aD++[aM.length])⟩::⟨(g3+1),5,[]⟩::List.map bj (u3 a0 aM cK))⟩).trans (dw [5]))
theorem H9 (ab:iu a0):c8 Tryz.prog 70 [.agg (cq false a0)] [] (fun r H=>r= .agg [aq (aV a0).ok,ap 0 0 (aV a0).aE.length,ap 1 0 (aV a0).ay.length,ap 2 0 (aV a0).O.length]∧H=(⟨0,1,List.map aR (aV a0).aE⟩::⟨0,2,List.map ba (aV a0).ay⟩::⟨0,5,aW 3 (aV a0).O (List.range (aV a0).O.length)⟩::List.map bj (List.map av.ae (aV a0).O))):=ai_ a0 (aV a0) (fun bs _ _ is v ws=>cr a0.O.length (fun _=>false) v∧ws=a0.O.take v.toNat∧is=List.range ws.length∧bs=ws.map av.ae) (fun _ _ _ _ v _=>cM a0.O.length v) (by
 unfold Nv
 obtain⟨jO,oa,EP,za⟩:=ab
 refine⟨⟨jO,oa⟩,fun ag=>⟨⟨dA (dp _),rfl,rfl,rfl⟩,fun bs g2 g3 is v ws aT=> ?_⟩⟩
 unfold Nx Nw El wG u3 u5
 obtain⟨aT,rfl,hi,hb⟩:=aT
 refine⟨fun hv=> ?_,fun hv=>⟨⟨cC aT hv,za _ (dT (cC aT hv).2),?_,?_,?_⟩,⟨(da (cO ag) aT hv rfl).1,?_,?_,?_⟩,(da (cO ag) aT hv rfl).2⟩⟩
 ·have: ¬v<(a0.O.length:Int):=by simpa using hv
  have h1:=aT.1
  rw[List.take_of_length_le (by omega)] at hi hb ⊢
  exact⟨rfl,rfl,rfl,rfl,hi,hb⟩
 ·rw[hi];simp
 ·rw[List.length_take];omega
 ·rw[List.length_take];omega
 ·have ck:=cC aT hv
  rw[kH (cO ag) ck.1 (by omega),show(v+1).toNat=v.toNat+1 by omega,List.take_succ_eq_append_getElem ck.2,←gX ck.2];rfl
 ·rw[hi,hb];simp[List.range_succ]
 ·rw[hb,List.map_append];rfl)
end
section
variable (a0:aL) (J:Int) (aa:av)
abbrev tz:=(nth a0.O J).ao
abbrev Bf:=List.replicate ((tz a0 J).length:Int).toNat false
abbrev N0:List AV:=[ad 0,ad 0,ap 0 0 (Bf a0 J).length,aq false,ad 0]
noncomputable def ajo:Code:=jK Tryz.f106
def NZ:Prop:=
  ((0≤J∧J.toNat<a0.O.length)∧((tz a0 J).length≤4611686018427387904→0≤((tz a0 J).length:Int)∧1*((tz a0 J).length:Int)≤140737488355328∧((tz a0 J).length:Int)≤4611686018427387904))∧((tz a0 J).length≤4611686018427387904→(0=aa.aF)∧(0=aa.bc)∧((Bf a0 J)=aa.ae)∧(false=aa.bW)∧(0=aa.bU))
def NY:Prop:=
 NZ a0 J aa
theorem ajp (h:NY a0 J aa):c8 Tryz.prog 106 [.agg (bD false a0),ad J] [] (fun r H=>r= .agg [ad aa.aF,ad aa.bc,ap 0 0 aa.ae.length,aq aa.bW,ad aa.bU]∧H=[⟨0,1,List.map aR aa.ae⟩]):=by
 refine c8.toOwn ?_
 unfold NY at h
 refine c8.go (fn:=Tryz.f106) [(0,.agg (bD false a0)),(1,ad J)] Tryz.func106 (fun _ _=> ?_)
 show WpS _ (bQ ajo 1) _ ⟨bm 14 [(0,.agg (bD false a0)),(1,ad J)],[],[]⟩
 refine sZ [] 0 [(4,aJ 4 0),(2,aJ 2 0)] [2] [0,1,1] [(4,[ad 0,ad 0,cu,aq false,ad 0]),(2,(bD false a0))] [] ?_
 unfold NZ at h
 obtain⟨c0,h⟩:=h
 refine fk [] [1] (fun L=>iz 0 2 (ap 0 0 (Bf a0 J).length) L) (fun _=>[⟨0,1,List.map aR (Bf a0 J)⟩]) ((tz a0 J).length≤4611686018427387904) ?_ (fun q2=> ?_)
 ·
  replace h:=c0
  refine bx [] 1 ?_
  obtain⟨cQ,h⟩:=h
  refine mF 4 (some 8) [(7,ad J),(6,bA (dj false) a0.O),(5,aJ 2 2)] (dj false) a0.O 5 cQ ?_
  refine sLen 3 (some 11) [(10,bA cx (tz a0 J)),(9,.dv (dj false (nth a0.O J)) 0)] cx (tz a0 J) (fun q3=> ?_)
  replace h:=h q3
  have q4:=h
  refine PO 1 (some 12) [] aR 1 [aq false] 0 (fun r=>[⟨0,1,r⟩]) false q4 ?_
  exact b3 [(13,.agg (N0 a0 J))] q3
 replace h:=h q2
 refine hZ ?_
 refine mE (.agg (N0 a0 J)) [.agg (N0 a0 J)] ?_
 exact⟨rK [some 0],tL [some 0] rfl (by decide) ⟨rfl,(qR (b:=0) (g:=0) (sz:=1) (xs:=(Bf a0 J)) (ys:=aa.ae) rfl y7 (h.2.2.1)),trivial⟩,(.inl ⟨_,_,rfl,rfl,(ah.cons (O2 (a:=0) (b:=aa.aF) (h.1)) (ah.cons (O2 (a:=0) (b:=aa.bc) (h.2.1)) (ah.cons (y9 (by simp) rfl rfl (by have:=congrArg List.length (h.2.2.1);simpa using this)) (ah.cons (amF (a:=false) (b:=aa.bW) (h.2.2.2.1)) (ah.cons (O2 (a:=0) (b:=aa.bU) (h.2.2.2.2)) ah.nil)))))⟩)⟩
theorem Ii (ab:A4 a0 J):c8 Tryz.prog 106 [.agg (bD false a0),ad J] [] (fun r H=>r= .agg [ad (c7 a0 J).aF,ad (c7 a0 J).bc,ap 0 0 (c7 a0 J).ae.length,aq (c7 a0 J).bW,ad (c7 a0 J).bU]∧H=[⟨0,1,List.map aR (c7 a0 J).ae⟩]):=ajp a0 J (c7 a0 J) (by
 unfold NY NZ Bf tz
 obtain⟨bZ,aA,h1⟩:=ab
 have aQ:J.toNat<a0.O.length:=by omega
 have:=(bZ.ao _ (dT aQ)).2.1
 exact⟨⟨⟨aA,aQ⟩,fun _=>⟨dp _,by omega,by omega⟩⟩,fun _=>⟨rfl,rfl,by show List.replicate _ _=List.replicate _ _;simp,rfl,rfl⟩⟩)
end
section
variable (ai:Int→Prop) (al:Int→Nat) (a0:Frame) (J:(List Int)) (aa:Bool)
def WT:Prop:=
  J.length≤4611686018427387904→ai 0∧ ∀(v9:Int),ai v9→(((decide (v9<(J.length:Int)))=false→false=aa)∧((decide (v9<(J.length:Int)))=true→((0≤v9∧v9.toNat<J.length)∧((0≤(nth J v9)∧(nth J v9).toNat<a0.aE.length)∧((nth a0.aE (nth J v9))=true→true=aa)))∧((!(nth a0.aE (nth J v9)))=true→ai (IntKind.i64.wrap (v9+1))∧al (IntKind.i64.wrap (v9+1))<al v9)))
def WS (a0:Frame) (J:(List Int)) (aa:Bool) (ai:Int→Prop) (al:Int→Nat):Prop:=
 WT ai al a0 J aa
theorem WU (ab:zp a0 J):bn Tryz.prog 111 [.agg (cq false a0),bA cx J] (aq (hU a0 J)):=(fun(ai:Int→Prop) (al:Int→Nat) (h:WS a0 J (hU a0 J) ai al)=>bn.run (ps:=[.frame,(.l .int)]) (rs:=[.bool]) (x:=(a0,J,())) (r:=((hU a0 J),())) ⟨19,dy,[]⟩ ⟨[],[],[],[],[]⟩ (fz [2,7,8] [(2,4)] 9 ai al fun _=> .nil) Tryz.func111 h) (cr J.length (fun j=>ey a0 (nth J j))) (cM J.length) (by
 unfold WS WT
 intro ag
 refine⟨dA (dp _),fun v aT=>⟨fun hv=> ?_,fun hv=>⟨⟨cC aT hv,?_,fun hb=> ?_⟩,fun hb=>da (cO ag) aT hv (not_eq hb)⟩⟩⟩
 ·exact(FJ (q:=fun x=>ey a0 x) aT hv).symm
 ·have:=ab _ (dT (cC aT hv).2)
  exact⟨this.1,by omega⟩
 ·exact(JZ (q:=fun x=>ey a0 x) aT hv hb).symm)
def ajQ:dJ Tryz.prog:=⟨111,[.frame,(.l .int)],[.bool],some fun x=>zp x.1 x.2.1,fun x=>((hU x.1 x.2.1),()),fun x h=>WU x.1 x.2.1 h⟩
end
section
variable (ai:Int→Prop) (al:Int→Nat) (a0:aL) (J:Frame) (a2:Int) (aa:Bool) (cK:Int)
abbrev N5:= !((nth J.ay (nth (bV (nth a0.O a2)) cK).bh).dR==(nth (bV (nth a0.O a2)) cK).bi&&(nth J.ay (nth (bV (nth a0.O a2)) cK).bh).bI==(nth (bV (nth a0.O a2)) cK).bi)
def ajE:List Item:=(List.range 12).map cz
def ajF:List (List Nat):=[[],[0],[],[2],rg 0 4,rg 0 5,[],[6],[],[8],rg 6 10,rg 0 11]
def WE:Prop:=
  ((0≤cK∧cK.toNat<(bV (nth a0.O a2)).length)∧((0≤(nth (bV (nth a0.O a2)) cK).bh∧(nth (bV (nth a0.O a2)) cK).bh.toNat<J.ay.length)∧((N5 a0 J a2 cK)=true→false=aa)))∧((!(N5 a0 J a2 cK))=true→ai (IntKind.i64.wrap (cK+1))∧al (IntKind.i64.wrap (cK+1))<al cK)
def WG:Prop:=
  ((decide (cK<((bV (nth a0.O a2)).length:Int)))=false→((zp J (nth a0.O a2).ao)∧((!(hU J (nth a0.O a2).ao))=true→zp J (nth a0.O a2).di))∧(((!(hU J (nth a0.O a2).ao))&&(!(hU J (nth a0.O a2).di)))=aa))∧((decide (cK<((bV (nth a0.O a2)).length:Int)))=true→WE ai al a0 J a2 aa cK)
def WD (a0:aL) (J:Frame) (a2:Int) (aa:Bool) (ai:Int→Prop) (al:Int→Nat):Prop:=
 (0≤a2∧a2.toNat<a0.O.length)∧((BN (nth a0.O a2))∧((bV (nth a0.O a2)).length≤4611686018427387904→ai 0∧ ∀(cK:Int),ai cK→(WG ai al a0 J a2 aa cK)))
theorem ajD (ab:BO a0 J a2):bn Tryz.prog 122 [.agg (bD false a0),.agg (cq false J),ad a2] (aq (hn a0 J a2)):=(fun(ai:Int→Prop) (al:Int→Nat) (h:WD a0 J a2 (hn a0 J a2) ai al)=>bn.run (ps:=[.eO,.frame,.int]) (rs:=[.bool]) (x:=(a0,J,a2,())) (r:=((hn a0 J a2),())) ⟨47,dy,[N3,ajQ]⟩ ⟨[],[(5,ajE,ajF)],[],[],[]⟩ (fz [4,7,16,17] [(7,5),(4,4)] 18 ai al fun _=> .nil) Tryz.func122 h) (cr (bV (nth a0.O a2)).length (fun j=> !((nth J.ay (nth (bV (nth a0.O a2)) j).bh).dR==(nth (bV (nth a0.O a2)) j).bi&&(nth J.ay (nth (bV (nth a0.O a2)) j).bh).bI==(nth (bV (nth a0.O a2)) j).bi))) (cM (bV (nth a0.O a2)).length) (by
 unfold WD
 obtain⟨bZ,dn,aA,h1⟩:=ab
 have aQ:a2.toNat<a0.O.length:=by omega
 have hw:=dT aQ
 obtain⟨wL,kV,Oz⟩:=bZ.bI _ hw
 have tk:=dn.aE
 have uW:zp J (nth a0.O a2).ao:=fun x hx=>by have:=(bZ.ao _ hw).2.2 x hx;omega
 have ah8:zp J (nth a0.O a2).di:=fun x hx=>by have:=(bZ.di _ hw).2 x hx;omega
 refine⟨⟨aA,aQ⟩,⟨by omega,by omega⟩,fun ag=>⟨dA (dp _),fun v aT=> ?_⟩⟩
 unfold WG WE N5
 have U: ∀l:c9,decide (nth J.ay l.bh=⟨l.bi,l.bi⟩)=((nth J.ay l.bh).dR==l.bi&&(nth J.ay l.bh).bI==l.bi):=fun l=>by
  rcases nth J.ay l.bh with⟨x,y⟩
  rw[Bool.eq_iff_iff];simp
 refine⟨fun hv=>⟨⟨uW,fun _=>ah8⟩,?_⟩,fun hv=>⟨⟨cC aT hv,?_,fun hb=> ?_⟩,fun hb=> ?_⟩⟩
 ·have eR:=oo (q:=fun l:c9=> !((nth J.ay l.bh).dR==l.bi&&(nth J.ay l.bh).bI==l.bi)) (hV aT hv)
  unfold hn
  have:(bV (nth a0.O a2)).all (fun l=>decide (nth J.ay l.bh=⟨l.bi,l.bi⟩))=true:=by
   rw[List.all_eq_true]
   intro l au
   rw[U]
   simpa using eR l au
  rw[this,Bool.true_and]
 ·have:=Oz _ (dT (cC aT hv).2)
  have h2:=dn.ay
  exact⟨this.1,by omega⟩
 ·unfold hn
  have:(bV (nth a0.O a2)).all (fun l=>decide (nth J.ay l.bh=⟨l.bi,l.bi⟩))=false:=by
   rw[←Bool.not_eq_true,List.all_eq_true]
   intro aw
   have:=aw _ (dT (cC aT hv).2)
   rw[U] at this
   rw[this] at hb;cases hb
  rw[this];rfl
 ·exact da (cO ag) aT hv (not_eq hb))
end
end Go.Proofs.YtejmihecgodhnaaGreat.Fw
