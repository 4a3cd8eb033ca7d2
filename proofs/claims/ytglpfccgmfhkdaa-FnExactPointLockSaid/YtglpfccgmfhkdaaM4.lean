/- The machine, part F: regions, code, loops, functions. -/
import Derived.Test.YtglpfccgmfhkdaaM3
set_option linter.unusedVariables false
namespace Go.Proofs.Ytglpfccgmfhkdaa.Fw
open Go
def rN (b:Bool):TV:= .b (match b with
 | true=> .t
 | false=> .f)
theorem KS (b:Bool):(rN b).bi= .bool b:=by cases b<;>rfl
def zY (x:dh) (s:TS) (K:Bool→TS→aG):aG:=match x with
 | .t=>K true s
 | .f=>K false s
 | x=> .hg x s (K true ⟨[],s.T++s.B,s.vs,s.aW⟩) (K false ⟨[],s.T++s.B,s.vs,s.aW⟩)
def Ab (d:Nat) (v:TV):TV:=match v with
 | .b x=>(match x with
  | .v p=> .b (.at d p)
  | x=> .b x)
 | v=>v
theorem aaQ (d:Nat) (v:TV):(Ab d v).bi=v.bi:=by
 unfold Ab
 split
 ·split<;>rfl
 ·rfl
def iz (n:Nat) (s:TS) (d:Option Nat) (v:TV):TS:=match d with
 | none=>s
 | some d=>match Nat.blt d n with
  | true=>s.put d (Ab d v)
  | false=>s
theorem aaC [FZ] {n:Nat} {s s':TS} (hv:s'.vs=s.vs) (hb:s'.aW=s.aW) (h: ∀k,s'.get k=s.get k):s'.av n=s.av n:=by
 have hc: ∀v c m,gq s' v c m=gq s v c m:=by
  intro v c m
  induction m generalizing c with
  | zero=>rfl
  | succ m bx=>rw[gq,gq,h _,bx]
 have ax:=Fb (n:=n) hb (fun b=>h _) (h cT)
 have bS:s'.tT n=s.tT n:=by unfold TS.tT;simp only[h]
 have bH:s'.bT=s.bT:=by unfold TS.bT;simp only[hv,hc]
 show(⟨s'.tT n,s'.bT,(s'.av n).H⟩:St)=_
 rw[bS,bH,ax];rfl
theorem NK (s:TS) (k:Nat):TS.get ⟨[],s.T++s.B,s.vs,s.aW⟩ k=s.get k:=by unfold TS.get;simp only;rw[rO];rfl
theorem aaw [FZ] {n:Nat} (s:TS):TS.av n ⟨[],s.T++s.B,s.vs,s.aW⟩=s.av n:=aaC rfl rfl (NK s)
theorem Fa [FZ] {n:Nat} {x:dh} {s:TS} {K:Bool→TS→aG} {R:Exit→TS→Prop} (h:(zY x s K).den R): ∃s',s'.av n=s.av n∧(∀k,s'.get k=s.get k)∧(K x.den s').den R:=by
 have key:(aG.hg x s (K true ⟨[],s.T++s.B,s.vs,s.aW⟩) (K false ⟨[],s.T++s.B,s.vs,s.aW⟩)).den R→ ∃s',s'.av n=s.av n∧(∀k,s'.get k=s.get k)∧(K x.den s').den R:=fun h=>by
  refine⟨_,aaw s,NK s,?_⟩
  ·cases hx:x.den with
   | true=>exact h.1 hx
   | false=>exact h.2 hx
 cases x with
 | t=>exact⟨s,rfl,fun _=>rfl,h⟩
 | f=>exact⟨s,rfl,fun _=>rfl,h⟩
 | _=>exact key h
theorem zw {s:TS} {d k:Nat} {v:TV} (h:d<1000000) (hk:1000000≤k):(s.put d v).get k=s.get k:=by rw[TS.B5,if_neg (by omega)]
theorem D8 [FZ] {s:TS} {d:Nat} {v:TV} (h:d<1000000) (f:Fits s):Fits (s.put d v):=f.congr fun k h1 _=>zw h h1
theorem LP {s:TS} {d:Nat} {v:TV} (h:d<1000000):(s.put d v).bT=s.bT:=by
 have hc: ∀dv c m,gq (s.put d v) dv c m=gq s dv c m:=by
  intro dv c m
  induction m generalizing c with
  | zero=>rfl
  | succ m bx=>rw[gq,gq,zw h (by unfold kd;omega),bx]
 show s.vs.map _=s.vs.map _
 simp only[hc]
theorem LO [FZ] {n:Nat} {s:TS} {d:Nat} {v:TV} (h:d<1000000):((s.put d v).av n).H=(s.av n).H:=Fb rfl (fun b=>zw h (by unfold bD;omega)) (zw h (by unfold cT;omega))
theorem wA [FZ] {n:Nat} (ap:n≤1000000) (s:TS) (d:Option Nat) (v:TV):(iz n s d v).av n=⟨putA (s.av n).T d v.bi,(s.av n).L,(s.av n).H⟩:=by
 cases d with
 | none=>rfl
 | some d=>
  unfold iz
  simp only
  split
  ·rename_i aY
   have aY:d<n:=by rw[←Nat.blt_eq];exact aY
   rw[←aaQ d v]
   generalize Ab d v=v
   have bS:(s.put d v).tT n=(s.tT n).set d v.bi:=by
    apply List.ext_getElem?
    intro t
    show((List.range n).map fun t=>((s.put d v).get t).bi)[t]?=(((List.range n).map fun t=>(s.get t).bi).set d v.bi)[t]?
    rw[List.getElem?_set]
    simp only[List.getElem?_map,List.length_map,List.length_range]
    rcases Nat.lt_or_ge t n with h | h
    ·rw[List.getElem?_range h]
     simp only[Option.map_some]
     rw[TS.B5]
     by_cases e:d=t
     ·simp[e,h]
     ·simp[e]
    ·rw[List.getElem?_eq_none (l:=List.range n) (by simpa using h)]
     by_cases e:d=t
     ·omega
     ·simp[e]
   have bH:=LP (s:=s) (v:=v) (show d<1000000 by omega)
   have ax:=LO (n:=n) (s:=s) (v:=v) (show d<1000000 by omega)
   show(⟨(s.put d v).tT n,(s.put d v).bT,((s.put d v).av n).H⟩:St)=_
   rw[bS,bH,ax];rfl
  ·rename_i aY
   have aY: ¬d<n:=fun h=>by rw[←Nat.blt_eq] at h;rw[h] at aY;cases aY
   show s.av n=⟨(s.av n).T.set d v.bi,_,_⟩
   rw[List.set_eq_of_length_le]
   show((List.range n).map _).length≤d
   simp;omega
theorem wz [FZ] {n:Nat} (ap:n≤1000000) {s:TS} {d:Option Nat} {v:TV} (f:Fits s):Fits (iz n s d v):=by
 unfold iz
 split
 ·exact f
 ·split
  ·rename_i aY
   exact D8 (by rw[Nat.blt_eq] at aY;omega) f
  ·exact f
theorem LS [FZ] {n:Nat} {s:TS} {t:Nat} {v:TV} (bj:t<1000000) (h:(s.get t).bi=v.bi):(s.put t v).av n=s.av n:=by
 have bS:(s.put t v).tT n=s.tT n:=by
  unfold TS.tT
  refine List.map_congr_left fun k _=> ?_
  rw[TS.B5];split
  ·rename_i e;subst e;exact h.symm
  ·rfl
 have bH:=LP (s:=s) (v:=v) bj
 have ax:=LO (n:=n) (s:=s) (v:=v) bj
 show(⟨(s.put t v).tT n,(s.put t v).bT,((s.put t v).av n).H⟩:St)=_
 rw[bS,bH,ax];rfl
section
variable {P:Program} (cf:gf P)
def zq (c x y:Operand) (s:TS) (K:TV→TS→aG):aG:=match b7 cf.n s c with
 | .b z=>zY z s fun b s=>
  let s:=match c with
   | .tmp t=>s.put t (rN b)
   | _=>s
  mZ (b7 cf.n s (bif b then x else y)) fun v=>K v s
 | _=> .no
def ym (ops:Array Oper) (o:Oper) (s:TS) (run skip:TS→aG):aG:=match o.guard with
 | none=>run s
 | some g=>match(ops[g.1]?).bind (·.dst) with
  | none=> .no
  | some t=>match b7 cf.n s (.tmp t) with
   | .b z=>zY z s fun b s=>bif b==g.2 then run (s.put t (rN b)) else skip (s.put t (rN b))
   | .tup c=>match c with
    | []=>skip s
    | _=> .no
   | _=> .no
def stepT (dQ:nT P) (o:Oper) (s:TS) (K:TV→TS→aG):aG:=match o.op with
 | .pick c x y=>zq cf c x y s K
 | _=>Aj cf s dQ o K
def zL (dQ:nT P) (ops:Array Oper):List Oper→TS→(TS→aG)→aG
 | [],s,K=>K s
 | o::r,s,K=>ym cf ops o s (fun s=>stepT cf dQ o s fun v s=>zL dQ ops r (iz cf.n s o.dst v) K) (fun s=>zL dQ ops r (iz cf.n s o.dst (.tup [])) K)
def BU (ops:Array Oper) (s:TS):List Nat→aG→aG
 | [],k=>k
 | i::r,k=> .eq ((opI ops i).guard.isNone&&(opI ops i).dst.isSome) true (.eq (fun(Z:FZ) H Q=>jr P (opI ops i) (fun x=>(b7 cf.n s x).bi) s.bT (@TS.fj Z s++H) Q) (fun _ _ Q=>Q (match(opI ops i).dst with
  | some d=>(b7 cf.n s (.tmp d)).bi
  | none=> .undef)) (BU ops s r k))
def qt (dQ:nT P) (ops:Array Oper):List Item→TS→(TS→aG)→aG
 | [],s,K=>K s
 | x::r,s,K=>ym cf ops (opI ops x.i) s
   (fun s=>match x.q with
    | true=>(match nm (opI ops x.i) with
     | true=>(match(opI ops x.i).dst with
      | some d=> .eq (fun H Q=>jr P (opI ops x.i) (fun x=>(b7 cf.n s x).bi) s.bT H Q) (fun _ Q=>Q (.et d 0)) (qt dQ ops r (iz cf.n s (opI ops x.i).dst (.lp d 0)) K)
      | none=> .no)
     | false=>(match(opI ops x.i).op with
      | .pick c a b=>zq cf c a b s fun v s=>qt dQ ops r (iz cf.n s (opI ops x.i).dst v) K
      | _=>pr cf s (opI ops x.i) fun v=>qt dQ ops r (iz cf.n s (opI ops x.i).dst v) K))
    | false=>(match(opI ops x.i).op with
     | .pick _ _ _=> .no
     | _=>Aj cf s dQ (opI ops x.i) fun v s=>BU cf ops s x.hN (qt dQ ops r (iz cf.n s (opI ops x.i).dst v) K)))
   (fun s=>qt dQ ops r (iz cf.n s (opI ops x.i).dst (.tup [])) K)
def xb (P:Program) (ops:Array Oper):List Item→List (Nat×List TV)
 | []=>[]
 | x::r=>match x.q with
  | true=>(match(opI ops x.i).op with
   | .alloc e=>(match(opI ops x.i).dst with
    | some d=>(d,xa P e)::xb P ops r
    | none=>xb P ops r)
   | _=>xb P ops r)
  | false=>xb P ops r
def FF:List (Nat×List TV)→List (Nat×TV)
 | []=>[]
 | (d,c)::r=>q0 d 0 c++FF r
def Bp (dQ:nT P) (ops:Array Oper) (ord:List Item) (ic:List (List Nat)) (s:TS) (K:TS→aG):aG:=
 let gR:=xb P ops ord
 let s':=s.add (FF gR) (gR.map (fun p=>(p.1,p.2.length))++s.vs) s.aW
 match mR (FF gR) with
 | false=> .no
 | true=> .eq (P.follows .mixedOrders) true (.eq ic.length ops.size (.eq (sU ops ord (uV ic)) true (.eq (ord.all (·.lit)) true (.eq s'.bT (gR.map (fun p=>(p.1,cc p.2))++s.bT)
  (.eq (q7 (gR.map fun p=>(p.1,cc p.2)) s.bT) true (.eq (qU ops s.bT ord) true (qt cf dQ ops ord s' K)))))))
end
section
variable {P:Program} {cf:gf P} {R:Exit→TS→Prop}
theorem DI {n t:Nat} {s:TS} {v:TV} (h:b7 n s (.tmp t)=v) (hv:v≠ .u):t<n∧s.get t=v:=by
 have h:(match Nat.blt t n with
  | true=>s.get t
  | false=>TV.u)=v:=h
 split at h
 ·rename_i hb;exact⟨by rw[←Nat.blt_eq];exact hb,h⟩
 ·exact absurd h.symm hv
end
section
variable {P:Program} {cf:gf P} {R:Exit→TS→Prop}
theorem YV {T:List AV} {t:Nat} {a:AV} (h:T.getD t .undef=a):T.set t a=T∨a= .undef:=by
 by_cases aE:t<T.length
 ·left
  rw[List.getD_eq_getElem?_getD,List.getElem?_eq_getElem aE] at h
  have h:T[t]=a:=h
  rw[←h];exact List.set_getElem_self ..
 ·right;rw[←h,List.getD_eq_getElem?_getD,List.getElem?_eq_none (by omega)];rfl
end
section
variable {P:Program} {cf:gf P} {R:Exit→TS→Prop}
theorem XP {o:Oper} {T:List AV} {K:AV→Prop} {x4:Prop} (h: ∀c x y,o.op≠ .pick c x y):r2 true o T K x4=x4:=by
 unfold r2
 split
 ·rename_i c x y e;exact absurd e (h c x y)
 ·rfl
end
section
variable [Z:FZ] {P:Program} {cf:gf P} {R:Exit→TS→Prop}
theorem Hy (ap:cf.n≤1000000) {ops:Array Oper} {o:Oper} {s:TS} {run skip:TS→aG} {x y:List AV→Prop} (aJ:Fits s) (hx: ∀s',Fits s'→s'.av cf.n=s.av cf.n→(run s').den R→x (s.av cf.n).T) (bd: ∀s',Fits s'→s'.av cf.n=s.av cf.n→(skip s').den R→y (s.av cf.n).T)
  (h:(ym cf ops o s run skip).den R):lF ops true o (s.av cf.n).T x y:=by
 unfold ym at h
 unfold lF
 split at h
 ·rename_i aL;rw[aL];exact hx s aJ rfl h
 ·rename_i g aL
  obtain⟨j,cE⟩:=g
  rw[aL]
  simp only at h ⊢
  split at h
  ·exact h.elim
  ·rename_i t bj
   rw[bj]
   simp only
   have bS:(s.av cf.n).T.getD t .undef=(b7 cf.n s (.tmp t)).bi:=by
    have:=congrFun (je cf.n s) (.tmp t);exact this
   split at h
   ·rename_i z oi
    rw[oi] at bS
    rw[bS]
    show mT true z.den _ _
    obtain⟨aE,fM⟩:=DI oi (fun e=>by cases e)
    obtain⟨s',aT,e2,h⟩:=Fa (n:=cf.n) h
    have lM:Fits (s'.put t (rN z.den)):=D8 (by omega) (aJ.congr fun k _ _=>e2 k)
    have o5:(s'.put t (rN z.den)).av cf.n=s.av cf.n:=by
     rw[LS (by omega) (by rw[e2,fM,KS];rfl),aT]
    have p5: ∀b,z.den=b→(s.av cf.n).T.set t (.bool b)=(s.av cf.n).T:=fun b hb=>by
     rcases YV (show(s.av cf.n).T.getD t .undef= .bool b by rw[bS,←hb];rfl) with q | q
     ·exact q
     ·cases q
    cases nh:z.den with
    | true=>
     rw[nh] at h o5 lM
     show if cE=true then _ else _
     rw[p5 true nh]
     cases cE with
     | true=>rw[if_pos rfl];exact hx _ lM o5 h
     | false=>rw[if_neg (by simp)];exact bd _ lM o5 h
    | false=>
     rw[nh] at h o5 lM
     show if cE=true then _ else _
     rw[p5 false nh]
     cases cE with
     | true=>rw[if_pos rfl];exact bd _ lM o5 h
     | false=>rw[if_neg (by simp)];exact hx _ lM o5 h
   ·rename_i c oi
    rw[oi] at bS
    split at h
    ·rw[bS];exact bd s aJ rfl h
    ·exact h.elim
   ·exact h.elim
theorem Lz (ap:cf.n≤1000000) {c x y:Operand} {s:TS} {K:TV→TS→aG} {Kp:AV→Prop} (aJ:Fits s) (hK: ∀v s',Fits s'→s'.av cf.n=s.av cf.n→(K v s').den R→Kp v.bi) (h:(zq cf c x y s K).den R):
  me (bR (s.av cf.n).T c) fun z=>mT true z (Kp (bR (s.av cf.n).T x)) (Kp (bR (s.av cf.n).T y)):=by
 unfold zq at h
 split at h
 ·rename_i z oi
  obtain⟨s',aT,e2,h⟩:=Fa (n:=cf.n) h
  simp only at h
  rw[n7] at h
  generalize p4:(match c with
   | .tmp t=>s'.put t (rN z.den)
   | _=>s')=s2 at h
  have c0:s2.av cf.n=s.av cf.n:=by
   rw[←p4,←aT]
   split
   ·rename_i t
    obtain⟨aE,fM⟩:=DI oi (fun e=>by cases e)
    exact LS (by omega) (by rw[e2,fM,KS];rfl)
   ·rfl
  have hf2:Fits s2:=by
   rw[←p4]
   split
   ·rename_i t
    obtain⟨aE,fM⟩:=DI oi (fun e=>by cases e)
    exact D8 (by omega) (aJ.congr fun k _ _=>e2 k)
   ·exact aJ.congr fun k _ _=>e2 k
  have:=hK _ _ hf2 c0 h
  have aD: ∀o,(b7 cf.n s2 o).bi=bR (s.av cf.n).T o:=fun o=>by rw[←c0,je]
  rw[aD] at this
  have hc:bR (s.av cf.n).T c= .bool z.den:=by
   have:=congrFun (je cf.n s) c
   rw[this]
   show(b7 cf.n s c).bi=_
   rw[oi];rfl
  rw[hc]
  show mT true z.den _ _
  cases nh:z.den with
  | true=>rw[nh] at this;exact this
  | false=>rw[nh] at this;exact this
 ·exact h.elim
theorem aaG (ap:cf.n≤1000000) {dQ:nT P} {o:Oper} {s:TS} {K:TV→TS→aG} {Kp:AV→List (Nat×List AV)→List Blk→Prop} (aJ:Fits s) (hK:sG cf s R K Kp) (h:(stepT cf dQ o s K).den R):
  r2 true o (s.av cf.n).T (fun v=>Kp v (s.av cf.n).L (s.av cf.n).H) (ih P [] o (bR (s.av cf.n).T) (s.av cf.n).L (s.av cf.n).H Kp):=by
 unfold stepT at h
 split at h
 ·rename_i c x y eO
  unfold r2
  rw[eO]
  exact Lz ap (Kp:=fun v=>Kp v (s.av cf.n).L (s.av cf.n).H) aJ (fun v s' hf e hv=>by
   have eT:s'.tT cf.n=s.tT cf.n:=congrArg St.T e
   have e1:s'.bT=s.bT:=congrArg St.L e
   have:=hK v s' Z hv hf eT
   rw[e1,e] at this;exact this) h
 ·rename_i cd
  rw[XP fun c x y=>cd c x y]
  exact Of ap aJ hK h
end
section
variable {P:Program} {cf:gf P} {R:Exit→TS→Prop}
theorem En (ap:cf.n≤1000000) {dQ:nT P} {ops:Array Oper} {K:TS→aG} {Kp:List AV→List (Nat×List AV)→List Blk→Prop} (hK: ∀s (Z:FZ),(K s).den R→ @Fits Z s→Kp (s.tT cf.n) s.bT (@TS.av Z cf.n s).H): ∀(l:List Oper) (Z:FZ) (s:TS),@Fits Z s→(zL cf dQ ops l s K).den R→
  evOps P [] ops (l.map fun o=>(o,true)) (s.tT cf.n) s.bT (@TS.av Z cf.n s).H Kp
 | [],Z,s,aJ,h=>hK s Z h aJ
 | o::r,Z,s,aJ,h=>by
  refine Hy (Z:=Z) ap aJ (fun s' hf e h=> ?_) (fun s' hf e h=> ?_) h
  ·have e1:s'.bT=s.bT:=congrArg St.L e
   rw[←e,←e1]
   exact aaG (Z:=Z) ap (Kp:=fun v L' H'=>evOps P [] ops (r.map fun o=>(o,true)) (putA (s'.tT cf.n) o.dst v) L' H' Kp) hf (fun v s2 Z2 hv hf2 e2=>by
    have:=En ap hK r Z2 _ (@wz Z2 _ ap _ _ _ hf2) hv
    have c0:= @wA Z2 cf.n ap s2 o.dst v
    have eT:(iz cf.n s2 o.dst v).tT cf.n=putA (s2.tT cf.n) o.dst v.bi:=congrArg St.T c0
    have Bx:(iz cf.n s2 o.dst v).bT=s2.bT:=congrArg St.L c0
    rw[eT,Bx,c0] at this
    rw[←e2];exact this) h
  ·have:=En ap hK r Z _ (wz ap hf) h
   have c0:= @wA Z cf.n ap s' o.dst (.tup [])
   have eT:(iz cf.n s' o.dst (.tup [])).tT cf.n=putA (s'.tT cf.n) o.dst (.tup []):=congrArg St.T c0
   have Bx:(iz cf.n s' o.dst (.tup [])).bT=s'.bT:=congrArg St.L c0
   rw[eT,Bx,c0] at this
   have gI:s'.tT cf.n=s.tT cf.n:=congrArg St.T e
   have hM:s'.bT=s.bT:=congrArg St.L e
   rw[gI,hM,e] at this
   exact this
end
section
variable [Z:FZ] {P:Program} {cf:gf P} {R:Exit→TS→Prop}
theorem Hm {ops:Array Oper} {s:TS} {k:aG}: ∀{hN:List Nat},(BU cf ops s hN k).den R→oT P ops hN (s.av cf.n).T (s.av cf.n).L (s.av cf.n).H∧k.den R
 | [],h=>⟨trivial,h⟩
 | i::r,h=>by
  obtain⟨h1,h2,aH⟩:=h
  simp only[Bool.and_eq_true] at h1
  obtain⟨q1,q2⟩:=Hm aH
  refine⟨⟨⟨h1.1,h1.2,?_⟩,q1⟩,q2⟩
  rw[je]
  have:=congrFun (congrFun (congrFun h2 Z) (fT s)) (fun v=>v=pK (opI ops i) (s.av cf.n).T)
  have this:jr P (opI ops i) (fun x=>(b7 cf.n s x).bi) (s.av cf.n).L (s.av cf.n).H (fun v=>v=pK (opI ops i) (s.av cf.n).T)=_:=this
  rw[this]
  unfold pK
  cases(opI ops i).dst with
  | none=>rfl
  | some d=>
   have:=congrFun (je cf.n s) (.tmp d)
   exact this.symm
end
section
variable {P:Program} {cf:gf P} {R:Exit→TS→Prop}
theorem XX (Z:FZ) (ap:cf.n≤1000000) (s:TS) (d:Option Nat) (v:TV):(iz cf.n s d v).tT cf.n=putA (s.tT cf.n) d v.bi∧(iz cf.n s d v).bT=s.bT∧(@TS.av Z cf.n (iz cf.n s d v)).H=(@TS.av Z cf.n s).H:=by
 have c0:= @wA Z cf.n ap s d v
 exact⟨congrArg St.T c0,congrArg St.L c0,by rw[c0]⟩
theorem Mk (ap:cf.n≤1000000) {dQ:nT P} {ops:Array Oper} {K:TS→aG} {Kp:List AV→List (Nat×List AV)→List Blk→Prop} (hK: ∀s (Z:FZ),(K s).den R→ @Fits Z s→Kp (s.tT cf.n) s.bT (@TS.av Z cf.n s).H): ∀(l:List Item) (Z:FZ) (s:TS),@Fits Z s→l.all (·.lit)=true→(qt cf dQ ops l s K).den R→
  ii P [] ops l (s.tT cf.n) s.bT (@TS.av Z cf.n s).H Kp
 | [],Z,s,aJ,_,h=>hK s Z h aJ
 | x::r,Z,s,aJ,aE,h=>by
  simp only[List.all_cons,Bool.and_eq_true] at aE
  show lF ops x.lit (opI ops x.i) _ _ _
  rw[aE.1]
  have next: ∀(s' s2:TS) (Z2:FZ) (v:TV),@Fits Z2 s2→s2.tT cf.n=s'.tT cf.n→(qt cf dQ ops r (iz cf.n s2 (opI ops x.i).dst v) K).den R→ii P [] ops r (putA (s'.tT cf.n) (opI ops x.i).dst v.bi) s2.bT (@TS.av Z2 cf.n s2).H Kp:=fun s' s2 Z2 v hf e hv=>by
   have:=Mk ap hK r Z2 _ (@wz Z2 _ ap _ _ _ hf) aE.2 hv
   obtain⟨q1,q2,q3⟩:=XX (cf:=cf) Z2 ap s2 (opI ops x.i).dst v
   rw[q1,q2,q3] at this
   rw[←e];exact this
  refine Hy (Z:=Z) ap aJ (fun s' hf e h=> ?_) (fun s' hf e h=> ?_) h
  ·have e1:s'.bT=s.bT:=congrArg St.L e
   rw[←e,←e1]
   cases af:x.q with
   | true=>
    rw[af] at h
    show jr P (opI ops x.i) (bR (s'.av cf.n).T) (s'.av cf.n).L (s'.av cf.n).H _
    cases aC:nm (opI ops x.i) with
    | true=>
     rw[aC] at h
     simp only at h
     split at h
     ·rename_i d aY
      obtain⟨h1,h2⟩:=h
      rw[je]
      have:=congrFun (congrFun h1 (s'.av cf.n).H) (fun v=>ii P [] ops r (putA (s'.av cf.n).T (opI ops x.i).dst v) (s'.av cf.n).L (s'.av cf.n).H Kp)
      have this:jr P (opI ops x.i) (fun x=>(b7 cf.n s' x).bi) (s'.av cf.n).L (s'.av cf.n).H (fun v=>ii P [] ops r (putA (s'.av cf.n).T (opI ops x.i).dst v) (s'.av cf.n).L (s'.av cf.n).H Kp)=_:=this
      refine Eq.mpr this ?_
      exact next s' s' Z (.lp d 0) hf rfl h2
     ·exact h.elim
    | false=>
     rw[aC] at h
     rw[sZ aC]
     simp only at h
     split at h
     ·rename_i c a b eO
      have:=Lz (Z:=Z) ap (Kp:=fun v=>ii P [] ops r (putA (s'.av cf.n).T (opI ops x.i).dst v) (s'.av cf.n).L (s'.av cf.n).H Kp) hf (fun v s2 hf2 e2 hv=>by
       have:=next s' s2 Z v hf2 (congrArg St.T e2) hv
       have c0:s2.bT=s'.bT:=congrArg St.L e2
       rw[c0,e2] at this;exact this) h
      unfold h0
      rw[eO];exact this
     ·exact Mb hf (Kp:=fun v=>ii P [] ops r (putA (s'.av cf.n).T (opI ops x.i).dst v) (s'.av cf.n).L (s'.av cf.n).H Kp) (fun v hv=>next s' s' Z v hf rfl hv) h
   | false=>
    rw[af] at h
    simp only at h
    split at h
    ·exact h.elim
    ·exact Of (Z:=Z) ap hf (Kp:=fun v L' H'=>oT P ops x.hN (s'.tT cf.n) L' H'∧ii P [] ops r (putA (s'.tT cf.n) (opI ops x.i).dst v) L' H' Kp) (fun v s2 Z2 hv hf2 e2=>by
      obtain⟨q1,q2⟩:=Hm (Z:=Z2) hv
      have q1:oT P ops x.hN (s2.tT cf.n) s2.bT (@TS.av Z2 cf.n s2).H:=q1
      rw[e2] at q1
      exact⟨q1,next s' s2 Z2 v hf2 e2 q2⟩) h
  ·have:=next s' s' Z (.tup []) hf rfl h
   have gI:s'.tT cf.n=s.tT cf.n:=congrArg St.T e
   have hM:s'.bT=s.bT:=congrArg St.L e
   rw[gI,hM,e] at this
   exact this
end
theorem Bq {ci:List Nat}: ∀(L:List (Nat×List AV)) (t:Nat),ci.contains t=true→dt (lx ci L) t=none
 | [],t,h=>rfl
 | (k,c)::L,t,h=>by
  unfold lx
  split
  ·exact Bq L t h
  ·rename_i hk
   have:t≠k:=fun e=>by subst e;rw[h] at hk;cases hk
   simp only[dt,if_neg this];exact Bq L t h
def BX:Bool→Bool→Bool
 | _,false=>true
 | a,true=>a
theorem Hr {a b:Bool} (h:BX a b=true):b=true→a=true:=fun e=>by subst e;exact h
def jo (a b:AV):Prop:=b=a∨b= .undef∨ ∃rows full fr k1,a= .aR rows full fr∧b= .aR rows false k1∧(k1=true→fr=true)
theorem jo.Mr {w:World} {PA PF:Nat→Prop} {rows:List (List AV)} {full fr k1:Bool} {v:Value} (ai: ∀c,PF c→PA c) (hf:k1=true→fr=true) (h:aQ w PA PF (.aR rows full fr) v):aQ w PA PF (.aR rows false k1) v:=by
 cases h with
 | aR dY ec eN bU dd hrel=>
  refine .aR (fun c hc=> ?_) ec (fun h=>by cases h) bU dd hrel
  have:=dY c hc
  cases k1 with
  | true=>rw[hf rfl] at this;exact this
  | false=>
   cases fr with
   | true=>exact ai c this
   | false=>exact this
theorem jo.v1 {E:Env} {a b:AV} {v:Value} (ai: ∀c,E.PF c→E.PA c) (h:jo a b) (hv:bQ E a v):bQ E b v:=by
 rcases h with rfl | rfl | ⟨rows,full,fr,k1,rfl,rfl,hf⟩
 ·exact hv
 ·exact bQ.undef _ _
 ·exact jo.Mr ai hf hv
theorem jo.v3 {E:Env} {a b:AV} {v:Value} (ai: ∀c,E.PF c→E.PA c) (h:jo a b) (hv:V3 E a v):V3 E b v:=by
 rcases h with rfl | rfl | ⟨rows,full,fr,k1,rfl,rfl,hf⟩
 ·exact hv
 ·exact V3.undef _ _
 ·exact jo.Mr ai hf hv
theorem jo.of {a b:AV} (h:b=a∨b= .undef):jo a b:=h.imp_right .inl
theorem Weak.Zv [b6] {T T':List AV} {L:List (Nat×List AV)} {H:List Blk} (aE:T'.length=T.length) (h: ∀t,jo (T.getD t .undef) (T'.getD t .undef)):Weak ⟨T,L,H⟩ ⟨T',L,H⟩:=fun bY E tmps g s=>
 ⟨E,rfl,g,s.h,s.l,fun t=>(h t).v3 s.h.c4 (s.gO t),by show T'.length=_;rw[aE];exact s.size⟩
theorem Weak.cells [b6] {T:List AV} {L L':List (Nat×List AV)} {H:List Blk} (bH: ∀t cells,dt L t=some cells→ ∃fF,dt L' t=some fF∧fF.length=cells.length∧ ∀(i:Nat) (a:AV),fF[i]?=some a→ ∃b,cells[i]?=some b∧jo b a):Weak ⟨T,L,H⟩ ⟨T,L',H⟩:=fun bY E tmps g s=>
 ⟨E,rfl,g,s.h,fun t c hm=>by
  obtain⟨cells,aw,ty,q1,q2,q3⟩:=s.l t c hm
  obtain⟨fF,c9,dn,fi⟩:=bH t cells q1
  refine⟨fF,aw,ty,c9,q2,by rw[dn];exact q3.1,fun i a v aC hv=> ?_⟩
  obtain⟨b,hb,q⟩:=fi i a aC
  exact q.v1 s.h.c4 (q3.2 i b v hb hv),s.gO,s.size⟩
theorem aa8 [b6] {T T':List AV} {L L':List (Nat×List AV)} {H:List Blk} (aE:T'.length=T.length) (bS: ∀t,jo (T.getD t .undef) (T'.getD t .undef)) (ci:List Nat) (ai:T'.all (mu ci)=true)
  (bH: ∀t cells,ci.contains t=false→dt L t=some cells→ ∃fF,dt L' t=some fF∧fF.length=cells.length∧ ∀(i:Nat) (a:AV),fF[i]?=some a→ ∃b,cells[i]?=some b∧jo b a):Weak ⟨T,L,H⟩ ⟨T',L',H⟩:=by
 refine(Weak.Zv aE bS).trans ((Weak.lx ci ai).trans (Weak.cells fun t cells h=> ?_))
 cases bj:ci.contains t with
 | true=>rw[Bq L t bj] at h;cases h
 | false=>rw[x0 L t bj] at h;exact bH t cells bj h
theorem KT (l:List (Nat×TV)) (k:Nat) (d:TV):(∃v,(k,v)∈l∧fN l k d=v)∨fN l k d=d:=by
 induction l with
 | nil=>exact .inr rfl
 | cons p r bx=>
  obtain⟨a,w⟩:=p
  rw[fW]
  by_cases e:a=k
  ·subst e;exact .inl ⟨w,List.mem_cons_self ..,if_pos rfl⟩
  ·rw[if_neg e]
   rcases bx with⟨v,h1,h2⟩ | h
   ·exact .inl ⟨v,List.mem_cons_of_mem _ h1,h2⟩
   ·exact .inr h
theorem A4 (s:TS) (v:Nat): ∀(c m:Nat),(gq s v c m).length=m
 | _,0=>rfl
 | c,m+1=>by rw[gq,List.length_cons,A4 s v (c+1) m]
theorem xR (s:TS) (v:Nat): ∀(m c i:Nat),(cc (gq s v c m))[i]?=if i<m then some (s.get (kd v (c+i))).bi else none
 | 0,c,i=>by simp[gq,cc]
 | m+1,c,i=>by
  rw[gq,cc]
  cases i with
  | zero=>simp
  | succ i=>
   rw[List.getElem?_cons_succ,xR s v m (c+1) i,show c+1+i=c+(i+1) by omega]
   by_cases h:i<m
   ·rw[if_pos h,if_pos (by omega)]
   ·rw[if_neg h,if_neg (by omega)]
theorem z7 [FZ] (n:Nat) (s:TS):s.av n=⟨(s.av n).T,(s.av n).L,(s.av n).H⟩:=rfl
theorem Oe [b6] [FZ] {n:Nat} {s S:TS} (dJ:hC S=hC s) (bS: ∀t,t<n→jo (s.get t).bi (S.get t).bi) (ci:List Nat) (ai:(S.av n).T.all (mu ci)=true)
  (hv: ∀v m,ci.contains v=false→iU s.vs v=some m→iU S.vs v=some m∧ ∀c,jo (s.get (kd v c)).bi (S.get (kd v c)).bi)
  (hb:S.aW=s.aW) (cS: ∀b,b<s.aW→(S.get (bD b)).dW=(s.get (bD b)).dW):Weak (s.av n) (S.av n):=by
 have ax:(S.av n).H=(s.av n).H:=by
  show S.fj++fT S=s.fj++fT s
  have e2:fT S=fT s:=by unfold fT;rw[dJ]
  rw[e2]
  congr 1
  apply List.ext_getElem?
  intro b
  rw[nG,nG,hb]
  by_cases h:b<s.aW
  ·rw[if_pos h,if_pos h,cS b h]
  ·rw[if_neg h,if_neg h]
 rw[z7 n s,z7 n S,ax]
 refine aa8 (by show((List.range n).map _).length=((List.range n).map _).length;simp) (fun t=> ?_) ci ai fun t cells bj h=> ?_
 ·rw[w0,w0]
  by_cases h:t<n
  ·rw[if_pos h,if_pos h];exact bS t h
  ·rw[if_neg h,if_neg h];exact .inl rfl
 ·rw[sl] at h
  cases hm:iU s.vs t with
  | none=>rw[hm] at h;cases h
  | some m=>
   rw[hm] at h
   cases h
   obtain⟨q1,q2⟩:=hv t m bj hm
   refine⟨cc (gq S t 0 m),by rw[sl,q1];rfl,?_,fun i a aC=> ?_⟩
   ·show(cc _).length=(cc _).length
    rw[lr,lr,List.length_map,List.length_map,A4,A4]
   ·rw[xR] at aC ⊢
    by_cases hi:i<m
    ·rw[if_pos hi] at aC ⊢
     cases aC
     exact⟨_,rfl,q2 (0+i)⟩
    ·rw[if_neg hi] at aC;cases aC
theorem WV (l:List AV):l.all (mu [])=true:=by
 have aM: ∀a,rP [] a=true:=fun a=>by cases a<;>rfl
 have h1: ∀a,qb [] a=true:=fun a=>by
  unfold qb
  split
  ·exact List.all_eq_true.2 fun x _=>aM x
  ·exact aM _
 have h2: ∀a,qc [] a=true:=fun a=>by
  unfold qc
  split
  ·exact List.all_eq_true.2 fun x _=>h1 x
  ·exact h1 _
 have aH: ∀a,mu [] a=true:=fun a=>by
  unfold mu
  split
  ·exact List.all_eq_true.2 fun x _=>h2 x
  ·exact h2 _
 exact List.all_eq_true.2 fun x _=>aH x
theorem Fits.le [FZ] {s S:TS} (h:s.fx S) (f:Fits s):Fits S:=f.congr fun k h1 h2=>(h.get k).resolve_right fun q=>by
 rcases q with q | q
 ·have:=q.1;omega
 ·have:=q.1;omega
theorem aa9 [b6] [FZ] {n:Nat} (ap:n≤1000000) {s S:TS} (h:s.fx S):Weak (s.av n) (S.av n):=by
 have Ge: ∀k,¬k<1000000→S.get k=s.get k∨(1000010≤k∧FT (s.get k) (S.get k)):=fun k hk=>(h.get k).imp_right fun q=>q.resolve_left fun q=>hk q.1
 have vt: ∀k,¬k<1000000→(S.get k).bi=(s.get k).bi∧(S.get k).dW=(s.get k).dW:=fun k hk=>by
  rcases Ge k hk with e | ⟨_,g,c,b_,aT,e2,c0⟩
  ·rw[e];exact⟨rfl,rfl⟩
  ·rw[aT,e2]
   refine⟨rfl,?_⟩
   show Blk.mk g b_.length [cc b_]=Blk.mk g c.length [cc c]
   have aE:b_.length=c.length:=by have:=congrArg List.length c0;rwa [lr,lr,List.length_map,List.length_map] at this
   rw[c0,aE]
 have aJ:S.get cT=s.get cT:=(Ge cT (by unfold cT;omega)).resolve_right fun q=>by have:=q.1;unfold cT at this;omega
 refine Oe (zf aJ) (fun t bj=> ?_) [] (WV _) (fun v m _ hm=>⟨by rw[h.vs];exact hm,fun c=> .inl (vt _ (by unfold kd;omega)).1⟩) h.aW fun b _=>(vt _ (by unfold bD;omega)).2
 rcases h.get t with e | ⟨_,e⟩ | ⟨e,_⟩
 ·exact .inl (by rw[e])
 ·exact .of e
 ·omega
inductive j1:Type 1 where
 | nil
 | sO (a b:j1)
 | lp (jG:List (Nat×Nat×aX)) (dj:List Nat) (iu:List (Nat×Nat)) (iJ:List aX) (rd:List Nat) (hr:cq iJ→List (Nat×TV)) (I:cq iJ→Prop) (m:cq iJ→Nat) (b:cq iJ→j1)
def j1.fst:j1→j1
 | .sO a _=>a
 | a=>a
def j1.snd:j1→j1
 | .sO _ b=>b
 | a=>a
def AL:(iJ:List aX)→(cq iJ→aG)→aG
 | [],F=>F ()
 | e::r,F=> .all e.T fun x=>AL r fun y=>F (x,y)
theorem F1 {R:Exit→TS→Prop}: ∀{iJ:List aX} {F:cq iJ→aG},(AL iJ F).den R→ ∀v,(F v).den R
 | [],F,h,()=>h
 | e::r,F,h,(x,y)=>F1 (h x) y
def Eg:(e:aX)→TV→(e.T→aG)→aG
 | .int,v,K=>(match v with
  | .i _ m=>K m
  | _=> .no)
 | .u64,v,K=>(match v with
  | .i _ m=>K m
  | _=> .no)
 | .bool,v,K=>(match v with
  | .b x=>K x.den
  | _=> .no)
 | .str,v,K=>(match v with
  | .s x=>K x
  | _=> .no)
 | .nat,v,K=>(match v with
  | .blk g _ _ _ _=>K g
  | _=> .no)
 | .fG,v,K=>(match v with
  | .ev _ c=>K (aX.mk .fG (m1 aX.fG.cm c))
  | _=> .no)
 | .l e,v,K=>(match v with
  | .l b1 xs _ _=>if h:b1=e then K (jL h xs) else .no
  | .blk _ b1 xs _ _=>if h:b1=e then K (jL h xs) else .no
  | .nil _ _=>K []
  | _=> .no)
 | _,_,_=> .no
def zG (s:TS):(iJ:List aX)→List Nat→(cq iJ→aG)→aG
 | [],_,K=>K ()
 | e::r,k::y2,K=>Eg e (s.get k) fun x=>zG s r y2 fun y=>K (x,y)
 | _,_,_=> .no
theorem Yn {R:Exit→TS→Prop} {e:aX} {v:TV} {K:e.T→aG} (h:(Eg e v K).den R): ∃x,(K x).den R:=by
 cases e with
 | int=>
  have h:(match v with
   | .i _ m=>K m
   | _=>aG.no).den R:=h
  split at h
  ·exact⟨_,h⟩
  ·exact h.elim
 | u64=>
  have h:(match v with
   | .i _ m=>K m
   | _=>aG.no).den R:=h
  split at h
  ·exact⟨_,h⟩
  ·exact h.elim
 | bool=>
  have h:(match v with
   | .b x=>K x.den
   | _=>aG.no).den R:=h
  split at h
  ·exact⟨_,h⟩
  ·exact h.elim
 | str=>
  have h:(match v with
   | .s x=>K x
   | _=>aG.no).den R:=h
  split at h
  ·exact⟨_,h⟩
  ·exact h.elim
 | nat=>
  have h:(match v with
   | .blk g _ _ _ _=>K g
   | _=>aG.no).den R:=h
  split at h
  ·exact⟨_,h⟩
  ·exact h.elim
 | fG=>
  have h:(match v with
   | .ev _ c=>K (aX.mk .fG (m1 aX.fG.cm c))
   | _=>aG.no).den R:=h
  split at h
  ·exact⟨_,h⟩
  ·exact h.elim
 | l e=>
  have h:(match v with
   | .l b1 xs _ _=>if h:b1=e then K (jL h xs) else aG.no
   | .blk _ b1 xs _ _=>if h:b1=e then K (jL h xs) else aG.no
   | .nil _ _=>K []
   | _=>aG.no).den R:=h
  split at h
  ·split at h
   ·exact⟨_,h⟩
   ·exact h.elim
  ·split at h
   ·exact⟨_,h⟩
   ·exact h.elim
  ·exact⟨_,h⟩
  ·exact h.elim
 | _=>exact h.elim
theorem Eh {R:Exit→TS→Prop} {s:TS}: ∀{iJ:List aX} {y2:List Nat} {K:cq iJ→aG},(zG s iJ y2 K).den R→ ∃v,(K v).den R
 | [],_,K,h=>⟨(),h⟩
 | e::r,k::y2,K,h=>by
  obtain⟨x,h⟩:=Yn (show(Eg e (s.get k) _).den R from h)
  obtain⟨y,h⟩:=Eh h
  exact⟨(x,y),h⟩
 | e::r,[],K,h=>h.elim
def A9 (s:TS) (k:Nat) (w:TV) (t:aG):aG:=match w with
 | .ref b g m f=>(match s.get k with
  | .ref bI cL ej yb=>(match s.get (bD b) with
   | .blk _ _ xs K6 _=> .eq bI b (.eq yb f (.eq cL g (.eq ej K6 (.eq m xs.length t))))
   | _=> .no)
  | _=> .no)
 | .blk g e xs _ _=>(match s.get k with
  | .blk cL b1 su _ _=>if h:b1=e then .eq cL g (.eq (jL h su) xs t) else .no
  | _=> .no)
 | .b y=>(match s.get k with
  | .b x=> .eq x.den y.den t
  | _=> .no)
 | .ev g c=>(match s.get k with
  | .ev cL b_=> .eq cL g (.eq (cc b_) (cc c) (.eq b_.length c.length t))
  | _=> .no)
 | .l e xs cW fr=>(match cW with
  | true=> .eq (s.get k) (.l e xs true fr) t
  | false=>match s.get k with
   | .l b1 su _ k1=>if h:b1=e then .eq (BX k1 fr) true (.eq (jL h su) xs t) else .no
   | .nil _ k1=> .eq (BX k1 fr) true (.eq [] xs t)
   | _=> .no)
 | w=> .eq (s.get k) w t
def yZ:TV→Bool
 | .blk _ _ _ _ _=>true
 | .ev _ _=>true
 | .iE _ _ _=>true
 | _=>false
def Dl:TV→Bool
 | .fH _ _ _ _=>true
 | .new _ _=>true
 | _=>false
theorem PW [FZ] {R:Exit→TS→Prop} {s:TS} {k:Nat} {w:TV} {t:aG} (h:(A9 s k w t).den R):(jo (s.get k).bi w.bi∧(yZ w=true→w.dW=(s.get k).dW)∧(Dl w=true→s.get k=w))∧t.den R:=by
 unfold A9 at h
 split at h
 ·split at h
  ·rename_i bI cL ej yb hk
   split at h
   ·rename_i g0 dx xs K6 aE hb
    obtain⟨h1,h2,aH,bn,cX,eG⟩:=h
    subst h1;subst h2;subst aH;subst bn;subst cX
    refine⟨⟨.inl ?_,(fun q=>by cases q),fun q=>by cases q⟩,eG⟩
    rw[hk,aE]
   ·exact h.elim
  ·exact h.elim
 ·split at h
  ·rename_i cL b1 su ej yG hk
   split at h
   ·rename_i he
    subst he
    obtain⟨h1,h2,aH⟩:=h
    subst h1
    have h2:su=_:=h2
    subst h2
    refine⟨⟨.inl ?_,fun _=> ?_,fun q=>by cases q⟩,aH⟩<;>rw[hk]<;>rfl
   ·exact h.elim
  ·exact h.elim
 ·split at h
  ·rename_i y _ x hk
   obtain⟨h1,h2⟩:=h
   refine⟨⟨.inl ?_,(fun q=>by cases q),fun q=>by cases q⟩,h2⟩
   rw[hk];show AV.bool y.den= .bool x.den;rw[h1]
  ·exact h.elim
 ·split at h
  ·rename_i cL b_ hk
   obtain⟨h1,h2,aH,bn⟩:=h
   refine⟨⟨.inl (by rw[hk];rfl),fun _=> ?_,fun q=>by cases q⟩,bn⟩
   rw[hk]
   show(⟨_,_,_⟩:Blk)=⟨_,_,_⟩
   rw[h1,h2,aH]
  ·exact h.elim
 ·split at h
  ·obtain⟨h1,h2⟩:=h
   exact⟨⟨.inl (by rw[h1]),(fun _=>by rw[h1]),fun _=>h1⟩,h2⟩
  ·split at h
   ·rename_i b1 su Rx k1 hk
    split at h
    ·rename_i he
     subst he
     obtain⟨h1,h2,aH⟩:=h
     have h2:su=_:=h2
     subst h2
     exact⟨⟨.inr (.inr ⟨_,_,_,_,by rw[hk];rfl,rfl,Hr h1⟩),(fun q=>by cases q),fun q=>by cases q⟩,aH⟩
    ·exact h.elim
   ·rename_i Rx k1 hk
    obtain⟨h1,h2,aH⟩:=h
    subst h2
    exact⟨⟨.inr (.inr ⟨[],_,_,_,by rw[hk];rfl,rfl,Hr h1⟩),(fun q=>by cases q),fun q=>by cases q⟩,aH⟩
   ·exact h.elim
 ·obtain⟨h1,h2⟩:=h
  exact⟨⟨.inl (by rw[h1]),(fun _=>by rw[h1]),fun _=>h1⟩,h2⟩
def A_ (s:TS):List (Nat×TV)→aG→aG
 | [],t=>t
 | (k,w)::r,t=>A9 s k w (A_ s r t)
theorem GA [FZ] {R:Exit→TS→Prop} {s:TS} {t:aG}: ∀{l:List (Nat×TV)},(A_ s l t).den R→(∀k w,(k,w)∈l→jo (s.get k).bi w.bi∧(yZ w=true→w.dW=(s.get k).dW)∧(Dl w=true→s.get k=w))∧t.den R
 | [],h=>⟨(fun k w h=>by cases h),h⟩
 | (k,w)::r,h=>by
  obtain⟨h1,h2⟩:=PW h
  obtain⟨aH,bn⟩:=GA h2
  refine⟨fun iR w' hm=> ?_,bn⟩
  rcases List.mem_cons.1 hm with e | hm
  ·cases e;exact h1
  ·exact aH iR w' hm
def z_ (vs:List (Nat×Nat)):List (Nat×Nat)→Bool
 | []=>true
 | (v,m)::r=>(match iU vs v with
  | some ej=>Nat.beq m ej
  | none=>false)&&z_ vs r
def xA (s:TS):Nat→Bool
 | 0=>true
 | b+1=>yZ (s.get (bD b))&&xA s b
def sV (iu:List (Nat×Nat)):List (Nat×Nat)→List Nat
 | []=>[]
 | (v,_)::r=>match(iU iu v).isSome with
  | true=>sV iu r
  | false=>v::sV iu r
def Co (s S:TS) (t:aG):aG:=
 .eq (z_ s.vs S.vs) true (.eq (Nat.beq S.aW s.aW) true (.eq (xA S s.aW) true (.eq (S.T.all fun p=>mu (sV S.vs s.vs) p.2.bi) true (.eq (hC S) (hC s) (A_ s S.T t)))))
theorem DG: ∀{l:List (Nat×Nat)} {v m:Nat},iU l v=some m→(v,m)∈l
 | [],_,_,h=>by cases h
 | (k,ej)::r,v,m,h=>by
  unfold iU at h
  split at h
  ·rename_i hk;cases h;rw[Nat.eq_of_beq_eq_true hk];exact List.mem_cons_self ..
  ·exact List.mem_cons_of_mem _ (DG h)
theorem Br {iu:List (Nat×Nat)}: ∀{l:List (Nat×Nat)} {v m:Nat},(sV iu l).contains v=false→(v,m)∈l→(iU iu v).isSome=true
 | [],_,_,_,h=>by cases h
 | (k,ej)::r,v,m,aY,h=>by
  unfold sV at aY
  split at aY
  ·rename_i hk
   rcases List.mem_cons.1 h with e | h
   ·cases e;exact hk
   ·exact Br aY h
  ·rename_i hk
   simp only[List.contains_cons,Bool.or_eq_false_iff] at aY
   rcases List.mem_cons.1 h with e | h
   ·cases e;simp at aY
   ·exact Br aY.2 h
theorem NS {vs:List (Nat×Nat)}: ∀{l:List (Nat×Nat)},z_ vs l=true→ ∀v m,(v,m)∈l→iU vs v=some m
 | [],_,_,_,h=>by cases h
 | (k,ej)::r,hs,v,m,h=>by
  simp only[z_,Bool.and_eq_true] at hs
  rcases List.mem_cons.1 h with e | h
  ·cases e
   have h1:=hs.1
   split at h1
   ·rename_i bA hm;rw[hm,Nat.eq_of_beq_eq_true h1]
   ·cases h1
  ·exact NS hs.2 v m h
theorem F0 {s:TS}: ∀{n:Nat},xA s n=true→ ∀b,b<n→yZ (s.get (bD b))=true
 | 0,_,b,h=>by omega
 | n+1,hs,b,h=>by
  simp only[xA,Bool.and_eq_true] at hs
  rcases Nat.lt_or_ge b n with q | q
  ·exact F0 hs.2 b q
  ·have:b=n:=by omega
   subst this;exact hs.1
theorem H2 [b6] [FZ] {n:Nat} {s S:TS} {t:aG} {R:Exit→TS→Prop} (cS:S.B=[]) (aJ:Fits s) (h:(Co s S t).den R):Weak (s.av n) (S.av n)∧Fits S∧t.den R:=by
 obtain⟨h1,h2,aH,bn,dJ,cX⟩:=h
 obtain⟨eG,kt⟩:=GA cX
 have tk:=Nat.eq_of_beq_eq_true h2
 have fM: ∀k,(∃v,(k,v)∈S.T∧S.get k=v)∨S.get k= .u:=fun k=>by
  unfold TS.get;rw[cS];exact KT ..
 have HW: ∀k,jo (s.get k).bi (S.get k).bi:=fun k=>by
  rcases fM k with⟨v,hm,e⟩ | e
  ·rw[e];exact(eG k v hm).1
  ·rw[e];exact .inr (.inl rfl)
 have tr: ∀k,Dl (S.get k)=true→s.get k=S.get k:=fun k hk=>by
  rcases fM k with⟨v,hm,e⟩ | e
  ·rw[e] at hk ⊢;exact(eG k v hm).2.2 hk
  ·rw[e] at hk;cases hk
 have R5:Fits S:=fun V ids jw h' j6=>by
  have e:=tr cT (by rw[j6];rfl)
  obtain⟨q1,q2,q3⟩:=aJ V ids jw h' (by rw[e,j6])
  exact⟨q1,q2,fun id xs jO=>q3 id xs (by rw[tr eX (by rw[jO];rfl),jO])⟩
 refine⟨Oe dJ (fun t _=>HW t) (sV S.vs s.vs) ?_ (fun v m aY hm=> ?_) tk (fun b hb=> ?_),R5,kt⟩
 ·rw[List.all_eq_true]
  intro a aC
  obtain⟨k,_,rfl⟩:=List.mem_map.1 (show a∈(List.range n).map fun t=>(S.get t).bi from aC)
  rcases fM k with⟨v,hm,e⟩ | e
  ·rw[e];exact List.all_eq_true.1 bn (k,v) hm
  ·rw[e];rfl
 ·have hs:=Br aY (DG hm)
  cases af:iU S.vs v with
  | none=>rw[af] at hs;cases hs
  | some ej=>
   have:=NS h1 v ej (DG af)
   rw[hm] at this
   cases this
   exact⟨rfl,fun c=>HW _⟩
 ·have hi:=F0 aH b hb
  rcases fM (bD b) with⟨v,hm,e⟩ | e
  ·rw[e] at hi ⊢;exact(eG _ v hm).2.1 hi
  ·rw[e] at hi;cases hi
def x_ (s:TS):Nat→Nat→List (Nat×TV)
 | _,0=>[]
 | b,k+1=>(bD b,s.get (bD b))::x_ s (b+1) k
def ko (s S:TS):TS:=⟨S.T++x_ s S.aW (s.aW - S.aW),[],S.vs,s.aW⟩
def L8 (n:Nat):TV→Bool
 | .ev _ c=>(cc c).all (nB n)
 | .iE _ _ _=>false
 | _=>true
def GI (h8:Option Nat) (S:TS) (m:Nat):Bool:=match h8 with
 | some k=>Nat.ble k S.aW&&Nat.ble S.aW m&&hC S&&S.T.all fun p=>ud S.aW p.2.bi&&L8 S.aW p.2
 | none=>false
def toHead (h8:Option Nat) (s S:TS) (t:aG):aG:=match Nat.beq S.aW s.aW with
 | true=>Co s S t
 | false=>Co s (ko s S) (.eq (ko s S).bT S.bT (.eq (GI h8 S s.aW) true t))
theorem G9 (s:TS): ∀(k b:Nat) (j:Nat),(j<bD b)→ ∀v,(j,v) ∉ x_ s b k
 | 0,b,j,h,v,hm=>by cases hm
 | k+1,b,j,h,v,hm=>by
  rcases List.mem_cons.1 hm with e | hm
  ·cases e;exact absurd h (Nat.lt_irrefl _)
  ·exact G9 s k (b+1) j (by unfold bD at h ⊢;omega) v hm
theorem aba {s S:TS} (cS:S.B=[]) {j:Nat} (h:j<bD S.aW):(ko s S).get j=S.get j:=by
 show fN (S.T++x_ s S.aW (s.aW - S.aW)) j (fN [] j .u)=fN S.T j (fN S.B j .u)
 rw[rO,cS,qa (G9 s _ _ j h)]
theorem Qu {n:Nat} (fr:Bool) (e:aX) (x:e.T):(b4 fr e x).all (nB n)=true:=by cases e<;>rfl
theorem Yz {n:Nat} {a:AV} (h:ud n a=true):nB n a=true:=by cases a<;>first | exact h | rfl
theorem toHead_sound [hp:b6] [FZ] {n:Nat} (ap:n≤1000000) {h8:Option Nat} (fo: ∀k,h8=some k→hp.n≤k) {s S:TS} {t:aG} {R:Exit→TS→Prop} (cS:S.B=[]) (aJ:Fits s) (h:(toHead h8 s S t).den R):Weak (s.av n) (S.av n)∧Fits S∧t.den R:=by
 unfold toHead at h
 split at h
 ·exact H2 cS aJ h
 ·obtain⟨w,hf,e1,h1,h2⟩:=H2 (n:=n) (S:=ko s S) rfl aJ h
  unfold GI at h1
  split at h1
  ·rename_i k
   simp only[Bool.and_eq_true] at h1
   obtain⟨⟨⟨q1,q2⟩,q3⟩,q4⟩:=h1
   have q1:=Nat.le_of_ble_eq_true q1
   have q2:=Nat.le_of_ble_eq_true q2
   have aL: ∀j,j<bD S.aW→(ko s S).get j=S.get j:=fun j h=>aba cS h
   have yE: ∀b,b<S.aW→bD b<bD S.aW:=fun b h=>by unfold bD;omega
   have Tv:cT<bD S.aW:=by unfold cT bD;omega
   have SP:hC (ko s S)=true:=by rw[zf (aL cT Tv)];exact q3
   have eT:(ko s S).tT n=S.tT n:=List.map_congr_left fun t bj=>by rw[aL t (by have:=List.mem_range.1 bj;unfold bD;omega)]
   have fM: ∀k,(∃v,(k,v)∈S.T∧S.get k=v)∨S.get k= .u:=fun k=>by
    unfold TS.get;rw[cS];exact KT ..
   have CJ: ∀k,ud S.aW (S.get k).bi=true∧L8 S.aW (S.get k)=true:=fun k=>by
    rcases fM k with⟨v,hm,e⟩ | e
    ·have:=List.all_eq_true.1 q4 _ hm
     rw[Bool.and_eq_true] at this
     rw[e];exact this
    ·rw[e];exact⟨rfl,rfl⟩
   have ax: ∀b,((ko s S).av n).H[b]?=if b<s.aW then some ((ko s S).get (bD b)).dW else none:=fun b=>by
    show((ko s S).fj++fT (ko s S))[b]?=_
    have:fT (ko s S)=[]:=by unfold fT;rw[SP]
    rw[this,List.append_nil,nG];rfl
   have GL:=Weak.cut (T:=S.tT n) (L:=S.bT) (H:=((ko s S).av n).H) S.aW (Nat.le_trans (fo k rfl) q1) (fun t=> ?_) (fun t cells hc=> ?_) (fun b blk hb vt row aq=> ?_)
   ·have aT:(ko s S).av n=⟨S.tT n,S.bT,((ko s S).av n).H⟩:=by rw[←eT,←e1];rfl
    have e2:(⟨S.tT n,S.bT,((ko s S).av n).H.take S.aW⟩:St)=S.av n:=by
     show _=(⟨S.tT n,S.bT,S.fj++fT S⟩:St)
     have:fT S=[]:=by unfold fT;rw[q3]
     rw[this,List.append_nil]
     congr 1
     apply List.ext_getElem?
     intro b
     rw[List.getElem?_take,ax,nG]
     by_cases hb:b<S.aW
     ·rw[if_pos hb,if_pos (by omega),if_pos hb,aL _ (yE b hb)]
     ·rw[if_neg hb,if_neg hb]
    rw[aT] at w
    rw[e2] at GL
    exact⟨w.trans GL,hf.congr fun k h1 h2=>(aL k (by unfold bD;omega)).symm,h2⟩
   ·have:=w0 (n:=n) (s:=S) t
    have this:(S.tT n).getD t .undef=_:=this
    rw[this]
    split
    ·exact(CJ t).1
    ·rfl
   ·have:=sl (n:=n) (s:=S) t
    have this:dt S.bT t=_:=this
    rw[this] at hc
    cases hm:iU S.vs t with
    | none=>rw[hm] at hc;cases hc
    | some m=>
     rw[hm] at hc
     cases hc
     rw[List.all_eq_true]
     intro a aC
     obtain⟨i,hi⟩:=List.mem_iff_getElem?.1 aC
     rw[xR] at hi
     split at hi
     ·cases hi;exact Yz (CJ _).1
     ·cases hi
   ·rw[ax,if_pos (by omega),aL _ (yE b hb)] at vt
    cases vt
    have af:=(CJ (bD b)).2
    revert aq af
    cases S.get (bD b) with
    | blk g e xs m h=>
     intro aq _
     obtain⟨x,_,rfl⟩:=List.mem_map.1 (show row∈xs.map (b4 true e) from aq)
     exact Qu true e x
    | ev g c=>
     intro aq af
     rw[List.mem_singleton.1 (show row∈[cc c] from aq)];exact af
    | iE g m ids=>intro _ af;cases af
    | _=>intro aq _;cases aq
  ·cases h1
def sH (n:Nat):List (Nat×Nat×aX)→TS→(TS→aG)→aG
 | [],s,K=>K s
 | p::r,s,K=>
  let s1:=s.fE s.aW (s.aW+1) (.blk 0 p.2.2 [] 0 rfl)
  match p.1 with
  | 0=> .eq (o_ (b7 n s (.tmp p.2.1)).bi) true (.eq s1.bT s.bT (.eq (hC s) true (sH n r (iz n s1 (some p.2.1) (.ref s.aW 0 0 false)) K)))
  | v+1=>
   let s2:=s1.add [(kd v p.2.1,.ref s.aW 0 0 false)] s1.vs s1.aW
   match iU s.vs v with
   | some m=> .eq (o_ ((cc (gq s v 0 m)).getD p.2.1 .undef)) true (.eq s2.bT (jj s.bT v ((cc (gq s v 0 m)).set p.2.1 (.ref s.aW 0 0 0 false))) (.eq (mR [(kd v p.2.1,.ref s.aW 0 0 false)]) true (.eq (hC s) true (sH n r s2 K))))
   | none=> .no
theorem xz [b6] [FZ] {n:Nat} (ap:n≤1000000) {R:Exit→TS→Prop} {K:TS→aG}: ∀{l:List (Nat×Nat×aX)} {s:TS},Fits s→(sH n l s K).den R→ ∃s',Weak (s.av n) (s'.av n)∧Fits s'∧(K s').den R
 | [],s,aJ,h=>⟨s,.refl _,aJ,h⟩
 | (p,q,e)::r,s,aJ,h=>by
  unfold sH at h
  simp only at h
  split at h
  ·obtain⟨h1,h2,dJ,h⟩:=h
   obtain⟨s',w,hf,h⟩:=xz ap (wz ap (n0 aJ)) h
   refine⟨s',Weak.trans ?_ w,hf,h⟩
   have bS:(b7 n s (.tmp q)).bi=(s.av n).T.getD q .undef:=(congrFun (je n s) (.tmp q)).symm
   rw[bS] at h1
   have:=Weak.OS q e.jW (L:=(s.av n).L) (H:=(s.av n).H) h1
   rw[wA ap]
   show Weak _ ⟨putA ((s.fE s.aW (s.aW+1) _).tT n) _ _,(s.fE s.aW (s.aW+1) _).bT,((s.fE s.aW (s.aW+1) _).av n).H⟩
   rw[nZ ap,h2,xK dJ]
   rw[z8 dJ] at this
   exact this
  ·rename_i v
   split at h
   ·rename_i m hm
    obtain⟨h1,h2,cS,dJ,h⟩:=h
    obtain⟨s',w,hf,h⟩:=xz ap (uU cS (n0 aJ)) h
    refine⟨s',Weak.trans ?_ w,hf,h⟩
    have:=Weak.AK v q e.jW (T:=(s.av n).T) (H:=(s.av n).H) (show dt (s.av n).L v=some (cc (gq s v 0 m)) by rw[sl,hm];rfl) h1
    rw[z8 dJ] at this
    show Weak _ ⟨(TS.add _ _ _ _).tT n,(TS.add _ _ _ _).bT,((TS.add _ _ _ _).av n).H⟩
    rw[h2,uT ap cS,nZ ap]
    have c0:=uS (n:=n) (s:=s.fE s.aW (s.aW+1) (.blk 0 e [] 0 rfl)) (vs:=(s.fE s.aW (s.aW+1) (.blk 0 e [] 0 rfl)).vs) cS
    rw[c0,xK dJ]
    exact this
   ·exact h.elim
theorem Qt {e:aX} (h:e.my=true) (x:e.T): ∀a∈b4 true e x,hJ a=true∧lE a=true:=by
 have key:(b4 true e x).all (fun a=>hJ a&&lE a)=true:=by cases e<;>first | rfl | cases h
 intro a aC
 have:=List.all_eq_true.1 key a aC
 rwa [Bool.and_eq_true] at this
theorem aaW (e:aX) (x:e.T):(b4 true e x).map hF=b4 false e x:=by
 rw[←ly,←ly]
 have key: ∀(es:List aX) (y:cq es),(ha true es y).map hF=ha false es y:=by
  intro es
  induction es with
  | nil=>intro y;rfl
  | cons e r bx=>
   intro y
   show hF (ig true e y.1)::(ha true r y.2).map hF=_
   rw[bx,ha]
   congr 1
   cases e<;>rfl
 exact key _ _
def ve (h8:Option Nat) (n:Nat):List (Nat×Nat)→TS→(TS→aG)→aG
 | [],s,K=>K s
 | p::r,s,K=>match s.get (match p.1 with
   | 0=>p.2
   | v+1=>kd v p.2) with
  | .ref b g m _=>(match h8 with
   | some k=>(match Nat.ble k b with
    | true=>oP s b g fun e xs ej h=>
     let s1:=s.fE b s.aW (.blk (g+1) e [] 0 rfl)
     match p.1 with
     | 0=> .eq (Nat.blt p.2 n) true (.eq ej m (.eq e.my true (.eq s1.bT s.bT (.p (xs.length≤4611686018427387904) (ve h8 n r (iz n s1 (some p.2) (.l e xs false true)) K)))))
     | v+1=>
      let s2:=s1.add [(kd v p.2,.l e xs false true)] s1.vs s1.aW
      match iU s.vs v with
      | some gj=> .eq (Nat.blt p.2 gj&&mR [(kd v p.2,TV.l e xs false true)]) true (.eq ej m (.eq e.my true (.eq s2.bT (jj s.bT v ((cc (gq s v 0 gj)).set p.2 (TV.l e xs false true).bi)) (.p (xs.length≤4611686018427387904) (ve h8 n r s2 K)))))
      | none=> .no
    | false=> .no)
   | none=> .no)
  | _=> .no
theorem B0 [hp:b6] [FZ] {n:Nat} (ap:n≤1000000) {h8:Option Nat} (fo: ∀k,h8=some k→hp.n≤k) {R:Exit→TS→Prop} {K:TS→aG}: ∀{l:List (Nat×Nat)} {s:TS},Fits s→(ve h8 n l s K).den R→ ∃s',Weak (s.av n) (s'.av n)∧Fits s'∧(K s').den R
 | [],s,aJ,h=>⟨s,.refl _,aJ,h⟩
 | (p,q)::r,s,aJ,h=>by
  unfold ve at h
  simp only at h
  split at h
  ·rename_i b g m cW mm
   split at h
   ·rename_i k
    split at h
    ·rename_i yE
     have HR:=Nat.le_trans (fo k rfl) (Nat.le_of_ble_eq_true yE)
     obtain⟨e,xs,ej,hm,h,hb,ax⟩:=sL (n:=n) h
     have fb: ∀row∈xs.map (b4 true e),e.my=true→ ∀a∈row,hJ a=true∧lE a=true:=fun row aq aD a aC=>by
      obtain⟨x,_,rfl⟩:=List.mem_map.1 aq
      exact Qt aD x a aC
     have oh:(xs.map (b4 true e)).map (fun row=>row.map hF)=xs.map (b4 false e):=by
      rw[List.map_map];exact List.map_congr_left fun x _=>aaW e x
     cases p with
     | zero=>
      obtain⟨aM,h1,h2,aH,bn,h⟩:=h
      replace mm:s.get q= .ref b g m cW:=mm
      obtain⟨s',w,hf,h⟩:=B0 ap fo (wz ap (n0 aJ)) h
      refine⟨s',Weak.trans ?_ w,hf,h⟩
      have af:q<n:=by rw[Nat.blt_eq] at aM;exact aM
      have bS:(s.av n).T.getD q .undef= .ref b g 0 m cW:=by
       rw[w0,if_pos af,mm];rfl
      have:=Weak.Rw q (L:=(s.av n).L) bS (by rw[List.length_map,←h1];exact hm.symm) ax HR (fun row aq a aC=>fb row aq h2 a aC) (by rw[List.length_map];exact bn)
      rw[oh] at this
      rw[wA ap]
      show Weak _ ⟨putA ((s.fE b s.aW _).tT n) _ _,(s.fE b s.aW _).bT,((s.fE b s.aW _).av n).H⟩
      rw[nZ ap,aH,sK hb]
      exact this
     | succ v=>
      replace mm:s.get (kd v q)= .ref b g m cW:=mm
      simp only at h
      split at h
      ·rename_i gj o0
       obtain⟨aM,h1,h2,aH,bn,h⟩:=h
       rw[Bool.and_eq_true,Nat.blt_eq] at aM
       obtain⟨s',w,hf,h⟩:=B0 ap fo (uU aM.2 (n0 aJ)) h
       refine⟨s',Weak.trans ?_ w,hf,h⟩
       have hc:dt (s.av n).L v=some (cc (gq s v 0 gj)):=by rw[sl,o0];rfl
       have bS:(cc (gq s v 0 gj)).getD q .undef= .ref b g 0 m cW:=by
        rw[List.getD_eq_getElem?_getD,xR,if_pos aM.1,Nat.zero_add,mm];rfl
       have:=Weak.Rv v q (T:=(s.av n).T) hc bS (by rw[List.length_map,←h1];exact hm.symm) ax HR (fun row aq a aC=>fb row aq h2 a aC) (by rw[List.length_map];exact bn)
       rw[oh] at this
       show Weak _ ⟨(TS.add _ _ _ _).tT n,(TS.add _ _ _ _).bT,((TS.add _ _ _ _).av n).H⟩
       have c0:=uS (n:=n) (s:=s.fE b s.aW (.blk (g+1) e [] 0 rfl)) (vs:=(s.fE b s.aW (.blk (g+1) e [] 0 rfl)).vs) aM.2
       rw[aH,uT ap aM.2,nZ ap,c0,sK hb]
       exact this
      ·exact h.elim
    ·exact h.elim
   ·exact h.elim
  ·exact h.elim
def Js (k:Nat):List (Nat×TV)→Bool
 | []=>false
 | p::r=>match Nat.beq p.1 k with
  | true=>true
  | false=>Js k r
def Dr (s:TS) (hr:List (Nat×TV)):List Nat→List (Nat×TV)
 | []=>[]
 | k::r=>match Js k hr with
  | true=>Dr s hr r
  | false=>(k,s.get k)::Dr s hr r
def Ob (v:Nat):Nat→Nat→List Nat
 | _,0=>[]
 | c,m+1=>kd v c::Ob v (c+1) m
def JA:List (Nat×Nat)→List Nat
 | []=>[]
 | p::r=>Ob p.1 0 p.2++JA r
def Gl:Nat→List Nat
 | 0=>[]
 | b+1=>bD b::Gl b
def dz (dj:List Nat) (iu:List (Nat×Nat)) (k:Nat) (I:Int→Prop) (m:Int→Nat) (b:Int→j1):j1:= .lp [] dj iu [.int] [k] (fun v=>[(k,.i .i64 v.1)]) (fun v=>I v.1) (fun v=>m v.1) fun v=>b v.1
def aG.ya:aG→Bool
 | .iS ex _=>(match ex with
  | .normal=>false
  | _=>true)
 | .gm | .no | .all _ _=>false
 | .p _ t | .h5 _ t | .eq _ _ t=>t.ya
 | .hg _ _ x y | .two x y | .gi x _ _ y=>(match x.ya with
  | true=>true
  | false=>y.ya)
def rb:Code→Bool
 | .loop _=>true
 | .seq x y=>rb x || rb y
 | .cond _ x y=>rb x || rb y
 | .block _ x=>rb x
 | .scope x=>rb x
 | _=>false
def BF (hV:List (List (Nat×TV)×List (Nat×TV))) (t:aG):aG:=match hV with
 | []=>t
 | p::r=> .eq p.1 p.2 (BF r t)
theorem GY {R:Exit→TS→Prop} {t:aG}: ∀{hV:List (List (Nat×TV)×List (Nat×TV))},(BF hV t).den R→(∀p∈hV,p.1=p.2)∧t.den R
 | [],h=>⟨(fun p h=>by cases h),h⟩
 | p::r,h=>by
  obtain⟨h1,h2⟩:=h
  obtain⟨aH,bn⟩:=GY h2
  exact⟨fun q af=>by
   rcases List.mem_cons.1 af with rfl | af
   ·exact h1
   ·exact aH q af,bn⟩
structure xt (P:Program) where
 len:List Nat
 Qe:List (Nat×List Item×List (List Nat))
 mF:List (pA P)
 Ad:List (nQ P)
 LW:List (Nat×List (Nat×Nat)×List (Nat×Nat×aX))
def y6:List (Nat×List Item×List (List Nat))→Nat→(List Item→List (List Nat)→aG)→aG
 | [],_,_=> .no
 | p::r,id,K=>match Nat.beq p.1 id with
  | true=>K p.2.1 p.2.2
  | false=>y6 r id K
def DF:List (Nat×List (Nat×Nat)×List (Nat×Nat×aX))→Nat→List (Nat×Nat)×List (Nat×Nat×aX)
 | [],_=>([],[])
 | p::r,id=>match Nat.beq p.1 id with
  | true=>p.2
  | false=>DF r id
section
variable {P:Program} (cf:gf P) (dQ:xt P) (h8:Option Nat)
def vv (s:TS) (dj:List Nat) (iu:List (Nat×Nat)) (hr:List (Nat×TV)):TS:=⟨hr++Dr s hr (dj++(JA iu++(cT::Gl s.aW))),[],iu,s.aW⟩
def iF:Code→TS→j1→(Exit→TS→j1→aG)→aG
 | .skip,s,a,K=>K .normal s a
 | .ret,s,a,K=>K .ret s a
 | .exit id,s,a,K=>K (.exit id) s a
 | .region id ops draw,s,a,K=>ve h8 cf.n (DF dQ.LW id).1 s fun s=>sH cf.n (DF dQ.LW id).2 s fun s=>(match draw with
  | false=>zL cf ⟨dQ.len,dQ.mF,dQ.Ad⟩ ops ops.toList s fun s=>K .normal s a
  | true=>y6 dQ.Qe id fun ord ic=>Bp cf ⟨dQ.len,dQ.mF,dQ.Ad⟩ ops ord ic s fun s=>K .normal s a)
 | .seq x y,s,a,K=>(match rb x with
  | true=>iF x s a fun ex s a=>match ex with
   | .normal=>iF y s a K
   | ex=>K ex s a
  | false=>match(iF x s a fun ex s _=> .iS ex s).kD with
   | .some S hV=>BF hV (.gi ((iF x s a fun ex s _=> .iS ex s).bind fun ex s=>match ex with
    | .normal=> .gm
    | ex=>K ex s a.fst) (iF x s a fun ex s _=> .iS ex s).facts (iF x s a fun ex s _=> .iS ex s).js (iF y S (match(iF x s a fun ex s _=> .iS ex s).ya with
    | true=>a.snd
    | false=>a) K))
   | _=>iF x s a fun ex s a=>match ex with
    | .normal=>iF y s a K
    | ex=>K ex s a)
 | .cond c x y,s,a,K=>(match b7 cf.n s c with
  | .b z=>zY z s fun b s=>match b with
   | true=>iF x s a.fst K
   | false=>iF y s a.snd K
  | _=> .no)
 | .block id c,s,a,K=>iF c s a fun ex s a=>match ex with
  | .exit fc=>(match Nat.beq fc id with
   | true=>K .normal s a
   | false=>K (.exit fc) s a)
  | ex=>K ex s a
 | .loop c,s,a,K=>(match a with
  | .lp jG dj iu iJ rd hr I m b=>sH cf.n jG s fun s=>zG s iJ rd fun v0=>toHead h8 s (vv s dj iu (hr v0)) (.p (I v0) (AL iJ fun v=> .h5 (I v) (iF c (vv s dj iu (hr v)) (b v) fun ex s' a=>match ex with
   | .normal=>zG s' iJ rd fun dv=>toHead h8 s' (vv s dj iu (hr dv)) (.p (I dv∧m dv<m v) .gm)
   | ex=>K ex s' a)))
  | _=> .no)
 | _,_,_,_=> .no
end
section
variable {P:Program} {cf:gf P} {dQ:xt P}
theorem WN {R:Exit→TS→Prop} {l:List (Nat×List Item×List (List Nat))} {id:Nat} {K:List Item→List (List Nat)→aG} (h:(y6 l id K).den R): ∃o A,(K o A).den R:=by
 induction l with
 | nil=>exact h.elim
 | cons p r bx=>
  unfold y6 at h
  split at h
  ·exact⟨_,_,h⟩
  ·exact bx h
theorem Qf [b6] (ap:cf.n≤1000000) {dQ:nT P} {R:Exit→TS→Prop} {ops:Array Oper} {ord:List Item} {ic:List (List Nat)} {s:TS} {K:TS→aG} {Q:Exit→St→Prop} {id:Nat} (hK: ∀s (Z:FZ),(K s).den R→ @Fits Z s→Q .normal (@TS.av Z cf.n s)) (Z:FZ) (aJ:Fits s) (h:(Bp cf dQ ops ord ic s K).den R):WpS P (.region id ops true) Q (s.av cf.n):=by
 unfold Bp at h
 simp only at h
 split at h
 ·exact h.elim
 ·rename_i hb
  obtain⟨h1,h2,aH,bn,cX,kt,oW,h⟩:=h
  rw[z7]
  refine WpS.Mg (esc:=[]) ord ic h1 h2 aH rfl _ kt oW ?_
  have:=Mk ap (Kp:=fun T L H=>Q .normal ⟨T,L,H⟩) (fun s Z hs hf=>hK s Z hs hf) ord Z _ (uU hb aJ) bn h
  rw[cX,uS hb,uT ap hb] at this
  exact this
theorem abb [hp:b6] (ap:cf.n≤1000000) {h8:Option Nat} (fo: ∀k,h8=some k→hp.n≤k): ∀(c:Code) {R:Exit→TS→Prop} {s:TS} {a:j1} {K:Exit→TS→j1→aG} {Q:Exit→St→Prop},(∀ex s a (Z:FZ),(K ex s a).den R→ @Fits Z s→Q ex (@TS.av Z cf.n s))→ ∀Z:FZ,@Fits Z s→(iF cf dQ h8 c s a K).den R→WpS P c Q (@TS.av Z cf.n s):=by
 intro c
 induction c with
 | skip=>intro R s a K Q hK Z aJ h;exact WpS.skip (hK _ _ _ Z h aJ)
 | ret=>intro R s a K Q hK Z aJ h;exact WpS.ret (hK _ _ _ Z h aJ)
 | exit id=>intro R s a K Q hK Z aJ h;exact WpS.exit (hK _ _ _ Z h aJ)
 | region id ops draw=>
  intro R s a K Q hK Z aJ h
  obtain⟨s1,cj,rD,h⟩:=B0 ap fo aJ h
  obtain⟨s2,dU,vT,h⟩:=xz ap rD h
  refine WpS.py ?_ (cj.trans dU)
  cases draw with
  | false=>
   rw[z7]
   refine WpS.Mh (esc:=[]) rfl ?_
   exact En ap (Kp:=fun T L H=>Q .normal ⟨T,L,H⟩) (fun s Z hs hf=>hK _ s _ Z hs hf) ops.toList Z s2 vT h
  | true=>
   obtain⟨ord,ic,h⟩:=WN h
   exact Qf ap (fun s Z hs hf=>hK _ s _ Z hs hf) Z vT h
 | cond c x y gr gh=>
  intro R s a K Q hK Z aJ h
  unfold iF at h
  split at h
  ·rename_i z oi
   obtain⟨s',aT,e2,h⟩:=Fa (n:=cf.n) h
   have hf:=aJ.congr fun k _ _=>e2 k
   rw[←aT]
   have hc:bR (s'.av cf.n).T c= .bool z.den:=by
    rw[aT,congrFun (je cf.n s) c]
    show(b7 cf.n s c).bi=_
    rw[oi];rfl
   refine WpS.cond ?_
   rw[hc]
   refine⟨fun hb=> ?_,fun hb=> ?_⟩
   ·rw[hb] at h;exact gr hK Z hf h
   ·rw[hb] at h;exact gh hK Z hf h
  ·exact h.elim
 | block id c bx=>
  intro R s a K Q hK Z aJ h
  refine WpS.block (bx (K:=fun ex s a=>match ex with
   | .exit fc=>(match Nat.beq fc id with
    | true=>K .normal s a
    | false=>K (.exit fc) s a)
   | ex=>K ex s a) (fun ex s a Z hs hf=> ?_) Z aJ h)
  cases ex with
  | exit fc=>
   show if fc=id then _ else _
   have hs:(match Nat.beq fc id with
    | true=>K .normal s a
    | false=>K (.exit fc) s a).den R:=hs
   split at hs
   ·rename_i hb;rw[if_pos (Nat.eq_of_beq_eq_true hb)];exact hK _ _ _ Z hs hf
   ·rename_i hb
    rw[if_neg fun e=>by subst e;rw[Nat.beq_refl] at hb;cases hb];exact hK _ _ _ Z hs hf
  | _=>exact hK _ _ _ Z hs hf
 | seq x y IH II=>
  intro R s a K Q hK Z aJ h
  have GH:(iF cf dQ h8 x s a fun ex s a=>match ex with
   | .normal=>iF cf dQ h8 y s a K
   | ex=>K ex s a).den R→WpS P (.seq x y) Q (s.av cf.n):=fun h=>by
   refine WpS.seq (IH (fun ex s a Z hs hf=> ?_) Z aJ h)
   cases ex with
   | normal=>exact II hK Z hf hs
   | _=>exact hK _ _ _ Z hs hf
  unfold iF at h
  split at h
  ·exact GH h
  ·split at h
   ·rename_i S hV hm
    obtain⟨af,h⟩:=GY h
    obtain⟨h1,h2⟩:=h
    rw[aG.Pc] at h1
    have aH:=aG.W5 hm af h1
    refine WpS.seq (IH (K:=fun ex s _=> .iS ex s) (fun ex s' gS Z hs hf=> ?_) Z aJ aH)
    have hs:_∧(ex= .normal→s'.fx S∧_∧_):=hs
    cases ex with
    | normal=>
     obtain⟨q1,q2,q3⟩:=hs.2 rfl
     exact WpS.py (II hK Z (hf.le q1) (h2 (QH q3 q2))) (aa9 ap q1)
    | _=>exact hK _ _ _ Z hs.1 hf
   ·exact GH h
 | loop c bx=>
  intro R s a K Q hK Z aJ h
  unfold iF at h
  split at h
  ·rename_i jG dj iu iJ rd hr I m b
   obtain⟨s1,cj,rD,h⟩:=xz ap aJ h
   obtain⟨v0,h⟩:=Eh h
   obtain⟨dU,vT,h⟩:=toHead_sound (n:=cf.n) ap fo rfl rD h
   obtain⟨aM,h⟩:=h
   have hv:=F1 h
   refine WpS.KV (V:=cq iJ×FZ) (fun v=> @TS.av v.2 cf.n (vv s1 dj iu (hr v.1))) (fun v=>I v.1∧ @Fits v.2 (vv s1 dj iu (hr v.1))) (fun v=>m v.1) rfl (v0,Z) (cj.trans dU) ⟨aM,vT⟩ fun v a6=> ?_
   refine bx (fun ex s' a Z' hs hf=> ?_) v.2 a6.2 (hv v.1 a6.1)
   cases ex with
   | normal=>
    obtain⟨dv,hs⟩:=Eh hs
    obtain⟨gX,yw,hs⟩:=toHead_sound (n:=cf.n) ap fo rfl hf hs
    exact⟨(dv,Z'),⟨hs.1.1,yw⟩,hs.1.2,gX⟩
   | _=>exact hK _ _ _ Z' hs hf
  ·exact h.elim
 | _=>intro R s a K Q hK Z aJ h;exact h.elim
end
def tQ:(e:aX)→e.T→TV
 | .ptr e,x=> .cM e x 0
 | .gH f .unit,_=> .fn f []
 | .gH f e,x=> .fn f [tQ e x]
 | e,x=>match e.isS with
  | true=> .agg (hL false e x)
  | false=>w7 false e x
theorem XH: ∀(e:aX) (x:e.T),(tQ e x).bi=lz e x:=by
 have bc: ∀(e:aX) (x:e.T),(match e.isS with
  | true=>TV.agg (hL false e x)
  | false=>w7 false e x).bi=match e.isS with
  | true=> .agg (b4 false e x)
  | false=>ig false e x:=fun e x=>by
  cases e.isS with
  | true=>show AV.agg (cc _)=_;rw[xQ]
  | false=>exact Ft false e x
 intro e
 induction e with
 | gH f e bx=>
  intro x
  have key:tQ (.gH f e) x= .fn f [tQ e x]→lz (.gH f e) x= .fn f [lz e x]→(tQ (.gH f e) x).bi=lz (.gH f e) x:=fun h1 h2=>by
   rw[h1,h2,←bx x];rfl
  cases e with
  | unit=>rfl
  | _=>exact key rfl rfl
 | ptr e bx=>intro x;rfl
 | _=>intro x;exact bc _ x
def rZ:Nat→(es:List aX)→cq es→List (Nat×TV)
 | _,[],_=>[]
 | i,e::r,x=>(i,tQ e x.1)::rZ (i+1) r x.2
def nk (ps:List aX) (x:cq ps):TS:=⟨rZ 0 ps x,[],[],0⟩
theorem Lw: ∀(es:List aX) (x:cq es) (i t:Nat),(fN (rZ i es x) t .u).bi=if t<i then .undef else(lA es x).getD (t - i) .undef
 | [],x,i,t=>by
  show AV.undef=_
  split<;>simp[lA]
 | e::r,x,i,t=>by
  rw[rZ,fW,lA]
  by_cases h:i=t
  ·subst h
   rw[if_pos rfl,if_neg (by omega),Nat.sub_self,XH];rfl
  ·rw[if_neg h,Lw r x.2 (i+1) t]
   by_cases h2:t<i
   ·rw[if_pos (by omega),if_pos h2]
   ·rw[if_neg (by omega),if_neg h2,show t - i=(t - (i+1))+1 by omega];rfl
theorem GU: ∀(es:List aX) (x:cq es),(lA es x).length=es.length
 | [],_=>rfl
 | e::r,x=>by rw[lA,List.length_cons,List.length_cons,GU r]
theorem Jt (ps:List aX) (x:cq ps) (h:ps.length≤1000000):hC (nk ps x)=true:=by
 have key: ∀(es:List aX) (y:cq es) (i:Nat),i+es.length≤1000000→ ∀v,(cT,v) ∉ rZ i es y:=by
  intro es
  induction es with
  | nil=>intro y i _ v hv;cases hv
  | cons e r bx=>
   intro y i hi v hv
   simp only[List.length_cons] at hi
   rcases List.mem_cons.1 hv with e | hv
   ·injection e with e _;unfold cT at e;omega
   ·exact bx y.2 (i+1) (by omega) v hv
 unfold hC
 have:(nk ps x).get cT= .u:=by
  show fN (rZ 0 ps x) cT (fN [] cT .u)=_
  rw[qa (key ps x 0 (by omega))];rfl
 rw[this]
theorem UQ [FZ] {fn:Func} {ps:List aX} {x:cq ps} (h:ps.length≤fn.ntmps) (aE:ps.length≤1000000):yY fn (lA ps x) []=(nk ps x).av fn.ntmps:=by
 have bS:lA ps x++List.replicate (fn.ntmps - (lA ps x).length) AV.undef=((nk ps x).av fn.ntmps).T:=by
  apply List.ext_getElem?
  intro t
  show _=((List.range fn.ntmps).map fun t=>((nk ps x).get t).bi)[t]?
  rw[List.getElem?_map]
  rcases Nat.lt_or_ge t fn.ntmps with aE | aE
  ·rw[List.getElem?_range aE]
   show _=some (fN (rZ 0 ps x) t .u).bi
   rw[Lw,if_neg (by omega),Nat.sub_zero]
   rcases Nat.lt_or_ge t (lA ps x).length with h1 | h1
   ·rw[List.getElem?_append_left h1,List.getD_eq_getElem?_getD,List.getElem?_eq_getElem h1];rfl
   ·rw[List.getElem?_append_right h1,List.getElem?_replicate,if_pos (by omega),List.getD_eq_getElem?_getD,List.getElem?_eq_none h1];rfl
  ·rw[List.getElem?_eq_none (l:=List.range fn.ntmps) (by simpa using aE),List.getElem?_eq_none]
   ·rfl
   ·rw[List.length_append,List.length_replicate,GU];omega
 have ax:((nk ps x).av fn.ntmps).H=[]:=by
  show(nk ps x).fj++fT (nk ps x)=[]
  unfold fT;rw[Jt ps x aE];rfl
 show(⟨_,[],[]⟩:St)=⟨((nk ps x).av fn.ntmps).T,[],((nk ps x).av fn.ntmps).H⟩
 rw[bS,ax]
def yh (s:TS):(e:aX)→TV→e.T→aG→aG
 | .int,v,r,t=>(match v with
  | .i k m=>if k= .i64 then .p (m=r) t else .no
  | _=> .no)
 | .u64,v,r,t=>(match v with
  | .i k m=>if k= .u64 then .p (m=r) t else .no
  | _=> .no)
 | .bool,v,r,t=>(match v with
  | .b x=> .p (x.den=r) t
  | _=> .no)
 | .str,v,r,t=>(match v with
  | .s x=> .p (x=r) t
  | _=> .no)
 | .l e,v,r,t=>(match v with
  | .l b1 xs _ fr=>(match fr with
   | true=>if h:b1=e then .p (jL h xs=r) t else .no
   | false=> .no)
  | .nil _ _=> .p ([]=r) t
  | .ref b g m _=>oP s b g fun b1 xs ej _=>if h:b1=e then .eq e.my true (.eq ej m (.p (xs.length≤4611686018427387904∧jL h xs=r) t)) else .no
  | _=> .no)
 | _,_,_,_=> .no
def BT (s:TS):(es:List aX)→List TV→cq es→aG→aG
 | [],[],_,t=>t
 | e::r,v::vs,x,t=>yh s e v x.1 (BT s r vs x.2 t)
 | _,_,_,_=> .no
def yi (s:TS) (e:aX) (v:TV) (r:e.T) (t:aG):aG:=match e.isS with
 | true=>(match v with
  | .agg c=>BT s e.cm c (e.un r) t
  | _=> .no)
 | false=>yh s e v r t
def BS (s:TS):(es:List aX)→List TV→cq es→aG→aG
 | [],[],_,t=>t
 | e::r,v::vs,x,t=>yi s e v x.1 (BS s r vs x.2 t)
 | _,_,_,_=> .no
def Yw (P:Program) (n:Nat) (s:TS):ResultVar→TV
 | .tmp t=>b7 n s (.tmp t)
 | .cell a t=>(match b7 n s (.tmp a) with
  | .lp v c=>(match iU s.vs v with
   | some m=>so P t (gq s v 0 m) c
   | none=> .u)
  | _=> .u)
def s3 (P:Program) (n:Nat) (fn:Func) (rs:List aX) (r:cq rs) (s:TS):aG:=
 let vs:=fn.results.toList.map (Yw P n s)
 .eq (fun H Q=>qq P ⟨s.tT n,s.bT,H⟩ fn.results.toList Q) (fun _ Q=>Q (cc vs)) (.eq ((cc vs).all iv) true (BS s rs vs r .gm))
section
variable {n:Nat} {s:TS} {R:Exit→TS→Prop} {t:aG}
theorem PM {H:List Blk} (e:aX) (x:e.T) (h:e.my=true):iX H (b4 true e x) (b4 false e x):=by
 cases e with
 | int=>exact Pq x
 | u64=>exact .cons (.int _ _) rfl .nil
 | u8=>exact Ps x
 | bool=>exact AZ x
 | str=>exact Pr x
 | bG=>exact Gp x
 | dF=>exact Pt x
 | dN=>exact .cons (.int _ _) rfl (.cons (iL _) rfl (.cons (iL _) rfl (.cons (iL _) rfl (.cons (.int _ _) rfl .nil))))
 | lB=>exact Po x
 | dO=>exact Gq x
 | held=>exact Pp x
 | frame=>exact .cons (.bool _) rfl (.cons (iL _) rfl (.cons (iL _) rfl (.cons (iL _) rfl .nil)))
 | done=>exact Pn x
 | fault=>exact .cons (.int _ _) rfl (.cons (.int _ _) rfl .nil)
 | stays=>exact .cons (iL _) rfl (.cons (iL _) rfl (.cons (iL _) rfl .nil))
 | fG=>exact .cons (iL _) rfl (.cons (.int _ _) rfl (.cons (.int _ _) rfl .nil))
 | l e=>exact .cons (iL _) rfl .nil
 | _=>cases h
end
section
variable [FZ] {n:Nat} {s:TS} {R:Exit→TS→Prop} {t:aG}
theorem Hc {e:aX} {v:TV} {r:e.T} (h:(yh s e v r t).den R):fm (s.av n).H v.bi (ig true e r)∧t.den R:=by
 cases e with
 | int=>
  have h:(match v with
   | .i k m=>if k=IntKind.i64 then aG.p (m=r) t else .no
   | _=> .no).den R:=h
  split at h
  ·split at h
   ·rename_i hk;subst hk;exact⟨NM h.1,h.2⟩
   ·exact h.elim
  ·exact h.elim
 | u64=>
  have h:(match v with
   | .i k m=>if k=IntKind.u64 then aG.p (m=r) t else .no
   | _=> .no).den R:=h
  split at h
  ·split at h
   ·rename_i hk;subst hk;exact⟨NM h.1,h.2⟩
   ·exact h.elim
  ·exact h.elim
 | bool=>
  have h:(match v with
   | .b x=>aG.p (x.den=r) t
   | _=> .no).den R:=h
  split at h
  ·exact⟨sj h.1,h.2⟩
  ·exact h.elim
 | str=>
  have h:(match v with
   | .s x=>aG.p (x=r) t
   | _=> .no).den R:=h
  split at h
  ·exact⟨aaB h.1,h.2⟩
  ·exact h.elim
 | l e=>
  have h:(match v with
   | .l b1 xs _ fr=>(match fr with
    | true=>if h:b1=e then aG.p (jL h xs=r) t else .no
    | false=> .no)
   | .nil _ _=> .p ([]=r) t
   | .ref b g m _=>oP s b g fun b1 xs ej _=>if h:b1=e then .eq e.my true (.eq ej m (.p (xs.length≤4611686018427387904∧jL h xs=r) t)) else .no
   | _=> .no).den R:=h
  split at h
  ·split at h
   ·split at h
    ·rename_i he;subst he;exact⟨aaz (e:=b4 false _) h.1,h.2⟩
    ·exact h.elim
   ·exact h.elim
  ·exact⟨aaA (e:=b4 false e) h.1,h.2⟩
  ·rename_i b g m cW
   obtain⟨b1,xs,ej,hm,h,hb,ax⟩:=sL (n:=n) h
   split at h
   ·rename_i he
    subst he
    obtain⟨aM,h1,h2,aH⟩:=h
    subst h1
    subst hm
    exact⟨NL (eT:=b4 true b1) (eF:=b4 false b1) ax (fun x=>PM b1 x aM) h2,aH⟩
   ·exact h.elim
  ·exact h.elim
 | _=>exact h.elim
theorem He: ∀{es:List aX} {vs:List TV} {r:cq es},(BT s es vs r t).den R→aK (fm (s.av n).H) (cc vs) (ha true es r)∧t.den R
 | [],[],_,h=>⟨aK.nil,h⟩
 | e::r,v::vs,x,h=>by
  obtain⟨h1,h2⟩:=Hc (n:=n) (show(yh s e v x.1 _).den R from h)
  obtain⟨aH,bn⟩:=He h2
  exact⟨aK.cons h1 aH,bn⟩
 | [],_::_,_,h=>h.elim
 | _::_,[],_,h=>h.elim
theorem QP {e:aX} {v:TV} {r:e.T} (h:(yi s e v r t).den R):qT (s.av n).H v.bi (oR e r)∧t.den R:=by
 unfold yi at h
 unfold oR
 cases ez:e.isS with
 | true=>
  rw[ez] at h
  simp only at h
  split at h
  ·rename_i c
   obtain⟨h1,h2⟩:=He (n:=n) h
   refine⟨.inl ⟨cc c,b4 true e r,rfl,rfl,?_⟩,h2⟩
   rw[←ly];exact h1
  ·exact h.elim
 | false=>
  rw[ez] at h
  obtain⟨h1,h2⟩:=Hc (n:=n) h
  exact⟨.inr h1,h2⟩
theorem Hd: ∀{es:List aX} {vs:List TV} {r:cq es},(BS s es vs r t).den R→aK (qT (s.av n).H) (cc vs) (mW es r)∧t.den R
 | [],[],_,h=>⟨aK.nil,h⟩
 | e::r,v::vs,x,h=>by
  obtain⟨h1,h2⟩:=QP (n:=n) (show(yi s e v x.1 _).den R from h)
  obtain⟨aH,bn⟩:=Hd h2
  exact⟨aK.cons h1 aH,bn⟩
 | [],_::_,_,h=>h.elim
 | _::_,[],_,h=>h.elim
theorem Hf {P:Program} {fn:Func} {rs:List aX} {r:cq rs} (h:(s3 P n fn rs r s).den R):ub P fn (s.av n) fun v H=>jE H v (pM rs r):=by
 unfold s3 at h
 simp only at h
 obtain⟨h1,h2,aH⟩:=h
 unfold ub
 have yn:qq P (s.av n) fn.results.toList=_:=congrFun h1 (s.av n).H
 rw[congrFun yn]
 refine⟨h2,?_⟩
 obtain⟨bn,_⟩:=Hd (n:=n) aH
 have key: ∀(rs:List aX) (r:cq rs) (l:List AV),aK (qT (s.av n).H) l (mW rs r)→jE (s.av n).H (qE l) (pM rs r):=by
  intro rs r l ai
  match rs,r,l with
  | [],_,[]=>exact .inl ⟨[],[],rfl,rfl,aK.nil⟩
  | [],_,_::_=>have:=ai.1;simp[mW] at this
  | [e],r,[]=>have:=ai.1;simp[mW] at this
  | [e],r,[v]=>exact .inr ai.head
  | [e],r,_::_::_=>have:=ai.1;simp[mW] at this
  | e::b1::rs,r,[]=>have:=ai.1;simp[mW] at this
  | e::b1::rs,r,[v]=>have:=ai.1;simp[mW] at this
  | e::b1::rs,r,v::w::l=>exact .inl ⟨_,_,rfl,rfl,ai⟩
 exact key rs r _ bn
end
def Fq {P:Program} (cf:gf P) (dQ:xt P) (fn:Func) (ps rs:List aX) (x:cq ps) (r:cq rs) (a:j1):aG:=iF cf dQ (some 0) (jJ fn) (nk ps x) a fun ex s _=>match ex with
 | .normal=>s3 P cf.n fn rs r s
 | .ret=>s3 P cf.n fn rs r s
 | _=> .no
theorem a_.run {P:Program} {f:FuncId} {fn:Func} {ps rs:List aX} {x:cq ps} {r:cq rs} (cf:gf P) (dQ:xt P) (a:j1) {C:Prop} (hf:P.funcs[f]?=some fn) (h:C) (e:C=(Fq cf dQ fn ps rs x r a).mg.den:=by kernel_rfl)
  (e2:(Fq cf dQ fn ps rs x r a).lhs=(Fq cf dQ fn ps rs x r a).rhs:=by kernel_rfl) (hb:fn.body=some (jJ fn):=by kernel_rfl) (hm:(fn.name== "runtime.NumGoroutine")=false:=by kernel_rfl)
  (ap:(Nat.beq cf.n fn.ntmps&&Nat.ble cf.n 1000000&&Nat.ble ps.length cf.n)=true:=by kernel_rfl):a_ P f (lA ps x) (pM rs r):=by
 simp only[Bool.and_eq_true] at ap
 have h1:=Nat.eq_of_beq_eq_true ap.1.1
 have h2:=Nat.le_of_ble_eq_true ap.1.2
 have aH:=Nat.le_of_ble_eq_true ap.2
 refine dc.Lm hf hb hm fun hp fo=> ?_
 rw[@UQ ⟨[],[]⟩ fn ps x (by rw[←h1];exact aH) (by omega),←h1]
 refine abb h2 (fun k e=>by cases e;rw[fo];exact Nat.le_refl _) (jJ fn) (R:=fun _ _=>True) (K:=fun ex s _=>match ex with
  | .normal=>s3 P cf.n fn rs r s
  | .ret=>s3 P cf.n fn rs r s
  | _=> .no) (fun ex s _ Z hs hf=> ?_) ⟨[],[]⟩ (@Fits.none ⟨[],[]⟩ _ (Jt ps x (by omega))) (aG.full (e▸h) e2)
 cases ex with
 | normal=>exact Hf hs
 | ret=>exact Hf hs
 | _=>exact hs.elim
def Env.ro (w:World) (B:Nat→Prop):Env:={w:=w,PA:=B,PF:=fun _=>False,m:=fun _=>none,bc:=fun _=>0,sz:=fun _=>0,cp:=fun _=>0,mL:=fun _=>none}
def fD (w:World) (B:Nat→Prop) (a:AV) (v:Value):Prop:=V2 (Env.ro w B) a v
theorem fD.dj {w w':World} {B B':Nat→Prop} {a:AV} {v:Value} (h:fD w B a v) (hk: ∀c,B c→w'.heap[c]?=w.heap[c]?) (hs: ∀c,B c→B' c):fD w' B' a v:=
 V2.le (E:=Env.ro w B) (E':=Env.ro w' B') ⟨hs,fun _ h=>h.elim,hk,fun _ h=>h.elim,fun _=>Nat.le_refl _,(fun _ _ h _=>by cases h),(fun _ _ h=>by cases h)⟩ h
theorem fD.at {w:World} {B:Nat→Prop} {a:AV} {v:Value} (h:fD w B a v) (aE: ∀c,B c→c<w.heap.size):V2 (Env.at w) a v:=fD.dj (B':=fun c=>c<w.heap.size) h (fun _ _=>rfl) aE
def iI (w w':World) (c:Nat):Prop:=w.heap.size≤c∧c<w'.heap.size∧Plain w' c
def GS (e:aX) (x:e.T):AV:=match e.isS with
 | true=> .agg (b4 false e x)
 | false=>ig false e x
theorem aQ.hF {w:World} {PA PF B:Nat→Prop} (ai: ∀c,PF c→B c) (aC: ∀c,PA c→B c) {e:aX} {x:e.T} {v:Value} (h:aQ w PA PF (ig true e x) v):aQ w B (fun _=>False) (ig false e x) v:=by
 cases e with
 | l e=>
  cases h with
  | aR dY ec eN bU dd hrel=>exact .aR (fun c hc=>ai c (by simpa using dY c hc)) ec eN bU dd hrel
 | int=>cases h;exact .int _ _
 | u64=>cases h;exact .int _ _
 | u8=>cases h;exact .int _ _
 | bool=>cases h;exact .bool _
 | str=>cases h;exact .str _
 | _=>exact .undef _
theorem N5 {w:World} {PA PF B:Nat→Prop} (ai: ∀c,PF c→B c) (aC: ∀c,PA c→B c): ∀{es:List aX} {x:cq es} {vs:List Value},aK (fun a v=>aQ w PA PF a v) (ha true es x) vs→aK (bQ (Env.ro w B)) (ha false es x) vs
 | [],_,vs,h=>by obtain rfl:=h.mv;exact aK.nil
 | e::r,x,vs,h=>by
  obtain⟨v,vs,rfl,h1,h2⟩:=h.cons_inv
  exact aK.cons (aQ.v1 (E:=Env.ro w B) (aQ.hF ai aC h1)) (N5 ai aC h2)
theorem Oa {E:Env} {fr:Bool} {e:aX} {x:e.T} {v:Value} (h:bQ E (ig fr e x) v):aQ E.w E.PA E.PF (ig fr e x) v:=by
 cases e<;>exact h
theorem Fz {E:Env} {fr:Bool}: ∀{es:List aX} {x:cq es} {vs:List Value},aK (bQ E) (ha fr es x) vs→aK (fun a v=>aQ E.w E.PA E.PF a v) (ha fr es x) vs
 | [],_,vs,h=>by obtain rfl:=h.mv;exact aK.nil
 | e::r,x,vs,h=>by
  obtain⟨v,vs,rfl,h1,h2⟩:=h.cons_inv
  exact aK.cons (Oa h1) (Fz h2)
theorem aQ.Xj {w:World} {PA PF B:Nat→Prop} (aC: ∀c,PA c→B c) {e:aX} {x:e.T} {v:Value} (h:aQ w PA PF (ig false e x) v):aQ w B (fun _=>False) (ig false e x) v:=by
 cases e with
 | l e=>
  cases h with
  | aR dY ec eN bU dd hrel=>exact .aR (fun c hc=>aC c (by simpa using dY c hc)) ec eN bU dd hrel
 | int=>cases h;exact .int _ _
 | u64=>cases h;exact .int _ _
 | u8=>cases h;exact .int _ _
 | bool=>cases h;exact .bool _
 | str=>cases h;exact .str _
 | _=>exact .undef _
theorem Lc {w:World} {PA PF B:Nat→Prop} (aC: ∀c,PA c→B c): ∀{es:List aX} {x:cq es} {vs:List Value},aK (fun a v=>aQ w PA PF a v) (ha false es x) vs→aK (bQ (Env.ro w B)) (ha false es x) vs
 | [],_,vs,h=>by obtain rfl:=h.mv;exact aK.nil
 | e::r,x,vs,h=>by
  obtain⟨v,vs,rfl,h1,h2⟩:=h.cons_inv
  exact aK.cons (aQ.v1 (E:=Env.ro w B) (aQ.Xj aC h1)) (Lc aC h2)
theorem Od {e:aX} {x:e.T} {w:World} {v:Value} (h:V2 (Env.wd w) (.agg (b4 false e x)) v):fD w (fun c=>c<w.heap.size) (.agg (b4 false e x)) v:=by
 obtain⟨ga,rfl,ai⟩:=(show ∃ga:List Value,v= .agg ga.toArray∧aK (bQ _) (b4 false e x) ga from h)
 refine⟨ga,rfl,?_⟩
 rw[←ly] at ai ⊢
 exact Lc (fun _ h=>h) (Fz ai)
theorem a_.uw {P:Program} {f:FuncId} {args:List AV} {e:aX} {x:e.T} (h:a_ P f args (oR e x)) {w:World} {vs:List Value} (aC:aK (V2 (Env.at w)) args vs):
  Calls P f vs.toArray w fun kZ w'=> ∃v,kZ= .returned v∧RowKit.Below w.heap.size w w'∧fD w' (iI w w') (GS e x) v:=by
 refine(h.2 (Env.at w) vs (fun _=>rfl) (F9 w) aC).mono ?_
 rintro kZ w' ⟨r,v,H',E',rfl,aq,rfl,ap,hs,hv,bf⟩
 have hb:RowKit.Below w.heap.size w E'.w:=⟨bf.os,bf.tape,bf.output,bf.size,fun k hk=>bf.dj k hk (fun⟨b,hb⟩=>by cases hb) (fun⟨b,hb⟩=>by cases hb)⟩
 have jO: ∀c,E'.PF c∨E'.fe c→iI w E'.w c:=fun c hc=>by
  rcases hc with hc | hc
  ·exact⟨(bf.eD c hc).elim (fun h=>h.elim) id,hs.db c (hs.c4 c hc),hs.eK c hc⟩
  ·exact⟨(bf.ni c hc).elim (fun⟨b,hb⟩=>by cases hb) id,hs.eQ c hc,hs.TK hc⟩
 have mq:V3 {Env.ro E'.w (iI w E'.w) with PF:=iI w E'.w} (oR e x) v:=MX (E':={Env.ro E'.w (iI w E'.w) with PF:=iI w E'.w}) hs rfl (fun c hc=>⟨jO c hc,jO c hc⟩) aq hv
 refine⟨v,rfl,hb,?_⟩
 unfold GS
 unfold oR at mq
 cases ez:e.isS with
 | true=>
  rw[ez] at mq
  obtain⟨ga,rfl,ai⟩:=(show ∃ga:List Value,v= .agg ga.toArray∧aK (bQ _) (b4 true e x) ga from mq)
  refine⟨ga,rfl,?_⟩
  rw[←ly] at ai ⊢
  exact N5 (fun _ h=>h) (fun _ h=>h) (Fz ai)
 | false=>
  rw[ez] at mq
  have mq:V3 {Env.ro E'.w (iI w E'.w) with PF:=iI w E'.w} (ig true e x) v:=mq
  have h1:bQ {Env.ro E'.w (iI w E'.w) with PF:=iI w E'.w} (ig true e x) v:=by cases e<;>first | exact mq | cases ez
  have:=aQ.hF (B:=iI w E'.w) (fun _ h=>h) (fun _ h=>h) (Oa h1)
  exact jF (aQ.v1 (E:=Env.ro E'.w (iI w E'.w)) this)
theorem a_.int {P:Program} {f:FuncId} {args:List AV} {n:Int} (h:a_ P f args (.int .i64 n)) {w:World} {vs:List Value} (aC:aK (V2 (Env.at w)) args vs):
  Calls P f vs.toArray w fun kZ w'=>kZ= .returned (.int .i64 n)∧RowKit.Below w.heap.size w w':=
 (a_.uw (e:= .int) (x:=n) h aC).mono fun kZ w' ⟨v,h1,h2,aH⟩=>by
  have aH:aQ w' _ _ (.int .i64 n) v:=aH
  cases aH;exact⟨h1,h2⟩
theorem a_.bool {P:Program} {f:FuncId} {args:List AV} {b:Bool} (h:a_ P f args (.bool b)) {w:World} {vs:List Value} (aC:aK (V2 (Env.at w)) args vs):
  Calls P f vs.toArray w fun kZ w'=>kZ= .returned (.bool b)∧RowKit.Below w.heap.size w w':=
 (a_.uw (e:= .bool) (x:=b) h aC).mono fun kZ w' ⟨v,h1,h2,aH⟩=>by
  have aH:aQ w' _ _ (.bool b) v:=aH
  cases aH;exact⟨h1,h2⟩
theorem qz {w:World} {B:Nat→Prop} {rows:List (List AV)} {v:Value} (h:fD w B (.aR rows false false) v): ∃A cap,v= .slice A rows.length cap∧aQ w B (fun _=>False) (.aR rows false false) v:=by
 have h:aQ w B (fun _=>False) (.aR rows false false) v:=h
 cases h with
 | aR dY ec eN bU dd hrel=>exact⟨_,_,rfl,.aR dY ec eN bU dd hrel⟩
structure fw where
 lo:Nat
 hi:Nat
 P:World→Prop
 av: ∀w w':World,(∀c,lo≤c→c<hi→w'.heap[c]?=w.heap[c]?)→P w→P w'
structure c_ (W w:World) (l:List fw):Prop where
 os:w.os=W.os
 tape:w.tape=W.tape
 output:w.output=W.output
 size:W.heap.size≤w.heap.size
 h9: ∀c,c<W.heap.size→w.heap[c]?=W.heap[c]?
 ord:l.Pairwise fun a b=>a.hi≤b.lo
 all: ∀i∈l,i.hi≤w.heap.size∧i.P w
theorem c_.get {W w:World} {l:List fw} (h:c_ W w l) (j:Nat) {i:fw} (e:l[j]?=some i:=by rfl):i.P w:=(h.all i (List.mem_of_getElem? e)).2
theorem c_.hi {W w:World} {l:List fw} (h:c_ W w l) (j:Nat) {i:fw} (e:l[j]?=some i:=by rfl):i.hi≤w.heap.size:=(h.all i (List.mem_of_getElem? e)).1
theorem c_.below {W w w':World} {l:List fw} (h:c_ W w l) (hb:RowKit.Below w.heap.size w w'):c_ W w' l where
 os:=hb.os.trans h.os
 tape:=hb.tape.trans h.tape
 output:=hb.output.trans h.output
 size:=Nat.le_trans h.size hb.size
 h9:=fun c hc=>(hb.block c (Nat.lt_of_lt_of_le hc h.size)).trans (h.h9 c hc)
 ord:=h.ord
 all:=fun i hi=>⟨Nat.le_trans (h.all i hi).1 hb.size,i.av w w' (fun c _ hc=>hb.block c (Nat.lt_of_lt_of_le hc (h.all i hi).1)) (h.all i hi).2⟩
theorem c_.drewN {W w:World} {l:List fw} (h:c_ W w l):c_ W w.drew l:=h.below ⟨rfl,rfl,rfl,Nat.le_refl _,fun _ _=>rfl⟩
theorem c_.add {W w:World} {l:List fw} (h:c_ W w l) (i:fw) (h1:i.hi≤w.heap.size) (h2:i.P w) (aH: ∀j∈l,j.hi≤i.lo):c_ W w (l++[i]):=
 {h with
  ord:=List.pairwise_append.2 ⟨h.ord,List.pairwise_singleton _ _,fun a aC b hb=>by rw[List.mem_singleton.1 hb];exact aH a aC⟩
  all:=fun j ar=>by
   rcases List.mem_append.1 ar with ar | ar
   ·exact h.all j ar
   ·rw[List.mem_singleton.1 ar];exact⟨h1,h2⟩}
theorem c_.made {W w w':World} {l:List fw} (h:c_ W w l) (hb:RowKit.Below w.heap.size w w') (i:fw) (aM:i.lo=w.heap.size) (h1:i.hi=w'.heap.size) (h2:i.P w'):c_ W w' (l++[i]):=
 (h.below hb).add i (Nat.le_of_eq h1) h2 fun j ar=>by rw[aM];exact(h.all j ar).1
def gE (b:Nat) (aw:Array Value) (ty:TypeId):fw where
 lo:=b
 hi:=b+1
 P:=fun w=>w.heap[b]?=some (.cells aw ty (0,0))
 av:=fun w w' h ai=>(h b (Nat.le_refl _) (Nat.lt_succ_self _)).trans ai
theorem c_.box {W w:World} {l:List fw} (h:c_ W w l) (aw:Array Value) (ty:TypeId):c_ W (w.alloc (.cells aw ty (0,0))) (l++[gE w.heap.size aw ty]):=
 h.made ((RowKit.Below.refl _ _).alloc (Nat.le_refl _) _) (gE w.heap.size aw ty) rfl (by simp[gE]) (sI _ _)
theorem c_.Gk {W w:World} {l:List fw} (h:c_ W w l) (j:Nat) {b:Nat} {aw:Array Value} {ty:TypeId} (e:l[j]?=some (gE b aw ty)):b<w.heap.size:=h.hi j e
def IE (n:Nat) (a:AV) (v:Value):fw where
 lo:=0
 hi:=n
 P:=fun w=>fD w (fun c=>c<n) a v
 av:=fun w w' h ai=>ai.dj (fun c hc=>h c (Nat.zero_le _) hc) (fun _ h=>h)
def hA (n:Nat) (a:AV) (v:Value) (b:AV) (u:Value):fw where
 lo:=0
 hi:=n
 P:=fun w=>fD w (fun c=>c<n) a v∧fD w (fun c=>c<n) b u
 av:=fun w w' h ai=>⟨ai.1.dj (fun c hc=>h c (Nat.zero_le _) hc) (fun _ h=>h),ai.2.dj (fun c hc=>h c (Nat.zero_le _) hc) (fun _ h=>h)⟩
def pF (w:World) (lo hi c:Nat):Prop:=lo≤c∧c<hi∧Plain w c
def fK (lo hi:Nat) (a:AV) (v:Value):fw where
 lo:=lo
 hi:=hi
 P:=fun w=>fD w (pF w lo hi) a v
 av:=fun w w' h ai=>ai.dj (fun c hc=>h c hc.1 hc.2.1) fun c hc=>⟨hc.1,hc.2.1,hc.2.2.same (h c hc.1 hc.2.1)⟩
theorem c_.wq {W w w':World} {l:List fw} {a:AV} {v:Value} (h:c_ W w l) (hb:RowKit.Below w.heap.size w w') (bj:fD w' (iI w w') a v):c_ W w' (l++[fK w.heap.size w'.heap.size a v]):=
 h.made hb (fK w.heap.size w'.heap.size a v) rfl rfl bj
def yU (lo hi:Nat):fw:=⟨lo,hi,fun _=>True,fun _ _ _ _=>trivial⟩
theorem fK.at {W w:World} {l:List fw} (h:c_ W w l) (j:Nat) {lo hi:Nat} {a:AV} {v:Value} (e:l[j]?=some (fK lo hi a v):=by rfl):V2 (Env.at w) a v:=
 (h.get j e).at fun c hc=>Nat.lt_of_lt_of_le hc.2.1 (h.hi j e)
theorem IE.at {W w:World} {l:List fw} (h:c_ W w l) (j:Nat) {n:Nat} {a:AV} {v:Value} (e:l[j]?=some (IE n a v):=by rfl):V2 (Env.at w) a v:=
 (h.get j e).at fun c hc=>Nat.lt_of_lt_of_le hc (h.hi j e)
theorem hA.at {W w:World} {l:List fw} (h:c_ W w l) (j:Nat) {n:Nat} {a b:AV} {v u:Value} (e:l[j]?=some (hA n a v b u):=by rfl):V2 (Env.at w) a v∧V2 (Env.at w) b u:=
 ⟨(h.get j e).1.at fun c hc=>Nat.lt_of_lt_of_le hc (h.hi j e),(h.get j e).2.at fun c hc=>Nat.lt_of_lt_of_le hc (h.hi j e)⟩
theorem c_.mark {W w w':World} {l:List fw} (h:c_ W w l) (j:Nat) (i:fw) (e:l[j]?=some i) (ar:W.heap.size≤i.lo) {S:Nat→Prop} (ez: ∀c,S c→i.lo≤c∧c<i.hi) (hk:dC S w w') (hz:fw) (aE:hz.lo=i.lo) (bw:hz.hi=i.hi) (ai:hz.P w'):c_ W w' (l.set j hz):=by
 have j8:=(List.getElem?_eq_some_iff.1 e).1
 have yB:l[j]=i:=(List.getElem?_eq_some_iff.1 e).2
 refine⟨hk.os.trans h.os,hk.tape.trans h.tape,hk.output.trans h.output,Nat.le_trans h.size hk.size,fun c hc=>(hk.other c (Nat.lt_of_lt_of_le hc h.size) fun hs=>by have:=(ez c hs).1;omega).trans (h.h9 c hc),?_,?_⟩
 ·rw[List.pairwise_iff_getElem]
  have aD:=List.pairwise_iff_getElem.1 h.ord
  intro a b aC hb Sd
  simp only[List.length_set] at aC hb
  have:=aD a b aC hb Sd
  rw[List.getElem_set,List.getElem_set]
  by_cases aT:j=a
  ·subst aT
   rw[if_pos rfl,if_neg (by omega),bw,←yB];exact this
  ·rw[if_neg aT]
   by_cases e2:j=b
   ·subst e2
    rw[if_pos rfl,aE,←yB];exact this
   ·rw[if_neg e2];exact this
 ·intro q af
  obtain⟨a,aC⟩:=List.mem_iff_getElem?.1 af
  rw[List.getElem?_set] at aC
  by_cases aT:j=a
  ·subst aT
   rw[if_pos rfl,if_pos j8] at aC
   cases aC
   exact⟨by rw[bw];exact Nat.le_trans (h.all i (List.mem_of_getElem? e)).1 hk.size,ai⟩
  ·rw[if_neg aT] at aC
   have hm:=List.mem_of_getElem? aC
   refine⟨Nat.le_trans (h.all q hm).1 hk.size,q.av w w' (fun c cr ch=>hk.other c (Nat.lt_of_lt_of_le ch (h.all q hm).1) fun hs=> ?_) (h.all q hm).2⟩
   have aD:=List.pairwise_iff_getElem.1 h.ord
   have ta:=(List.getElem?_eq_some_iff.1 aC).1
   have HT:l[a]=q:=(List.getElem?_eq_some_iff.1 aC).2
   have h1:=ez c hs
   rcases Nat.lt_or_gt_of_ne aT with aS | mm
   ·have:=aD j a j8 ta aS
    rw[yB,HT] at this;omega
   ·have:=aD a j ta j8 mm
    rw[yB,HT] at this;omega
theorem c_.after {W w:World} {l:List fw} (h:c_ W w l) (i j:Nat) {a b:fw} (aC:l[i]?=some a) (hb:l[j]?=some b) (j7:i<j):a.hi≤b.lo:=by
 have h1:=(List.getElem?_eq_some_iff.1 aC).1
 have h2:=(List.getElem?_eq_some_iff.1 hb).1
 have:=List.pairwise_iff_getElem.1 h.ord i j h1 h2 j7
 rw[(List.getElem?_eq_some_iff.1 aC).2,(List.getElem?_eq_some_iff.1 hb).2] at this
 exact this
theorem c_.told {W w:World} {l:List fw} (h:c_ W w l) (j:Nat) {lo hi:Nat} {a:AV} {v:Value} (e:l[j]?=some (fK lo hi a v)):fD w (pF w lo hi) a v:=h.get j e
theorem c_.forget {W w w':World} {l:List fw} (h:c_ W w l) (j:Nat) {lo hi:Nat} {a:AV} {v:Value} (e:l[j]?=some (fK lo hi a v)) (ar:W.heap.size≤lo) (hk:dC (pF w lo hi) w w'):c_ W w' (l.set j (yU lo hi)):=
 h.mark j (fK lo hi a v) e ar (fun c hc=>⟨hc.1,hc.2.1⟩) hk (yU lo hi) rfl rfl trivial
theorem dC.pl {w w':World} {lo hi:Nat} (hk:dC (pF w lo hi) w w'): ∀c,pF w lo hi c→pF w' lo hi c:=fun c hc=>by
 obtain⟨aw,ty,hx⟩:=hc.2.2
 obtain⟨bM,h1,_⟩:=hk.at hx
 exact⟨hc.1,hc.2.1,bM,ty,h1⟩
theorem c_.aaS {W w w':World} {l:List fw} (h:c_ W w l) (j:Nat) {lo hi:Nat} {a b:AV} {v:Value} (e:l[j]?=some (fK lo hi a v)) (ar:W.heap.size≤lo) (hk:dC (pF w lo hi) w w') (bj: ∀B':Nat→Prop,(∀c,pF w lo hi c→B' c)→fD w' B' b v):c_ W w' (l.set j (fK lo hi b v)):=
 h.mark j (fK lo hi a v) e ar (fun c hc=>⟨hc.1,hc.2.1⟩) hk (fK lo hi b v) rfl rfl (bj _ hk.pl)
theorem c_.end {W w:World} {l:List fw} (h:c_ W w l):RowKit.Below W.heap.size W w:=⟨h.os,h.tape,h.output,h.size,h.h9⟩
theorem c_.start (W:World):c_ W W []:=⟨rfl,rfl,rfl,Nat.le_refl _,fun _ _=>rfl,List.Pairwise.nil,fun i h=>by cases h⟩
theorem a_.Xr {P:Program} {f:FuncId} {args:List AV} (eH:qk P f=true)
  (h: ∀(w:World) (vs:List Value),aK (V2 (Env.wd w)) args vs→Calls P f vs.toArray w fun e w'=>e= .returned (.bool true)∧RowKit.Below w.heap.size w w'):a_ P f args (.bool true):=by
 refine⟨eH,fun E vs bH ax aC=>(h E.w vs (aC.mono fun _ _ k=>k.wd ax bH)).mono ?_⟩
 rintro e w' ⟨rfl,hb⟩
 have hk: ∀c,E.PA c→w'.heap[c]?=E.w.heap[c]?:=fun c hc=>hb.block c (ax.db c hc)
 have hm:=fun b=>ax.fresh b (Nat.zero_le _)
 refine⟨.bool true,.bool true,[],{E with w:=w'},rfl,.inr (.inr (.bool true)),rfl,bH,{ax with
  heap:=fun b c HX=>by rw[(hm b).1] at HX;cases HX
  db:=fun c hc=>Nat.lt_of_lt_of_le (ax.db c hc) hb.size
  eQ:=fun c hc=>Nat.lt_of_lt_of_le (ax.eQ c hc) hb.size
  fq:=fun c hc=>Nat.lt_of_lt_of_le (ax.fq c hc) hb.size
  eK:=fun c hc=>(ax.eK c hc).same (hk c (ax.c4 c hc))},aQ.bool true,?_⟩
 exact⟨⟨fun _ h=>h,fun _ h=>h,hk,fun c hc=>hk c (ax.c4 c hc),fun _=>Nat.le_refl _,fun _ _ h _=>⟨h,rfl,rfl⟩,fun _ _ h=>h⟩,hb.os,hb.tape,hb.output,hb.size,fun c hc _ _=>hb.block c hc,fun _ _ h=> .inl h,fun _ h=> .inl h,fun _ h=> .inl h,fun _ h=> .inl h⟩
open Go Go.RowKit
set_option maxHeartbeats 1000000
set_option maxRecDepth 100000
theorem y8 (A:Option Addr) (c o n cap:Nat) (k:Int) (w:World) (aw:Array Value) (ty:TypeId) (c3:0<n→A=some ⟨c,o,none⟩∧w.heap[c]?=some (.cells aw ty (0,0))∧o+n≤aw.size) (aM:0≤k) (h1:k+n≤4611686018427387904):
    Calls Try.prog 56 #[.slice A n cap,.int .i64 k] w fun e w'=>e= .returned (.int .i64 (k+n))∧jb w w' c o n (nn k):=by
  have kq:=Lib.hid c3;clear c3
  go_enter Try.func56,Try.ntmps56
  go_wp2
  go_loopw [1,5] (fun q i wr=> ∃j:Nat,j≤n∧i= .int .i64 j∧q= .int .i64 (k+j)∧jb w wr c o j (nn k)) (fun _ i _=>n - (intOf i).toNat)
  case atStart=>exact⟨0,Nat.zero_le _,rfl,by simp,.refl _ _ _ _⟩
  case round=>
    obtain⟨j,ar,rfl,rfl,hm⟩:=hrel
    have fS:=Lib.hid hm;clear hm
    by_cases aS:j<n
    · obtain⟨aT,hw,ap⟩:=kq.out (by omega)
      have ja:=Lib.hid hw;clear hw
      subst aT
      obtain⟨u,hu,hf⟩:=fS.out.cell ja.out (j:=o+j) (by omega)
      go_wp2
      go_roundw
      case rel=>exact⟨j+1,by omega,by go_num,by go_num,fS.out.snoc rfl⟩
      case measure=>simp[intOf];omega
    · have e:j=n:=by omega
      subst e
      go_wp2
      go_ret
      exact⟨rfl,fS.out⟩
theorem KZ (A:Option Addr) (c o n cap:Nat) (k:Int) (w:World) (aw:Array Value) (ty:TypeId) (c3:0<n→A=some ⟨c,o,none⟩∧w.heap[c]?=some (.cells aw ty (0,0))∧o+n≤aw.size) (aM:0≤k) (h1:k+n≤4611686018427387904):
    Calls Try.prog 85 #[.slice A n cap,.int .i64 k] w fun e w'=>e= .returned (.int .i64 (k+n))∧jb w w' c o n (Gn k):=by
  have kq:=Lib.hid c3;clear c3
  go_enter Try.func85,Try.ntmps85
  go_wp2
  go_loopw [1,5] (fun q i wr=> ∃j:Nat,j≤n∧i= .int .i64 j∧q= .int .i64 (k+j)∧jb w wr c o j (Gn k)) (fun _ i _=>n - (intOf i).toNat)
  case atStart=>exact⟨0,Nat.zero_le _,rfl,by simp,.refl _ _ _ _⟩
  case round=>
    obtain⟨j,ar,rfl,rfl,hm⟩:=hrel
    have fS:=Lib.hid hm;clear hm
    by_cases aS:j<n
    · obtain⟨aT,hw,ap⟩:=kq.out (by omega)
      have ja:=Lib.hid hw;clear hw
      subst aT
      obtain⟨u,hu,hf⟩:=fS.out.cell ja.out (j:=o+j) (by omega)
      go_wp2
      go_roundw
      case rel=>exact⟨j+1,by omega,by go_num,by go_num,fS.out.snoc rfl⟩
      case measure=>simp[intOf];omega
    · have e:j=n:=by omega
      subst e
      go_wp2
      go_ret
      exact⟨rfl,fS.out⟩
theorem K0 (A:Option Addr) (c o n cap:Nat) (k:Int) (w:World) (aw:Array Value) (ty:TypeId) (c3:0<n→A=some ⟨c,o,none⟩∧w.heap[c]?=some (.cells aw ty (0,0))∧o+n*2≤aw.size) (aM:0≤k) (h1:k+2*n≤4611686018427387904):
    Calls Try.prog 134 #[.slice A n cap,.int .i64 k] w fun e w'=>e= .returned (.int .i64 (k+2*n))∧jb w w' c o (n*2) (nn k):=by
  have kq:=Lib.hid c3;clear c3
  go_enter Try.func134,Try.ntmps134
  go_wp2
  go_loopw [1,5] (fun q i wr=> ∃j:Nat,j≤n∧i= .int .i64 j∧q= .int .i64 (k+2*j)∧jb w wr c o (j*2) (nn k)) (fun _ i _=>n - (intOf i).toNat)
  case atStart=>exact⟨0,Nat.zero_le _,rfl,by simp,.refl _ _ _ _⟩
  case round=>
    obtain⟨j,ar,rfl,rfl,hm⟩:=hrel
    have fS:=Lib.hid hm;clear hm
    by_cases aS:j<n
    · obtain⟨aT,hw,ap⟩:=kq.out (by omega)
      have ja:=Lib.hid hw;clear hw
      subst aT
      obtain⟨N2,CN,vw⟩:=fS.out.cell ja.out (j:=o+j*2) (by omega)
      obtain⟨N3,og,vx⟩:=fS.out.cell ja.out (j:=o+j*2+1) (by omega)
      go_wp2
      go_roundw
      case rel=>exact⟨j+1,by omega,by go_num,by go_num,by
        have:=((fS.out.snoc (v:= .int .i64 (k+2*j)) (by unfold nn;congr 1;omega)).snoc (v:= .int .i64 (k+2*j+1)) (by unfold nn;congr 1;omega))
        rw[show(j+1)*2=j*2+1+1 by omega];exact this⟩
      case measure=>simp[intOf];omega
    · have e:j=n:=by omega
      subst e
      go_wp2
      go_ret
      exact⟨rfl,fS.out⟩
theorem K1 (A:Option Addr) (c o n cap:Nat) (k:Int) (w:World) (aw:Array Value) (ty:TypeId) (c3:0<n→A=some ⟨c,o,none⟩∧w.heap[c]?=some (.cells aw ty (0,0))∧o+n*2≤aw.size) (aM:0≤k) (h1:k+2*n≤4611686018427387904):
    Calls Try.prog 86 #[.slice A n cap,.int .i64 k] w fun e w'=>e= .returned (.int .i64 (k+2*n))∧jb w w' c o (n*2) (nn k):=by
  have kq:=Lib.hid c3;clear c3
  go_enter Try.func86,Try.ntmps86
  go_wp2
  go_loopw [1,5] (fun q i wr=> ∃j:Nat,j≤n∧i= .int .i64 j∧q= .int .i64 (k+2*j)∧jb w wr c o (j*2) (nn k)) (fun _ i _=>n - (intOf i).toNat)
  case atStart=>exact⟨0,Nat.zero_le _,rfl,by simp,.refl _ _ _ _⟩
  case round=>
    obtain⟨j,ar,rfl,rfl,hm⟩:=hrel
    have fS:=Lib.hid hm;clear hm
    by_cases aS:j<n
    · obtain⟨aT,hw,ap⟩:=kq.out (by omega)
      have ja:=Lib.hid hw;clear hw
      subst aT
      obtain⟨N2,CN,vw⟩:=fS.out.cell ja.out (j:=o+j*2) (by omega)
      obtain⟨N3,og,vx⟩:=fS.out.cell ja.out (j:=o+j*2+1) (by omega)
      go_wp2
      go_roundw
      case rel=>exact⟨j+1,by omega,by go_num,by go_num,by
        have:=((fS.out.snoc (v:= .int .i64 (k+2*j)) (by unfold nn;congr 1;omega)).snoc (v:= .int .i64 (k+2*j+1)) (by unfold nn;congr 1;omega))
        rw[show(j+1)*2=j*2+1+1 by omega];exact this⟩
      case measure=>simp[intOf];omega
    · have e:j=n:=by omega
      subst e
      go_wp2
      go_ret
      exact⟨rfl,fS.out⟩
open Go Go.RowKit
theorem dm.flat {w:World} {S:Nat→Prop} {sy e:aX} {L m n cap:Nat} {A:Option Addr} (Ty:sy= .int∨sy= .bool) (bH:e.cm=List.replicate L sy) (aM:0<L) (h:dm w S (.l e) m (.slice A n cap)):
    m=n*L∧(0<n→ ∃(c o:Nat) (aw:Array Value) (ty:TypeId),A=some ⟨c,o,none⟩∧S c∧w.heap[c]?=some (.cells aw ty (0,0))∧o+n*L≤aw.size∧ ∀q,q<n*L→ ∃u,aw[o+q]?=some u∧dm w S sy 1 u):=by
  by_cases ap:0<n
  · obtain⟨c,o,aw,ty,bP,c3,ez,bw,hm,bU,hv⟩:=h.cells ap
    have aE:e.cm.length=L:=by rw[bH,List.length_replicate]
    rw[aE] at hm bU
    have ar: ∀j,j<L→e.cm[j]?=some sy:=fun j ar=>by rw[bH,List.getElem?_replicate,if_pos ar]
    have one: ∀i j,i<n→j<L→bP i j=1∧ ∃u,aw[o+(i*L+j)]?=some u∧dm w S sy 1 u:=fun i j hi pZ=>by
      obtain⟨u,hu,hk⟩:=hv i j sy hi (ar j pZ)
      rw[aE] at hu
      have:bP i j=1:=by
        rcases Ty with rfl | rfl
        · exact hk.of_int.1
        · exact hk.of_bool.1
      exact⟨this,u,hu,this▸hk⟩
    refine⟨?_,fun _=>⟨c,o,aw,ty,c3,ez,bw,bU aM,fun q af=> ?_⟩⟩
    · rw[hm]
      exact Fs fun i hi=>(Fs (c:=1) fun j ar=>(one i j hi ar).1).trans (Nat.mul_one _)
    · have h1:q / L<n:=(Nat.div_lt_iff_lt_mul aM).2 af
      obtain⟨_,u,hu,hk⟩:=one (q / L) (q%L) h1 (Nat.mod_lt _ aM)
      refine⟨u,?_,hk⟩
      rw[Nat.mul_comm,Nat.div_add_mod] at hu
      exact hu
  · obtain rfl:n=0:=by omega
    exact⟨by rw[h.zero];simp,fun h=>absurd h ap⟩
theorem dm.same {w:World} {S:Nat→Prop} {u:Value} (h:dm w S .int 1 u) (n:Int):nU (some u) (some (.int .i64 n)):=by
  obtain⟨_,m,rfl⟩:=h.of_int;exact .inr (.inl ⟨_,_,rfl,rfl⟩)
theorem dm.YS {w:World} {S:Nat→Prop} {u:Value} (h:dm w S .bool 1 u) (n:Bool):nU (some u) (some (.bool n)):=by
  obtain⟨_,m,rfl⟩:=h.of_bool;exact .inr (.inr ⟨_,_,rfl,rfl⟩)
theorem zb:qO Try.prog 56 (.l .int):=fun w S m v k h aM h1=>by
  obtain⟨A,n,cap,rfl⟩:=h.qj
  obtain⟨rfl,hc⟩:=h.flat (.inl rfl) (L:=1) rfl (by omega)
  rw[Nat.mul_one] at h1 hc ⊢
  have h2:k+n≤4611686018427387904:=by exact h1
  have aq:(Ending.returned (.int .i64 (k+n)):Ending)= .returned (.int .i64 (k+((n:Nat):Int))):=by rfl
  by_cases ap:0<n
  · obtain⟨c,o,aw,ty,c3,ez,bw,aJ,hv⟩:=hc ap
    refine(y8 A c o n cap k w aw ty (fun _=>⟨c3,bw,aJ⟩) aM h2).mono ?_
    rintro e w' ⟨rfl,hm⟩
    refine⟨aq,hm.lR ez fun bM gA i hx hi=> ?_⟩
    rw[bw] at hx;cases hx
    obtain⟨u,hu,hk⟩:=hv i hi
    rw[hu];exact hk.same _
  · refine(y8 A w.heap.size 0 n cap k w #[] 0 (fun h=>absurd h ap) aM h2).mono ?_
    rintro e w' ⟨rfl,hm⟩
    exact⟨aq,hm.vX⟩
theorem DN:qO Try.prog 85 (.l .bool):=fun w S m v k h aM h1=>by
  obtain⟨A,n,cap,rfl⟩:=h.qj
  obtain⟨rfl,hc⟩:=h.flat (.inr rfl) (L:=1) rfl (by omega)
  rw[Nat.mul_one] at h1 hc ⊢
  have h2:k+n≤4611686018427387904:=by exact h1
  have aq:(Ending.returned (.int .i64 (k+n)):Ending)= .returned (.int .i64 (k+((n:Nat):Int))):=by rfl
  by_cases ap:0<n
  · obtain⟨c,o,aw,ty,c3,ez,bw,aJ,hv⟩:=hc ap
    refine(KZ A c o n cap k w aw ty (fun _=>⟨c3,bw,aJ⟩) aM h2).mono ?_
    rintro e w' ⟨rfl,hm⟩
    refine⟨aq,hm.lR ez fun bM gA i hx hi=> ?_⟩
    rw[bw] at hx;cases hx
    obtain⟨u,hu,hk⟩:=hv i hi
    rw[hu];exact hk.YS _
  · refine(KZ A w.heap.size 0 n cap k w #[] 0 (fun h=>absurd h ap) aM h2).mono ?_
    rintro e w' ⟨rfl,hm⟩
    exact⟨aq,hm.vX⟩
theorem K5:qO Try.prog 134 (.l .bG):=fun w S m v k h aM h1=>by
  obtain⟨A,n,cap,rfl⟩:=h.qj
  obtain⟨rfl,hc⟩:=h.flat (.inl rfl) (L:=2) rfl (by omega)
  have h2:k+2*n≤4611686018427387904:=by omega
  have aq:(Ending.returned (.int .i64 (k+2*n)):Ending)= .returned (.int .i64 (k+((n*2:Nat):Int))):=by congr 2;omega
  by_cases ap:0<n
  · obtain⟨c,o,aw,ty,c3,ez,bw,aJ,hv⟩:=hc ap
    refine(K0 A c o n cap k w aw ty (fun _=>⟨c3,bw,aJ⟩) aM h2).mono ?_
    rintro e w' ⟨rfl,hm⟩
    refine⟨aq,hm.lR ez fun bM gA i hx hi=> ?_⟩
    rw[bw] at hx;cases hx
    obtain⟨u,hu,hk⟩:=hv i hi
    rw[hu];exact hk.same _
  · refine(K0 A w.heap.size 0 n cap k w #[] 0 (fun h=>absurd h ap) aM h2).mono ?_
    rintro e w' ⟨rfl,hm⟩
    exact⟨aq,hm.vX⟩
theorem Xb:qO Try.prog 86 (.l .dO):=fun w S m v k h aM h1=>by
  obtain⟨A,n,cap,rfl⟩:=h.qj
  obtain⟨rfl,hc⟩:=h.flat (.inl rfl) (L:=2) rfl (by omega)
  have h2:k+2*n≤4611686018427387904:=by omega
  have aq:(Ending.returned (.int .i64 (k+2*n)):Ending)= .returned (.int .i64 (k+((n*2:Nat):Int))):=by congr 2;omega
  by_cases ap:0<n
  · obtain⟨c,o,aw,ty,c3,ez,bw,aJ,hv⟩:=hc ap
    refine(K1 A c o n cap k w aw ty (fun _=>⟨c3,bw,aJ⟩) aM h2).mono ?_
    rintro e w' ⟨rfl,hm⟩
    refine⟨aq,hm.lR ez fun bM gA i hx hi=> ?_⟩
    rw[bw] at hx;cases hx
    obtain⟨u,hu,hk⟩:=hv i hi
    rw[hu];exact hk.same _
  · refine(K1 A w.heap.size 0 n cap k w #[] 0 (fun h=>absurd h ap) aM h2).mono ?_
    rintro e w' ⟨rfl,hm⟩
    exact⟨aq,hm.vX⟩
open Go Go.RowKit
theorem W8:qO Try.prog 84 (.l (.l .bool)):=fun w S m v k h aM h1=>by
  obtain⟨A,n,cap,rfl⟩:=h.qj
  obtain⟨yM,c,o,bP,c3,rfl,aE,_,_⟩:=h.elem
  have H1:=Lib.hid h1;clear h1
  have kq:=Lib.hid c3;clear c3
  have cq:=Lib.hid aE;clear aE
  clear h
  go_enter Try.func84,Try.ntmps84
  go_wp2
  go_loopw [1,5] (fun q i wr=> ∃j:Nat,j≤n∧i= .int .i64 j∧q= .int .i64 (k+(b3 (fun i=>b3 (bP i) 1) j:Nat))∧dC S w wr) (fun _ i _=>n - (intOf i).toNat)
  case atStart=>exact⟨0,Nat.zero_le _,rfl,by simp[b3],.refl _ _⟩
  case round=>
    obtain⟨j,ar,rfl,rfl,hm⟩:=hrel
    have fS:=Lib.hid hm;clear hm
    by_cases aS:j<n
    · obtain rfl:=kq.out (by omega)
      obtain⟨dZ,c5,cP,h2⟩:=cq.out j 0 .bool aS rfl
      obtain⟨pT,tg⟩:=h2 wr fS.out
      rw[show o+(j*(aX.l aX.bool).cm.length+0)=o+j from by show o+(j*1+0)=_;omega] at pT
      have OF:=Lib.hid tg;clear tg h2
      have bj:b3 (fun i=>b3 (bP i) 1) (j+1)=b3 (fun i=>b3 (bP i) 1) j+bP j 0:=by show _+(0+bP j 0)=_;rw[Nat.zero_add]
      have hle:b3 (fun i=>b3 (bP i) 1) (j+1)≤b3 (fun i=>b3 (bP i) 1) n:=Ac (by omega)
      have ll:Hid (k+(b3 (fun i=>b3 (bP i) 1) j:Nat)+(bP j 0:Nat)≤4611686018427387904∧0≤k+(b3 (fun i=>b3 (bP i) 1) j:Nat)):=by
        unfold Hid
        have h1:k+(b3 (fun i=>b3 (bP i) 1) n:Nat)≤4611686018427387904:=H1.out
        omega
      have uK:=Lib.hid bj;clear bj hle
      go_wp2_with (go_at_call 85;refine(DN _ S _ _ _ OF.out ll.out.2 ll.out.1).mono ?_)
      first
      | (rintro e cj rfl Cg)
      | (rintro e cj ⟨rfl,Cg⟩)
      have xq:=Lib.hid (fS.out.trans Cg);clear Cg
      go_wp2
      go_roundw
      case rel=>exact⟨j+1,by omega,by go_num,by rw[uK.out];congr 1;omega,xq.out⟩
      case measure=>simp[intOf];omega
    · have e:j=n:=by omega
      subst e
      go_wp2
      go_ret
      exact⟨rfl,fS.out⟩
theorem Xc:qO Try.prog 83 (.l .dF):=fun w S m v k h aM h1=>by
  obtain⟨A,n,cap,rfl⟩:=h.qj
  obtain⟨yM,c,o,bP,c3,rfl,aE,_,_⟩:=h.elem
  have H1:=Lib.hid h1;clear h1
  have kq:=Lib.hid c3;clear c3
  have cq:=Lib.hid aE;clear aE
  clear h
  go_enter Try.func83,Try.ntmps83
  go_wp2
  go_loopw [1,5] (fun q i wr=> ∃j:Nat,j≤n∧i= .int .i64 j∧q= .int .i64 (k+(b3 (fun i=>b3 (bP i) 5) j:Nat))∧dC S w wr) (fun _ i _=>n - (intOf i).toNat)
  case atStart=>exact⟨0,Nat.zero_le _,rfl,by simp[b3],.refl _ _⟩
  case round=>
    obtain⟨j,ar,rfl,rfl,hm⟩:=hrel
    have fS:=Lib.hid hm;clear hm
    by_cases aS:j<n
    · obtain rfl:=kq.out (by omega)
      obtain⟨dZ,c5,cP,HH⟩:=cq.out j 0 .int aS rfl
      have nR:=Lib.hid HH;clear HH
      obtain⟨dB,e5,cr,yn⟩:=cq.out j 1 .bG aS rfl
      have sB:=Lib.hid yn;clear yn
      obtain⟨dw,n2,ch,mj⟩:=cq.out j 2 .bG aS rfl
      have nS:=Lib.hid mj;clear mj
      obtain⟨Ow,jV,gT,HI⟩:=cq.out j 3 .int aS rfl
      have FI:=Lib.hid HI;clear HI
      obtain⟨Ox,zd,jp,HJ⟩:=cq.out j 4 .int aS rfl
      have FJ:=Lib.hid HJ;clear HJ
      have bj:b3 (fun i=>b3 (bP i) 5) (j+1)=b3 (fun i=>b3 (bP i) 5) j+(bP j 0+bP j 1+bP j 2+bP j 3+bP j 4):=by
        show _+(0+bP j 0+bP j 1+bP j 2+bP j 3+bP j 4)=_
        rw[Nat.zero_add]
      have hle:b3 (fun i=>b3 (bP i) 5) (j+1)≤b3 (fun i=>b3 (bP i) 5) n:=Ac (by omega)
      have ll:Hid (0≤k+(b3 (fun i=>b3 (bP i) 5) j:Nat)∧k+(b3 (fun i=>b3 (bP i) 5) j:Nat)+((bP j 0:Nat)+(bP j 1:Nat)+(bP j 2:Nat)+(bP j 3:Nat)+(bP j 4:Nat))≤4611686018427387904):=by
        unfold Hid
        have h1:k+(b3 (fun i=>b3 (bP i) 5) n:Nat)≤4611686018427387904:=H1.out
        omega
      have uK:=Lib.hid bj;clear bj hle
      have pT:wr.cell? ⟨c,o+j*5,none⟩=some (.slice dZ c5 cP):=by
        have:=(nR.out wr fS.out).1
        rw[show o+(j*(aX.cm .dF).length+0)=o+j*5 from by show o+(j*5+0)=_;omega] at this
        exact this
      have pB:Hid (0≤k+(b3 (fun i=>b3 (bP i) 5) j:Nat)∧k+(b3 (fun i=>b3 (bP i) 5) j:Nat)+(bP j 0:Nat)≤4611686018427387904):=by unfold Hid;have:=ll.out;omega
      go_wp2_with (go_at_call 56;refine(zb wr S _ _ _ (nR.out wr fS.out).2 pB.out.1 pB.out.2).mono ?_)
      first
      | (rintro e cj rfl hb)
      | (rintro e cj ⟨rfl,hb⟩)
      have Ay:=Lib.hid (fS.out.trans hb);clear hb pT
      have rh:cj.cell? ⟨c,o+j*5+1,none⟩=some (.slice dB e5 cr):=by
        have:=(sB.out cj Ay.out).1
        rw[show o+(j*(aX.cm .dF).length+1)=o+j*5+1 from by show o+(j*5+1)=_;omega] at this
        exact this
      have pC:Hid (0≤k+(b3 (fun i=>b3 (bP i) 5) j:Nat)+(bP j 0:Nat)∧k+(b3 (fun i=>b3 (bP i) 5) j:Nat)+(bP j 0:Nat)+(bP j 1:Nat)≤4611686018427387904):=by unfold Hid;have:=ll.out;omega
      go_wp2_with (go_at_call 134;refine(K5 cj S _ _ _ (sB.out cj Ay.out).2 pC.out.1 pC.out.2).mono ?_)
      first
      | (rintro e dU rfl hb)
      | (rintro e dU ⟨rfl,hb⟩)
      have Az:=Lib.hid (Ay.out.trans hb);clear hb rh
      have vu:dU.cell? ⟨c,o+j*5+2,none⟩=some (.slice dw n2 ch):=by
        have:=(nS.out dU Az.out).1
        rw[show o+(j*(aX.cm .dF).length+2)=o+j*5+2 from by show o+(j*5+2)=_;omega] at this
        exact this
      have mI:Hid (0≤k+(b3 (fun i=>b3 (bP i) 5) j:Nat)+(bP j 0:Nat)+(bP j 1:Nat)∧k+(b3 (fun i=>b3 (bP i) 5) j:Nat)+(bP j 0:Nat)+(bP j 1:Nat)+(bP j 2:Nat)≤4611686018427387904):=by unfold Hid;have:=ll.out;omega
      go_wp2_with (go_at_call 134;refine(K5 dU S _ _ _ (nS.out dU Az.out).2 mI.out.1 mI.out.2).mono ?_)
      first
      | (rintro e gX rfl hb)
      | (rintro e gX ⟨rfl,hb⟩)
      have AA:=Lib.hid (Az.out.trans hb);clear hb vu
      have Sm:gX.cell? ⟨c,o+j*5+3,none⟩=some (.slice Ow jV gT):=by
        have:=(FI.out gX AA.out).1
        rw[show o+(j*(aX.cm .dF).length+3)=o+j*5+3 from by show o+(j*5+3)=_;omega] at this
        exact this
      have FK:Hid (0≤k+(b3 (fun i=>b3 (bP i) 5) j:Nat)+(bP j 0:Nat)+(bP j 1:Nat)+(bP j 2:Nat)∧k+(b3 (fun i=>b3 (bP i) 5) j:Nat)+(bP j 0:Nat)+(bP j 1:Nat)+(bP j 2:Nat)+(bP j 3:Nat)≤4611686018427387904):=by unfold Hid;have:=ll.out;omega
      go_wp2_with (go_at_call 56;refine(zb gX S _ _ _ (FI.out gX AA.out).2 FK.out.1 FK.out.2).mono ?_)
      first
      | (rintro e kO rfl hb)
      | (rintro e kO ⟨rfl,hb⟩)
      have AB:=Lib.hid (AA.out.trans hb);clear hb Sm
      have Sn:kO.cell? ⟨c,o+j*5+4,none⟩=some (.slice Ox zd jp):=by
        have:=(FJ.out kO AB.out).1
        rw[show o+(j*(aX.cm .dF).length+4)=o+j*5+4 from by show o+(j*5+4)=_;omega] at this
        exact this
      have FL:Hid (0≤k+(b3 (fun i=>b3 (bP i) 5) j:Nat)+(bP j 0:Nat)+(bP j 1:Nat)+(bP j 2:Nat)+(bP j 3:Nat)∧k+(b3 (fun i=>b3 (bP i) 5) j:Nat)+(bP j 0:Nat)+(bP j 1:Nat)+(bP j 2:Nat)+(bP j 3:Nat)+(bP j 4:Nat)≤4611686018427387904):=by unfold Hid;have:=ll.out;omega
      go_wp2_with (go_at_call 56;refine(zb kO S _ _ _ (FJ.out kO AB.out).2 FL.out.1 FL.out.2).mono ?_)
      first
      | (rintro e qC rfl hb)
      | (rintro e qC ⟨rfl,hb⟩)
      have OH:=Lib.hid (AB.out.trans hb);clear hb Sn
      go_wp2
      go_roundw
      case rel=>exact⟨j+1,by omega,by go_num,by rw[uK.out];congr 1;omega,OH.out⟩
      case measure=>simp[intOf];omega
    · have e:j=n:=by omega
      subst e
      go_wp2
      go_ret
      exact⟨rfl,fS.out⟩
theorem W_:qO Try.prog 87 (.l .held):=fun w S m v k h aM h1=>by
  obtain⟨A,n,cap,rfl⟩:=h.qj
  obtain⟨yM,c,o,bP,c3,rfl,aE,hi,hb⟩:=h.elem
  have H1:=Lib.hid h1;clear h1
  have kq:=Lib.hid c3;clear c3
  have cq:=Lib.hid aE;clear aE
  have As:=Lib.hid hi;clear hi
  have OD:=Lib.hid hb;clear hb
  clear h
  go_enter Try.func87,Try.ntmps87
  go_wp2
  go_loopw [1,5] (fun q i wr=> ∃j:Nat,j≤n∧i= .int .i64 j∧q= .int .i64 (k+(b3 (fun i=>b3 (bP i) 5) j:Nat))∧dC S w wr) (fun _ i _=>n - (intOf i).toNat)
  case atStart=>exact⟨0,Nat.zero_le _,rfl,by simp[b3],.refl _ _⟩
  case round=>
    obtain⟨j,ar,rfl,rfl,hm⟩:=hrel
    have fS:=Lib.hid hm;clear hm
    by_cases aS:j<n
    · obtain rfl:=kq.out (by omega)
      obtain⟨dx,cC⟩:=As.out j 0 aS rfl
      rw[show o+(j*(aX.cm .held).length+0)=o+j*5 from by show o+(j*5+0)=_;omega] at cC
      have cC:=Lib.hid cC
      obtain⟨aT,cx⟩:=As.out j 1 aS rfl
      rw[show o+(j*(aX.cm .held).length+1)=o+j*5+1 from by show o+(j*5+1)=_;omega] at cx
      have cx:=Lib.hid cx
      obtain⟨gI,iZ⟩:=As.out j 4 aS rfl
      rw[show o+(j*(aX.cm .held).length+4)=o+j*5+4 from by show o+(j*5+4)=_;omega] at iZ
      have iZ:=Lib.hid iZ
      obtain⟨c0,iY⟩:=OD.out j 3 aS rfl
      rw[show o+(j*(aX.cm .held).length+3)=o+j*5+3 from by show o+(j*5+3)=_;omega] at iY
      have iY:=Lib.hid iY
      obtain⟨dw,n2,ch,mj⟩:=cq.out j 2 .bool aS rfl
      rw[show o+(j*(aX.cm .held).length+2)=o+j*5+2 from by show o+(j*5+2)=_;omega] at mj
      have nS:=Lib.hid mj;clear mj
      have bj:b3 (fun i=>b3 (bP i) 5) (j+1)=b3 (fun i=>b3 (bP i) 5) j+(4+bP j 2):=by
        show _+(0+bP j 0+bP j 1+bP j 2+bP j 3+bP j 4)=_
        omega
      have hle:b3 (fun i=>b3 (bP i) 5) (j+1)≤b3 (fun i=>b3 (bP i) 5) n:=Ac (by omega)
      obtain⟨y,bd⟩: ∃y:Int,k+(b3 (fun i=>b3 (bP i) 5) j:Nat)=y:=⟨_,rfl⟩
      obtain⟨bA,oc⟩: ∃bA:Nat,bP j 2=bA:=⟨_,rfl⟩
      rw[oc] at nS
      have h1:k+(b3 (fun i=>b3 (bP i) 5) n:Nat)≤4611686018427387904:=H1.out
      have abP:0≤y:=by omega
      have tu:y+bA+4≤4611686018427387904:=by omega
      have uK:Hid (k+(b3 (fun i=>b3 (bP i) 5) (j+1):Nat)=y+1+1+bA+1+1):=by unfold Hid;omega
      rw[bd]
      clear bj hle h1 dx aT c0 gI bd oc
      obtain⟨N2,CN,vw,pE⟩:=cC.out wr fS.out
      obtain⟨N3,og,vx,_⟩:=cx.out wr fS.out
      obtain⟨p6,_⟩:=nS.out wr fS.out
      have OK:=Lib.hid pE;clear pE
      have FP:Hid (∀x l8,dC S w ((wr.setCell ⟨c,o+j*5,none⟩ (.int .i64 x)).setCell ⟨c,o+j*5+1,none⟩ (.int .i64 l8))):=fun x l8=>by
        obtain⟨_,_,_,oL⟩:=cx.out _ (OK.out x)
        exact oL l8
      have mI:Hid (0≤y+1+1∧y+1+1+(bA:Nat)≤4611686018427387904):=by unfold Hid;omega
      go_wp2_with (go_at_call 85;refine(DN _ S _ _ _ (nS.out _ (FP.out _ _)).2 mI.out.1 mI.out.2).mono ?_)
      first
      | (rintro e cj rfl hb)
      | (rintro e cj ⟨rfl,hb⟩)
      have xq:=Lib.hid ((FP.out _ _).trans hb);clear hb
      clear CN vw og vx p6
      obtain⟨abZ,abN,abE,xr⟩:=iY.out cj xq.out
      obtain⟨ab0,abO,abF,_⟩:=iZ.out cj xq.out
      have OL:=Lib.hid xr;clear xr
      have OM:Hid (∀x l8,dC S w ((cj.setCell ⟨c,o+j*5+3,none⟩ (.bool x)).setCell ⟨c,o+j*5+4,none⟩ (.int .i64 l8))):=fun x l8=>by
        obtain⟨_,_,_,OI⟩:=iZ.out _ (OL.out x)
        exact OI l8
      go_wp2
      go_roundw
      case rel=>exact⟨j+1,by omega,by go_num,by rw[uK.out],OM.out _ _⟩
      case measure=>simp[intOf];omega
    · have e:j=n:=by omega
      subst e
      go_wp2
      go_ret
      exact⟨rfl,fS.out⟩
open Go Go.RowKit
theorem Xa (w:World) (S:Nat→Prop) (ui dq:Int) (dZ dB dw:Option Addr) (c5 cP ak e5 cr a1 n2 ch bA:Nat) (k:Int) (pE:dm w S (.l .int) ak (.slice dZ c5 cP)) (oL:dm w S (.l .dF) a1 (.slice dB e5 cr)) (qN:dm w S (.l (.l .bool)) bA (.slice dw n2 ch)) (aM:0≤k) (h1:k+(ak:Nat)+(a1:Nat)+(bA:Nat)≤4611686018427387904):
    Calls Try.prog 35 #[.agg #[.int .i64 ui,.slice dZ c5 cP,.slice dB e5 cr,.slice dw n2 ch,.int .i64 dq],.int .i64 k] w fun kZ w'=>kZ= .returned (.int .i64 (k+(ak:Nat)+(a1:Nat)+(bA:Nat)))∧dC S w w':=by
  have ja:Hid (dC S w (w.alloc (.cells #[.int .i64 ui,.slice dZ c5 cP,.slice dB e5 cr,.slice dw n2 ch,.int .i64 dq] 29))):=dC.below ((Below.refl _ _).alloc (Nat.le_refl _) _)
  have uL:Hid ((w.alloc (.cells #[.int .i64 ui,.slice dZ c5 cP,.slice dB e5 cr,.slice dw n2 ch,.int .i64 dq] 29)).heap[w.heap.size]?=some (.cells #[.int .i64 ui,.slice dZ c5 cP,.slice dB e5 cr,.slice dw n2 ch,.int .i64 dq] 29 (0,0))):=sI _ _
  have nR:=Lib.hid pE;clear pE
  have sB:=Lib.hid oL;clear oL
  have nS:=Lib.hid qN;clear qN
  go_enter Try.func35,Try.ntmps35
  have Aw:Hid (dC S (w.alloc (.cells #[.int .i64 ui,.slice dZ c5 cP,.slice dB e5 cr,.slice dw n2 ch,.int .i64 dq] 29)) (w.alloc (.cells #[.int .i64 ui,.slice dZ c5 cP,.slice dB e5 cr,.slice dw n2 ch,.int .i64 dq] 29))):=dC.refl _ _
  have pB:Hid (0≤k∧k+(ak:Nat)≤4611686018427387904):=by unfold Hid;omega
  go_wp2_with (go_at_call 56;refine(zb _ S _ _ _ (nR.out.lR ja.out) pB.out.1 pB.out.2).mono ?_)
  first
  | (rintro e cj rfl hb)
  | (rintro e cj ⟨rfl,hb⟩)
  have qL:=Lib.hid (Aw.out.trans hb);clear hb
  have rh:cj.cell? ⟨w.heap.size,2,none⟩=some (.slice dB e5 cr):=qL.out.head uL.out rfl
  have pC:Hid (0≤k+(ak:Nat)∧k+(ak:Nat)+(a1:Nat)≤4611686018427387904):=by unfold Hid;omega
  go_wp2_with (go_at_call 83;refine(Xc _ S _ _ _ (sB.out.lR (ja.out.trans qL.out)) pC.out.1 pC.out.2).mono ?_)
  first
  | (rintro e dU rfl hb)
  | (rintro e dU ⟨rfl,hb⟩)
  have qM:=Lib.hid (qL.out.trans hb);clear hb rh
  have vu:dU.cell? ⟨w.heap.size,3,none⟩=some (.slice dw n2 ch):=qM.out.head uL.out rfl
  have mI:Hid (0≤k+(ak:Nat)+(a1:Nat)∧k+(ak:Nat)+(a1:Nat)+(bA:Nat)≤4611686018427387904):=by unfold Hid;omega
  go_wp2_with (go_at_call 84;refine(W8 _ S _ _ _ (nS.out.lR (ja.out.trans qM.out)) mI.out.1 mI.out.2).mono ?_)
  first
  | (rintro e gX rfl hb)
  | (rintro e gX ⟨rfl,hb⟩)
  have Ax:=Lib.hid (qM.out.trans hb);clear hb vu
  go_wp2
  go_ret
  exact⟨rfl,ja.out.trans Ax.out⟩
theorem W9 (w:World) (S:Nat→Prop) (ok:Bool) (dZ dB dw:Option Addr) (c5 cP ak e5 cr a1 n2 ch bA:Nat) (k:Int) (pE:dm w S (.l .bool) ak (.slice dZ c5 cP)) (oL:dm w S (.l .dO) a1 (.slice dB e5 cr)) (qN:dm w S (.l .held) bA (.slice dw n2 ch)) (aM:0≤k) (h1:k+(ak:Nat)+(a1:Nat)+(bA:Nat)≤4611686018427387904):
    Calls Try.prog 36 #[.agg #[.bool ok,.slice dZ c5 cP,.slice dB e5 cr,.slice dw n2 ch],.int .i64 k] w fun kZ w'=>kZ= .returned (.int .i64 (k+(ak:Nat)+(a1:Nat)+(bA:Nat)))∧dC S w w':=by
  have ja:Hid (dC S w (w.alloc (.cells #[.bool ok,.slice dZ c5 cP,.slice dB e5 cr,.slice dw n2 ch] 40))):=dC.below ((Below.refl _ _).alloc (Nat.le_refl _) _)
  have uL:Hid ((w.alloc (.cells #[.bool ok,.slice dZ c5 cP,.slice dB e5 cr,.slice dw n2 ch] 40)).heap[w.heap.size]?=some (.cells #[.bool ok,.slice dZ c5 cP,.slice dB e5 cr,.slice dw n2 ch] 40 (0,0))):=sI _ _
  have nR:=Lib.hid pE;clear pE
  have sB:=Lib.hid oL;clear oL
  have nS:=Lib.hid qN;clear qN
  go_enter Try.func36,Try.ntmps36
  have Aw:Hid (dC S (w.alloc (.cells #[.bool ok,.slice dZ c5 cP,.slice dB e5 cr,.slice dw n2 ch] 40)) (w.alloc (.cells #[.bool ok,.slice dZ c5 cP,.slice dB e5 cr,.slice dw n2 ch] 40))):=dC.refl _ _
  have pB:Hid (0≤k∧k+(ak:Nat)≤4611686018427387904):=by unfold Hid;omega
  go_wp2_with (go_at_call 85;refine(DN _ S _ _ _ (nR.out.lR ja.out) pB.out.1 pB.out.2).mono ?_)
  first
  | (rintro e cj rfl hb)
  | (rintro e cj ⟨rfl,hb⟩)
  have qL:=Lib.hid (Aw.out.trans hb);clear hb
  have rh:cj.cell? ⟨w.heap.size,2,none⟩=some (.slice dB e5 cr):=qL.out.head uL.out rfl
  have pC:Hid (0≤k+(ak:Nat)∧k+(ak:Nat)+(a1:Nat)≤4611686018427387904):=by unfold Hid;omega
  go_wp2_with (go_at_call 86;refine(Xb _ S _ _ _ (sB.out.lR (ja.out.trans qL.out)) pC.out.1 pC.out.2).mono ?_)
  first
  | (rintro e dU rfl hb)
  | (rintro e dU ⟨rfl,hb⟩)
  have qM:=Lib.hid (qL.out.trans hb);clear hb rh
  have vu:dU.cell? ⟨w.heap.size,3,none⟩=some (.slice dw n2 ch):=qM.out.head uL.out rfl
  have mI:Hid (0≤k+(ak:Nat)+(a1:Nat)∧k+(ak:Nat)+(a1:Nat)+(bA:Nat)≤4611686018427387904):=by unfold Hid;omega
  go_wp2_with (go_at_call 87;refine(W_ _ S _ _ _ (nS.out.lR (ja.out.trans qM.out)) mI.out.1 mI.out.2).mono ?_)
  first
  | (rintro e gX rfl hb)
  | (rintro e gX ⟨rfl,hb⟩)
  have Ax:=Lib.hid (qM.out.trans hb);clear hb vu
  go_wp2
  go_ret
  exact⟨rfl,ja.out.trans Ax.out⟩
def cs:List (Nat×aX):=[(23,.u8),(25,.int),(26,.dF),(27,(.l .bool)),(33,.done),(35,.lB),(36,.bool),(37,.dO),(38,.held),(46,.dF),(66,.dO),(67,.held),(78,.bG),(138,.bG),(144,(.l .int)),(161,(.l .bG)),(170,.str)]
end Go.Proofs.Ytglpfccgmfhkdaa.Fw
set_option linter.unusedVariables false
set_option maxRecDepth 100000
set_option maxHeartbeats 4000000
set_option linter.unusedSimpArgs false
namespace Go.Proofs.Ytglpfccgmfhkdaa.Fw
open Go
attribute [local irreducible] evS evSD WpS Weak Oper.looksAt
def Ke (a0:(List Int)) (J:Int) (ad:Int):Prop:=
 a0.length≤4611686018427387904→((decide ((IntKind.i64.wrap (J - (a0.length:Int)))<0))=true→(-1)=ad)∧((!(decide ((IntKind.i64.wrap (J - (a0.length:Int)))<0)))=true→(IntKind.i64.wrap (J - (a0.length:Int)))=ad)
theorem VQ (a0:(List Int)) (J:Int) (ai:eZ a0 J):a_ Try.prog 64 [bq bO a0,au J] (au (bX a0 J)):=(fun(h:Ke a0 J (bX a0 J))=>a_.run (ps:=[(.l .int),.int]) (rs:=[.int]) (x:=(a0,J,())) (r:=((bX a0 J),())) ⟨12,cs,[]⟩ ⟨[],[],[],[],[]⟩ .nil Try.func64 h) (by
 unfold Ke
 exact fun ap=>Aa ai ap)
def Kf:cw Try.prog:=⟨64,[(.l .int),.int],[.int],some fun x=>eZ x.1 x.2.1,fun x=>((bX x.1 x.2.1),()),fun x h=>VQ x.1 x.2.1 h⟩
def Kg (a0:(List b9)) (J:Int) (ad:Int):Prop:=
 a0.length≤4611686018427387904→((decide ((IntKind.i64.wrap (J - (a0.length:Int)))<0))=true→(-1)=ad)∧((!(decide ((IntKind.i64.wrap (J - (a0.length:Int)))<0)))=true→(IntKind.i64.wrap (J - (a0.length:Int)))=ad)
theorem VR (a0:(List b9)) (J:Int) (ai:eZ a0 J):a_ Try.prog 159 [bq di a0,au J] (au (bX a0 J)):=(fun(h:Kg a0 J (bX a0 J))=>a_.run (ps:=[(.l .bG),.int]) (rs:=[.int]) (x:=(a0,J,())) (r:=((bX a0 J),())) ⟨12,cs,[]⟩ ⟨[],[],[],[],[]⟩ .nil Try.func159 h) (by
 unfold Kg
 exact fun ap=>Aa ai ap)
def VS:cw Try.prog:=⟨159,[(.l .bG),.int],[.int],some fun x=>eZ x.1 x.2.1,fun x=>((bX x.1 x.2.1),()),fun x h=>VR x.1 x.2.1 h⟩
def Kn (a0:Way) (J ad:Int):Prop:=
  ((decide ((bX a0.bZ (bX a0.bJ (bX a0.a7 (bX a0.ag J))))<0))=true→(-1)=ad)∧((!(decide ((bX a0.bZ (bX a0.bJ (bX a0.a7 (bX a0.ag J))))<0)))=true→(eZ a0.c6 (bX a0.bZ (bX a0.bJ (bX a0.a7 (bX a0.ag J)))))∧(((decide ((bX a0.c6 (bX a0.bZ (bX a0.bJ (bX a0.a7 (bX a0.ag J)))))<0))=true→(-1)=ad)∧((!(decide ((bX a0.c6 (bX a0.bZ (bX a0.bJ (bX a0.a7 (bX a0.ag J)))))<0)))=true→(bX a0.c6 (bX a0.bZ (bX a0.bJ (bX a0.a7 (bX a0.ag J)))))=ad)))
def Ko (a0:Way) (J ad:Int):Prop:=
  ((decide ((bX a0.a7 (bX a0.ag J))<0))=true→(-1)=ad)∧((!(decide ((bX a0.a7 (bX a0.ag J))<0)))=true→(eZ a0.bJ (bX a0.a7 (bX a0.ag J)))∧(((decide ((bX a0.bJ (bX a0.a7 (bX a0.ag J)))<0))=true→(-1)=ad)∧((!(decide ((bX a0.bJ (bX a0.a7 (bX a0.ag J)))<0)))=true→(eZ a0.bZ (bX a0.bJ (bX a0.a7 (bX a0.ag J))))∧(Kn a0 J ad))))
def Km (a0:Way) (J:Int) (ad:Int):Prop:=
 (eZ a0.ag J)∧(((decide ((bX a0.ag J)<0))=true→(-1)=ad)∧((!(decide ((bX a0.ag J)<0)))=true→(eZ a0.a7 (bX a0.ag J))∧(Ko a0 J ad)))
theorem VY (a0:Way) (J:Int) (ai:eZ a0 J):a_ Try.prog 125 [.agg (dI false a0),au J] (au (oD a0 J)):=(fun(h:Km a0 J (oD a0 J))=>a_.run (ps:=[.dF,.int]) (rs:=[.int]) (x:=(a0,J,())) (r:=((oD a0 J),())) ⟨36,cs,[Kf,VS]⟩ ⟨[],[],[],[],[]⟩ .nil Try.func125 h) (by
 unfold Km Ko Kn oD px bX
 have ai:0≤J∧J≤1048576:=ai
 refine⟨ai,mE (m:=a0.a7.length+a0.bJ.length+a0.bZ.length+a0.c6.length) ai (by omega) fun c k=>⟨k,?_⟩⟩
 rw[pd ai.1 c]
 refine mE (m:=a0.bJ.length+a0.bZ.length+a0.c6.length) ai (by omega) fun c k=>⟨k,?_⟩
 rw[pd ai.1 c]
 refine mE (m:=a0.bZ.length+a0.c6.length) ai (by omega) fun c k=>⟨k,?_⟩
 rw[pd ai.1 c]
 refine mE (m:=a0.c6.length) ai (by omega) fun c k=>⟨k,?_⟩
 rw[pd ai.1 c]
 exact mE (m:=0) ai (by omega) fun c k=>rfl)
def VZ:cw Try.prog:=⟨125,[.dF,.int],[.int],some fun x=>eZ x.1 x.2.1,fun x=>((oD x.1 x.2.1),()),fun x h=>VY x.1 x.2.1 h⟩
def Kl (aj:Int→Int→Prop) (ak:Int→Int→Nat) (a0:(List Way)) (J ad:Int):Prop:=
  aj (IntKind.i64.wrap (J - (a0.length:Int))) 0∧ ∀(v1:Int) (v5:Int),aj v1 v5→(((decide (v5<(a0.length:Int)))=false→v1=ad)∧((decide (v5<(a0.length:Int)))=true→(((0≤v5∧v5.toNat<a0.length)∧(eZ (nth a0 v5) v1))∧((decide ((oD (nth a0 v5) v1)<0))=true→(-1)=ad))∧((!(decide ((oD (nth a0 v5) v1)<0)))=true→aj (oD (nth a0 v5) v1) (IntKind.i64.wrap (v5+1))∧ak (oD (nth a0 v5) v1) (IntKind.i64.wrap (v5+1))<ak v1 v5)))
def Kk (a0:(List Way)) (J:Int) (ad:Int) (aj:Int→Int→Prop) (ak:Int→Int→Nat):Prop:=
 a0.length≤4611686018427387904→((decide ((IntKind.i64.wrap (J - (a0.length:Int)))<0))=true→(-1)=ad)∧((!(decide ((IntKind.i64.wrap (J - (a0.length:Int)))<0)))=true→Kl aj ak a0 J ad)
theorem VW (a0:(List Way)) (J:Int) (ai:eZ a0 J):a_ Try.prog 65 [bq (dI false) a0,au J] (au (nF a0 J)):=(fun(aj:Int→Int→Prop) (ak:Int→Int→Nat) (h:Kk a0 J (nF a0 J) aj ak)=>a_.run (ps:=[(.l .dF),.int]) (rs:=[.int]) (x:=(a0,J,())) (r:=((nF a0 J),())) ⟨27,cs,[VZ]⟩ ⟨[14],[],[],[],[]⟩ (.lp [] [0] [] [.int,.int] [1,5] (fun aV=>[(1,.i .i64 aV.1),(5,.i .i64 aV.2.1)]) (fun aV=>aj aV.1 aV.2.1) (fun aV=>ak aV.1 aV.2.1) fun _=> .nil) Try.func65 h) (us a0 px J) (uu a0) (by
 unfold Kk Kl
 exact fun ap=>Fi (g:=oD) (fun _ _=>rfl) ai ap)
def VX:cw Try.prog:=⟨65,[(.l .dF),.int],[.int],some fun x=>eZ x.1 x.2.1,fun x=>((nF x.1 x.2.1),()),fun x h=>VW x.1 x.2.1 h⟩
def J9 (a0:(List Bool)) (J:Int) (ad:Int):Prop:=
 a0.length≤4611686018427387904→((decide ((IntKind.i64.wrap (J - (a0.length:Int)))<0))=true→(-1)=ad)∧((!(decide ((IntKind.i64.wrap (J - (a0.length:Int)))<0)))=true→(IntKind.i64.wrap (J - (a0.length:Int)))=ad)
theorem VK (a0:(List Bool)) (J:Int) (ai:eZ a0 J):a_ Try.prog 94 [bq aU a0,au J] (au (bX a0 J)):=(fun(h:J9 a0 J (bX a0 J))=>a_.run (ps:=[(.l .bool),.int]) (rs:=[.int]) (x:=(a0,J,())) (r:=((bX a0 J),())) ⟨12,cs,[]⟩ ⟨[],[],[],[],[]⟩ .nil Try.func94 h) (by
 unfold J9
 exact fun ap=>Aa ai ap)
def Dw:cw Try.prog:=⟨94,[(.l .bool),.int],[.int],some fun x=>eZ x.1 x.2.1,fun x=>((bX x.1 x.2.1),()),fun x h=>VK x.1 x.2.1 h⟩
def J8 (aj:Int→Int→Prop) (ak:Int→Int→Nat) (a0:(List (List Bool))) (J ad:Int):Prop:=
  aj (IntKind.i64.wrap (J - (a0.length:Int))) 0∧ ∀(v1:Int) (v5:Int),aj v1 v5→(((decide (v5<(a0.length:Int)))=false→v1=ad)∧((decide (v5<(a0.length:Int)))=true→(((0≤v5∧v5.toNat<a0.length)∧(eZ (nth a0 v5) v1))∧((decide ((bX (nth a0 v5) v1)<0))=true→(-1)=ad))∧((!(decide ((bX (nth a0 v5) v1)<0)))=true→aj (bX (nth a0 v5) v1) (IntKind.i64.wrap (v5+1))∧ak (bX (nth a0 v5) v1) (IntKind.i64.wrap (v5+1))<ak v1 v5)))
def J7 (a0:(List (List Bool))) (J:Int) (ad:Int) (aj:Int→Int→Prop) (ak:Int→Int→Nat):Prop:=
 a0.length≤4611686018427387904→((decide ((IntKind.i64.wrap (J - (a0.length:Int)))<0))=true→(-1)=ad)∧((!(decide ((IntKind.i64.wrap (J - (a0.length:Int)))<0)))=true→J8 aj ak a0 J ad)
theorem VI (a0:(List (List Bool))) (J:Int) (ai:eZ a0 J):a_ Try.prog 66 [bq (e1 aU false) a0,au J] (au (qx a0 J)):=(fun(aj:Int→Int→Prop) (ak:Int→Int→Nat) (h:J7 a0 J (qx a0 J) aj ak)=>a_.run (ps:=[(.l (.l .bool)),.int]) (rs:=[.int]) (x:=(a0,J,())) (r:=((qx a0 J),())) ⟨27,cs,[Dw]⟩ ⟨[14],[],[],[],[]⟩ (.lp [] [0] [] [.int,.int] [1,5] (fun aV=>[(1,.i .i64 aV.1),(5,.i .i64 aV.2.1)]) (fun aV=>aj aV.1 aV.2.1) (fun aV=>ak aV.1 aV.2.1) fun _=> .nil) Try.func66 h) (us a0 List.length J) (uu a0) (by
 unfold J7 J8
 exact fun ap=>Fi (g:=bX) (fun _ _=>rfl) ai ap)
def VJ:cw Try.prog:=⟨66,[(.l (.l .bool)),.int],[.int],some fun x=>eZ x.1 x.2.1,fun x=>((qx x.1 x.2.1),()),fun x h=>VI x.1 x.2.1 h⟩
def Ki (a0:aN) (J ad:Int):Prop:=
  ((decide ((nF a0.M (bX a0.bu J))<0))=true→(-1)=ad)∧((!(decide ((nF a0.M (bX a0.bu J))<0)))=true→(eZ a0.bz (nF a0.M (bX a0.bu J)))∧(((decide ((qx a0.bz (nF a0.M (bX a0.bu J)))<0))=true→(-1)=ad)∧((!(decide ((qx a0.bz (nF a0.M (bX a0.bu J)))<0)))=true→(qx a0.bz (nF a0.M (bX a0.bu J)))=ad)))
def Kh (a0:aN) (J:Int) (ad:Int):Prop:=
 (eZ a0.bu J)∧(((decide ((bX a0.bu J)<0))=true→(-1)=ad)∧((!(decide ((bX a0.bu J)<0)))=true→(eZ a0.M (bX a0.bu J))∧(Ki a0 J ad)))
theorem VT (a0:aN) (J:Int) (ai:eZ a0 J):a_ Try.prog 23 [.agg (bL false a0),au J] (au (nE a0 J)):=(fun(h:Kh a0 J (nE a0 J))=>a_.run (ps:=[.dN,.int]) (rs:=[.int]) (x:=(a0,J,())) (r:=((nE a0 J),())) ⟨24,cs,[Kf,VX,VJ]⟩ ⟨[],[],[],[],[]⟩ .nil Try.func23 h) (by
 unfold Kh Ki nE iy bX nF qx
 have ai:0≤J∧J≤1048576:=ai
 refine⟨ai,mE (m:=ss a0.M+qX a0.bz) ai (by omega) fun c k=>⟨k,?_⟩⟩
 rw[pd ai.1 c]
 refine mE (m:=qX a0.bz) ai (by omega) fun c k=>⟨k,?_⟩
 rw[pd ai.1 c]
 exact mE (m:=0) ai (by omega) fun c k=>rfl)
def ZL (a0:Int) (J:Int) (a2:Int) (ad:Bool):Prop:=
 ((decide (a0 ≥ J))&&(decide (a0≤a2)))=ad
theorem EP (a0:Int) (J:Int) (a2:Int):a_ Try.prog 67 [au a0,au J,au a2] (ay (bN a0 J a2)):=(fun(h:ZL a0 J a2 (bN a0 J a2))=>a_.run (ps:=[.int,.int,.int]) (rs:=[.bool]) (x:=(a0,J,a2,())) (r:=((bN a0 J a2),())) ⟨15,cs,[]⟩ ⟨[],[],[],[],[]⟩ .nil Try.func67 h) (by
 rfl)
def wY:cw Try.prog:=⟨67,[.int,.int,.int],[.bool],none,fun x=>((bN x.1 x.2.1 x.2.2.1),()),fun x h=>EP x.1 x.2.1 x.2.2.1⟩
def Nf (aj:Int→Prop) (ak:Int→Nat) (bb:Int→Int→Prop) (a1:Int→Int→Nat) (a0 J:(List Int)) (ad:Bool) (v11:Int):Prop:=
  bb v11 0∧ ∀(hj:Int),bb v11 hj→(((decide (hj<(J.length:Int)))=false→aj (IntKind.i64.wrap (v11+1))∧ak (IntKind.i64.wrap (v11+1))<ak v11)∧((decide (hj<(J.length:Int)))=true→((0≤hj∧hj.toNat<J.length)∧(((nth a0 v11)==(nth J hj))=true→true=ad))∧((!((nth a0 v11)==(nth J hj)))=true→bb v11 (IntKind.i64.wrap (hj+1))∧a1 v11 (IntKind.i64.wrap (hj+1))<a1 v11 hj)))
def Nd (a0:(List Int)) (J:(List Int)) (ad:Bool) (aj:Int→Prop) (ak:Int→Nat) (bb:Int→Int→Prop) (a1:Int→Int→Nat):Prop:=
 a0.length≤4611686018427387904→aj 0∧ ∀(v11:Int),aj v11→(((decide (v11<(a0.length:Int)))=false→false=ad)∧((decide (v11<(a0.length:Int)))=true→(0≤v11∧v11.toNat<a0.length)∧(J.length≤4611686018427387904→Nf aj ak bb a1 a0 J ad v11)))
theorem ZS (a0:(List Int)) (J:(List Int)):a_ Try.prog 69 [bq bO a0,bq bO J] (ay (meets a0 J)):=(fun(aj:Int→Prop) (ak:Int→Nat) (bb:Int→Int→Prop) (a1:Int→Int→Nat) (h:Nd a0 J (meets a0 J) aj ak bb a1)=>a_.run (ps:=[(.l .int),(.l .int)]) (rs:=[.bool]) (x:=(a0,J,())) (r:=((meets a0 J),())) ⟨26,cs,[]⟩ ⟨[],[],[],[],[]⟩ (dz [1,9,10] [] 11 aj ak fun aV=>(dz [1,6,9,10,11,15,16] [] 17 (bb aV) (a1 aV) fun _=> .nil)) Try.func69 h) (cl a0.length (fun j=>fI J (nth a0 j))) (cz a0.length) (fun v=>cl J.length (fun k=>nth a0 v==nth J k)) (fun v=>cz J.length) (by
 unfold Nd Nf
 intro ap
 refine⟨dl (c8 _),fun v a6=>⟨fun hv=> ?_,fun hv=>⟨cA a6 hv,fun hm=>⟨dl (c8 _),fun k hK=>⟨fun hk=> ?_,fun hk=>⟨⟨cA hK hk,fun ai=> ?_⟩,fun ai=>de (dD hm) hK hk (not_eq ai)⟩⟩⟩⟩⟩⟩
 ·exact(w9 (q:=fun x=>fI J x) a6 hv).symm
 ·exact de (dD ap) a6 hv (Se (fB hK hk))
 ·exact(Ag (q:=fun x=>fI J x) a6 hv (Sg (cA hK hk).2 ai)).symm)
def Ng:cw Try.prog:=⟨69,[(.l .int),(.l .int)],[.bool],none,fun x=>((meets x.1 x.2.1),()),fun x h=>ZS x.1 x.2.1⟩
def Kz (aj:(List Int)→Int→Prop) (ak:(List Int)→Int→Nat) (a0 ad:(List Int)):Prop:=
  aj (List.replicate (a0.length:Int).toNat (0:Int)) 0∧ ∀(bC:(List Int)) (v4:Int),aj bC v4→(((decide (v4<(a0.length:Int)))=false→bC.length≤4611686018427387904∧bC=ad)∧((decide (v4<(a0.length:Int)))=true→((0≤v4∧v4.toNat<a0.length)∧((0≤v4∧v4.toNat<bC.length)∧(v4.toNat<bC.length)))∧(aj (bC.set v4.toNat (nth a0 v4)) (IntKind.i64.wrap (v4+1))∧ak (bC.set v4.toNat (nth a0 v4)) (IntKind.i64.wrap (v4+1))<ak bC v4)))
def Ky (a0:(List Int)) (ad:(List Int)) (aj:(List Int)→Int→Prop) (ak:(List Int)→Int→Nat):Prop:=
 (a0.length≤4611686018427387904→0≤(a0.length:Int)∧8*(a0.length:Int)≤140737488355328∧(a0.length:Int)≤4611686018427387904)∧(a0.length≤4611686018427387904→Kz aj ak a0 ad)
theorem Wa (a0:(List Int)) (ai:small a0):a_ Try.prog 70 [bq bO a0] (lq bO (ah a0)):=(fun(aj:(List Int)→Int→Prop) (ak:(List Int)→Int→Nat) (h:Ky a0 (ah a0) aj ak)=>a_.run (ps:=[(.l .int)]) (rs:=[(.l .int)]) (x:=(a0,())) (r:=((ah a0),())) ⟨22,cs,[]⟩ ⟨[10],[],[],[],[]⟩ (.lp [] [0] [] [(.l .int),.int] [bD 0,4] (fun aV=>[(3,.ref 0 0 aV.1.length false),(4,.i .i64 aV.2.1),(bD 0,.blk 0 .int aV.1 _ rfl)]) (fun aV=>aj aV.1 aV.2.1) (fun aV=>ak aV.1 aV.2.1) fun _=> .nil) Try.func70 h) (lC a0 (fun x=>x) (0:Int)) (mi a0) (by
 unfold Ky Kz
 have ai:a0.length≤1048576:=ai
 exact⟨fun ap=>⟨c8 _,by omega,by omega⟩,fun ap=>ye (f:=fun x=>x) ap (by simp[ah])⟩)
def KA:cw Try.prog:=⟨70,[(.l .int)],[(.l .int)],some fun x=>small x.1,fun x=>((ah x.1),()),fun x h=>Wa x.1 h⟩
def Wd (a0:b9) (ad:b9):Prop:=
 (a0.bo=ad.bo)∧(a0.bG=ad.bG)
theorem We (a0:b9):a_ Try.prog 168 [.agg (di a0)] (.agg (di (ah a0))):=(fun(h:Wd a0 (ah a0))=>a_.run (ps:=[.bG]) (rs:=[.bG]) (x:=(a0,())) (r:=((ah a0),())) ⟨11,cs,[]⟩ ⟨[],[],[],[],[]⟩ .nil Try.func168 h) (by
 exact⟨rfl,rfl⟩)
def Wf:cw Try.prog:=⟨168,[.bG],[.bG],none,fun x=>((ah x.1),()),fun x h=>We x.1⟩
def KC (aj:(List b9)→Int→Prop) (ak:(List b9)→Int→Nat) (a0 ad:(List b9)):Prop:=
  aj (List.replicate (a0.length:Int).toNat ({bo:=(0:Int),bG:=(0:Int)}:b9)) 0∧ ∀(bC:(List b9)) (v4:Int),aj bC v4→(((decide (v4<(a0.length:Int)))=false→bC.length≤4611686018427387904∧bC=ad)∧((decide (v4<(a0.length:Int)))=true→((0≤v4∧v4.toNat<a0.length)∧((0≤v4∧v4.toNat<bC.length)∧(v4.toNat<bC.length)))∧(aj (bC.set v4.toNat (ah (nth a0 v4))) (IntKind.i64.wrap (v4+1))∧ak (bC.set v4.toNat (ah (nth a0 v4))) (IntKind.i64.wrap (v4+1))<ak bC v4)))
def KB (a0:(List b9)) (ad:(List b9)) (aj:(List b9)→Int→Prop) (ak:(List b9)→Int→Nat):Prop:=
 (a0.length≤4611686018427387904→0≤(a0.length:Int)∧16*(a0.length:Int)≤140737488355328∧(a0.length:Int)≤4611686018427387904)∧(a0.length≤4611686018427387904→KC aj ak a0 ad)
theorem Wb (a0:(List b9)) (ai:small a0):a_ Try.prog 160 [bq di a0] (lq di (ah a0)):=(fun(aj:(List b9)→Int→Prop) (ak:(List b9)→Int→Nat) (h:KB a0 (ah a0) aj ak)=>a_.run (ps:=[(.l .bG)]) (rs:=[(.l .bG)]) (x:=(a0,())) (r:=((ah a0),())) ⟨23,cs,[Wf]⟩ ⟨[10],[],[],[],[]⟩ (.lp [] [0] [] [(.l .bG),.int] [bD 0,4] (fun aV=>[(3,.ref 0 0 aV.1.length false),(4,.i .i64 aV.2.1),(bD 0,.blk 0 .bG aV.1 _ rfl)]) (fun aV=>aj aV.1 aV.2.1) (fun aV=>ak aV.1 aV.2.1) fun _=> .nil) Try.func160 h) (lC a0 (ah) ({bo:=(0:Int),bG:=(0:Int)}:b9)) (mi a0) (by
 unfold KB KC
 have ai:a0.length≤1048576:=ai
 exact⟨fun ap=>⟨c8 _,by omega,by omega⟩,fun ap=>ye (f:=ah) ap (wc _)⟩)
def Wc:cw Try.prog:=⟨160,[(.l .bG)],[(.l .bG)],some fun x=>small x.1,fun x=>((ah x.1),()),fun x h=>Wb x.1 h⟩
def KJ (a0:Way) (ad:Way):Prop:=
 (small a0.ag)∧((small a0.a7)∧((small a0.bJ)∧((small a0.bZ)∧((small a0.c6)∧(((ah a0.ag)=ad.ag)∧((ah a0.a7)=ad.a7)∧((ah a0.bJ)=ad.bJ)∧((ah a0.bZ)=ad.bZ)∧((ah a0.c6)=ad.c6))))))
theorem Wo (a0:Way) (ai:wX a0):a_ Try.prog 128 [.agg (dI false a0)] (.agg (dI true (ah a0))):=(fun(h:KJ a0 (ah a0))=>a_.run (ps:=[.dF]) (rs:=[.dF]) (x:=(a0,())) (r:=((ah a0),())) ⟨25,cs,[KA,Wc]⟩ ⟨[],[],[],[],[]⟩ .nil Try.func128 h) (by
 have ai:a0.ag.length+a0.a7.length+a0.bJ.length+a0.bZ.length+a0.c6.length≤1048576:=ai
 unfold KJ small
 exact⟨by omega,by omega,by omega,by omega,by omega,rfl,rfl,rfl,rfl,rfl⟩)
def Wp:cw Try.prog:=⟨128,[.dF],[.dF],some fun x=>wX x.1,fun x=>((ah x.1),()),fun x h=>Wo x.1 h⟩
def KH (aj:(List Way)→Int→Prop) (ak:(List Way)→Int→Nat) (a0 ad bC:(List Way)) (v4:Int):Prop:=
  ((decide (v4<(a0.length:Int)))=false→bC.length≤4611686018427387904∧bC=ad)∧((decide (v4<(a0.length:Int)))=true→((0≤v4∧v4.toNat<a0.length)∧((wX (nth a0 v4))∧((0≤v4∧v4.toNat<bC.length)∧(v4.toNat<bC.length))))∧(aj (bC.set v4.toNat (ah (nth a0 v4))) (IntKind.i64.wrap (v4+1))∧ak (bC.set v4.toNat (ah (nth a0 v4))) (IntKind.i64.wrap (v4+1))<ak bC v4))
def KI (aj:(List Way)→Int→Prop) (ak:(List Way)→Int→Nat) (a0 ad:(List Way)):Prop:=
  (a0.length≤4611686018427387904→0≤(a0.length:Int)∧120*(a0.length:Int)≤140737488355328∧(a0.length:Int)≤4611686018427387904)∧(a0.length≤4611686018427387904→aj (List.replicate (a0.length:Int).toNat ({ag:=([]:(List Int)),a7:=([]:(List b9)),bJ:=([]:(List b9)),bZ:=([]:(List Int)),c6:=([]:(List Int))}:Way)) 0∧ ∀(bC:(List Way)) (v4:Int),aj bC v4→(KH aj ak a0 ad bC v4))
def KG (a0:(List Way)) (ad:(List Way)) (aj:(List Way)→Int→Prop) (ak:(List Way)→Int→Nat):Prop:=
 KI aj ak a0 ad
theorem Wm (a0:(List Way)) (ai:zX a0):a_ Try.prog 71 [bq (dI false) a0] (lq (dI false) (ah a0)):=(fun(aj:(List Way)→Int→Prop) (ak:(List Way)→Int→Nat) (h:KG a0 (ah a0) aj ak)=>a_.run (ps:=[(.l .dF)]) (rs:=[(.l .dF)]) (x:=(a0,())) (r:=((ah a0),())) ⟨23,cs,[Wp]⟩ ⟨[10],[],[],[],[]⟩ (.lp [] [0] [] [(.l .dF),.int] [bD 0,4] (fun aV=>[(3,.ref 0 0 aV.1.length false),(4,.i .i64 aV.2.1),(bD 0,.blk 0 .dF aV.1 _ rfl)]) (fun aV=>aj aV.1 aV.2.1) (fun aV=>ak aV.1 aV.2.1) fun _=> .nil) Try.func71 h) (lC a0 ah ({ag:=([]:(List Int)),a7:=([]:(List b9)),bJ:=([]:(List b9)),bZ:=([]:(List Int)),c6:=([]:(List Int))}:Way)) (mi a0) (by
 unfold KG KI KH
 have ai:a0.length+(a0.map px).sum≤1048576:=ai
 refine⟨fun ap=>⟨c8 _,by omega,by omega⟩,fun ap=>yd (f:=ah) (φ:=fun v=>wX (nth a0 v)) ap (wc _) fun v _ hv=> ?_⟩
 have:=wg px (eC hv)
 unfold wX;omega)
def Wn:cw Try.prog:=⟨71,[(.l .dF)],[(.l .dF)],some fun x=>zX x.1,fun x=>((ah x.1),()),fun x h=>Wm x.1 h⟩
def Kt (aj:(List Bool)→Int→Prop) (ak:(List Bool)→Int→Nat) (a0 ad:(List Bool)):Prop:=
  aj (List.replicate (a0.length:Int).toNat false) 0∧ ∀(bC:(List Bool)) (v4:Int),aj bC v4→(((decide (v4<(a0.length:Int)))=false→bC.length≤4611686018427387904∧bC=ad)∧((decide (v4<(a0.length:Int)))=true→((0≤v4∧v4.toNat<a0.length)∧((0≤v4∧v4.toNat<bC.length)∧(v4.toNat<bC.length)))∧(aj (bC.set v4.toNat (nth a0 v4)) (IntKind.i64.wrap (v4+1))∧ak (bC.set v4.toNat (nth a0 v4)) (IntKind.i64.wrap (v4+1))<ak bC v4)))
def Ks (a0:(List Bool)) (ad:(List Bool)) (aj:(List Bool)→Int→Prop) (ak:(List Bool)→Int→Nat):Prop:=
 (a0.length≤4611686018427387904→0≤(a0.length:Int)∧1*(a0.length:Int)≤140737488355328∧(a0.length:Int)≤4611686018427387904)∧(a0.length≤4611686018427387904→Kt aj ak a0 ad)
theorem V4 (a0:(List Bool)) (ai:small a0):a_ Try.prog 100 [bq aU a0] (lq aU (ah a0)):=(fun(aj:(List Bool)→Int→Prop) (ak:(List Bool)→Int→Nat) (h:Ks a0 (ah a0) aj ak)=>a_.run (ps:=[(.l .bool)]) (rs:=[(.l .bool)]) (x:=(a0,())) (r:=((ah a0),())) ⟨22,cs,[]⟩ ⟨[10],[],[],[],[]⟩ (.lp [] [0] [] [(.l .bool),.int] [bD 0,4] (fun aV=>[(3,.ref 0 0 aV.1.length false),(4,.i .i64 aV.2.1),(bD 0,.blk 0 .bool aV.1 _ rfl)]) (fun aV=>aj aV.1 aV.2.1) (fun aV=>ak aV.1 aV.2.1) fun _=> .nil) Try.func100 h) (lC a0 (fun x=>x) false) (mi a0) (by
 unfold Ks Kt
 have ai:a0.length≤1048576:=ai
 exact⟨fun ap=>⟨c8 _,by omega,by omega⟩,fun ap=>ye (f:=fun x=>x) ap (by simp[ah])⟩)
def Dx:cw Try.prog:=⟨100,[(.l .bool)],[(.l .bool)],some fun x=>small x.1,fun x=>((ah x.1),()),fun x h=>V4 x.1 h⟩
def Kr (aj:(List (List Bool))→Int→Prop) (ak:(List (List Bool))→Int→Nat) (a0 ad bC:(List (List Bool))) (v4:Int):Prop:=
  ((decide (v4<(a0.length:Int)))=false→bC.length≤4611686018427387904∧bC=ad)∧((decide (v4<(a0.length:Int)))=true→((0≤v4∧v4.toNat<a0.length)∧((small (nth a0 v4))∧((0≤v4∧v4.toNat<bC.length)∧(v4.toNat<bC.length))))∧(aj (bC.set v4.toNat (ah (nth a0 v4))) (IntKind.i64.wrap (v4+1))∧ak (bC.set v4.toNat (ah (nth a0 v4))) (IntKind.i64.wrap (v4+1))<ak bC v4))
def Kq (a0:(List (List Bool))) (ad:(List (List Bool))) (aj:(List (List Bool))→Int→Prop) (ak:(List (List Bool))→Int→Nat):Prop:=
 (a0.length≤4611686018427387904→0≤(a0.length:Int)∧24*(a0.length:Int)≤140737488355328∧(a0.length:Int)≤4611686018427387904)∧(a0.length≤4611686018427387904→aj (List.replicate (a0.length:Int).toNat ([]:(List Bool))) 0∧ ∀(bC:(List (List Bool))) (v4:Int),aj bC v4→(Kr aj ak a0 ad bC v4))
theorem V0 (a0:(List (List Bool))) (ai:zU a0):a_ Try.prog 72 [bq (e1 aU false) a0] (lq (e1 aU false) (ah a0)):=(fun(aj:(List (List Bool))→Int→Prop) (ak:(List (List Bool))→Int→Nat) (h:Kq a0 (ah a0) aj ak)=>a_.run (ps:=[(.l (.l .bool))]) (rs:=[(.l (.l .bool))]) (x:=(a0,())) (r:=((ah a0),())) ⟨23,cs,[Dx]⟩ ⟨[10],[],[],[],[]⟩ (.lp [] [0] [] [(.l (.l .bool)),.int] [bD 0,4] (fun aV=>[(3,.ref 0 0 aV.1.length false),(4,.i .i64 aV.2.1),(bD 0,.blk 0 (.l .bool) aV.1 _ rfl)]) (fun aV=>aj aV.1 aV.2.1) (fun aV=>ak aV.1 aV.2.1) fun _=> .nil) Try.func72 h) (lC a0 ah ([]:(List Bool))) (mi a0) (by
 unfold Kq Kr
 have ai:a0.length+(a0.map List.length).sum≤1048576:=ai
 refine⟨fun ap=>⟨c8 _,by omega,by omega⟩,fun ap=>yd (f:=ah) (φ:=fun v=>small (nth a0 v)) ap (wc _) fun v _ hv=> ?_⟩
 have:=wg List.length (eC hv)
 unfold small;omega)
def V1:cw Try.prog:=⟨72,[(.l (.l .bool))],[(.l (.l .bool))],some fun x=>zU x.1,fun x=>((ah x.1),()),fun x h=>V0 x.1 h⟩
def KD (a0:aN) (ad:aN):Prop:=
 (small a0.bu)∧((zX a0.M)∧((zU a0.bz)∧((a0.ag=ad.ag)∧((ah a0.bu)=ad.bu)∧((ah a0.M)=ad.M)∧((ah a0.bz)=ad.bz)∧(a0.dq=ad.dq))))
theorem Wg (a0:aN) (ai:EJ a0):a_ Try.prog 25 [.agg (bL false a0)] (.agg (bL true (ah a0))):=(fun(h:KD a0 (ah a0))=>a_.run (ps:=[.dN]) (rs:=[.dN]) (x:=(a0,())) (r:=((ah a0),())) ⟨23,cs,[KA,Wn,V1]⟩ ⟨[],[],[],[],[]⟩ .nil Try.func25 h) (by
 have ai:a0.bu.length+ss a0.M+qX a0.bz≤1048576:=ai
 unfold KD small zX zU
 exact⟨by omega,by omega,by omega,rfl,rfl,rfl,rfl,rfl⟩)
def MP (a0:(List Int)) (J:Int) (ad:Int) (aj:Int→Prop) (ak:Int→Nat):Prop:=
 a0.length≤4611686018427387904→aj 0∧ ∀(fu:Int),aj fu→(((decide (fu<(a0.length:Int)))=false→(-1)=ad)∧((decide (fu<(a0.length:Int)))=true→((0≤fu∧fu.toNat<a0.length)∧((J==(nth a0 fu))=true→fu=ad))∧((!(J==(nth a0 fu)))=true→aj (IntKind.i64.wrap (fu+1))∧ak (IntKind.i64.wrap (fu+1))<ak fu)))
theorem Zu (a0:(List Int)) (J:Int):a_ Try.prog 161 [bq bO a0,au J] (au (k6 a0 J)):=(fun(aj:Int→Prop) (ak:Int→Nat) (h:MP a0 J (k6 a0 J) aj ak)=>a_.run (ps:=[(.l .int),.int]) (rs:=[.int]) (x:=(a0,J,())) (r:=((k6 a0 J),())) ⟨19,cs,[]⟩ ⟨[],[],[],[],[]⟩ (dz [0,1,7] [] 8 aj ak fun _=> .nil) Try.func161 h) (cl a0.length (fun j=>J==nth a0 j)) (cz a0.length) (by
 unfold MP
 intro ap
 refine⟨dl (c8 _),fun v a6=>⟨fun hv=> ?_,fun hv=>⟨⟨cA a6 hv,fun ai=> ?_⟩,fun ai=>de (dD ap) a6 hv (not_eq ai)⟩⟩⟩
 ·unfold k6;rw[nJ (q:=fun x=>J==x) a6 hv];rfl
 ·unfold k6;rw[nI (q:=fun x=>J==x) a6 hv ai]
  have:=a6.1
  show v=(v.toNat:Int)
  omega)
def MQ:cw Try.prog:=⟨161,[(.l .int),.int],[.int],none,fun x=>((k6 x.1 x.2.1),()),fun x h=>Zu x.1 x.2.1⟩
def MF (a0:(List Int)) (J:Int) (ad:Bool):Prop:=
 (decide ((k6 a0 J) ≥ 0))=ad
theorem Zg (a0:(List Int)) (J:Int):a_ Try.prog 130 [bq bO a0,au J] (ay (fI a0 J)):=(fun(h:MF a0 J (fI a0 J))=>a_.run (ps:=[(.l .int),.int]) (rs:=[.bool]) (x:=(a0,J,())) (r:=((fI a0 J),())) ⟨9,cs,[MQ]⟩ ⟨[],[],[],[],[]⟩ .nil Try.func130 h) (by
 unfold MF
 exact TF a0 J)
def EI:cw Try.prog:=⟨130,[(.l .int),.int],[.bool],none,fun x=>((fI x.1 x.2.1),()),fun x h=>Zg x.1 x.2.1⟩
def I4 (a0:(List Int)) (J:(List Int)) (ad:Bool) (aj:Int→Prop) (ak:Int→Nat):Prop:=
 a0.length≤4611686018427387904→aj 0∧ ∀(v9:Int),aj v9→(((decide (v9<(a0.length:Int)))=false→false=ad)∧((decide (v9<(a0.length:Int)))=true→((0≤v9∧v9.toNat<a0.length)∧((fI J (nth a0 v9))=true→true=ad))∧((!(fI J (nth a0 v9)))=true→aj (IntKind.i64.wrap (v9+1))∧ak (IntKind.i64.wrap (v9+1))<ak v9)))
theorem Uc (a0:(List Int)) (J:(List Int)):a_ Try.prog 74 [bq bO a0,bq bO J] (ay (meets a0 J)):=(fun(aj:Int→Prop) (ak:Int→Nat) (h:I4 a0 J (meets a0 J) aj ak)=>a_.run (ps:=[(.l .int),(.l .int)]) (rs:=[.bool]) (x:=(a0,J,())) (r:=((meets a0 J),())) ⟨17,cs,[EI]⟩ ⟨[],[],[],[],[]⟩ (dz [1,7,8] [] 9 aj ak fun _=> .nil) Try.func74 h) (cl a0.length (fun j=>fI J (nth a0 j))) (cz a0.length) (by
 unfold I4
 intro ap
 refine⟨dl (c8 _),fun v a6=>⟨fun hv=> ?_,fun hv=>⟨⟨cA a6 hv,fun ai=> ?_⟩,fun ai=>de (dD ap) a6 hv (not_eq ai)⟩⟩⟩
 ·exact(w9 (q:=fun x=>fI J x) a6 hv).symm
 ·exact(Ag (q:=fun x=>fI J x) a6 hv ai).symm)
def I5:cw Try.prog:=⟨74,[(.l .int),(.l .int)],[.bool],none,fun x=>((meets x.1 x.2.1),()),fun x h=>Uc x.1 x.2.1⟩
noncomputable def Y5:Code:=jJ Try.f158
def EF (a0:(List b9)) (ad:(List b9)):Prop:=
 (a0≠[]→(a0.length*16≤140737488355328∧a0.length≤4611686018427387904)∧(a0=ad))∧(a0=[]→ ∀bV:Bool,(bV=true→[]=ad)∧(bV=false→(a0.length*16≤140737488355328∧a0.length≤4611686018427387904)∧(a0=ad)))
theorem Y6 (a0:(List b9)) (ad:(List b9)) (h:EF a0 ad):dc Try.prog 158 [bq di a0] [] (fun r H=>r=aA 0 0 ad.length∧H=[⟨0,2,List.map di ad⟩]):=by
 refine dc.toOwn ?_
 unfold EF at h
 refine dc.go (fn:=Try.f158) [(0,bq di a0)] Try.func158 (fun _ _=> ?_)
 show WpS _ (bE Y5 1) _ ⟨bt 8 [(0,bq di a0)],[],[]⟩
 refine hZ [] 0 [(2,bm)] [] [1] ?_
 refine jc ?_
 refine jc ?_
 refine ca [] 1 ?_
 refine Ex 2 (some 4) [(3,bq di a0)] di a0 (fun hx=> ?_) (fun hx bV=> ?_)
 ·
  replace h:=h.1 hx
  refine fQ [] ?_
  refine dR.normal ?_
  refine pJ (.tmp 4) false (fun q3=> ?_) (fun q3=> ?_)
  ·
   cases q3
  ·
   refine fy ?_
   refine dR.normal ?_
   obtain⟨cu,h⟩:=h
   refine j5 ⟨(bt 8 [(2,aA 0 0 a0.length)]),[],[⟨0,2,List.map di a0⟩]⟩ (True) ?_ (fun q4=> ?_)
   ·
    replace h:=cu
    refine ca [] 3 ?_
    have cD:=h
    refine qv 3 (some 7) [(6,bq di a0),(5,bm)] di a0 (ki false (List.map di a0)) 0 2 16 (fun r=>[⟨0,2,r⟩]) rfl cD ?_
    exact cQ [(2,aA 0 0 a0.length)] trivial
   refine iK ?_
   refine l1 (aA 0 0 a0.length) [aA 0 0 a0.length] ?_
   exact⟨mD [some 0],ot [some 0] rfl (by decide) ⟨rfl,(oA (b:=0) (g:=0) (sz:=2) (xs:=a0) (ys:=ad) rfl Ll h),trivial⟩,(.inr (rW (by simp) rfl rfl (by have:=congrArg List.length h;simpa using this)))⟩
 ·
  replace h:=h.2 hx bV
  refine fQ [] ?_
  refine dR.normal ?_
  refine pJ (.tmp 4) bV (fun gN=> ?_) (fun gN=> ?_)
  ·
   replace h:=h.1 gN
   refine j5 ⟨(bt 8 [(2,bm)]),[],[]⟩ (True) ?_ (fun jh=> ?_)
   ·
    refine ca [] 2 ?_
    exact cQ [(2,bm)] trivial
   refine iK ?_
   refine dR.ret ?_
   refine l1 (bm) [bm] ?_
   exact⟨mD [none],ot [none] rfl (by decide) ⟨rfl,trivial,trivial⟩,(.inr (DW (by simp) rfl rfl (by rw[←h];rfl)))⟩
  ·
   replace h:=h.2 gN
   refine fy ?_
   refine dR.normal ?_
   obtain⟨kg,h⟩:=h
   refine j5 ⟨(bt 8 [(2,aA 0 0 a0.length)]),[],[⟨0,2,List.map di a0⟩]⟩ (True) ?_ (fun kh=> ?_)
   ·
    replace h:=kg
    refine ca [] 3 ?_
    have hh:=h
    refine qv 3 (some 7) [(6,bq di a0),(5,bm)] di a0 (ki false (List.map di a0)) 0 2 16 (fun r=>[⟨0,2,r⟩]) rfl hh ?_
    exact cQ [(2,aA 0 0 a0.length)] trivial
   refine iK ?_
   refine l1 (aA 0 0 a0.length) [aA 0 0 a0.length] ?_
   exact⟨mD [some 0],ot [some 0] rfl (by decide) ⟨rfl,(oA (b:=0) (g:=0) (sz:=2) (xs:=a0) (ys:=ad) rfl Ll h),trivial⟩,(.inr (rW (by simp) rfl rfl (by have:=congrArg List.length h;simpa using this)))⟩
theorem Y4 (a0:(List b9)) (ai:small a0):dc Try.prog 158 [bq di a0] [] (fun r H=>r=aA 0 0 (ah a0).length∧H=[⟨0,2,List.map di (ah a0)⟩]):=Y6 a0 (ah a0) (by
 have ai:a0.length≤1048576:=ai
 unfold EF
 refine⟨fun h=>⟨⟨by omega,by omega⟩,rfl⟩,fun h b=>⟨fun _=> ?_,fun _=>⟨⟨by omega,by omega⟩,rfl⟩⟩⟩
 exact h.symm)
noncomputable def I6:Code:=jJ Try.f123
def Ue:List Item:=[al 0,al 1,al 3,al 4,⟨2,true,false,[3,4]⟩,⟨5,true,false,[]⟩,al 6]
def Uf:List (List Nat):=[[],[0],[0,1],[],[3],rg 0 5,rg 0 6]
def C8 (a0:Way) (ad:(List b9)):Prop:=
 ((small a0.a7)∧(((ah a0.a7).length+a0.bJ.length)*16≤140737488355328∧(ah a0.a7).length+a0.bJ.length≤4611686018427387904))∧(((ah a0.a7)++a0.bJ).length≤4611686018427387904∧((ah a0.a7)++a0.bJ)=ad)
theorem Ug (a0:Way) (ad:(List b9)) (h:C8 a0 ad):a_ Try.prog 123 [.agg (dI false a0)] (lq di ad):=by
 unfold C8 at h
 refine dc.go (fn:=Try.f123) [(0,.agg (dI false a0))] Try.func123 (fun _ _=> ?_)
 show WpS _ (bE I6 1) _ ⟨bt 9 [(0,.agg (dI false a0))],[],[]⟩
 refine sR [] 0 [(2,bm),(1,aZ 1 0)] [0,1,1] [] [(1,(dI false a0))] [] ?_
 obtain⟨cD,h⟩:=h
 refine g_ [(2,aA 0 1 ((ah a0.a7)++a0.bJ).length)] [] id (fun _=>[⟨1,2,List.map di ((ah a0.a7)++a0.bJ)⟩]) (True) ?_ (fun q2=> ?_)
 ·
  replace h:=cD
  refine qs [] 1 Ue Uf [] ?_
  obtain⟨q3,h⟩:=h
  refine Fk 5 (some 5) [(7,bq di a0.bJ),(6,aZ 1 2),(4,bq di a0.a7),(3,aZ 1 1)] [bq di a0.a7] (fun L H=>s4 Try.prog (iV I6 6) [3,4] [(7,bq di a0.bJ),(6,aZ 1 2),(4,bq di a0.a7),(3,aZ 1 1),(1,aZ 1 0)] L H) (aA 0 0 (ah a0.a7).length) [⟨0,2,List.map di (ah a0.a7)⟩] (Y4 a0.a7 q3) (aK.cons (dP.iw fA) aK.nil) (rX (fun _=>rfl) rfl) (ul (sh (fun _=>rfl) rfl) (by kernel_rfl)) (DU (ψ:=((true=true∧true=true∧((aZ 1 2:AV)=aZ 1 2))∧((true=true∧true=true∧((bq di a0.bJ:AV)=bq di a0.bJ))∧True))) (by kernel_rfl) ⟨⟨rfl,rfl,rfl⟩,⟨⟨rfl,rfl,rfl⟩,trivial⟩⟩) ?_
  have q4:=h
  refine aaN 1 (some 8) [] di (ah a0.a7) a0.bJ (ki false (List.map di a0.bJ)) 0 0 2 16 (fun _=>True) (fun r=>[⟨1,2,r⟩]) rfl q4 trivial ?_
  exact kj [(2,aA 0 1 ((ah a0.a7)++a0.bJ).length)] trivial
 exact iK (r_ (aA 0 1 ((ah a0.a7)++a0.bJ).length) (jE.iw (zZ (sz:=2) (by simp) rfl (Gp) h)))
theorem Ud (a0:Way) (ai:zt a0):a_ Try.prog 123 [.agg (dI false a0)] (lq di (cg a0)):=Ug a0 (cg a0) (by
 obtain⟨h1,h2⟩:=ai
 unfold C8 ah small
 exact⟨⟨h1,by omega,by omega⟩,by rw[List.length_append];omega,rfl⟩)
def I7:cw Try.prog:=⟨123,[.dF],[(.l .bG)],some fun x=>zt x.1,fun x=>((cg x.1),()),fun x h=>Ud x.1 h⟩
def UJ:List Item:=[al 0,al 1,al 2,al 3,al 4,al 5,al 6,al 7]
def UK:List (List Nat):=[[],[],[0,1],[],[],[3,4],[3,4,5],rg 0 7]
def Jj (aj:Int→Prop) (ak:Int→Nat) (a0:(List Int)) (ad:Bool):Prop:=
  a0.length≤4611686018427387904→aj 0∧ ∀(v6:Int),aj v6→(((decide (v6<(a0.length:Int)))=false→false=ad)∧((decide (v6<(a0.length:Int)))=true→(((0≤v6∧v6≤(a0.length:Int))∧(0≤v6∧v6.toNat<a0.length))∧((fI (a0.take v6.toNat) (nth a0 v6))=true→true=ad))∧((!(fI (a0.take v6.toNat) (nth a0 v6)))=true→aj (IntKind.i64.wrap (v6+1))∧ak (IntKind.i64.wrap (v6+1))<ak v6)))
def Ji (a0:(List Int)) (ad:Bool) (aj:Int→Prop) (ak:Int→Nat):Prop:=
 Jj aj ak a0 ad
theorem UH (a0:(List Int)):a_ Try.prog 129 [bq bO a0] (ay (dup a0)):=(fun(aj:Int→Prop) (ak:Int→Nat) (h:Ji a0 (dup a0) aj ak)=>a_.run (ps:=[(.l .int)]) (rs:=[.bool]) (x:=(a0,())) (r:=((dup a0),())) ⟨18,cs,[EI]⟩ ⟨[],[(4,UJ,UK)],[],[],[]⟩ (dz [0,5] [] 6 aj ak fun _=> .nil) Try.func129 h) (cl a0.length (fun j=>fI (a0.take j.toNat) (nth a0 j))) (cz a0.length) (by
 unfold Ji Jj
 intro ap
 refine⟨dl (c8 _),fun v a6=>⟨fun hv=> ?_,fun hv=>⟨⟨⟨⟨a6.1,a6.2.1⟩,cA a6 hv⟩,fun ai=> ?_⟩,fun ai=>de (dD ap) a6 hv (not_eq ai)⟩⟩⟩
 ·exact(GO (fB a6 hv)).symm
 ·exact(Qm (cA a6 hv).1 (cA a6 hv).2 ai).symm)
def UI:cw Try.prog:=⟨129,[(.l .int)],[.bool],none,fun x=>((dup x.1),()),fun x h=>UH x.1⟩
def Vm:List Item:=[al 0,al 1,al 2,al 3,al 4,al 5,al 6,al 7,al 8]
def Vn:List (List Nat):=[[],[],[0,1],[0,1,2],[],[],[4,5],[4,5,6],rg 0 8]
def JQ (aj:Int→Prop) (ak:Int→Nat) (a0 J:(List Int)) (ad:Bool):Prop:=
  ((a0.length≤4611686018427387904)∧(J.length≤4611686018427387904)→((a0.length:Int) !=(J.length:Int))=true→false=ad)∧((a0.length≤4611686018427387904)∧(J.length≤4611686018427387904)∧((!((a0.length:Int) !=(J.length:Int)))=true)→aj 0∧ ∀(v5:Int),aj v5→(((decide (v5<(a0.length:Int)))=false→true=ad)∧((decide (v5<(a0.length:Int)))=true→(((0≤v5∧v5.toNat<a0.length)∧(0≤v5∧v5.toNat<J.length))∧(((nth a0 v5) !=(nth J v5))=true→false=ad))∧((!((nth a0 v5) !=(nth J v5)))=true→aj (IntKind.i64.wrap (v5+1))∧ak (IntKind.i64.wrap (v5+1))<ak v5))))
def JP (a0:(List Int)) (J:(List Int)) (ad:Bool) (aj:Int→Prop) (ak:Int→Nat):Prop:=
 JQ aj ak a0 J ad
theorem JR (a0:(List Int)) (J:(List Int)):a_ Try.prog 55 [bq bO a0,bq bO J] (ay (eqv a0 J)):=(fun(aj:Int→Prop) (ak:Int→Nat) (h:JP a0 J (eqv a0 J) aj ak)=>a_.run (ps:=[(.l .int),(.l .int)]) (rs:=[.bool]) (x:=(a0,J,())) (r:=((eqv a0 J),())) ⟨26,cs,[]⟩ ⟨[13],[(6,Vm,Vn)],[],[],[]⟩ (dz [0,1] [] 5 aj ak fun _=> .nil) Try.func55 h) (cl a0.length (fun v=>nth a0 v !=nth J v)) (cz a0.length) (by
 unfold JP JQ
 exact n5 (ne:=fun v=>nth a0 v !=nth J v) (fun v=>by simp[eqv]))
def JS:cw Try.prog:=⟨55,[(.l .int),(.l .int)],[.bool],none,fun x=>((eqv x.1 x.2.1),()),fun x h=>JR x.1 x.2.1⟩
def JV (a0:b9) (J:b9) (ad:Bool):Prop:=
 ((a0.bo !=J.bo)=true→false=ad)∧((!(a0.bo !=J.bo))=true→((a0.bG !=J.bG)=true→false=ad)∧((!(a0.bG !=J.bG))=true→true=ad))
theorem Vs (a0:b9) (J:b9):a_ Try.prog 169 [.agg (di a0),.agg (di J)] (ay (eqv a0 J)):=(fun(h:JV a0 J (eqv a0 J))=>a_.run (ps:=[.bG,.bG]) (rs:=[.bool]) (x:=(a0,J,())) (r:=((eqv a0 J),())) ⟨15,cs,[]⟩ ⟨[],[],[],[],[]⟩ .nil Try.func169 h) (by
 unfold JV
 obtain⟨c,p⟩:=a0
 obtain⟨b_,tP⟩:=J
 simp[eqv]
 intros
 simp_all)
def Vt:cw Try.prog:=⟨169,[.bG,.bG],[.bool],none,fun x=>((eqv x.1 x.2.1),()),fun x h=>Vs x.1 x.2.1⟩
def Vq:List Item:=[al 0,al 1,al 2,al 3,al 4,al 5,al 6,al 7,al 8,al 9]
def Vr:List (List Nat):=[[],[],[0,1],[0,1,2],[],[],[4,5],[4,5,6],rg 0 8,rg 0 9]
def JU (aj:Int→Prop) (ak:Int→Nat) (a0 J:(List b9)) (ad:Bool):Prop:=
  ((a0.length≤4611686018427387904)∧(J.length≤4611686018427387904)→((a0.length:Int) !=(J.length:Int))=true→false=ad)∧((a0.length≤4611686018427387904)∧(J.length≤4611686018427387904)∧((!((a0.length:Int) !=(J.length:Int)))=true)→aj 0∧ ∀(v5:Int),aj v5→(((decide (v5<(a0.length:Int)))=false→true=ad)∧((decide (v5<(a0.length:Int)))=true→(((0≤v5∧v5.toNat<a0.length)∧(0≤v5∧v5.toNat<J.length))∧((!(eqv (nth a0 v5) (nth J v5)))=true→false=ad))∧((!(!(eqv (nth a0 v5) (nth J v5))))=true→aj (IntKind.i64.wrap (v5+1))∧ak (IntKind.i64.wrap (v5+1))<ak v5))))
def JT (a0:(List b9)) (J:(List b9)) (ad:Bool) (aj:Int→Prop) (ak:Int→Nat):Prop:=
 JU aj ak a0 J ad
theorem Vo (a0:(List b9)) (J:(List b9)):a_ Try.prog 162 [bq di a0,bq di J] (ay (eqv a0 J)):=(fun(aj:Int→Prop) (ak:Int→Nat) (h:JT a0 J (eqv a0 J) aj ak)=>a_.run (ps:=[(.l .bG),(.l .bG)]) (rs:=[.bool]) (x:=(a0,J,())) (r:=((eqv a0 J),())) ⟨27,cs,[Vt]⟩ ⟨[13],[(6,Vq,Vr)],[],[],[]⟩ (dz [0,1] [] 5 aj ak fun _=> .nil) Try.func162 h) (cl a0.length (fun v=> !(eqv (nth a0 v) (nth J v)))) (cz a0.length) (by
 unfold JT JU
 exact n5 (ne:=fun v=> !(eqv (nth a0 v) (nth J v))) (fun v=>by simp[eqv]))
def Vp:cw Try.prog:=⟨162,[(.l .bG),(.l .bG)],[.bool],none,fun x=>((eqv x.1 x.2.1),()),fun x h=>Vo x.1 x.2.1⟩
def J4 (a0 J:Way) (ad:Bool):Prop:=
  ((!(eqv a0.ag J.ag))=true→false=ad)∧((!(!(eqv a0.ag J.ag)))=true→((!(eqv a0.a7 J.a7))=true→false=ad)∧((!(!(eqv a0.a7 J.a7)))=true→((!(eqv a0.bJ J.bJ))=true→false=ad)∧((!(!(eqv a0.bJ J.bJ)))=true→((!(eqv a0.bZ J.bZ))=true→false=ad)∧((!(!(eqv a0.bZ J.bZ)))=true→((!(eqv a0.c6 J.c6))=true→false=ad)∧((!(!(eqv a0.c6 J.c6)))=true→true=ad)))))
def J3 (a0:Way) (J:Way) (ad:Bool):Prop:=
 J4 a0 J ad
theorem VF (a0:Way) (J:Way):a_ Try.prog 131 [.agg (dI false a0),.agg (dI false J)] (ay (eqv a0 J)):=(fun(h:J3 a0 J (eqv a0 J))=>a_.run (ps:=[.dF,.dF]) (rs:=[.bool]) (x:=(a0,J,())) (r:=((eqv a0 J),())) ⟨35,cs,[JS,Vp]⟩ ⟨[],[],[],[],[]⟩ .nil Try.func131 h) (by
 unfold J3 J4
 obtain⟨a,b,c,d,e⟩:=a0
 obtain⟨gS,bI,b_,u7,b1⟩:=J
 simp[eqv]
 refine⟨fun h h1=>absurd h1 h,fun h=>⟨fun k _ c7=>absurd c7 k,?_⟩⟩
 intros
 simp_all)
def VG:cw Try.prog:=⟨131,[.dF,.dF],[.bool],none,fun x=>((eqv x.1 x.2.1),()),fun x h=>VF x.1 x.2.1⟩
def VD:List Item:=[al 0,al 1,al 2,al 3,al 4,al 5,al 6,al 7,al 8,al 9]
def VE:List (List Nat):=[[],[],[0,1],[0,1,2],[],[],[4,5],[4,5,6],rg 0 8,rg 0 9]
def J2 (aj:Int→Prop) (ak:Int→Nat) (a0 J:(List Way)) (ad:Bool):Prop:=
  ((a0.length≤4611686018427387904)∧(J.length≤4611686018427387904)→((a0.length:Int) !=(J.length:Int))=true→false=ad)∧((a0.length≤4611686018427387904)∧(J.length≤4611686018427387904)∧((!((a0.length:Int) !=(J.length:Int)))=true)→aj 0∧ ∀(v5:Int),aj v5→(((decide (v5<(a0.length:Int)))=false→true=ad)∧((decide (v5<(a0.length:Int)))=true→(((0≤v5∧v5.toNat<a0.length)∧(0≤v5∧v5.toNat<J.length))∧((!(eqv (nth a0 v5) (nth J v5)))=true→false=ad))∧((!(!(eqv (nth a0 v5) (nth J v5))))=true→aj (IntKind.i64.wrap (v5+1))∧ak (IntKind.i64.wrap (v5+1))<ak v5))))
def J1 (a0:(List Way)) (J:(List Way)) (ad:Bool) (aj:Int→Prop) (ak:Int→Nat):Prop:=
 J2 aj ak a0 J ad
theorem VB (a0:(List Way)) (J:(List Way)):a_ Try.prog 75 [bq (dI false) a0,bq (dI false) J] (ay (eqv a0 J)):=(fun(aj:Int→Prop) (ak:Int→Nat) (h:J1 a0 J (eqv a0 J) aj ak)=>a_.run (ps:=[(.l .dF),(.l .dF)]) (rs:=[.bool]) (x:=(a0,J,())) (r:=((eqv a0 J),())) ⟨27,cs,[VG]⟩ ⟨[13],[(6,VD,VE)],[],[],[]⟩ (dz [0,1] [] 5 aj ak fun _=> .nil) Try.func75 h) (cl a0.length (fun v=> !(eqv (nth a0 v) (nth J v)))) (cz a0.length) (by
 unfold J1 J2
 exact n5 (ne:=fun v=> !(eqv (nth a0 v) (nth J v))) (fun v=>by simp[eqv]))
def VC:cw Try.prog:=⟨75,[(.l .dF),(.l .dF)],[.bool],none,fun x=>((eqv x.1 x.2.1),()),fun x h=>VB x.1 x.2.1⟩
def Vd:List Item:=[al 0,al 1,al 2,al 3,al 4,al 5,al 6,al 7,al 8]
def Ve:List (List Nat):=[[],[],[0,1],[0,1,2],[],[],[4,5],[4,5,6],rg 0 8]
def JJ (aj:Int→Prop) (ak:Int→Nat) (a0 J:(List Bool)) (ad:Bool):Prop:=
  ((a0.length≤4611686018427387904)∧(J.length≤4611686018427387904)→((a0.length:Int) !=(J.length:Int))=true→false=ad)∧((a0.length≤4611686018427387904)∧(J.length≤4611686018427387904)∧((!((a0.length:Int) !=(J.length:Int)))=true)→aj 0∧ ∀(v5:Int),aj v5→(((decide (v5<(a0.length:Int)))=false→true=ad)∧((decide (v5<(a0.length:Int)))=true→(((0≤v5∧v5.toNat<a0.length)∧(0≤v5∧v5.toNat<J.length))∧(((nth a0 v5) !=(nth J v5))=true→false=ad))∧((!((nth a0 v5) !=(nth J v5)))=true→aj (IntKind.i64.wrap (v5+1))∧ak (IntKind.i64.wrap (v5+1))<ak v5))))
def JI (a0:(List Bool)) (J:(List Bool)) (ad:Bool) (aj:Int→Prop) (ak:Int→Nat):Prop:=
 JJ aj ak a0 J ad
theorem Vc (a0:(List Bool)) (J:(List Bool)):a_ Try.prog 80 [bq aU a0,bq aU J] (ay (eqv a0 J)):=(fun(aj:Int→Prop) (ak:Int→Nat) (h:JI a0 J (eqv a0 J) aj ak)=>a_.run (ps:=[(.l .bool),(.l .bool)]) (rs:=[.bool]) (x:=(a0,J,())) (r:=((eqv a0 J),())) ⟨26,cs,[]⟩ ⟨[13],[(6,Vd,Ve)],[],[],[]⟩ (dz [0,1] [] 5 aj ak fun _=> .nil) Try.func80 h) (cl a0.length (fun v=>nth a0 v !=nth J v)) (cz a0.length) (by
 unfold JI JJ
 exact n5 (ne:=fun v=>nth a0 v !=nth J v) (fun v=>by simp[eqv]))
def Dv:cw Try.prog:=⟨80,[(.l .bool),(.l .bool)],[.bool],none,fun x=>((eqv x.1 x.2.1),()),fun x h=>Vc x.1 x.2.1⟩
def Va:List Item:=[al 0,al 1,al 2,al 3,al 4,al 5,al 6,al 7,al 8,al 9]
def Vb:List (List Nat):=[[],[],[0,1],[0,1,2],[],[],[4,5],[4,5,6],rg 0 8,rg 0 9]
def JH (aj:Int→Prop) (ak:Int→Nat) (a0 J:(List (List Bool))) (ad:Bool):Prop:=
  ((a0.length≤4611686018427387904)∧(J.length≤4611686018427387904)→((a0.length:Int) !=(J.length:Int))=true→false=ad)∧((a0.length≤4611686018427387904)∧(J.length≤4611686018427387904)∧((!((a0.length:Int) !=(J.length:Int)))=true)→aj 0∧ ∀(v5:Int),aj v5→(((decide (v5<(a0.length:Int)))=false→true=ad)∧((decide (v5<(a0.length:Int)))=true→(((0≤v5∧v5.toNat<a0.length)∧(0≤v5∧v5.toNat<J.length))∧((!(eqv (nth a0 v5) (nth J v5)))=true→false=ad))∧((!(!(eqv (nth a0 v5) (nth J v5))))=true→aj (IntKind.i64.wrap (v5+1))∧ak (IntKind.i64.wrap (v5+1))<ak v5))))
def JG (a0:(List (List Bool))) (J:(List (List Bool))) (ad:Bool) (aj:Int→Prop) (ak:Int→Nat):Prop:=
 JH aj ak a0 J ad
theorem U9 (a0:(List (List Bool))) (J:(List (List Bool))):a_ Try.prog 76 [bq (e1 aU false) a0,bq (e1 aU false) J] (ay (eqv a0 J)):=(fun(aj:Int→Prop) (ak:Int→Nat) (h:JG a0 J (eqv a0 J) aj ak)=>a_.run (ps:=[(.l (.l .bool)),(.l (.l .bool))]) (rs:=[.bool]) (x:=(a0,J,())) (r:=((eqv a0 J),())) ⟨27,cs,[Dv]⟩ ⟨[13],[(6,Va,Vb)],[],[],[]⟩ (dz [0,1] [] 5 aj ak fun _=> .nil) Try.func76 h) (cl a0.length (fun v=> !(eqv (nth a0 v) (nth J v)))) (cz a0.length) (by
 unfold JG JH
 exact n5 (ne:=fun v=> !(eqv (nth a0 v) (nth J v))) (fun v=>by simp[eqv]))
def U_:cw Try.prog:=⟨76,[(.l (.l .bool)),(.l (.l .bool))],[.bool],none,fun x=>((eqv x.1 x.2.1),()),fun x h=>U9 x.1 x.2.1⟩
def JX (a0 J:aN) (ad:Bool):Prop:=
  ((a0.ag !=J.ag)=true→false=ad)∧((!(a0.ag !=J.ag))=true→((!(eqv a0.bu J.bu))=true→false=ad)∧((!(!(eqv a0.bu J.bu)))=true→((!(eqv a0.M J.M))=true→false=ad)∧((!(!(eqv a0.M J.M)))=true→((!(eqv a0.bz J.bz))=true→false=ad)∧((!(!(eqv a0.bz J.bz)))=true→((a0.dq !=J.dq)=true→false=ad)∧((!(a0.dq !=J.dq))=true→true=ad)))))
def JW (a0:aN) (J:aN) (ad:Bool):Prop:=
 JX a0 J ad
theorem Vu (a0:aN) (J:aN):a_ Try.prog 28 [.agg (bL false a0),.agg (bL false J)] (ay (eqv a0 J)):=(fun(h:JW a0 J (eqv a0 J))=>a_.run (ps:=[.dN,.dN]) (rs:=[.bool]) (x:=(a0,J,())) (r:=((eqv a0 J),())) ⟨33,cs,[JS,VC,U_]⟩ ⟨[],[],[],[],[]⟩ .nil Try.func28 h) (by
 unfold JW JX
 obtain⟨a,b,c,d,e⟩:=a0
 obtain⟨gS,bI,b_,u7,b1⟩:=J
 simp[eqv]
 refine⟨fun h h1=>absurd h1 h,fun h=>⟨fun k _ c7=>absurd c7 k,?_⟩⟩
 intros
 simp_all)
end Go.Proofs.Ytglpfccgmfhkdaa.Fw
set_option linter.unusedVariables false
namespace Go.Proofs.Ytglpfccgmfhkdaa.Fw
open Go
theorem pP {α:Type} {xs:List α} {q:α→Bool} (h:first xs q=none): ∀x∈xs,q x=false:=by
 unfold first at h;rwa [List.findIdx?_eq_none_iff] at h
theorem zr {p:aN} (h:fP p=true):jf p=true∧(∀s∈p.bu,bN s 0 (p.ag - 1)=true)∧(∀w∈p.M,gB p w=true)∧p.bz.length=p.M.length∧
  (∀b∈p.bz,b.length=p.M.length)∧ ∀i k:Nat,i<p.M.length→k<p.M.length→mQ p i k=false:=by
 have hb:=XS h
 have aM:gx p=⟨0,0⟩:=by simpa[fP] using h
 rw[D3 hb] at aM
 unfold tR at aM
 split at aM
 ·cases aM
 rename_i h1
 unfold tS at aM
 split at aM
 ·cases aM
 rename_i h2
 unfold mz at aM
 split at aM
 ·rename_i aH
  split at aM
  ·cases aM
  rename_i bn
  split at aM
  ·cases aM
  rename_i cX
  refine⟨hb,fun s hs=>by simpa using pP h1 s hs,fun w hw=>by simpa using pP h2 w hw,aH,fun b af=>by simpa using pP bn b af,fun i k hi hk=> ?_⟩
  have:=pP cX i (List.mem_range.2 hi)
  rw[List.any_eq_false] at this
  simpa using this k (List.mem_range.2 hk)
 ·cases aM
def kX (p:aN) (i k:Int):Bool:=nth (nth p.bz i) k
structure FS (p:aN):Prop where
 len:p.bz.length=p.M.length
 row: ∀i:Int,0≤i→i<p.M.length→(nth p.bz i).length=p.M.length
 sym: ∀i k:Int,0≤i→i<p.M.length→0≤k→k<p.M.length→kX p i k=kX p k i
 abR: ∀i k:Int,0≤i→i<p.M.length→0≤k→k<p.M.length→i≠k→meets (nth p.M i).ag (nth p.M k).ag=true→kX p i k=true
theorem yX {x n:Int} (h:bN x 0 (n - 1)=true):0≤x∧x<n:=by have:=vV.1 h;omega
theorem DC {l:List Int} {n:Int} (h:fV l n=true):l.length≤30∧ ∀x∈l,0≤x∧x<n:=by
 have:=rM.1 h
 exact⟨this.1,fun x hx=>yX (this.2.1 x hx)⟩
theorem D1 {p:aN} (h:fP p=true):sC p:=by
 obtain⟨h1,h2,aH,bn,cX,eG⟩:=zr h
 have hb:=r3.1 h1
 have hw: ∀w∈p.M,_:=fun w hw=>nK.1 (aH w hw)
 refine⟨by omega,hb.2.2.2,hb.2.2.1,fun w m=>⟨(hw w m).1,DC (hw w m).2.1⟩,fun w m=>DC (hw w m).2.2.1,fun w m=>DC (hw w m).2.2.2.1,fun w m=> ?_,fun x hx=>yX (h2 x hx)⟩
 have aE:=k8.1 (hw w m).2.2.2.2.1
 have hf:=k8.1 (hw w m).2.2.2.2.2.1
 refine⟨aE.1,hf.1,fun x hx=> ?_⟩
 rcases List.mem_append.1 hx with hx | hx
 ·have:=aE.2.1 x hx
  rw[Bool.and_eq_true] at this;exact yX this.1
 ·have:=hf.2.1 x hx
  rw[Bool.and_eq_true] at this;exact yX this.1
theorem LF {p:aN} (h:fP p=true):FS p:=by
 obtain⟨h1,h2,aH,bn,cX,eG⟩:=zr h
 have key: ∀i k:Int,0≤i→i<p.M.length→0≤k→k<p.M.length→kX p i k=kX p k i∧(i≠k→meets (nth p.M i).ag (nth p.M k).ag=true→kX p i k=true):=fun i k i0 i1 a8 c7=>by
  have:=eG i.toNat k.toNat (by omega) (by omega)
  unfold mQ pG at this
  rw[mw i0,mw a8,mw i0,mw a8,mw i0,mw a8] at this
  rw[Bool.or_eq_false_iff] at this
  refine⟨by unfold kX;simpa using this.1,fun cd hm=> ?_⟩
  have h2:=this.2
  rw[hm,Bool.and_true] at h2
  have aY:decide (i.toNat≠k.toNat)=true:=by simpa using(show i.toNat≠k.toNat by omega)
  rw[aY] at h2
  unfold kX
  simpa using h2
 exact⟨bn,fun i i0 i1=>cX _ (eC (by omega)),fun i k i0 i1 a8 c7=>(key i k i0 i1 a8 c7).1,fun i k i0 i1 a8 c7=>(key i k i0 i1 a8 c7).2⟩
def pW (p:aN) (f:Frame) (i:Int):Bool:= !((decide ((nth f.M i).az<0)) || ((decide ((nth f.M i).az>4)) || ((((nth f.M i).U.length:Int) !=((nth p.M i).ag.length:Int)) || ((decide ((nth f.M i).aa<0)) || (decide ((nth f.M i).aa ≥ ((nth p.M i).ag.length:Int)))))))
def rn (f:Frame) (i:Int):Bool:=bif ((nth f.M i).az !=4) then(!(((nth f.M i).aa !=0) || (h3 (nth f.M i).U true))) else(!(h3 ((nth f.M i).U.take (nth f.M i).aa.toNat) false))
def rp (p:aN) (f:Frame) (i:Int):Bool:=bif ((nth f.M i).az==3) then(!((decide ((nth f.M i).ao<1)) || (decide ((nth f.M i).ao>p.dq)))) else(!((nth f.M i).ao !=0))
def rq (f:Frame) (i:Int):Bool:=bif ((nth f.M i).az==0) then(!(nth f.M i).an) else(!(bif ((nth f.M i).az==2) then((nth f.M i).az==2) else((nth f.M i).az==3)) || (!(!(nth f.M i).an)))
theorem yv (p:aN) (f:Frame) (i:Int):gg p f i=(pW p f i&&(rn f i&&(rp p f i&&rq f i))):=by
 unfold gg pW rn rp rq
 simp only
 generalize nth f.M i=h
 generalize (nth p.M i).ag.length=n
 rcases h with⟨s,g,b,d,t⟩
 have aT:b.all (fun x=> !x)= !h3 b true:=by
  cases h:h3 b true with
  | true=>
   rw[List.all_eq_false.2 ⟨true,tb.1 h,by simp⟩];rfl
  | false=>
   rw[List.all_eq_true.2 fun x hx=>by
    cases x with
    | false=>rfl
    | true=>rw[tb.2 hx] at h;cases h];rfl
 have e2:(b.take g.toNat).all (fun x=>x)= !h3 (b.take g.toNat) false:=by
  cases h:h3 (b.take g.toNat) false with
  | true=>
   rw[List.all_eq_false.2 ⟨false,tb.1 h,by simp⟩];rfl
  | false=>
   rw[List.all_eq_true.2 fun x hx=>by
    cases x with
    | true=>rfl
    | false=>rw[tb.2 hx] at h;cases h];rfl
 simp only
 rw[aT,e2]
 have c9:bN s 0 4= !((decide (s<0)) || (decide (s>4))):=by unfold bN;rw[Bool.eq_iff_iff];simp
 have dn:decide (b.length=n)= !((b.length:Int) !=(n:Int)):=by rw[Bool.eq_iff_iff];simp;omega
 have fi:bN g 0 ((n:Int) - 1)= !((decide (g<0)) || (decide (g ≥ (n:Int)))):=by unfold bN;rw[Bool.eq_iff_iff];simp;omega
 have l0:bN t 1 p.dq= !((decide (t<1)) || (decide (t>p.dq))):=by unfold bN;rw[Bool.eq_iff_iff];simp
 rw[c9,dn,fi,l0]
 generalize h3 b true=B
 have aL:g=0→h3 (b.take g.toNat) false=false:=fun h=>by subst h;rfl
 generalize h3 (b.take g.toNat) false=C at aL
 generalize (decide (s<0))=st
 generalize (decide (s>4))=uC
 generalize ((b.length:Int) !=(n:Int))=Oi
 generalize (decide (g<0))=acb
 generalize (decide (g ≥ (n:Int)))=acd
 generalize (decide (t<1))=ace
 generalize (decide (t>p.dq))=acf
 have hs:s=0∨s=2∨s=3∨s=4∨(s≠0∧s≠2∧s≠3∧s≠4):=by omega
 have aY:decide (t=0)= !(t !=0):=by rw[Bool.eq_iff_iff];simp
 have rl:decide (g=0)= !(g !=0):=by rw[Bool.eq_iff_iff];simp
 rw[aY,rl]
 cases Ia:(g !=0) with
 | false=>
  have:C=false:=aL (by simpa using Ia)
  subst this
  generalize (t !=0)=abd
  rcases hs with rfl | rfl | rfl | rfl | ⟨aM,h2,aH,bn⟩
  ·cases B<;>cases d<;>simp[Bool.and_assoc]
  ·cases B<;>cases d<;>simp[Bool.and_assoc]
  ·cases B<;>cases d<;>simp[Bool.and_assoc]
  ·cases B<;>cases d<;>simp[Bool.and_assoc]
  ·have z0:(s==0)=false:=by simpa using aM
   have z2:(s==2)=false:=by simpa using h2
   have z3:(s==3)=false:=by simpa using aH
   have z4:(s !=4)=true:=by simpa using bn
   rw[z0,z2,z3,z4]
   simp only[aM,h2,aH,bn,if_false,decide_false,decide_true,ne_eq,not_false_eq_true]
   cases B<;>cases d<;>simp[Bool.and_assoc]
 | true=>
  clear aL Ia
  generalize (t !=0)=abd
  rcases hs with rfl | rfl | rfl | rfl | ⟨aM,h2,aH,bn⟩
  ·cases B<;>cases C<;>cases d<;>simp[Bool.and_assoc]
  ·cases B<;>cases C<;>cases d<;>simp[Bool.and_assoc]
  ·cases B<;>cases C<;>cases d<;>simp[Bool.and_assoc]
  ·cases B<;>cases C<;>cases d<;>simp[Bool.and_assoc]
  ·have z0:(s==0)=false:=by simpa using aM
   have z2:(s==2)=false:=by simpa using h2
   have z3:(s==3)=false:=by simpa using aH
   have z4:(s !=4)=true:=by simpa using bn
   rw[z0,z2,z3,z4]
   simp only[aM,h2,aH,bn,if_false,decide_false,decide_true,ne_eq,not_false_eq_true]
   cases B<;>cases C<;>cases d<;>simp[Bool.and_assoc]
def lU (x:ck):Bool:=bN x.cE 1 2&&bN x.a7 0 2
def jI (p:aN) (f:Frame) (i k:Int):Bool:=(i !=k)&&(kX p i k&&(((nth f.M i).az !=0)&&((nth f.M k).az !=0)))
def pQ (p:aN) (f:Frame):Bool:= !((!(fP p)) || ((!f.ok) || (((f.aF.length:Int) !=p.ag) || (((f.aB.length:Int) !=(p.bu.length:Int)) || ((f.M.length:Int) !=(p.M.length:Int))))))
theorem vb {p:aN} {f:Frame}:pQ p f=true↔fP p=true∧f.ok=true∧(f.aF.length:Int)=p.ag∧f.aB.length=p.bu.length∧f.M.length=p.M.length:=by
 unfold pQ
 simp only[Bool.not_eq_true',Bool.or_eq_false_iff,Bool.not_eq_false',bne_eq_false_iff_eq]
 constructor
 ·rintro⟨a,b,c,d,e⟩;exact⟨a,b,c,by omega,by omega⟩
 ·rintro⟨a,b,c,d,e⟩;exact⟨a,b,c,by omega,by omega⟩
theorem O7 {p:aN} {f:Frame}:AP p f=true↔ ∀i k:Int,0≤i→i<f.M.length→0≤k→k<f.M.length→jI p f i k=false:=by
 unfold AP
 rw[List.all_eq_true]
 have key: ∀i k:Nat,(decide (i=k) || !pG p i k || decide ((nth f.M i).az=0) || decide ((nth f.M k).az=0))= !jI p f i k:=fun i k=>by
  unfold jI kX pG
  have aT:decide (i=k)= !((i:Int) !=(k:Int)):=by rw[Bool.eq_iff_iff];simp;omega
  have e2: ∀x:Int,decide (x=0)= !(x !=0):=fun x=>by rw[Bool.eq_iff_iff];simp
  rw[aT,e2,e2]
  cases((i:Int) !=(k:Int))<;>cases nth (nth p.bz (i:Int)) (k:Int)<;>cases((nth f.M (i:Int)).az !=0)<;>cases((nth f.M (k:Int)).az !=0)<;>rfl
 constructor
 ·intro h i k i0 i1 a8 c7
  have h1:=h i.toNat (List.mem_range.2 (by omega))
  rw[List.all_eq_true] at h1
  have h2:=h1 k.toNat (List.mem_range.2 (by omega))
  rw[key,Int.toNat_of_nonneg i0,Int.toNat_of_nonneg a8] at h2
  simpa using h2
 ·intro h i hi
  rw[List.all_eq_true]
  intro k hk
  rw[key,h i k (by omega) (by have:=List.mem_range.1 hi;omega) (by omega) (by have:=List.mem_range.1 hk;omega)];rfl
theorem vc {p:aN} {f:Frame}:gJ p f=true↔pQ p f=true∧(∀x∈f.aB,lU x=true)∧(∀i:Int,0≤i→i<f.M.length→gg p f i=true)∧
  (∀i k:Int,0≤i→i<f.M.length→0≤k→k<f.M.length→jI p f i k=false)∧f.M=(lf p f).M:=by
 unfold gJ l3
 rw[vb,←O7]
 simp only[Bool.and_eq_true,decide_eq_true_eq,List.all_eq_true,List.mem_range]
 constructor
 ·rintro⟨⟨⟨⟨⟨⟨⟨⟨a,b⟩,c⟩,d⟩,e⟩,g⟩,h⟩,i⟩,j⟩
  refine⟨⟨a,b,c,d,e⟩,fun x hx=>by unfold lU;rw[Bool.and_eq_true];exact g x hx,fun q b8 q1=> ?_,i,j⟩
  have:=h q.toNat (by omega)
  rwa [Int.toNat_of_nonneg b8] at this
 ·rintro⟨⟨a,b,c,d,e⟩,g,h,i,j⟩
  exact⟨⟨⟨⟨⟨⟨⟨⟨a,b⟩,c⟩,d⟩,e⟩,fun x hx=>by have:=g x hx;unfold lU at this;rwa [Bool.and_eq_true] at this⟩,fun q af=>h q (by omega) (by omega)⟩,i⟩,j⟩
theorem BZ {p:aN} {f:Frame} (hb:pQ p f=true) (bw: ∀i:Int,0≤i→i<f.M.length→pW p f i=true):jC p f:=by
 obtain⟨h1,h2,aH,bn,cX⟩:=vb.1 hb
 have key: ∀i:Nat,i<f.M.length→((nth f.M i).U.length:Int)=((nth p.M i).ag.length:Int)∧0≤(nth f.M i).aa∧(nth f.M i).aa<((nth p.M i).ag.length:Int):=fun i hi=>by
  have:=bw i (by omega) (by omega)
  unfold pW at this
  simp only[Bool.not_eq_true',Bool.or_eq_false_iff,bne_eq_false_iff_eq,decide_eq_false_iff_not] at this
  exact⟨this.2.2.1,by omega,by omega⟩
 refine⟨aH,bn,cX,fun i h w aT e2=> ?_,fun h hm=> ?_⟩
 ·have hi:=(List.getElem?_eq_some_iff.1 aT).1
  have ar:=(List.getElem?_eq_some_iff.1 e2).1
  have:=(key i hi).1
  rw[h7 hi,h7 ar,(List.getElem?_eq_some_iff.1 aT).2,(List.getElem?_eq_some_iff.1 e2).2] at this
  omega
 ·obtain⟨i,hi,rfl⟩:=List.mem_iff_getElem.1 hm
  have:=key i hi
  rw[h7 hi] at this
  omega
theorem O6 {p:aN} {f:Frame} {i k:Int} (cS:FS p) (aE:f.M.length=p.M.length) (i0:0≤i) (i1:i<f.M.length) (a8:0≤k) (c7:k<f.M.length):jI p f i k=jI p f k i:=by
 unfold jI
 rw[cS.sym i k i0 (by omega) a8 (by omega),show(i !=k)=(k !=i) by rw[Bool.eq_iff_iff];simp;omega,Bool.and_comm ((nth f.M i).az !=0)]
def uf (p:aN) (f:Frame) (n:Nat) (i:Int):Bool:=(List.range n).any fun k=>jI p f i k
theorem XW (x:ck):(bif (x.cE !=1) then((x.cE !=2) || ((decide (x.a7<0)) || (decide (x.a7>2)))) else((decide (x.a7<0)) || (decide (x.a7>2))))= !lU x:=by
 unfold lU bN
 by_cases h:x.cE=1
 ·rw[h,Bool.eq_iff_iff];simp
 ·have:(x.cE !=1)=true:=by simpa using h
  rw[this,Bool.eq_iff_iff];simp;omega
def wW (h:ab):Prop:=h.U.length≤1048576
def zW (w:List ab):Prop:=rr w≤1048576
def zV (f:Frame):Prop:=m0 f≤1048576
theorem Zx {f:Frame} (h:zV f):l4 f:=by
 have h:f.aF.length+f.aB.length+(f.M.length+(f.M.map fun h=>h.U.length).sum)≤1048576:=h
 refine⟨by omega,by omega,by omega,fun x hx=> ?_⟩
 have:=wg (fun h:ab=>h.U.length) hx
 omega
end Go.Proofs.Ytglpfccgmfhkdaa.Fw
set_option linter.unusedVariables false
set_option maxRecDepth 100000
set_option maxHeartbeats 4000000
set_option linter.unusedSimpArgs false
namespace Go.Proofs.Ytglpfccgmfhkdaa.Fw
open Go
attribute [local irreducible] evS evSD WpS Weak Oper.looksAt
def J0 (a0:ck) (J:ck) (ad:Bool):Prop:=
 ((a0.cE !=J.cE)=true→false=ad)∧((!(a0.cE !=J.cE))=true→((a0.a7 !=J.a7)=true→false=ad)∧((!(a0.a7 !=J.a7))=true→true=ad))
theorem Vz (a0:ck) (J:ck):a_ Try.prog 132 [.agg (br a0),.agg (br J)] (ay (eqv a0 J)):=(fun(h:J0 a0 J (eqv a0 J))=>a_.run (ps:=[.dO,.dO]) (rs:=[.bool]) (x:=(a0,J,())) (r:=((eqv a0 J),())) ⟨15,cs,[]⟩ ⟨[],[],[],[],[]⟩ .nil Try.func132 h) (by
 unfold J0
 obtain⟨c,p⟩:=a0
 obtain⟨b_,tP⟩:=J
 simp[eqv]
 intros
 simp_all)
def VA:cw Try.prog:=⟨132,[.dO,.dO],[.bool],none,fun x=>((eqv x.1 x.2.1),()),fun x h=>Vz x.1 x.2.1⟩
def Vx:List Item:=[al 0,al 1,al 2,al 3,al 4,al 5,al 6,al 7,al 8,al 9]
def Vy:List (List Nat):=[[],[],[0,1],[0,1,2],[],[],[4,5],[4,5,6],rg 0 8,rg 0 9]
def JZ (aj:Int→Prop) (ak:Int→Nat) (a0 J:(List ck)) (ad:Bool):Prop:=
  ((a0.length≤4611686018427387904)∧(J.length≤4611686018427387904)→((a0.length:Int) !=(J.length:Int))=true→false=ad)∧((a0.length≤4611686018427387904)∧(J.length≤4611686018427387904)∧((!((a0.length:Int) !=(J.length:Int)))=true)→aj 0∧ ∀(v5:Int),aj v5→(((decide (v5<(a0.length:Int)))=false→true=ad)∧((decide (v5<(a0.length:Int)))=true→(((0≤v5∧v5.toNat<a0.length)∧(0≤v5∧v5.toNat<J.length))∧((!(eqv (nth a0 v5) (nth J v5)))=true→false=ad))∧((!(!(eqv (nth a0 v5) (nth J v5))))=true→aj (IntKind.i64.wrap (v5+1))∧ak (IntKind.i64.wrap (v5+1))<ak v5))))
def JY (a0:(List ck)) (J:(List ck)) (ad:Bool) (aj:Int→Prop) (ak:Int→Nat):Prop:=
 JZ aj ak a0 J ad
theorem Vv (a0:(List ck)) (J:(List ck)):a_ Try.prog 81 [bq br a0,bq br J] (ay (eqv a0 J)):=(fun(aj:Int→Prop) (ak:Int→Nat) (h:JY a0 J (eqv a0 J) aj ak)=>a_.run (ps:=[(.l .dO),(.l .dO)]) (rs:=[.bool]) (x:=(a0,J,())) (r:=((eqv a0 J),())) ⟨27,cs,[VA]⟩ ⟨[13],[(6,Vx,Vy)],[],[],[]⟩ (dz [0,1] [] 5 aj ak fun _=> .nil) Try.func81 h) (cl a0.length (fun v=> !(eqv (nth a0 v) (nth J v)))) (cz a0.length) (by
 unfold JY JZ
 exact n5 (ne:=fun v=> !(eqv (nth a0 v) (nth J v))) (fun v=>by simp[eqv]))
def Vw:cw Try.prog:=⟨81,[(.l .dO),(.l .dO)],[.bool],none,fun x=>((eqv x.1 x.2.1),()),fun x h=>Vv x.1 x.2.1⟩
def JO (a0 J:ab) (ad:Bool):Prop:=
  ((a0.az !=J.az)=true→false=ad)∧((!(a0.az !=J.az))=true→((a0.aa !=J.aa)=true→false=ad)∧((!(a0.aa !=J.aa))=true→((!(eqv a0.U J.U))=true→false=ad)∧((!(!(eqv a0.U J.U)))=true→((a0.an !=J.an)=true→false=ad)∧((!(a0.an !=J.an))=true→((a0.ao !=J.ao)=true→false=ad)∧((!(a0.ao !=J.ao))=true→true=ad)))))
def JN (a0:ab) (J:ab) (ad:Bool):Prop:=
 JO a0 J ad
theorem Vk (a0:ab) (J:ab):a_ Try.prog 133 [.agg (ct false a0),.agg (ct false J)] (ay (eqv a0 J)):=(fun(h:JN a0 J (eqv a0 J))=>a_.run (ps:=[.held,.held]) (rs:=[.bool]) (x:=(a0,J,())) (r:=((eqv a0 J),())) ⟨31,cs,[Dv]⟩ ⟨[],[],[],[],[]⟩ .nil Try.func133 h) (by
 unfold JN JO
 obtain⟨a,b,c,d,e⟩:=a0
 obtain⟨gS,bI,b_,u7,b1⟩:=J
 simp[eqv]
 refine⟨fun h h1=>absurd h1 h,fun h=>⟨fun k _ c7=>absurd c7 k,?_⟩⟩
 intros
 simp_all)
def Vl:cw Try.prog:=⟨133,[.held,.held],[.bool],none,fun x=>((eqv x.1 x.2.1),()),fun x h=>Vk x.1 x.2.1⟩
def Vi:List Item:=[al 0,al 1,al 2,al 3,al 4,al 5,al 6,al 7,al 8,al 9]
def Vj:List (List Nat):=[[],[],[0,1],[0,1,2],[],[],[4,5],[4,5,6],rg 0 8,rg 0 9]
def JM (aj:Int→Prop) (ak:Int→Nat) (a0 J:(List ab)) (ad:Bool):Prop:=
  ((a0.length≤4611686018427387904)∧(J.length≤4611686018427387904)→((a0.length:Int) !=(J.length:Int))=true→false=ad)∧((a0.length≤4611686018427387904)∧(J.length≤4611686018427387904)∧((!((a0.length:Int) !=(J.length:Int)))=true)→aj 0∧ ∀(v5:Int),aj v5→(((decide (v5<(a0.length:Int)))=false→true=ad)∧((decide (v5<(a0.length:Int)))=true→(((0≤v5∧v5.toNat<a0.length)∧(0≤v5∧v5.toNat<J.length))∧((!(eqv (nth a0 v5) (nth J v5)))=true→false=ad))∧((!(!(eqv (nth a0 v5) (nth J v5))))=true→aj (IntKind.i64.wrap (v5+1))∧ak (IntKind.i64.wrap (v5+1))<ak v5))))
def JL (a0:(List ab)) (J:(List ab)) (ad:Bool) (aj:Int→Prop) (ak:Int→Nat):Prop:=
 JM aj ak a0 J ad
theorem Vg (a0:(List ab)) (J:(List ab)):a_ Try.prog 82 [bq (ct false) a0,bq (ct false) J] (ay (eqv a0 J)):=(fun(aj:Int→Prop) (ak:Int→Nat) (h:JL a0 J (eqv a0 J) aj ak)=>a_.run (ps:=[(.l .held),(.l .held)]) (rs:=[.bool]) (x:=(a0,J,())) (r:=((eqv a0 J),())) ⟨27,cs,[Vl]⟩ ⟨[13],[(6,Vi,Vj)],[],[],[]⟩ (dz [0,1] [] 5 aj ak fun _=> .nil) Try.func82 h) (cl a0.length (fun v=> !(eqv (nth a0 v) (nth J v)))) (cz a0.length) (by
 unfold JL JM
 exact n5 (ne:=fun v=> !(eqv (nth a0 v) (nth J v))) (fun v=>by simp[eqv]))
def Vh:cw Try.prog:=⟨82,[(.l .held),(.l .held)],[.bool],none,fun x=>((eqv x.1 x.2.1),()),fun x h=>Vg x.1 x.2.1⟩
def JK (a0:Frame) (J:Frame) (ad:Bool):Prop:=
 ((a0.ok !=J.ok)=true→false=ad)∧((!(a0.ok !=J.ok))=true→((!(eqv a0.aF J.aF))=true→false=ad)∧((!(!(eqv a0.aF J.aF)))=true→((!(eqv a0.aB J.aB))=true→false=ad)∧((!(!(eqv a0.aB J.aB)))=true→((!(eqv a0.M J.M))=true→false=ad)∧((!(!(eqv a0.M J.M)))=true→true=ad))))
theorem Vf (a0:Frame) (J:Frame):a_ Try.prog 34 [.agg (b5 false a0),.agg (b5 false J)] (ay (eqv a0 J)):=(fun(h:JK a0 J (eqv a0 J))=>a_.run (ps:=[.frame,.frame]) (rs:=[.bool]) (x:=(a0,J,())) (r:=((eqv a0 J),())) ⟨28,cs,[Dv,Vw,Vh]⟩ ⟨[],[],[],[],[]⟩ .nil Try.func34 h) (by
 unfold JK
 obtain⟨a,b,c,d⟩:=a0
 obtain⟨gS,bI,b_,u7⟩:=J
 simp[eqv]
 refine⟨fun h h1=>absurd h1 h,fun h=>⟨fun k _ c7=>absurd c7 k,?_⟩⟩
 intros
 simp_all)
def Kj (a0:(List ck)) (J:Int) (ad:Int):Prop:=
 a0.length≤4611686018427387904→((decide ((IntKind.i64.wrap (J - (a0.length:Int)))<0))=true→(-1)=ad)∧((!(decide ((IntKind.i64.wrap (J - (a0.length:Int)))<0)))=true→(IntKind.i64.wrap (J - (a0.length:Int)))=ad)
theorem VU (a0:(List ck)) (J:Int) (ai:eZ a0 J):a_ Try.prog 95 [bq br a0,au J] (au (bX a0 J)):=(fun(h:Kj a0 J (bX a0 J))=>a_.run (ps:=[(.l .dO),.int]) (rs:=[.int]) (x:=(a0,J,())) (r:=((bX a0 J),())) ⟨12,cs,[]⟩ ⟨[],[],[],[],[]⟩ .nil Try.func95 h) (by
 unfold Kj
 exact fun ap=>Aa ai ap)
def VV:cw Try.prog:=⟨95,[(.l .dO),.int],[.int],some fun x=>eZ x.1 x.2.1,fun x=>((bX x.1 x.2.1),()),fun x h=>VU x.1 x.2.1 h⟩
def Kd (a0:ab) (J:Int) (ad:Int):Prop:=
 (eZ a0.U J)∧(((decide ((bX a0.U J)<0))=true→(-1)=ad)∧((!(decide ((bX a0.U J)<0)))=true→(bX a0.U J)=ad))
theorem VO (a0:ab) (J:Int) (ai:eZ a0 J):a_ Try.prog 139 [.agg (ct false a0),au J] (au (oC a0 J)):=(fun(h:Kd a0 J (oC a0 J))=>a_.run (ps:=[.held,.int]) (rs:=[.int]) (x:=(a0,J,())) (r:=((oC a0 J),())) ⟨12,cs,[Dw]⟩ ⟨[],[],[],[],[]⟩ .nil Try.func139 h) (by
 unfold Kd oC bX
 have ai:0≤J∧J≤1048576:=ai
 exact⟨ai,mE (m:=0) ai (by omega) fun c k=>rfl⟩)
def VP:cw Try.prog:=⟨139,[.held,.int],[.int],some fun x=>eZ x.1 x.2.1,fun x=>((oC x.1 x.2.1),()),fun x h=>VO x.1 x.2.1 h⟩
def Kc (aj:Int→Int→Prop) (ak:Int→Int→Nat) (a0:(List ab)) (ad v1 v5:Int):Prop:=
  ((decide (v5<(a0.length:Int)))=false→v1=ad)∧((decide (v5<(a0.length:Int)))=true→(((0≤v5∧v5.toNat<a0.length)∧(eZ (nth a0 v5) v1))∧((decide ((oC (nth a0 v5) v1)<0))=true→(-1)=ad))∧((!(decide ((oC (nth a0 v5) v1)<0)))=true→aj (oC (nth a0 v5) v1) (IntKind.i64.wrap (v5+1))∧ak (oC (nth a0 v5) v1) (IntKind.i64.wrap (v5+1))<ak v1 v5))
def Kb (a0:(List ab)) (J:Int) (ad:Int) (aj:Int→Int→Prop) (ak:Int→Int→Nat):Prop:=
 a0.length≤4611686018427387904→((decide ((IntKind.i64.wrap (J - (a0.length:Int)))<0))=true→(-1)=ad)∧((!(decide ((IntKind.i64.wrap (J - (a0.length:Int)))<0)))=true→aj (IntKind.i64.wrap (J - (a0.length:Int))) 0∧ ∀(v1:Int) (v5:Int),aj v1 v5→(Kc aj ak a0 ad v1 v5))
theorem VM (a0:(List ab)) (J:Int) (ai:eZ a0 J):a_ Try.prog 96 [bq (ct false) a0,au J] (au (qy a0 J)):=(fun(aj:Int→Int→Prop) (ak:Int→Int→Nat) (h:Kb a0 J (qy a0 J) aj ak)=>a_.run (ps:=[(.l .held),.int]) (rs:=[.int]) (x:=(a0,J,())) (r:=((qy a0 J),())) ⟨27,cs,[VP]⟩ ⟨[14],[],[],[],[]⟩ (.lp [] [0] [] [.int,.int] [1,5] (fun aV=>[(1,.i .i64 aV.1),(5,.i .i64 aV.2.1)]) (fun aV=>aj aV.1 aV.2.1) (fun aV=>ak aV.1 aV.2.1) fun _=> .nil) Try.func96 h) (us a0 (fun h=>h.U.length) J) (uu a0) (by
 unfold Kb Kc
 exact fun ap=>Fi (g:=oC) (fun _ _=>rfl) ai ap)
def VN:cw Try.prog:=⟨96,[(.l .held),.int],[.int],some fun x=>eZ x.1 x.2.1,fun x=>((qy x.1 x.2.1),()),fun x h=>VM x.1 x.2.1 h⟩
def Ka (a0:Frame) (J ad:Int):Prop:=
  ((decide ((bX a0.aB (bX a0.aF J))<0))=true→(-1)=ad)∧((!(decide ((bX a0.aB (bX a0.aF J))<0)))=true→(eZ a0.M (bX a0.aB (bX a0.aF J)))∧(((decide ((qy a0.M (bX a0.aB (bX a0.aF J)))<0))=true→(-1)=ad)∧((!(decide ((qy a0.M (bX a0.aB (bX a0.aF J)))<0)))=true→(qy a0.M (bX a0.aB (bX a0.aF J)))=ad)))
def J_ (a0:Frame) (J:Int) (ad:Int):Prop:=
 (eZ a0.aF J)∧(((decide ((bX a0.aF J)<0))=true→(-1)=ad)∧((!(decide ((bX a0.aF J)<0)))=true→(eZ a0.aB (bX a0.aF J))∧(Ka a0 J ad)))
theorem VL (a0:Frame) (J:Int) (ai:eZ a0 J):a_ Try.prog 40 [.agg (b5 false a0),au J] (au (pw a0 J)):=(fun(h:J_ a0 J (pw a0 J))=>a_.run (ps:=[.frame,.int]) (rs:=[.int]) (x:=(a0,J,())) (r:=((pw a0 J),())) ⟨24,cs,[Dw,VV,VN]⟩ ⟨[],[],[],[],[]⟩ .nil Try.func40 h) (by
 unfold J_ Ka pw m0 bX qy
 have ai:0≤J∧J≤1048576:=ai
 refine⟨ai,mE (m:=a0.aB.length+rr a0.M) ai (by omega) fun c k=>⟨k,?_⟩⟩
 rw[pd ai.1 c]
 refine mE (m:=rr a0.M) ai (by omega) fun c k=>⟨k,?_⟩
 rw[pd ai.1 c]
 exact mE (m:=0) ai (by omega) fun c k=>rfl)
def Wj (a0:ck) (ad:ck):Prop:=
 (a0.cE=ad.cE)∧(a0.a7=ad.a7)
theorem Wk (a0:ck):a_ Try.prog 141 [.agg (br a0)] (.agg (br (ah a0))):=(fun(h:Wj a0 (ah a0))=>a_.run (ps:=[.dO]) (rs:=[.dO]) (x:=(a0,())) (r:=((ah a0),())) ⟨11,cs,[]⟩ ⟨[],[],[],[],[]⟩ .nil Try.func141 h) (by
 exact⟨rfl,rfl⟩)
def Wl:cw Try.prog:=⟨141,[.dO],[.dO],none,fun x=>((ah x.1),()),fun x h=>Wk x.1⟩
def KF (aj:(List ck)→Int→Prop) (ak:(List ck)→Int→Nat) (a0 ad:(List ck)):Prop:=
  aj (List.replicate (a0.length:Int).toNat ({cE:=(0:Int),a7:=(0:Int)}:ck)) 0∧ ∀(bC:(List ck)) (v4:Int),aj bC v4→(((decide (v4<(a0.length:Int)))=false→bC.length≤4611686018427387904∧bC=ad)∧((decide (v4<(a0.length:Int)))=true→((0≤v4∧v4.toNat<a0.length)∧((0≤v4∧v4.toNat<bC.length)∧(v4.toNat<bC.length)))∧(aj (bC.set v4.toNat (ah (nth a0 v4))) (IntKind.i64.wrap (v4+1))∧ak (bC.set v4.toNat (ah (nth a0 v4))) (IntKind.i64.wrap (v4+1))<ak bC v4)))
def KE (a0:(List ck)) (ad:(List ck)) (aj:(List ck)→Int→Prop) (ak:(List ck)→Int→Nat):Prop:=
 (a0.length≤4611686018427387904→0≤(a0.length:Int)∧16*(a0.length:Int)≤140737488355328∧(a0.length:Int)≤4611686018427387904)∧(a0.length≤4611686018427387904→KF aj ak a0 ad)
theorem Wh (a0:(List ck)) (ai:small a0):a_ Try.prog 101 [bq br a0] (lq br (ah a0)):=(fun(aj:(List ck)→Int→Prop) (ak:(List ck)→Int→Nat) (h:KE a0 (ah a0) aj ak)=>a_.run (ps:=[(.l .dO)]) (rs:=[(.l .dO)]) (x:=(a0,())) (r:=((ah a0),())) ⟨23,cs,[Wl]⟩ ⟨[10],[],[],[],[]⟩ (.lp [] [0] [] [(.l .dO),.int] [bD 0,4] (fun aV=>[(3,.ref 0 0 aV.1.length false),(4,.i .i64 aV.2.1),(bD 0,.blk 0 .dO aV.1 _ rfl)]) (fun aV=>aj aV.1 aV.2.1) (fun aV=>ak aV.1 aV.2.1) fun _=> .nil) Try.func101 h) (lC a0 ah ({cE:=(0:Int),a7:=(0:Int)}:ck)) (mi a0) (by
 unfold KE KF
 have ai:a0.length≤1048576:=ai
 exact⟨fun ap=>⟨c8 _,by omega,by omega⟩,fun ap=>ye (f:=ah) ap (wc _)⟩)
def Wi:cw Try.prog:=⟨101,[(.l .dO)],[(.l .dO)],some fun x=>small x.1,fun x=>((ah x.1),()),fun x h=>Wh x.1 h⟩
def V8 (a0:ab) (ad:ab):Prop:=
 (small a0.U)∧((a0.az=ad.az)∧(a0.aa=ad.aa)∧((ah a0.U)=ad.U)∧(a0.an=ad.an)∧(a0.ao=ad.ao))
theorem V9 (a0:ab) (ai:wW a0):a_ Try.prog 142 [.agg (ct false a0)] (.agg (ct true (ah a0))):=(fun(h:V8 a0 (ah a0))=>a_.run (ps:=[.held]) (rs:=[.held]) (x:=(a0,())) (r:=((ah a0),())) ⟨21,cs,[Dx]⟩ ⟨[],[],[],[],[]⟩ .nil Try.func142 h) (by
 exact⟨ai,rfl,rfl,rfl,rfl,rfl⟩)
def V_:cw Try.prog:=⟨142,[.held],[.held],some fun x=>wW x.1,fun x=>((ah x.1),()),fun x h=>V9 x.1 h⟩
def Kw (aj:(List ab)→Int→Prop) (ak:(List ab)→Int→Nat) (a0 ad bC:(List ab)) (v4:Int):Prop:=
  ((decide (v4<(a0.length:Int)))=false→bC.length≤4611686018427387904∧bC=ad)∧((decide (v4<(a0.length:Int)))=true→((0≤v4∧v4.toNat<a0.length)∧((wW (nth a0 v4))∧((0≤v4∧v4.toNat<bC.length)∧(v4.toNat<bC.length))))∧(aj (bC.set v4.toNat (ah (nth a0 v4))) (IntKind.i64.wrap (v4+1))∧ak (bC.set v4.toNat (ah (nth a0 v4))) (IntKind.i64.wrap (v4+1))<ak bC v4))
def Kx (aj:(List ab)→Int→Prop) (ak:(List ab)→Int→Nat) (a0 ad:(List ab)):Prop:=
  (a0.length≤4611686018427387904→0≤(a0.length:Int)∧56*(a0.length:Int)≤140737488355328∧(a0.length:Int)≤4611686018427387904)∧(a0.length≤4611686018427387904→aj (List.replicate (a0.length:Int).toNat ({az:=(0:Int),aa:=(0:Int),U:=([]:(List Bool)),an:=false,ao:=(0:Int)}:ab)) 0∧ ∀(bC:(List ab)) (v4:Int),aj bC v4→(Kw aj ak a0 ad bC v4))
def Kv (a0:(List ab)) (ad:(List ab)) (aj:(List ab)→Int→Prop) (ak:(List ab)→Int→Nat):Prop:=
 Kx aj ak a0 ad
theorem V6 (a0:(List ab)) (ai:zW a0):a_ Try.prog 102 [bq (ct false) a0] (lq (ct false) (ah a0)):=(fun(aj:(List ab)→Int→Prop) (ak:(List ab)→Int→Nat) (h:Kv a0 (ah a0) aj ak)=>a_.run (ps:=[(.l .held)]) (rs:=[(.l .held)]) (x:=(a0,())) (r:=((ah a0),())) ⟨23,cs,[V_]⟩ ⟨[10],[],[],[],[]⟩ (.lp [] [0] [] [(.l .held),.int] [bD 0,4] (fun aV=>[(3,.ref 0 0 aV.1.length false),(4,.i .i64 aV.2.1),(bD 0,.blk 0 .held aV.1 _ rfl)]) (fun aV=>aj aV.1 aV.2.1) (fun aV=>ak aV.1 aV.2.1) fun _=> .nil) Try.func102 h) (lC a0 ah ({az:=(0:Int),aa:=(0:Int),U:=([]:(List Bool)),an:=false,ao:=(0:Int)}:ab)) (mi a0) (by
 unfold Kv Kx Kw
 have ai:a0.length+(a0.map fun h=>h.U.length).sum≤1048576:=ai
 refine⟨fun ap=>⟨c8 _,by omega,by omega⟩,fun ap=>yd (f:=ah) (φ:=fun v=>wW (nth a0 v)) ap (wc _) fun v _ hv=> ?_⟩
 have:=wg (fun h:ab=>h.U.length) (eC hv)
 unfold wW;omega)
def V7:cw Try.prog:=⟨102,[(.l .held)],[(.l .held)],some fun x=>zW x.1,fun x=>((ah x.1),()),fun x h=>V6 x.1 h⟩
def Ku (a0:Frame) (ad:Frame):Prop:=
 (small a0.aF)∧((small a0.aB)∧((zW a0.M)∧((a0.ok=ad.ok)∧((ah a0.aF)=ad.aF)∧((ah a0.aB)=ad.aB)∧((ah a0.M)=ad.M))))
theorem V5 (a0:Frame) (ai:zV a0):a_ Try.prog 42 [.agg (b5 false a0)] (.agg (b5 true (ah a0))):=(fun(h:Ku a0 (ah a0))=>a_.run (ps:=[.frame]) (rs:=[.frame]) (x:=(a0,())) (r:=((ah a0),())) ⟨20,cs,[Dx,Wi,V7]⟩ ⟨[],[],[],[],[]⟩ .nil Try.func42 h) (by
 have ai:a0.aF.length+a0.aB.length+rr a0.M≤1048576:=ai
 unfold Ku small zW
 exact⟨by omega,by omega,by omega,rfl,rfl,rfl,rfl⟩)
end Go.Proofs.Ytglpfccgmfhkdaa.Fw
set_option linter.unusedVariables false
namespace Go.Proofs.Ytglpfccgmfhkdaa.Fw
open Go
def jU (a n:Int):Bool:=decide (0≤a)&&decide (a<n)
theorem Jw {a n:Int}:jU a n=true↔0≤a∧a<n:=by unfold jU;simp
theorem UR {a n:Int}:bN a 0 (n - 1)=jU a n:=by unfold jU bN;rw[Bool.eq_iff_iff];simp;omega
structure Fit (p:aN) (f:Frame):Prop where
 q9:fP p=true
 fr:jC p f
theorem BY {p:aN} {f:Frame} (h:gJ p f=true):Fit p f:=by
 obtain⟨h1,h2,aH,bn,cX⟩:=vc.1 h
 refine⟨(vb.1 h1).1,BZ h1 fun i i0 i1=> ?_⟩
 have:=aH i i0 i1
 rw[yv,Bool.and_eq_true] at this;exact this.1
theorem Fit.in {p:aN} {f:Frame} (h:Fit p f):sC p:=D1 h.q9
def vd (p:aN) (f:Frame) (i:Int):Prop:=l4 f
def hy (p:aN) (f:Frame) (i s:Int):Bool:=((nth f.M i).az !=0)&&((nth p.M i).ag.drop (nth f.M i).aa.toNat).contains s
def tm (p:aN) (f:Frame) (i s:Int):Prop:=Fit p f∧0≤i∧i<p.M.length
theorem YT {p:aN} (h:fP p=true) {w:Way} (hw:w∈p.M):w.ag.Nodup:=(rM.1 (nK.1 ((zr h).2.2.1 w hw)).2.1).2.2
theorem x1 {l:List Int} {g:Nat} {s:Int}:(l.drop g).contains s=true↔ ∃k,g≤k∧ ∃h:k<l.length,l[k]=s:=by
 rw[List.contains_iff_mem,List.mem_iff_getElem]
 constructor
 ·rintro⟨i,hi,he⟩
  rw[List.length_drop] at hi
  rw[List.getElem_drop] at he
  exact⟨g+i,by omega,by omega,he⟩
 ·rintro⟨k,aL,hk,he⟩
  refine⟨k - g,by rw[List.length_drop];omega,?_⟩
  rw[List.getElem_drop]
  simp only[show g+(k - g)=k by omega];exact he
theorem has_eq {l:List Int} (ap:l.Nodup) {g s:Int} (aM:0≤g):(decide (k6 l s ≥ g)&&decide (k6 l s ≥ 0))=(l.drop g.toNat).contains s:=by
 unfold k6
 cases h:first l (fun x=>s==x) with
 | none=>
  have:(l.drop g.toNat).contains s=false:=by
   rw[←Bool.not_eq_true,x1]
   rintro⟨k,_,hk,he⟩
   have:=pP h _ (List.getElem_mem hk)
   rw[he] at this;simp at this
  rw[this];simp[zm]
 | some i=>
  unfold first at h
  rw[List.findIdx?_eq_some_iff_getElem] at h
  obtain⟨hi,hx,_⟩:=h
  have hx:s=l[i]:=by simpa using hx
  have hx:=hx.symm
  rw[Bool.eq_iff_iff,x1]
  show(decide ((i:Int) ≥ g)&&decide ((i:Int) ≥ 0))=true↔_
  simp only[Bool.and_eq_true,decide_eq_true_eq]
  constructor
  ·intro h;exact⟨i,by omega,hi,hx⟩
  ·rintro⟨k,aL,hk,he⟩
   have:k=i:=by
    exact(List.getElem_inj ap).1 (he.trans hx.symm)
   omega
def lD (q:Int→Bool) (v:Int):List Int:=((List.range v.toNat).filter fun i=>q (i:Nat)).map fun i=>((i:Nat):Int)
theorem yg {q:Int→Bool} {v:Int} (h:0≤v):lD q (v+1)=if q v=true then lD q v++[v] else lD q v:=by
 unfold lD
 rw[show(v+1).toNat=v.toNat+1 by omega,List.range_succ,List.filter_append,List.map_append]
 have hv:((v.toNat:Nat):Int)=v:=by omega
 cases af:q v with
 | true=>simp[hv,af]
 | false=>simp[hv,af]
theorem BR (q:Int→Bool) (v:Int):(lD q v).length≤v.toNat:=by
 unfold lD
 rw[List.length_map]
 exact Nat.le_trans (List.length_filter_le _ _) (by simp)
def rK (x:b9) (k:Int):Bool:=x.bo==k
def o9 (l:List b9) (k:Int):Int:=zm (first l (fun x=>x.bo==k))
def iT (l:List b9) (k:Int):Bool:=l.any fun x=>x.bo==k
theorem TG (l:List b9) (k:Int):(decide (o9 l k ≥ 0))=iT l k:=by
 unfold o9 iT
 cases h:first l (fun x=>x.bo==k) with
 | none=>
  rw[List.any_eq_false.2 fun x hx=>by rw[pP h x hx];simp];rfl
 | some i=>
  unfold first at h
  rw[List.findIdx?_eq_some_iff_getElem] at h
  obtain⟨hi,hx,_⟩:=h
  rw[List.any_eq_true.2 ⟨_,List.getElem_mem hi,hx⟩]
  show decide ((i:Int) ≥ 0)=true
  simp
def j0 (p:aN) (f:Frame) (i k:Int):Bool:=((nth f.M i).az !=0)&&(iT (nth p.M i).bJ k || (iT (nth p.M i).a7 k&&hy p f i (nth p.bu k)))
def mA (p:aN) (f:Frame) (k:Int):List Int:=lD (fun i=>j0 p f i k) p.M.length
def tU (p:aN) (f:Frame) (k:Int):Prop:=Fit p f∧0≤k∧k<p.bu.length
def mH (p:aN) (f:Frame) (i k:Int):Int:=if(nth f.M i).az=0 then 0 else match first (nth p.M i).bJ (fun x=>x.bo==k) with
 | some j=>(nth (nth p.M i).bJ j).bG
 | none=>match first (nth p.M i).a7 (fun x=>x.bo==k&&hy p f i (nth p.bu k)) with
  | some j=>(nth (nth p.M i).a7 j).bG
  | none=>0
def FC (p:aN) (f:Frame) (i k:Int):Prop:=Fit p f∧0≤i∧i<p.M.length∧0≤k∧k<p.bu.length
theorem KO {p:aN} (h:fP p=true) {w:Way} (hw:w∈p.M) {l:b9} (aE:l∈cg w):l.bG=1∨l.bG=2:=by
 have aL:=nK.1 ((zr h).2.2.1 w hw)
 have key: ∀{pe:List b9},ju p pe=true→ ∀x∈pe,x.bG=1∨x.bG=2:=fun h x hx=>by
  have:=(k8.1 h).2.1 x hx
  rw[Bool.and_eq_true] at this
  have:=vV.1 this.2
  omega
 rcases List.mem_append.1 aE with aE | aE
 ·exact key aL.2.2.2.2.1 l aE
 ·exact key aL.2.2.2.2.2.1 l aE
theorem Hj {α:Type} [Inhabited α] {xs:List α} {q:α→Bool} {j:Nat} (h:first xs q=some j):nth xs j∈xs∧q (nth xs j)=true:=by
 unfold first at h
 rw[List.findIdx?_eq_some_iff_getElem] at h
 obtain⟨hi,hx,_⟩:=h
 rw[h7 hi]
 exact⟨List.getElem_mem hi,hx⟩
theorem aa6 {p:aN} {f:Frame} {i k:Int} (h:fP p=true) (hi:i.toNat<p.M.length):decide (mH p f i k>0)=j0 p f i k:=by
 unfold mH j0 iT
 by_cases hs:(nth f.M i).az=0
 ·rw[if_pos hs,show((nth f.M i).az !=0)=false by simpa using hs];rfl
 ·rw[if_neg hs,show((nth f.M i).az !=0)=true by simpa using hs,Bool.true_and]
  have hm:=eC hi
  cases h1:first (nth p.M i).bJ (fun x=>x.bo==k) with
  | some j=>
   have:=Hj h1
   rw[List.any_eq_true.2 ⟨_,this⟩,Bool.true_or]
   have:=KO h hm (List.mem_append_right _ this.1)
   simp only[decide_eq_true_eq];omega
  | none=>
   rw[List.any_eq_false.2 fun x hx=>by rw[pP h1 x hx];simp,Bool.false_or]
   cases h2:first (nth p.M i).a7 (fun x=>x.bo==k&&hy p f i (nth p.bu k)) with
   | some j=>
    have:=Hj h2
    have aH:=this.2
    rw[Bool.and_eq_true] at aH
    rw[List.any_eq_true.2 ⟨_,this.1,aH.1⟩,aH.2,Bool.true_and]
    have:=KO h hm (List.mem_append_left _ this.1)
    simp only[decide_eq_true_eq];omega
   | none=>
    have:((nth p.M i).a7.any (fun x=>x.bo==k)&&hy p f i (nth p.bu k))=false:=by
     rw[Bool.and_eq_false_iff]
     cases bw:hy p f i (nth p.bu k) with
     | false=>exact .inr rfl
     | true=>
      refine .inl (List.any_eq_false.2 fun x hx=> ?_)
      have:=pP h2 x hx
      rw[bw,Bool.and_true] at this
      rw[this];simp
    rw[this];rfl
def lL:List Int→Int→Int
 | [],k=>k
 | x::r,k=>if x=k then lL r (k+1) else -1
theorem H3 (x:Int) (r:List Int) (k:Int):lL (x::r) k=if x=k then lL r (k+1) else -1:=rfl
def Cp {α:Type} (xs:List α) (k:Int):Prop:=0≤k∧k+xs.length≤4611686018427387904
def jv (k:Int) (n:Nat):List Int:=(List.range n).map fun i=>k+(i:Nat)
theorem W0 (k:Int) (n:Nat):jv k (n+1)=k::jv (k+1) n:=by
 unfold jv
 rw[List.range_succ_eq_map,List.map_cons,List.map_map]
 congr 1
 ·simp
 ·refine List.map_congr_left fun i _=> ?_
  show k+((i+1:Nat):Int)=k+1+(i:Nat)
  omega
theorem H4: ∀(n:Nat) (k:Int),lL (jv k n) k=k+n
 | 0,k=>by unfold jv lL;simp
 | n+1,k=>by
  rw[W0]
  show(if k=k then lL (jv (k+1) n) (k+1) else -1)=_
  rw[if_pos rfl,H4 n (k+1)];omega
theorem we (k:Int) (n:Nat):(jv k n).length=n:=by unfold jv;simp
theorem W1 (k:Int) {n i:Nat} (h:i<n):(jv k n)[i]?=some (k+(i:Nat)):=by
 unfold jv;rw[List.getElem?_map,List.getElem?_range h];rfl
theorem Ql {α:Type} [Inhabited α] {xs:List α} {v:Int} (h:v.toNat<xs.length):xs.drop v.toNat=nth xs v::xs.drop (v.toNat+1):=by
 rw[List.drop_eq_getElem_cons h]
 congr 1
 have:=fY (xs:=xs) (i:=v) h
 rw[List.getElem?_eq_getElem h] at this
 exact Option.some.inj this
open Go Go.RowKit
theorem A7 {p:aN} {l:Int} (hk:eZ p l) {w:World} {v:Value} (h:V2 (Env.at w) (.agg (bL false p)) v):
    Calls Try.prog 23 #[v,.int .i64 l] w fun e w'=>e= .returned (.int .i64 (nE p l))∧Below w.heap.size w w':=
  a_.int (vs:=[v,.int .i64 l]) (VT p l hk) (.cons h (.cons (aQ.int _ _) .nil))
theorem Gz {p:Frame} {l:Int} (hk:eZ p l) {w:World} {v:Value} (h:V2 (Env.at w) (.agg (b5 false p)) v):
    Calls Try.prog 40 #[v,.int .i64 l] w fun e w'=>e= .returned (.int .i64 (pw p l))∧Below w.heap.size w w':=
  a_.int (vs:=[v,.int .i64 l]) (VL p l hk) (.cons h (.cons (aQ.int _ _) .nil))
theorem Fp {p:aN} {w:World} {B:Nat→Prop} {v:Value} (h:fD w B (.agg (bL false p)) v): ∃dZ cP dB cr dw ch,v= .agg #[.int .i64 p.ag,.slice dZ p.bu.length cP,.slice dB p.M.length cr,.slice dw p.bz.length ch,.int .i64 p.dq]∧
    aQ w B (fun _=>False) (.aR (p.bu.map bO) false false) (.slice dZ p.bu.length cP)∧aQ w B (fun _=>False) (.aR (p.M.map (dI false)) false false) (.slice dB p.M.length cr)∧aQ w B (fun _=>False) (.aR (p.bz.map (e1 aU false)) false false) (.slice dw p.bz.length ch):=by
  obtain⟨vs,rfl,ai⟩:=(show ∃vs:List Value,v= .agg vs.toArray∧aK (bQ (Env.ro w B)) (bL false p) vs from h)
  obtain⟨a,vs,rfl,aC,ai⟩:=ai.cons_inv
  obtain⟨b,vs,rfl,hb,ai⟩:=ai.cons_inv
  obtain⟨c,vs,rfl,hc,ai⟩:=ai.cons_inv
  obtain⟨d,vs,rfl,aY,ai⟩:=ai.cons_inv
  obtain⟨e,vs,rfl,he,ai⟩:=ai.cons_inv
  obtain rfl:=ai.mv
  have aC:aQ w _ _ (.int .i64 p.ag) a:=aC
  have he:aQ w _ _ (.int .i64 p.dq) e:=he
  cases aC;cases he
  obtain⟨dZ,cP,rfl,e6⟩:=qz (jF hb)
  obtain⟨dB,cr,rfl,c9⟩:=qz (jF hc)
  obtain⟨dw,ch,rfl,dn⟩:=qz (jF aY)
  rw[List.length_map] at e6 c9 dn
  exact⟨dZ,cP,dB,cr,dw,ch,by simp,e6,c9,dn⟩
theorem Fo {p:Frame} {w:World} {B:Nat→Prop} {v:Value} (h:fD w B (.agg (b5 false p)) v): ∃dZ cP dB cr dw ch,v= .agg #[.bool p.ok,.slice dZ p.aF.length cP,.slice dB p.aB.length cr,.slice dw p.M.length ch]∧
    aQ w B (fun _=>False) (.aR (p.aF.map aU) false false) (.slice dZ p.aF.length cP)∧aQ w B (fun _=>False) (.aR (p.aB.map br) false false) (.slice dB p.aB.length cr)∧aQ w B (fun _=>False) (.aR (p.M.map (ct false)) false false) (.slice dw p.M.length ch):=by
  obtain⟨vs,rfl,ai⟩:=(show ∃vs:List Value,v= .agg vs.toArray∧aK (bQ (Env.ro w B)) (b5 false p) vs from h)
  obtain⟨a,vs,rfl,aC,ai⟩:=ai.cons_inv
  obtain⟨b,vs,rfl,hb,ai⟩:=ai.cons_inv
  obtain⟨c,vs,rfl,hc,ai⟩:=ai.cons_inv
  obtain⟨d,vs,rfl,aY,ai⟩:=ai.cons_inv
  obtain rfl:=ai.mv
  have aC:aQ w _ _ (.bool p.ok) a:=aC
  cases aC
  obtain⟨dZ,cP,rfl,e6⟩:=qz (jF hb)
  obtain⟨dB,cr,rfl,c9⟩:=qz (jF hc)
  obtain⟨dw,ch,rfl,dn⟩:=qz (jF aY)
  rw[List.length_map] at e6 c9 dn
  exact⟨dZ,cP,dB,cr,dw,ch,by simp,e6,c9,dn⟩
theorem xU {p:aN} (ai:EJ p) {w:World} {v:Value} (h:V2 (Env.at w) (.agg (bL false p)) v):
    Calls Try.prog 25 #[v] w fun e w'=> ∃dZ cP dB cr dw ch,e= .returned (.agg #[.int .i64 p.ag,.slice dZ p.bu.length cP,.slice dB p.M.length cr,.slice dw p.bz.length ch,.int .i64 p.dq])∧Below w.heap.size w w'∧
      fD w' (iI w w') (.agg (bL false p)) (.agg #[.int .i64 p.ag,.slice dZ p.bu.length cP,.slice dB p.M.length cr,.slice dw p.bz.length ch,.int .i64 p.dq]):=
  (a_.uw (e:= .dN) (x:=p) (vs:=[v]) (Wg p ai) (.cons h .nil)).mono fun e w' ⟨dv,h1,h2,aH⟩=>by
    obtain⟨dZ,cP,dB,cr,dw,ch,rfl,_⟩:=Fp aH
    exact⟨dZ,cP,dB,cr,dw,ch,h1,h2,aH⟩
theorem xT {p:Frame} (ai:zV p) {w:World} {v:Value} (h:V2 (Env.at w) (.agg (b5 false p)) v):
    Calls Try.prog 42 #[v] w fun e w'=> ∃dZ cP dB cr dw ch,e= .returned (.agg #[.bool p.ok,.slice dZ p.aF.length cP,.slice dB p.aB.length cr,.slice dw p.M.length ch])∧Below w.heap.size w w'∧
      fD w' (iI w w') (.agg (b5 false p)) (.agg #[.bool p.ok,.slice dZ p.aF.length cP,.slice dB p.aB.length cr,.slice dw p.M.length ch]):=
  (a_.uw (e:= .frame) (x:=p) (vs:=[v]) (V5 p ai) (.cons h .nil)).mono fun e w' ⟨dv,h1,h2,aH⟩=>by
    obtain⟨dZ,cP,dB,cr,dw,ch,rfl,_⟩:=Fo aH
    exact⟨dZ,cP,dB,cr,dw,ch,h1,h2,aH⟩
theorem PQ {p:aN} {w:World} {v u:Value} (h:V2 (Env.at w) (.agg (bL false p)) v) (k:V2 (Env.at w) (.agg (bL false p)) u):
    Calls Try.prog 28 #[v,u] w fun e w'=>e= .returned (.bool true)∧Below w.heap.size w w':=by
  have:=a_.bool (vs:=[v,u]) (Vu p p) (.cons h (.cons k .nil))
  unfold eqv at this
  rw[decide_eq_true rfl] at this
  exact this
theorem PP {p:Frame} {w:World} {v u:Value} (h:V2 (Env.at w) (.agg (b5 false p)) v) (k:V2 (Env.at w) (.agg (b5 false p)) u):
    Calls Try.prog 34 #[v,u] w fun e w'=>e= .returned (.bool true)∧Below w.heap.size w w':=by
  have:=a_.bool (vs:=[v,u]) (Vf p p) (.cons h (.cons k .nil))
  unfold eqv at this
  rw[decide_eq_true rfl] at this
  exact this
theorem A6 {x:List Int} {w:World} {v u:Value} (h:V2 (Env.at w) (.aR (x.map bO) false false) v) (k:V2 (Env.at w) (.aR (x.map bO) false false) u):
    Calls Try.prog 55 #[v,u] w fun e w'=>e= .returned (.bool true)∧Below w.heap.size w w':=by
  have:=a_.bool (vs:=[v,u]) (JR x x) (.cons h (.cons k .nil))
  unfold eqv at this
  rw[decide_eq_true rfl] at this
  exact this
def qf (p:aN):Nat:=p.bu.length+(p.M.map rR).sum+(p.bz.map List.length).sum
def qe (f:Frame):Nat:=f.aF.length+f.aB.length*2+(f.M.map rQ).sum
theorem PT {p:aN} {w:World} {B:Nat→Prop} {v:Value} {k:Int} (h:fD w B (.agg (bL false p)) v) (cS: ∀c,B c→Plain w c) (aM:0≤k) (h1:k+qf p≤4611686018427387904):
    Calls Try.prog 35 #[v,.int .i64 k] w fun e w'=>e= .returned (.int .i64 (k+(qf p:Nat)))∧dC B w w':=by
  obtain⟨dZ,cP,dB,cr,dw,ch,rfl,e6,c9,dn⟩:=Fp h
  have hb: ∀c,B c→B c∧Plain w c:=fun c hc=>⟨hc,cS c hc⟩
  refine(Xa w B p.ag p.dq dZ dB dw _ _ _ _ _ _ _ _ _ k (y3 e6 hb (fun _ h=>h.elim)) (U3 c9 hb (fun _ h=>h.elim)) (U0 dn hb (fun _ h=>h.elim)) aM (by unfold qf at h1;omega)).mono ?_
  rintro e w' ⟨rfl,hk⟩
  exact⟨by congr 2;unfold qf;omega,hk⟩
theorem PR {p:Frame} {w:World} {B:Nat→Prop} {v:Value} {k:Int} (h:fD w B (.agg (b5 false p)) v) (cS: ∀c,B c→Plain w c) (aM:0≤k) (h1:k+qe p≤4611686018427387904):
    Calls Try.prog 36 #[v,.int .i64 k] w fun e w'=>e= .returned (.int .i64 (k+(qe p:Nat)))∧dC B w w':=by
  obtain⟨dZ,cP,dB,cr,dw,ch,rfl,e6,c9,dn⟩:=Fo h
  have hb: ∀c,B c→B c∧Plain w c:=fun c hc=>⟨hc,cS c hc⟩
  refine(W9 w B p.ok dZ dB dw _ _ _ _ _ _ _ _ _ k (Ds e6 hb (fun _ h=>h.elim)) (U2 c9 hb (fun _ h=>h.elim)) (U1 dn hb (fun _ h=>h.elim)) aM (by unfold qe at h1;omega)).mono ?_
  rintro e w' ⟨rfl,hk⟩
  exact⟨by congr 2;unfold qe;omega,hk⟩
theorem PS {x:List Int} {w:World} {B:Nat→Prop} {v:Value} {k:Int} (h:fD w B (.aR (x.map bO) false false) v) (cS: ∀c,B c→Plain w c) (aM:0≤k) (h1:k+x.length≤4611686018427387904):
    Calls Try.prog 56 #[v,.int .i64 k] w fun e w'=>e= .returned (.int .i64 (k+(x.length:Nat)))∧dC B w w'∧ ∀B':Nat→Prop,(∀c,B c→B' c)→fD w' B' (.aR ((jv k x.length).map bO) false false) v:=by
  have h:aQ w B (fun _=>False) (.aR (x.map bO) false false) v:=h
  cases h with
  | @aR _ _ PB _ _ _ A cap sz vs dY ec eN bU dd hrel=>
    rw[List.length_map] at ec dd ⊢
    by_cases ap:0<x.length
    · obtain⟨c,o,rfl,hc,dy⟩:=dd ap
      have B_:B c:=by simpa using dY c hc
      obtain⟨aw,ty,hx⟩:=cS c B_
      have aT:sz=1:=(bU 0 (bO x[0]) (by rw[List.getElem?_map,List.getElem?_eq_getElem ap];rfl)).symm
      subst aT
      have il: ∀i (hi:i<x.length),aw[o+i]?=some (.int .i64 x[i]):=fun i hi=>by
        have h2:=dy i 0 hi (by omega)
        have aH:=hrel i 0 (bO x[i]) (.int .i64 x[i]) (by rw[List.getElem?_map,List.getElem?_eq_getElem hi];rfl) rfl
        simp only[World.cell?,hx] at h2
        rw[Nat.mul_one,Nat.add_zero] at h2
        have h2:aw[o+i]?=some (vs i 0):=by simpa using h2
        rw[h2]
        generalize vs i 0=u at aH
        cases aH;rfl
      have aJ:o+x.length≤aw.size:=by
        have:=(Array.getElem?_eq_some_iff.1 (il (x.length - 1) (by omega))).1
        omega
      refine(y8 (some ⟨c,o,none⟩) c o x.length cap k w aw ty (fun _=>⟨rfl,hx,aJ⟩) aM h1).mono ?_
      rintro e w' ⟨rfl,hm⟩
      refine⟨rfl,hm.lR B_ fun bM gA i gU hi=> ?_,fun B' vj=> ?_⟩
      · rw[hx] at gU;cases gU
        rw[il i hi];exact .inr (.inl ⟨_,_,rfl,rfl⟩)
      · obtain⟨bM,q1,q2,q3⟩:=hm.blk aw ty hx
        have key:aQ w' B' (fun _=>False) (.aR ((jv k x.length).map bO) false false) (.slice (some ⟨c,o,none⟩) ((jv k x.length).map bO).length cap):=
          .aR (PB:=fun b=>b=c) (sz:=1) (vs:=fun i _=> .int .i64 (k+(i:Nat))) (fun b hb=>by subst hb;exact vj _ B_) (by rw[List.length_map,we];exact ec) (fun h=>by cases h)
            (fun i row aq=>by rw[List.getElem?_map] at aq;cases bw:(jv k x.length)[i]? with
              | none=>rw[bw] at aq;cases aq
              | some y=>rw[bw] at aq;cases aq;rfl)
            (fun _=>⟨c,o,rfl,rfl,fun i j hi ar=>by
              rw[List.length_map,we] at hi
              obtain rfl:j=0:=by omega
              simp only[World.cell?,q1]
              have:=q3 (o+i) (by omega)
              rw[if_pos ⟨by omega,by omega⟩,show o+i - o=i by omega] at this
              simpa[nn] using this⟩)
            (fun i j row a aq aC=>by
              rw[List.getElem?_map] at aq
              cases bw:(jv k x.length)[i]? with
              | none=>rw[bw] at aq;cases aq
              | some y=>
                rw[bw] at aq
                cases aq
                have hi:=(List.getElem?_eq_some_iff.1 bw).1
                rw[we] at hi
                rw[W1 k hi] at bw
                cases bw
                match j,aC with
                | 0,aC=>cases aC;exact .int _ _)
        rw[List.length_map,we] at key
        exact key
    · have dx:x=[]:=List.eq_nil_of_length_eq_zero (by omega)
      subst dx
      refine(y8 A w.heap.size 0 0 cap k w #[] 0 (fun h=>absurd h (by omega)) aM h1).mono ?_
      rintro e w' ⟨rfl,hm⟩
      exact⟨rfl,hm.vX,fun B' _=>aQ.aR (rows:=[]) (PB:=fun _=>False) (sz:=0) (vs:=fun _ _=>undef) (fun _ h=>h.elim) ⟨Nat.zero_le _,Nat.zero_le _⟩ (fun h=>by cases h) (fun i row h=>by simp at h) (fun h=>by simp at h) (fun i j row a h=>by simp at h)⟩
theorem NT {α:Type} {f g:α→Nat} (c:Nat) (h: ∀x,f x≤c*g x): ∀xs:List α,(xs.map f).sum≤c*(xs.map g).sum
  | []=>by simp
  | x::r=>by
    rw[List.map_cons,List.map_cons,List.sum_cons,List.sum_cons,Nat.mul_add]
    have:=h x
    have:=NT c h r
    omega
theorem Xh (p:aN):qf p≤2*iy p:=by
  unfold qf iy ss qX
  have:=NT (f:=rR) (g:=px) 2 (fun x=>by unfold rR px;omega) p.M
  omega
theorem Xg (f:Frame):qe f≤4*m0 f:=by
  unfold qe m0 rr
  have h1:(f.M.map rQ).sum≤4*f.M.length+(f.M.map fun h=>h.U.length).sum:=by
    generalize f.M=l
    induction l with
    | nil=>simp
    | cons x r bx=>rw[List.map_cons,List.map_cons,List.sum_cons,List.sum_cons,List.length_cons];unfold rQ at bx ⊢;omega
  omega
theorem qZ {w:World} {b:Nat} {cP cr ch gT:Value} {ty:TypeId} (h:w.heap[b]?=some (.cells #[cP,cr,ch,gT] ty (0,0))):w.cell? ⟨b,0,none⟩=some cP∧w.cell? ⟨b,1,none⟩=some cr∧w.cell? ⟨b,2,none⟩=some ch∧w.cell? ⟨b,3,none⟩=some gT:=by
  refine⟨?_,?_,?_,?_⟩<;>simp[World.cell?,h]
theorem sQ {w:World} {b:Nat} {cP cr ch gT jp:Value} {ty:TypeId} (h:w.heap[b]?=some (.cells #[cP,cr,ch,gT,jp] ty (0,0))):w.cell? ⟨b,0,none⟩=some cP∧w.cell? ⟨b,1,none⟩=some cr∧w.cell? ⟨b,2,none⟩=some ch∧w.cell? ⟨b,3,none⟩=some gT∧w.cell? ⟨b,4,none⟩=some jp:=by
  refine⟨?_,?_,?_,?_,?_⟩<;>simp[World.cell?,h]
theorem zj {aV w:World} {a:AV} {v:Value} (h:fD w (iI aV w) a v):V2 (Env.at w) a v:=h.at fun c hc=>hc.2.1
theorem Lk {aV w w':World} {a:AV} {v:Value} (h:fD w (iI aV w) a v) (hb:Below w.heap.size w w'):V2 (Env.at w') a v:=
  (h.dj (B':=iI aV w) (fun c hc=>hb.block c hc.2.1) (fun _ h=>h)).at fun c hc=>Nat.lt_of_lt_of_le hc.2.1 hb.size
theorem Mt {W w:World} {l:List fw} (h:c_ W w l) (i j:Nat) {b bI:Nat} {cP cr ch gT jp f0 f1 f2 f3 f4:Value} {t gz:TypeId} (e:l[i]?=some (gE b #[cP,cr,ch,gT,jp] t):=by rfl) (b1:l[j]?=some (gE bI #[f0,f1,f2,f3,f4] gz):=by rfl):
    c_ W w l∧w.cell? ⟨b,0,none⟩=some cP∧w.cell? ⟨b,1,none⟩=some cr∧w.cell? ⟨b,2,none⟩=some ch∧w.cell? ⟨b,3,none⟩=some gT∧w.cell? ⟨b,4,none⟩=some jp∧w.cell? ⟨bI,0,none⟩=some f0∧w.cell? ⟨bI,1,none⟩=some f1∧w.cell? ⟨bI,2,none⟩=some f2∧w.cell? ⟨bI,3,none⟩=some f3∧w.cell? ⟨bI,4,none⟩=some f4:=by
  obtain⟨a0,J,a2,a3,a4⟩:=sQ (h.get i e)
  obtain⟨ey,dV,bV,oO,AN⟩:=sQ (h.get j b1)
  exact⟨h,a0,J,a2,a3,a4,ey,dV,bV,oO,AN⟩
theorem Ms {W w:World} {l:List fw} (h:c_ W w l) (i j:Nat) {b bI:Nat} {cP cr ch gT f0 f1 f2 f3:Value} {t gz:TypeId} (e:l[i]?=some (gE b #[cP,cr,ch,gT] t):=by rfl) (b1:l[j]?=some (gE bI #[f0,f1,f2,f3] gz):=by rfl):
    c_ W w l∧w.cell? ⟨b,0,none⟩=some cP∧w.cell? ⟨b,1,none⟩=some cr∧w.cell? ⟨b,2,none⟩=some ch∧w.cell? ⟨b,3,none⟩=some gT∧w.cell? ⟨bI,0,none⟩=some f0∧w.cell? ⟨bI,1,none⟩=some f1∧w.cell? ⟨bI,2,none⟩=some f2∧w.cell? ⟨bI,3,none⟩=some f3:=by
  obtain⟨a0,J,a2,a3⟩:=qZ (h.get i e)
  obtain⟨ey,dV,bV,oO⟩:=qZ (h.get j b1)
  exact⟨h,a0,J,a2,a3,ey,dV,bV,oO⟩
theorem zN {W w:World} {l:List fw} (h:c_ W w l) (i j:Nat) {b bI:Nat} {cP cr ch gT jp f0 f1 f2 f3:Value} {t gz:TypeId} (e:l[i]?=some (gE b #[cP,cr,ch,gT,jp] t):=by rfl) (b1:l[j]?=some (gE bI #[f0,f1,f2,f3] gz):=by rfl):
    c_ W w l∧w.cell? ⟨b,0,none⟩=some cP∧w.cell? ⟨b,1,none⟩=some cr∧w.cell? ⟨b,2,none⟩=some ch∧w.cell? ⟨b,3,none⟩=some gT∧w.cell? ⟨b,4,none⟩=some jp∧w.cell? ⟨bI,0,none⟩=some f0∧w.cell? ⟨bI,1,none⟩=some f1∧w.cell? ⟨bI,2,none⟩=some f2∧w.cell? ⟨bI,3,none⟩=some f3:=by
  obtain⟨a0,J,a2,a3,a4⟩:=sQ (h.get i e)
  obtain⟨ey,dV,bV,oO⟩:=qZ (h.get j b1)
  exact⟨h,a0,J,a2,a3,a4,ey,dV,bV,oO⟩
theorem jC.uk {p:aN} {f:Frame} (h:jC p f) {i:Nat} {x:ab} (hx:i<f.M.length→x.U.length=(nth p.M i).ag.length∧0≤x.aa∧x.aa≤x.U.length):jC p {f with M:=f.M.set i x}:=by
 refine⟨h.aF,h.aB,by rw[List.length_set];exact h.M,fun j y w h1 h2=> ?_,fun y bd=> ?_⟩
 ·replace h1:(f.M.set i x)[j]?=some y:=h1
  rw[List.getElem?_set] at h1
  split at h1
  ·rename_i e;subst e
   split at h1
   ·rename_i ap
    cases h1
    rw[(hx ap).1,h7 (by have:=h.M;omega)]
    rw[List.getElem?_eq_getElem (by have:=h.M;omega)] at h2
    cases h2;rfl
   ·cases h1
  ·exact h.U j y w h1 h2
 ·rcases List.mem_or_eq_of_mem_set bd with bd | rfl
  ·exact h.aa y bd
  ·by_cases ap:i<f.M.length
   ·exact(hx ap).2
   ·rw[List.set_eq_of_length_le (by omega)] at bd
    exact h.aa _ bd
theorem jC.at {p:aN} {f:Frame} (h:jC p f) {i:Nat} (hi:i<f.M.length):(nth f.M i).U.length=(nth p.M i).ag.length∧0≤(nth f.M i).aa∧(nth f.M i).aa≤(nth f.M i).U.length:=by
 have ar:i<p.M.length:=by have:=h.M;omega
 refine⟨h.U i _ _ ?_ ?_,h.aa _ (eC (by simpa using hi))⟩
 ·rw[h7 hi];exact List.getElem?_eq_getElem hi
 ·rw[h7 ar];exact List.getElem?_eq_getElem ar
theorem jC.ou {p:aN} {f:Frame} (h:jC p f) {o:List Bool} {q:List ck} (aD:o.length=f.aF.length) (af:q.length=f.aB.length):jC p {f with aF:=o,aB:=q}:=
 ⟨by show(o.length:Int)=_;rw[aD];exact h.aF,by show q.length=_;rw[af];exact h.aB,h.M,h.U,h.aa⟩
section
variable {P:Program} {esc:List Nat} {ops:Array Oper} {n:Nat} {X:List Item} {i0:Nat} {A:List (Nat×AV)} {L:List (Nat×List AV)} {H:List Blk} {K:List (Nat×AV)→List (Nat×List AV)→List Blk→Prop}
end
section
variable {p:aN} {f:Frame} {i:Nat} {h:ab}
end
theorem Li {α:Type} [Inhabited α] {l:List α} {t i:Int} {x:α} (t0:0≤t) (i0:0≤i) (i1:i<l.length):nth (l.set t.toNat x) i=if i=t then x else nth l i:=by
 rw[hT (by rw[List.length_set];omega),hT (show i.toNat<l.length by omega),List.getElem_set]
 by_cases e:i=t
 ·rw[if_pos (by omega),if_pos e]
 ·rw[if_neg (by omega),if_neg e]
def NO (h i v:Nat):Int:=if v=0 then 0 else if v=1 then 2 else if v<3+i∧ ¬(i=h∧v=2+h) then 3 else if i<h then 4 else 0
def An (h i:Nat) (D:List qI):Prop:= ∀(v:Nat) (d:qI),D[v]?=some d→ ∃w,d.frame.M=[w]∧w.az=NO h i v
theorem An.more {h i:Nat} {D:List qI} (k:An h i D) {w:ab} {c:Int} {o:Bool} {a:List Bool} {b:List ck} {n:Nat} (ap:D.length=n) (hw:w.az=NO h i n):An h i (D++[⟨c,o,a,b,[w]⟩]):=fun v d aY=>by
 rcases Nat.lt_or_ge v D.length with aE | aE
 ·rw[List.getElem?_append_left aE] at aY;exact k v d aY
 ·rw[List.getElem?_append_right aE] at aY
  cases hv:v - D.length with
  | zero=>rw[hv] at aY;cases aY;exact⟨w,rfl,by rw[hw,show v=n by omega]⟩
  | succ m=>rw[hv] at aY;simp at aY
def kE (k:Int) (c:ie):Prop:=0≤c.pos∧c.pos+k≤4611686018427387904
def qh (c:ie):ie:=bif decide (c.pos<(c.code.length:Int)) then ie.mk c.code (IntKind.i64.wrap (c.pos+1)) (IntKind.u64.wrap ((IntKind.u64.wrap ((IntKind.u64.wrap (c.wP*6364136223846793005))+(IntKind.u64.wrap (((nth c.code c.pos).toNat:Int)))))+1442695040888963407))
 else ie.mk c.code (IntKind.i64.wrap (c.pos+1)) (IntKind.u64.wrap ((IntKind.u64.wrap (c.wP*6364136223846793005))+1442695040888963407))
def rT (c:ie):Int:=bif decide (c.pos<(c.code.length:Int)) then IntKind.i64.wrap (((nth c.code c.pos).toNat:Int))
 else IntKind.i64.wrap (IntKind.u64.wrap (((BitVec.ofInt IntKind.u64.bits ((IntKind.u64.wrap ((IntKind.u64.wrap (c.wP*6364136223846793005))+1442695040888963407)).fdiv (2 ^ (min (40:Int).toNat IntKind.u64.bits)))&&&BitVec.ofInt IntKind.u64.bits 255).toNat:Int)))
theorem aaT {n:Int} (h1:0≤n) (h2:n≤9223372036854775807):IntKind.u64.wrap n=n:=by
 have e:IntKind.u64.wrap n=n%2 ^ 64:=by
  unfold IntKind.wrap
  exact if_neg (fun h=>by simp[IntKind.signed] at h)
 rw[e];omega
theorem Lb (c:ie):0≤rT c∧rT c≤255:=by
 have key: ∀n:Nat,n≤255→(0≤IntKind.i64.wrap (n:Int)∧IntKind.i64.wrap (n:Int)≤255)∧IntKind.u64.wrap (n:Int)=n:=fun n h=>by
  rw[hn (by omega) (by omega),aaT (by omega) (by omega)];omega
 unfold rT
 cases decide (c.pos<(c.code.length:Int)) with
 | true=>
  have:=(nth c.code c.pos).toNat_lt
  exact(key _ (by omega)).1
 | false=>
  have hb: ∀x:BitVec IntKind.u64.bits,(x&&&BitVec.ofInt IntKind.u64.bits 255).toNat≤255:=fun x=>by
   rw[BitVec.toNat_and];exact Nat.and_le_right
  simp only[cond_false]
  rw[(key _ (hb _)).2]
  exact(key _ (hb _)).1
theorem Xi {c:ie} (h:kE 1 c):(qh c).pos=c.pos+1:=by
 have:IntKind.i64.wrap (c.pos+1)=c.pos+1:=hn (by have:=h.1;omega) (by have:=h.2;omega)
 unfold qh
 cases decide (c.pos<(c.code.length:Int))<;>exact this
theorem kE.mono {k l:Int} {c:ie} (h:kE k c) (aE:l≤k):kE l c:=⟨h.1,by have:=h.2;omega⟩
theorem kE.next {k:Int} {c:ie} (h:kE (k+1) c) (hk:0≤k):kE k (qh c):=by
 have:=Xi (h.mono (by omega))
 exact⟨by have:=h.1;omega,by have:=h.2;omega⟩
def DZ (n:Int) (c:ie):ie:=if n≤1 then c else bif decide (n>200) then qh (qh c) else qh c
def qm (n:Int) (c:ie):Int:=if n≤1 then 0 else(bif decide (n>200) then IntKind.i64.wrap (IntKind.i64.wrap (rT c*256)+rT (qh c)) else rT c).tmod n
theorem XQ (n:Int) (c:ie):0≤qm n c∧(1≤n→qm n c<n):=by
 unfold qm
 split
 ·omega
 ·rename_i ap
  have h1:=Lb c
  have h2:=Lb (qh c)
  have h: ∀x:Int,0≤x→0≤x.tmod n∧(1≤n→x.tmod n<n):=fun x hx=>by
   rw[Int.tmod_eq_emod_of_nonneg hx]
   exact⟨Int.emod_nonneg _ (by omega),fun _=>Int.emod_lt_of_pos _ (by omega)⟩
  cases decide (n>200) with
  | true=>
   simp only[cond_true]
   refine h _ ?_
   rw[hn (n:=rT c*256) (by omega) (by omega),hn (by omega) (by omega)];omega
  | false=>exact h _ h1.1
theorem kE.pick {k:Int} {c:ie} {n:Int} (h:kE (k+2) c) (hk:0≤k):kE k (DZ n c):=by
 unfold DZ
 split
 ·exact h.mono (by omega)
 ·cases decide (n>200) with
  | true=>exact(kE.next (k:=k+1) (h.mono (by omega)) (by omega)).next hk
  | false=>exact(kE.next (k:=k+1) (h.mono (by omega)) (by omega)).mono (by omega)
structure AF (n:Int) (no:List Int) (x:List Int):Prop where
 YA: ∀y∈x,0≤y∧y<n
 Xl:x.Nodup
 out: ∀y∈x,y ∉ no
theorem AF.push {n:Int} {no x:List Int} {c:ie} (ap:1≤n) (h:AF n no x):AF n no (if((!(meets [qm n c] x))&&(!(meets [qm n c] no)))=true then x++[qm n c] else x):=by
 split
 ·rename_i e
  rw[Bool.and_eq_true,Bool.not_eq_true',Bool.not_eq_true',y9,y9] at e
  have aT:qm n c ∉ x:=by simpa using e.1
  have e2:qm n c ∉ no:=by simpa using e.2
  have aq:=XQ n c
  refine⟨fun y bd=> ?_,?_,fun y bd=> ?_⟩
  ·rcases List.mem_append.1 bd with bd | bd
   ·exact h.YA y bd
   ·obtain rfl:=List.mem_singleton.1 bd;exact⟨aq.1,aq.2 ap⟩
  ·rw[List.nodup_append]
   exact⟨h.Xl,by simp,fun a aC b hb e=>by obtain rfl:=List.mem_singleton.1 hb;subst e;exact aT aC⟩
  ·rcases List.mem_append.1 bd with bd | bd
   ·exact h.out y bd
   ·obtain rfl:=List.mem_singleton.1 bd;exact e2
 ·exact h
theorem kE.abS {k:Int} {c:ie} {n:Int} {b:Bool} (h:kE (k+2) c) (hk:0≤k):kE k (bif b then DZ n c else c):=by
 cases b with
 | true=>exact h.pick hk
 | false=>exact h.mono (by omega)
structure AC (bo z1:List Int) (v:Int) (x y:List b9):Prop where
 rx: ∀l∈x,(0≤l.bo∧l.bo<v)∧(1≤l.bG∧l.bG≤2)∧z1.contains (nth bo l.bo)=true
 Es: ∀l∈y,(0≤l.bo∧l.bo<v)∧(1≤l.bG∧l.bG≤2)
 Xo:(x.map (·.bo)).Nodup
 Xq:(y.map (·.bo)).Nodup
 Xp: ∀a∈x,∀b∈y,a.bo≠b.bo
 WR:(x.length:Int)+y.length≤v
theorem AC.up {bo z1:List Int} {v:Int} {x y:List b9} (h:AC bo z1 v x y):AC bo z1 (v+1) x y:=
 ⟨fun l aE=>⟨⟨(h.rx l aE).1.1,by have:=(h.rx l aE).1.2;omega⟩,(h.rx l aE).2⟩,fun l aE=>⟨⟨(h.Es l aE).1.1,by have:=(h.Es l aE).1.2;omega⟩,(h.Es l aE).2⟩,h.Xo,h.Xq,h.Xp,by have:=h.WR;omega⟩
structure xv (ws:List Way) (bs:List (List Bool)) (i k:Int) (r:List Bool):Prop where
 len:r.length=ws.length
 lt: ∀j:Int,0≤j→j<k→j<i→nth r j=nth (nth bs j) i
 gt: ∀j:Int,0≤j→j<k→i<j→meets (nth ws i).ag (nth ws j).ag=true→nth r j=true
theorem xv.set {ws:List Way} {bs:List (List Bool)} {i k:Int} {r:List Bool} (h:xv ws bs i k r) (aM:0≤k) (h1:k<ws.length) {b:Bool} (hb:(k<i→b=nth (nth bs k) i)∧(i<k→meets (nth ws i).ag (nth ws k).ag=true→b=true)):xv ws bs i (k+1) (r.set k.toNat b):=by
 have aE:=h.len
 refine⟨by rw[List.length_set];exact h.len,fun j b2 ep aO=> ?_,fun j b2 ep aO hm=> ?_⟩
 ·rw[Li aM b2 (by omega)]
  split
  ·rename_i e;subst e;exact hb.1 aO
  ·exact h.lt j b2 (by omega) aO
 ·rw[Li aM b2 (by omega)]
  split
  ·rename_i e;subst e;exact hb.2 aO hm
  ·exact h.gt j b2 (by omega) aO hm
structure Ao (ws:List Way) (i:Int) (bs:List (List Bool)):Prop where
 len:(bs.length:Int)=i
 row: ∀j:Int,0≤j→j<i→(nth bs j).length=ws.length
 sym: ∀a b:Int,0≤b→b<a→a<i→nth (nth bs a) b=nth (nth bs b) a
 mt: ∀a b:Int,0≤a→a<b→a<i→b<ws.length→meets (nth ws a).ag (nth ws b).ag=true→nth (nth bs a) b=true
theorem Lh {α:Type} [Inhabited α] {xs:List α} {x:α} {j:Int} (aM:0≤j):nth (xs++[x]) j=if j<xs.length then nth xs j else if j=xs.length then x else default:=by
 unfold nth
 rw[List.getD_eq_getElem?_getD,List.getD_eq_getElem?_getD]
 split
 ·rw[List.getElem?_append_left (by omega)]
 ·split
  ·rw[List.getElem?_append_right (by omega),show j.toNat - xs.length=0 by omega];rfl
  ·rw[List.getElem?_eq_none (by simp;omega)];rfl
theorem Ao.push {ws:List Way} {i:Int} {bs:List (List Bool)} {r:List Bool} (h:Ao ws i bs) (aM:0≤i) (aq:xv ws bs i ws.length r) (hi:i<ws.length):Ao ws (i+1) (bs++[r]):=by
 have aE:=h.len
 have h9: ∀j:Int,0≤j→j<i→nth (bs++[r]) j=nth bs j:=fun j b2 ep=>by rw[Lh b2,if_pos (by omega)]
 have new:nth (bs++[r]) i=r:=by rw[Lh aM,if_neg (by omega),if_pos (by omega)]
 refine⟨by simp;omega,fun j b2 ep=> ?_,fun a b ey F_ au=> ?_,fun a b a0 ay au Gj hm=> ?_⟩
 ·by_cases e:j=i
  ·subst e;rw[new];exact aq.len
  ·rw[h9 j b2 (by omega)];exact h.row j b2 (by omega)
 ·rw[h9 b ey (by omega)]
  by_cases e:a=i
  ·subst e;rw[new];exact aq.lt b ey (by omega) F_
  ·rw[h9 a (by omega) (by omega)];exact h.sym a b ey F_ (by omega)
 ·by_cases e:a=i
  ·subst e;rw[new];exact aq.gt b (by omega) Gj ay hm
  ·rw[h9 a (by omega) (by omega)];exact h.mt a b a0 ay (by omega) Gj hm
section
variable (code:List UInt8)
end
section
variable {code:List UInt8} {v:Int}
end
section
variable {p:aN} {f:Frame} {e:Event} {k:Int}
end
def fa (p:aN) (f:Frame) (k:Int):List Int:=if gJ p f&&jU k p.bu.length then mA p f k else[]
section
variable {p:aN} {f:Frame} {i:Int}
end
end Go.Proofs.Ytglpfccgmfhkdaa.Fw
