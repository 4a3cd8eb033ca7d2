/- The framework, part OP: a call that is handed one struct in the memory (or a variable of the caller's) to write into, beside values that stay. -/
import Derived.Test.YtglpfccgmfhkdaaM1
set_option linter.unusedVariables false
namespace Go.Proofs.Ytglpfccgmfhkdaa.Fw
open Go
def ov:AV→Bool
 | .av _ full fr=> !full&& !fr
 | a=>gb a
theorem N3 {a:AV} (h:ov a=true):gb a=true∧fO a=a:=by
 cases a with
 | av rows full fr=>
  refine⟨rfl,?_⟩
  cases full<;>cases fr<;>first | rfl | cases h
 | _=>first | exact⟨h,rfl⟩
def nL (P:Program) (f:FuncId) (g:Nat) (args:List AV) (ad ba:List AV) (t:AV):Prop:=
 ej P f args [⟨g,ad.length,[ad]⟩] fun r da=> ∃B,da=⟨g,ad.length,[ba]⟩::B∧iy (⟨g+1,ad.length,[ba]⟩::B) r t
def nJ (p q a a0:AV):Prop:=(a=p∧a0=q)∨fB [] [] a a0
theorem G8 {E:Env} (ab: ∀c,E.PF c→E.PA c) {a b:AV} (h:dQ [] [] a b): ∀{v:Value},be E a v→ar E.w E.PA (fun _=>False) b v:=by
 induction h with
 | undef a=>intro v _;exact .undef v
 | int k n=>intro v hv;have hv:ar E.w E.PA E.PF (.int k n) v:=hv;cases hv;exact .int _ _
 | bool k=>intro v hv;have hv:ar E.w E.PA E.PF (.bool k) v:=hv;cases hv;exact .bool _
 | str k=>intro v hv;have hv:ar E.w E.PA E.PF (.str k) v:=hv;cases hv;exact .str _
 | dU=>intro v hv;have hv:ar E.w E.PA E.PF .dU v:=hv;cases hv;exact .dU
 | eh=>intro v hv;have hv:ar E.w E.PA E.PF .eh v:=hv;cases hv;exact .eh
 | av rows full fr cn hw=>
  intro v hv
  have hv:ar E.w E.PA E.PF (.av rows full fr) v:=hv
  cases hv with
  | av dc c2 dS bz cA hrel=>
   exact .av (fun c hc=>by
    have:=dc c hc
    simp only[Bool.false_eq_true,if_false]
    split at this
    ·exact ab c this
    ·exact this) c2 (fun h=>dS (hw h)) bz cA hrel
 | cv cells c=>
  intro v hv
  have hv:ar E.w E.PA E.PF (.cv cells c) v:=hv
  cases hv with
  | cv hc cA hrel=>exact .cv hc cA hrel
 | dn aJ=>cases aJ
 | ptr hb=>cases hb
 | ref _ hb=>cases hb
 | @fn f caps q9 ak aa aT=>
  intro v hv
  obtain⟨vs,rfl,al⟩:=(show ∃vs:List Value,v= .func (.func f) #[] vs.toArray∧aw (cY E) caps vs from hv)
  exact .fn (ak▸al.1) fun i b u hb hu=>by
   have ay:i<caps.length:=by have:=(List.getElem?_eq_some_iff.1 hb).1;omega
   exact aT i _ b (List.getElem?_eq_getElem ay) hb (wm (al.2 i _ u (List.getElem?_eq_getElem ay) hu))
theorem Rq {E E1:Env} (ab: ∀c,E.PF c→E.PA c) (hw:E1.w=E.w) (pJ:E1.PA=E.PA) {a b:AV} (h:fB [] [] a b) {v:Value} (hv:V2 E a v):V2 E1 b v:=by
 have up: ∀{b:AV} {v:Value},ar E.w E.PA (fun _=>False) b v→be E1 b v:=fun h=>ar.v1 (E:=E1) (h.mono (fun _ _=>by rw[hw]) (fun _ h=>h.elim) (fun c hc=>by rw[pJ];exact hc) (fun _ h=>h.elim))
 rcases h with⟨l,dy,rfl,rfl,al⟩ | h
 ·obtain⟨vs,rfl,aa⟩:=hv
  refine⟨vs,rfl,al.1▸aa.1,fun i x u hx hu=> ?_⟩
  have ay:i<l.length:=by have:=(List.getElem?_eq_some_iff.1 hx).1;have:=al.1;omega
  have ak:=List.getElem?_eq_getElem ay
  exact up (G8 ab (al.2 i _ x ak hx) (aa.2 i _ u ak hu))
 ·by_cases hf: ∃l,a= .agg l
  ·obtain⟨l,rfl⟩:=hf
   cases h with
   | undef=>exact ar.undef v
  ·rw[ka fun l e=>hf ⟨l,e⟩] at hv
   exact h_ (up (G8 ab h hv))
def Env.one (E:Env) (bl g sz cp:Nat):Env:=
 {w:=E.w,PA:=E.PA,PF:=fun _=>False,m:=fun j=>if j=0 then some (some bl) else none,aE:=fun j=>if j=0 then g else 0
  sz:=fun j=>if j=0 then sz else 0,cp:=fun j=>if j=0 then cp else 0,mL:=fun _=>none}
theorem oE {E:Env} {bl g sz cp j c:Nat} (h:(E.one bl g sz cp).m j=some (some c)):j=0∧c=bl:=by
 have h:(if j=0 then some (some bl) else none)=some (some c):=h
 split at h
 ·rename_i e;cases h;exact⟨e,rfl⟩
 ·cases h
theorem Qc {E:Env} {H:List Blk} (ag:SimH E H) {bl g cp:Nat} {ad:List AV} {cells:Array Value} {ty:TypeId} (iV:bl<E.w.heap.size) (pJ: ¬E.PA bl) (hw:E.w.heap[bl]?=some (.cells cells ty (0,0))) (bz:cells.size=cp*ad.length) (h1:1≤cp)
  (hk:ad.all ov=true) (aa: ∀(j:Nat) (a:AV),ad[j]?=some a→ ∃u,cells[j]?=some u∧be E a u):SimH (E.one bl g ad.length cp) [⟨g,ad.length,[ad]⟩] where
 heap:=fun b c hb=>by
  obtain⟨rfl,rfl⟩:=oE hb
  have di: ∀{i:Nat} {row:List AV},([ad]:List (List AV))[i]?=some row→i=0∧row=ad:=fun{i row} h=>by
   cases i with
   | zero=>cases h;exact⟨rfl,rfl⟩
   | succ i=>cases h
  refine⟨⟨g,ad.length,[ad]⟩,cells,ty,rfl,rfl,hw,bz,h1,fun i row h=> ?_,fun i j row a h O=> ?_⟩
  ·rw[(di h).2];rfl
  ·obtain⟨rfl,rfl⟩:=di h
   obtain⟨u,hu,hv⟩:=aa j a O
   refine⟨u,by rw[Nat.zero_mul,Nat.zero_add];exact hu,?_⟩
   have yb:=N3 (List.all_eq_true.1 hk a (List.mem_of_getElem? O))
   have:=AG yb.1 (te yb.1 hv) (fun c hc=>hc) ag.ck
   rw[yb.2] at this
   exact ar.v1 (E:=(E.one c g row.length cp).aW) this
 cS:=fun b blk hb=>by
  cases b with
  | zero=>cases hb;rfl
  | succ b=>cases hb
 e0:=fun b hb=>by
  have hb:(if b=0 then some (some bl) else none)=some none:=hb
  split at hb<;>cases hb
 fresh:=fun b hb=>by
  have hb:1≤b:=hb
  exact⟨if_neg (by omega),if_neg (by omega)⟩
 ee:=fun b bC c h1 h2=>by rw[(oE h1).1,(oE h2).1]
 gk:=fun t fZ c h=>by cases h
 ey:=fun b t c _ h=>by cases h
 fm:=fun c hc ⟨b,hb⟩=>by rw[(oE hb).2] at hc;exact pJ hc
 fx:=fun c _ ⟨t,aC⟩=>by cases aC
 ck:=fun c hc=>hc.elim
 dz:=fun c hc=>hc.elim
 cu:=ag.cu
 dB:=fun c ⟨b,hb⟩=>by rw[(oE hb).2];exact iV
 et:=fun c ⟨t,aC⟩=>by cases aC
structure nI (E:Env) (bl k n:Nat) (ba:List AV) (t:AV) (v:Value) (E':Env):Prop where
 m:E'.m=E.m
 mL:E'.mL=E.mL
 aE:E'.aE=E.aE
 sz:E'.sz=E.sz
 cp:E'.cp=E.cp
 dC: ∀c,E.PA c→E'.PA c
 dr: ∀c,E.PF c→E'.PF c
 ck: ∀c,E'.PF c→E'.PA c
 dz: ∀c,E'.PF c→Plain E'.w c
 u3: ∀c,E'.PA c→E.PA c∨(E.w.heap.size≤c∧c<E'.w.heap.size)
 Qs: ∀c,E'.PF c→E.PF c∨E.w.heap.size≤c
 os:E'.w.os=E.w.os
 tape:E'.w.tape=E.w.tape
 output:E'.w.output=E.w.output
 size:E.w.heap.size≤E'.w.heap.size
 b3: ∀c,c<E.w.heap.size→c≠bl→E'.w.heap[c]?=E.w.heap[c]?
 new: ∃cells ty,E'.w.heap[bl]?=some (.cells cells ty (0,0))∧cells.size=k∧ba.length=n∧ ∀(j:Nat) (a:AV),ba[j]?=some a→ ∃u,cells[j]?=some u∧ar E'.w E'.PA E'.PF a u
 v3:V3 E' t v
theorem Ag {E1 E':Env} {H:List Blk} (hs:SimH E1 H) (hw:E'.w=E1.w) (hu: ∀c,E1.PF c∨E1.dx c→E'.PA c∧E'.PF c) {a b:AV} {u:Value} (h:iy H a b) (hv:V3 E1 a u):V3 E' b u:=by
 have cL: ∀{a b:AV} {u:Value},en H a b→be E1 a u→be E' b u:=fun ai jt=>ar.v1 (E:=E') ((G9 hs ai jt).mono (fun _ _=>by rw[hw]) (fun _ _=>by rw[hw]) (fun c hc=>(hu c hc).1) (fun c hc=>(hu c hc).2))
 have dd: ∀{a b:AV} {u:Value},nP H a b→V2 E1 a u→V2 E' b u:=by
  rintro a b u (⟨l,dy,rfl,rfl,ab⟩ | h) hu
  ·obtain⟨dh,rfl,al⟩:=hu
   refine⟨dh,rfl,ab.1▸al.1,fun i x y hx ax=> ?_⟩
   have ay:i<l.length:=by have:=(List.getElem?_eq_some_iff.1 hx).1;have:=ab.1;omega
   have ak:=List.getElem?_eq_getElem ay
   exact cL (ab.2 i _ x ak hx) (al.2 i _ y ak ax)
  ·have:be E1 a u:=by cases h<;>exact hu
   exact h_ (cL h this)
 rcases h with⟨l,dy,rfl,rfl,ab⟩ | h
 ·obtain⟨dh,rfl,al⟩:=hv
  refine⟨dh,rfl,ab.1▸al.1,fun i x y hx ax=> ?_⟩
  have ay:i<l.length:=by have:=(List.getElem?_eq_some_iff.1 hx).1;have:=ab.1;omega
  have ak:=List.getElem?_eq_getElem ay
  exact dd (ab.2 i _ x ak hx) (al.2 i _ y ak ax)
 ·have:V2 E1 a u:=by
   rcases h with⟨l,dy,rfl,rfl,ab⟩ | h
   ·exact hv
   ·cases h<;>exact hv
  exact lq (dd h this)
theorem BI {P:Program} {f:FuncId} {vs:List Value} {E:Env} {H:List Blk} {args cR ad ba:List AV} {p t:AV} {bl g cp:Nat} {cells:Array Value} {ty:TypeId} (ag:SimH E H) (iV:bl<E.w.heap.size) (pJ: ¬E.PA bl)
  (hw:E.w.heap[bl]?=some (.cells cells ty (0,0))) (bz:cells.size=cp*ad.length) (h1:1≤cp) (hk:ad.all ov=true) (aa: ∀(j:Nat) (a:AV),ad[j]?=some a→ ∃u,cells[j]?=some u∧be E a u)
  (ai:aw (V2 E) args vs) (ab: ∀v,V2 E p v→v= .pointer (some ⟨bl,0,none⟩)) (hs:aw (nJ p (.ptr 0 g 0 0)) args cR) (iF:ba.all gb=true) (h:nL P f g cR ad ba t):
  Calls P f vs.toArray E.w fun e w'=> ∃v E',e= .returned v∧E'.w=w'∧nI E bl (cp*ad.length) ad.length ba t v E':=by
 have n9:aw (V2 (E.one bl g ad.length cp)) cR vs:=⟨hs.1▸ai.1,fun i x u hx hu=>by
  have ay:i<args.length:=by have:=(List.getElem?_eq_some_iff.1 hx).1;have:=hs.1;omega
  have ak:=List.getElem?_eq_getElem ay
  rcases hs.2 i _ x ak hx with⟨aO,rfl⟩ | h
  ·have hv:=ai.2 i _ u ak hu
   rw[aO] at hv
   rw[ab u hv]
   exact .inr ⟨rfl,bl,rfl,by rw[Nat.zero_mul]⟩
  ·exact Rq (E1:=E.one bl g ad.length cp) ag.ck rfl rfl h (ai.2 i _ u ak hu)⟩
 refine(h.2 (E.one bl g ad.length cp) vs (fun _=>rfl) (Qc ag iV pJ hw bz h1 hk aa) n9).mono ?_
 rintro e w' ⟨r,v,da,E1,rfl,⟨B,rfl,ym⟩,rfl,af,cU,hv,aM⟩
 have aJ:E1.aE 0=g:=cU.cS 0 _ rfl
 obtain⟨hm,an,hc⟩:=aM.le.m 0 (some bl) rfl aJ
 have an:E1.sz 0=ad.length:=an
 have hc:E1.cp 0=cp:=hc
 obtain⟨blk,pw,ty2,q1,bJ,q2,q3,q4,cI,c4⟩:=cU.heap 0 bl hm
 cases q1
 have pP: ∀c,E1.PF c∨(∃j,j≠0∧E1.m j=some (some c))→E.w.heap.size≤c∧c<E1.w.heap.size:=by
  rintro c (hc | ⟨j,O,t_⟩)
  ·exact⟨(aM.dr c hc).elim (fun h=>h.elim) id,cU.cu c (cU.ck c hc)⟩
  ·refine⟨(aM.ko c ⟨j,t_⟩).elim (fun⟨b,hb⟩=> ?_) id,cU.dB c ⟨j,t_⟩⟩
   rw[(oE hb).2] at t_
   exact absurd (cU.ee j 0 bl t_ hm) O
 have iW: ∀c,c<E.w.heap.size→c≠bl→E1.w.heap[c]?=E.w.heap[c]?:=fun c hc bV=>aM.b3 c hc (fun⟨b,hb⟩=>bV (oE hb).2) (fun⟨t,aC⟩=>by cases aC)
 have MP: ∀c,E1.PA c→E.PA c∨(E.w.heap.size≤c∧c<E1.w.heap.size):=fun c hc=>(aM.dC c hc).elim .inl fun h=> .inr ⟨h,cU.cu c hc⟩
 let E':Env:={E with w:=E1.w,PA:=fun c=>E.PA c∨E1.PA c∨(E1.PF c∨ ∃j,j≠0∧E1.m j=some (some c)),PF:=fun c=>E.PF c∨(E1.PF c∨ ∃j,j≠0∧E1.m j=some (some c))}
 let sE:Env:={E1 with m:=fun j=>if j=0 then none else E1.m j,aE:=fun j=>if j=0 then g+1 else E1.aE j}
 have aL: ∀{j:Nat} {x:Option Nat},sE.m j=some x→j≠0∧E1.m j=some x:=fun{j x} h=>by
  have h:(if j=0 then none else E1.m j)=some x:=h
  split at h
  ·cases h
  ·rename_i e;exact⟨e,h⟩
 have rG: ∀{j:Nat},j≠0→sE.aE j=E1.aE j:=fun{j} h=>if_neg h
 have hle:E1.ev sE:=⟨fun _ h=>h,fun _ h=>h,fun _ _=>rfl,fun _ _=>rfl,fun b=>by
   by_cases e:b=0
   ·subst e;show E1.aE 0≤(if 0=0 then g+1 else E1.aE 0);rw[if_pos rfl,aJ];omega
   ·rw[rG e];exact Nat.le_refl _,fun b x hx lM=>by
   by_cases e:b=0
   ·subst e
    have lM:(if 0=0 then g+1 else E1.aE 0)=E1.aE 0:=lM
    rw[if_pos rfl,aJ] at lM;omega
   ·exact⟨by show(if b=0 then none else E1.m b)=_;rw[if_neg e];exact hx,rfl,rfl⟩,fun _ _ h=>h⟩
 have ru: ∀{j:Nat} (x y:Blk),j≠0→(x::B)[j]?=(y::B)[j]?:=fun{j} x y O=>by
  cases j with
  | zero=>exact absurd rfl O
  | succ j=>rfl
 have MZ:SimH sE (⟨g+1,ad.length,[ba]⟩::B):=
  {heap:=fun b c hb=>by
    obtain⟨ob,hb⟩:=aL hb
    obtain⟨blk,pv,ty,cL,ff,dd,ez,kx,QI,QJ⟩:=cU.heap b c hb
    refine⟨blk,pv,ty,by rw[ru _ ⟨g,ad.length,[ba]⟩ ob];exact cL,ff,dd,ez,kx,QI,fun i j row a h1 h2=> ?_⟩
    obtain⟨u,hu,eL⟩:=QJ i j row a h1 h2
    exact⟨u,hu,eL.le hle.aW⟩
   cS:=fun b blk hb=>by
    by_cases e:b=0
    ·subst e;cases hb;rfl
    ·rw[rG e];rw[ru _ ⟨g,ad.length,[ba]⟩ e] at hb;exact cU.cS b blk hb
   e0:=fun b hb=>by
    obtain⟨ob,hb⟩:=aL hb
    obtain⟨blk,cL,dd⟩:=cU.e0 b hb
    exact⟨blk,by rw[ru _ ⟨g,ad.length,[ba]⟩ ob];exact cL,dd⟩
   fresh:=fun b hb=>by
    have hb:B.length+1≤b:=hb
    have:=cU.fresh b hb
    exact⟨by show(if b=0 then none else E1.m b)=none;rw[if_neg (by omega)];exact this.1,by rw[rG (by omega)];exact this.2⟩
   ee:=fun b bC c h1 h2=>cU.ee b bC c (aL h1).2 (aL h2).2
   gk:=cU.gk
   ey:=fun b t c h1 h2=>cU.ey b t c (aL h1).2 h2
   fm:=fun c hc ⟨b,hb⟩=>cU.fm c hc ⟨b,(aL hb).2⟩
   fx:=cU.fx
   ck:=cU.ck
   dz:=cU.dz
   cu:=cU.cu
   dB:=fun c ⟨b,hb⟩=>cU.dB c ⟨b,(aL hb).2⟩
   et:=cU.et}
 refine⟨v,E',rfl,rfl,rfl,rfl,rfl,rfl,rfl,fun c hc=> .inl hc,fun c hc=> .inl hc,fun c hc=>hc.elim (fun h=> .inl (ag.ck c h)) (fun h=> .inr (.inr h)),fun c hc=>hc.elim (fun h=>(ag.dz c h).same (iW c (ag.cu c (ag.ck c h)) (fun e=>by subst e;exact pJ (ag.ck _ h)))) (fun h=>h.elim (cU.dz c) fun⟨j,_,O⟩=>by obtain⟨_,ad,ty,_,_,q,_⟩:=cU.heap j c O;exact⟨ad,ty,q⟩),fun c hc=> ?_,fun c hc=>hc.elim .inl (fun h=> .inr (pP c h).1),
  aM.os,aM.tape,aM.output,aM.size,iW,⟨pw,ty2,q2,by rw[q3,an,hc],?_,fun j a O=> ?_⟩,?_⟩
 ·rcases hc with h | h | h
  ·exact .inl h
  ·exact MP c h
  ·exact .inr (pP c h)
 ·have:=cI 0 ba rfl
  rw[an] at this;exact this
 ·obtain⟨u,hu,eL⟩:=c4 0 j ba a rfl O
  refine⟨u,by rw[Nat.zero_mul,Nat.zero_add] at hu;exact hu,?_⟩
  have hb:=List.all_eq_true.1 iF a (List.mem_of_getElem? O)
  exact(te hb eL).mono (fun _ _=>rfl) (fun _ _=>rfl) (fun c hc=> .inr (.inl hc)) (fun c hc=> .inr (.inl hc))
 ·refine Ag (E':=E') MZ rfl (fun c hc=> ?_) ym (hv.le hle)
  have:E1.PF c∨ ∃j,j≠0∧E1.m j=some (some c):=hc.elim .inl fun⟨j,O⟩=> .inr ⟨j,aL O⟩
  exact⟨.inr (.inr this),.inr this⟩
section
variable {E E':Env} {H:List Blk} {L:List (Nat×List AV)} {bl k n:Nat} {ba:List AV} {t:AV} {v:Value}
theorem nI.step (A:nI E bl k n ba t v E') (ag:SimH E H) (iV:E.dx bl∨E.hn bl):Step E E':=
 {le:=⟨A.dC,A.dr,fun c hc=>A.b3 c (ag.cu c hc) (fun e=>by subst e;exact iV.elim (ag.fm c hc) (ag.fx c hc)),fun c hc=>A.b3 c (ag.cu c (ag.ck c hc)) (fun e=>by subst e;exact iV.elim (ag.fm c (ag.ck c hc)) (ag.fx c (ag.ck c hc))),
   fun b=>by rw[A.aE];exact Nat.le_refl _,fun b x hx _=>by rw[A.m,A.sz,A.cp];exact⟨hx,rfl,rfl⟩,fun t c h=>by rw[A.mL];exact h⟩
  os:=A.os,tape:=A.tape,output:=A.output,size:=A.size
  b3:=fun c hc h1 h2=>A.b3 c hc (fun e=>by subst e;exact iV.elim h1 h2)
  fV:=fun b c hb=> .inl (by rw[←A.m];exact hb)
  gj:=fun c ⟨t,aC⟩=> .inl ⟨t,by rw[←A.mL];exact aC⟩
  dC:=fun c hc=>(A.u3 c hc).elim .inl fun h=> .inr h.1
  dr:=A.Qs}
theorem nI.simH (A:nI E bl k n ba t v E') (ag:SimH E H) (iV:E.dx bl∨E.hn bl) {H':List Blk} (hlen:H'.length=H.length) (aJ: ∀(b:Nat) (x:Blk),H'[b]?=some x→ ∃y,H[b]?=some y∧x.aE=y.aE) (hs: ∀(b:Nat) (y:Blk),H[b]?=some y→ ∃x,H'[b]?=some x∧x.sz=y.sz)
  (hb: ∀b c,E.m b=some (some c)→(c≠bl∧H'[b]?=H[b]?)∨ ∃blk ad ty,H'[b]?=some blk∧E.sz b=blk.sz∧E'.w.heap[c]?=some (.cells ad ty (0,0))∧ad.size=E.cp b*E.sz b∧blk.rows.length≤E.cp b∧pf E' (E.sz b) blk.rows ad):SimH E' H':=by
 have aM:=A.step ag iV
 have k5: ∀c,E'.dx c→E.dx c:=fun c ⟨b,hb⟩=>⟨b,by rw[←A.m];exact hb⟩
 have yF: ∀c,E'.hn c→E.hn c:=fun c ⟨b,hb⟩=>⟨b,by rw[←A.mL];exact hb⟩
 have gO:=ag.dB
 have gP:=ag.et
 exact{
  heap:=fun b c h=>by
   rw[A.m] at h
   rw[A.sz,A.cp]
   rcases hb b c h with⟨bV,he⟩ | h
   ·obtain⟨blk,ad,ty,q1,bJ,q2,q3,q4,cI,c4⟩:=ag.heap b c h
    refine⟨blk,ad,ty,by rw[he];exact q1,bJ,by rw[A.b3 c (gO c ⟨b,h⟩) bV];exact q2,q3,q4,cI,fun i j row a h1 h2=> ?_⟩
    obtain⟨u,hu,eL⟩:=c4 i j row a h1 h2
    exact⟨u,hu,eL.le aM.le.aW⟩
   ·exact h
  cS:=fun b blk h=>by
   rw[A.aE]
   obtain⟨y,h1,h2⟩:=aJ b blk h
   rw[h2];exact ag.cS b y h1
  e0:=fun b h=>by
   rw[A.m] at h
   obtain⟨y,h1,h2⟩:=ag.e0 b h
   obtain⟨x,ao,a8⟩:=hs b y h1
   exact⟨x,ao,by rw[A.sz,a8];exact h2⟩
  fresh:=fun b h=>by rw[A.m,A.aE];exact ag.fresh b (by rw[←hlen];exact h)
  ee:=fun b bC c h1 h2=>by rw[A.m] at h1 h2;exact ag.ee b bC c h1 h2
  gk:=fun t fZ c h1 h2=>by rw[A.mL] at h1 h2;exact ag.gk t fZ c h1 h2
  ey:=fun b t c h1 h2=>by rw[A.m] at h1;rw[A.mL] at h2;exact ag.ey b t c h1 h2
  fm:=fun c hc hi=>(A.u3 c hc).elim (fun h=>ag.fm c h (k5 c hi)) (fun h=>absurd (gO c (k5 c hi)) (by omega))
  fx:=fun c hc hi=>(A.u3 c hc).elim (fun h=>ag.fx c h (yF c hi)) (fun h=>absurd (gP c (yF c hi)) (by omega))
  ck:=A.ck
  dz:=A.dz
  cu:=fun c hc=>(A.u3 c hc).elim (fun h=>Nat.lt_of_lt_of_le (ag.cu c h) A.size) (fun h=>h.2)
  dB:=fun c hc=>Nat.lt_of_lt_of_le (gO c (k5 c hc)) A.size
  et:=fun c hc=>Nat.lt_of_lt_of_le (gP c (yF c hc)) A.size}
theorem nI.row (A:nI E bl k n ba t v E') (hk:ba.all gb=true) {cells:Array Value} {ty:TypeId} (hw:E'.w.heap[bl]?=some (.cells cells ty (0,0))):ba.length=n∧cells.size=k∧ ∀(j:Nat) (a:AV),ba[j]?=some a→ ∃u,cells[j]?=some u∧be E'.aW a u:=by
 obtain⟨aQ,ty2,q1,q2,q3,q4⟩:=A.new
 rw[hw] at q1
 cases q1
 refine⟨q3,q2,fun j a O=> ?_⟩
 obtain⟨u,hu,aa⟩:=q4 j a O
 exact⟨u,hu,ar.v1 (E:=E'.aW) aa⟩
end
theorem Jj {P:Program} {f:FuncId} {vs:List Value} {E:Env} {H:List Blk} {L:List (Nat×List AV)} {args cR ad ba:List AV} {t:AV} {b g:Nat} (ag:SimH E H) (aY:SimL E L) (hb:H[b]?=some ⟨g,ad.length,[ad]⟩) (hk:ad.all ov=true) (iF:ba.all gb=true)
  (ai:aw (V2 E) args vs) (hm:AV.ptr b g 0 0∈args) (hs:aw (nJ (.ptr b g 0 0) (.ptr 0 g 0 0)) args cR) (h:nL P f g cR ad ba t):
  Calls P f vs.toArray E.w fun e w'=> ∃v E',e= .returned v∧E'.w=w'∧Step E E'∧SimH E' (H.set b ⟨g,ad.length,[ba]⟩)∧SimL E' L∧V3 E' t v∧E'.mL=E.mL:=by
 have gN:=ag.cS b _ hb
 have rJ: ∀v,V2 E (.ptr b g 0 0) v→ ∃bl,E.m b=some (some bl)∧v= .pointer (some ⟨bl,0,none⟩):=fun v hv=>by
  obtain⟨bl,hm,rfl⟩:=V3.u6 (E:=E) (v:=v) (show V3 E (.ptr b g 0 0) v from hv) gN
  exact⟨bl,hm,by rw[Nat.zero_mul]⟩
 obtain⟨i,hi,he⟩:=List.mem_iff_getElem.1 hm
 have kY:i<vs.length:=ai.1▸hi
 have iZ:=ai.2 i _ _ (List.getElem?_eq_getElem hi) (List.getElem?_eq_getElem kY)
 rw[he] at iZ
 obtain⟨bl,hh,_⟩:=rJ _ iZ
 obtain⟨blk,cells,ty,q1,bJ,q2,q3,q4,cI⟩:=ag.heap b bl hh
 rw[hb] at q1
 cases q1
 have bJ:E.sz b=ad.length:=bJ
 have iV:bl<E.w.heap.size:=ag.dB bl ⟨b,hh⟩
 refine(BI (bl:=bl) (cp:=E.cp b) ag iV (fun h=>ag.fm bl h ⟨b,hh⟩) q2 (by rw[q3,bJ]) q4 hk (fun j a O=> ?_) ai (fun v hv=> ?_) hs iF h).mono ?_
 ·obtain⟨u,hu,eL⟩:=cI.2 0 j ad a rfl O
  exact⟨u,by rw[Nat.zero_mul,Nat.zero_add] at hu;exact hu,eL.up⟩
 ·obtain⟨IW,h1,rfl⟩:=rJ v hv
  rw[hh] at h1;cases h1;rfl
 rintro e w' ⟨v,E',rfl,rfl,A⟩
 have mv:E.dx bl∨E.hn bl:= .inl ⟨b,hh⟩
 have aM:=A.step ag mv
 refine⟨v,E',rfl,rfl,aM,A.simH ag mv (by rw[List.length_set]) (fun j x hx=> ?_) (fun j y ax=> ?_) (fun j c O=> ?_),fun u c hu=> ?_,A.v3,A.mL⟩
 ·rw[List.getElem?_set] at hx
  split at hx
  ·rename_i e;subst e
   split at hx
   ·cases hx;exact⟨_,hb,rfl⟩
   ·cases hx
  ·exact⟨x,hx,rfl⟩
 ·rw[List.getElem?_set]
  split
  ·rename_i e;subst e
   rw[hb] at ax;cases ax
   rw[if_pos (List.getElem?_eq_some_iff.1 hb).1];exact⟨_,rfl,rfl⟩
  ·exact⟨y,ax,rfl⟩
 ·by_cases e:j=b
  ·subst e
   rw[hh] at O
   cases O
   obtain⟨aQ,ty2,cL,dd,ez,kx⟩:=A.new
   obtain⟨s1,s2,z7⟩:=A.row iF cL
   refine .inr ⟨⟨g,ad.length,[ba]⟩,aQ,ty2,by rw[List.getElem?_set,if_pos rfl,if_pos (List.getElem?_eq_some_iff.1 hb).1],bJ,cL,by rw[dd,bJ],q4,fun i row aa=> ?_,fun i j row a aa O=> ?_⟩
   ·cases i with
    | zero=>cases aa;rw[bJ];exact s1
    | succ i=>cases aa
   ·cases i with
    | zero=>
     cases aa
     obtain⟨u,hu,eL⟩:=z7 j a O
     exact⟨u,by rw[Nat.zero_mul,Nat.zero_add];exact hu,eL⟩
    | succ i=>cases aa
  ·refine .inl ⟨fun h=>e ?_,by rw[List.getElem?_set,if_neg (fun h=>e h.symm)]⟩
   subst h;exact ag.ee j b c O hh
 ·rw[A.mL] at hu
  obtain⟨pv,aQ,ty2,cL,dd,ez⟩:=aY u c hu
  exact⟨pv,aQ,ty2,cL,by rw[A.b3 c (ag.et c ⟨u,hu⟩) (fun e=>by subst e;exact ag.ey b u c hh hu)];exact dd,ez.mono fun _ _ k=>k.le aM.le.aW⟩
theorem Jk {P:Program} {f:FuncId} {vs:List Value} {E:Env} {H:List Blk} {L:List (Nat×List AV)} {args cR ad ba:List AV} {t:AV} {x:Nat} (ag:SimH E H) (aY:SimL E L) (hx:cG L x=some ad) (hk:ad.all ov=true) (iF:ba.all gb=true)
  (ai:aw (V2 E) args vs) (hm:AV.dn x 0∈args) (hs:aw (nJ (.dn x 0) (.ptr 0 0 0 0)) args cR) (h:nL P f 0 cR ad ba t):
  Calls P f vs.toArray E.w fun e w'=> ∃v E',e= .returned v∧E'.w=w'∧Step E E'∧SimH E' H∧SimL E' (hL L x ba)∧V3 E' t v∧E'.mL=E.mL:=by
 have rJ: ∀v,V2 E (.dn x 0) v→ ∃bl,E.mL x=some bl∧v= .pointer (some ⟨bl,0,none⟩):=fun v hv=>hv
 obtain⟨i,hi,he⟩:=List.mem_iff_getElem.1 hm
 have kY:i<vs.length:=ai.1▸hi
 have iZ:=ai.2 i _ _ (List.getElem?_eq_getElem hi) (List.getElem?_eq_getElem kY)
 rw[he] at iZ
 obtain⟨bl,hh,_⟩:=rJ _ iZ
 obtain⟨pv,cells,ty,q1,q2,q3⟩:=aY x bl hh
 rw[hx] at q1
 cases q1
 have iV:bl<E.w.heap.size:=ag.et bl ⟨x,hh⟩
 have bz:cells.size=1*ad.length:=by rw[Nat.one_mul];exact q3.1.symm
 refine(BI (bl:=bl) (cp:=1) ag iV (fun h=>ag.fx bl h ⟨x,hh⟩) q2 bz (Nat.le_refl _) hk (fun j a O=> ?_) ai (fun v hv=> ?_) hs iF h).mono ?_
 ·obtain⟨u,hu,eL⟩:=q3.get O
  exact⟨u,by rw[Array.getElem?_toList] at hu;exact hu,eL.up⟩
 ·obtain⟨IW,h1,rfl⟩:=rJ v hv
  rw[hh] at h1;cases h1;rfl
 rintro e w' ⟨v,E',rfl,rfl,A⟩
 have mv:E.dx bl∨E.hn bl:= .inr ⟨x,hh⟩
 have aM:=A.step ag mv
 refine⟨v,E',rfl,rfl,aM,A.simH ag mv rfl (fun j y ax=>⟨y,ax,rfl⟩) (fun j y ax=>⟨y,ax,rfl⟩) (fun j c O=> .inl ⟨fun e=>by subst e;exact ag.ey j x c O hh,rfl⟩),fun u c hu=> ?_,A.v3,A.mL⟩
 rw[A.mL] at hu
 rw[ri]
 by_cases e:u=x
 ·subst e
  rw[hh] at hu
  cases hu
  obtain⟨aQ,ty2,cL,dd,ez,kx⟩:=A.new
  obtain⟨s1,s2,z7⟩:=A.row iF cL
  rw[if_pos rfl,hx]
  refine⟨ba,aQ,ty2,rfl,cL,by show ba.length=aQ.size;rw[s1,s2,Nat.one_mul],fun j a v O hv=> ?_⟩
  obtain⟨S3,jt,eL⟩:=z7 j a O
  rw[Array.getElem?_toList,jt] at hv
  cases hv;exact eL
 ·rw[if_neg e]
  obtain⟨aV,aQ,ty2,cL,dd,ez⟩:=aY u c hu
  exact⟨aV,aQ,ty2,cL,by rw[A.b3 c (ag.et c ⟨u,hu⟩) (fun h=>by subst h;exact e (ag.gk u x c hu hh))];exact dd,ez.mono fun _ _ k=>k.le aM.le.aW⟩
def BH (P:Program) (f:FuncId) (args:List AV) (L:List (Nat×List AV)) (H:List Blk) (K:j4 Prop):Prop:=
 ∃cR ad ba t,ad.all ov=true∧ba.all gb=true∧
  ((∃b g,H[b]?=some ⟨g,ad.length,[ad]⟩∧AV.ptr b g 0 0∈args∧aw (nJ (.ptr b g 0 0) (.ptr 0 g 0 0)) args cR∧nL P f g cR ad ba t∧K t L (H.set b ⟨g,ad.length,[ba]⟩))∨
   ∃x,cG L x=some ad∧AV.dn x 0∈args∧aw (nJ (.dn x 0) (.ptr 0 0 0 0)) args cR∧nL P f 0 cR ad ba t∧K t (hL L x ba) H)
theorem Ji {P:Program} {f:FuncId} {args:List AV} {L:List (Nat×List AV)} {H:List Blk} {E:Env} {vs:List Value} {K:AV→List (Nat×List AV)→List Blk→Prop} (ag:SimH E H) (aY:SimL E L) (ai:aw (V2 E) args vs) (h:BH P f args L H K):
  nt P f=true∧Calls P f vs.toArray E.w fun e w'=> ∃v u L' H' E',e= .returned u∧K v L' H'∧E'.w=w'∧Step E E'∧SimH E' H'∧SimL E' L'∧V3 E' v u∧E'.mL=E.mL:=by
 obtain⟨cR,ad,ba,t,hk,iF,⟨b,g,hb,hm,hs,hf,hK⟩ | ⟨x,hx,hm,hs,hf,hK⟩⟩:=h
 ·refine⟨hf.1,(Jj ag aY hb hk iF ai hm hs hf).mono ?_⟩
  rintro e w' ⟨v,E',rfl,rfl,h1,h2,ao,a8,cw⟩
  exact⟨t,v,L,_,E',rfl,hK,rfl,h1,h2,ao,a8,cw⟩
 ·refine⟨hf.1,(Jk ag aY hx hk iF ai hm hs hf).mono ?_⟩
  rintro e w' ⟨v,E',rfl,rfl,h1,h2,ao,a8,cw⟩
  exact⟨t,v,_,H,E',rfl,hK,rfl,h1,h2,ao,a8,cw⟩
def Jf (P:Program) (f:FuncId) (args:List AV) (L:List (Nat×List AV)) (H:List Blk) (K:j4 Prop):Prop:=
 args.all c3=true∧ ∃cR,aw (fB L H) args cR∧ej P f cR [] fun r da=>sa r=true∧r9 da=true∧K (oT H.length r) L (H++da.map (j3 H.length))
def Jd (P:Program) (f:FuncId) (args:List AV) (L:List (Nat×List AV)) (H:List Blk) (K:j4 Prop):Prop:=
 args.all c3=true∧args.all h3=true∧ej P f args H fun r H'=>r5 r=true∧K r L H'
def iA (P:Program) (f:FuncId) (args:List AV) (L:List (Nat×List AV)) (H:List Blk) (K:j4 Prop):Prop:=
 kK P f args L H (fun r=>K r L H)∨Jf P f args L H K∨Jd P f args L H K∨(args.all c3=true∧BH P f args L H K)
def Cc (P:Program) (c:Call) (aN:Operand→AV) (L:List (Nat×List AV)) (H:List Blk) (K:j4 Prop):Prop:=match c.callee with
 | .builtin .len=>xv P c aN L H fun r=>K r L H
 | .builtin .append=>(match c.args.toList,c.argTypes.toList with
  | [s,x],[t,t2]=>c3 (aN s)=true∧c3 (aN x)=true∧nT P t t2 (aN s) (aN x) L H K
  | _,_=>False)
 | .value f=>ie (aN f) fun g caps=>iA P g (c.args.toList.map aN++caps) L H K
 | _=>False
def gL (P:Program) (esc:List Nat) (o:Oper) (aN:Operand→AV) (L:List (Nat×List AV)) (H:List Blk) (K:j4 Prop):Prop:=match o.op with
 | .store t a v=>cQ (c3 (aN v)) (iu P t (aN a) (aN v) L H fun L' H'=>K (.tup []) L' H')
 | .alloc e=>ci (jk P e) fun z=>oD esc o.dst z L H K
 | .box e x=>cQ (c3 (aN x)) (oD esc o.dst (c8 (aN x)) L H K)
 | .makeSlice t l c=>p7 P t (aN l) (aN c) L H K
 | .buildSlice t n ps=>cQ (ps.toList.all fun p=>c3 (aN p.2)) (nW P (n6 esc o.dst) (oQ esc) t n (ps.toList.map fun p=>(p.1,aN p.2)) L H K)
 | .call c=>Cc P c aN L H K
 | _=>m2 P o aN L H fun r=>K r L H
theorem sW {E:Env} {a:AV} {v:Value} (h:c3 a=true) (hv:V3 E a v):V2 E a v:=by
 rwa [kb (p_ h)] at hv
theorem Jg {P:Program} {f:FuncId} {args:List AV} {L:List (Nat×List AV)} {H:List Blk} {E:Env} {vs:List Value} {K:AV→List (Nat×List AV)→List Blk→Prop} (ag:SimH E H) (aY:SimL E L)
  (ai:aw (V2 E) args vs) (h:iA P f args L H K):
  nt P f=true∧Calls P f vs.toArray E.w fun e w'=> ∃v u L' H' E',e= .returned u∧K v L' H'∧E'.w=w'∧Step E E'∧SimH E' H'∧SimL E' L'∧V3 E' v u∧E'.mL=E.mL:=by
 rcases h with⟨af,cR,t,hs,kW,hK⟩ | ⟨af,cR,hs,kW⟩ | ⟨af,ak,kW⟩ | ⟨af,ab⟩
 ·refine⟨kW.1,(BJ (Sub.refl L H) ag aY ai hs kW).mono ?_⟩
  rintro e w' ⟨v,E',rfl,rfl,al,hv⟩
  exact⟨t,v,L,H,E',rfl,hK,rfl,al.step,al.simH ag,al.simL ag aY,hv,al.mL⟩
 ·refine⟨kW.1,(Jh (Q:=fun r da=>K (oT H.length r) L (H++da.map (j3 H.length))) ag aY ai hs kW).mono ?_⟩
  rintro e w' ⟨r,v,da,E',rfl,hK,rfl,aM,h1,h2,hv,hml⟩
  exact⟨_,v,L,_,E',rfl,hK,rfl,aM,h1,h2,hv,hml⟩
 ·refine⟨kW.1,(Je (Q:=fun r H'=>K r L H') ag aY ai ak kW).mono ?_⟩
  rintro e w' ⟨r,v,H',E',rfl,hK,rfl,aM,h1,h2,hv,hml⟩
  exact⟨_,v,L,_,E',rfl,hK,rfl,aM,h1,h2,hv,hml⟩
 ·exact Ji ag aY ai ab
theorem Jc {P:Program} {f:FuncId} {args:List AV} {L:List (Nat×List AV)} {H:List Blk} {K:AV→List (Nat×List AV)→List Blk→Prop} (h:iA P f args L H K):args.all c3=true:=by
 rcases h with⟨af,_⟩ | ⟨af,_⟩ | ⟨af,_⟩ | ⟨af,_⟩<;>exact af
set_option maxHeartbeats 1000000 in
theorem evOp_sound {P:Program} {esc:List Nat} {o:Oper} {a:Act} {T:List AV} {E:Env} {L:List (Nat×List AV)} {H:List Blk} {K:AV→List (Nat×List AV)→List Blk→Prop} {Q:Exit→Act→World→Prop}
  (bu: ∀t,V3 E (T.getD t .undef) (a.tmps.getD t undef)) (ag:SimH E H) (aY:SimL E L) (h:gL P esc o (bt T) L H K):o.wp P a E.w (vQ E o a K) Q:=by
 have fin: ∀{s:Sem Value},(execOp a.eval o=(do pure (Next.value (←s))))→(∃v L' H' E' u,K v L' H'∧s.run P E.w= .ok u E'.w∧Step E E'∧SimH E' H'∧SimL E' L'∧V3 E' v u∧ ∀t,o.dst≠some t→E'.mL t=E.mL t)→o.wp P a E.w (vQ E o a K) Q:=by
  rintro s hs ⟨v,L',H',E',u,hK,aa,h1,h2,ao,a8,cw⟩
  unfold Oper.wp
  rw[hs]
  exact AH aa ⟨v,u,L',H',E',hK,rfl,h1,h2,ao,a8,rfl,cw⟩
 have Gm:m2 P o (bt T) L H (fun r=>K r L H)→o.wp P a E.w (vQ E o a K) Q:=fun h=>
  Oper.wp_mono (fun fw w' ⟨v,u,E',hK,hw,al,hv,ai⟩=>⟨v,u,L,H,E',hK,hw,al.step,al.simH ag,al.simL ag aY,hv,ai,fun t _=>by rw[al.mL]⟩) (Cj bu (Sub.refl L H) ag aY h)
 obtain⟨dst,op,ty,pos,after,guard⟩:=o
 cases op with
 | store t x v=>
  obtain⟨af,h⟩:=k_ (show cQ (c3 (bt T v)) (iu P t (bt T x) (bt T v) L H fun L' H'=>K (.tup []) L' H') from h)
  obtain⟨L',H',E',hK,aa,h1,h2,ao,hml⟩:=RU ag aY (opv_rel bu x) (sW af (opv_rel bu v)) h
  unfold Oper.wp
  have:(execOp a.eval ⟨dst,.store t x v,ty,pos,after,guard⟩).run P E.w= .ok .skip E'.w:=by
   simp only[execOp,Sem.run_bind,aa,Sem.run_pure,Result.andThen_ok]
  rw[this]
  exact⟨.tup [],_,L',H',E',hK,rfl,h1,h2,ao,⟨[],rfl,aw.nil⟩,rfl,fun t _=>by rw[hml]⟩
 | alloc e=>
  obtain⟨z,an,h⟩:=dp (show ci (jk P e) fun z=>oD esc dst z L H K from h)
  obtain⟨i,v,q1,q2,q3,q4⟩:=o6 (E:=E) an
  obtain⟨r,L',H',E',hK,hw,h1,h2,ao,a8,hml⟩:=FG (ty:=e) ag aY q4 h
  refine fin (s:=Instr.alloc e true (.tuple #[])) rfl ⟨r,L',H',E',_,hK,?_,h1,h2,ao,a8,hml⟩
  rw[hw]
  simp[Instr.alloc,zeroValue,typeInfo,q1,q2,newVar,newRow]
 | box e x=>
  obtain⟨af,h⟩:=k_ (show cQ (c3 (bt T x)) (oD esc dst (c8 (bt T x)) L H K) from h)
  have hs:(c8 (bt T x)).all fY=true:=by
   unfold oD at h;split at h
   ·rename_i q;exact q
   ·exact h.elim
  obtain⟨r,L',H',E',hK,hw,h1,h2,ao,a8,hml⟩:=FG (ty:=e) ag aY (wU (sW af (opv_rel bu x)) hs) h
  refine fin (s:=Instr.box e (a.eval x)) rfl ⟨r,L',H',E',_,hK,?_,h1,h2,ao,a8,hml⟩
  rw[hw]
  simp[Instr.box,newVar,newRow]
 | makeSlice t l c=>
  obtain⟨v,L',H',E',u,hK,aa,h1,h2,ao,a8,hml⟩:=P0 ag aY (opv_rel bu l) (opv_rel bu c) (show p7 P t (bt T l) (bt T c) L H K from h)
  exact fin (s:=Instr.makeSlice t (a.eval l) (a.eval c)) rfl ⟨v,L',H',E',u,hK,aa,h1,h2,ao,a8,fun t _=>by rw[hml]⟩
 | buildSlice t n ps=>
  obtain⟨af,h⟩:=k_ (show cQ (ps.toList.all fun p=>c3 (bt T p.2)) (nW P (n6 esc dst) (oQ esc) t n (ps.toList.map fun p=>(p.1,bt T p.2)) L H K) from h)
  obtain⟨v,u,L',H',E',hK,aa,h1,h2,ao,a8,hml⟩:=I0 ag aY (zu bu ps.toList fun p ab=>p_ (List.all_eq_true.1 af p ab)) h
  exact fin (s:=Instr.buildSlice t n (ps.toList.map fun p=>(p.1,a.eval p.2)).toArray) (by rw[parts_eq];rfl) ⟨v,L',H',E',u,hK,aa,h1,h2,ao,a8,fun t _=>by rw[hml]⟩
 | call c=>
  have h:Cc P c (bt T) L H K:=h
  obtain⟨callee,args,argTypes⟩:=c
  cases callee with
  | builtin b=>
   cases b with
   | len=>exact Gm h
   | append=>
    have h:(match args.toList,argTypes.toList with
     | [s,x],[t,t2]=>c3 (bt T s)=true∧c3 (bt T x)=true∧nT P t t2 (bt T s) (bt T x) L H K
     | _,_=>False):=h
    split at h
    ·rename_i s x t t2 h1 h2
     obtain rfl:args= #[s,x]:=by rw[←Array.toArray_toList (xs:=args),h1]
     obtain rfl:argTypes= #[t,t2]:=by rw[←Array.toArray_toList (xs:=argTypes),h2]
     obtain⟨bU,n2,h⟩:=h
     obtain⟨r,u,H',E',hK,aa,q1,q2,q3,q4,hml⟩:=IF (ty:=ty) ag aY (sW bU (opv_rel bu s)) (sW n2 (opv_rel bu x)) h
     unfold Oper.wp
     have:(execOp a.eval ⟨dst,.call ⟨.builtin .append,#[s,x],#[t,t2]⟩,ty,pos,after,guard⟩).run P E.w= .ok (.value u) E'.w:=by
      simp only[execOp,resolve,Sem.run_bind,Sem.run_pure,Result.andThen_ok,invoke,builtin]
      have e:Array.map a.eval #[s,x]= #[a.eval s,a.eval x]:=by simp
      rw[e,aa];rfl
     rw[this]
     exact⟨r,u,L,H',E',hK,rfl,q1,q2,q3,q4,rfl,fun t _=>by rw[hml]⟩
    ·exact h.elim
   | _=>exact h.elim
  | value f=>
   have h:ie (bt T f) fun g caps=>iA P g (args.toList.map (bt T)++caps) L H K:=h
   cases hf:bt T f with
   | fn g caps=>
    rw[hf] at h
    have h:iA P g (args.toList.map (bt T)++caps) L H K:=h
    have af:=Jc h
    obtain⟨vs,he,oe⟩:=BK bu hf
    have xW:aw (V2 E) (args.toList.map (bt T)++caps) (args.toList.map a.eval++vs):=
     aw.append (Bp bu args.toList fun x hx=>p_ (List.all_eq_true.1 af _ (by simp;exact .inl ⟨x,by simpa using hx,rfl⟩))) oe
    obtain⟨eQ,hc⟩:=Jg ag aY xW h
    unfold Oper.wp
    rw[show execOp a.eval ⟨dst,.call ⟨.value f,args,argTypes⟩,ty,pos,after,guard⟩=(do let d ←resolve a.eval ⟨.value f,args,argTypes⟩ ty;invoke d.target d.args) from rfl]
    rw[GJ (P:=P) (ty:=ty) (w:=E.w) (c:=⟨.value f,args,argTypes⟩) rfl he eQ]
    refine hc.mono ?_
    rintro e w' ⟨v,u,L',H',E',rfl,hK,rfl,q1,q2,q3,q4,hml⟩
    exact⟨v,u,L',H',E',hK,rfl,q1,q2,q3,q4,rfl,fun t _=>by rw[hml]⟩
   | _=>rw[hf] at h;exact h.elim
  | _=>exact h.elim
 | _=>exact Gm h
def kJ (lit:Bool) (b:Bool) (x y:Prop):Prop:=match lit with
 | true=>(match b with
  | true=>x
  | false=>y)
 | false=>q5 b x y
theorem td {lit b:Bool} {x y:Prop} (h:kJ lit b x y):(b=true→x)∧(b=false→y):=by
 cases lit with
 | false=>exact h
 | true=>cases b<;>exact⟨fun e=>by cases e<;>exact h,fun e=>by cases e<;>exact h⟩
def putA (T:List AV) (dst:Option Nat) (v:AV):List AV:=match dst with
 | some d=>T.set d v
 | none=>T
def jN (ops:Array Oper) (lit:Bool) (o:Oper) (T:List AV) (x y:List AV→Prop):Prop:=match o.guard with
 | none=>x T
 | some (j,e6)=>match(ops[j]?).bind (·.dst) with
  | none=>False
  | some t=>match T.getD t .undef with
   | .bool b=>kJ lit b (if e6=true then x (T.set t (.bool true)) else y (T.set t (.bool true))) (if e6=true then y (T.set t (.bool false)) else x (T.set t (.bool false)))
   | .tup []=>y T
   | _=>False
def oJ (lit:Bool) (o:Oper) (T:List AV) (K:AV→Prop) (tx:Prop):Prop:=match o.op with
 | .pick c x y=>kc (bt T c) fun z=>kJ lit z (K (bt T x)) (K (bt T y))
 | _=>tx
def evOps (P:Program) (esc:List Nat) (ops:Array Oper):List (Oper×Bool)→List AV→List (Nat×List AV)→List Blk→(List AV→List (Nat×List AV)→List Blk→Prop)→Prop
 | [],T,L,H,K=>K T L H
 | (o,lit)::rest,T,L,H,K=>jN ops lit o T
   (fun T=>oJ lit o T (fun v=>evOps P esc ops rest (putA T o.dst v) L H K) (gL P esc o (bt T) L H fun v L' H'=>evOps P esc ops rest (putA T o.dst v) L' H' K))
   (fun T=>evOps P esc ops rest (putA T o.dst (.tup [])) L H K)
theorem mj {T:List AV} {d t:Nat} {v:AV}:(T.set d v).getD t .undef=if d=t∧d<T.length then v else T.getD t .undef:=by
 rw[List.getD_eq_getElem?_getD,List.getD_eq_getElem?_getD,List.getElem?_set]
 by_cases h:d=t
 ·subst h
  by_cases ak:d<T.length
  ·simp[ak]
  ·simp[ak]
 ·simp[h]
theorem G3 {E:Env} {T:List AV} {a:Act} (bu: ∀t,V3 E (T.getD t .undef) (a.tmps.getD t undef)) (hs:T.length=a.tmps.size) {dst:Option Nat} {v:AV} {u:Value} (hv:V3 E v u):
  (∀t,V3 E ((putA T dst v).getD t .undef) ((a.put dst u).tmps.getD t undef))∧(putA T dst v).length=(a.put dst u).tmps.size:=by
 cases dst with
 | none=>exact⟨bu,hs⟩
 | some d=>
  refine⟨fun t=> ?_,by simp[putA,Act.put,hs]⟩
  show V3 E ((T.set d v).getD t .undef) ((a.tmps.setIfInBounds d u).getD t undef)
  rw[mj,Array.getD_eq_getD_getElem?,Array.getElem?_setIfInBounds]
  by_cases h:d=t
  ·subst h
   by_cases ak:d<T.length
   ·have uc:d<a.tmps.size:=hs▸ak
    simp[ak,uc];exact hv
   ·have uc: ¬d<a.tmps.size:=hs▸ak
    have:=bu d
    rw[Array.getD_eq_getD_getElem?] at this
    simp[ak,uc] at this ⊢
    exact this
  ·have:=bu t
   rw[Array.getD_eq_getD_getElem?] at this
   simp[h];exact this
theorem Rn {E:Env} {T:List AV} {a:Act} (bu: ∀t,V3 E (T.getD t .undef) (a.tmps.getD t undef)) {t:Nat} {b:Bool} (h:T.getD t .undef= .bool b):
  ∀s,V3 E ((T.set t (.bool b)).getD s .undef) (a.tmps.getD s undef):=fun s=>by
 rw[mj]
 by_cases hs:t=s∧t<T.length
 ·rw[if_pos hs,←h,hs.1];exact bu s
 ·rw[if_neg hs];exact bu s
theorem SC {ops:Array Oper} {a:Act} {T:List AV} {E:Env} (bu: ∀t,V3 E (T.getD t .undef) (a.tmps.getD t undef)) {j t:Nat} {b:Bool} (O:(ops[j]?).bind (·.dst)=some t) (h:T.getD t .undef= .bool b) (hs:T.length=a.tmps.size):
  yielded ops a.tmps j=some b:=by
 have hv:=bu t
 rw[h] at hv
 have he:a.tmps.getD t undef= .bool b:=V3.jD hv
 unfold yielded
 rw[O]
 rw[Array.getD_eq_getD_getElem?] at he
 cases al:a.tmps[t]? with
 | none=>rw[al] at he;cases he
 | some x=>rw[al] at he;have:x= .bool b:=he;subst this;simp[al]
theorem SD {ops:Array Oper} {a:Act} {T:List AV} {E:Env} (bu: ∀t,V3 E (T.getD t .undef) (a.tmps.getD t undef)) {j t:Nat} (O:(ops[j]?).bind (·.dst)=some t) (h:T.getD t .undef= .tup []):
  yielded ops a.tmps j=none:=by
 have hv:=bu t
 rw[h] at hv
 obtain⟨vs,he,ab⟩:=(show ∃vs:List Value,a.tmps.getD t undef= .tuple vs.toArray∧aw (V2 E) [] vs from hv)
 obtain rfl:=ab.jZ
 unfold yielded
 rw[O]
 rw[Array.getD_eq_getD_getElem?] at he
 cases al:a.tmps[t]? with
 | none=>simp[al]
 | some x=>rw[al] at he;have:x= .tuple #[]:=he;subst this;simp[al]
theorem Ln {P:Program} {ops:Array Oper} {lit:Bool} {o:Oper} {a:Act} {T:List AV} {E:Env} {w:World} {x y:List AV→Prop} {R:Prop}
  (bu: ∀t,V3 E (T.getD t .undef) (a.tmps.getD t undef)) (hs:T.length=a.tmps.size) (h:jN ops lit o T x y)
  (nE: ∀T',Region.wanted o (yielded ops a.tmps)=true→(∀t,V3 E (T'.getD t .undef) (a.tmps.getD t undef))→T'.length=a.tmps.size→x T'→R)
  (no: ∀T',Region.wanted o (yielded ops a.tmps)=false→(∀t,V3 E (T'.getD t .undef) (a.tmps.getD t undef))→T'.length=a.tmps.size→y T'→R):R:=by
 unfold jN at h
 cases aJ:o.guard with
 | none=>rw[aJ] at h;exact nE T (by simp[Region.wanted,aJ]) bu hs h
 | some g=>
  obtain⟨j,e6⟩:=g
  rw[aJ] at h
  simp only at h
  cases O:(ops[j]?).bind (·.dst) with
  | none=>rw[O] at h;exact h.elim
  | some t=>
   rw[O] at h
   simp only at h
   split at h
   ·rename_i b hb
    have ax:=SC (ops:=ops) bu O hb hs
    have hk:=Rn bu hb
    obtain⟨h1,h2⟩:=td h
    cases b with
    | true=>
     have h:=h1 rfl
     cases e6 with
     | true=>exact nE _ (by simp[Region.wanted,aJ,ax]) hk (by simpa using hs) h
     | false=>exact no _ (by simp[Region.wanted,aJ,ax]) hk (by simpa using hs) h
    | false=>
     have h:=h2 rfl
     cases e6 with
     | true=>exact no _ (by simp[Region.wanted,aJ,ax]) hk (by simpa using hs) h
     | false=>exact nE _ (by simp[Region.wanted,aJ,ax]) hk (by simpa using hs) h
   ·rename_i hb
    have ax:=SD (ops:=ops) bu O hb
    exact no T (by simp[Region.wanted,aJ,ax]) bu hs h
   ·exact h.elim
theorem tD [bF] {P:Program} {esc:List Nat} {ops:Array Oper} {Q:Exit→St→Prop} {bx:Env}: ∀(l:List (Oper×Bool)) (T:List AV) (L:List (Nat×List AV)) (H:List Blk) (E:Env) (a:Act),
  Good bx E→nO E ⟨T,L,H⟩ a.tmps→a.defers=[]→evOps P esc ops l T L H (fun T L H=>Q .normal ⟨T,L,H⟩)→wpList P ops (jn bx Q) (l.map (·.1)) a E.w
 | [],T,L,H,E,a,aJ,hs,aL,h=>⟨rfl,⟨T,L,H⟩,E,h,rfl,aJ,hs,aL⟩
 | (o,lit)::rest,T,L,H,E,a,aJ,hs,aL,h=>by
  have bu: ∀t,V3 E (T.getD t .undef) (a.tmps.getD t undef):=hs.fy
  show if Region.wanted o (yielded ops a.tmps) then o.wp P a E.w (wpList P ops (jn bx Q) (rest.map (·.1))) (jn bx Q)∨_ else wpList P ops (jn bx Q) (rest.map (·.1)) (a.put o.dst undef) E.w
  refine Ln (P:=P) (w:=E.w) bu hs.size h (fun T' hw hT' kl h'=> ?_) (fun T' hw hT' kl h'=> ?_)
  ·rw[if_pos hw]
   refine .inl ?_
   have next: ∀(v:AV) (u:Value) (L':List (Nat×List AV)) (H':List Blk) (E':Env),Step E E'→SimH E' H'→SimL E' L'→V3 E' v u→evOps P esc ops rest (putA T' o.dst v) L' H' (fun T L H=>Q .normal ⟨T,L,H⟩)→
     wpList P ops (jn bx Q) (rest.map (·.1)) (a.put o.dst u) E'.w:=fun v u L' H' E' q1 q2 q3 q4 hK=>by
    obtain⟨cL,dd⟩:=G3 (fun t=>(hT' t).le q1.le) kl (dst:=o.dst) q4
    refine tD rest _ _ _ E' (a.put o.dst u) (aJ.step q1) ⟨q2,q3,cL,dd⟩ ?_ hK
    cases o.dst<;>exact aL
   have aE:(gL P esc o (bt T') L H fun v L' H'=>evOps P esc ops rest (putA T' o.dst v) L' H' (fun T L H=>Q .normal ⟨T,L,H⟩))→o.wp P a E.w (wpList P ops (jn bx Q) (rest.map (·.1))) (jn bx Q):=fun h'=>
    Oper.wp_mono (fun fw w' ⟨v,u,L',H',E',hK,mA,q1,q2,q3,q4,ai,_⟩=>by
     subst ai;subst mA
     exact next v u L' H' E' q1 q2 q3 q4 hK) (evOp_sound hT' hs.h hs.l h')
   unfold oJ at h'
   split at h'
   ·rename_i c x y dG
    obtain⟨b,hb,aX⟩:=s5 h'
    obtain⟨h1,h2⟩:=td aX
    have hv:=opv_rel hT' c
    rw[hb] at hv
    have he:a.eval c= .bool b:=V3.jD hv
    unfold Oper.wp
    have hx: ∀z,(z=if b=true then a.eval x else a.eval y)→(execOp a.eval o).run P E.w= .ok (.value z) E.w:=fun z an=>by
     subst an
     simp only[execOp,dG,he,asBool,Sem.run_bind,Sem.run_pure,Result.andThen_ok]
    cases b with
    | true=>rw[hx (a.eval x) rfl];exact next _ _ L H E (Step.refl E) hs.h hs.l (opv_rel hT' x) (h1 rfl)
    | false=>rw[hx (a.eval y) rfl];exact next _ _ L H E (Step.refl E) hs.h hs.l (opv_rel hT' y) (h2 rfl)
   ·exact aE h'
  ·rw[hw]
   show wpList P ops (jn bx Q) (rest.map (·.1)) (a.put o.dst undef) E.w
   obtain⟨cL,dd⟩:=G3 (a:=a) hT' kl (dst:=o.dst) (v:= .tup []) (u:=undef) ⟨[],rfl,aw.nil⟩
   refine tD rest (putA T' o.dst (.tup [])) L H E (a.put o.dst undef) aJ ⟨hs.h,hs.l,cL,dd⟩ ?_ h'
   cases o.dst<;>exact aL
def lits (ops:Array Oper) (p5:List Nat):List (Oper×Bool):=ops.toList.zipIdx.map fun p=>(p.1,p5.contains p.2)
theorem PD (ops:Array Oper) (p5:List Nat):(lits ops p5).map (·.1)=ops.toList:=by
 unfold lits
 rw[List.map_map]
 apply List.ext_getElem?
 intro i
 simp only[List.getElem?_map,List.getElem?_zipIdx]
 cases ops.toList[i]?<;>rfl
theorem WpS.region [bF] {P:Program} {esc:List Nat} {p5:List Nat} {id:Nat} {ops:Array Oper} {Q:Exit→St→Prop} {ac:St} (h:evOps P esc ops (lits ops p5) ac.T ac.L ac.H (fun T L H=>Q .normal ⟨T,L,H⟩)):WpS P (.region id ops false) Q ac:=fun bx E a g s d=>by
 refine wp_region_list ?_
 have:=tD (lits ops p5) ac.T ac.L ac.H E a g s d h
 rwa [PD] at this
def oA (bQ:List Nat):AV→Bool
 | .dn t _=> !bQ.contains t
 | _=>true
def nj (bQ:List Nat):AV→Bool
 | .fn _ caps=>caps.all (oA bQ)
 | a=>oA bQ a
def nk (bQ:List Nat):AV→Bool
 | .agg l=>l.all (nj bQ)
 | a=>nj bQ a
def ks (bQ:List Nat):AV→Bool
 | .tup l=>l.all (nk bQ)
 | a=>nk bQ a
def Env.drop (E:Env) (bQ:List Nat):Env:={E with mL:=fun t=>if bQ.contains t=true then none else E.mL t}
section
variable {E:Env} {bQ:List Nat}
theorem cY.drop {a:AV} {v:Value} (h:oA bQ a=true) (hv:cY E a v):cY (E.drop bQ) a v:=by
 cases a with
 | dn t c=>
  obtain⟨bl,hm,e⟩:=hv
  have:bQ.contains t=false:=by simpa[oA] using h
  exact⟨bl,by show(if bQ.contains t=true then none else E.mL t)=_;rw[if_neg (by rw[this];simp)];exact hm,e⟩
 | _=>exact hv
theorem be.drop {a:AV} {v:Value} (h:nj bQ a=true) (hv:be E a v):be (E.drop bQ) a v:=by
 by_cases hf: ∃f caps,a= .fn f caps
 ·obtain⟨f,caps,rfl⟩:=hf
  obtain⟨vs,e,ab⟩:=hv
  exact⟨vs,e,ab.1,fun i x y hx ax=>(ab.2 i x y hx ax).drop (List.all_eq_true.1 (show caps.all (oA bQ)=true from h) x (List.mem_of_getElem? hx))⟩
 ·have aA:nj bQ a=oA bQ a:=by cases a<;>first | rfl | exact absurd ⟨_,_,rfl⟩ hf
  rw[ln fun f c e=>hf ⟨f,c,e⟩] at hv ⊢
  exact hv.drop (aA▸h)
theorem V2.drop {a:AV} {v:Value} (h:nk bQ a=true) (hv:V2 E a v):V2 (E.drop bQ) a v:=by
 by_cases hf: ∃l,a= .agg l
 ·obtain⟨l,rfl⟩:=hf
  obtain⟨vs,e,ab⟩:=hv
  exact⟨vs,e,ab.1,fun i x y hx ax=>(ab.2 i x y hx ax).drop (List.all_eq_true.1 (show l.all (nj bQ)=true from h) x (List.mem_of_getElem? hx))⟩
 ·have aA:nk bQ a=nj bQ a:=by cases a<;>first | rfl | exact absurd ⟨_,rfl⟩ hf
  rw[ka fun l e=>hf ⟨l,e⟩] at hv ⊢
  exact hv.drop (aA▸h)
theorem V3.drop {a:AV} {v:Value} (h:ks bQ a=true) (hv:V3 E a v):V3 (E.drop bQ) a v:=by
 by_cases hf: ∃l,a= .tup l
 ·obtain⟨l,rfl⟩:=hf
  obtain⟨vs,e,ab⟩:=hv
  exact⟨vs,e,ab.1,fun i x y hx ax=>(ab.2 i x y hx ax).drop (List.all_eq_true.1 (show l.all (nk bQ)=true from h) x (List.mem_of_getElem? hx))⟩
 ·have aA:ks bQ a=nk bQ a:=by cases a<;>first | rfl | exact absurd ⟨_,rfl⟩ hf
  rw[kb fun l e=>hf ⟨l,e⟩] at hv ⊢
  exact hv.drop (aA▸h)
end
def jH (bQ:List Nat) (L:List (Nat×List AV)):List (Nat×List AV):=match L with
 | []=>[]
 | (k,c)::L=>match bQ.contains k with
  | true=>jH bQ L
  | false=>(k,c)::jH bQ L
theorem tu {bQ:List Nat}: ∀(L:List (Nat×List AV)) (t:Nat),bQ.contains t=false→cG (jH bQ L) t=cG L t
 | [],t,h=>rfl
 | (k,c)::L,t,h=>by
  unfold jH
  split
  ·rename_i hk
   have:t≠k:=fun e=>by subst e;rw[h] at hk;cases hk
   rw[tu L t h];simp[cG,this]
  ·simp only[cG];rw[tu L t h]
theorem Weak.jH [bF] (bQ:List Nat) {T:List AV} {L:List (Nat×List AV)} {H:List Blk} (h:T.all (ks bQ)=true):Weak ⟨T,L,H⟩ ⟨T,jH bQ L,H⟩:=fun bx E tmps g s=>by
 have hm: ∀t c,(E.drop bQ).mL t=some c→bQ.contains t=false∧E.mL t=some c:=by
  intro t c hc
  have hc:(if bQ.contains t=true then none else E.mL t)=some c:=hc
  split at hc
  ·cases hc
  ·rename_i q;exact⟨by simpa using q,hc⟩
 have hi: ∀c,(E.drop bQ).hn c→E.hn c:=fun c ⟨t,aC⟩=>⟨t,(hm t c aC).2⟩
 have e3:SimH E H:=s.h
 refine⟨E.drop bQ,rfl,?_,?_,?_,fun t=> ?_,s.size⟩
 ·exact{g with
   le:={g.le with mL:=fun t c hc=>by rw[g.aW t] at hc;cases hc}
   gj:=fun c hc=>g.gj c (hi c hc)}
 ·exact{e3 with
   heap:=e3.heap
   gk:=fun t fZ c h1 h2=>e3.gk t fZ c (hm t c h1).2 (hm fZ c h2).2
   ey:=fun b t c h1 h2=>e3.ey b t c h1 (hm t c h2).2
   fx:=fun c hc hx=>e3.fx c hc (hi c hx)
   et:=fun c hx=>e3.et c (hi c hx)}
 ·intro t c hc
  obtain⟨h1,h2⟩:=hm t c hc
  obtain⟨cells,ad,ty,q1,q2,q3⟩:=s.l t c h2
  exact⟨cells,ad,ty,by show cG (Fw.jH bQ L) t=_;rw[tu L t h1];exact q1,q2,q3⟩
 ·show V3 (E.drop bQ) (T.getD t .undef) _
  refine(s.fy t).drop ?_
  show ks bQ (T.getD t .undef)=true
  rw[List.getD_eq_getElem?_getD]
  cases al:T[t]? with
  | none=>rfl
  | some a=>exact List.all_eq_true.1 h a (List.mem_of_getElem? al)
def mC:AV→Bool
 | .av [] true _=>true
 | _=>false
theorem J9 {E:Env} {a:AV} {v:Value} (h:mC a=true) (hv:cY E a v): ∃A,v= .slice A 0 0:=by
 have key: ∀rows full fr,a= .av rows full fr→rows=[]→full=true→ ∃A,v= .slice A 0 0:=by
  intro rows full fr e aa hf
  subst e
  have hv:ar E.w E.PA E.PF (.av rows full fr) v:=hv
  cases hv with
  | @av _ _ PB _ _ _ A cap sz vs dc c2 dS bz cA hrel=>
   refine⟨A,?_⟩
   rw[dS hf,aa];rfl
 unfold mC at h
 split at h
 ·exact key _ _ _ rfl rfl rfl
 ·cases h
theorem xo {E E':Env} {a:AV} {v:Value} {b:Nat} (h:mC a=true) (hv:be E a v) (aJ:E'.aE b=0) (hm:E'.m b=some none):be E' (.ref b 0 0 0 false) v:=by
 have iZ:cY E a v:=by
  rwa [ln] at hv
  rintro f c rfl;cases h
 obtain⟨A,rfl⟩:=J9 h iZ
 exact .inr ⟨aJ.symm,.inl ⟨hm,rfl,rfl,A,rfl⟩⟩
theorem Weak.Ix [bF] (i sz:Nat) {T:List AV} {L:List (Nat×List AV)} {H:List Blk} (h:mC (T.getD i .undef)=true):Weak ⟨T,L,H⟩ ⟨T.set i (.ref H.length 0 0 0 false),L,H++[⟨0,sz,[]⟩]⟩:=fun bx E tmps g s=>by
 obtain⟨E',hw,aM,h1,h2,ao,a8,_⟩:=uQ (blk:=⟨0,sz,[]⟩) s.h s.l rfl rfl
 refine⟨E',hw,g.step aM,h1,h2,fun t=> ?_,by simpa using s.size⟩
 show V3 E' ((T.set i _).getD t .undef) _
 rw[mj]
 split
 ·rename_i al
  obtain⟨rfl,_⟩:=al
  have hv:=s.fy i
  have hE:be E (T.getD i .undef) (tmps.getD i undef):=by
   have hv:V3 E (T.getD i .undef) (tmps.getD i undef):=hv
   rw[kb,ka] at hv
   ·exact hv
   ·intro l e;rw[e] at h;cases h
   ·intro l e;rw[e] at h;cases h
  exact lq (h_ (xo h hE ao a8))
 ·exact(s.fy t).le aM.le
theorem Weak.qZ [bF] (t i sz:Nat) {T:List AV} {L:List (Nat×List AV)} {H:List Blk} {cells:List AV} (hc:cG L t=some cells) (h:mC (cells.getD i .undef)=true):
  Weak ⟨T,L,H⟩ ⟨T,hL L t (cells.set i (.ref H.length 0 0 0 false)),H++[⟨0,sz,[]⟩]⟩:=fun bx E tmps g s=>by
 obtain⟨E',hw,aM,h1,h2,ao,a8,cw,cZ⟩:=uQ (blk:=⟨0,sz,[]⟩) s.h s.l rfl rfl
 refine⟨E',hw,g.step aM,h1,?_,fun t=>(s.fy t).le aM.le,s.size⟩
 intro u c hm
 obtain⟨eE,ad,ty,q1,q2,q3⟩:=h2 u c hm
 show ∃wS ad ty,cG (hL L t _) u=some wS∧_
 rw[ri]
 by_cases hu:u=t
 ·subst hu
  rw[if_pos rfl]
  have sg:cG L u=some eE:=q1
  rw[hc] at sg
  cases sg
  refine⟨_,ad,ty,by rw[hc];rfl,q2,by simpa using q3.1,fun j x v hx hv=> ?_⟩
  rw[List.getElem?_set] at hx
  split at hx
  ·rename_i iD
   subst iD
   split at hx
   ·rename_i ay
    cases hx
    have aJ:=List.getElem?_eq_getElem ay
    have:cells.getD i .undef=cells[i]:=by rw[List.getD_eq_getElem?_getD,aJ];rfl
    have hE:=q3.2 i _ v aJ hv
    rw[this] at h
    exact xo (E:=E'.aW) h hE ao a8
   ·cases hx
  ·exact q3.2 j x v hx hv
 ·rw[if_neg hu]
  exact⟨eE,ad,ty,q1,q2,q3⟩
structure cm where
 bE:Int
 bZ:Int
 deriving Inhabited,DecidableEq
structure Way where
 ae:List Int
 bA:List cm
 ca:List cm
 b8:List Int
 ct:List Int
 deriving Inhabited,DecidableEq
structure aS where
 ae:Int
 aR:List Int
 U:List Way
 a_:List (List Bool)
 dw:Int
 deriving Inhabited,DecidableEq
structure Event where
 op:Int
 HI:Int
 bZ:Int
 deriving Inhabited,DecidableEq
structure b4 where
 e6:Int
 bA:Int
 deriving Inhabited,DecidableEq
structure aI where
 dW:Int
 cT:Int
 aF:List Bool
 dV:Bool
 dX:Int
 deriving Inhabited,DecidableEq
structure Frame where
 ok:Bool
 bM:List Bool
 bP:List b4
 U:List aI
 deriving Inhabited,DecidableEq
structure sC where
 code:Int
 frame:Frame
 deriving Inhabited,DecidableEq
structure fP where
 code:Int
 pos:Int
 deriving Inhabited,DecidableEq
structure wl where
 U:List Int
 ae:List Int
 bP:List Int
 deriving Inhabited,DecidableEq
structure sB where
 code:List UInt8
 pos:Int
 GW:Int
 deriving Inhabited
def c1 (n:Int):List AV:=[.int .i64 n]
def tw (n:UInt8):List AV:=[.int .u8 n.toNat]
def bm (b:Bool):List AV:=[.bool b]
def xm (s:ByteArray):List AV:=[.str s]
def eV {α:Type} (e:α→List AV) (fr:Bool) (xs:List α):List AV:=[.av (xs.map e) false fr]
def cK (x:cm):List AV:=[.int .i64 x.bE,.int .i64 x.bZ]
def cE (fr:Bool) (x:Way):List AV:=[.av (x.ae.map c1) false fr,.av (x.bA.map cK) false fr,.av (x.ca.map cK) false fr,.av (x.b8.map c1) false fr,.av (x.ct.map c1) false fr]
def bT (fr:Bool) (x:aS):List AV:=[.int .i64 x.ae,.av (x.aR.map c1) false fr,.av (x.U.map (cE false)) false fr,.av (x.a_.map (eV bm false)) false fr,.int .i64 x.dw]
def xj (x:Event):List AV:=[.int .i64 x.op,.int .i64 x.HI,.int .i64 x.bZ]
def cb (x:b4):List AV:=[.int .i64 x.e6,.int .i64 x.bA]
def ii (fr:Bool) (x:aI):List AV:=[.int .i64 x.dW,.int .i64 x.cT,.av (x.aF.map bm) false fr,.bool x.dV,.int .i64 x.dX]
def hT (fr:Bool) (x:Frame):List AV:=[.bool x.ok,.av (x.bM.map bm) false fr,.av (x.bP.map cb) false fr,.av (x.U.map (ii false)) false fr]
def xi (fr:Bool) (x:sC):List AV:=[.int .i64 x.code,.bool x.frame.ok,.av (x.frame.bM.map bm) false fr,.av (x.frame.bP.map cb) false fr,.av (x.frame.U.map (ii false)) false fr]
def xk (x:fP):List AV:=[.int .i64 x.code,.int .i64 x.pos]
def J3 (fr:Bool) (x:sB):List AV:=[.av (x.code.map tw) false fr,.int .i64 x.pos,.int .u64 x.GW]
def J6 (fr:Bool) (x:wl):List AV:=[.av (x.U.map c1) false fr,.av (x.ae.map c1) false fr,.av (x.bP.map c1) false fr]
def nth {α:Type} [Inhabited α] (xs:List α) (i:Int):α:=xs.getD i.toNat default
theorem hG {α:Type} [Inhabited α] {xs:List α} {i:Int} (h:i.toNat<xs.length):xs[i.toNat]?=some (nth xs i):=by
 unfold nth
 rw[List.getD_eq_getElem?_getD,List.getElem?_eq_getElem h];rfl
def nr:Code→List Nat→Code
 | c,[]=>c
 | .seq x y,n::p=>match n with
  | 0=>nr x p
  | _=>nr y p
 | .cond _ x y,n::p=>match n with
  | 0=>nr x p
  | _=>nr y p
 | .block _ x,_::p=>nr x p
 | .loop x,_::p=>nr x p
 | .scope x,_::p=>nr x p
 | c,_=>c
def lB (f:Func):Code:=f.body.getD .skip
section
variable {P:Program} {esc:List Nat} {ops:Array Oper} {l dy:List (Oper×Bool)} {T T':List AV} {L L':List (Nat×List AV)} {H H':List Blk} {K:List AV→List (Nat×List AV)→List Blk→Prop}
end
theorem WpS.seq' [bF] {P:Program} {c x y:Code} {Q:Exit→St→Prop} {ac:St} (e:c= .seq x y) (h:WpS P x (hQ P y Q) ac):WpS P c Q ac:=e▸WpS.seq h
theorem WpS.JB [bF] {P:Program} {c x y:Code} {o:Operand} {Q:Exit→St→Prop} {ac:St} {b:Bool} (e:c= .cond o x y) (hb:bt ac.T o= .bool b) (h1:b=true→WpS P x Q ac) (h2:b=false→WpS P y Q ac):WpS P c Q ac:=
 e▸WpS.cond (by rw[hb];exact⟨h1,h2⟩)
theorem WpS.IY [bF] {P:Program} {c x:Code} {id:Nat} {Q:Exit→St→Prop} {ac:St} (e:c= .block id x) (h:WpS P x (hy id Q) ac):WpS P c Q ac:=e▸WpS.block h
theorem WpS.Rc [bF] {P:Program} {c:Code} {Q:Exit→St→Prop} {ac:St} (e:c= .skip) (h:Q .normal ac):WpS P c Q ac:=e▸WpS.skip h
theorem WpS.QW [bF] {P:Program} {c:Code} {Q:Exit→St→Prop} {ac:St} (e:c= .ret) (h:Q .ret ac):WpS P c Q ac:=e▸WpS.ret h
theorem WpS.Kl [bF] {P:Program} {c:Code} {id:Nat} {Q:Exit→St→Prop} {ac:St} (e:c= .exit id) (h:Q (.exit id) ac):WpS P c Q ac:=e▸WpS.exit h
theorem WpS.PK [bF] {P:Program} {c x:Code} {Q:Exit→St→Prop} {ac:St} {V:Type} (S:V→St) (I:V→Prop) (m:V→Nat) (e:c= .loop x) (v0:V) (hs:Weak ac (S v0)) (aA:I v0)
  (round: ∀v,I v→WpS P x (fun ex s=>match ex with
   | .normal=> ∃cM,I cM∧m cM<m v∧Weak s (S cM)
   | ex=>Q ex s) (S v)):WpS P c Q ac:=by
 subst e
 refine WpS.l2 (WpS.loop (fun n s=> ∃v,I v∧s=S v∧n=m v) (m v0) ⟨v0,aA,rfl,rfl⟩ ?_) hs
 rintro n s ⟨v,hv,rfl,rfl⟩
 refine WpS.mono (round v hv) fun ex s al=> ?_
 cases ex with
 | normal=>
  obtain⟨cM,h1,h2,ao⟩:=al
  exact⟨m cM,S cM,h2,ao,cM,h1,rfl,rfl⟩
 | _=>exact al
theorem hQ.normal [bF] {P:Program} {y:Code} {Q:Exit→St→Prop} {s:St} (h:WpS P y Q s):hQ P y Q .normal s:=h
theorem hQ.ret [bF] {P:Program} {y:Code} {Q:Exit→St→Prop} {s:St} (h:Q .ret s):hQ P y Q .ret s:=h
theorem hQ.exit [bF] {P:Program} {y:Code} {Q:Exit→St→Prop} {s:St} {id:Nat} (h:Q (.exit id) s):hQ P y Q (.exit id) s:=h
theorem hy.normal {id:Nat} {Q:Exit→St→Prop} {s:St} (h:Q .normal s):hy id Q .normal s:=h
theorem hy.ret {id:Nat} {Q:Exit→St→Prop} {s:St} (h:Q .ret s):hy id Q .ret s:=h
theorem hy.here {id:Nat} {Q:Exit→St→Prop} {s:St} (h:Q .normal s):hy id Q (.exit id) s:=by
 show(if id=id then _ else _);rw[if_pos rfl];exact h
theorem hy.there {id ed:Nat} {Q:Exit→St→Prop} {s:St} (bV:ed≠id) (h:Q (.exit ed) s):hy id Q (.exit ed) s:=by
 show(if ed=id then _ else _);rw[if_neg bV];exact h
theorem fB.uV {L:List (Nat×List AV)} {H:List Blk} {a b:AV} (h:dQ L H a b):fB L H a b:= .inr h
theorem fB.agg {L:List (Nat×List AV)} {H:List Blk} {l dy:List AV} (h:aw (dQ L H) l dy):fB L H (.agg l) (.agg dy):= .inl ⟨l,dy,rfl,rfl,h⟩
theorem iy.uV {H:List Blk} {a b:AV} (h:en H a b):iy H a b:= .inr (.inr h)
theorem iy.agg {H:List Blk} {l dy:List AV} (h:aw (en H) l dy):iy H (.agg l) (.agg dy):= .inr (.inl ⟨l,dy,rfl,rfl,h⟩)
theorem WpS.start [bF] {P:Program} {c:Code} {Q:Exit→St→Prop} {ac hM:St} (e:ac=hM) (h:WpS P c Q hM):WpS P c Q ac:=e▸h
def fs [bF] (S:St) (ψ:Prop) (Q:Exit→St→Prop) (ex:Exit) (s:St):Prop:=match ex with
 | .normal=>ψ∧Weak s S
 | ex=>Q ex s
theorem WpS.sm [bF] {P:Program} {c x y:Code} {Q:Exit→St→Prop} {ac:St} (S:St) {ψ:Prop} (e:c= .seq x y) (h:WpS P x (fs S ψ Q) ac) (al:ψ→WpS P y Q S):WpS P c Q ac:=by
 subst e
 refine WpS.seq (WpS.mono h fun ex s hs=> ?_)
 cases ex with
 | normal=>exact WpS.l2 (al hs.1) hs.2
 | _=>exact hs
theorem fs.normal [bF] {S s:St} {ψ:Prop} {Q:Exit→St→Prop} (ab:ψ) (h:Weak s S):fs S ψ Q .normal s:=⟨ab,h⟩
theorem fs.ret [bF] {S s:St} {ψ:Prop} {Q:Exit→St→Prop} (h:Q .ret s):fs S ψ Q .ret s:=h
theorem fs.exit [bF] {S s:St} {ψ:Prop} {Q:Exit→St→Prop} {id:Nat} (h:Q (.exit id) s):fs S ψ Q (.exit id) s:=h
def ix [bF] {V:Type} (S:V→St) (I:V→Prop) (m:V→Nat) (v:V) (Q:Exit→St→Prop) (ex:Exit) (s:St):Prop:=match ex with
 | .normal=> ∃cM,I cM∧m cM<m v∧Weak s (S cM)
 | ex=>Q ex s
theorem WpS.Fj [bF] {P:Program} {c x:Code} {Q:Exit→St→Prop} {ac:St} {V:Type} (S:V→St) (I:V→Prop) (m:V→Nat) (e:c= .loop x) (v0:V) (hs:Weak ac (S v0)) (aA:I v0)
  (round: ∀v,I v→WpS P x (ix S I m v Q) (S v)):WpS P c Q ac:=
 WpS.PK S I m e v0 hs aA fun v hv=>WpS.mono (round v hv) fun ex s h=>by
  cases ex<;>exact h
theorem ix.again [bF] {V:Type} {S:V→St} {I:V→Prop} {m:V→Nat} {v:V} {Q:Exit→St→Prop} {s:St} (cM:V) (h:I cM∧m cM<m v) (hw:Weak s (S cM)):ix S I m v Q .normal s:=⟨cM,h.1,h.2,hw⟩
theorem ix.ret [bF] {V:Type} {S:V→St} {I:V→Prop} {m:V→Nat} {v:V} {Q:Exit→St→Prop} {s:St} (h:Q .ret s):ix S I m v Q .ret s:=h
theorem ix.exit [bF] {V:Type} {S:V→St} {I:V→Prop} {m:V→Nat} {v:V} {Q:Exit→St→Prop} {s:St} {id:Nat} (h:Q (.exit id) s):ix S I m v Q (.exit id) s:=h
@[irreducible] def bg (c:Code) (n:Nat):Code:=nr c ((List.range (Nat.log2 n)).map fun i=>(n>>>i)%2).reverse
def hI (c:Code) (n:Nat):Array Oper:=match bg c n with
 | .region _ ops _=>ops
 | _=> #[]
theorem qC [bF] {s s' s'':St} (h:Weak s s') (e:s'=s''):Weak s s'':=e▸h
def hr (H:List Blk) (c d:List AV):Prop:=c.length=d.length∧ ∀(j:Nat) (a b:AV),c[j]?=some a→d[j]?=some b→en H a a∧b=fO a
theorem Ro {H:List Blk} {α:Type} {eT eF:α→List AV} {b:Nat} {g sz:Nat} {full:Bool} {xs:List α} (hb:H[b]?=some ⟨g,sz,List.map eT xs⟩) (af:xs.length≤4611686018427387904) (hc: ∀x,hr H (eT x) (eF x)):
  en H (.ref b g 0 xs.length full) (.av (List.map eF xs) false true):=by
 refine en.ref (fun h=>by cases h) (fun i j=>((xs[i]?).bind fun x=>(eT x)[j]?).getD .undef) hb rfl (by rw[List.length_map]) af (by simp) (fun i row row' h1 h2=> ?_) (fun i j row a hi h1 h2=> ?_) (fun i j row' c h1 h2=> ?_)
 ·have h1:(List.map eT xs)[0+i]?=some row:=h1
  rw[Nat.zero_add,List.getElem?_map] at h1
  rw[List.getElem?_map] at h2
  cases hx:xs[i]? with
  | none=>rw[hx] at h1;cases h1
  | some x=>rw[hx] at h1 h2;cases h1;cases h2;exact(hc x).1
 ·have h1:(List.map eT xs)[0+i]?=some row:=h1
  rw[Nat.zero_add,List.getElem?_map] at h1
  cases hx:xs[i]? with
  | none=>rw[hx] at h1;cases h1
  | some x=>
   rw[hx] at h1;cases h1
   show en H a (((some x).bind fun x=>(eT x)[j]?).getD .undef)
   have O:(eT x)[j]?=some a:=h2
   have he:((some x).bind fun x=>(eT x)[j]?).getD .undef=a:=by
    show((eT x)[j]?).getD .undef=a
    rw[O];rfl
   rw[he]
   have ay:j<(eF x).length:=by rw[←(hc x).1];exact(List.getElem?_eq_some_iff.1 O).1
   exact((hc x).2 j a _ O (List.getElem?_eq_getElem ay)).1
 ·rw[List.getElem?_map] at h1
  cases hx:xs[i]? with
  | none=>rw[hx] at h1;cases h1
  | some x=>
   rw[hx] at h1;cases h1
   show c=fO (((some x).bind fun x=>(eT x)[j]?).getD .undef)
   have ay:j<(eT x).length:=by rw[(hc x).1];exact(List.getElem?_eq_some_iff.1 h2).1
   have O:=List.getElem?_eq_getElem ay
   have he:((some x).bind fun x=>(eT x)[j]?).getD .undef=(eT x)[j]:=by
    show((eT x)[j]?).getD .undef=_
    rw[O];rfl
   rw[he]
   exact((hc x).2 j _ c O h2).2
theorem hr.nil {H:List Blk}:hr H [] []:=⟨rfl,fun j a b h=>by simp at h⟩
theorem hr.cons {H:List Blk} {a b:AV} {c d:List AV} (h1:en H a a) (h2:b=fO a) (h:hr H c d):hr H (a::c) (b::d):=
 ⟨by simp[h.1],fun j x y hx ax=>by
  cases j with
  | zero=>simp at hx ax;subst hx;subst ax;exact⟨h1,h2⟩
  | succ j=>exact h.2 j x y (by simpa using hx) (by simpa using ax)⟩
theorem I9 {H:List Blk} (n:Int):hr H (c1 n) (c1 n):= .cons (.int _ _) rfl .nil
theorem Ja {H:List Blk} (n:UInt8):hr H (tw n) (tw n):= .cons (.int _ _) rfl .nil
theorem tf {H:List Blk} (b:Bool):hr H (bm b) (bm b):= .cons (.bool _) rfl .nil
theorem I_ {H:List Blk} (b:ByteArray):hr H (xm b) (xm b):= .cons (.str _) rfl .nil
theorem g_ {H:List Blk} (rows:List (List AV)):en H (.av rows false true) (.av rows false true):= .av _ _ _ id
theorem BG {H:List Blk} (x:cm):hr H (cK x) (cK x):= .cons (.int _ _) rfl (.cons (.int _ _) rfl .nil)
theorem I7 {H:List Blk} (x:Event):hr H (xj x) (xj x):= .cons (.int _ _) rfl (.cons (.int _ _) rfl (.cons (.int _ _) rfl .nil))
theorem wL {H:List Blk} (x:b4):hr H (cb x) (cb x):= .cons (.int _ _) rfl (.cons (.int _ _) rfl .nil)
theorem Jb {H:List Blk} (x:Way):hr H (cE true x) (cE false x):= .cons (g_ _) rfl (.cons (g_ _) rfl (.cons (g_ _) rfl (.cons (g_ _) rfl (.cons (g_ _) rfl .nil))))
theorem I8 {H:List Blk} (x:aI):hr H (ii true x) (ii false x):= .cons (.int _ _) rfl (.cons (.int _ _) rfl (.cons (g_ _) rfl (.cons (.bool _) rfl (.cons (.int _ _) rfl .nil))))
theorem I6 {H:List Blk} (x:sC):hr H (xi true x) (xi false x):= .cons (.int _ _) rfl (.cons (.bool _) rfl (.cons (g_ _) rfl (.cons (g_ _) rfl (.cons (g_ _) rfl .nil))))
theorem Hu {H:List Blk} {α:Type} {eT eF:α→List AV} {b g sz:Nat} {full:Bool} {xs ys:List α} (hb:H[b]?=some ⟨g,sz,List.map eT xs⟩) (hc: ∀x,hr H (eT x) (eF x)) (h:xs.length≤4611686018427387904∧xs=ys):
  en H (.ref b g 0 xs.length full) (.av (List.map eF ys) false true):=h.2▸Ro hb h.1 hc
theorem vt {H:List Blk} {α:Type} {e:α→List AV} {ys:List α} {full fr:Bool} (h:[]=ys):en H (.av [] full fr) (.av (List.map e ys) false true):=h▸ .Fl _ _ _ (fun h=>by cases h)
theorem RR {H:List Blk} {α:Type} {e:α→List AV} {xs ys:List α} {full:Bool} (h:xs=ys):en H (.av (List.map e xs) full true) (.av (List.map e ys) false true):=h▸ .av _ _ _ (fun h=>by cases h)
theorem Hw {H:List Blk} {k:IntKind} {a b:Int} (h:a=b):en H (.int k a) (.int k b):=h▸ .int k a
theorem vr {H:List Blk} {a b:Bool} (h:a=b):en H (.bool a) (.bool b):=h▸ .bool a
theorem RS {H:List Blk} {a b:ByteArray} (h:a=b):en H (.str a) (.str b):=h▸ .str a
theorem j2 {L:List (Nat×List AV)} {H:List Blk} {rows:List (List AV)} {full fr:Bool}:dQ L H (.av rows full fr) (.av rows false false):= .av _ _ _ _ (fun h=>by cases h)
def kE (L:List (Nat×List AV)) (H:List Blk) (c d:List AV):Prop:=c.length=d.length∧ ∀(j:Nat) (a b:AV),c[j]?=some a→d[j]?=some b→dQ L H a b
theorem GV {L:List (Nat×List AV)} {H:List Blk} {α:Type} {eT eF:α→List AV} {b g sz:Nat} {full:Bool} {xs:List α} (hb:H[b]?=some ⟨g,sz,List.map eT xs⟩) (hc: ∀x,kE L H (eT x) (eF x)) (af:xs.length≤4611686018427387904):
  dQ L H (.ref b g 0 xs.length full) (.av (List.map eF xs) false false):=by
 refine dQ.ref (fun h=>by cases h) hb rfl (by rw[List.length_map]) af (by simp) (fun i row row' h1 h2=> ?_) (fun i j row row' a c h1 h2 ao a8=> ?_)
 ·have h1:(List.map eT xs)[0+i]?=some row:=h1
  rw[Nat.zero_add,List.getElem?_map] at h1
  rw[List.getElem?_map] at h2
  cases hx:xs[i]? with
  | none=>rw[hx] at h1;cases h1
  | some x=>rw[hx] at h1 h2;cases h1;cases h2;exact(hc x).1
 ·have h1:(List.map eT xs)[0+i]?=some row:=h1
  rw[Nat.zero_add,List.getElem?_map] at h1
  rw[List.getElem?_map] at h2
  cases hx:xs[i]? with
  | none=>rw[hx] at h1;cases h1
  | some x=>rw[hx] at h1 h2;cases h1;cases h2;exact(hc x).2 j a c ao a8
theorem kE.nil {L:List (Nat×List AV)} {H:List Blk}:kE L H [] []:=⟨rfl,fun j a b h=>by simp at h⟩
theorem kE.cons {L:List (Nat×List AV)} {H:List Blk} {a b:AV} {c d:List AV} (h1:dQ L H a b) (h:kE L H c d):kE L H (a::c) (b::d):=
 ⟨by simp[h.1],fun j x y hx ax=>by
  cases j with
  | zero=>simp at hx ax;subst hx;subst ax;exact h1
  | succ j=>exact h.2 j x y (by simpa using hx) (by simpa using ax)⟩
section
variable {L:List (Nat×List AV)} {H:List Blk}
theorem Nj (b:Bool):kE L H (bm b) (bm b):= .cons (.bool _) .nil
end
def cC {α:Type} (F:(α→Prop)→Prop):Prop:= ∀K,F K→ ∃r,K r∧F (fun x=>x=r)
theorem cC.ret {α:Type} (r:α):cC fun K=>K r:=fun K h=>⟨r,h,rfl⟩
theorem cC.no {α:Type}:cC (α:=α) fun _=>False:=fun K h=>h.elim
theorem cC.and {α:Type} {φ:Prop} {F:(α→Prop)→Prop} (h:cC F):cC fun K=>φ∧F K:=fun K ⟨ab,hf⟩=>by
 obtain⟨r,h1,h2⟩:=h K hf
 exact⟨r,h1,ab,h2⟩
theorem cC.IB {α:Type} {φ:Prop} {F:(α→Prop)→Prop} (h:φ→cC F):cC fun K=>φ∧F K:=fun K ⟨ab,hf⟩=>by
 obtain⟨r,h1,h2⟩:=h ab K hf
 exact⟨r,h1,ab,h2⟩
theorem cC.bind {α β:Type} {o:Option β} {F:β→(α→Prop)→Prop} (h: ∀b,cC (F b)):cC fun K=>ci o fun b=>F b K:=fun K hf=>by
 cases o with
 | none=>exact hf.elim
 | some b=>exact h b K hf
theorem cC.ite {α:Type} {c:Prop} [Decidable c] {F G:(α→Prop)→Prop} (h:cC F) (k:cC G):cC fun K=>if c then F K else G K:=by
 intro K hf
 by_cases hc:c
 ·rw[if_pos hc] at hf
  obtain⟨r,h1,h2⟩:=h K hf
  exact⟨r,h1,by show if c then _ else _;rw[if_pos hc];exact h2⟩
 ·rw[if_neg hc] at hf
  obtain⟨r,h1,h2⟩:=k K hf
  exact⟨r,h1,by show if c then _ else _;rw[if_neg hc];exact h2⟩
theorem cC.cQ {α:Type} {b:Bool} {F:(α→Prop)→Prop} (h:cC F):cC fun K=>cQ b (F K):=by
 cases b with
 | true=>exact h
 | false=>exact cC.no
theorem Ay {P:Program} {t:TypeId} {cells:List AV} {c:Nat}:cC (jv P t cells c):=by
 unfold jv
 exact .ite (.ite (.ite (.ret _) .no) (.bind fun _=> .ret _)) .no
theorem Ph {P:Program} {t:TypeId} {x:AV} {L:List (Nat×List AV)} {H:List Blk}:cC (kq P t x L H):=by
 cases x with
 | dn s c=>exact .bind fun _=>Ay
 | ptr b g r c=>exact .bind fun _=> .and (.bind fun _=>Ay)
 | cv cells c=>exact Ay
 | _=>exact .no
theorem P5 {x:AV}:cC (zm x):=by
 cases x<;>first | exact .no | exact .ret _
theorem IP {op:BinOp} {k:IntKind} {a b:Int}:cC (s_ op k a b):=by
 cases op<;>first | exact .no | exact .ret _ | exact .and (.ret _)
theorem IN {op:BinOp} {k gl:IntKind} {a b:Int}:cC (ta op k a gl b):=by
 cases op<;>first | exact .and (.ret _) | exact .ite IP .no
def q6 (x:AV):Bool:=match x with
 | .av _ _ _=>false
 | _=>true
theorem IQ {P:Program} {op:BinOp} {t:TypeId} {x y:AV} {mR:Bool} (hx:q6 x=true):cC (mV P op t x y mR):=by
 cases x with
 | int k a=>cases y<;>first | exact .no | exact IN
 | bool a=>
  cases y with
  | bool b=>exact .ite (by cases op<;>first | exact .no | exact .ret _) .no
  | _=>exact .no
 | str a=>
  cases y with
  | str b=>
   show cC (wD op a b)
   cases op<;>first | exact .no | exact .ret _ | exact .and (.ret _)
  | _=>exact .no
 | agg l=>
  cases y with
  | agg m=>exact .ite (.bind fun p=> .bind fun q=>by
    show cC (wE op p.1 p.2 q.1 q.2)
    cases op<;>first | exact .no | exact .ret _) .no
  | _=>exact .no
 | av rows cn fr=>cases hx
 | _=>exact .no
theorem Sd {op:UnOp} {x:AV}:cC (vG op x):=by
 cases op<;>cases x<;>first | exact .no | exact .ret _
theorem JR {P:Program} {s d:TypeId} {x:AV}:cC (xb P s d x):=by
 cases x with
 | int k n=>exact .bind fun _=> .bind fun _=> .ret _
 | _=>exact .no
theorem Ku {P:Program} {t:TypeId} {x:AV} {f:Nat}:cC (xz P t x f):=by
 refine .bind fun fd=> .ite ?_ .no
 cases x<;>first | exact .no | exact .ret _
theorem Nk {P:Program} {t:TypeId} {x i:AV} {H:List Blk}:cC (pW P t x i H):=by
 refine .bind fun e=> .ite ?_ .no
 cases i with
 | int k n=>
  cases x with
  | av rows cn fr=>exact .and (.bind fun _=> .and (.ret _))
  | ref b g off m cn=>exact .bind fun _=> .and (.and (.and (.and (.ret _))))
  | _=>exact .no
 | _=>exact .no
theorem Ns {P:Program} {t:TypeId} {x i:AV}:cC (yB P t x i):=by
 cases x with
 | str s=>
  cases i with
  | int k n=>
   show cC fun K:AV→Prop=>(match P.underlying t with
   | some .string=>0≤n∧n<s.size∧K (.int .u8 (s.data.getD n.toNat 0).toNat)
   | _=>False)
   split
   ·exact .and (.and (.ret _))
   ·exact .no
  | _=>exact .no
 | _=>exact .no
theorem pn {α:Type} {x:Option AV} {d:Nat} {F:Nat→(α→Prop)→Prop} (h: ∀n,cC (F n)):cC fun K=>iz x d fun n=>F n K:=by
 cases x with
 | none=>exact h d
 | some a=>
  cases a with
  | int k n=>exact .and (h _)
  | _=>exact .no
theorem Re {P:Program} {t:TypeId} {x:AV} {lo hi:Option AV} {H:List Blk}:cC (oU P t x lo hi H):=by
 cases x with
 | str s=>
  show cC fun K:AV→Prop=>(match P.underlying t with
   | some .string=>iz lo 0 fun l=>iz hi s.size fun h=>l≤h∧h≤s.size∧K (.str (s.extract l h))
   | _=>False)
  split
  ·exact pn fun l=>pn fun h=> .and (.and (.ret _))
  ·exact .no
 | av rows cn fr=>exact .bind fun e=> .ite (pn fun l=>pn fun h=> .and (.and (.and (.ret _)))) .no
 | ref b g off n cn=>
  refine .bind fun e=> .ite (.bind fun blk=> .and (.and (pn fun l=>pn fun h=> .IB fun hle=> .and ?_))) .no
  intro K ⟨h1,h2⟩
  rcases Nat.lt_trichotomy l h with ay | Mn | ki
  ·exact⟨_,h1 ay,fun _=>rfl,fun e=>absurd e (by omega)⟩
  ·exact⟨_,h2 Mn,fun e=>absurd e (by omega),fun _=>rfl⟩
  ·omega
 | _=>exact .no
theorem Km {x:AV} {i:Nat}:cC (xx x i):=by
 cases x with
 | tup l=>exact .bind fun _=> .ret _
 | _=>exact .no
theorem PU {fn:Fn} {first:Array Operand} {caps:List AV}:cC (r1 fn first caps):=by
 cases fn with
 | func f=>exact .ite (.ret _) .no
 | _=>exact .no
theorem I4 {P:Program} {t:TypeId} {parts:List (Nat×AV)}:cC (wJ P t parts):= .bind fun _=> .bind fun _=> .bind fun _=> .ret _
theorem I2 {P:Program} {t:TypeId} {n:Nat} {parts:List (Nat×AV)}:cC (pq P t n parts):= .bind fun _=> .bind fun _=> .ite (.bind fun _=> .ite (.ret _) .no) .no
def mF (x:AV) (K:AV→Prop):Prop:=match x with
 | .av rows _ _=>K (.int .i64 rows.length)
 | .str s=>K (.int .i64 s.size)
 | .ref _ _ _ n _=>K (.int .i64 n)
 | _=>False
theorem Po {x:AV}:cC (mF x):=by
 cases x<;>first | exact .no | exact .ret _
theorem Pp {x:AV} {K:AV→Prop} (h:mF x K):mE x K:=by
 cases x<;>first | exact h | exact fun _=>h
theorem Jm {P:Program} {f:FuncId} {args:List AV} {L:List (Nat×List AV)} {H:List Blk}:cC (kK P f args L H):=fun K ⟨af,cR,t,h1,h2,ao⟩=>⟨t,ao,af,cR,t,h1,h2,rfl⟩
def Kh (P:Program) (c:Call) (aN:Operand→AV) (L:List (Nat×List AV)) (H:List Blk) (K:AV→Prop):Prop:=match c.callee with
 | .builtin .len=>(match c.args.toList,c.argTypes.toList with
  | [x],[t]=>cQ (gy P t (aN x)) (mF (aN x) K)
  | _,_=>False)
 | .value f=>ie (aN f) fun g caps=>kK P g (c.args.toList.map aN++caps) L H K
 | _=>False
def gp (P:Program) (o:Oper) (aN:Operand→AV) (L:List (Nat×List AV)) (H:List Blk) (K:AV→Prop):Prop:=match o.op with
 | .call c=>Kh P c aN L H K
 | .pick c x y=>kc (aN c) fun z=>kJ true z (K (aN x)) (K (aN y))
 | .binOp op t x y _=>cQ (q6 (aN x)) (mV P op t (aN x) (aN y) (lS y) K)
 | _=>m2 P o aN L H K
theorem tE {P:Program} {o:Oper} {aN:Operand→AV} {L:List (Nat×List AV)} {H:List Blk} {K:AV→Prop} (h:gp P o aN L H K):m2 P o aN L H K:=by
 obtain⟨dst,op,ty,pos,after,guard⟩:=o
 cases op with
 | call c=>
  obtain⟨callee,args,argTypes⟩:=c
  cases callee with
  | builtin b=>
   cases b with
   | len=>
    have h:(match args.toList,argTypes.toList with
     | [x],[t]=>cQ (gy P t (aN x)) (mF (aN x) K)
     | _,_=>False):=h
    show(match args.toList,argTypes.toList with
     | [x],[t]=>cQ (gy P t (aN x)) (mE (aN x) K)
     | _,_=>False)
    split at h
    ·obtain⟨h1,h2⟩:=k_ h
     simp only[h1];exact Pp h2
    ·exact h.elim
   | _=>exact h.elim
  | value f=>exact h
  | _=>exact h.elim
 | binOp op t x y ty2=>exact(k_ (show cQ (q6 (aN x)) (mV P op t (aN x) (aN y) (lS y) K) from h)).2
 | pick c x y=>
  obtain⟨b,hb,hw⟩:=s5 (show kc (aN c) fun z=>kJ true z (K (aN x)) (K (aN y)) from h)
  show kc (aN c) fun z=>q5 z (K (aN x)) (K (aN y))
  rw[hb];exact td hw
 | _=>exact h
theorem IM {α:Type} {z:Bool} {x y:α}:cC fun K=>kJ true z (K x) (K y):=by
 cases z with
 | true=>exact .ret x
 | false=>exact .ret y
theorem II {α:Type} {v:AV} {F:Bool→(α→Prop)→Prop} (h: ∀b,cC (F b)):cC fun K=>kc v fun b=>F b K:=by
 cases v with
 | bool b=>exact h b
 | _=>exact .no
theorem Kk {P:Program} {o:Oper} {aN:Operand→AV} {L:List (Nat×List AV)} {H:List Blk}:cC (gp P o aN L H):=by
 obtain⟨dst,op,ty,pos,after,guard⟩:=o
 cases op with
 | move x=>exact .ret _
 | assign x=>exact .ret _
 | pick c x y=>exact II fun z=>IM
 | build t ps=>exact .cQ I4
 | buildSlice t n ps=>exact .cQ I2
 | load t a=>exact Ph
 | nilCheck x=>exact P5
 | binOp op t x y ty2=>
  show cC fun K=>cQ (q6 (aN x)) (mV P op t (aN x) (aN y) (lS y) K)
  cases hb:q6 (aN x) with
  | true=>exact IQ hb
  | false=>exact .no
 | unOp op t x=>exact Sd
 | convert s d x=>exact JR
 | makeFunc fn first caps=>exact PU
 | fieldAddr t x f=>exact Ku
 | indexAddr t x i=>exact Nk
 | index t x i=>exact Ns
 | slice t x lo hi mx=>
  cases mx with
  | none=>exact Re
  | some m=>exact .no
 | extract x i=>exact Km
 | call c=>
  obtain⟨callee,args,argTypes⟩:=c
  cases callee with
  | builtin b=>
   cases b with
   | len=>
    show cC fun K=>(match args.toList,argTypes.toList with
     | [x],[t]=>cQ (gy P t (aN x)) (mF (aN x) K)
     | _,_=>False)
    split
    ·exact .cQ Po
    ·exact .no
   | _=>exact .no
  | value f=>
   show cC fun K=>ie (aN f) fun g caps=>kK P g (args.toList.map aN++caps) L H K
   cases aN f with
   | fn g caps=>exact Jm
   | _=>exact .no
  | _=>exact .no
 | _=>exact .no
structure Item where
 i:Nat
 lit:Bool
 q:Bool
 gg:List Nat
def AR:AV→AV→Bool
 | .int k n,.int gl gm=>decide (k=gl)&&decide (n=gm)
 | .bool b,.bool bC=>b==bC
 | .av [] f g,.av [] tH cc=>f==tH&&g==cc
 | .dU,.dU=>true
 | _,_=>false
def vM:List AV→List AV→Bool
 | [],[]=>true
 | a::l,b::m=>AR a b&&vM l m
 | _,_=>false
theorem SE {a b:AV} (h:AR a b=true):a=b:=by
 unfold AR at h
 split at h
 ·simp only[Bool.and_eq_true,decide_eq_true_eq] at h;rw[h.1,h.2]
 ·rw[eq_of_beq h]
 ·simp only[Bool.and_eq_true] at h;rw[eq_of_beq h.1,eq_of_beq h.2]
 ·rfl
 ·cases h
theorem H0: ∀{l m:List AV},vM l m=true→l=m
 | [],[],_=>rfl
 | [],_::_,h=>by cases h
 | _::_,[],h=>by cases h
 | a::l,b::m,h=>by
  simp only[vM,Bool.and_eq_true] at h
  rw[SE h.1,H0 h.2]
def k7 (o:Oper):Bool:=match o.op with
 | .alloc _=>true
 | _=>false
def Bg (P:Program) (e:TypeId) (dst:Option Nat) (L:List (Nat×List AV)) (K:AV→Prop):Prop:=ci (jk P e) fun z=>ci dst fun t=>ci (cG L t) fun c=>cQ (z.all fY) (cQ (vM c z) (K (.dn t 0)))
def hU (P:Program) (o:Oper) (aN:Operand→AV) (L:List (Nat×List AV)) (H:List Blk) (K:AV→Prop):Prop:=match o.op with
 | .alloc e=>Bg P e o.dst L K
 | _=>gp P o aN L H K
theorem pB {P:Program} {o:Oper} {aN:Operand→AV} {L:List (Nat×List AV)} {H:List Blk} {K:AV→Prop} (h:k7 o=false):hU P o aN L H K=gp P o aN L H K:=by
 obtain⟨dst,op,ty,pos,after,guard⟩:=o
 cases op<;>first | rfl | cases h
theorem Kj {P:Program} {o:Oper} {aN:Operand→AV} {L:List (Nat×List AV)} {H:List Blk}:cC (hU P o aN L H):=by
 cases h:k7 o with
 | false=>intro K hk;rw[pB h] at hk;obtain⟨r,h1,h2⟩:=Kk K hk;exact⟨r,h1,by rw[pB h];exact h2⟩
 | true=>
  obtain⟨dst,op,ty,pos,after,guard⟩:=o
  cases op
  case alloc e=>exact cC.bind fun _=> .bind fun _=> .bind fun _=> .cQ (.cQ (.ret _))
  all_goals cases h
def opI (ops:Array Oper) (i:Nat):Oper:=ops.getD i default
def mZ (o:Oper) (T:List AV):AV:=match o.dst with
 | some d=>T.getD d .undef
 | none=> .undef
def mi (P:Program) (ops:Array Oper):List Nat→List AV→List (Nat×List AV)→List Blk→Prop
 | [],_,_,_=>True
 | i::r,T,L,H=>((opI ops i).guard.isNone=true∧(opI ops i).dst.isSome=true∧hU P (opI ops i) (bt T) L H (fun v=>v=mZ (opI ops i) T))∧mi P ops r T L H
theorem Cz {P:Program} {ops:Array Oper} {T:List AV} {L:List (Nat×List AV)} {H:List Blk}: ∀{gg:List Nat},mi P ops gg T L H→ ∀i∈gg,(opI ops i).guard.isNone=true∧(opI ops i).dst.isSome=true∧hU P (opI ops i) (bt T) L H (fun v=>v=mZ (opI ops i) T)
 | [],_,i,hi=>by cases hi
 | j::r,h,i,hi=>by
  rcases List.mem_cons.1 hi with rfl | hi
  ·exact h.1
  ·exact Cz h.2 i hi
def gM (P:Program) (esc:List Nat) (ops:Array Oper):List Item→List AV→List (Nat×List AV)→List Blk→(List AV→List (Nat×List AV)→List Blk→Prop)→Prop
 | [],T,L,H,K=>K T L H
 | x::rest,T,L,H,K=>jN ops x.lit (opI ops x.i) T
   (fun T=>match x.q with
    | true=>hU P (opI ops x.i) (bt T) L H fun v=>gM P esc ops rest (putA T (opI ops x.i).dst v) L H K
    | false=>gL P esc (opI ops x.i) (bt T) L H fun v L' H'=>mi P ops x.gg T L' H'∧gM P esc ops rest (putA T (opI ops x.i).dst v) L' H' K)
   (fun T=>gM P esc ops rest (putA T (opI ops x.i).dst (.tup [])) L H K)
theorem Ci {P:Program} {o:Oper} {aN dL:Operand→AV} {L:List (Nat×List AV)} {H:List Blk} {K:AV→Prop} (h: ∀x∈o.op.operands,aN x=dL x):m2 P o aN L H K=m2 P o dL L H K:=by
 obtain⟨dst,op,ty,pos,after,guard⟩:=o
 have FX: ∀ps:Array (Nat×Operand),(∀x∈ps.map (·.2),aN x=dL x)→(ps.toList.map fun p=>(p.1,aN p.2))=(ps.toList.map fun p=>(p.1,dL p.2)):=fun ps ab=>
  List.map_congr_left fun p hm=>by rw[ab p.2 (Array.mem_map.2 ⟨p,by simpa using hm,rfl⟩)]
 have Bk: ∀ps:Array (Nat×Operand),(∀x∈ps.map (·.2),aN x=dL x)→(ps.toList.all fun p=>c3 (aN p.2))=(ps.toList.all fun p=>c3 (dL p.2)):=fun ps ab=>by
  rw[Bool.eq_iff_iff,List.all_eq_true,List.all_eq_true]
  constructor<;>intro q p hm
  ·rw[←ab p.2 (Array.mem_map.2 ⟨p,by simpa using hm,rfl⟩)];exact q p hm
  ·rw[ab p.2 (Array.mem_map.2 ⟨p,by simpa using hm,rfl⟩)];exact q p hm
 have av: ∀xs:Array Operand,(∀x∈xs,aN x=dL x)→xs.toList.map aN=xs.toList.map dL:=fun xs hx=>List.map_congr_left fun p hm=>hx p (by simpa using hm)
 cases op<;>simp only[Op.operands] at h
 case build t ps=>
  show cQ _ _=cQ _ _
  rw[FX ps fun x hx=>h x (by simpa using hx),Bk ps fun x hx=>h x (by simpa using hx)]
 case buildSlice t n ps=>
  show cQ _ _=cQ _ _
  rw[FX ps fun x hx=>h x (by simpa using hx),Bk ps fun x hx=>h x (by simpa using hx)]
 case makeFunc fn first caps=>
  show r1 fn first (caps.toList.map aN) K=r1 fn first (caps.toList.map dL) K
  rw[av caps fun x hx=>h x (by simp[hx])]
 case slice t x lo hi mx=>
  cases mx with
  | some m=>rfl
  | none=>
   show oU P t (aN x) (lo.map aN) (hi.map aN) H K=oU P t (dL x) (lo.map dL) (hi.map dL) H K
   cases lo<;>cases hi<;>simp_all
 case call c=>
  obtain⟨callee,args,argTypes⟩:=c
  have ai: ∀x∈args,aN x=dL x:=fun x hx=>h x (by simp[Call.operands,hx])
  cases callee with
  | builtin b=>
   cases b with
   | len=>
    show(match args.toList,argTypes.toList with
     | [x],[t]=>cQ (gy P t (aN x)) (mE (aN x) K)
     | _,_=>False)=(match args.toList,argTypes.toList with
     | [x],[t]=>cQ (gy P t (dL x)) (mE (dL x) K)
     | _,_=>False)
    split
    ·rename_i x t h1 h2
     rw[ai x (by rw[←Array.mem_toList_iff,h1];simp)]
    ·rfl
   | _=>rfl
  | value f=>
   have hf:aN f=dL f:=h f (by simp[Call.operands])
   show ie (aN f) _=ie (dL f) _
   rw[hf,av args ai]
  | invoke r m=>rfl
 all_goals (first | rfl | (simp only[m2];simp_all;done))
theorem Ch {P:Program} {o:Oper} {aN dL:Operand→AV} {L:List (Nat×List AV)} {H:List Blk} {K:AV→Prop} (h: ∀x∈o.op.operands,aN x=dL x):gp P o aN L H K=gp P o dL L H K:=by
 have hv:=fun K=>Ci (P:=P) (L:=L) (H:=H) (K:=K) h
 obtain⟨dst,op,ty,pos,after,guard⟩:=o
 cases op
 case call c=>
  simp only[Op.operands] at h
  obtain⟨callee,args,argTypes⟩:=c
  have ai: ∀x∈args,aN x=dL x:=fun x hx=>h x (by simp[Call.operands,hx])
  cases callee with
  | builtin b=>
   cases b with
   | len=>
    show(match args.toList,argTypes.toList with
     | [x],[t]=>cQ (gy P t (aN x)) (mF (aN x) K)
     | _,_=>False)=(match args.toList,argTypes.toList with
     | [x],[t]=>cQ (gy P t (dL x)) (mF (dL x) K)
     | _,_=>False)
    split
    ·rename_i x t h1 h2
     rw[ai x (by rw[←Array.mem_toList_iff,h1];simp)]
    ·rfl
   | _=>rfl
  | value f=>exact hv K
  | invoke r m=>rfl
 case pick c x y=>simp only[Op.operands] at h;simp only[gp];simp_all
 case binOp op t x y ty2=>simp only[Op.operands] at h;simp only[gp];simp_all
 all_goals exact hv K
theorem Cd {P:Program} {o:Oper} {aN dL:Operand→AV} {L:List (Nat×List AV)} {H:List Blk} {K:AV→Prop} (h: ∀x∈o.op.operands,aN x=dL x):hU P o aN L H K=hU P o dL L H K:=by
 cases ai:k7 o with
 | false=>rw[pB ai,pB ai];exact Ch h
 | true=>
  obtain⟨dst,op,ty,pos,after,guard⟩:=o
  cases op
  case alloc e=>rfl
  all_goals cases ai
theorem Ki {P:Program} {esc:List Nat} {o:Oper} {aN dL:Operand→AV} {L:List (Nat×List AV)} {H:List Blk} {K:AV→List (Nat×List AV)→List Blk→Prop} (h: ∀x∈o.op.operands,aN x=dL x):gL P esc o aN L H K=gL P esc o dL L H K:=by
 have hv:=fun K=>Ci (P:=P) (L:=L) (H:=H) (K:=K) h
 obtain⟨dst,op,ty,pos,after,guard⟩:=o
 cases op
 case call c=>
  obtain⟨callee,args,argTypes⟩:=c
  have h':=h
  simp only[Op.operands] at h
  have ai: ∀x∈args,aN x=dL x:=fun x hx=>h x (by simp[Call.operands,hx])
  cases callee with
  | builtin b=>
   cases b with
   | len=>exact hv fun r=>K r L H
   | append=>
    show(match args.toList,argTypes.toList with
     | [s,x],[t,t2]=>c3 (aN s)=true∧c3 (aN x)=true∧nT P t t2 (aN s) (aN x) L H K
     | _,_=>False)=(match args.toList,argTypes.toList with
     | [s,x],[t,t2]=>c3 (dL s)=true∧c3 (dL x)=true∧nT P t t2 (dL s) (dL x) L H K
     | _,_=>False)
    split
    ·rename_i s x t t2 h1 h2
     rw[ai x (by rw[←Array.mem_toList_iff,h1];simp),ai s (by rw[←Array.mem_toList_iff,h1];simp)]
    ·rfl
   | _=>rfl
  | value f=>
   have hf:aN f=dL f:=h f (by simp[Call.operands])
   show ie (aN f) _=ie (dL f) _
   rw[hf,List.map_congr_left fun p hm=>ai p (by simpa using hm)]
  | invoke r m=>rfl
 case alloc e=>rfl
 case buildSlice t n ps=>
  simp only[Op.operands] at h
  have h: ∀x∈ps.map (·.2),aN x=dL x:=fun x hx=>h x (by simpa using hx)
  have aO:(ps.toList.map fun p=>(p.1,aN p.2))=(ps.toList.map fun p=>(p.1,dL p.2)):=
   List.map_congr_left fun p hm=>by rw[h p.2 (Array.mem_map.2 ⟨p,by simpa using hm,rfl⟩)]
  have e2:(ps.toList.all fun p=>c3 (aN p.2))=(ps.toList.all fun p=>c3 (dL p.2)):=by
   rw[Bool.eq_iff_iff,List.all_eq_true,List.all_eq_true]
   constructor<;>intro q p hm
   ·rw[←h p.2 (Array.mem_map.2 ⟨p,by simpa using hm,rfl⟩)];exact q p hm
   ·rw[h p.2 (Array.mem_map.2 ⟨p,by simpa using hm,rfl⟩)];exact q p hm
  show cQ _ (nW P (n6 esc dst) (oQ esc) t n _ L H K)=cQ _ (nW P (n6 esc dst) (oQ esc) t n _ L H K)
  rw[aO,e2]
 case store t x y=>simp only[Op.operands] at h;simp only[gL];simp_all
 case box e x=>simp only[Op.operands] at h;simp only[gL];simp_all
 case makeSlice t l c=>simp only[Op.operands] at h;simp only[gL];simp_all
 all_goals exact hv fun r=>K r L H
structure o9 (P:Program) (ops:Array Oper) (L:List (Nat×List AV)) (H:List Blk) (T:List AV) (o:Oper) (v:AV) (run:Bool):Prop where
 e6: ∀(E:Env) (a:Act),(∀t∈o.looksAt ops,V3 E (T.getD t .undef) (a.tmps.getD t undef))→T.length=a.tmps.size→Region.wanted o (yielded ops a.tmps)=run
 nE:run=true→hU P o (bt T) L H (fun r=>r=v)
 no:run=false→v= .tup []
 put: ∀d,o.dst=some d→d<T.length→T.getD d .undef=v
theorem PJ {ops:Array Oper} {o:Oper} {t:Nat} (h: .tmp t∈o.op.operands):t∈o.looksAt ops:=
 List.mem_append_left _ (List.mem_filterMap.2 ⟨.tmp t,by simpa using h,rfl⟩)
theorem PI {ops:Array Oper} {o:Oper} {j t:Nat} {b:Bool} (aJ:o.guard=some (j,b)) (aC:(ops[j]?).bind (·.dst)=some t):t∈o.looksAt ops:=by
 refine List.mem_append_right _ ?_
 rw[aJ];simp[aC]
theorem uZ {ops:Array Oper} {o:Oper} {T T':List AV} (h: ∀t∈o.looksAt ops,T.getD t .undef=T'.getD t .undef): ∀x∈o.op.operands,bt T x=bt T' x:=fun x hx=>by
 cases x with
 | tmp t=>exact h t (PJ hx)
 | _=>rfl
theorem o9.mono {P:Program} {ops:Array Oper} {L:List (Nat×List AV)} {H:List Blk} {T T':List AV} {o:Oper} {v:AV} {run:Bool} (h:o9 P ops L H T o v run) (ak:T'.length=T.length)
  (ai: ∀t∈o.looksAt ops,T'.getD t .undef=T.getD t .undef) (aL: ∀d,o.dst=some d→T'.getD d .undef=T.getD d .undef):o9 P ops L H T' o v run where
 e6:=fun E a hs an=>h.e6 E a (fun t aC=>by rw[←ai t aC];exact hs t aC) (by rw[←ak];exact an)
 nE:=fun aa=>by
  rw[Cd (uZ ai)]
  exact h.nE aa
 no:=h.no
 put:=fun d m7 ay=>by rw[aL d m7];exact h.put d m7 (by rw[←ak];exact ay)
theorem CM {P:Program} {ops:Array Oper} {lit:Bool} {o:Oper} {T:List AV} {x y:List AV→Prop} (h:jN ops lit o T x y):
  ∃T' run,T'.length=T.length∧(∀t,T'.getD t .undef=T.getD t .undef)∧(∀(E:Env) (a:Act),(∀t∈o.looksAt ops,V3 E (T.getD t .undef) (a.tmps.getD t undef))→T.length=a.tmps.size→Region.wanted o (yielded ops a.tmps)=run)∧(if run=true then x T' else y T'):=by
 unfold jN at h
 cases aJ:o.guard with
 | none=>rw[aJ] at h;exact⟨T,true,rfl,fun _=>rfl,fun E a _ _=>by simp[Region.wanted,aJ],h⟩
 | some g=>
  obtain⟨j,e6⟩:=g
  rw[aJ] at h
  simp only at h
  cases O:(ops[j]?).bind (·.dst) with
  | none=>rw[O] at h;exact h.elim
  | some t=>
   rw[O] at h
   simp only at h
   have ue:t∈o.looksAt ops:=PI aJ O
   have mz: ∀b,T.getD t .undef= .bool b→ ∀s,(T.set t (.bool b)).getD s .undef=T.getD s .undef:=fun b hb s=>by
    rw[mj]
    by_cases hs:t=s∧t<T.length
    ·rw[if_pos hs,←hs.1,hb]
    ·rw[if_neg hs]
   split at h
   ·rename_i b hb
    obtain⟨h1,h2⟩:=td h
    have hw: ∀(E:Env) (a:Act),(∀t∈o.looksAt ops,V3 E (T.getD t .undef) (a.tmps.getD t undef))→T.length=a.tmps.size→Region.wanted o (yielded ops a.tmps)=(b==e6):=fun E a hs an=>by
     have hv:=hs t ue
     rw[hb] at hv
     have he:a.tmps.getD t undef= .bool b:=V3.jD hv
     have ax:yielded ops a.tmps j=some b:=by
      unfold yielded
      rw[O]
      rw[Array.getD_eq_getD_getElem?] at he
      cases al:a.tmps[t]? with
      | none=>rw[al] at he;cases he
      | some x=>rw[al] at he;have:x= .bool b:=he;subst this;simp[al]
     simp[Region.wanted,aJ,ax]
    cases b with
    | true=>refine⟨_,_,by simp,mz true hb,hw,?_⟩;have:=h1 rfl;cases e6<;>exact this
    | false=>refine⟨_,_,by simp,mz false hb,hw,?_⟩;have:=h2 rfl;cases e6<;>exact this
   ·rename_i hb
    refine⟨T,false,rfl,fun _=>rfl,fun E a hs an=> ?_,h⟩
    have hv:=hs t ue
    rw[hb] at hv
    obtain⟨vs,he,ab⟩:=(show ∃vs:List Value,a.tmps.getD t undef= .tuple vs.toArray∧aw (V2 E) [] vs from hv)
    obtain rfl:=ab.jZ
    have ax:yielded ops a.tmps j=none:=by
     unfold yielded
     rw[O]
     rw[Array.getD_eq_getD_getElem?] at he
     cases al:a.tmps[t]? with
     | none=>simp[al]
     | some x=>rw[al] at he;have:x= .tuple #[]:=he;subst this;simp[al]
    simp[Region.wanted,aJ,ax]
   ·exact h.elim
theorem qi (T:List AV) (d:Option Nat) (v:AV):(putA T d v).length=T.length:=by
 cases d<;>simp[putA]
theorem u7 {T:List AV} {d:Option Nat} {v:AV} {t:Nat} (h:d≠some t):(putA T d v).getD t .undef=T.getD t .undef:=by
 cases d with
 | none=>rfl
 | some s=>
  show(T.set s v).getD t .undef=_
  rw[mj,if_neg]
  rintro⟨rfl,_⟩;exact h rfl
theorem F_ {T:List AV} {d:Nat} {v:AV} (h:d<T.length):(putA T (some d) v).getD d .undef=v:=by
 show(T.set d v).getD d .undef=v
 rw[mj,if_pos ⟨rfl,h⟩]
def h5 (ops:Array Oper):List Item→Prop
 | []=>True
 | x::r=>(∀t∈(opI ops x.i).looksAt ops,∀y∈x::r,(opI ops y.i).dst≠some t)∧(∀d,(opI ops x.i).dst=some d→ ∀y∈r,(opI ops y.i).dst≠some d)∧h5 ops r
theorem z_ {P:Program} {esc:List Nat} {ops:Array Oper} {L:List (Nat×List AV)} {H:List Blk} {K:List AV→List (Nat×List AV)→List Blk→Prop}: ∀(l:List Item) (T:List AV),h5 ops l→gM P esc ops l T L H K→
  ∃pre post j_,l=pre++post∧(∀x∈pre,x.q=true)∧(∀x r,post=x::r→x.q=false)∧gM P esc ops post j_ L H K∧j_.length=T.length∧
   (∀t,(∀x∈pre,(opI ops x.i).dst≠some t)→j_.getD t .undef=T.getD t .undef)∧ ∀x∈pre,∃v run,o9 P ops L H j_ (opI ops x.i) v run
 | [],T,_,h=>⟨[],[],T,rfl,fun x hx=>(by cases hx),fun x r e=>(by cases e),h,rfl,fun _ _=>rfl,fun x hx=>(by cases hx)⟩
 | x::r,T,aZ,h=>by
  cases al:x.q with
  | false=>exact⟨[],x::r,T,rfl,fun x hx=>(by cases hx),fun y vc e=>(by cases e;exact al),h,rfl,fun _ _=>rfl,fun x hx=>(by cases hx)⟩
  | true=>
   obtain⟨hS,run,kZ,mq,hw,dH⟩:=CM (P:=P) h
   obtain⟨Bm,IC,ID⟩:=aZ
   have key: ∃v,gM P esc ops r (putA hS (opI ops x.i).dst v) L H K∧(run=true→hU P (opI ops x.i) (bt hS) L H (fun r=>r=v))∧(run=false→v= .tup []):=by
    cases run with
    | true=>
     have dH:(match x.q with
      | true=>hU P (opI ops x.i) (bt hS) L H fun v=>gM P esc ops r (putA hS (opI ops x.i).dst v) L H K
      | false=>_):=dH
     rw[al] at dH
     obtain⟨v,h1,h2⟩:=Kj _ dH
     exact⟨v,h1,fun _=>h2,fun e=>by cases e⟩
    | false=>exact⟨.tup [],dH,fun e=>(by cases e),fun _=>rfl⟩
   obtain⟨v,hv,Nc,nb⟩:=key
   obtain⟨pre,post,j_,rfl,MU,yl,mo,hlen,eP,rE⟩:=z_ r _ ID hv
   have uh: ∀y∈pre,y∈pre++post:=fun y ax=>List.mem_append_left _ ax
   have rI: ∀t∈(opI ops x.i).looksAt ops,j_.getD t .undef=hS.getD t .undef:=fun t aC=>by
    rw[eP t fun y ax=>Bm t aC y (List.mem_cons_of_mem _ (uh y ax)),u7 (Bm t aC x (List.mem_cons_self ..))]
   refine⟨x::pre,post,j_,rfl,fun y ax=> ?_,yl,mo,by rw[hlen,qi,kZ],fun t aC=> ?_,fun y ax=> ?_⟩
   ·rcases List.mem_cons.1 ax with rfl | ax
    ·exact al
    ·exact MU y ax
   ·rw[eP t fun y ax=>aC y (List.mem_cons_of_mem _ ax),u7 (aC x (List.mem_cons_self ..)),mq]
   ·rcases List.mem_cons.1 ax with rfl | ax
    ·refine⟨v,run,⟨fun E a hs an=>hw E a (fun t aC=> ?_) ?_,fun aa=> ?_,nb,fun d aL ay=> ?_⟩⟩
     ·rw[←mq t,←rI t aC];exact hs t aC
     ·rw[←an,hlen,qi,kZ]
     ·rw[Cd (uZ rI)];exact Nc aa
     ·rw[eP d fun y ax=>IC d aL y (uh y ax),aL]
      exact F_ (by rw[hlen,qi] at ay;exact ay)
    ·exact rE y ax
def nK (A:Nat→List Nat):List Item→List Item→Prop
 | _,[]=>True
 | p,h::r=>(h.q=false→(∀y∈r,h.i∈A y.i)∧ ∀x∈p,x.i∈A h.i∨x.i∈h.gg)∧nK A (p++[h]) r
theorem nK.at {A:Nat→List Nat}: ∀{pre p:List Item} {h:Item} {r:List Item},nK A p (pre++h::r)→h.q=false→(∀y∈r,h.i∈A y.i)∧ ∀x∈p++pre,x.i∈A h.i∨x.i∈h.gg
 | [],p,h,r,hb,al=>by
  rw[List.append_nil];exact hb.1 al
 | x::pre,p,h,r,hb,al=>by
  have:=nK.at (pre:=pre) (p:=p++[x]) hb.2 al
  simpa using this
structure sD (ops:Array Oper) (ord:List Item) (A:Nat→List Nat):Prop where
 back: ∀i o,ops[i]?=some o→ ∀e∈o.after,Region.binds .any e=true→e.on<i
 Iz: ∀i o,ops[i]?=some o→ ∀a∈A i,∃e∈o.after,Region.binds .any e=true∧(a=e.on∨a∈A e.on)
 all: ∀i,i<ops.size→ ∃x∈ord,x.i=i
 lt: ∀x∈ord,x.i<ops.size
 nodup:(ord.map (·.i)).Nodup
 Sh: ∀x∈ord,∀t∈(opI ops x.i).looksAt ops,∀y∈ord,(opI ops y.i).dst=some t→y.i∈A x.i
 apart:h5 ops ord
 wA:nK A [] ord
theorem h5.tail {ops:Array Oper}: ∀{p r:List Item},h5 ops (p++r)→h5 ops r
 | [],_,h=>h
 | _::p,_,h=>h5.tail (p:=p) h.2.2
theorem h5.Eh {ops:Array Oper}: ∀{p r:List Item},h5 ops (p++r)→ ∀x∈p,(∀t∈(opI ops x.i).looksAt ops,∀y∈r,(opI ops y.i).dst≠some t)∧ ∀d,(opI ops x.i).dst=some d→ ∀y∈r,(opI ops y.i).dst≠some d
 | [],_,_,x,hx=>by cases hx
 | z::p,r,h,x,hx=>by
  rcases List.mem_cons.1 hx with rfl | hx
  ·exact⟨fun t aC y ax=>h.1 t aC y (List.mem_cons_of_mem _ (List.mem_append_right _ ax)),fun d aL y ax=>h.2.1 d aL y (List.mem_append_right _ ax)⟩
  ·exact h5.Eh (p:=p) h.2.2 x hx
theorem h5.inj {ops:Array Oper}: ∀{l:List Item},h5 ops l→ ∀x∈l,∀y∈l,x.i≠y.i→ ∀d,(opI ops x.i).dst=some d→(opI ops y.i).dst≠some d
 | [],_,x,hx,_,_,_,_,_=>by cases hx
 | z::r,h,x,hx,y,ax,bV,d,aL=>by
  rcases List.mem_cons.1 hx with ex | Eg
  ·rcases List.mem_cons.1 ax with xy | yZ
   ·exact absurd (by rw[ex,xy]) bV
   ·exact h.2.1 d (by rw[←ex];exact aL) y yZ
  ·rcases List.mem_cons.1 ax with xy | yZ
   ·exact fun e=>h.2.1 d (by rw[←xy];exact e) x Eg aL
   ·exact h5.inj h.2.2 x Eg y yZ bV d aL
theorem mH {ops:Array Oper} {i:Nat} (h:i<ops.size):ops[i]?=some (opI ops i):=by
 unfold opI
 rw[Array.getElem?_eq_getElem h,Array.getD_eq_getD_getElem?,Array.getElem?_eq_getElem h];rfl
def vO (ops:Array Oper) (S:Array Bool):Prop:= ∀i o,ops[i]?=some o→S.getD i false=true→ ∀e∈o.after,Region.binds .any e=true→S.getD e.on false=true
theorem IA {ops:Array Oper} {ord:List Item} {A:Nat→List Nat} (D:sD ops ord A) {S:Array Bool} (hs:S.size=ops.size) (hc:vO ops S): ∀(i:Nat) o,ops[i]?=some o→(∀e∈o.after,Region.binds .any e=true→S.getD e.on false=true)→ ∀a∈A i,S.getD a false=true:=by
 intro i
 induction i using Nat.strongRecOn with
 | _ i aT=>
  intro o br aa a ai
  obtain⟨e,he,hb,mv⟩:=D.Iz i o br a ai
  have nc:=aa e he hb
  rcases mv with rfl | mv
  ·exact nc
  ·have ay:=D.back i o br e he hb
   have bz:e.on<ops.size:=by
    rcases Nat.lt_or_ge e.on ops.size with h | h
    ·exact h
    ·rw[Array.getD_eq_getD_getElem?,Array.getElem?_eq_none (by omega)] at nc;cases nc
   exact aT e.on ay _ (mH bz) (fun bf Mj e8=>hc e.on _ (mH bz) nc bf Mj e8) a mv
theorem Gv {ops:Array Oper} {S:Array Bool} (hs:S.size=ops.size) {i:Nat} (h:i∈Region.ready .any ops S):i<ops.size∧S.getD i false=false∧ ∀e∈(opI ops i).after,Region.binds .any e=true→S.getD e.on false=true:=by
 unfold Region.ready at h
 rw[List.mem_filter,List.mem_range] at h
 obtain⟨ay,h⟩:=h
 rw[mH ay] at h
 simp only[Option.map_some,Option.getD_some,Bool.and_eq_true,Bool.not_eq_true',Array.all_eq_true_iff_forall_mem] at h
 obtain⟨h1,h2⟩:=h
 refine⟨ay,?_,fun e he hb=> ?_⟩
 ·rw[Array.getD_eq_getD_getElem?,Array.getElem?_eq_getElem (by omega)] at h1 ⊢;exact h1
 ·have:=h2 e he
  rw[hb] at this;simpa using this
theorem QN {ops:Array Oper} {ord:List Item} {A:Nat→List Nat} (D:sD ops ord A) {S:Array Bool} (hs:S.size=ops.size) (h:Region.ready .any ops S=[]): ∀i,i<ops.size→S.getD i false=true:=by
 intro i
 induction i using Nat.strongRecOn with
 | _ i aT=>
  intro ay
  cases al:S.getD i false with
  | true=>rfl
  | false=>
   exfalso
   have:i∈Region.ready .any ops S:=by
    unfold Region.ready
    rw[List.mem_filter,List.mem_range]
    refine⟨ay,?_⟩
    rw[mH ay]
    simp only[Option.map_some,Option.getD_some,Bool.and_eq_true,Bool.not_eq_true',Array.all_eq_true_iff_forall_mem]
    refine⟨?_,fun e he=> ?_⟩
    ·rw[Array.getD_eq_getD_getElem?,Array.getElem?_eq_getElem (by omega)] at al ⊢;exact al
    ·cases hb:Region.binds .any e with
     | false=>rfl
     | true=>
      have ak:=D.back i _ (mH ay) e he hb
      simpa using aT e.on ak (by omega)
   rw[h] at this;cases this
theorem BW {α:Type} (p qe:α→Bool) (j:α) (ab:p j=true) (ul:qe j=false) (hk: ∀k,k≠j→p k=qe k): ∀l:List α,l.Nodup→j∈l→l.countP p=l.countP qe+1
 | [],_,h=>by cases h
 | k::l,af,h=>by
  rw[List.nodup_cons] at af
  by_cases yc:k=j
  ·subst yc
   rw[List.countP_cons_of_pos ab,List.countP_cons_of_neg (by simp[ul])]
   congr 1
   refine List.countP_congr fun x hx=> ?_
   rw[hk x (fun e=>af.1 (e▸hx))]
  ·have O:j∈l:=(List.mem_cons.1 h).resolve_left fun e=>yc e.symm
   have aT:=BW p qe j ab ul hk l af.2 O
   rw[List.countP_cons,List.countP_cons,hk k yc,aT];omega
def left (n:Nat) (S:Array Bool):Nat:=(List.range n).countP fun j=> !S.getD j false
theorem rh {S:Array Bool} {i j:Nat}:(S.setIfInBounds i true).getD j false=if i=j∧i<S.size then true else S.getD j false:=by
 rw[Array.getD_eq_getD_getElem?,Array.getD_eq_getD_getElem?,Array.getElem?_setIfInBounds]
 by_cases h:i=j
 ·subst h
  by_cases ak:i<S.size
  ·simp[ak]
  ·simp[ak]
 ·simp[h]
theorem Pm {n:Nat} {S:Array Bool} {i:Nat} (hs:S.size=n) (hi:i<n) (h:S.getD i false=false):left n S=left n (S.setIfInBounds i true)+1:=by
 refine BW _ _ i (by simp[h]) ?_ (fun k hk=> ?_) _ List.nodup_range (List.mem_range.2 hi)
 ·rw[rh,if_pos ⟨rfl,by omega⟩];rfl
 ·rw[rh,if_neg (fun e=>hk e.1.symm)]
theorem Pn {n:Nat} {S:Array Bool} (h:left n S=0): ∀i,i<n→S.getD i false=true:=fun i hi=>by
 have:=(List.countP_eq_zero.1 h) i (List.mem_range.2 hi)
 simpa using this
def oi:List Nat→List AV→List AV
 | [],T=>T
 | d::fS,T=>oi fS (T.set d .undef)
theorem tX: ∀(fS:List Nat) (T:List AV) (t:Nat),(t∈fS→(oi fS T).getD t .undef= .undef)∧(t ∉ fS→(oi fS T).getD t .undef=T.getD t .undef)
 | [],T,t=>⟨fun h=>(by cases h),fun _=>rfl⟩
 | d::fS,T,t=>by
  obtain⟨h1,h2⟩:=tX fS (T.set d .undef) t
  refine⟨fun h=> ?_,fun h=> ?_⟩
  ·by_cases aL:t∈fS
   ·exact h1 aL
   ·have e:t=d:=(List.mem_cons.1 h).resolve_right aL
    show(oi fS (T.set d .undef)).getD t .undef= .undef
    rw[h2 aL,mj]
    by_cases ak:d=t∧d<T.length
    ·rw[if_pos ak]
    ·rw[if_neg ak,List.getD_eq_getElem?_getD,List.getElem?_eq_none (by rcases Nat.lt_or_ge d T.length with q | q;exact absurd ⟨e.symm,q⟩ ak;omega)];rfl
  ·show(oi fS (T.set d .undef)).getD t .undef=_
   rw[h2 fun hm=>h (List.mem_cons_of_mem _ hm),mj,if_neg fun hm=>h (by rw[hm.1];exact List.mem_cons_self ..)]
section
variable {P:Program} {esc:List Nat} {ops:Array Oper} {ord:List Item} {A:Nat→List Nat} {Q:Exit→St→Prop} {bx:Env}
structure AT [bF] (P:Program) (esc:List Nat) (ops:Array Oper) (ord:List Item) (Q:Exit→St→Prop) (bx:Env) (S:Array Bool) (a:Act) (w:World) (pre post:List Item) (E:Env) (T:List AV) (L:List (Nat×List AV)) (H:List Blk):Prop where
 k9:ord=pre++post
 sw: ∀x∈post,S.getD x.i false=false
 head: ∀x r,post=x::r→x.q=false
 xu:gM P esc ops post T L H (fun T L H=>Q .normal ⟨T,L,H⟩)
 facts: ∀x∈pre,S.getD x.i false=false→x.q=true∧ ∃v run,o9 P ops L H T (opI ops x.i) v run
 fy: ∀t,(∃x∈pre,S.getD x.i false=false∧(opI ops x.i).dst=some t)∨V3 E (T.getD t .undef) (a.tmps.getD t undef)
 size:T.length=a.tmps.size
 h:SimH E H
 l:SimL E L
 rj:Good bx E
 b_: ∀x∈ord,S.getD x.i false=false→k7 (opI ops x.i)=true→x.q=true→ ∀d,(opI ops x.i).dst=some d→E.mL d=none
 xd:a.defers=[]
 w:E.w=w
theorem Gd {a:Act} {d:Option Nat} {u:Value} {t:Nat} (h:d≠some t):(a.put d u).tmps.getD t undef=a.tmps.getD t undef:=by
 cases d with
 | none=>rfl
 | some s=>
  show(a.tmps.setIfInBounds s u).getD t undef=_
  rw[Array.getD_eq_getD_getElem?,Array.getD_eq_getD_getElem?,Array.getElem?_setIfInBounds_ne (fun e=>h (by rw[e]))]
theorem Gf {a:Act} {d:Nat} {u:Value} (h:d<a.tmps.size):(a.put (some d) u).tmps.getD d undef=u:=by
 show(a.tmps.setIfInBounds d u).getD d undef=_
 rw[Array.getD_eq_getD_getElem?,Array.getElem?_setIfInBounds_self];simp[h]
theorem Gg (a:Act) (d:Option Nat) (u:Value):(a.put d u).tmps.size=a.tmps.size:=by
 cases d<;>simp[Act.put]
theorem Gc {a:Act} (d:Option Nat) (u:Value) (h:a.defers=[]):(a.put d u).defers=[]:=by
 cases d<;>exact h
theorem Iy {o:Oper} {a:Act} {T:List AV} {L:List (Nat×List AV)} {H:List Blk} {v:AV} {E:Env} (ag:SimH E H) (aY:SimL E L) (ai:k7 o=true) (af: ∀d,o.dst=some d→E.mL d=none) (h:hU P o (bt T) L H (fun r=>r=v)):
  ∃t u E',V3 E' v u∧o.dst=some t∧Step E E'∧SimH E' H∧SimL E' L∧(∀s,s≠t→E'.mL s=E.mL s)∧True∧ ∀(next:Act→World→Prop) Q,next (a.put o.dst u) E'.w→o.wp P a E.w next Q:=by
 obtain⟨dst,op,ty,pos,after,guard⟩:=o
 cases op
 all_goals try (cases ai;done)
 rename_i e
 obtain⟨z,an,h⟩:=dp (show Bg P e dst L (fun r=>r=v) from h)
 obtain⟨t,aC,h⟩:=dp h
 obtain⟨c,hc,h⟩:=dp h
 obtain⟨hs,h⟩:=k_ h
 obtain⟨al,cw⟩:=k_ h
 have cw:AV.dn t 0=v:=cw
 clear h
 subst cw
 have al:=H0 al
 subst al
 obtain⟨i,o7,q1,q2,q3,q4⟩:=o6 (E:=E) an
 obtain⟨E',aO,e2,cg,eH,hA,_,kL⟩:=FF (ty:=e) ag aY (jm.alloc E.w (.cells o7.cells e (0,0))) hc (af t aC) (At hs q4)
 refine⟨t,_,E',hA,aC,e2,cg,eH,kL,trivial,fun next Q hk=> ?_⟩
 unfold Oper.wp
 rw[show execOp a.eval ⟨dst,.alloc e,ty,pos,after,guard⟩=(do pure (Next.value (←Instr.alloc e true (.tuple #[])))) from rfl]
 refine AH (w':=E'.w) ?_ hk
 rw[aO]
 simp[Instr.alloc,zeroValue,typeInfo,q1,q2,newVar,newRow]
theorem JV [bF] (D:sD ops ord A): ∀(ha:Nat) (S:Array Bool) (a:Act) (w:World) (pre post:List Item) (E:Env) (T:List AV) (L:List (Nat×List AV)) (H:List Blk),
  S.size=ops.size→left ops.size S=ha→vO ops S→AT P esc ops ord Q bx S a w pre post E T L H→wpAny P .any ops (jn bx Q) ha S a w:=by
 have fin: ∀(S:Array Bool) (a:Act) (w:World) (pre post:List Item) (E:Env) (T:List AV) (L:List (Nat×List AV)) (H:List Blk),(∀i,i<ops.size→S.getD i false=true)→AT P esc ops ord Q bx S a w pre post E T L H→jn bx Q .normal a w:=by
  intro S a w pre post E T L H ew I
  have ab:post=[]:=by
   cases post with
   | nil=>rfl
   | cons x r=>
    have h1:=I.sw x (List.mem_cons_self ..)
    rw[ew x.i (D.lt x (by rw[I.k9];simp))] at h1;cases h1
  subst ab
  refine⟨rfl,⟨T,L,H⟩,E,I.xu,I.w,I.rj,⟨I.h,I.l,fun t=> ?_,I.size⟩,I.xd⟩
  rcases I.fy t with⟨x,hx,hu,_⟩ | h
  ·rw[ew x.i (D.lt x (by rw[I.k9];simp[hx]))] at hu;cases hu
  ·exact h
 intro ha
 induction ha with
 | zero=>
  intro S a w pre post E T L H hs hf hc I
  have ew:=Pn hf
  refine⟨?_,fin S a w pre post E T L H ew I⟩
  cases aa:Region.ready .any ops S with
  | nil=>rfl
  | cons i l=>
   have:=Gv hs (i:=i) (by rw[aa];exact List.mem_cons_self ..)
   rw[ew i this.1] at this;cases this.2.1
 | succ ha aT=>
  intro S a w pre post E T L H hs hf hc I
  refine⟨fun aa=>fin S a w pre post E T L H (QN D hs aa) I,fun i hi=> ?_⟩
  obtain⟨ay,lP,nc⟩:=Gv hs hi
  have xU:=IA D hs hc i _ (mH ay) nc
  have CZ:(S.setIfInBounds i true).size=ops.size:=by simpa using hs
  have tV:left ops.size (S.setIfInBounds i true)=ha:=by have:=Pm hs ay lP;omega
  have hC:vO ops (S.setIfInBounds i true):=by
   intro j o br O e he hb
   rw[rh] at O ⊢
   by_cases iD:i=j
   ·subst iD
    have:o=opI ops i:=by rw[mH ay] at br;exact(Option.some.inj br).symm
    subst this
    split
    ·rfl
    ·exact nc e he hb
   ·rw[if_neg fun q=>iD q.1] at O
    split
    ·rfl
    ·exact hc j o br O e he hb
  have Ab: ∀j,(S.setIfInBounds i true).getD j false=false→S.getD j false=false∧j≠i:=fun j O=>by
   rw[rh] at O
   split at O
   ·cases O
   ·rename_i q;exact⟨O,fun e=>q ⟨e.symm,by omega⟩⟩
  have sn: ∀j,j≠i→S.getD j false=false→(S.setIfInBounds i true).getD j false=false:=fun j O h=>by
   rw[rh,if_neg fun q=>O q.1.symm];exact h
  obtain⟨y,ax,iI⟩:=D.all i ay
  subst iI
  have iI:y.i=y.i:=rfl
  let fS:List Nat:=(pre.filter fun x=> !S.getD x.i false).filterMap fun x=>(opI ops x.i).dst
  have x7: ∀t,t∈fS↔ ∃x∈pre,S.getD x.i false=false∧(opI ops x.i).dst=some t:=fun t=>by
   simp only[fS,List.mem_filterMap,List.mem_filter,Bool.not_eq_true']
   constructor
   ·rintro⟨x,⟨h1,h2⟩,ao⟩;exact⟨x,h1,h2,ao⟩
   ·rintro⟨x,h1,h2,ao⟩;exact⟨x,⟨h1,h2⟩,ao⟩
  have bu: ∀t,V3 E ((oi fS T).getD t .undef) (a.tmps.getD t undef):=fun t=>by
   by_cases h:t∈fS
   ·rw[(tX fS T t).1 h];exact V3.undef _ _
   ·rw[(tX fS T t).2 h]
    exact(I.fy t).resolve_left fun q=>h ((x7 t).2 q)
  have rI: ∀t∈(opI ops y.i).looksAt ops,t ∉ fS:=fun t aC hm=>by
   obtain⟨x,hx,hu,aL⟩:=(x7 t).1 hm
   have:=xU x.i (by rw[←iI];rw[←iI] at aC;exact D.Sh y ax t aC x (by rw[I.k9];simp[hx]) aL)
   rw[this] at hu;cases hu
  have Dx: ∀t∈(opI ops y.i).looksAt ops,V3 E (T.getD t .undef) (a.tmps.getD t undef):=fun t aC=>(I.fy t).resolve_left fun q=>rI t aC ((x7 t).2 q)
  have C4: ∀t∈(opI ops y.i).looksAt ops,(oi fS T).getD t .undef=T.getD t .undef:=fun t aC=>(tX fS T t).2 (rI t aC)
  have Bf: ∀E':Env,(∀t,(opI ops y.i).dst≠some t→E'.mL t=E.mL t)→ ∀x∈ord,(S.setIfInBounds y.i true).getD x.i false=false→k7 (opI ops x.i)=true→x.q=true→ ∀d,(opI ops x.i).dst=some d→E'.mL d=none:=fun E' hml x hx hu ai M_ d aL=>by
   obtain⟨km,nd⟩:=Ab _ hu
   rw[hml d (D.apart.inj x hx y ax nd d aL)]
   exact I.b_ x hx km ai M_ d aL
  unfold wpOp
  rw[mH ay]
  simp only
  have uh:y∈pre∨y∈post:=by rw[I.k9] at ax;exact List.mem_append.1 ax
  rcases uh with oo | oo
  ·
   obtain⟨al,v,run,F⟩:=I.facts y oo (by rw[iI];exact lP)
   rw[iI] at F
   have hw:=F.e6 E a Dx I.size
   have next: ∀(u:Value) (E':Env),Step E E'→SimH E' H→SimL E' L→(∀t,(opI ops y.i).dst≠some t→E'.mL t=E.mL t)→V3 E' v u→wpAny P .any ops (jn bx Q) ha (S.setIfInBounds y.i true) (a.put (opI ops y.i).dst u) E'.w:=fun u E' aM mw my hml hv=>by
    refine aT _ _ _ pre post E' T L H CZ tV hC ⟨I.k9,fun x hx=>sn _ (fun e=> ?_) (I.sw x hx),I.head,I.xu,fun x hx hu=>I.facts x hx (Ab _ hu).1,fun t=> ?_,by rw[Gg];exact I.size,mw,my,I.rj.step aM,Bf E' hml,Gc _ _ I.xd,rfl⟩
    ·have hD:=D.nodup
     rw[I.k9,List.map_append,List.nodup_append] at hD
     exact hD.2.2 y.i (List.mem_map_of_mem oo) x.i (List.mem_map_of_mem hx) (by rw[iI,e])
    ·by_cases aL:(opI ops y.i).dst=some t
     ·right
      rw[aL]
      by_cases ak:t<T.length
      ·rw[F.put t aL ak,Gf (by rw[←I.size];exact ak)];exact hv
      ·rw[List.getD_eq_getElem?_getD,List.getElem?_eq_none (Nat.not_lt.1 ak)];exact V3.undef _ _
     ·rcases I.fy t with⟨x,hx,hu,rQ⟩ | h
      ·exact .inl ⟨x,hx,sn _ (fun e=>aL (by rw[←e];exact rQ)) hu,rQ⟩
      ·right;rw[Gd aL];exact h.le aM.le
   cases run with
   | true=>
    rw[if_pos hw]
    refine .inl ?_
    have mo:=F.nE rfl
    cases pK:k7 (opI ops y.i) with
    | true=>
     obtain⟨t,u,E',hv,Mi,q1,q2,q3,q4,_,c4⟩:=Iy (P:=P) (a:=a) I.h I.l pK (fun t aC=>I.b_ y ax (by rw[iI];exact lP) pK al t aC) mo
     rw[←I.w]
     exact c4 _ _ (next u E' q1 q2 q3 (fun s hs=>q4 s fun e=>hs (by rw[Mi,e])) hv)
    | false=>
    rw[pB pK,←Ch (uZ C4)] at mo
    rw[←I.w]
    refine Oper.wp_mono (fun fw w' ⟨cM,u,E',he,mA,hqt,hv,ai⟩=> ?_) (Cj bu (Sub.refl L H) I.h I.l (tE mo))
    subst he;subst mA;subst ai
    exact next u E' hqt.step (hqt.simH I.h) (hqt.simL I.h I.l) (fun t _=>by rw[hqt.mL]) hv
   | false=>
    rw[if_neg (by rw[hw];simp)]
    have hv:=F.no rfl
    subst hv
    rw[←I.w]
    exact next undef E (Step.refl E) I.h I.l (fun _ _=>rfl) ⟨[],rfl,aw.nil⟩
  ·
   have yl: ∃r,post=y::r:=by
    cases ab:post with
    | nil=>rw[ab] at oo;cases oo
    | cons x r=>
     rw[ab] at oo
     rcases List.mem_cons.1 oo with rfl | Nf
     ·exact⟨r,rfl⟩
     ·have hb:=D.wA
      rw[I.k9,ab] at hb
      have:=(hb.at (I.head x r ab)).1 y Nf
      rw[iI] at this
      have h1:=xU x.i this
      rw[I.sw x (by rw[ab];exact List.mem_cons_self ..)] at h1;cases h1
   obtain⟨r,MT⟩:=yl
   subst MT
   have al:=I.head y r rfl
   have mo:=I.xu
   obtain⟨hS,run,kZ,mq,hw,dH⟩:=CM (P:=P) mo
   have hw:=hw E a Dx I.size
   have xV:=D.apart
   rw[I.k9] at xV
   have Di:=h5.Eh xV
   have L6:=(show nK A [] (pre++y::r) from I.k9▸D.wA).at al
   have hD:=D.nodup
   rw[I.k9,List.map_append,List.map_cons,List.nodup_append,List.nodup_cons] at hD
   have MQ: ∀x∈pre,S.getD x.i false=false→x.i∈y.gg:=fun x hx hu=>by
    rcases L6.2 x (by simpa using hx) with h | h
    ·rw[iI] at h
     have:=xU x.i h
     rw[hu] at this;cases this
    ·exact h

   have next: ∀(v:AV) (u:Value) (L':List (Nat×List AV)) (H':List Blk) (E':Env),Step E E'→SimH E' H'→SimL E' L'→(∀t,(opI ops y.i).dst≠some t→E'.mL t=E.mL t)→V3 E' v u→gM P esc ops r (putA hS (opI ops y.i).dst v) L' H' (fun T L H=>Q .normal ⟨T,L,H⟩)→
     (∀x∈pre,S.getD x.i false=false→ ∃v run,o9 P ops L' H' hS (opI ops x.i) v run)→
     wpAny P .any ops (jn bx Q) ha (S.setIfInBounds y.i true) (a.put (opI ops y.i).dst u) E'.w:=by
    intro v u L' H' E' aM ag aY hml hv hK Ms
    obtain⟨zy,QA,j_,yn,MO,MS,Mo,hlen,eP,rE⟩:=z_ r _ (h5.tail (p:=[y]) (h5.tail xV)) hK
    have yo: ∀z∈zy,z∈r:=fun z an=>by rw[yn];exact List.mem_append_left _ an
    have C0: ∀t,(∀z∈y::r,(opI ops z.i).dst≠some t)→j_.getD t .undef=hS.getD t .undef:=fun t aC=>by
     rw[eP t fun z an=>aC z (List.mem_cons_of_mem _ (yo z an)),u7 (aC y (List.mem_cons_self ..))]
    refine aT _ _ _ (pre++y::zy) QA E' j_ L' H' CZ tV hC ⟨by rw[I.k9,yn];simp,fun x hx=> ?_,MS,Mo,fun x hx hu=> ?_,fun t=> ?_,by rw[Gg,hlen,qi,kZ];exact I.size,ag,aY,I.rj.step aM,Bf E' hml,Gc _ _ I.xd,rfl⟩
    ·have ur:x∈r:=by rw[yn];exact List.mem_append_right _ hx
     exact sn _ (fun e=>hD.2.1.1 (by rw[iI,←e];exact List.mem_map_of_mem ur)) (I.sw x (List.mem_cons_of_mem _ ur))
    ·obtain⟨km,nd⟩:=Ab _ hu
     rcases List.mem_append.1 hx with hx | hx
     ·refine⟨(I.facts x hx km).1,?_⟩
      obtain⟨cM,run',F⟩:=Ms x hx km
      refine⟨cM,run',F.mono (by rw[hlen,qi]) (fun t aC=>C0 t fun z an=>(Di x hx).1 t aC z an) fun d aL=>C0 d fun z an=>(Di x hx).2 d aL z an⟩
     ·rcases List.mem_cons.1 hx with rfl | hx
      ·exact absurd iI nd
      ·exact⟨MO x hx,rE x hx⟩
    ·by_cases rA: ∃z∈zy,(opI ops z.i).dst=some t
     ·obtain⟨z,an,k3⟩:=rA
      refine .inl ⟨z,by simp[an],sn _ (fun e=>hD.2.1.1 (by rw[iI,←e];exact List.mem_map_of_mem (yo z an))) (I.sw z (List.mem_cons_of_mem _ (yo z an))),k3⟩
     ·have aO:=eP t fun z an q=>rA ⟨z,an,q⟩
      by_cases aL:(opI ops y.i).dst=some t
      ·right
       rw[iI] at aL aO
       rw[aO,aL]
       by_cases ak:t<hS.length
       ·rw[F_ ak,Gf (by rw[←I.size,←kZ];exact ak)];exact hv
       ·rw[List.getD_eq_getElem?_getD,List.getElem?_eq_none (by rw[qi];exact Nat.not_lt.1 ak)];exact V3.undef _ _
      ·rw[u7 aL,mq] at aO
       rcases I.fy t with⟨x,hx,hu,rQ⟩ | h
       ·refine .inl ⟨x,by simp[hx],sn _ (fun e=>aL (by rw[iI,←e];exact rQ)) hu,rQ⟩
       ·right;rw[aO,Gd (by rw[←iI];exact aL)];exact h.le aM.le
   cases run with
   | true=>
    rw[if_pos hw]
    refine .inl ?_
    have dH:(match y.q with
     | true=>_
     | false=>gL P esc (opI ops y.i) (bt hS) L H fun v L' H'=>mi P ops y.gg hS L' H'∧gM P esc ops r (putA hS (opI ops y.i).dst v) L' H' (fun T L H=>Q .normal ⟨T,L,H⟩)):=dH
    rw[al] at dH
    have dH:gL P esc (opI ops y.i) (bt hS) L H fun v L' H'=>mi P ops y.gg hS L' H'∧gM P esc ops r (putA hS (opI ops y.i).dst v) L' H' (fun T L H=>Q .normal ⟨T,L,H⟩):=dH
    rw[←Ki (uZ fun t aC=>(C4 t aC).trans (mq t).symm)] at dH
    rw[←I.w]
    refine Oper.wp_mono (fun fw w' ⟨v,u,L',H',E',⟨kV,hK⟩,mA,q1,q2,q3,q4,ai,hml⟩=> ?_) (evOp_sound bu I.h I.l dH)
    subst mA;subst ai
    refine next v u L' H' E' q1 q2 q3 hml q4 hK fun x hx hu=> ?_
    obtain⟨f1,f2,f3⟩:=Cz kV x.i (MQ x hx hu)
    refine⟨_,true,⟨fun E a hs an=> ?_,fun _=>f3,fun e=>(by cases e),fun d aL ay=> ?_⟩⟩
    ·unfold Region.wanted
     cases rG:(opI ops x.i).guard with
     | none=>rfl
     | some g=>rw[rG] at f1;cases f1
    ·unfold mZ;rw[aL]
   | false=>
    rw[if_neg (by rw[hw];simp)]
    rw[←I.w]
    refine next (.tup []) undef L H E (Step.refl E) I.h I.l (fun _ _=>rfl) ⟨[],rfl,aw.nil⟩ dH fun x hx hu=> ?_
    obtain⟨_,cM,run',F⟩:=I.facts x hx hu
    exact⟨cM,run',F.mono kZ (fun t _=>mq t) fun d _=>mq d⟩
end
def s4 (ops:Array Oper):List Item→Bool
 | []=>true
 | x::r=>((opI ops x.i).looksAt ops).all (fun t=>(x::r).all fun y=>(opI ops y.i).dst !=some t)&&(match(opI ops x.i).dst with
  | some d=>r.all fun y=>(opI ops y.i).dst !=some d
  | none=>true)&&s4 ops r
theorem Bo {ops:Array Oper}: ∀{l:List Item},s4 ops l=true→h5 ops l
 | [],_=>trivial
 | x::r,h=>by
  simp only[s4,Bool.and_eq_true] at h
  obtain⟨⟨h1,h2⟩,ao⟩:=h
  refine⟨fun t aC y ax=> ?_,fun d aL y ax=> ?_,Bo ao⟩
  ·have:=List.all_eq_true.1 (List.all_eq_true.1 h1 t aC) y ax
   simpa using this
  ·rw[aL] at h2
   have:=List.all_eq_true.1 h2 y ax
   simpa using this
def s8 (A:Nat→List Nat):List Item→List Item→Bool
 | _,[]=>true
 | p,h::r=>(h.q || (r.all (fun y=>(A y.i).contains h.i)&&p.all fun x=>(A h.i).contains x.i || h.gg.contains x.i))&&s8 A (p++[h]) r
theorem Bs {A:Nat→List Nat}: ∀{l p:List Item},s8 A p l=true→nK A p l
 | [],_,_=>trivial
 | h::r,p,hb=>by
  simp only[s8,Bool.and_eq_true] at hb
  refine⟨fun al=> ?_,Bs hb.2⟩
  have h1:=hb.1
  rw[al,Bool.false_or,Bool.and_eq_true] at h1
  refine⟨fun y ax=>by simpa using List.all_eq_true.1 h1.1 y ax,fun x hx=> ?_⟩
  have:=List.all_eq_true.1 h1.2 x hx
  simpa using this
def uT:List Nat→Bool
 | []=>true
 | x::r=> !r.contains x&&uT r
theorem FJ: ∀{l:List Nat},uT l=true→l.Nodup
 | [],_=>List.nodup_nil
 | x::r,h=>by
  simp only[uT,Bool.and_eq_true] at h
  rw[List.nodup_cons]
  exact⟨by simpa using h.1,FJ h.2⟩
def px (ops:Array Oper) (ord:List Item) (A:Nat→List Nat):Bool:=
 (List.range ops.size).all (fun i=>(opI ops i).after.toList.all (fun e=> !Region.binds .any e || decide (e.on<i))&&(A i).all fun a=>(opI ops i).after.toList.any fun e=>Region.binds .any e&&(a==e.on || (A e.on).contains a))&&
 (List.range ops.size).all (fun i=>ord.any fun x=>x.i==i)&&ord.all (fun x=>decide (x.i<ops.size))&&uT (ord.map (·.i))&&
 ord.all (fun x=>((opI ops x.i).looksAt ops).all fun t=>ord.all fun y=>(opI ops y.i).dst !=some t || (A x.i).contains y.i)&&s4 ops ord&&s8 A [] ord
theorem JW {ops:Array Oper} {ord:List Item} {A:Nat→List Nat} (bG: ∀i,ops.size≤i→A i=[]) (h:px ops ord A=true):sD ops ord A:=by
 simp only[px,Bool.and_eq_true] at h
 obtain⟨⟨⟨⟨⟨⟨h1,h2⟩,ao⟩,a8⟩,cw⟩,cZ⟩,iT⟩:=h
 have get: ∀i o,ops[i]?=some o→i<ops.size∧o=opI ops i:=fun i o br=>by
  have ay:i<ops.size:=by
   rcases Nat.lt_or_ge i ops.size with h | h
   ·exact h
   ·rw[Array.getElem?_eq_none h] at br;cases br
  rw[mH ay] at br
  exact⟨ay,(Option.some.inj br).symm⟩
 refine⟨fun i o br e he hb=> ?_,fun i o br a ai=> ?_,fun i hi=> ?_,fun x hx=> ?_,FJ a8,fun x hx t aC y ax aL=> ?_,Bo cZ,Bs iT⟩
 ·obtain⟨ay,rfl⟩:=get i o br
  have:=List.all_eq_true.1 h1 i (List.mem_range.2 ay)
  rw[Bool.and_eq_true] at this
  have:=List.all_eq_true.1 this.1 e (by simpa using he)
  rw[hb] at this;simpa using this
 ·obtain⟨ay,rfl⟩:=get i o br
  have:=List.all_eq_true.1 h1 i (List.mem_range.2 ay)
  rw[Bool.and_eq_true] at this
  have:=List.all_eq_true.1 this.2 a ai
  obtain⟨e,he,hc⟩:=List.any_eq_true.1 this
  rw[Bool.and_eq_true] at hc
  exact⟨e,by simpa using he,hc.1,by simpa using hc.2⟩
 ·obtain⟨x,hx,hc⟩:=List.any_eq_true.1 (List.all_eq_true.1 h2 i (List.mem_range.2 hi))
  exact⟨x,hx,by simpa using hc⟩
 ·simpa using List.all_eq_true.1 ao x hx
 ·have:=List.all_eq_true.1 (List.all_eq_true.1 (List.all_eq_true.1 cw x hx) t aC) y ax
  rw[Bool.or_eq_true] at this
  rcases this with h | h
  ·rw[aL] at h;simp at h
  ·simpa using h
def q0 (gD:List (List Nat)) (i:Nat):List Nat:=gD.getD i []
theorem Env.B4 (E:Env):Step E {E with w:=E.w.drew}:=
 ⟨⟨fun _ h=>h,fun _ h=>h,fun _ _=>rfl,fun _ _=>rfl,fun _=>Nat.le_refl _,fun _ _ h _=>⟨h,rfl,rfl⟩,fun _ _ h=>h⟩,rfl,rfl,rfl,Nat.le_refl _,fun _ _ _ _=>rfl,fun _ _ h=> .inl h,fun _ h=> .inl h,fun _ h=> .inl h,fun _ h=> .inl h⟩
theorem JZ {E:Env} {H:List Blk} (h:SimH E H):SimH {E with w:=E.w.drew} H:=
 {h with
  heap:=fun b c hb=>by
   obtain⟨blk,ad,ty,q1,bJ,q2,q3,q4,cI,c4⟩:=h.heap b c hb
   exact⟨blk,ad,ty,q1,bJ,q2,q3,q4,cI,fun i j row a aa O=>by obtain⟨u,hu,hv⟩:=c4 i j row a aa O;exact⟨u,hu,hv.le (Env.B4 E).le.aW⟩⟩}
theorem Pl (n:Nat):left n (Array.replicate n false)=n:=by
 unfold left
 have:(List.range n).countP (fun j=> !(Array.replicate n false).getD j false)=(List.range n).countP (fun _=>true):=by
  refine List.countP_congr fun x hx=> ?_
  rw[Array.getD_eq_getD_getElem?,Array.getElem?_replicate]
  split<;>simp
 rw[this,List.countP_true,List.length_range]
def n5:List (Nat×List AV)→List (Nat×List AV)→Bool
 | [],_=>true
 | (t,_)::r,L=>(cG L t).isNone&&n5 r L
def nR (ops:Array Oper) (L:List (Nat×List AV)):List Item→Bool
 | []=>true
 | x::r=>(match x.q&&k7 (opI ops x.i) with
  | false=>true
  | true=>match(opI ops x.i).dst with
   | none=>true
   | some d=>(cG L d).isNone)&&nR ops L r
theorem CE {E:Env} {L:List (Nat×List AV)} (aY:SimL E L): ∀{fA:List (Nat×List AV)},n5 fA L=true→SimL E (fA++L)
 | [],_=>aY
 | (t,c)::r,h=>by
  simp only[n5,Bool.and_eq_true,Option.isNone_iff_eq_none] at h
  exact(CE aY h.2).cons (aY.none h.1)
theorem Bh {ops:Array Oper} {E:Env} {L:List (Nat×List AV)} (aY:SimL E L): ∀{l:List Item},nR ops L l=true→ ∀x∈l,k7 (opI ops x.i)=true→x.q=true→ ∀d,(opI ops x.i).dst=some d→E.mL d=none
 | [],_,x,hx,_,_,_,_=>by cases hx
 | y::r,h,x,hx,ai,al,d,aL=>by
  simp only[nR,Bool.and_eq_true] at h
  rcases List.mem_cons.1 hx with rfl | hx
  ·have h1:=h.1
   rw[al,ai] at h1
   simp only[Bool.and_self] at h1
   rw[aL] at h1
   exact aY.none (by simpa using h1)
  ·exact Bh aY h.2 x hx ai al d aL
theorem WpS.Gz [bF] {P:Program} {esc:List Nat} {c:Code} {id:Nat} {ops:Array Oper} {Q:Exit→St→Prop} {T:List AV} {L:List (Nat×List AV)} {H:List Blk} (ord:List Item) (gD:List (List Nat)) (hm:P.follows .mixedOrders=true)
  (ak:gD.length=ops.size) (aL:px ops ord (q0 gD)=true) (e:c= .region id ops true) (fA:List (Nat×List AV)) (hf:n5 fA L=true) (an:nR ops L ord=true) (h:gM P esc ops ord T (fA++L) H (fun T L H=>Q .normal ⟨T,L,H⟩)):WpS P c Q ⟨T,L,H⟩:=by
 subst e
 intro bx E a g s d
 have D:=JW (fun i hi=>by unfold q0;rw[List.getD_eq_getElem?_getD,List.getElem?_eq_none (by omega)];rfl) aL
 refine wp_region_any hm ?_
 obtain⟨pre,post,j_,aa,ab,MR,mo,hlen,eP,rE⟩:=z_ ord T D.apart h
 have lP: ∀j,(Array.replicate ops.size false).getD j false=false:=fun j=>by
  rw[Array.getD_eq_getD_getElem?,Array.getElem?_replicate];split<;>rfl
 have aM:=Env.B4 E
 have hw:(show World from{E.w with drawn:=E.w.drawn+1})=({E with w:=E.w.drew}:Env).w:=rfl
 refine JV D ops.size _ a _ pre post {E with w:=E.w.drew} j_ (fA++L) H (by simp) (Pl _) (fun i o br O=> ?_) ⟨aa,fun x hx=>lP _,MR,mo,fun x hx _=>⟨ab x hx,rE x hx⟩,fun t=> ?_,by rw[hlen];exact s.size,JZ s.h,CE ?_ hf,g.step aM,fun x hx _ ai al d aL=>Bh s.l an x hx ai al d aL,d,rfl⟩
 ·rw[lP] at O;cases O
 ·by_cases rA: ∃z∈pre,(opI ops z.i).dst=some t
  ·obtain⟨z,an,k3⟩:=rA
   exact .inl ⟨z,an,lP _,k3⟩
  ·right
   rw[eP t fun z an q=>rA ⟨z,an,q⟩]
   exact(s.fy t).le aM.le
 ·intro t c hm
  obtain⟨cells,ad,ty,q1,q2,q3⟩:=s.l t c hm
  exact⟨cells,ad,ty,q1,q2,q3.mono fun _ _ k=>k.le aM.le.aW⟩
theorem r7 {φ ψ:Prop} (e:φ=ψ) (h:ψ):φ:=e▸h
def rY (ops:Array Oper):List (Oper×Bool):=ops.toList.map fun o=>(o,true)
theorem WpS.GA [bF] {P:Program} {esc:List Nat} {c:Code} {id:Nat} {ops:Array Oper} {Q:Exit→St→Prop} {T:List AV} {L:List (Nat×List AV)} {H:List Blk} (e:c= .region id ops false)
  (h:evOps P esc ops (rY ops) T L H (fun T L H=>Q .normal ⟨T,L,H⟩)):WpS P c Q ⟨T,L,H⟩:=by
 subst e
 intro bx E a g s d
 refine wp_region_list ?_
 have:=tD (rY ops) T L H E a g s d h
 have e2:(rY ops).map (·.1)=ops.toList:=by
  unfold rY;rw[List.map_map];exact List.map_id' _
 rwa [e2] at this
section
variable {P:Program} {esc:List Nat} {ops:Array Oper} {l dy:List Item} {T T':List AV} {L L':List (Nat×List AV)} {H H':List Blk} {K:List AV→List (Nat×List AV)→List Blk→Prop}
end
def d_:List (Nat×AV)→Nat→AV
 | [],_=> .undef
 | (k,v)::r,t=>match Nat.beq k t with
  | true=>v
  | false=>d_ r t
def ih:List (Nat×AV)→Nat→List (Nat×AV)
 | [],_=>[]
 | (k,v)::r,t=>match Nat.beq k t with
  | true=>ih r t
  | false=>(k,v)::ih r t
def c9 (n:Nat):List (Nat×AV)→Bool
 | []=>true
 | (k,_)::r=>match Nat.blt k n with
  | true=>c9 n r
  | false=>false
@[irreducible] def bd (n:Nat) (A:List (Nat×AV)):List AV:=(List.range n).map (d_ A)
def j1 (n:Nat) (A:List (Nat×AV)) (dst:Option Nat) (v:AV):List (Nat×AV):=match dst with
 | none=>A
 | some d=>match Nat.blt d n with
  | true=>(d,v)::ih A d
  | false=>A
def la (A:List (Nat×AV)):Operand→AV
 | .tmp t=>d_ A t
 | .const v=>ke v
 | .func f=> .fn f []
 | .global _=> .undef
theorem PH (A:List (Nat×AV)) (d t:Nat):d_ (ih A d) t=if d=t then .undef else d_ A t:=by
 induction A with
 | nil=>simp[ih,d_]
 | cons p r aT=>
  obtain⟨k,v⟩:=p
  have ue:d_ ((k,v)::r) t=match Nat.beq k t with
   | true=>v
   | false=>d_ r t:=rfl
  rw[ue]
  cases h1:Nat.beq k d with
  | true=>
   have aO:=Nat.eq_of_beq_eq_true h1
   rw[show ih ((k,v)::r) d=ih r d by simp[ih,h1],aT]
   subst aO
   cases h2:Nat.beq k t with
   | true=>have e2:=Nat.eq_of_beq_eq_true h2;simp[e2]
   | false=>rfl
  | false=>
   rw[show ih ((k,v)::r) d=(k,v)::ih r d by simp[ih,h1],show d_ ((k,v)::ih r d) t=match Nat.beq k t with
    | true=>v
    | false=>d_ (ih r d) t from rfl]
   cases h2:Nat.beq k t with
   | true=>
    have e2:=Nat.eq_of_beq_eq_true h2
    have: ¬d=t:=fun e=>by subst e;subst e2;rw[Nat.beq_refl] at h1;cases h1
    simp[this]
   | false=>simp only;rw[aT]
theorem Fi {n:Nat}: ∀{A:List (Nat×AV)} {t:Nat},c9 n A=true→n≤t→d_ A t= .undef
 | [],t,_,_=>rfl
 | (k,v)::r,t,h,aC=>by
  unfold c9 at h
  split at h
  ·rename_i hk
   have hk:k<n:=by rw[←Nat.blt_eq];exact hk
   unfold d_
   cases h2:Nat.beq k t with
   | true=>have:=Nat.eq_of_beq_eq_true h2;omega
   | false=>exact Fi h aC
  ·cases h
theorem zc {n d:Nat}: ∀{A:List (Nat×AV)},c9 n A=true→c9 n (ih A d)=true
 | [],h=>rfl
 | (k,v)::r,h=>by
  unfold c9 at h
  split at h
  ·rename_i hk
   unfold ih
   split
   ·exact zc h
   ·unfold c9;rw[hk];exact zc h
  ·cases h
theorem zd {n:Nat} {A:List (Nat×AV)} (h:c9 n A=true) (dst:Option Nat) (v:AV):c9 n (j1 n A dst v)=true:=by
 unfold j1
 split
 ·exact h
 ·split
  ·rename_i aL;unfold c9;rw[aL];exact zc h
  ·exact h
theorem nm (n:Nat) (A:List (Nat×AV)):(bd n A).length=n:=by unfold bd;simp
theorem lW {n:Nat} {A:List (Nat×AV)} (h:c9 n A=true) (t:Nat):(bd n A).getD t .undef=d_ A t:=by
 unfold bd
 rw[List.getD_eq_getElem?_getD,List.getElem?_map]
 rcases Nat.lt_or_ge t n with ay | eo
 ·rw[List.getElem?_range ay];rfl
 ·rw[List.getElem?_eq_none (by simpa using eo),Fi h eo];rfl
theorem zh {n:Nat} {A:List (Nat×AV)} (dst:Option Nat) (v:AV):putA (bd n A) dst v=bd n (j1 n A dst v):=by
 cases dst with
 | none=>rfl
 | some d=>
  show(bd n A).set d v=bd n (match Nat.blt d n with
   | true=>(d,v)::ih A d
   | false=>A)
  cases aL:Nat.blt d n with
  | true=>
   apply List.ext_getElem?
   intro t
   unfold bd
   rw[List.getElem?_set]
   simp only[List.length_map,List.length_range,List.getElem?_map]
   rcases Nat.lt_or_ge t n with ay | eo
   ·rw[List.getElem?_range ay]
    by_cases he:d=t
    ·subst he;simp[ay,d_]
    ·have hb:Nat.beq d t=false:=by
      cases al:Nat.beq d t with
      | true=>exact absurd (Nat.eq_of_beq_eq_true al) he
      | false=>rfl
     simp[he,d_,hb,PH]
   ·rw[List.getElem?_eq_none (l:=List.range n) (by simpa using eo)]
    by_cases he:d=t
    ·subst he;simp[Nat.not_lt.2 eo]
    ·simp[he]
  | false=>
   have: ¬d<n:=fun h=>by rw[←Nat.blt_eq,aL] at h;cases h
   exact List.set_eq_of_length_le (by rw[nm];omega)
theorem uM {n:Nat} {A:List (Nat×AV)} (h:c9 n A=true):bt (bd n A)=la A:=by
 funext o
 cases o with
 | tmp t=>exact lW h t
 | _=>rfl
theorem Fv {n:Nat} {A:List (Nat×AV)} (h:c9 n A=true) {t:Nat} {b:Bool} (hb:d_ A t= .bool b):(bd n A).set t (.bool b)=bd n A:=by
 apply List.ext_getElem?
 intro s
 rw[List.getElem?_set]
 by_cases he:t=s
 ·subst he
  rw[if_pos rfl]
  rcases Nat.lt_or_ge t n with ay | eo
  ·rw[if_pos (by rw[nm];exact ay)]
   unfold bd
   rw[List.getElem?_map,List.getElem?_range ay]
   show _=some (d_ A t)
   rw[hb]
  ·rw[if_neg (by rw[nm];omega),List.getElem?_eq_none (by rw[nm];omega)]
 ·rw[if_neg he]
def m4 (ops:Array Oper) (o:Oper) (A:List (Nat×AV)) (x y:Prop):Prop:=match o.guard with
 | none=>x
 | some (j,e6)=>match(ops[j]?).bind (·.dst) with
  | none=>False
  | some t=>match d_ A t with
   | .bool b=>(match b with
    | true=>(match e6 with
     | true=>x
     | false=>y)
    | false=>(match e6 with
     | true=>y
     | false=>x))
   | .tup []=>y
   | _=>False
theorem CK {ops:Array Oper} {o:Oper} {n:Nat} {A:List (Nat×AV)} (h:c9 n A=true) {x y:List AV→Prop}:jN ops true o (bd n A) x y=m4 ops o A (x (bd n A)) (y (bd n A)):=by
 unfold jN m4
 cases o.guard with
 | none=>rfl
 | some g=>
  obtain⟨j,e6⟩:=g
  simp only
  cases(ops[j]?).bind (·.dst) with
  | none=>rfl
  | some t=>
   simp only
   rw[lW h t]
   cases hb:d_ A t with
   | bool b=>
    cases b with
    | true=>simp only[kJ];rw[Fv h hb];cases e6<;>rfl
    | false=>simp only[kJ];rw[Fv h hb];cases e6<;>rfl
   | tup l=>cases l<;>rfl
   | _=>rfl
def evS (P:Program) (esc:List Nat) (ops:Array Oper) (n:Nat):List Oper→List (Nat×AV)→List (Nat×List AV)→List Blk→(List (Nat×AV)→List (Nat×List AV)→List Blk→Prop)→Prop
 | [],A,L,H,K=>K A L H
 | o::rest,A,L,H,K=>m4 ops o A
   (match o.op with
    | .pick c x y=>kc (la A c) fun z=>(match z with
     | true=>evS P esc ops n rest (j1 n A o.dst (la A x)) L H K
     | false=>evS P esc ops n rest (j1 n A o.dst (la A y)) L H K)
    | _=>gL P esc o (la A) L H fun v L' H'=>evS P esc ops n rest (j1 n A o.dst v) L' H' K)
   (evS P esc ops n rest (j1 n A o.dst (.tup [])) L H K)
theorem xw {P:Program} {esc:List Nat} {ops:Array Oper} {n:Nat} {K:List AV→List (Nat×List AV)→List Blk→Prop}: ∀(l:List Oper) (A:List (Nat×AV)) (L:List (Nat×List AV)) (H:List Blk),c9 n A=true→
  evOps P esc ops (l.map fun o=>(o,true)) (bd n A) L H K=evS P esc ops n l A L H fun A L H=>K (bd n A) L H
 | [],A,L,H,h=>rfl
 | o::rest,A,L,H,h=>by
  show jN ops true o (bd n A) _ _=_
  rw[CK h]
  show m4 ops o A _ _=m4 ops o A _ _
  have e2:evOps P esc ops (rest.map fun o=>(o,true)) (putA (bd n A) o.dst (.tup [])) L H K=evS P esc ops n rest (j1 n A o.dst (.tup [])) L H fun A L H=>K (bd n A) L H:=by
   rw[zh,xw rest _ _ _ (zd h _ _)]
  have xp: ∀v L H,evOps P esc ops (rest.map fun o=>(o,true)) (putA (bd n A) o.dst v) L H K=evS P esc ops n rest (j1 n A o.dst v) L H fun A L H=>K (bd n A) L H:=fun v L H=>by
   rw[zh,xw rest _ _ _ (zd h _ _)]
  rw[e2]
  congr 1
  unfold oJ
  rw[uM h]
  cases dG:o.op<;>simp only[xp]
  case pick c x y=>
   unfold kc
   cases la A c<;>first | rfl | (rename_i z;cases z<;>rfl)
theorem WpS.zR [bF] {P:Program} {esc:List Nat} {c:Code} {id n:Nat} {ops:Array Oper} {Q:Exit→St→Prop} {A:List (Nat×AV)} {L:List (Nat×List AV)} {H:List Blk} (e:c= .region id ops false) (af:c9 n A=true)
  (h:evS P esc ops n (ops.toList.drop 0) A L H (fun A L H=>Q .normal ⟨bd n A,L,H⟩)):WpS P c Q ⟨bd n A,L,H⟩:=
 WpS.GA (esc:=esc) e (by unfold rY;rw[xw _ _ _ _ af];exact h)
def xh (o:Oper) (A:List (Nat×AV)):AV:=match o.dst with
 | some d=>d_ A d
 | none=> .undef
def m3 (P:Program) (ops:Array Oper):List Nat→List (Nat×AV)→List (Nat×List AV)→List Blk→Prop
 | [],_,_,_=>True
 | i::r,A,L,H=>((opI ops i).guard.isNone=true∧(opI ops i).dst.isSome=true∧hU P (opI ops i) (la A) L H (fun v=>v=xh (opI ops i) A))∧m3 P ops r A L H
def evSD (P:Program) (esc:List Nat) (ops:Array Oper) (n:Nat):List Item→List (Nat×AV)→List (Nat×List AV)→List Blk→(List (Nat×AV)→List (Nat×List AV)→List Blk→Prop)→Prop
 | [],A,L,H,K=>K A L H
 | x::rest,A,L,H,K=>m4 ops (opI ops x.i) A
   (match x.q with
    | true=>hU P (opI ops x.i) (la A) L H fun v=>evSD P esc ops n rest (j1 n A (opI ops x.i).dst v) L H K
    | false=>gL P esc (opI ops x.i) (la A) L H fun v L' H'=>m3 P ops x.gg A L' H'∧evSD P esc ops n rest (j1 n A (opI ops x.i).dst v) L' H' K)
   (evSD P esc ops n rest (j1 n A (opI ops x.i).dst (.tup [])) L H K)
theorem CA {P:Program} {ops:Array Oper} {n:Nat} {A:List (Nat×AV)} {L:List (Nat×List AV)} {H:List Blk} (h:c9 n A=true): ∀l:List Nat,mi P ops l (bd n A) L H=m3 P ops l A L H
 | []=>rfl
 | i::r=>by
  show(_∧_)=(_∧_)
  rw[CA h r,uM h]
  have:mZ (opI ops i) (bd n A)=xh (opI ops i) A:=by
   unfold mZ xh
   cases(opI ops i).dst with
   | none=>rfl
   | some d=>exact lW h d
  rw[this]
theorem Cf {P:Program} {esc:List Nat} {ops:Array Oper} {n:Nat} {K:List AV→List (Nat×List AV)→List Blk→Prop}: ∀(l:List Item) (A:List (Nat×AV)) (L:List (Nat×List AV)) (H:List Blk),l.all (·.lit)=true→c9 n A=true→
  gM P esc ops l (bd n A) L H K=evSD P esc ops n l A L H fun A L H=>K (bd n A) L H
 | [],A,L,H,ak,h=>rfl
 | x::rest,A,L,H,ak,h=>by
  simp only[List.all_cons,Bool.and_eq_true] at ak
  show jN ops x.lit (opI ops x.i) (bd n A) _ _=_
  rw[ak.1,CK h]
  show m4 ops (opI ops x.i) A _ _=m4 ops (opI ops x.i) A _ _
  have xp: ∀v L H,gM P esc ops rest (putA (bd n A) (opI ops x.i).dst v) L H K=evSD P esc ops n rest (j1 n A (opI ops x.i).dst v) L H fun A L H=>K (bd n A) L H:=fun v L H=>by
   rw[zh,Cf rest _ _ _ ak.2 (zd h _ _)]
  simp only[xp,uM h,CA h]
  first
  | done
  | (cases x.q<;>rfl)
theorem WpS.QT [bF] {P:Program} {esc:List Nat} {c:Code} {id n:Nat} {ops:Array Oper} {Q:Exit→St→Prop} {A:List (Nat×AV)} {L:List (Nat×List AV)} {H:List Blk} (ord:List Item) (gD:List (List Nat)) (hm:P.follows .mixedOrders=true)
  (ak:gD.length=ops.size) (aL:px ops ord (q0 gD)=true) (ye:ord.all (·.lit)=true) (e:c= .region id ops true) (af:c9 n A=true) (fA:List (Nat×List AV)) (hf:n5 fA L=true) (an:nR ops L ord=true) (h:evSD P esc ops n (ord.drop 0) A (fA++L) H (fun A L H=>Q .normal ⟨bd n A,L,H⟩)):WpS P c Q ⟨bd n A,L,H⟩:=
 WpS.Gz (esc:=esc) ord gD hm ak aL e fA hf an (by rw[Cf _ _ _ _ ye af];exact h)
theorem Weak.fy [bF] {T T':List AV} {L:List (Nat×List AV)} {H:List Blk} (ak:T'.length=T.length) (h: ∀t,T'.getD t .undef=T.getD t .undef∨T'.getD t .undef= .undef):Weak ⟨T,L,H⟩ ⟨T',L,H⟩:=fun bx E tmps g s=>
 ⟨E,rfl,g,s.h,s.l,fun t=>by
  show V3 E (T'.getD t .undef) _
  rcases h t with e | e<;>rw[e]
  ·exact s.fy t
  ·exact V3.undef _ _,by show T'.length=_;rw[ak];exact s.size⟩
def j0 (A:List (Nat×AV)):List (Nat×AV)→List (Nat×AV)
 | []=>[]
 | (k,_)::r=>(k,d_ A k)::j0 A r
theorem y_ {A:List (Nat×AV)}: ∀(B:List (Nat×AV)) (t:Nat),d_ (j0 A B) t=d_ A t∨d_ (j0 A B) t= .undef
 | [],t=> .inr rfl
 | (k,v)::r,t=>by
  show(match Nat.beq k t with
   | true=>d_ A k
   | false=>d_ (j0 A r) t)=d_ A t∨_
  cases h:Nat.beq k t with
  | true=>have:=Nat.eq_of_beq_eq_true h;subst this;exact .inl rfl
  | false=>
   rcases y_ r t with e | e
   ·exact .inl e
   ·right;show(match Nat.beq k t with
     | true=>d_ A k
     | false=>d_ (j0 A r) t)=_
    rw[h];exact e
def rZ (bQ:List Nat):List (Nat×AV)→Bool
 | []=>true
 | (_,v)::r=>ks bQ v&&rZ bQ r
theorem Fk {bQ:List Nat}: ∀{A:List (Nat×AV)},rZ bQ A=true→ ∀t,ks bQ (d_ A t)=true
 | [],h,t=>rfl
 | (k,v)::r,h,t=>by
  simp only[rZ,Bool.and_eq_true] at h
  unfold d_
  cases Nat.beq k t with
  | true=>exact h.1
  | false=>exact Fk h.2 t
theorem Sv [bF] {n:Nat} {A b9:List (Nat×AV)} {L L':List (Nat×List AV)} {H:List Blk} (bQ:List Nat) (bG:c9 n A=true) (kg:c9 n b9=true) (ab:rZ bQ b9=true) (iR:j0 A b9=b9) (eV:jH bQ L=L'):Weak ⟨bd n A,L,H⟩ ⟨bd n b9,L',H⟩:=by
 subst eV
 refine(Weak.fy (T':=bd n b9) (by rw[nm,nm]) fun t=> ?_).trans (Weak.jH bQ ?_)
 ·rw[lW bG,lW kg,←iR];exact y_ b9 t
 ·rw[List.all_eq_true]
  intro a ai
  obtain⟨t,aC⟩:=List.mem_iff_getElem?.1 ai
  have e:(bd n b9).getD t .undef=a:=by rw[List.getD_eq_getElem?_getD,aC];rfl
  rw[lW kg] at e
  rw[←e]
  exact Fk ab t
theorem sx [bF] {n:Nat} {A b9:List (Nat×AV)} {L:List (Nat×List AV)} {H:List Blk} (bG:c9 n A=true) (kg:c9 n b9=true) (iR:j0 A b9=b9):Weak ⟨bd n A,L,H⟩ ⟨bd n b9,L,H⟩:=
 Weak.fy (T':=bd n b9) (by rw[nm,nm]) fun t=>by rw[lW bG,lW kg,←iR];exact y_ b9 t
theorem JC {n:Nat} {A:List (Nat×AV)} {o:Operand} {b:Bool} {L:List (Nat×List AV)} {H:List Blk} (af:c9 n A=true) (h:la A o= .bool b):bt (St.mk (bd n A) L H).T o= .bool b:=by
 show bt (bd n A) o=_
 rw[uM af,h]
def oO (P:Program) (A:List (Nat×AV)) (L:List (Nat×List AV)) (H:List Blk):List ResultVar→(List AV→Prop)→Prop
 | [],K=>K []
 | .tmp t::rs,K=>oO P A L H rs fun l=>K (d_ A t::l)
 | .cell a t::rs,K=>kq P t (d_ A a) L H fun x=>oO P A L H rs fun l=>K (x::l)
theorem zS {P:Program} {n:Nat} {A:List (Nat×AV)} {L:List (Nat×List AV)} {H:List Blk} (af:c9 n A=true): ∀(rs:List ResultVar) (K:List AV→Prop),nv P ⟨bd n A,L,H⟩ rs K=oO P A L H rs K
 | [],K=>rfl
 | .tmp t::rs,K=>by
  show nv P ⟨bd n A,L,H⟩ rs (fun l=>K ((bd n A).getD t .undef::l))=oO P A L H rs fun l=>K (d_ A t::l)
  rw[lW af];exact zS af rs _
 | .cell a t::rs,K=>by
  show kq P t ((bd n A).getD a .undef) L H _=kq P t (d_ A a) L H _
  rw[lW af]
  congr 1
  funext x
  exact zS af rs _
theorem GD {P:Program} {fn:Func} {n:Nat} {A:List (Nat×AV)} {L:List (Nat×List AV)} {H:List Blk} {r:AV} {Q:AV→List Blk→Prop} (af:c9 n A=true) (l:List AV) (e: ∀K,oO P A L H fn.results.toList K=K l) (aa:l.all h3=true) (hw:qD l=r) (h:Q r H):qT P fn Q .ret ⟨bd n A,L,H⟩:=by
 show qj P fn ⟨bd n A,L,H⟩ Q
 unfold qj
 rw[zS af,e]
 exact⟨aa,by rw[hw];exact h⟩
theorem Cg {P:Program} {esc:List Nat} {ops:Array Oper} {n:Nat} {K:List (Nat×AV)→List (Nat×List AV)→List Blk→Prop}: ∀(rV jW:List Oper) (A:List (Nat×AV)) (L:List (Nat×List AV)) (H:List Blk),
  evS P esc ops n (rV++jW) A L H K=evS P esc ops n rV A L H fun A L H=>evS P esc ops n jW A L H K
 | [],jW,A,L,H=>rfl
 | o::r,jW,A,L,H=>by
  show evS P esc ops n (o::(r++jW)) A L H K=_
  simp only[evS,Cg r jW]
theorem n4 {P:Program} {esc:List Nat} {ops:Array Oper} {n:Nat} {K:List (Nat×AV)→List (Nat×List AV)→List Blk→Prop} {A:List (Nat×AV)} {L:List (Nat×List AV)} {H:List Blk} (X:List Oper) (i k:Nat):
  evS P esc ops n (X.drop i) A L H K=evS P esc ops n ((X.drop i).take k) A L H fun A L H=>evS P esc ops n (X.drop (i+k)) A L H K:=by
 rw[←Cg,←List.drop_drop,List.take_append_drop]
theorem Ce {P:Program} {esc:List Nat} {ops:Array Oper} {n:Nat} {K:List (Nat×AV)→List (Nat×List AV)→List Blk→Prop}: ∀(rV jW:List Item) (A:List (Nat×AV)) (L:List (Nat×List AV)) (H:List Blk),
  evSD P esc ops n (rV++jW) A L H K=evSD P esc ops n rV A L H fun A L H=>evSD P esc ops n jW A L H K
 | [],jW,A,L,H=>rfl
 | o::r,jW,A,L,H=>by
  show evSD P esc ops n (o::(r++jW)) A L H K=_
  simp only[evSD,Ce r jW]
theorem pC {P:Program} {esc:List Nat} {ops:Array Oper} {n:Nat} {K:List (Nat×AV)→List (Nat×List AV)→List Blk→Prop} {A:List (Nat×AV)} {L:List (Nat×List AV)} {H:List Blk} (X:List Item) (i k:Nat):
  evSD P esc ops n (X.drop i) A L H K=evSD P esc ops n ((X.drop i).take k) A L H fun A L H=>evSD P esc ops n (X.drop (i+k)) A L H K:=by
 rw[←Ce,←List.drop_drop,List.take_append_drop]
theorem map_set {α β:Type} (f:α→β) (xs:List α) (i:Nat) (x:α):(List.map f xs).set i (f x)=List.map f (xs.set i x):=by
 rw[List.map_set]
theorem qw {H:List Blk} {α:Type} {eT eF:α→List AV} {b g sz n:Nat} {full:Bool} {xs ys:List α} (af:n=xs.length) (hb:H[b]?=some ⟨g,sz,List.map eT xs⟩) (hc: ∀x,hr H (eT x) (eF x)) (h:xs.length≤4611686018427387904∧xs=ys):
  en H (.ref b g 0 n full) (.av (List.map eF ys) false true):=af▸Hu hb hc h
theorem Q6 {L:List (Nat×List AV)} {H:List Blk} {α:Type} {eT eF:α→List AV} {b g sz n:Nat} {full:Bool} {xs:List α} (aA:n=xs.length) (hb:H[b]?=some ⟨g,sz,List.map eT xs⟩) (hc: ∀x,kE L H (eT x) (eF x)) (af:xs.length≤4611686018427387904):
  dQ L H (.ref b g 0 n full) (.av (List.map eF xs) false false):=aA▸GV hb hc af
theorem zY {α:Type} {enc:α→List AV} {k:Nat} (h: ∀x,(enc x).length=k∧(enc x).all fY=true) (ys:List α):nx k (List.map enc ys):=fun row aa=>by
 obtain⟨x,_,rfl⟩:=List.mem_map.1 aa
 exact⟨(h x).1,fun a ai=>List.all_eq_true.1 (h x).2 a ai⟩
def lv:List (Nat×AV)→List (Nat×AV)→List (Nat×AV)
 | [],R=>R
 | p::N,R=>p::lv N R
def B3:List (Nat×AV)→List (Nat×AV)→List (Nat×AV)
 | [],A=>A
 | p::N,A=>ih (B3 N A) p.1
def gA (N A:List (Nat×AV)):List (Nat×AV):=lv N (B3 N A)
def fE (d:Option Nat) (v:AV) (N A:List (Nat×AV)):List (Nat×AV):=match d with
 | some d=>gA ((d,v)::N) A
 | none=>gA N A
abbrev aG (n:Int):AV:= .int .i64 n
abbrev aP (b:Bool):AV:= .bool b
abbrev b_ {α:Type} (e:α→List AV) (x:List α):AV:= .av (List.map e x) false false
abbrev aK:AV:= .av [] true true
abbrev nQ {α:Type} (e:α→List AV) (x:List α):AV:= .av (List.map e x) false true
abbrev aD (b g n:Nat):AV:= .ref b g 0 n false
abbrev aZ (t c:Nat):AV:= .dn t c
abbrev t0:AV:= .tup []
def FL:Bool→List Nat→Bool×List Nat
 | b,0::m=>FL (!b) m
 | b,m=>(b,m)
def ir {α:Type} (b:Bool) (m:List Nat):List α→List α
 | []=>[]
 | x::l=>match FL b m with
  | (true,(n+1)::m)=>x::ir true (n::m) l
  | (false,(n+1)::m)=>ir false (n::m) l
  | _=>[]
theorem vm {α:Type} {n:Nat} {m:List Nat} {x:α} {l:List α}:ir true ((n+1)::m) (x::l)=x::ir true (n::m) l:=rfl
theorem vl {α:Type} {n:Nat} {m:List Nat} {x:α} {l:List α}:ir false ((n+1)::m) (x::l)=ir false (n::m) l:=rfl
theorem vn {α:Type} {m:List Nat} {l:List α}:ir true (0::m) l=ir false m l:=by cases l<;>rfl
theorem self {α:Type} {m:List Nat} {l:List α}:ir false (0::m) l=ir true m l:=by cases l<;>rfl
theorem vk {α:Type} {b:Bool} {l:List α}:ir b [] l=[]:=by cases b<;>cases l<;>rfl
def gu (j:Nat) (r:List (List AV)):List Blk→List Blk
 | []=>[]
 | b::H=>match j with
  | 0=>⟨b.aE,b.sz,r⟩::H
  | j+1=>b::gu j r H
def fT (i j:Nat) (a:AV):List (Nat×List AV)→List (Nat×List AV)
 | []=>[]
 | x::L=>match i with
  | 0=>(x.1,x.2.set j a)::L
  | i+1=>x::fT i j a L
def er (i:Nat) (a:List AV):List (Nat×List AV)→List (Nat×List AV)
 | []=>[]
 | x::L=>match i with
  | 0=>(x.1,a)::L
  | i+1=>x::er i a L
def dv (i:Nat) (b:Blk):List Blk→List Blk
 | []=>[]
 | x::H=>match i with
  | 0=>b::H
  | i+1=>x::dv i b H
section
variable {i j k:Nat} {a:AV} {c l:List AV} {L:List (Nat×List AV)} {x:Nat×List AV} {b y:Blk} {H:List Blk}
theorem J7:fT 0 j a ((k,c)::L)=(k,c.set j a)::L:=rfl
theorem J8:fT (i+1) j a (x::L)=x::fT i j a L:=rfl
theorem Kf:er 0 l ((k,c)::L)=(k,l)::L:=rfl
theorem Kg:er (i+1) l (x::L)=x::er i l L:=rfl
theorem IT:dv 0 b (y::H)=b::H:=rfl
theorem IU:dv (i+1) b (y::H)=y::dv i b H:=rfl
end
abbrev az (i:Nat):Item:=⟨i,true,true,[]⟩
abbrev rg (a b:Nat):List Nat:=List.range' a (b - a)
def pe [bF] {V:Type} (S:V→St) (mT:V→Prop) (Q:Exit→St→Prop) (ex:Exit) (s:St):Prop:=match ex with
 | .normal=> ∃v,mT v∧Weak s (S v)
 | ex=>Q ex s
theorem pe.normal [bF] {V:Type} {S:V→St} {mT:V→Prop} {Q:Exit→St→Prop} {s:St} (v:V) (h:mT v) (hw:Weak s (S v)):pe S mT Q .normal s:=⟨v,h,hw⟩
theorem pe.ret [bF] {V:Type} {S:V→St} {mT:V→Prop} {Q:Exit→St→Prop} {s:St} (h:Q .ret s):pe S mT Q .ret s:=h
theorem pe.exit [bF] {V:Type} {S:V→St} {mT:V→Prop} {Q:Exit→St→Prop} {s:St} {id:Nat} (h:Q (.exit id) s):pe S mT Q (.exit id) s:=h
section
variable {P:Program} {b:Code} {k n:Nat} {Q:Exit→St→Prop} {ac:St} {A b9:List (Nat×AV)} {L L':List (Nat×List AV)} {H H':List Blk}
theorem nY [bF] (S:St) (ψ:Prop) (h:WpS P (bg b (2*k)) (fs S ψ Q) ac) (al:ψ→WpS P (bg b (2*k+1)) Q S) (e:bg b k= .seq (bg b (2*k)) (bg b (2*k+1)):=by kernel_rfl):WpS P (bg b k) Q ac:=WpS.sm S e h al
theorem lC [bF] (N:List (Nat×AV)) (m:List Nat) (ψ:Prop) (h:WpS P (bg b (2*k)) (fs ⟨bd n b9,L,H⟩ ψ Q) ⟨bd n A,L,H⟩) (al:ψ→WpS P (bg b (2*k+1)) Q ⟨bd n b9,L,H⟩) (bG:lv N (ir true m A)=b9:=by simp only[lv,vm,vl,vn,self,vk];rfl) (e:bg b k= .seq (bg b (2*k)) (bg b (2*k+1)):=by kernel_rfl):WpS P (bg b k) Q ⟨bd n A,L,H⟩:=WpS.sm _ e h al
theorem mf [bF] (N:List (Nat×AV)) (m:List Nat) (Kr:List (Nat×List AV)→List (Nat×List AV)) (Kq:List Blk→List Blk) (ψ:Prop) (h:WpS P (bg b (2*k)) (fs ⟨bd n b9,L',H'⟩ ψ Q) ⟨bd n A,L,H⟩) (al:ψ→WpS P (bg b (2*k+1)) Q ⟨bd n b9,L',H'⟩) (aY:Kr L=L':=by first | (simp only[id,J7,J8,Kf,Kg,List.set_cons_zero,List.set_cons_succ];rfl) | (dsimp only;rfl) | rfl) (ag:Kq H=H':=by first | (simp only[id,IT,IU,List.cons_append,List.nil_append];rfl) | (dsimp only;rfl) | rfl) (bG:lv N (ir true m A)=b9:=by simp only[lv,vm,vl,vn,self,vk];rfl) (e:bg b k= .seq (bg b (2*k)) (bg b (2*k+1)):=by kernel_rfl):WpS P (bg b k) Q ⟨bd n A,L,H⟩:=WpS.sm _ e h al
theorem pu [bF] (h:WpS P (bg b (2*k)) (hQ P (bg b (2*k+1)) Q) ac) (e:bg b k= .seq (bg b (2*k)) (bg b (2*k+1)):=by kernel_rfl):WpS P (bg b k) Q ac:=WpS.seq' e h
theorem wK [bF] (o:Operand) (z:Bool) (h1:z=true→WpS P (bg b (2*k)) Q ⟨bd n A,L,H⟩) (h2:z=false→WpS P (bg b (2*k+1)) Q ⟨bd n A,L,H⟩) (e:bg b k= .cond o (bg b (2*k)) (bg b (2*k+1)):=by kernel_rfl)
  (af:c9 n A=true:=by kernel_rfl) (br:la A o= .bool z:=by kernel_rfl):WpS P (bg b k) Q ⟨bd n A,L,H⟩:=WpS.JB e (JC af br) h1 h2
theorem mW [bF] (id:Nat) (h:WpS P (bg b (2*k)) (hy id Q) ac) (e:bg b k= .block id (bg b (2*k)):=by kernel_rfl):WpS P (bg b k) Q ac:=WpS.IY e h
theorem mY [bF] (h:Q .normal ac) (e:bg b k= .skip:=by kernel_rfl):WpS P (bg b k) Q ac:=WpS.Rc e h
theorem me [bF] (h:Q .ret ac) (e:bg b k= .ret:=by kernel_rfl):WpS P (bg b k) Q ac:=WpS.QW e h
theorem tg [bF] (id:Nat) (h:Q (.exit id) ac) (e:bg b k= .exit id:=by kernel_rfl):WpS P (bg b k) Q ac:=WpS.Kl e h
theorem th [bF] {V:Type} (S:V→St) (I:V→Prop) (m:V→Nat) (v0:V) (hs:Weak ac (S v0)) (aA:I v0) (round: ∀v,I v→WpS P (bg b (2*k)) (ix S I m v Q) (S v)) (e:bg b k= .loop (bg b (2*k)):=by kernel_rfl):WpS P (bg b k) Q ac:=
 WpS.Fj S I m e v0 hs aA round
theorem gB [bF] (esc:List Nat) (id:Nat) (h:evS P esc (hI b k) n ((hI b k).toList.drop 0) A L H (fun A L H=>Q .normal ⟨bd n A,L,H⟩)) (e:bg b k= .region id (hI b k) false:=by kernel_rfl) (af:c9 n A=true:=by kernel_rfl):WpS P (bg b k) Q ⟨bd n A,L,H⟩:=
 WpS.zR (esc:=esc) e af h
theorem zV [bF] (esc:List Nat) (id:Nat) (ord:List Item) (gD:List (List Nat)) (fA:List (Nat×List AV)) (h:evSD P esc (hI b k) n (ord.drop 0) A (fA++L) H (fun A L H=>Q .normal ⟨bd n A,L,H⟩)) (hm:P.follows .mixedOrders=true:=by kernel_rfl) (ak:gD.length=(hI b k).size:=by kernel_rfl)
  (aL:px (hI b k) ord (q0 gD)=true:=by kernel_rfl) (ye:ord.all (·.lit)=true:=by kernel_rfl) (e:bg b k= .region id (hI b k) true:=by kernel_rfl) (af:c9 n A=true:=by kernel_rfl) (hf:n5 fA L=true:=by kernel_rfl) (an:nR (hI b k) L ord=true:=by kernel_rfl):WpS P (bg b k) Q ⟨bd n A,L,H⟩:=
 WpS.QT (esc:=esc) ord gD hm ak aL ye e af fA hf an h
theorem mX [bF] (esc:List Nat) (id:Nat) (l8:List (Nat×AV)) (ze m:List Nat) (al:WpS P (bg b (2*k+1)) Q ⟨bd n b9,L,H⟩) (bG:lv (ir true ze l8) (ir true m A)=b9:=by simp only[lv,vm,vl,vn,self,vk];rfl) (e:bg b k= .seq (bg b (2*k)) (bg b (2*k+1)):=by kernel_rfl)
  (e2:bg b (2*k)= .region id (hI b (2*k)) false:=by kernel_rfl) (af:c9 n A=true:=by kernel_rfl) (cg: ∀K,evS P esc (hI b (2*k)) n ((hI b (2*k)).toList.drop 0) A L H K=K (gA l8 A) L H:=by intro K;kernel_rfl) (iR:j0 (gA l8 A) b9=b9:=by kernel_rfl)
  (h1:c9 n (gA l8 A)=true:=by kernel_rfl) (h2:c9 n b9=true:=by kernel_rfl):WpS P (bg b k) Q ⟨bd n A,L,H⟩:=
 WpS.sm ⟨bd n b9,L,H⟩ (ψ:=True) e (WpS.zR (esc:=esc) e2 af (by rw[cg];exact⟨trivial,sx h1 h2 iR⟩)) fun _=>al
theorem ti [bF] (esc:List Nat) (id:Nat) (l8:List (Nat×AV)) (ze m:List Nat) (L':List (Nat×List AV)) (H':List Blk) (al:WpS P (bg b (2*k+1)) Q ⟨bd n b9,L',H'⟩) (bG:lv (ir true ze l8) (ir true m A)=b9:=by simp only[lv,vm,vl,vn,self,vk];rfl) (e:bg b k= .seq (bg b (2*k)) (bg b (2*k+1)):=by kernel_rfl)
  (e2:bg b (2*k)= .region id (hI b (2*k)) false:=by kernel_rfl) (af:c9 n A=true:=by kernel_rfl) (cg: ∀K,evS P esc (hI b (2*k)) n ((hI b (2*k)).toList.drop 0) A L H K=K (gA l8 A) L' H':=by intro K;kernel_rfl) (iR:j0 (gA l8 A) b9=b9:=by kernel_rfl)
  (h1:c9 n (gA l8 A)=true:=by kernel_rfl) (h2:c9 n b9=true:=by kernel_rfl):WpS P (bg b k) Q ⟨bd n A,L,H⟩:=
 WpS.sm ⟨bd n b9,L',H'⟩ (ψ:=True) e (WpS.zR (esc:=esc) e2 af (by rw[cg];exact⟨trivial,sx h1 h2 iR⟩)) fun _=>al
theorem pt [bF] {t:Nat} {z:Bool} (h1:z=true→WpS P (bg b (2*k)) Q ⟨bd n ((t,.bool z)::A),L,H⟩) (h2:z=false→WpS P (bg b (2*k+1)) Q ⟨bd n ((t,.bool z)::A),L,H⟩) (e:bg b k= .cond (.tmp t) (bg b (2*k)) (bg b (2*k+1)):=by kernel_rfl)
  (af:c9 n ((t,.bool z)::A)=true:=by kernel_rfl):WpS P (bg b k) Q ⟨bd n ((t,.bool z)::A),L,H⟩:=wK (.tmp t) z h1 h2 e af (by show d_ ((t,.bool z)::A) t=_;unfold d_;rw[show Nat.beq t t=true from Nat.beq_refl t])
theorem ej.go {f:FuncId} {fn:Func} {args:List AV} {H:List Blk} {R:AV→List Blk→Prop} (A:List (Nat×AV)) (hf:P.funcs[f]?=some fn) (h: ∀fQ:bF,fQ.n=H.length→WpS P (bg (lB fn) 1) (qT P fn R) ⟨bd fn.ntmps A,[],H⟩) (hb:fn.body=some (bg (lB fn) 1):=by kernel_rfl) (af:(fn.name== "runtime.NumGoroutine")=false:=by kernel_rfl)
  (hi:uA fn args H=⟨bd fn.ntmps A,[],H⟩:=by kernel_rfl):ej P f args H R:=ej.FO hf hb af fun fQ hg=>hi▸h fQ hg
theorem zZ {fn:Func} {R:AV→List Blk→Prop} (r:AV) (h:R r H) (af:c9 n A=true:=by kernel_rfl) (e: ∀K,oO P A L H fn.results.toList K=K [r]:=by intro K;kernel_rfl) (aa:[r].all h3=true:=by kernel_rfl):qT P fn R .ret ⟨bd n A,L,H⟩:=GD af [r] e aa rfl h
theorem l3 [bF] (iR:j0 A b9=b9:=by kernel_rfl) (bG:c9 n A=true:=by kernel_rfl) (kg:c9 n b9=true:=by kernel_rfl):Weak ⟨bd n A,L,H⟩ ⟨bd n b9,L,H⟩:=sx bG kg iR
theorem nD [bF] (bQ:List Nat) (bG:c9 n A=true:=by kernel_rfl) (kg:c9 n b9=true:=by kernel_rfl) (ab:rZ bQ b9=true:=by kernel_rfl) (iR:j0 A b9=b9:=by kernel_rfl) (eV:jH bQ L=L':=by kernel_rfl):Weak ⟨bd n A,L,H⟩ ⟨bd n b9,L',H⟩:=Sv bQ bG kg ab iR eV
theorem qp {fn:Func} {R:AV→List Blk→Prop} (r:AV) (l:List AV) (h:R r H) (af:c9 n A=true:=by kernel_rfl) (e: ∀K,oO P A L H fn.results.toList K=K l:=by intro K;kernel_rfl) (aa:l.all h3=true:=by kernel_rfl) (hw:qD l=r:=by kernel_rfl):qT P fn R .ret ⟨bd n A,L,H⟩:=GD af l e aa hw h
end
section
variable {P:Program} {esc:List Nat} {ops:Array Oper} {n:Nat} {X:List Oper} {i0:Nat} {A:List (Nat×AV)} {L:List (Nat×List AV)} {H:List Blk} {K:List (Nat×AV)→List (Nat×List AV)→List Blk→Prop}
theorem jh [bF] {b9:List (Nat×AV)} {L':List (Nat×List AV)} {H':List Blk} {ψ:Prop} {Q:Exit→St→Prop} (N:List (Nat×AV)) (ab:ψ) (iR:j0 (gA N A) b9=b9:=by kernel_rfl) (e: ∀K,evS P esc ops n (X.drop i0) A L H K=K (gA N A) L' H':=by intro K;kernel_rfl)
  (bG:c9 n (gA N A)=true:=by kernel_rfl) (kg:c9 n b9=true:=by kernel_rfl):evS P esc ops n (X.drop i0) A L H (fun A L H=>fs ⟨bd n b9,L',H'⟩ ψ Q .normal ⟨bd n A,L,H⟩):=by
 rw[e];exact⟨ab,sx bG kg iR⟩
theorem qq (N:List (Nat×AV)) (h:K (gA N A) L H) (e: ∀K,evS P esc ops n (X.drop i0) A L H K=K (gA N A) L H:=by intro K;kernel_rfl):evS P esc ops n (X.drop i0) A L H K:=by
 rw[e];exact h
theorem GS (N:List (Nat×AV)) (L':List (Nat×List AV)) (H':List Blk) (h:K (gA N A) L' H') (e: ∀K,evS P esc ops n (X.drop i0) A L H K=K (gA N A) L' H':=by intro K;kernel_rfl):evS P esc ops n (X.drop i0) A L H K:=by
 rw[e];exact h
theorem GU (cs:Nat) (d:Option Nat) (N:List (Nat×AV)) {α:Type} [Inhabited α] (enc:α→List AV) (xs:List α) {i:Int} (m:Nat)
  (aA:0≤i∧i.toNat<xs.length) (h:evS P esc ops n (X.drop (i0+cs)) (fE d (.cv (enc (nth xs i)) 0) N A) L H K) (af: ∀x,(enc x).length=m:=by exact fun _=>rfl)
  (e: ∀K,evS P esc ops n ((X.drop i0).take cs) A L H K=(0≤i∧ci (List.map enc xs)[i.toNat]? fun row=>row.length=m∧K (fE d (.cv row 0) N A) L H):=by intro K;kernel_rfl):evS P esc ops n (X.drop i0) A L H K:=by
 rw[n4 X i0 cs,e]
 refine⟨aA.1,dq (a:=enc (nth xs i)) ?_ ⟨af _,h⟩⟩
 rw[List.getElem?_map,hG aA.2];rfl
theorem GR (cs:Nat) (d:Option Nat) (N:List (Nat×AV)) {g:FuncId} (args:List AV) {cR:List AV} {t:AV}
  (hf:bh P g cR t) (hs:aw (fB L H) args cR) (h:evS P esc ops n (X.drop (i0+cs)) (fE d t N A) L H K) (af:args.all c3=true:=by kernel_rfl) (e: ∀K,evS P esc ops n ((X.drop i0).take cs) A L H K=iA P g args L H (fun v L' H'=>K (fE d v N A) L' H'):=by intro K;kernel_rfl):evS P esc ops n (X.drop i0) A L H K:=by
 rw[n4 X i0 cs,e];exact .inl ⟨af,cR,t,hs,hf,h⟩
theorem z8 (cs:Nat) (d:Option Nat) (N:List (Nat×AV)) {α:Type} (enc:α→List AV) {i:Int} (B:Int) (z:List AV) (b:Nat) (H':List (List AV)→List Blk) (bL:α) (aA:0≤i∧B*i≤140737488355328∧i≤4611686018427387904)
  (h:evS P esc ops n (X.drop (i0+cs)) (fE d (.ref b 0 0 (List.replicate i.toNat bL).length false) N A) L (H' (List.map enc (List.replicate i.toNat bL))) K) (an:z=enc bL:=by rfl)
  (e: ∀K,evS P esc ops n ((X.drop i0).take cs) A L H K=(0≤i∧i≤i∧B*i≤140737488355328∧i≤4611686018427387904∧K (fE d (.ref b 0 0 i.toNat false) N A) L (H' (List.replicate i.toNat z))):=by intro K;kernel_rfl):evS P esc ops n (X.drop i0) A L H K:=by
 rw[n4 X i0 cs,e]
 refine⟨aA.1,Int.le_refl _,aA.2.1,aA.2.2,?_⟩
 ·rw[an,←List.map_replicate];rw[List.length_replicate] at h;exact h
theorem GP (cs:Nat) (d:Option Nat) (N:List (Nat×AV)) {α:Type} (enc:α→List AV) (xs ys:List α) (bn:List (List AV)) (b g s B:Nat) (H':List (List AV)→List Blk) (hx:bn=List.map enc ys) (aA:(xs.length+ys.length)*B≤140737488355328∧xs.length+ys.length≤4611686018427387904)
  (h:evS P esc ops n (X.drop (i0+cs)) (fE d (.ref b (g+1) 0 (xs++ys).length false) N A) L (H' (List.map enc (xs++ys))) K) (hk: ∀x,(enc x).length=s∧(enc x).all fY=true:=by exact fun _=>⟨rfl,rfl⟩)
  (e: ∀K,evS P esc ops n ((X.drop i0).take cs) A L H K=(true=true∧true=true∧nx s bn∧0=0∧g=g∧s=s∧(List.map enc xs).length=xs.length∧(xs.length+bn.length)*B≤140737488355328∧xs.length+bn.length≤4611686018427387904∧K (fE d (.ref b (g+1) 0 (xs.length+bn.length) false) N A) L (H' (List.map enc xs++bn))):=by intro K;kernel_rfl):evS P esc ops n (X.drop i0) A L H K:=by
 rw[n4 X i0 cs,e]
 subst hx
 refine⟨rfl,rfl,zY hk ys,rfl,rfl,rfl,List.length_map ..,by rw[List.length_map];exact aA.1,by rw[List.length_map];exact aA.2,?_⟩
 ·rw[List.length_append] at h;rw[List.length_map,←List.map_append];exact h
theorem GQ (cs:Nat) (d:Option Nat) (N:List (Nat×AV)) {α:Type} (enc:α→List AV) (ys:List α) (bn:List (List AV)) (b s B:Nat) (H':List (List AV)→List Blk) (hx:bn=List.map enc ys) (aA:ys.length*B≤140737488355328∧ys.length≤4611686018427387904)
  (h:evS P esc ops n (X.drop (i0+cs)) (fE d (.ref b 0 0 ys.length false) N A) L (H' (List.map enc ys)) K) (hk: ∀x,(enc x).length=s∧(enc x).all fY=true:=by exact fun _=>⟨rfl,rfl⟩)
  (e: ∀K,evS P esc ops n ((X.drop i0).take cs) A L H K=(true=true∧true=true∧nx s bn∧true=true∧(∀row∈([]:List (List AV)),row.length=s)∧(List.length (α:=List AV) []+bn.length)*B≤140737488355328∧List.length (α:=List AV) []+bn.length≤4611686018427387904∧(([]:List (List AV))≠[]→bn≠[])∧
   K (fE d (.ref b 0 0 (List.length (α:=List AV) []+bn.length) false) N A) L (H' ([]++bn))):=by intro K;kernel_rfl):evS P esc ops n (X.drop i0) A L H K:=by
 rw[n4 X i0 cs,e]
 subst hx
 refine⟨rfl,rfl,zY hk ys,rfl,(fun row h=>by cases h),by simpa using aA.1,by simpa using aA.2,(fun h=>absurd rfl h),?_⟩
 ·simpa using h
theorem sLen (cs:Nat) (d:Option Nat) (N:List (Nat×AV)) {α:Type} (enc:α→List AV) (xs:List α) (h:xs.length≤4611686018427387904→evS P esc ops n (X.drop (i0+cs)) (fE d (.int .i64 (xs.length:Nat)) N A) L H K)
  (e: ∀K,evS P esc ops n ((X.drop i0).take cs) A L H K=((List.map enc xs).length≤4611686018427387904→K (fE d (.int .i64 ((List.map enc xs).length:Nat)) N A) L H):=by intro K;kernel_rfl):evS P esc ops n (X.drop i0) A L H K:=by
 rw[n4 X i0 cs,e,List.length_map];exact h
theorem Q5 (cs:Nat) (d:Option Nat) (N:List (Nat×AV)) {α:Type} (enc:α→List AV) (xs:List α) (h1:xs≠[]→evS P esc ops n (X.drop (i0+cs)) (fE d (.bool false) N A) L H K) (h2:xs=[]→ ∀b,evS P esc ops n (X.drop (i0+cs)) (fE d (.bool b) N A) L H K)
  (e: ∀K,evS P esc ops n ((X.drop i0).take cs) A L H K=((List.map enc xs≠[]→K (fE d (.bool false) N A) L H)∧(List.map enc xs=[]→ ∀b,K (fE d (.bool b) N A) L H)):=by intro K;kernel_rfl):evS P esc ops n (X.drop i0) A L H K:=by
 rw[n4 X i0 cs,e]
 exact⟨fun h=>h1 fun e=>h (by rw[e];rfl),fun h=>h2 (by simpa using h)⟩
end
section
variable {P:Program} {esc:List Nat} {ops:Array Oper} {n:Nat} {X:List Item} {i0:Nat} {A:List (Nat×AV)} {L:List (Nat×List AV)} {H:List Blk} {K:List (Nat×AV)→List (Nat×List AV)→List Blk→Prop}
theorem R6 [bF] {b9:List (Nat×AV)} {L':List (Nat×List AV)} {H':List Blk} {ψ:Prop} {Q:Exit→St→Prop} (N:List (Nat×AV)) (ab:ψ) (iR:j0 (gA N A) b9=b9:=by kernel_rfl) (e: ∀K,evSD P esc ops n (X.drop i0) A L H K=K (gA N A) L' H':=by intro K;kernel_rfl)
  (bG:c9 n (gA N A)=true:=by kernel_rfl) (kg:c9 n b9=true:=by kernel_rfl):evSD P esc ops n (X.drop i0) A L H (fun A L H=>fs ⟨bd n b9,L',H'⟩ ψ Q .normal ⟨bd n A,L,H⟩):=by
 rw[e];exact⟨ab,sx bG kg iR⟩
theorem HH (N:List (Nat×AV)) (h:K (gA N A) L H) (e: ∀K,evSD P esc ops n (X.drop i0) A L H K=K (gA N A) L H:=by intro K;kernel_rfl):evSD P esc ops n (X.drop i0) A L H K:=by
 rw[e];exact h
theorem vz (cs:Nat) (N:List (Nat×AV)) (L':List (Nat×List AV)) (H':List Blk) {φ:Prop} (h1:φ) (h:evSD P esc ops n (X.drop (i0+cs)) (gA N A) L' H' K) (e: ∀K,evSD P esc ops n ((X.drop i0).take cs) A L H K=(φ∧K (gA N A) L' H'):=by intro K;kernel_rfl):evSD P esc ops n (X.drop i0) A L H K:=by
 rw[pC X i0 cs,e];exact⟨h1,h⟩
theorem R5 (cs:Nat) (d:Option Nat) (N:List (Nat×AV)) {α:Type} (enc:α→List AV) (xs ys:List α) (bn:List (List AV)) (b g s B:Nat) (F:List (List AV)→Prop) (H':List (List AV)→List Blk) (hx:bn=List.map enc ys) (aA:(xs.length+ys.length)*B≤140737488355328∧xs.length+ys.length≤4611686018427387904)
  (eJ:F ((List.map enc (xs++ys)))) (h:evSD P esc ops n (X.drop (i0+cs)) (fE d (.ref b (g+1) 0 (xs++ys).length false) N A) L (H' (List.map enc (xs++ys))) K) (hk: ∀x,(enc x).length=s∧(enc x).all fY=true:=by exact fun _=>⟨rfl,rfl⟩)
  (e: ∀K,evSD P esc ops n ((X.drop i0).take cs) A L H K=(true=true∧true=true∧nx s bn∧0=0∧g=g∧s=s∧(List.map enc xs).length=xs.length∧(xs.length+bn.length)*B≤140737488355328∧xs.length+bn.length≤4611686018427387904∧F ((List.map enc xs++bn))∧K (fE d (.ref b (g+1) 0 (xs.length+bn.length) false) N A) L (H' (List.map enc xs++bn))):=by intro K;kernel_rfl):evSD P esc ops n (X.drop i0) A L H K:=by
 rw[pC X i0 cs,e]
 subst hx
 refine⟨rfl,rfl,zY hk ys,rfl,rfl,rfl,List.length_map ..,by rw[List.length_map];exact aA.1,by rw[List.length_map];exact aA.2,?_,?_⟩
 ·rw[←List.map_append];exact eJ
 ·rw[List.length_append] at h;rw[List.length_map,←List.map_append];exact h
theorem HG (cs:Nat) (d:Option Nat) (N:List (Nat×AV)) {g:FuncId} (args:List AV) {cR:List AV} {ff:AV} {cq:List Blk} (F:List (Nat×List AV)→List Blk→Prop) (r:AV) (ll:List Blk)
  (hf:ej P g cR [] fun r H'=>r=ff∧H'=cq) (hs:aw (fB L H) args cR) (yi:r9 cq=true) (J4:H++cq.map (j3 H.length)=ll) (eJ:F L ll)
  (h:evSD P esc ops n (X.drop (i0+cs)) (fE d r N A) L ll K) (af:args.all c3=true:=by kernel_rfl) (br:sa ff=true:=by kernel_rfl) (er:oT H.length ff=r:=by kernel_rfl) (e: ∀K,evSD P esc ops n ((X.drop i0).take cs) A L H K=iA P g args L H (fun v L' H'=>F L' H'∧K (fE d v N A) L' H'):=by intro K;kernel_rfl):evSD P esc ops n (X.drop i0) A L H K:=by
 rw[pC X i0 cs,e]
 subst er;subst J4
 exact .inr (.inl ⟨af,cR,hs,hf.mono fun cL H1 ⟨h1,h2⟩=>by subst h1;subst h2;exact⟨br,yi,eJ,h⟩⟩)
theorem R7 (cs:Nat) (d:Option Nat) (N:List (Nat×AV)) {α:Type} (enc:α→List AV) (xs:List α) (h:evSD P esc ops n (X.drop (i0+cs)) (fE d (.int .i64 (xs.length:Nat)) N A) L H K)
  (e: ∀K,evSD P esc ops n ((X.drop i0).take cs) A L H K=K (fE d (.int .i64 ((List.map enc xs).length:Nat)) N A) L H:=by intro K;kernel_rfl):evSD P esc ops n (X.drop i0) A L H K:=by
 rw[pC X i0 cs,e,List.length_map];exact h
end
inductive ga (H:List Blk) (bo:Nat) (b1:Nat→Option Nat):AV→AV→Prop where
 | int (k:IntKind) (n:Int):ga H bo b1 (.int k n) (.int k n)
 | bool (b:Bool):ga H bo b1 (.bool b) (.bool b)
 | str (s:ByteArray):ga H bo b1 (.str s) (.str s)
 | dU:ga H bo b1 .dU .dU
 | eh:ga H bo b1 .eh .eh
 | av (rows:List (List AV)) (full cn fr:Bool) (hw:cn=true→full=true):ga H bo b1 (.av rows full fr) (.av rows cn fr)
 | ref {b g n j:Nat} {full:Bool} {blk:Blk} (O:j<bo) (hs:b1 j=some b) (hb:H[b]?=some blk) (aJ:blk.aE=g):ga H bo b1 (.ref b g 0 n full) (.ref j 0 0 n false)
 | nil {a:AV} {j:Nat} (O:j<bo) (hs:b1 j=none) (h:mC a=true):ga H bo b1 a (.ref j 0 0 0 false)
def wg (H:List Blk) (bo:Nat) (b1:Nat→Option Nat) (a b:AV):Prop:=(∃l dy,a= .agg l∧b= .agg dy∧aw (ga H bo b1) l dy)∨ga H bo b1 a b
structure mU (H cq:List Blk) (b1:Nat→Option Nat):Prop where
 inj: ∀i j b,i<cq.length→j<cq.length→b1 i=some b→b1 j=some b→i=j
 aE: ∀(j:Nat) (k:Blk),cq[j]?=some k→k.aE=0
 blk: ∀(j b:Nat) (k:Blk),cq[j]?=some k→b1 j=some b→ ∃q,H[b]?=some q∧q.sz=k.sz∧aw (aw (ga H cq.length b1)) q.rows k.rows
def Env.own (E:Env) (cq:List Blk) (b1:Nat→Option Nat):Env:=
 {w:=E.w,PA:=E.PA,PF:=E.PF,mL:=fun _=>none,aE:=fun _=>0
  m:=fun j=>if j<cq.length then(match b1 j with
   | some b=>E.m b
   | none=>some none) else none
  sz:=fun j=>(cq[j]?.map Blk.sz).getD 0
  cp:=fun j=>match b1 j with
   | some b=>E.cp b
   | none=>0}
section
variable {E:Env} {H cq:List Blk} {b1:Nat→Option Nat}
theorem FW {j b:Nat} (O:j<cq.length) (hs:b1 j=some b):(E.own cq b1).m j=E.m b:=by
 show(if j<cq.length then _ else _)=_
 rw[if_pos O,hs]
theorem Qo {j:Nat} (O:j<cq.length) (hs:b1 j=none):(E.own cq b1).m j=some none:=by
 show(if j<cq.length then _ else _)=_
 rw[if_pos O,hs]
theorem qc {j:Nat} {x:Option Nat} (h:(E.own cq b1).m j=some x):j<cq.length∧((b1 j=none∧x=none)∨ ∃b,b1 j=some b∧E.m b=some x):=by
 have h:(if j<cq.length then(match b1 j with
   | some b=>E.m b
   | none=>some none) else none)=some x:=h
 split at h
 ·rename_i O
  refine⟨O,?_⟩
  cases hs:b1 j with
  | none=>rw[hs] at h;cases h;exact .inl ⟨rfl,rfl⟩
  | some b=>rw[hs] at h;exact .inr ⟨b,rfl,h⟩
 ·cases h
theorem ga.v1 (ag:SimH E H) (cH:mU H cq b1) {a b:AV} (h:ga H cq.length b1 a b) {v:Value} (hv:be E a v):be (E.own cq b1) b v:=by
 cases h with
 | int k n=>exact hv
 | bool b=>exact hv
 | str s=>exact hv
 | dU=>exact hv
 | eh=>exact hv
 | av rows full cn fr hw=>
  have hv:ar E.w E.PA E.PF (.av rows full fr) v:=hv
  cases hv with
  | av dc c2 dS bz cA hrel=>exact ar.av dc c2 (fun h=>dS (hw h)) bz cA hrel
 | @ref b g n j full blk O hs hb aJ=>
  have gN:=ag.cS b blk hb
  have hk:cq[j]?=some cq[j]:=List.getElem?_eq_getElem O
  obtain⟨q,al,bz,_⟩:=cH.blk j b _ hk hs
  rw[hb] at al
  obtain rfl:=Option.some.inj al
  rcases(show cY E (.ref b g 0 n full) v from hv) with⟨ay,_⟩ | ⟨eo,aX⟩
  ·omega
  ·refine .inr ⟨rfl,?_⟩
   rcases aX with⟨hm,_,af,A,bG⟩ | ⟨c,cap,hm,e,h1,h2,ao⟩
   ·exact .inl ⟨by rw[FW O hs];exact hm,rfl,af,A,bG⟩
   ·refine .inr ⟨c,cap,by rw[FW O hs];exact hm,by rw[e,Nat.zero_mul,Nat.zero_mul],h1,(fun h=>by cases h),?_⟩
    show 0+cap≤(match b1 j with
     | some b=>E.cp b
     | none=>0)
    rw[hs];exact ao
 | nil O hs h=>exact xo (E:=E) h hv rfl (Qo O hs)
theorem Qp (ag:SimH E H) (aY: ∀t,E.mL t=none) (cH:mU H cq b1):SimH (E.own cq b1) cq:=by
 have hd:E.aW=E:=by
  have:E.mL=fun _=>none:=funext aY
  cases E;simp only[Env.aW] at*;subst this;rfl
 have k5: ∀c,(E.own cq b1).dx c→E.dx c:=fun c ⟨j,O⟩=>by
  obtain⟨_,h | ⟨b,_,h⟩⟩:=qc O
  ·cases h.2
  ·exact⟨b,h⟩
 exact{
  heap:=fun j c hm=>by
   obtain⟨O,h | ⟨b,hs,hb⟩⟩:=qc hm
   ·cases h.2
   ·have hk:cq[j]?=some cq[j]:=List.getElem?_eq_getElem O
    obtain⟨q,al,bz,aa⟩:=cH.blk j b _ hk hs
    obtain⟨blk,ad,ty,q1,bJ,q2,q3,q4,cI,c4⟩:=ag.heap b c hb
    rw[al] at q1
    obtain rfl:=Option.some.inj q1
    have aO:(E.own cq b1).sz j=E.sz b:=by
     show(cq[j]?.map Blk.sz).getD 0=_
     rw[hk,bJ,bz];rfl
    have e2:(E.own cq b1).cp j=E.cp b:=by
     show(match b1 j with
      | some b=>E.cp b
      | none=>0)=_
     rw[hs]
    refine⟨_,ad,ty,hk,by rw[aO,bJ,bz],q2,by rw[aO,e2];exact q3,by rw[e2,←aa.1];exact q4,fun i row di=> ?_,fun i l row a di ai=> ?_⟩
    ·have ay:=(List.getElem?_eq_some_iff.1 di).1
     have h1:q.rows[i]?=some (q.rows[i]'(by rw[aa.1];exact ay)):=List.getElem?_eq_getElem _
     rw[aO,←(aa.2 i _ row h1 di).1];exact cI i _ h1
    ·have ay:=(List.getElem?_eq_some_iff.1 di).1
     have h1:q.rows[i]?=some (q.rows[i]'(by rw[aa.1];exact ay)):=List.getElem?_eq_getElem _
     have ab:=aa.2 i _ row h1 di
     have MC:=(List.getElem?_eq_some_iff.1 ai).1
     have h2:=List.getElem?_eq_getElem (l:=q.rows[i]'(by rw[aa.1];exact ay)) (i:=l) (by rw[ab.1];exact MC)
     obtain⟨u,hu,hv⟩:=c4 i l _ _ h1 h2
     rw[hd] at hv
     exact⟨u,by rw[aO];exact hu,(ab.2 l _ a h2 ai).v1 ag cH hv⟩
  cS:=fun j k hk=>(cH.aE j k hk).symm
  e0:=fun j hm=>by
   obtain⟨O,_⟩:=qc hm
   have hk:cq[j]?=some cq[j]:=List.getElem?_eq_getElem O
   exact⟨_,hk,by show(cq[j]?.map Blk.sz).getD 0=_;rw[hk];rfl⟩
  fresh:=fun j O=>⟨by show(if j<cq.length then _ else _)=_;rw[if_neg (by omega)],rfl⟩
  ee:=fun i j c h1 h2=>by
   obtain⟨hi,h | ⟨b,hs,hb⟩⟩:=qc h1
   ·cases h.2
   ·obtain⟨O,h | ⟨bC,kl,e8⟩⟩:=qc h2
    ·cases h.2
    ·have:=ag.ee b bC c hb e8
     subst this
     exact cH.inj i j b hi O hs kl
  gk:=fun t fZ c h=>by cases h
  ey:=fun b t c _ h=>by cases h
  fm:=fun c hc h=>ag.fm c hc (k5 c h)
  fx:=fun c hc ⟨t,h⟩=>by cases h
  ck:=ag.ck
  dz:=ag.dz
  cu:=ag.cu
  dB:=fun c h=>ag.dB c (k5 c h)
  et:=fun c ⟨t,h⟩=>by cases h}
end
theorem ej.toOwn {P:Program} {f:FuncId} {args:List AV} {ff:AV} {cq:List Blk} (h:ej P f args [] fun r H=> ∃b1,mU H cq b1∧wg H cq.length b1 r ff):ej P f args [] fun r H=>r=ff∧H=cq:=by
 refine⟨h.1,fun E vs af hs ai=>(h.2 E vs af hs ai).mono ?_⟩
 rintro e w' ⟨r,v,H',E',rfl,⟨b1,cH,rn⟩,rfl,MD,kl,hv,aM⟩
 refine⟨ff,v,cq,E'.own cq b1,rfl,⟨rfl,rfl⟩,rfl,fun _=>rfl,Qp kl MD cH,?_,?_⟩
 ·rcases rn with⟨l,dy,rfl,rfl,ab⟩ | rn
  ·obtain⟨dh,rfl,al⟩:=(show ∃dh:List Value,v= .agg dh.toArray∧aw (be E') l dh from hv)
   refine⟨dh,rfl,ab.1▸al.1,fun i a u ai hu=> ?_⟩
   have ay:i<l.length:=by rw[ab.1];exact(List.getElem?_eq_some_iff.1 ai).1
   have h1:=List.getElem?_eq_getElem ay
   exact(ab.2 i _ a h1 ai).v1 kl cH (al.2 i _ u h1 hu)
  ·have hE:be E' r v:=by
    rw[kb,ka] at hv
    ·exact hv
    ·rintro l rfl;cases rn with
     | nil O hs hx=>exact absurd hx Bool.false_ne_true
    ·rintro l rfl;cases rn with
     | nil O hs hx=>exact absurd hx Bool.false_ne_true
   exact lq (h_ (rn.v1 kl cH hE))
 ·have k5: ∀c,(E'.own cq b1).dx c→E'.dx c:=fun c ⟨j,O⟩=>by
   obtain⟨_,h | ⟨b,_,h⟩⟩:=qc O
   ·cases h.2
   ·exact⟨b,h⟩
  exact{
   le:=⟨aM.le.dC,aM.le.dr,aM.le.nC,aM.le.wf,fun b=>by rw[(hs.fresh b (Nat.zero_le _)).2];exact Nat.zero_le _,(fun b x hm _=>by rw[(hs.fresh b (Nat.zero_le _)).1] at hm;cases hm),(fun t c hm=>by rw[af t] at hm;cases hm)⟩
   os:=aM.os,tape:=aM.tape,output:=aM.output,size:=aM.size,b3:=aM.b3
   fV:=fun b c hb=>(aM.ko c (k5 c ⟨b,hb⟩)).elim (fun⟨j,O⟩=>by rw[(hs.fresh j (Nat.zero_le _)).1] at O;cases O) .inr
   gj:=fun c ⟨t,h⟩=>by cases h
   dC:=aM.dC,dr:=aM.dr}
theorem mU.nil {H:List Blk} {b1:Nat→Option Nat}:mU H [] b1:=⟨fun i j b h=>by simp at h,fun j k h=>by simp at h,fun j b k h=>by simp at h⟩
def oR (l:List (Option Nat)) (j:Nat):Option Nat:=(l[j]?).getD none
def wj (H:List Blk) (bo:Nat) (b1:Nat→Option Nat) (k:Blk):Option Nat→Prop
 | none=>True
 | some b=> ∃q,H[b]?=some q∧q.sz=k.sz∧aw (aw (ga H bo b1)) q.rows k.rows
def qG (H:List Blk) (bo:Nat) (b1:Nat→Option Nat):List (Option Nat)→List Blk→Prop
 | [],[]=>True
 | o::l,k::cq=>k.aE=0∧wj H bo b1 k o∧qG H bo b1 l cq
 | _,_=>False
theorem qG.get {H:List Blk} {bo:Nat} {b1:Nat→Option Nat}: ∀{l:List (Option Nat)} {cq:List Blk},qG H bo b1 l cq→ ∀(j:Nat) (k:Blk),cq[j]?=some k→ ∃o,l[j]?=some o∧k.aE=0∧wj H bo b1 k o
 | [],[],_,j,k,h=>by simp at h
 | o::l,q::cq,ai,0,k,h=>by simp at h;subst h;exact⟨o,rfl,ai.1,ai.2.1⟩
 | o::l,q::cq,ai,j+1,k,h=>by
  obtain⟨x,hx,h2⟩:=qG.get ai.2.2 j k (by simpa using h)
  exact⟨x,by simpa using hx,h2⟩
theorem r_ {H cq:List Blk} (l:List (Option Nat)) (ak:l.length=cq.length) (aL:(l.filterMap id).Nodup) (h:qG H cq.length (oR l) l cq):mU H cq (oR l) where
 inj:=fun i j b hi O h1 h2=>by
  have kY:i<l.length:=by omega
  have gr:j<l.length:=by omega
  have aO:l[i]=some b:=by have:(l[i]?).getD none=some b:=h1;rwa [List.getElem?_eq_getElem kY] at this
  have e2:l[j]=some b:=by have:(l[j]?).getD none=some b:=h2;rwa [List.getElem?_eq_getElem gr] at this
  rcases Nat.lt_trichotomy i j with ay | rfl | ki
  ·exfalso
   have ab:=List.pairwise_filterMap.1 aL
   exact(List.pairwise_iff_getElem.1 ab i j kY gr ay) b (by simpa using aO) b (by simpa using e2) rfl
  ·rfl
  ·exfalso
   have ab:=List.pairwise_filterMap.1 aL
   exact(List.pairwise_iff_getElem.1 ab j i gr kY ki) b (by simpa using e2) b (by simpa using aO) rfl
 aE:=fun j k hk=>by obtain⟨o,_,h1,_⟩:=h.get j k hk;exact h1
 blk:=fun j b k hk hs=>by
  obtain⟨o,br,_,h2⟩:=h.get j k hk
  have:o=some b:=by have hs:(l[j]?).getD none=some b:=hs;rw[br] at hs;exact hs
  subst this
  exact h2
theorem qo {H:List Blk} {bo:Nat} {b1:Nat→Option Nat} {α:Type} {enc:α→List AV} {b g sz:Nat} {xs ys:List α} (hb:H[b]?=some ⟨g,sz,List.map enc xs⟩) (hc: ∀x,aw (ga H bo b1) (enc x) (enc x)) (e:xs=ys):
  wj H bo b1 ⟨0,sz,List.map enc ys⟩ (some b):=by
 subst e
 refine⟨_,hb,rfl,rfl,fun i r vc h1 h2=> ?_⟩
 rw[List.getElem?_map] at h1 h2
 cases hx:xs[i]? with
 | none=>rw[hx] at h1;cases h1
 | some x=>rw[hx] at h1 h2;cases h1;cases h2;exact hc x
section
variable {H:List Blk} {bo:Nat} {b1:Nat→Option Nat}
theorem zp (b:Bool):aw (ga H bo b1) (bm b) (bm b):= .cons (.bool _) .nil
theorem FN (x:cm):aw (ga H bo b1) (cK x) (cK x):= .cons (.int _ _) (.cons (.int _ _) .nil)
theorem P8 (x:b4):aw (ga H bo b1) (cb x) (cb x):= .cons (.int _ _) (.cons (.int _ _) .nil)
theorem zr {k:IntKind} {a b:Int} (h:a=b):ga H bo b1 (.int k a) (.int k b):=h▸ .int k a
theorem FT {a b:Bool} (h:a=b):ga H bo b1 (.bool a) (.bool b):=h▸ .bool a
theorem zs {b g n m j sz:Nat} {full:Bool} {rows:List (List AV)} (O:j<bo) (hs:b1 j=some b) (hb:H[b]?=some ⟨g,sz,rows⟩) (af:n=m):ga H bo b1 (.ref b g 0 n full) (.ref j 0 0 m false):=af▸ .ref O hs hb rfl
theorem u0 {a:AV} {j m:Nat} (O:j<bo) (hs:b1 j=none) (h:mC a=true) (hm:0=m):ga H bo b1 a (.ref j 0 0 m false):=hm▸ .nil O hs h
end
theorem FV {α:Type} {enc:α→List AV} {g sz:Nat} {xs:List α} {H:List Blk} (h1: ∀x,(enc x).all lb=true) (h2:r9 H=true):r9 (⟨g,sz,List.map enc xs⟩::H)=true:=by
 show(((List.map enc xs).all fun row=>row.all lb)&&H.all fun b=>b.rows.all fun row=>row.all lb)=true
 rw[Bool.and_eq_true]
 refine⟨?_,h2⟩
 rw[List.all_eq_true]
 intro row aa
 obtain⟨x,_,rfl⟩:=List.mem_map.1 aa
 exact h1 x
theorem GZ {α:Type} {enc:α→List AV} {k g sz:Nat} {xs:List α} {H H':List Blk} (h1: ∀x,(enc x).map (lZ k)=enc x) (h2:H.map (j3 k)=H'):(Blk.mk g sz (List.map enc xs)::H).map (j3 k)=⟨g,sz,List.map enc xs⟩::H':=by
 subst h2
 show(⟨g,sz,(List.map enc xs).map fun row=>row.map (lZ k)⟩:Blk)::_=_
 rw[List.map_map]
 congr 2
 exact List.map_congr_left fun x _=>h1 x
theorem G0 {k:Nat} {H cq H1 ll:List Blk} (h:cq.map (j3 k)=H1) (e:H++H1=ll):H++cq.map (j3 k)=ll:=by rw[h,e]
def Env.at (W:World):Env:={w:=W,PA:=fun c=>c<W.heap.size,PF:=fun _=>False,m:=fun _=>none,aE:=fun _=>0,sz:=fun _=>0,cp:=fun _=>0,mL:=fun _=>none}
theorem wy (W:World):SimH (Env.at W) [] where
 heap:=fun b c hb=>by cases hb
 cS:=fun b blk hb=>by simp at hb
 e0:=fun b hb=>by cases hb
 fresh:=fun b _=>⟨rfl,rfl⟩
 ee:=fun b bC c hb=>by cases hb
 gk:=fun t fZ c hb=>by cases hb
 ey:=fun b t c hb=>by cases hb
 fm:=fun c _ ⟨b,hb⟩=>by cases hb
 fx:=fun c _ ⟨b,hb⟩=>by cases hb
 ck:=fun c hc=>hc.elim
 dz:=fun c hc=>hc.elim
 cu:=fun c hc=>hc
 dB:=fun c ⟨b,hb⟩=>by cases hb
 et:=fun c ⟨b,hb⟩=>by cases hb
theorem N9 {P:Program} {f:FuncId} {bN:List AV} {W:World} {vs:List Value} (h:bh P f bN (.bool true)) (ai:aw (V2 (Env.at W)) bN vs):
  Calls P f vs.toArray W fun e Be=>e= .returned (.bool true)∧RowKit.Below W.heap.size W Be:=by
 refine(h.2 (Env.at W) vs (fun _=>rfl) (wy W) ai).mono ?_
 rintro e w' ⟨r,v,H',E',rfl,aa,rfl,af,hs,hv,aM⟩
 have hb:r= .bool true:=by
  rcases aa with⟨l,dy,_,e,_⟩ | ⟨l,dy,_,e,_⟩ | aa
  ·cases e
  ·cases e
  ·cases aa;rfl
 subst hb
 refine⟨by rw[V3.jD hv],aM.os,aM.tape,aM.output,aM.size,fun k hk=>aM.b3 k hk (fun⟨b,hb⟩=>by cases hb) (fun⟨b,hb⟩=>by cases hb)⟩
def wi (W:World):AV→Value→Prop:=ar W (fun c=>c<W.heap.size) (fun _=>False)
def gG (P:Program) (W:World) (t:TypeId) {α:Type} (enc:α→List AV):Prop:=
 ∀{H:Type} (ij:TypeId×Value→H) (ha:Nat) (ad:List Value) (x:DataW H×List MemPlace),DataW.trod ij P W 0 (fun _=>true) true ha t ad=some x→(∀n∈x.1.weights P t,n≤reachBytes)→ ∃y:α,aw (wi W) (enc y) ad
section
variable {P:Program} {W:World}
theorem lX {t:TypeId} {k:IntKind} (hu:P.underlying t=some (.int k)):gG P W t (fun n:Int=>[.int k n]):=fun ij ha ad x h _=>by
 obtain⟨n,rfl,_⟩:=DataW.trod_int hu h
 exact⟨n,.cons (.int _ _) .nil⟩
theorem Qf {t:TypeId} (hu:P.underlying t=some .bool):gG P W t bm:=fun ij ha ad x h _=>by
 obtain⟨n,rfl,_⟩:=DataW.trod_bool hu h
 exact⟨n,.cons (.bool _) .nil⟩
theorem Pz {α:Type} (n:Nat) (φ:Nat→α→Prop) (h: ∀i,i<n→ ∃y,φ i y): ∃ys:List α,ys.length=n∧ ∀(i:Nat) (y:α),ys[i]?=some y→φ i y:=by
 induction n with
 | zero=>exact⟨[],rfl,fun i y h=>by simp at h⟩
 | succ n aT=>
  obtain⟨ys,ak,ax⟩:=aT fun i hi=>h i (by omega)
  obtain⟨z,an⟩:=h n (by omega)
  refine⟨ys++[z],by simp[ak],fun i y hi=> ?_⟩
  rcases Nat.lt_or_ge i n with ay | eo
  ·rw[List.getElem?_append_left (by omega)] at hi
   exact ax i y hi
  ·rw[List.getElem?_append_right (by omega)] at hi
   rcases Nat.eq_or_lt_of_le eo with rfl | ki
   ·rw[ak,Nat.sub_self] at hi
    cases hi;exact an
   ·rw[List.getElem?_eq_none (by simp;omega)] at hi
    cases hi
theorem Fm {α β:Type} {f:α→Option β}: ∀{l:List α} {r:List β},l.mapM f=some r→r.length=l.length∧ ∀(i:Nat) (a:α),l[i]?=some a→f a=r[i]?
 | [],r,h=>by simp at h;subst h;exact⟨rfl,fun i a h=>by simp at h⟩
 | x::l,r,h=>by
  rw[List.mapM_cons] at h
  simp only[bind,Option.bind_eq_some_iff,pure,Option.some.injEq] at h
  obtain⟨b,hb,vc,aa,rfl⟩:=h
  obtain⟨h1,h2⟩:=Fm aa
  refine⟨by simp[h1],fun i a ai=> ?_⟩
  cases i with
  | zero=>simp at ai;subst ai;simpa using hb
  | succ i=>exact h2 i a (by simpa using ai)
theorem Jr {a:Addr} {n:Nat} {l:List Value} (h:W.cells? 0 a n=some l):l.length=n∧ ∀j,j<n→W.cell? (a.add j)=l[j]?:=by
 unfold World.cells? at h
 rw[if_pos (Nat.zero_le _)] at h
 obtain⟨ak,aJ⟩:=Fm h
 rw[List.length_range] at ak
 exact⟨ak,fun j O=>aJ j j (List.getElem?_range O)⟩
theorem RQ {a:Addr} {v:Value} (h:W.cell? a=some v):a.spot=none∧a.block<W.heap.size:=by
 unfold World.cell? at h
 split at h
 ·rename_i c _ _ hb
  split at h
  ·cases h
  ·rename_i hs
   refine⟨by cases al:a.spot<;>simp_all,?_⟩
   rcases Nat.lt_or_ge a.block W.heap.size with h1 | h1
   ·exact h1
   ·rw[Array.getElem?_eq_none h1] at hb;cases hb
 ·cases h
theorem add_add (c o x y:Nat):((⟨c,o,none⟩:Addr).add x).add y=⟨c,o+(x+y),none⟩:=by
 rw[jB,jB,Nat.add_assoc]
theorem mI {t e:TypeId} {α:Type} {enc:α→List AV} (hu:P.underlying t=some (.slice e)) (hb:1≤P.bytesOf e) (an:1≤P.cellsOf e) (hc: ∀x,(enc x).length=P.cellsOf e) (h:gG P W e enc):gG P W t (eV enc false):=by
 intro H ij ha ad x aC hw
 rcases DataW.trod_slice hu aC with⟨rfl,rfl⟩ | ⟨a,len,cap,pz,rest,n,_,rfl,rfl,_,ak,_,hlen,og,_,_⟩
 ·refine⟨[],.cons ?_ .nil⟩
  exact ar.av (rows:=[]) (PB:=fun _=>False) (sz:=0) (vs:=fun _ _=>undef) (fun _ h=>h.elim) ⟨Nat.le_refl _,Nat.zero_le _⟩ (fun h=>by cases h) (fun i row h=>by simp at h) (fun h=>by simp at h) (fun i j row a h=>by simp at h)
 ·have SX:(pz.length+rest.length)*P.bytesOf e≤reachBytes:=by
   have:=hw ((pz.length+rest.length)*P.bytesOf e) (by simp[DataW.weights,hu])
   simpa using this
  have dR:len≤4611686018427387904:=by
   have h1:pz.length+rest.length≤(pz.length+rest.length)*P.bytesOf e:=Nat.le_mul_of_pos_right _ hb
   have h2:=reachBytes_lt
   have ao:(2:Nat) ^ 47=140737488355328:=rfl
   omega
  have ew: ∀(l:List (DataW H)) (d:DataW H),d∈l→ ∀m∈d.weights P e,m∈DataW.weightsAll P e l:=by
   intro l
   induction l with
   | nil=>intro d aL;cases aL
   | cons q l aT=>
    intro d aL m hm
    simp only[DataW.weightsAll,List.mem_append]
    rcases List.mem_cons.1 aL with rfl | aL
    ·exact .inl hm
    ·exact .inr (aT d aL m hm)
  obtain⟨ys,uv,ax⟩:=Pz len (fun i y=> ∃l,W.cells? 0 (a.add (i*P.cellsOf e)) (P.cellsOf e)=some l∧aw (wi W) (enc y) l) fun i hi=>by
   have h1:=og i hi
   have h2:pz[i]?=some (pz[i]'(by omega)):=List.getElem?_eq_getElem _
   rw[h2,Option.bind_eq_some_iff] at h1
   obtain⟨l,mn,M3⟩:=h1
   obtain⟨y,ax⟩:=h ij n l _ M3 fun m hm=>hw m (by
    simp only[DataW.weights,hu,List.mem_cons,List.mem_append]
    exact .inr (.inl (ew _ _ (List.mem_map.2 ⟨_,List.getElem_mem (by omega),rfl⟩) m hm)))
   exact⟨y,l,mn,ax⟩
  have eP: ∀i j,i<len→j<P.cellsOf e→ ∃l v,W.cells? 0 (a.add (i*P.cellsOf e)) (P.cellsOf e)=some l∧l[j]?=some v∧W.cell? ((a.add (i*P.cellsOf e)).add j)=some v:=fun i j hi O=>by
   obtain⟨l,kZ,_⟩:=ax i _ (List.getElem?_eq_getElem (by omega))
   obtain⟨q1,q2⟩:=Jr kZ
   exact⟨l,l[j]'(by omega),kZ,List.getElem?_eq_getElem _,by rw[q2 j O];exact List.getElem?_eq_getElem _⟩
  let vs:Nat→Nat→Value:=fun i j=>(((W.cells? 0 (a.add (i*P.cellsOf e)) (P.cellsOf e)).getD [])[j]?).getD undef
  refine⟨ys,.cons ?_ .nil⟩
  have key:=ar.av (w:=W) (PA:=fun c=>c<W.heap.size) (PF:=fun _=>False) (PB:=fun c=>c<W.heap.size) (rows:=List.map enc ys) (full:=false) (fresh:=false) (A:=some a) (cap:=cap) (sz:=P.cellsOf e) (vs:=vs)
   (fun c hc=>by simpa using hc) (by rw[List.length_map,uv];exact⟨ak,dR⟩) (fun h=>by cases h)
   (fun i row aa=>by
    rw[List.getElem?_map] at aa
    cases al:ys[i]? with
    | none=>rw[al] at aa;cases aa
    | some y=>rw[al] at aa;cases aa;exact hc y)
   (fun h0=>by
    rw[List.length_map,uv] at h0
    obtain⟨l,v,_,_,hv⟩:=eP 0 0 h0 an
    rw[Nat.zero_mul] at hv
    have aA:(a.add 0).add 0=a:=by simp[Addr.add]
    rw[aA] at hv
    obtain⟨hs,ay⟩:=RQ hv
    obtain⟨c,o,s⟩:=a
    have hs:s=none:=hs
    subst hs
    refine⟨c,o,rfl,ay,fun i j hi O=> ?_⟩
    rw[List.length_map,uv] at hi
    obtain⟨l,v,q1,q2,q3⟩:=eP i j hi O
    rw[add_add] at q3
    rw[q3]
    show some v=some ((((W.cells? 0 _ _).getD [])[j]?).getD undef)
    rw[q1]
    show some v=some ((l[j]?).getD undef)
    rw[q2];rfl)
   (fun i j row b aa O=>by
    rw[List.getElem?_map] at aa
    cases al:ys[i]? with
    | none=>rw[al] at aa;cases aa
    | some y=>
     rw[al] at aa;cases aa
     obtain⟨l,kZ,ab⟩:=ax i y al
     obtain⟨v,hv,iY⟩:=ab.get O
     show ar W _ _ b ((((W.cells? 0 _ _).getD [])[j]?).getD undef)
     rw[kZ]
     show ar W _ _ b ((l[j]?).getD undef)
     rw[hv];exact iY)
  rw[List.length_map,uv] at key
  exact key
def ss (P:Program) (t:TypeId) (bQ:List TypeId):Bool:=match P.underlying t with
 | some (.struct cF)=>(cF.toList.zipIdx.all fun p=>p.1.offset==p.2&&P.cellsOf p.1.type==1)&&cF.toList.map (·.type)==bQ&&P.cellsOf t==bQ.length
 | _=>false
theorem Av {t:TypeId} {bQ:List TypeId} (hs:ss P t bQ=true) {H:Type} {ij:TypeId×Value→H} {ha:Nat} {ad:List Value} {x:DataW H×List MemPlace} (h:DataW.trod ij P W 0 (fun _=>true) true ha t ad=some x)
  (hw: ∀n∈x.1.weights P t,n≤reachBytes):ad.length=bQ.length∧ ∀(i:Nat) (u:TypeId) (v:Value),bQ[i]?=some u→ad[i]?=some v→ ∃(n:Nat) (z:DataW H×List MemPlace),DataW.trod ij P W 0 (fun _=>true) true n u [v]=some z∧ ∀m∈z.1.weights P u,m≤reachBytes:=by
 unfold ss at hs
 split at hs
 ·rename_i cF hu
  simp only[Bool.and_eq_true,beq_iff_eq] at hs
  obtain⟨⟨h1,h2⟩,ao⟩:=hs
  obtain⟨xs,n,_,rfl,ak,k2,hf⟩:=DataW.trod_struct hu h
  refine⟨by rw[ak,ao],fun i u v aC hv=> ?_⟩
  have hi:i<cF.size:=by
   have:=(List.getElem?_eq_some_iff.1 aC).1
   rw[←h2] at this;simpa using this
  have x9:cF[i]?=some cF[i]:=Array.getElem?_eq_getElem hi
  have M5:cF[i].type=u:=by
   have:(cF.toList.map (·.type))[i]?=some u:=by rw[h2];exact aC
   rw[List.getElem?_map,Array.getElem?_toList,x9] at this
   exact Option.some.inj this
  have yj:=List.all_eq_true.1 h1 (cF[i],i) (by rw[List.mem_zipIdx_iff_getElem?];rw[Array.getElem?_toList];exact x9)
  simp only[Bool.and_eq_true,beq_iff_eq] at yj
  have:=hf i cF[i] x9
  rw[yj.1,yj.2,M5] at this
  have ML:(ad.drop i).take 1=[v]:=by
   have ay:=(List.getElem?_eq_some_iff.1 hv).1
   rw[List.drop_eq_getElem_cons ay,List.take_succ_cons,List.take_zero]
   have:=(List.getElem?_eq_some_iff.1 hv).2
   rw[this]
  rw[ML] at this
  have DG:xs[i]?=some (xs[i]'(by omega)):=List.getElem?_eq_getElem _
  rw[DG] at this
  refine⟨n,_,this,fun m hm=>hw m ?_⟩
  simp only[DataW.weights,hu]
  exact DataW.weights_mem_each (j:=i) (by rw[h2];exact aC) (by rw[List.getElem?_map,DG];rfl) m hm
 ·cases hs
theorem q_ {ad:List Value} (h:ad.length=2): ∃a b,ad=[a,b]:=by
 match ad,h with
 | [a,b],_=>exact⟨a,b,rfl⟩
theorem BN {ad:List Value} (h:ad.length=5): ∃a b c d e,ad=[a,b,c,d,e]:=by
 match ad,h with
 | [a,b,c,d,e],_=>exact⟨a,b,c,d,e,rfl⟩
theorem kv {α:Type} {u:TypeId} {enc:α→List AV} {f:α→AV} (he: ∀y,enc y=[f y]) (h:gG P W u enc) {H:Type} {ij:TypeId×Value→H} {n:Nat} {v:Value} {z:DataW H×List MemPlace} (aC:DataW.trod ij P W 0 (fun _=>true) true n u [v]=some z)
  (hw: ∀m∈z.1.weights P u,m≤reachBytes): ∃y,wi W (f y) v:=by
 obtain⟨y,ax⟩:=h ij n [v] z aC hw
 rw[he] at ax
 exact⟨y,ax.head⟩
theorem FR {t a b:TypeId} (hs:ss P t [a,b]=true) (ai:gG P W a c1) (hb:gG P W b c1):gG P W t cK:=fun ij ha ad x h hw=>by
 obtain⟨ak,hc⟩:=Av hs h hw
 obtain⟨a1,aV,rfl⟩:=q_ ak
 obtain⟨bo,z0,bJ,bi⟩:=hc 0 a a1 rfl rfl
 obtain⟨bU,qF,q1,bX⟩:=hc 1 b aV rfl rfl
 obtain⟨l4,ff⟩:=kv (fun _=>rfl) ai bJ bi
 obtain⟨o5,cL⟩:=kv (fun _=>rfl) hb q1 bX
 exact⟨⟨l4,o5⟩,.cons ff (.cons cL .nil)⟩
theorem Qe {t a b c d e:TypeId} (hs:ss P t [a,b,c,d,e]=true) (ai:gG P W a (eV c1 false)) (hb:gG P W b (eV cK false)) (x4:gG P W c (eV cK false)) (aL:gG P W d (eV c1 false)) (he:gG P W e (eV c1 false)):gG P W t (cE false):=fun ij ha ad x h hw=>by
 obtain⟨ak,hc⟩:=Av hs h hw
 obtain⟨a1,aV,aQ,hz,jE,rfl⟩:=BN ak
 obtain⟨bo,z0,bJ,bi⟩:=hc 0 a a1 rfl rfl
 obtain⟨bU,qF,q1,bX⟩:=hc 1 b aV rfl rfl
 obtain⟨n2,z2,q2,du⟩:=hc 2 c aQ rfl rfl
 obtain⟨je,z3,q3,eB⟩:=hc 3 d hz rfl rfl
 obtain⟨zk,z4,q4,gC⟩:=hc 4 e jE rfl rfl
 obtain⟨l4,ff⟩:=kv (fun _=>rfl) ai bJ bi
 obtain⟨o5,cL⟩:=kv (fun _=>rfl) hb q1 bX
 obtain⟨AO,dd⟩:=kv (fun _=>rfl) x4 q2 du
 obtain⟨AP,ez⟩:=kv (fun _=>rfl) aL q3 eB
 obtain⟨AQ,kx⟩:=kv (fun _=>rfl) he q4 gC
 exact⟨⟨l4,o5,AO,AP,AQ⟩,.cons ff (.cons cL (.cons dd (.cons ez (.cons kx .nil))))⟩
theorem Qd {t a b c d e:TypeId} (hs:ss P t [a,b,c,d,e]=true) (ai:gG P W a c1) (hb:gG P W b (eV c1 false)) (x4:gG P W c (eV (cE false) false)) (aL:gG P W d (eV (eV bm false) false)) (he:gG P W e c1):gG P W t (bT false):=fun ij ha ad x h hw=>by
 obtain⟨ak,hc⟩:=Av hs h hw
 obtain⟨a1,aV,aQ,hz,jE,rfl⟩:=BN ak
 obtain⟨bo,z0,bJ,bi⟩:=hc 0 a a1 rfl rfl
 obtain⟨bU,qF,q1,bX⟩:=hc 1 b aV rfl rfl
 obtain⟨n2,z2,q2,du⟩:=hc 2 c aQ rfl rfl
 obtain⟨je,z3,q3,eB⟩:=hc 3 d hz rfl rfl
 obtain⟨zk,z4,q4,gC⟩:=hc 4 e jE rfl rfl
 obtain⟨l4,ff⟩:=kv (fun _=>rfl) ai bJ bi
 obtain⟨o5,cL⟩:=kv (fun _=>rfl) hb q1 bX
 obtain⟨AO,dd⟩:=kv (fun _=>rfl) x4 q2 du
 obtain⟨AP,ez⟩:=kv (fun _=>rfl) aL q3 eB
 obtain⟨AQ,kx⟩:=kv (fun _=>rfl) he q4 gC
 exact⟨⟨l4,o5,AO,AP,AQ⟩,.cons ff (.cons cL (.cons dd (.cons ez (.cons kx .nil))))⟩
theorem IG {t:TypeId} {α:Type} {enc:α→List AV} {k:Nat} (h:gG P W t enc) (hk:2≤k) (hc: ∀y,(enc y).length=k) {H:Type} {ij:TypeId×Value→H} {v:Value} {d:DataW H} {ps:List MemPlace} (aC:DataW.Trod ij P W 0 (fun _=>true) true t v d ps)
  (hw: ∀n∈d.weights P t,n≤reachBytes): ∃y,V2 (Env.at W) (.agg (enc y)) v:=by
 obtain⟨ha,hf⟩:=aC
 obtain⟨y,ab⟩:=h ij ha _ _ hf hw
 have ak:=ab.1
 rw[hc] at ak
 have hv:v= .agg v.cells:=by
  cases v<;>first | rfl | (simp[Value.cells] at ak;omega)
 refine⟨y,v.cells.toList,by rw[Array.toArray_toList];exact hv,ab.mono fun a u aa=>ar.v1 (E:=Env.at W) aa⟩
end
def Ed (P:Program) (fn:Func) (c:OpenClaim):Bool:=c.kinds==(if c.domain.isEmpty then[] else fn.params.toList.map fun t=>match P.underlying t with | some (.int k)=>some k | _=>none)
theorem NZ {P:Program} {f:FuncId} {fn:Func} {s:ChangeSpec} {c:OpenClaim} (aA:(c.wf (OpenSpec.ofChange s))=true) (h1:laidOutB P=true) (h2:mapsRowed P=true) (ao:fn.params.all (P.readableRec ·)=true) (a8:namedTie P c.named s.vars=true) (cw:(c.stops==[])=true) (cZ:(P.stops==[])=true) (iT:(c.knobs==[])=true) (mm:(P.stopKnobs==[])=true) (n7:(c.inPlace==P.inPlace f)=true) (rl:(c.unfollowed==P.unfollowed f)=true) (Lt:(c.recurses==P.recurses f)=true) (Lu:(c.named==P.varsNamed f)=true) (Lv:(c.maps==(fn.params.toList++s.plain.varTypes P).any (P.mapsRec ·))=true) (Lw:(c.ifaces==(fn.params.toList++s.plain.varTypes P).any (P.ifacesRec ·))=true) (Lx:(c.mapsOut==P.mapsAmong fn.resultTypes.toList)=true) (Ly:(c.loops==(fn.params.toList++s.plain.varTypes P).any (P.loopsFrom ·))=true) (Lz:(c.wideKeys==(fn.params.toList++s.plain.varTypes P++fn.resultTypes.toList).any (P.wideKeysFrom ·))=true) (LA:s.vars.all (P.varReadable ·)=true) (LB:fn.resultTypes.all (fun t=>P.readableRec t&&decide (t<P.types.size))=true) (LC:(c.ifacesOut==fn.resultTypes.toList.any (P.ifacesRec ·))=true) (LD:(c.loopsOut==fn.resultTypes.toList.any (P.loopsFrom ·))=true) (LF:(c.plainKeys==P.plainKeys)=true) (LG:c.shortTexts.isNone=true) (LH:P.stopsHeard=true) (LI:P.mayEnter=true) (LJ:(c.lifted==P.liftsFinal)=true) (LK:(P.make==some c.make)=true) (LL:Ed P fn c=true) (LM:(c.pinned==c.pinnedBy)=true) (kf:(c.veiled==(fn.params.toList++s.plain.varTypes P++fn.resultTypes.toList).any (P.veiledRec ·))=true) (LN:c.veiledFits P fn.params.toList (fn.params.toList++s.plain.varTypes P++fn.resultTypes.toList)=true):joinedFacts P f fn s c=true:=by
 unfold joinedFacts
 simp only[Bool.and_eq_true]
 exact⟨⟨⟨⟨⟨⟨⟨⟨⟨⟨⟨⟨⟨⟨⟨⟨⟨⟨⟨⟨⟨⟨⟨⟨⟨⟨⟨⟨⟨⟨⟨aA,h1⟩,h2⟩,ao⟩,a8⟩,cw⟩,cZ⟩,iT⟩,mm⟩,n7⟩,rl⟩,Lt⟩,Lu⟩,Lv⟩,Lw⟩,Lx⟩,Ly⟩,Lz⟩,LA⟩,LB⟩,LC⟩,LD⟩,LF⟩,LG⟩,LH⟩,LI⟩,LJ⟩,LK⟩,LL⟩,LM⟩,kf⟩,LN⟩
theorem P7 {α:Type} [Inhabited α] {xs:List α} {i:Int} (h:i.toNat<xs.length):nth xs i=xs[i.toNat]:=by
 have:=hG h
 rw[List.getElem?_eq_getElem h] at this
 exact(Option.some.inj this).symm
def cj (b:List Bool):Blk:=⟨0,1,List.map bm b⟩
def hB (s:Nat) (h:aI) (id:Nat):List AV:=[.int .i64 h.dW,.int .i64 h.cT,.ref (id+s) 0 0 h.aF.length false,.bool h.dV,.int .i64 h.dX]
def cd (s:Nat) (ws:List aI) (ids:List Nat):List (List AV):=List.zipWith (hB s) ws ids
def view (ws:List aI) (ids:List Nat) (bs:List (List Bool)):List aI:=List.zipWith (fun h id=>{h with aF:=bs.getD id []}) ws ids
structure lk (ws:List aI) (ids:List Nat) (bs:List (List Bool)):Prop where
 len:ws.length=ids.length
 lt: ∀(i id:Nat),ids[i]?=some id→id<bs.length
 aF: ∀(i id:Nat) (h:aI),ws[i]?=some h→ids[i]?=some id→h.aF.length=(bs.getD id []).length
theorem CW {s:Nat} {ws:List aI} {ids:List Nat} {i:Int} (ak:ws.length=ids.length) (hi:i.toNat<ws.length):(cd s ws ids)[i.toNat]?=some (hB s (nth ws i) (nth ids i)):=by
 unfold cd
 rw[List.getElem?_zipWith,hG hi,hG (by omega)]
theorem rq {s:Nat} {ws:List aI} {ids:List Nat} (ak:ws.length=ids.length):(cd s ws ids).length=ws.length:=by
 unfold cd;rw[List.length_zipWith];omega
theorem CX {s:Nat} {ws:List aI} {ids:List Nat} {i:Nat} {h:aI} {id:Nat} (ak:ws.length=ids.length):(cd s ws ids).set i (hB s h id)=cd s (ws.set i h) (ids.set i id):=by
 apply List.ext_getElem?
 intro j
 unfold cd
 rw[List.getElem?_set,List.getElem?_zipWith,List.getElem?_zipWith,List.getElem?_set,List.getElem?_set]
 by_cases iD:i=j
 ·subst iD
  simp only[if_true,List.length_zipWith]
  by_cases hi:i<ws.length
  ·rw[if_pos (by omega),if_pos hi,if_pos (by omega)]
  ·rw[if_neg (by omega),if_neg hi]
 ·simp only[if_neg iD]
theorem LZ {s:Nat} {ws:List aI} {ids:List Nat} {i:Int} {h:aI} (ak:ws.length=ids.length) (hi:i.toNat<ws.length):(cd s ws ids).set i.toNat (hB s h (nth ids i))=cd s (ws.set i.toNat h) ids:=by
 rw[CX ak]
 congr 1
 rw[P7 (by omega)]
 exact List.set_getElem_self _
theorem CY {s:Nat} {ws:List aI} {ids:List Nat} {h:aI} {id:Nat} (ak:ws.length=ids.length):cd s ws ids++[hB s h id]=cd s (ws++[h]) (ids++[id]):=by
 unfold cd
 rw[List.zipWith_append ak];rfl
theorem xA {bs:List (List Bool)} {id:Nat} (h:id<bs.length):(List.map cj bs)[id]?=some (cj (bs.getD id [])):=by
 rw[List.getElem?_map,List.getElem?_eq_getElem h,List.getD_eq_getElem?_getD,List.getElem?_eq_getElem h];rfl
theorem Kw {bs:List (List Bool)} {id:Nat} {b:List Bool}:(List.map cj bs).set id (cj b)=List.map cj (bs.set id b):=by rw[List.map_set]
theorem BB {b:List Bool} {i:Int} (h:i.toNat<b.length):(List.map bm b)[i.toNat]?=some (bm (nth b i)):=by rw[List.getElem?_map,hG h];rfl
theorem IZ {b:List Bool} {i:Nat} {x:Bool}:(List.map bm b).set i (bm x)=List.map bm (b.set i x):=by rw[List.map_set]
theorem kD {ws:List aI} {ids:List Nat} {bs:List (List Bool)} (h:lk ws ids bs):(view ws ids bs).length=ws.length:=by
 unfold view;rw[List.length_zipWith];have:=h.len;omega
theorem o1 {ws:List aI} {ids:List Nat} {bs:List (List Bool)} {i:Nat} {h:aI} {id:Nat} (h1:ws[i]?=some h) (h2:ids[i]?=some id):(view ws ids bs)[i]?=some {h with aF:=bs.getD id []}:=by
 unfold view;rw[List.getElem?_zipWith,h1,h2]
theorem qn {s:Nat} {ws:List aI} {ids:List Nat} {i:Nat} {row:List AV} (h:(cd s ws ids)[i]?=some row): ∃x id,ws[i]?=some x∧ids[i]?=some id∧row=hB s x id:=by
 unfold cd at h
 rw[List.getElem?_zipWith] at h
 cases hx:ws[i]? with
 | none=>rw[hx] at h;cases h
 | some x=>
  cases aL:ids[i]? with
  | none=>rw[hx,aL] at h;cases h
  | some id=>rw[hx,aL] at h;cases h;exact⟨x,id,rfl,rfl,rfl⟩
theorem Q7 {L:List (Nat×List AV)} {H:List Blk} {b s n:Nat} {full:Bool} {ws:List aI} {ids:List Nat} {bs:List (List Bool)} (af:n=ws.length) (hb:H[b]?=some ⟨0,5,cd s ws ids⟩)
  (hf: ∀(id:Nat) (k:Blk),(List.map cj bs)[id]?=some k→H[id+s]?=some k) (ok:lk ws ids bs) (dR:ws.length≤4611686018427387904) (pH: ∀x∈bs,x.length≤4611686018427387904):
  dQ L H (.ref b 0 0 n full) (.av (List.map (ii false) (view ws ids bs)) false false):=by
 subst af
 refine dQ.ref (fun h=>by cases h) hb rfl (by rw[List.length_map,kD ok]) dR (by rw[Nat.zero_add,rq ok.len];exact Nat.le_refl _) (fun i row row' h1 h2=> ?_) (fun i j row row' a c h1 h2 ao a8=> ?_)
 ·rw[Nat.zero_add] at h1
  obtain⟨x,id,hx,aL,rfl⟩:=qn h1
  rw[List.getElem?_map,o1 hx aL] at h2
  cases h2;rfl
 ·rw[Nat.zero_add] at h1
  obtain⟨x,id,hx,aL,rfl⟩:=qn h1
  rw[List.getElem?_map,o1 hx aL] at h2
  cases h2
  have ay:=ok.lt i id aL
  have key:kE L H (hB s x id) (ii false {x with aF:=bs.getD id []}):=by
   refine .cons (.int _ _) (.cons (.int _ _) (.cons ?_ (.cons (.bool _) (.cons (.int _ _) .nil))))
   have hm:bs.getD id []∈bs:=by rw[List.getD_eq_getElem?_getD,List.getElem?_eq_getElem ay];exact List.getElem_mem ay
   exact Q6 (eT:=bm) (eF:=bm) (sz:=1) (ok.aF i id x hx aL) (hf id _ (xA ay)) Nj (pH _ hm)
  exact key.2 j a c ao a8
theorem Hv {H:List Blk} {b g s n:Nat} {full:Bool} {ws ys:List aI} {ids:List Nat} {bs:List (List Bool)} (af:n=ws.length) (hb:H[b]?=some ⟨g,5,cd s ws ids⟩)
  (hf: ∀(id:Nat) (k:Blk),(List.map cj bs)[id]?=some k→H[id+s]?=some k) (h:lk ws ids bs∧ws.length≤4611686018427387904∧(∀x∈bs,x.length≤4611686018427387904)∧view ws ids bs=ys):
  en H (.ref b g 0 n full) (.av (List.map (ii false) ys) false true):=by
 obtain⟨ok,dR,pH,rfl⟩:=h
 subst af
 refine en.ref (fun h=>by cases h) (fun i j=>(((view ws ids bs)[i]?).bind fun x=>(ii true x)[j]?).getD .undef) hb rfl (by rw[List.length_map,kD ok]) dR (by rw[Nat.zero_add,rq ok.len];exact Nat.le_refl _) (fun i row row' h1 h2=> ?_) (fun i j row a hi h1 h2=> ?_) (fun i j row' c h1 h2=> ?_)
 ·rw[Nat.zero_add] at h1
  obtain⟨x,id,hx,aL,rfl⟩:=qn h1
  rw[List.getElem?_map,o1 hx aL] at h2
  cases h2;rfl
 ·rw[Nat.zero_add] at h1
  obtain⟨x,id,hx,aL,rfl⟩:=qn h1
  rw[o1 hx aL]
  have ay:=ok.lt i id aL
  have hm:bs.getD id []∈bs:=by rw[List.getD_eq_getElem?_getD,List.getElem?_eq_getElem ay];exact List.getElem_mem ay
  show en H a (((some ({x with aF:=bs.getD id []}:aI)).bind fun x=>(ii true x)[j]?).getD .undef)
  match j,h2 with
  | 0,h2=>cases h2;exact .int _ _
  | 1,h2=>cases h2;exact .int _ _
  | 2,h2=>
   cases h2
   exact qw (eT:=bm) (eF:=bm) (sz:=1) (ok.aF i id x hx aL) (hf id _ (xA ay)) tf ⟨pH _ hm,rfl⟩
  | 3,h2=>cases h2;exact .bool _
  | 4,h2=>cases h2;exact .int _ _
  | j+5,h2=>simp[hB] at h2
 ·rw[List.getElem?_map] at h1
  cases hv:(view ws ids bs)[i]? with
  | none=>rw[hv] at h1;cases h1
  | some x=>
   rw[hv] at h1;cases h1
   show c=fO (((some x).bind fun x=>(ii true x)[j]?).getD .undef)
   match j,h2 with
   | 0,h2=>cases h2;rfl
   | 1,h2=>cases h2;rfl
   | 2,h2=>cases h2;rfl
   | 3,h2=>cases h2;rfl
   | 4,h2=>cases h2;rfl
   | j+5,h2=>simp[ii] at h2
theorem Weak.FE [bF] (sz:Nat) {T:List AV} {L:List (Nat×List AV)} {H:List Blk}:Weak ⟨T,L,H⟩ ⟨T,L,H++[⟨0,sz,[]⟩]⟩:=fun bx E tmps g s=>by
 obtain⟨E',hw,aM,h1,h2,_⟩:=uQ (blk:=⟨0,sz,[]⟩) s.h s.l rfl rfl
 exact⟨E',hw,g.step aM,h1,h2,fun t=>(s.fy t).le aM.le,s.size⟩
theorem Weak.clear [bF] (j:Nat) {g sz:Nat} {rows:List (List AV)} {T:List AV} {L:List (Nat×List AV)} {H:List Blk} (O:H[j]?=some ⟨g,sz,rows⟩):Weak ⟨T,L,H⟩ ⟨T,L,H.set j ⟨g,sz,[]⟩⟩:=fun bx E tmps Lm s=>by
 have hZ:=(List.getElem?_eq_some_iff.1 O).1
 have get: ∀(b:Nat) (blk:Blk),(H.set j ⟨g,sz,[]⟩)[b]?=some blk→(b=j∧blk=⟨g,sz,[]⟩)∨(b≠j∧H[b]?=some blk):=fun b blk h=>by
  rw[List.getElem?_set] at h
  split at h
  ·rename_i e;subst e;exact .inl ⟨rfl,(Option.some.inj h).symm⟩
  ·rename_i e;exact .inr ⟨fun h=>e h.symm,h⟩
 have e3:SimH E H:=s.h
 refine⟨E,rfl,Lm,{e3 with
  heap:=fun b c hb=> ?_,cS:=fun b blk hb=> ?_,e0:=fun b hb=> ?_,fresh:=fun b hb=>e3.fresh b (by simpa using hb)},s.l,s.fy,s.size⟩
 ·obtain⟨blk,ad,ty,q1,bJ,q2,q3,q4,cI⟩:=e3.heap b c hb
  by_cases e:b=j
  ·subst e
   rw[O] at q1
   obtain rfl:=Option.some.inj q1
   exact⟨⟨g,sz,[]⟩,ad,ty,by rw[List.getElem?_set];simp[hZ],bJ,q2,q3,Nat.zero_le _,fun i row h=>by simp at h,fun i j row a h=>by simp at h⟩
  ·exact⟨blk,ad,ty,by rw[List.getElem?_set,if_neg (fun h=>e h.symm)];exact q1,bJ,q2,q3,q4,cI⟩
 ·rcases get b blk hb with⟨rfl,rfl⟩ | ⟨_,hb⟩
  ·exact(e3.cS b _ O:)
  ·exact e3.cS b blk hb
 ·obtain⟨blk,q1,bJ⟩:=e3.e0 b hb
  by_cases e:b=j
  ·subst e
   rw[O] at q1
   obtain rfl:=Option.some.inj q1
   exact⟨⟨g,sz,[]⟩,by rw[List.getElem?_set];simp[hZ],bJ⟩
  ·exact⟨blk,by rw[List.getElem?_set,if_neg (fun h=>e h.symm)];exact q1,bJ⟩
def oS (j:Nat):Option Nat:=if j<3 then some j else some (j+1)
theorem Qk {r:AV} {g0 g1 g2 g3 bo bU n2:Nat} {f0 f1 f2:Bool} {R:Frame} {ok:Bool} {bM:List Bool} {sd:List b4} {ws:List aI} {ids:List Nat} {bs:List (List Bool)} {rows:List (List AV)}
  (h:ok=R.ok∧bM=R.bM∧sd=R.bP∧ws=R.U∧ids=List.range ws.length∧bs=ws.map aI.aF) (aA:bo=bM.length) (h1:bU=sd.length) (h2:n2=ws.length) (aa:r= .agg [.bool ok,.ref 0 g0 0 bo f0,.ref 1 g1 0 bU f1,.ref 2 g2 0 n2 f2]):
  ∃b1,mU (⟨g0,1,List.map bm bM⟩::⟨g1,2,List.map cb sd⟩::⟨g2,5,cd 4 ws ids⟩::⟨g3,5,rows⟩::List.map cj bs)
   (⟨0,1,List.map bm R.bM⟩::⟨0,2,List.map cb R.bP⟩::⟨0,5,cd 3 R.U (List.range R.U.length)⟩::List.map cj (List.map aI.aF R.U)) b1∧
   wg (⟨g0,1,List.map bm bM⟩::⟨g1,2,List.map cb sd⟩::⟨g2,5,cd 4 ws ids⟩::⟨g3,5,rows⟩::List.map cj bs)
    (⟨0,1,List.map bm R.bM⟩::⟨0,2,List.map cb R.bP⟩::⟨0,5,cd 3 R.U (List.range R.U.length)⟩::List.map cj (List.map aI.aF R.U)).length b1 r
    (.agg [.bool R.ok,.ref 0 0 0 R.bM.length false,.ref 1 0 0 R.bP.length false,.ref 2 0 0 R.U.length false]):=by
 obtain⟨rfl,rfl,rfl,rfl,rfl,rfl⟩:=h
 subst aA;subst h1;subst h2;subst aa
 have hlen:(⟨0,1,List.map bm R.bM⟩::⟨0,2,List.map cb R.bP⟩::⟨0,5,cd 3 R.U (List.range R.U.length)⟩::List.map cj (List.map aI.aF R.U):List Blk).length=R.U.length+3:=by simp
 refine⟨oS,⟨fun i j b hi O h1 h2=> ?_,fun j k hk=> ?_,fun j b k hk hs=> ?_⟩,.inl ⟨_,_,rfl,rfl,?_⟩⟩
 ·unfold oS at h1 h2
  split at h1<;>split at h2<;>simp at h1 h2<;>omega
 ·match j,hk with
  | 0,hk=>simp at hk;subst hk;rfl
  | 1,hk=>simp at hk;subst hk;rfl
  | 2,hk=>simp at hk;subst hk;rfl
  | j+3,hk=>simp at hk;obtain⟨x,_,rfl⟩:=hk;rfl
 ·rw[hlen]
  match j,hk,hs with
  | 0,hk,hs=>
   simp at hk;subst hk
   obtain rfl:0=b:=by simpa[oS] using hs
   exact qo (b:=0) rfl zp rfl
  | 1,hk,hs=>
   simp at hk;subst hk
   obtain rfl:1=b:=by simpa[oS] using hs
   exact qo (b:=1) rfl P8 rfl
  | 2,hk,hs=>
   simp at hk;subst hk
   obtain rfl:2=b:=by simpa[oS] using hs
   refine⟨_,rfl,rfl,⟨by rw[rq (by simp),rq (by simp)],fun i S1 ds ai hb=> ?_⟩⟩
   obtain⟨x,id,hx,aL,rfl⟩:=qn ai
   obtain⟨AM,ed,gi,m7,rfl⟩:=qn hb
   rw[hx] at gi;cases gi
   rw[aL] at m7;cases m7
   have tY:i<R.U.length:=(List.getElem?_eq_some_iff.1 hx).1
   obtain rfl:i=id:=by rw[List.getElem?_range tY] at aL;exact Option.some.inj aL
   refine .cons (.int _ _) (.cons (.int _ _) (.cons ?_ (.cons (.bool _) (.cons (.int _ _) .nil))))
   refine ga.ref (blk:=cj x.aF) (by omega) (by simp[oS]) ?_ rfl
   show(List.map cj (List.map aI.aF R.U))[i]?=_
   rw[List.getElem?_map,List.getElem?_map,hx];rfl
  | j+3,hk,hs=>
   obtain rfl:j+4=b:=by
    unfold oS at hs
    rw[if_neg (by omega)] at hs;exact Option.some.inj hs
   have hk:(List.map cj (List.map aI.aF R.U))[j]?=some k:=by simpa using hk
   have: ∃x,k=cj x:=by
    rw[List.getElem?_map] at hk
    cases al:(List.map aI.aF R.U)[j]? with
    | none=>rw[al] at hk;cases hk
    | some x=>rw[al] at hk;cases hk;exact⟨x,rfl⟩
   obtain⟨x,rfl⟩:=this
   have hb:(⟨g0,1,List.map bm R.bM⟩::⟨g1,2,List.map cb R.bP⟩::⟨g2,5,cd 4 R.U (List.range R.U.length)⟩::⟨g3,5,rows⟩::List.map cj (List.map aI.aF R.U):List Blk)[j+4]?=some ⟨0,1,List.map bm x⟩:=hk
   exact qo (b:=j+4) hb zp rfl
 ·rw[hlen]
  exact .cons (.bool _) (.cons (.ref (by omega) rfl rfl rfl) (.cons (.ref (by omega) rfl rfl rfl) (.cons (.ref (by omega) rfl rfl rfl) .nil)))
structure jx (ws:List aI) (ids:List Nat) (bs:List (List Bool)):Prop where
 ok:lk ws ids bs
 iK: ∀i j k:Nat,ids[i]?=some k→ids[j]?=some k→i=j
 len: ∀b∈bs,b.length≤1048576
theorem xC {bs:List (List Bool)} {b:List Bool}:List.map cj bs++[⟨0,1,List.map bm b⟩]=List.map cj (bs++[b]):=by rw[List.map_append];rfl
section
variable {P:Program} {esc:List Nat} {ops:Array Oper} {n:Nat} {X:List Oper} {i0:Nat} {A:List (Nat×AV)} {L:List (Nat×List AV)} {H:List Blk} {K:List (Nat×AV)→List (Nat×List AV)→List Blk→Prop}
end
section
variable {P:Program} {esc:List Nat} {ops:Array Oper} {n:Nat} {X:List Item} {i0:Nat} {A:List (Nat×AV)} {L:List (Nat×List AV)} {H:List Blk} {K:List (Nat×AV)→List (Nat×List AV)→List Blk→Prop}
theorem HF (cs:Nat) (d:Option Nat) (N:List (Nat×AV)) (s b g q B:Nat) (ws:List aI) (ids:List Nat) (x:aI) (id:Nat) (F:List (List AV)→Prop) (H':List (List AV)→List Blk) (ak:ws.length=ids.length)
  (aA:(ws.length+1)*B≤140737488355328∧ws.length+1≤4611686018427387904) (eJ:F ((cd s (ws++[x]) (ids++[id])))) (h:evSD P esc ops n (X.drop (i0+cs)) (fE d (.ref b (g+1) 0 (ws++[x]).length false) N A) L (H' (cd s (ws++[x]) (ids++[id]))) K)
  (e: ∀K,evSD P esc ops n ((X.drop i0).take cs) A L H K=(true=true∧true=true∧(q=q∧0+1≤1∧(nx 5 [hB s x id]∧0=0∧g=g∧5=5∧(cd s ws ids).length=ws.length∧(ws.length+1)*B≤140737488355328∧ws.length+1≤4611686018427387904∧
   F ((cd s ws ids++[hB s x id]))∧K (fE d (.ref b (g+1) 0 (ws.length+1) false) N A) L (H' (cd s ws ids++[hB s x id]))))):=by intro K;kernel_rfl):evSD P esc ops n (X.drop i0) A L H K:=by
 rw[pC X i0 cs,e]
 refine⟨rfl,rfl,rfl,Nat.le_refl _,?_,rfl,rfl,rfl,rq ak,aA.1,aA.2,?_,?_⟩
 ·intro row aa
  rw[List.mem_singleton.1 aa]
  exact⟨rfl,fun a ai=>List.all_eq_true.1 (show(hB s x id).all fY=true from rfl) a ai⟩
 ·rw[CY ak];exact eJ
 ·rw[CY ak];rw[List.length_append] at h;exact h
end
theorem Ra {H:List Blk} {b j:Nat} {x y:Blk} (h:(H.set b x)[j]?=some y):(j=b∧y=x)∨(j≠b∧H[j]?=some y):=by
 rw[List.getElem?_set] at h
 split at h
 ·rename_i e;subst e
  split at h
  ·cases h;exact .inl ⟨rfl,rfl⟩
  ·cases h
 ·rename_i e;exact .inr ⟨fun h=>e h.symm,h⟩
theorem CG [fQ:bF] {bx E:Env} {H:List Blk} {L:List (Nat×List AV)} (g:Good bx E) (ag:SimH E H) (aY:SimL E L) {b iS sz:Nat} {rows:List (List AV)} (hb:H[b]?=some ⟨iS,sz,rows⟩) (hg:fQ.n≤b)
  (hk: ∀row∈rows,∀a∈row,gb a=true∧jM a=true) (dR:rows.length≤4611686018427387904):
  ∃E',E'.w=E.w∧Good bx E'∧SimH E' (H.set b ⟨iS+1,sz,[]⟩)∧SimL E' L∧E.ev E'∧E'.mL=E.mL∧ ∀v full,cY E (.ref b iS 0 rows.length full) v→ar E'.w E'.PA E'.PF (.av (rows.map fun row=>row.map fO) false true) v:=by
 have gN:E.aE b=iS:=ag.cS b _ hb
 have lK:=(List.getElem?_eq_some_iff.1 hb).1
 let E':Env:={E with PA:=fun c=>E.PA c∨E.m b=some (some c),PF:=fun c=>E.PF c∨E.m b=some (some c),m:=fun j=>if j=b then none else E.m j,aE:=fun j=>if j=b then iS+1 else E.aE j}
 have hm: ∀{j:Nat} {x:Option Nat},E'.m j=some x→j≠b∧E.m j=some x:=fun{j x} h=>by
  have h:(if j=b then none else E.m j)=some x:=h
  split at h
  ·cases h
  ·rename_i e;exact⟨e,h⟩
 have aJ: ∀{j:Nat},j≠b→E'.aE j=E.aE j:=fun{j} h=>if_neg h
 have hle:E.ev E':=⟨fun _ h=> .inl h,fun _ h=> .inl h,fun _ _=>rfl,fun _ _=>rfl,fun j=>by
   show E.aE j≤(if j=b then iS+1 else E.aE j)
   split
   ·rename_i e;subst e;omega
   ·exact Nat.le_refl _,fun j x hx lM=>by
   have lM:(if j=b then iS+1 else E.aE j)=E.aE j:=lM
   have bV:j≠b:=fun e=>by subst e;rw[if_pos rfl] at lM;omega
   exact⟨by show(if j=b then none else E.m j)=_;rw[if_neg bV];exact hx,rfl,rfl⟩,fun _ _ h=>h⟩
 have dw: ∀c,E.m b=some (some c)→bx.w.heap.size≤c:=fun c hc=>(g.fV b c hc).elim (fun h=>by rw[(g.r3 b hg).1] at h;cases h) id
 have gO:=ag.dB
 refine⟨E',rfl,?_,?_,?_,hle,rfl,?_⟩
 ·exact{g with
   le:=g.le.trans hle
   fV:=fun j c h=>g.fV j c (hm h).2
   gj:=g.gj
   dC:=fun c hc=>hc.elim (g.dC c) fun h=> .inr (dw c h)
   dr:=fun c hc=>hc.elim (g.dr c) fun h=> .inr (dw c h)}
 ·exact{ag with
   heap:=fun j c h=>by
    obtain⟨bV,h⟩:=hm h
    obtain⟨blk,ad,ty,q1,bJ,q2,q3,q4,cI,c4⟩:=ag.heap j c h
    refine⟨blk,ad,ty,by rw[List.getElem?_set,if_neg (fun e=>bV e.symm)];exact q1,bJ,q2,q3,q4,cI,fun i k row a h1 h2=> ?_⟩
    obtain⟨u,hu,aa⟩:=c4 i k row a h1 h2
    exact⟨u,hu,aa.le hle.aW⟩
   cS:=fun j blk h=>by
    rcases Ra h with⟨rfl,rfl⟩ | ⟨bV,h⟩
    ·exact if_pos rfl
    ·rw[aJ bV];exact ag.cS j blk h
   e0:=fun j h=>by
    obtain⟨bV,h⟩:=hm h
    obtain⟨blk,q1,q2⟩:=ag.e0 j h
    exact⟨blk,by rw[List.getElem?_set,if_neg (fun e=>bV e.symm)];exact q1,q2⟩
   fresh:=fun j h=>by
    rw[List.length_set] at h
    have:=ag.fresh j h
    have bV:j≠b:=by omega
    exact⟨by show(if j=b then none else E.m j)=none;rw[if_neg bV];exact this.1,by rw[aJ bV];exact this.2⟩
   ee:=fun j k c h1 h2=>ag.ee j k c (hm h1).2 (hm h2).2
   ey:=fun j t c h1 h2=>ag.ey j t c (hm h1).2 h2
   fm:=fun c hc ⟨j,O⟩=>by
    obtain⟨bV,O⟩:=hm O
    rcases hc with hc | hc
    ·exact ag.fm c hc ⟨j,O⟩
    ·exact bV (ag.ee j b c O hc)
   fx:=fun c hc ⟨t,aC⟩=>by
    rcases hc with hc | hc
    ·exact ag.fx c hc ⟨t,aC⟩
    ·exact ag.ey b t c hc aC
   ck:=fun c hc=>hc.elim (fun h=> .inl (ag.ck c h)) .inr
   dz:=fun c hc=>hc.elim (ag.dz c) fun h=>by
    obtain⟨_,ad,ty,_,_,q,_⟩:=ag.heap b c h
    exact⟨ad,ty,q⟩
   cu:=fun c hc=>hc.elim (ag.cu c) fun h=>gO c ⟨b,h⟩
   dB:=fun c ⟨j,O⟩=>gO c ⟨j,(hm O).2⟩}
 ·intro t c aC
  obtain⟨cells,ad,ty,q1,q2,q3⟩:=aY t c aC
  exact⟨cells,ad,ty,q1,q2,q3.mono fun _ _ k=>k.le hle.aW⟩
 ·intro v full hv
  rcases hv with⟨aX,_⟩ | ⟨eo,aX⟩
  ·omega
  ·rcases aX with⟨_,_,iG,A,rfl⟩ | ⟨c,cap,hh,rfl,kk,kV,lL⟩
   ·obtain rfl:rows=[]:=List.eq_nil_of_length_eq_zero iG
    exact ar.av (rows:=[]) (PB:=fun _=>False) (sz:=0) (vs:=fun _ _=>undef) (fun _ h=>h.elim) ⟨Nat.le_refl _,Nat.zero_le _⟩ (fun _=>rfl) (fun i row h=>by simp at h) (fun h=>by simp at h) (fun i j row a h=>by simp at h)
   ·obtain⟨blk,ad,ty,q1,bJ,q2,q3,q4,cI,c4⟩:=ag.heap b c hh
    rw[hb] at q1
    cases q1
    have key:=ar.av (w:=E.w) (PA:=E'.PA) (PF:=E'.PF) (PB:=E'.PF) (rows:=rows.map fun row=>row.map fO) (full:=false) (fresh:=true) (A:=some ⟨c,0,none⟩) (cap:=cap) (sz:=E.sz b) (vs:=fun i j=>(ad[i*E.sz b+j]?).getD undef)
     (fun c hc=>by simpa using hc) (by rw[List.length_map];exact⟨kk,dR⟩) (fun h=>by cases h) (fun i row' aa=> ?_) (fun h0=>⟨c,0,rfl,.inr hh,fun i j hi O=> ?_⟩) (fun i j row' fw aa O=> ?_)
    ·rw[List.length_map] at key
     show ar E.w E'.PA E'.PF _ (.slice (some ⟨c,0*E.sz b,none⟩) rows.length cap)
     rw[Nat.zero_mul];exact key
    ·rw[List.getElem?_map] at aa
     cases al:rows[i]? with
     | none=>simp[al] at aa
     | some row=>simp[al] at aa;subst aa;rw[List.length_map];exact cI i row al
    ·rw[List.length_map] at hi
     have aa:=List.getElem?_eq_getElem hi
     have ak:=cI i _ aa
     obtain⟨u,hu,_⟩:=c4 i j _ _ aa (List.getElem?_eq_getElem (by rw[ak];exact O))
     rw[Nat.zero_add,cell_of q2 hu,hu];rfl
    ·rw[List.getElem?_map] at aa
     cases al:rows[i]? with
     | none=>simp[al] at aa
     | some row=>
      simp[al] at aa;subst aa
      rw[List.getElem?_map] at O
      cases iX:row[j]? with
      | none=>simp[iX] at O
      | some a=>
       simp[iX] at O;subst O
       obtain⟨u,hu,eL⟩:=c4 i j row a al iX
       obtain⟨df,fa⟩:=hk row (List.mem_of_getElem? al) a (List.mem_of_getElem? iX)
       rw[hu]
       exact(HO df fa (te df eL)).mono (fun _ _=>rfl) (fun _ h=>h.elim) (fun c hc=> .inl hc) (fun _ h=>h)
theorem Weak.Li [fQ:bF] (i:Nat) {T:List AV} {L:List (Nat×List AV)} {H:List Blk} {b iS sz n:Nat} {full:Bool} {rows:List (List AV)} (bu:T.getD i .undef= .ref b iS 0 n full) (af:n=rows.length) (hb:H[b]?=some ⟨iS,sz,rows⟩) (hg:fQ.n≤b)
  (hk: ∀row∈rows,∀a∈row,gb a=true∧jM a=true) (dR:rows.length≤4611686018427387904):Weak ⟨T,L,H⟩ ⟨T.set i (.av (rows.map fun row=>row.map fO) false true),L,H.set b ⟨iS+1,sz,[]⟩⟩:=fun bx E tmps g s=>by
 subst af
 obtain⟨E',hw,aJ,h1,h2,hle,Dn,hv⟩:=CG g s.h s.l hb hg hk dR
 refine⟨E',hw,aJ,h1,h2,fun t=> ?_,by simpa using s.size⟩
 show V3 E' ((T.set i _).getD t .undef) _
 rw[mj]
 split
 ·rename_i al
  obtain⟨rfl,_⟩:=al
  have aA:V3 E (T.getD i .undef) (tmps.getD i undef):=s.fy i
  rw[bu] at aA
  exact hv _ full aA
 ·exact(s.fy t).le hle
theorem Weak.Lh [fQ:bF] (t i:Nat) {T:List AV} {L:List (Nat×List AV)} {H:List Blk} {cells:List AV} {b iS sz n:Nat} {full:Bool} {rows:List (List AV)} (hc:cG L t=some cells) (bu:cells.getD i .undef= .ref b iS 0 n full) (af:n=rows.length) (hb:H[b]?=some ⟨iS,sz,rows⟩) (hg:fQ.n≤b)
  (hk: ∀row∈rows,∀a∈row,gb a=true∧jM a=true) (dR:rows.length≤4611686018427387904):Weak ⟨T,L,H⟩ ⟨T,hL L t (cells.set i (.av (rows.map fun row=>row.map fO) false true)),H.set b ⟨iS+1,sz,[]⟩⟩:=fun bx E tmps g s=>by
 subst af
 obtain⟨E',hw,aJ,h1,h2,hle,Dn,hv⟩:=CG g s.h s.l hb hg hk dR
 refine⟨E',hw,aJ,h1,fun u c hm=> ?_,fun t=>(s.fy t).le hle,s.size⟩
 rw[Dn] at hm
 obtain⟨eE,ad,ty,q1,q2,q3⟩:=s.l u c hm
 show ∃wS ad ty,cG (hL L t _) u=some wS∧_
 rw[ri]
 by_cases hu:u=t
 ·subst hu
  rw[if_pos rfl]
  have sg:cG L u=some eE:=q1
  rw[hc] at sg
  cases sg
  refine⟨_,ad,ty,by rw[hc];rfl,by rw[hw];exact q2,by simpa using q3.1,fun j x v hx rN=> ?_⟩
  rw[List.getElem?_set] at hx
  split at hx
  ·rename_i iD
   subst iD
   split at hx
   ·rename_i ay
    cases hx
    have Dd:=List.getElem?_eq_getElem ay
    have he:cells.getD i .undef=cells[i]:=by rw[List.getD_eq_getElem?_getD,Dd];rfl
    have hE:=q3.2 i _ v Dd rN
    rw[←he,bu] at hE
    exact ar.v1 (E:=E'.aW) (hv v full hE)
   ·cases hx
  ·exact(q3.2 j x v hx rN).le hle.aW
 ·rw[if_neg hu]
  exact⟨eE,ad,ty,q1,by rw[hw];exact q2,q3.mono fun _ _ k=>k.le hle.aW⟩
def sk (n:Nat):AV→Bool
 | .ref b _ _ _ _=>Nat.blt b n
 | .ptr b _ _ _=>Nat.blt b n
 | _=>true
def lc (n:Nat):AV→Bool
 | .fn _ caps=>caps.all (sk n)
 | a=>sk n a
def qk (n:Nat):AV→Bool
 | .agg l=>l.all (lc n)
 | a=>lc n a
def ql (n:Nat):AV→Bool
 | .tup l=>l.all (qk n)
 | a=>qk n a
def Env.cut (E:Env) (n:Nat):Env:={E with m:=fun j=>if j<n then E.m j else none,aE:=fun j=>if j<n then E.aE j else 0}
section
variable {E:Env} {n:Nat}
theorem rb {j:Nat} (h:j<n):(E.cut n).m j=E.m j∧(E.cut n).aE j=E.aE j:=⟨if_pos h,if_pos h⟩
theorem cY.cut {a:AV} {v:Value} (h:sk n a=true) (hv:cY E a v):cY (E.cut n) a v:=by
 cases a with
 | ref b g o m f=>
  have hb:b<n:=by rw[←Nat.blt_eq];exact h
  obtain⟨aO,e2⟩:=rb (E:=E) hb
  have hv:(g<E.aE b∧_)∨(g=E.aE b∧_):=hv
  show(g<(E.cut n).aE b∧_)∨(g=(E.cut n).aE b∧_)
  rw[aO,e2];exact hv
 | ptr b g r c=>
  have hb:b<n:=by rw[←Nat.blt_eq];exact h
  obtain⟨aO,e2⟩:=rb (E:=E) hb
  have hv:(g<E.aE b∧_)∨(g=E.aE b∧_):=hv
  show(g<(E.cut n).aE b∧_)∨(g=(E.cut n).aE b∧_)
  rw[aO,e2];exact hv
 | _=>exact hv
theorem be.cut {a:AV} {v:Value} (h:lc n a=true) (hv:be E a v):be (E.cut n) a v:=by
 by_cases hf: ∃f caps,a= .fn f caps
 ·obtain⟨f,caps,rfl⟩:=hf
  obtain⟨vs,e,ab⟩:=hv
  exact⟨vs,e,ab.1,fun i x y hx ax=>(ab.2 i x y hx ax).cut (List.all_eq_true.1 (show caps.all (sk n)=true from h) x (List.mem_of_getElem? hx))⟩
 ·have aA:lc n a=sk n a:=by cases a<;>first | rfl | exact absurd ⟨_,_,rfl⟩ hf
  rw[ln fun f c e=>hf ⟨f,c,e⟩] at hv ⊢
  exact hv.cut (aA▸h)
theorem V2.cut {a:AV} {v:Value} (h:qk n a=true) (hv:V2 E a v):V2 (E.cut n) a v:=by
 by_cases hf: ∃l,a= .agg l
 ·obtain⟨l,rfl⟩:=hf
  obtain⟨vs,e,ab⟩:=hv
  exact⟨vs,e,ab.1,fun i x y hx ax=>(ab.2 i x y hx ax).cut (List.all_eq_true.1 (show l.all (lc n)=true from h) x (List.mem_of_getElem? hx))⟩
 ·have aA:qk n a=lc n a:=by cases a<;>first | rfl | exact absurd ⟨_,rfl⟩ hf
  rw[ka fun l e=>hf ⟨l,e⟩] at hv ⊢
  exact hv.cut (aA▸h)
theorem V3.cut {a:AV} {v:Value} (h:ql n a=true) (hv:V3 E a v):V3 (E.cut n) a v:=by
 by_cases hf: ∃l,a= .tup l
 ·obtain⟨l,rfl⟩:=hf
  obtain⟨vs,e,ab⟩:=hv
  exact⟨vs,e,ab.1,fun i x y hx ax=>(ab.2 i x y hx ax).cut (List.all_eq_true.1 (show l.all (qk n)=true from h) x (List.mem_of_getElem? hx))⟩
 ·have aA:ql n a=qk n a:=by cases a<;>first | rfl | exact absurd ⟨_,rfl⟩ hf
  rw[kb fun l e=>hf ⟨l,e⟩] at hv ⊢
  exact hv.cut (aA▸h)
end
theorem Weak.cut [fQ:bF] (n:Nat) {T:List AV} {L:List (Nat×List AV)} {H:List Blk} (hg:fQ.n≤n) (bu: ∀t,ql n (T.getD t .undef)=true) (aY: ∀t cells,cG L t=some cells→cells.all (lc n)=true) (ag: ∀(b:Nat) (blk:Blk),b<n→H[b]?=some blk→ ∀row∈blk.rows,row.all (lc n)=true):
  Weak ⟨T,L,H⟩ ⟨T,L,H.take n⟩:=fun bx E tmps g s=>by
 have e3:SimH E H:=s.h
 have hm: ∀{j:Nat} {x:Option Nat},(E.cut n).m j=some x→j<n∧E.m j=some x:=fun{j x} h=>by
  have h:(if j<n then E.m j else none)=some x:=h
  split at h
  ·rename_i e;exact⟨e,h⟩
  ·cases h
 have get: ∀{j:Nat},j<n→(H.take n)[j]?=H[j]?:=fun{j} h=>by rw[List.getElem?_take,if_pos h]
 refine⟨E.cut n,rfl,?_,?_,?_,fun t=>(s.fy t).cut (bu t),s.size⟩
 ·exact{g with
   le:=⟨g.le.dC,g.le.dr,g.le.nC,g.le.wf,fun b=>by
     show bx.aE b≤(if b<n then E.aE b else 0)
     split
     ·exact g.le.aE b
     ·rw[(g.r3 b (by omega)).2];exact Nat.le_refl _,fun b x hx lM=>by
     have hb:b<n:=by
      rcases Nat.lt_or_ge b n with h | h
      ·exact h
      ·rw[(g.r3 b (by omega)).1] at hx;cases hx
     obtain⟨aO,e2⟩:=rb (E:=E) hb
     rw[e2] at lM
     rw[aO]
     exact g.le.m b x hx lM,g.le.mL⟩
   fV:=fun b c h=>g.fV b c (hm h).2
   gj:=g.gj}
 ·exact{e3 with
   heap:=fun j c h=>by
    obtain⟨O,h⟩:=hm h
    obtain⟨blk,ad,ty,q1,bJ,q2,q3,q4,cI,c4⟩:=e3.heap j c h
    refine⟨blk,ad,ty,by rw[get O];exact q1,bJ,q2,q3,q4,cI,fun i k row a h1 h2=> ?_⟩
    obtain⟨u,hu,aa⟩:=c4 i k row a h1 h2
    exact⟨u,hu,aa.cut (List.all_eq_true.1 (ag j blk O q1 row (List.mem_of_getElem? h1)) a (List.mem_of_getElem? h2))⟩
   cS:=fun j blk h=>by
    have O:j<n:=by
     rcases Nat.lt_or_ge j n with q | q
     ·exact q
     ·rw[List.getElem?_take,if_neg (by omega)] at h;cases h
    rw[(rb (E:=E) O).2]
    rw[get O] at h;exact e3.cS j blk h
   e0:=fun j h=>by
    obtain⟨O,h⟩:=hm h
    obtain⟨blk,q1,q2⟩:=e3.e0 j h
    exact⟨blk,by rw[get O];exact q1,q2⟩
   fresh:=fun j h=>by
    rw[List.length_take] at h
    rcases Nat.lt_or_ge j n with q | q
    ·obtain⟨aO,e2⟩:=rb (E:=E) q
     rw[aO,e2];exact e3.fresh j (by omega)
    ·exact⟨if_neg (by omega),if_neg (by omega)⟩
   ee:=fun j k c h1 h2=>e3.ee j k c (hm h1).2 (hm h2).2
   ey:=fun j t c h1 h2=>e3.ey j t c (hm h1).2 h2
   fm:=fun c hc ⟨j,O⟩=>e3.fm c hc ⟨j,(hm O).2⟩
   dB:=fun c ⟨j,O⟩=>e3.dB c ⟨j,(hm O).2⟩}
 ·intro t c aC
  obtain⟨cells,ad,ty,q1,q2,q3⟩:=s.l t c aC
  exact⟨cells,ad,ty,q1,q2,q3.1,fun i a u hx hu=>(q3.2 i a u hx hu).cut (List.all_eq_true.1 (aY t cells q1) a (List.mem_of_getElem? hx))⟩
inductive aq where
 | int | u64 | u8 | bool | str | bZ | cN | fe | jL | eu | held | frame | done | fault | stays | eG | unit | nat
 | l (e:aq)
 | ptr (e:aq)
 | gK (f:Nat) (e:aq)
 deriving DecidableEq,Inhabited
@[reducible] def aq.T:aq→Type
 | .int=>Int
 | .u64=>Int
 | .u8=>UInt8
 | .bool=>Bool
 | .str=>ByteArray
 | .bZ=>cm
 | .cN=>Way
 | .fe=>aS
 | .jL=>Event
 | .eu=>b4
 | .held=>aI
 | .frame=>Frame
 | .done=>sC
 | .fault=>fP
 | .stays=>wl
 | .eG=>sB
 | .unit=>Unit
 | .nat=>Nat
 | .l e=>List e.T
 | .ptr e=>e.T
 | .gK _ e=>e.T
@[reducible] def aq.ou:(e:aq)→Inhabited e.T
 | .int=>inferInstanceAs (Inhabited Int)
 | .u64=>inferInstanceAs (Inhabited Int)
 | .u8=>inferInstanceAs (Inhabited UInt8)
 | .bool=>inferInstanceAs (Inhabited Bool)
 | .str=>inferInstanceAs (Inhabited ByteArray)
 | .bZ=>inferInstanceAs (Inhabited cm)
 | .cN=>inferInstanceAs (Inhabited Way)
 | .fe=>inferInstanceAs (Inhabited aS)
 | .jL=>inferInstanceAs (Inhabited Event)
 | .eu=>inferInstanceAs (Inhabited b4)
 | .held=>inferInstanceAs (Inhabited aI)
 | .frame=>inferInstanceAs (Inhabited Frame)
 | .done=>inferInstanceAs (Inhabited sC)
 | .fault=>inferInstanceAs (Inhabited fP)
 | .stays=>inferInstanceAs (Inhabited wl)
 | .eG=>inferInstanceAs (Inhabited sB)
 | .unit=>inferInstanceAs (Inhabited Unit)
 | .nat=>inferInstanceAs (Inhabited Nat)
 | .l e=>inferInstanceAs (Inhabited (List e.T))
 | .ptr e=>e.ou
 | .gK _ e=>e.ou
def ns (e:aq) (xs:List e.T) (i:Int):e.T:= @nth e.T e.ou xs i
def bR:List aq→Type
 | []=>Unit
 | e::r=>e.T×bR r
def aq.a6:aq→List aq
 | .bZ=>[.int,.int]
 | .cN=>[.l .int,.l .bZ,.l .bZ,.l .int,.l .int]
 | .fe=>[.int,.l .int,.l .cN,.l (.l .bool),.int]
 | .jL=>[.int,.int,.int]
 | .eu=>[.int,.int]
 | .held=>[.int,.int,.l .bool,.bool,.int]
 | .frame=>[.bool,.l .bool,.l .eu,.l .held]
 | .done=>[.int,.bool,.l .bool,.l .eu,.l .held]
 | .fault=>[.int,.int]
 | .stays=>[.l .int,.l .int,.l .int]
 | .eG=>[.l .u8,.int,.u64]
 | e=>[e]
def aq.isS:aq→Bool
 | .bZ | .cN | .fe | .jL | .eu | .held | .frame | .done | .fault | .stays | .eG=>true
 | _=>false
def aq.mk:(e:aq)→bR e.a6→e.T
 | .bZ,(a,b,_)=>⟨a,b⟩
 | .cN,(a,b,c,d,e,_)=>⟨a,b,c,d,e⟩
 | .fe,(a,b,c,d,e,_)=>⟨a,b,c,d,e⟩
 | .jL,(a,b,c,_)=>⟨a,b,c⟩
 | .eu,(a,b,_)=>⟨a,b⟩
 | .held,(a,b,c,d,e,_)=>⟨a,b,c,d,e⟩
 | .frame,(a,b,c,d,_)=>⟨a,b,c,d⟩
 | .done,(a,b,c,d,e,_)=>⟨a,⟨b,c,d,e⟩⟩
 | .fault,(a,b,_)=>⟨a,b⟩
 | .stays,(a,b,c,_)=>⟨a,b,c⟩
 | .eG,(a,b,c,_)=>⟨a,b,c⟩
 | .int,(a,_)=>a
 | .u64,(a,_)=>a
 | .u8,(a,_)=>a
 | .bool,(a,_)=>a
 | .str,(a,_)=>a
 | .unit,(a,_)=>a
 | .nat,(a,_)=>a
 | .l _,(a,_)=>a
 | .ptr _,(a,_)=>a
 | .gK _ _,(a,_)=>a
def aq.un:(e:aq)→e.T→bR e.a6
 | .bZ,x=>(x.bE,x.bZ,())
 | .cN,x=>(x.ae,x.bA,x.ca,x.b8,x.ct,())
 | .fe,x=>(x.ae,x.aR,x.U,x.a_,x.dw,())
 | .jL,x=>(x.op,x.HI,x.bZ,())
 | .eu,x=>(x.e6,x.bA,())
 | .held,x=>(x.dW,x.cT,x.aF,x.dV,x.dX,())
 | .frame,x=>(x.ok,x.bM,x.bP,x.U,())
 | .done,x=>(x.code,x.frame.ok,x.frame.bM,x.frame.bP,x.frame.U,())
 | .fault,x=>(x.code,x.pos,())
 | .stays,x=>(x.U,x.ae,x.bP,())
 | .eG,x=>(x.code,x.pos,x.GW,())
 | .int,x=>(x,())
 | .u64,x=>(x,())
 | .u8,x=>(x,())
 | .bool,x=>(x,())
 | .str,x=>(x,())
 | .unit,x=>(x,())
 | .nat,x=>(x,())
 | .l _,x=>(x,())
 | .ptr _,x=>(x,())
 | .gK _ _,x=>(x,())
theorem aq.HN (e:aq) (x:bR e.a6):e.un (e.mk x)=x:=by cases e<;>rfl
def bD (fr:Bool):(e:aq)→e.T→List AV
 | .int,x=>c1 x
 | .u64,x=>[.int .u64 x]
 | .u8,x=>tw x
 | .bool,x=>bm x
 | .str,x=>xm x
 | .bZ,x=>cK x
 | .cN,x=>cE fr x
 | .fe,x=>bT fr x
 | .jL,x=>xj x
 | .eu,x=>cb x
 | .held,x=>ii fr x
 | .frame,x=>hT fr x
 | .done,x=>xi fr x
 | .fault,x=>xk x
 | .stays,x=>J6 fr x
 | .eG,x=>J3 fr x
 | .l e,x=>[.av (x.map (bD false e)) false fr]
 | .unit,_ | .nat,_ | .ptr _,_ | .gK _ _,_=>[.undef]
def gf (fr:Bool):(e:aq)→e.T→AV
 | .int,x=> .int .i64 x
 | .u64,x=> .int .u64 x
 | .u8,x=> .int .u8 x.toNat
 | .bool,x=> .bool x
 | .str,x=> .str x
 | .l e,x=> .av (x.map (bD false e)) false fr
 | _,_=> .undef
def fL (fr:Bool):(es:List aq)→bR es→List AV
 | [],_=>[]
 | e::r,x=>gf fr e x.1::fL fr r x.2
theorem jo (fr:Bool) (e:aq) (x:e.T):fL fr e.a6 (e.un x)=bD fr e x:=by
 cases e<;>first | rfl | (simp only[aq.a6,aq.un,fL,gf,bD];rfl)
def aq.im:aq→Nat
 | .bZ=>2
 | .cN=>5
 | .fe=>5
 | .jL=>3
 | .eu=>2
 | .held=>5
 | .frame=>4
 | .done=>5
 | .fault=>2
 | .stays=>3
 | .eG=>3
 | _=>1
theorem n1 (fr:Bool) (e:aq) (x:e.T):(bD fr e x).length=e.im:=by cases e<;>rfl
def aq.ku:aq→Bool
 | .unit | .nat | .ptr _ | .gK _ _=>false
 | _=>true
theorem Kc {fr:Bool} {e:aq} (h:e.ku=true) (x:e.T):(bD fr e x).all fY=true:=by cases e<;>first | rfl | cases h
inductive cz where
 | t | f
 | v (b:Bool)
 | at(i:Nat) (b:Bool)
 | n (x:cz)
 | aK (x y:cz)
 | or (x y:cz)
 | ite (c x y:cz)
 | pA (x y:cz)
 | ne (x y:cz)
 deriving Inhabited
def cz.den:cz→Bool
 | .t=>true
 | .f=>false
 | .v b=>b
 | .at _ b=>b
 | .n x=> !x.den
 | .aK x y=>x.den&&y.den
 | .or x y=>x.den || y.den
 | .ite c x y=>bif c.den then x.den else y.den
 | .pA x y=>x.den==y.den
 | .ne x y=>x.den !=y.den
def cz.not:cz→cz
 | .t=> .f
 | .f=> .t
 | x=> .n x
def cz.oH (b x y:cz):cz:=match x with
 | .t=>(match y with
  | .t=> .t
  | .f=>b
  | y=> .or b y)
 | .f=>(match y with
  | .f=> .f
  | .t=> .n b
  | y=> .aK (.n b) y)
 | x=>(match y with
  | .f=> .aK b x
  | .t=> .or (.n b) x
  | y=> .ite b x y)
theorem cz.sb (b x y:cz):(cz.oH b x y).den=bif b.den then x.den else y.den:=by
 cases x<;>cases y<;>simp only[cz.oH,cz.den]<;>cases b.den<;>simp
inductive TV where
 | u
 | i (k:IntKind) (n:Int)
 | b (x:cz)
 | s (x:ByteArray)
 | l (e:aq) (xs:List e.T) (full fr:Bool)
 | nil (full fr:Bool)
 | ref (b g n:Nat) (full:Bool)
 | ptr (b g:Nat) (i:Int) (n col:Nat)
 | lp (t col:Nat)
 | cv (e:aq) (x:e.T) (col:Nat)
 | agg (c:List TV)
 | tup (c:List TV)
 | fn (f:FuncId) (c:List TV)
 | o (a:AV)
 | blk (g:Nat) (e:aq) (xs:List e.T) (n:Nat) (h:xs.length=n)
 | ds (g:Nat) (c:List TV)
 | gV (g m:Nat) (ids:List Nat)
 | eI (V:List aI) (ids:List Nat) (n:Nat) (h:V.length=n)
 | new (id:Nat) (xs:List Bool)
 | pG (w:Int) (ids:List Nat) (m n:Nat)
 | pF (w:Int) (ids:List Nat) (m:Nat) (j:Int)
 | r6 (id m n:Nat)
 deriving Inhabited
class FZ where
 ws:List aI
 bs:List (List Bool)
mutual
def TV.aH:TV→AV
 | .u=> .undef
 | .i k n=> .int k n
 | .b x=> .bool x.den
 | .s x=> .str x
 | .l e xs full fr=> .av (xs.map (bD false e)) full fr
 | .nil full fr=> .av [] full fr
 | .ref b g n full=> .ref b g 0 n full
 | .ptr b g i _ c=> .ptr b g i.toNat c
 | .lp t c=> .dn t c
 | .cv e x c=> .cv (bD false e x) c
 | .agg c=> .agg (bN c)
 | .tup c=> .tup (bN c)
 | .fn f c=> .fn f (bN c)
 | .o a=>a
 | .blk _ _ _ _ _=> .undef
 | .ds _ _=> .undef
 | .gV _ _ _=> .undef
 | .eI _ _ _ _=> .undef
 | .new _ _=> .undef
 | .pG w ids m k=> .ref (nth ids w+m) 0 0 k false
 | .pF w ids m j=> .ptr (nth ids w+m) 0 j.toNat 0
 | .r6 id m k=> .ref (id+m) 0 0 k false
def bN:List TV→List AV
 | []=>[]
 | x::r=>x.aH::bN r
end
theorem jC (l:List TV):bN l=l.map TV.aH:=by
 induction l with
 | nil=>rfl
 | cons x r aT=>rw[bN,aT];rfl
def TV.dv [Z:FZ]:TV→Blk
 | .blk g e xs _ _=>⟨g,e.im,xs.map (bD true e)⟩
 | .ds g c=>⟨g,c.length,[bN c]⟩
 | .gV g m ids=>⟨g,5,cd m Z.ws ids⟩
 | _=>⟨0,0,[]⟩
def sv (fr:Bool):(e:aq)→e.T→TV
 | .int,x=> .i .i64 x
 | .u64,x=> .i .u64 x
 | .u8,x=> .i .u8 x.toNat
 | .bool,x=> .b (.v x)
 | .str,x=> .s x
 | .l e,x=> .l e x false fr
 | _,_=> .u
def vD (fr:Bool):(es:List aq)→bR es→List TV
 | [],_=>[]
 | e::r,x=>sv fr e x.1::vD fr r x.2
theorem AE (fr:Bool) (e:aq) (x:e.T):(sv fr e x).aH=gf fr e x:=by cases e<;>rfl
theorem HJ (fr:Bool): ∀(es:List aq) (x:bR es),bN (vD fr es x)=fL fr es x
 | [],_=>rfl
 | e::r,x=>by rw[vD,bN,fL,AE,HJ fr r]
def gd (fr:Bool) (e:aq) (x:e.T):List TV:=vD fr e.a6 (e.un x)
theorem tk (fr:Bool) (e:aq) (x:e.T):bN (gd fr e x)=bD fr e x:=by rw[gd,HJ,jo]
structure TS where
 T:List (Nat×TV)
 B:List (Nat×TV)
 vs:List (Nat×Nat)
 aB:Nat
 deriving Inhabited
def eS:List (Nat×TV)→Nat→TV→TV
 | [],_,d=>d
 | (k,v)::r,t,d=>match Nat.beq k t with
  | true=>v
  | false=>eS r t d
def iJ (v c:Nat):Nat:=1000010+(1000*v+c)
def ch:Nat:=1000000
def dT:Nat:=1000001
def bc (b:Nat):Nat:=1000000000000+b
def TS.get (s:TS) (k:Nat):TV:=eS s.T k (eS s.B k .u)
def TS.put (s:TS) (k:Nat) (v:TV):TS:=⟨(k,v)::s.T,s.B,s.vs,s.aB⟩
def fk (s:TS) (v:Nat):Nat→Nat→List TV
 | _,0=>[]
 | c,m+1=>s.get (iJ v c)::fk s v (c+1) m
def TS.tT (n:Nat) (s:TS):List AV:=(List.range n).map fun t=>(s.get t).aH
def TS.bw (s:TS):List (Nat×List AV):=s.vs.map fun p=>(p.1,bN (fk s p.1 0 p.2))
def fW (s:TS):Bool:=match s.get ch with
 | .eI _ _ _ _=>false
 | _=>true
def eW [Z:FZ] (s:TS):List Blk:=match fW s with
 | true=>[]
 | false=>Z.bs.map cj
def TS.ei [FZ] (s:TS):List Blk:=(List.range s.aB).map fun b=>(s.get (bc b)).dv
def TS.ac [FZ] (n:Nat) (s:TS):St:=⟨s.tT n,s.bw,s.ei++eW s⟩
def Fits [Z:FZ] (s:TS):Prop:=
 (∀V ids n h,s.get ch= .eI V ids n h→jx Z.ws ids Z.bs∧view Z.ws ids Z.bs=V∧ ∀id xs,s.get dT= .new id xs→id<Z.bs.length∧Z.bs.getD id []=xs∧ ∀j:Nat,ids[j]?≠some id)
theorem Fits.congr [FZ] {s s':TS} (h:Fits s) (e: ∀k,1000000≤k→k<1000010→s'.get k=s.get k):Fits s':=fun V ids n h' jq=>by
 rw[e ch (by unfold ch;omega) (by unfold ch;omega)] at jq
 obtain⟨h1,h2,a8⟩:=h V ids n h' jq
 refine⟨h1,h2,fun id xs hi=>a8 id xs ?_⟩
 rw[←hi,e dT (by unfold dT;omega) (by unfold dT;omega)]
theorem Fits.none [FZ] {s:TS} (h:fW s=true):Fits s:=fun V ids n h' jq=>by
 unfold fW at h;rw[jq] at h;cases h
theorem eZ (k:Nat) (v:TV) (r:List (Nat×TV)) (t:Nat) (d:TV):eS ((k,v)::r) t d=if k=t then v else eS r t d:=by
 show(match Nat.beq k t with
  | true=>v
  | false=>eS r t d)=_
 by_cases h:k=t
 ·subst h;rw[Nat.beq_refl,if_pos rfl]
 ·rw[if_neg h]
  cases hb:Nat.beq k t with
  | true=>exact absurd (Nat.eq_of_beq_eq_true hb) h
  | false=>rfl
theorem oz (A B:List (Nat×TV)) (t:Nat) (d:TV):eS (A++B) t d=eS A t (eS B t d):=by
 induction A with
 | nil=>rfl
 | cons p r aT=>obtain⟨k,v⟩:=p;rw[List.cons_append,eZ,eZ,aT]
theorem ni {A:List (Nat×TV)} {t:Nat} {d:TV} (h: ∀v,(t,v) ∉ A):eS A t d=d:=by
 induction A with
 | nil=>rfl
 | cons p r aT=>
  obtain⟨k,v⟩:=p
  rw[eZ,if_neg,aT fun w hw=>h w (List.mem_cons_of_mem _ hw)]
  rintro rfl;exact h v (List.mem_cons_self ..)
theorem TS.xQ (s:TS) (k:Nat) (v:TV) (t:Nat):(s.put k v).get t=if k=t then v else s.get t:=eZ ..
inductive aj:Type 1 where
 | ho (ex:Exit) (s:TS)
 | fh
 | no
 | p (φ:Prop) (t:aj)
 | gw (φ:Prop) (t:aj)
 | fM (b:cz) (s:TS) (x y:aj)
 | two (x y:aj)
 | e_ (x:aj) (cF:List Prop) (b:cz) (y:aj)
 | all (α:Type) (f:α→aj)
 | eq {α:Type} (a b:α) (t:aj)
def lE:List Prop→Prop
 | []=>True
 | φ::r=>match r with
  | []=>φ
  | r=>φ∧lE r
theorem BT: ∀{l:List Prop},(∀φ∈l,φ)→lE l
 | [],_=>trivial
 | [φ],h=>h φ (by simp)
 | φ::ψ::r,h=>⟨h φ (by simp),BT (l:=ψ::r) fun x hx=>h x (List.mem_cons_of_mem _ hx)⟩
def pD (cF:List Prop):cz→List Prop
 | .t=>cF
 | b=>cF++[b.den=true]
def re (cF:List Prop) (b:cz):Prop:=lE (pD cF b)
theorem Ks {cF:List Prop} {b:cz} (h: ∀φ∈cF,φ) (hb:b.den=true):re cF b:=by
 unfold re
 refine BT fun φ cP=> ?_
 unfold pD at cP
 split at cP
 ·exact h φ cP
 ·rcases List.mem_append.1 cP with q | q
  ·exact h φ q
  ·rw[List.mem_singleton.1 q];exact hb
def aj.den:aj→(Exit→TS→Prop)→Prop
 | .ho ex s,R=>R ex s
 | .fh,_=>True
 | .no,_=>False
 | .p φ t,R=>φ∧t.den R
 | .gw φ t,R=>φ→t.den R
 | .fM b _ x y,R=>(b.den=true→x.den R)∧(b.den=false→y.den R)
 | .two x y,R=>x.den R∧y.den R
 | .e_ x cF b y,R=>x.den R∧(re cF b→y.den R)
 | .all _ f,R=> ∀a,(f a).den R
 | .eq a b t,R=>a=b∧t.den R
def aj.bind:aj→(Exit→TS→aj)→aj
 | .ho ex s,K=>K ex s
 | .fh,_=> .fh
 | .no,_=> .no
 | .p φ t,K=> .p φ (t.bind K)
 | .gw φ t,K=> .gw φ (t.bind K)
 | .fM b s x y,K=> .fM b s (x.bind K) (y.bind K)
 | .two x y,K=> .two (x.bind K) (y.bind K)
 | .e_ x cF b y,K=> .e_ (x.bind K) cF b (y.bind K)
 | .all α f,K=> .all α fun a=>(f a).bind K
 | .eq a b t,K=> .eq a b (t.bind K)
theorem aj.IS (t:aj) (K:Exit→TS→aj) (R:Exit→TS→Prop):(t.bind K).den R=t.den fun ex s=>(K ex s).den R:=by
 induction t with
 | ho ex s=>rfl
 | fh=>rfl
 | no=>rfl
 | p φ t aT=>simp only[aj.bind,aj.den,aT]
 | gw φ t aT=>simp only[aj.bind,aj.den,aT]
 | fM b s x y fl e9=>simp only[aj.bind,aj.den,fl,e9]
 | two x y fl e9=>simp only[aj.bind,aj.den,fl,e9]
 | e_ x cF b y fl e9=>simp only[aj.bind,aj.den,fl,e9]
 | all α f aT=>simp only[aj.bind,aj.den,aT]
 | eq a b t aT=>simp only[aj.bind,aj.den,aT]
theorem aj.mg {t:aj} {R qU:Exit→TS→Prop} (h:t.den R) (k: ∀ex s,R ex s→qU ex s):t.den qU:=by
 induction t with
 | ho ex s=>exact k _ _ h
 | fh=>trivial
 | no=>exact h
 | p φ t aT=>exact⟨h.1,aT h.2⟩
 | gw φ t aT=>exact fun q=>aT (h q)
 | fM b s x y fl e9=>exact⟨fun q=>fl (h.1 q),fun q=>e9 (h.2 q)⟩
 | two x y fl e9=>exact⟨fl h.1,e9 h.2⟩
 | e_ x cF b y fl e9=>exact⟨fl h.1,fun q=>e9 (h.2 q)⟩
 | all α f aT=>exact fun a=>aT a (h a)
 | eq a b t aT=>exact⟨h.1,aT h.2⟩
inductive dM:Type 1 where
 | fh
 | p (φ:Prop)
 | and (a b:dM)
 | gw (φ:Prop) (c:dM)
 | all (α:Type) (f:α→dM)
def dM.and' (a b:dM):dM:=match a with
 | .fh=>b
 | a=>match b with
  | .fh=>a
  | b=> .and a b
def dM.pY (φ:Prop) (c:dM):dM:=match c with
 | .fh=> .fh
 | c=> .gw φ c
def dM.den:dM→Prop
 | .fh=>True
 | .p φ=>φ
 | .and a b=>a.den∧b.den
 | .gw φ c=>φ→c.den
 | .all _ f=> ∀a,(f a).den
theorem dM.s0 (a b:dM):(dM.and' a b).den↔a.den∧b.den:=by
 cases a<;>cases b<;>simp[dM.and',dM.den]
theorem dM.uy (φ:Prop) (c:dM):(dM.pY φ c).den↔(φ→c.den):=by
 cases c<;>simp[dM.pY,dM.den]
def dM.fact (cF:List Prop) (b:cz) (c:dM):dM:=match pD cF b with
 | []=>c
 | φ::r=> .pY (lE (φ::r)) c
theorem dM.Kt (cF:List Prop) (b:cz) (c:dM):(dM.fact cF b c).den↔(re cF b→c.den):=by
 unfold dM.fact re
 split
 ·rename_i h;rw[h];simp[lE]
 ·rename_i h;rw[h];exact dM.uy _ _
def aj.kd:aj→dM
 | .ho _ _=> .fh
 | .fh=> .fh
 | .no=> .p False
 | .p φ t=> .and' (.p φ) t.kd
 | .gw φ t=> .pY φ t.kd
 | .fM b _ x y=> .and' (.pY (b.den=true) x.kd) (.pY (b.den=false) y.kd)
 | .two x y=> .and' x.kd y.kd
 | .e_ x cF b y=> .and' x.kd (.fact cF b y.kd)
 | .all α f=> .all α fun a=>(f a).kd
 | .eq _ _ t=>t.kd
inductive l5:Type 1 where
 | u
 | v {α:Type} (a:α) (t:l5)
 | n (a b:l5)
 | f {α:Type} (g:α→l5)
def aj.lhs:aj→l5
 | .ho _ _ | .fh | .no=> .u
 | .p _ t | .gw _ t=>t.lhs
 | .fM _ _ x y | .two x y | .e_ x _ _ y=> .n x.lhs y.lhs
 | .all _ f=> .f fun a=>(f a).lhs
 | .eq a _ t=> .v a t.lhs
def aj.rhs:aj→l5
 | .ho _ _ | .fh | .no=> .u
 | .p _ t | .gw _ t=>t.rhs
 | .fM _ _ x y | .two x y | .e_ x _ _ y=> .n x.rhs y.rhs
 | .all _ f=> .f fun a=>(f a).rhs
 | .eq _ b t=> .v b t.rhs
theorem aj.full {t:aj} (h:t.kd.den) (e:t.lhs=t.rhs):t.den fun _ _=>True:=by
 induction t with
 | ho ex s=>trivial
 | fh=>trivial
 | no=>exact h
 | p φ t aT=>
  have h:=(dM.s0 _ _).1 h
  exact⟨h.1,aT h.2 e⟩
 | gw φ t aT=>exact fun q=>aT ((dM.uy _ _).1 h q) e
 | fM b s x y fl e9=>
  have h:=(dM.s0 _ _).1 h
  injection e with aO e2
  exact⟨fun q=>fl ((dM.uy _ _).1 h.1 q) aO,fun q=>e9 ((dM.uy _ _).1 h.2 q) e2⟩
 | two x y fl e9=>
  have h:=(dM.s0 _ _).1 h
  injection e with aO e2
  exact⟨fl h.1 aO,e9 h.2 e2⟩
 | e_ x cF b y fl e9=>
  have h:=(dM.s0 _ _).1 h
  injection e with aO e2
  exact⟨fl h.1 aO,fun q=>e9 ((dM.Kt _ _ _).1 h.2 q) e2⟩
 | all α f aT=>
  injection e with _ e
  exact fun a=>aT a (h a) (congrFun e a)
 | eq a b t aT=>
  injection e with _ aO e2
  exact⟨aO,aT h e2⟩
def Env.wd (W:World):Env:={w:=W,PA:=fun c=>c<W.heap.size,PF:=fun c=>c<W.heap.size∧Plain W c,m:=fun _=>none,aE:=fun _=>0,sz:=fun _=>0,cp:=fun _=>0,mL:=fun _=>none}
theorem SimH.DM {E:Env} {H:List Blk} (hs:SimH E H) {c:Nat} (h:E.dx c):Plain E.w c:=by
 obtain⟨b,hb⟩:=h
 obtain⟨_,ad,ty,_,_,q,_⟩:=hs.heap b c hb
 exact⟨ad,ty,q⟩
theorem cY.wd {E:Env} (ag:SimH E []) (aY: ∀t,E.mL t=none) {a:AV} {v:Value} (h:cY E a v):cY (Env.wd E.w) a v:=by
 have iY: ∀a v,ar E.w E.PA E.PF a v→ar E.w (fun c=>c<E.w.heap.size) (fun c=>c<E.w.heap.size∧Plain E.w c) a v:=fun a v k=>k.mono (fun _ _=>rfl) (fun _ _=>rfl) ag.cu (fun c hc=>⟨ag.cu c (ag.ck c hc),ag.dz c hc⟩)
 have hm:=fun b=>ag.fresh b (Nat.zero_le _)
 cases a with
 | ref b g off n full=>
  rcases h with⟨h,_⟩ | ⟨_,h⟩
  ·rw[(hm b).2] at h;cases h
  ·rcases h with⟨h,_⟩ | ⟨c,cap,h,_⟩<;>rw[(hm b).1] at h<;>cases h
 | ptr b g r c=>
  rcases h with⟨h,_⟩ | ⟨_,bl,h,_⟩
  ·rw[(hm b).2] at h;cases h
  ·rw[(hm b).1] at h;cases h
 | dn t c=>obtain⟨bl,h,_⟩:=h;rw[aY t] at h;cases h
 | _=>exact iY _ _ h
theorem be.wd {E:Env} (ag:SimH E []) (aY: ∀t,E.mL t=none) {a:AV} {v:Value} (h:be E a v):be (Env.wd E.w) a v:=by
 by_cases hf: ∃f caps,a= .fn f caps
 ·obtain⟨f,caps,rfl⟩:=hf
  obtain⟨vs,e,ab⟩:=h
  exact⟨vs,e,ab.mono fun _ _ k=>k.wd ag aY⟩
 ·rw[ln fun f c e=>hf ⟨f,c,e⟩] at h ⊢
  exact h.wd ag aY
theorem V2.wd {E:Env} (ag:SimH E []) (aY: ∀t,E.mL t=none) {a:AV} {v:Value} (h:V2 E a v):V2 (Env.wd E.w) a v:=by
 by_cases hf: ∃l,a= .agg l
 ·obtain⟨l,rfl⟩:=hf
  obtain⟨vs,e,ab⟩:=h
  exact⟨vs,e,ab.mono fun _ _ k=>k.wd ag aY⟩
 ·rw[ka fun l e=>hf ⟨l,e⟩] at h ⊢
  exact h.wd ag aY
def Rows (w:World) (A:Option Addr) (sz:Nat) (rows:List (List AV)):Prop:=rows=[]∨ ∃c o,A=some ⟨c,o,none⟩∧c<w.heap.size∧ ∀(i j:Nat) (row:List AV) (a:AV),rows[i]?=some row→row[j]?=some a→ ∃u,w.cell? ⟨c,o+(i*sz+j),none⟩=some u∧be (Env.wd w) a u
end Go.Proofs.Ytglpfccgmfhkdaa.Fw
