/- The framework, part OP: a call that is handed one struct in the memory (or a variable of the caller's) to write into, beside values that stay. -/
import Derived.Test.YtglpfccgmfhkdaaM1
set_option linter.unusedVariables false
namespace Go.Proofs.Ytglpfccgmfhkdaa.Fw
open Go
def qL:AV→Bool
 | .a8 _ full fr=> !full&& !fr
 | a=>hh a
theorem TB {a:AV} (h:qL a=true):hh a=true∧h7 a=a:=by
 cases a with
 | a8 rows full fr=>
  refine⟨rfl,?_⟩
  cases full<;>cases fr<;>first | rfl | cases h
 | _=>first | exact⟨h,rfl⟩
def p0 (P:Program) (f:FuncId) (g:Nat) (args:List AV) (aM cA:List AV) (t:AV):Prop:=
 c8 P f args [⟨g,aM.length,[aM]⟩] fun r dQ=> ∃B,dQ=⟨g,aM.length,[cA]⟩::B∧jj (⟨g+1,aM.length,[cA]⟩::B) r t
def pY (p q a a0:AV):Prop:=(a=p∧a0=q)∨dE [] [] a a0
theorem Lv {E:Env} (ak: ∀c,E.PF c→E.PA c) {a b:AV} (h:eE [] [] a b): ∀{v:Value},bT E a v→a1 E.w E.PA (fun _=>False) b v:=by
 induction h with
 | undef a=>intro v _;exact .undef v
 | int k n=>intro v hv;have hv:a1 E.w E.PA E.PF (.int k n) v:=hv;cases hv;exact .int _ _
 | bool k=>intro v hv;have hv:a1 E.w E.PA E.PF (.bool k) v:=hv;cases hv;exact .bool _
 | str k=>intro v hv;have hv:a1 E.w E.PA E.PF (.str k) v:=hv;cases hv;exact .str _
 | eI=>intro v hv;have hv:a1 E.w E.PA E.PF .eI v:=hv;cases hv;exact .eI
 | eU=>intro v hv;have hv:a1 E.w E.PA E.PF .eU v:=hv;cases hv;exact .eU
 | a8 rows full fr cS hw=>
  intro v hv
  have hv:a1 E.w E.PA E.PF (.a8 rows full fr) v:=hv
  cases hv with
  | a8 eh e5 fw bX dv hrel=>
   exact .a8 (fun c hc=>by
    have:=eh c hc
    simp only[Bool.false_eq_true,if_false]
    split at this
    ·exact ak c this
    ·exact this) e5 (fun h=>fw (hw h)) bX dv hrel
 | cD cells c=>
  intro v hv
  have hv:a1 E.w E.PA E.PF (.cD cells c) v:=hv
  cases hv with
  | cD hc dv hrel=>exact .cD hc dv hrel
 | dZ aI=>cases aI
 | ptr hb=>cases hb
 | ref _ hb=>cases hb
 | @fn f caps tZ aE aw bx=>
  intro v hv
  obtain⟨vs,rfl,ag⟩:=(show ∃vs:List Value,v= .func (.func f) #[] vs.toArray∧aK (dO E) caps vs from hv)
  exact .fn (aE▸ag.1) fun i b u hb hu=>by
   have aR:i<caps.length:=by have:=(List.getElem?_eq_some_iff.1 hb).1;omega
   exact bx i _ b (List.getElem?_eq_getElem aR) hb (zd (ag.2 i _ u (List.getElem?_eq_getElem aR) hu))
theorem Yl {E E1:Env} (ak: ∀c,E.PF c→E.PA c) (hw:E1.w=E.w) (uq:E1.PA=E.PA) {a b:AV} (h:dE [] [] a b) {v:Value} (hv:V2 E a v):V2 E1 b v:=by
 have up: ∀{b:AV} {v:Value},a1 E.w E.PA (fun _=>False) b v→bT E1 b v:=fun h=>a1.v1 (E:=E1) (h.mono (fun _ _=>by rw[hw]) (fun _ h=>h.elim) (fun c hc=>by rw[uq];exact hc) (fun _ h=>h.elim))
 rcases h with⟨l,l',rfl,rfl,ag⟩ | h
 ·obtain⟨vs,rfl,aw⟩:=hv
  refine⟨vs,rfl,ag.1▸aw.1,fun i x u hx hu=> ?_⟩
  have aR:i<l.length:=by have:=(List.getElem?_eq_some_iff.1 hx).1;have:=ag.1;omega
  have aE:=List.getElem?_eq_getElem aR
  exact up (Lv ak (ag.2 i _ x aE hx) (aw.2 i _ u aE hu))
 ·by_cases hf: ∃l,a= .agg l
  ·obtain⟨l,rfl⟩:=hf
   cases h with
   | undef=>exact a1.undef v
  ·rw[lM fun l e=>hf ⟨l,e⟩] at hv
   exact jI (up (Lv ak h hv))
def Env.one (E:Env) (bl g sz cp:Nat):Env:=
 {w:=E.w,PA:=E.PA,PF:=fun _=>False,m:=fun j=>if j=0 then some (some bl) else none,ba:=fun j=>if j=0 then g else 0
  sz:=fun j=>if j=0 then sz else 0,cp:=fun j=>if j=0 then cp else 0,mL:=fun _=>none}
theorem qU {E:Env} {bl g sz cp j c:Nat} (h:(E.one bl g sz cp).m j=some (some c)):j=0∧c=bl:=by
 have h:(if j=0 then some (some bl) else none)=some (some c):=h
 split at h
 ·rename_i e;cases h;exact⟨e,rfl⟩
 ·cases h
theorem VY {E:Env} {H:List Blk} (az:SimH E H) {bl g cp:Nat} {aM:List AV} {cells:Array Value} {ty:TypeId} (gl:bl<E.w.heap.size) (uq: ¬E.PA bl) (hw:E.w.heap[bl]?=some (.cells cells ty (0,0))) (bX:cells.size=cp*aM.length) (h1:1≤cp)
  (hk:aM.all qL=true) (aw: ∀(j:Nat) (a:AV),aM[j]?=some a→ ∃u,cells[j]?=some u∧bT E a u):SimH (E.one bl g aM.length cp) [⟨g,aM.length,[aM]⟩] where
 heap:=fun b c hb=>by
  obtain⟨rfl,rfl⟩:=qU hb
  have dR: ∀{i:Nat} {row:List AV},([aM]:List (List AV))[i]?=some row→i=0∧row=aM:=fun{i row} h=>by
   cases i with
   | zero=>cases h;exact⟨rfl,rfl⟩
   | succ i=>cases h
  refine⟨⟨g,aM.length,[aM]⟩,cells,ty,rfl,rfl,hw,bX,h1,fun i row h=> ?_,fun i j row a h aC=> ?_⟩
  ·rw[(dR h).2];rfl
  ·obtain⟨rfl,rfl⟩:=dR h
   obtain⟨u,hu,hv⟩:=aw j a aC
   refine⟨u,by rw[Nat.zero_mul,Nat.zero_add];exact hu,?_⟩
   have A2:=TB (List.all_eq_true.1 hk a (List.mem_of_getElem? aC))
   have:=DS A2.1 (wJ A2.1 hv) (fun c hc=>hc) az.dc
   rw[A2.2] at this
   exact a1.v1 (E:=(E.one c g row.length cp).bG) this
 dJ:=fun b blk hb=>by
  cases b with
  | zero=>cases hb;rfl
  | succ b=>cases hb
 fz:=fun b hb=>by
  have hb:(if b=0 then some (some bl) else none)=some none:=hb
  split at hb<;>cases hb
 fresh:=fun b hb=>by
  have hb:1≤b:=hb
  exact⟨if_neg (by omega),if_neg (by omega)⟩
 fR:=fun b bS c h1 h2=>by rw[(qU h1).1,(qU h2).1]
 gW:=fun t gZ c h=>by cases h
 e7:=fun b t c _ h=>by cases h
 fV:=fun c hc ⟨b,hb⟩=>by rw[(qU hb).2] at hc;exact uq hc
 gm:=fun c _ ⟨t,bt⟩=>by cases bt
 dc:=fun c hc=>hc.elim
 df:=az.df
 ed:=fun c ⟨b,hb⟩=>by rw[(qU hb).2];exact gl
 eQ:=fun c ⟨t,bt⟩=>by cases bt
structure pX (E:Env) (bl k n:Nat) (cA:List AV) (t:AV) (v:Value) (E':Env):Prop where
 m:E'.m=E.m
 mL:E'.mL=E.mL
 ba:E'.ba=E.ba
 sz:E'.sz=E.sz
 cp:E'.cp=E.cp
 ep: ∀c,E.PA c→E'.PA c
 et: ∀c,E.PF c→E'.PF c
 dc: ∀c,E'.PF c→E'.PA c
 yd: ∀c,E'.PA c→E.PA c∨(E.w.heap.size≤c∧c<E'.w.heap.size)
 Wg: ∀c,E'.PF c→E.PF c∨E.w.heap.size≤c
 os:E'.w.os=E.w.os
 tape:E'.w.tape=E.w.tape
 output:E'.w.output=E.w.output
 size:E.w.heap.size≤E'.w.heap.size
 dM: ∀c,c<E.w.heap.size→c≠bl→E'.w.heap[c]?=E.w.heap[c]?
 new: ∃cells ty,E'.w.heap[bl]?=some (.cells cells ty (0,0))∧cells.size=k∧cA.length=n∧ ∀(j:Nat) (a:AV),cA[j]?=some a→ ∃u,cells[j]?=some u∧a1 E'.w E'.PA E'.PF a u
 v3:V3 E' t v
theorem Lx {E1 E':Env} {H:List Blk} (hs:SimH E1 H) (hw:E'.w=E1.w) (hu: ∀c,E1.PF c∨E1.ff c→E'.PA c∧E'.PF c) {a b:AV} {u:Value} (h:jj H a b) (hv:V3 E1 a u):V3 E' b u:=by
 have dr: ∀{a b:AV} {u:Value},e1 H a b→bT E1 a u→bT E' b u:=fun aL jN=>a1.v1 (E:=E') ((Lw hs aL jN).mono (fun _ _=>by rw[hw]) (fun _ _=>by rw[hw]) (fun c hc=>(hu c hc).1) (fun c hc=>(hu c hc).2))
 have dT: ∀{a b:AV} {u:Value},p4 H a b→V2 E1 a u→V2 E' b u:=by
  rintro a b u (⟨l,l',rfl,rfl,ak⟩ | h) hu
  ·obtain⟨h8,rfl,ag⟩:=hu
   refine⟨h8,rfl,ak.1▸ag.1,fun i x y hx bm=> ?_⟩
   have aR:i<l.length:=by have:=(List.getElem?_eq_some_iff.1 hx).1;have:=ak.1;omega
   have aE:=List.getElem?_eq_getElem aR
   exact dr (ak.2 i _ x aE hx) (ag.2 i _ y aE bm)
  ·have:bT E1 a u:=by cases h<;>exact hu
   exact jI (dr h this)
 rcases h with⟨l,l',rfl,rfl,ak⟩ | h
 ·obtain⟨h8,rfl,ag⟩:=hv
  refine⟨h8,rfl,ak.1▸ag.1,fun i x y hx bm=> ?_⟩
  have aR:i<l.length:=by have:=(List.getElem?_eq_some_iff.1 hx).1;have:=ak.1;omega
  have aE:=List.getElem?_eq_getElem aR
  exact dT (ak.2 i _ x aE hx) (ag.2 i _ y aE bm)
 ·have:V2 E1 a u:=by
   rcases h with⟨l,l',rfl,rfl,ak⟩ | h
   ·exact hv
   ·cases h<;>exact hv
  exact jk (dT h this)
theorem EK {P:Program} {f:FuncId} {vs:List Value} {E:Env} {H:List Blk} {args db aM cA:List AV} {p t:AV} {bl g cp:Nat} {cells:Array Value} {ty:TypeId} (az:SimH E H) (gl:bl<E.w.heap.size) (uq: ¬E.PA bl)
  (hw:E.w.heap[bl]?=some (.cells cells ty (0,0))) (bX:cells.size=cp*aM.length) (h1:1≤cp) (hk:aM.all qL=true) (aw: ∀(j:Nat) (a:AV),aM[j]?=some a→ ∃u,cells[j]?=some u∧bT E a u)
  (aL:aK (V2 E) args vs) (ak: ∀v,V2 E p v→v= .pointer (some ⟨bl,0,none⟩)) (hs:aK (pY p (.ptr 0 g 0 0)) args db) (hG:cA.all hh=true) (h:p0 P f g db aM cA t):
  Calls P f vs.toArray E.w fun e w'=> ∃v E',e= .returned v∧E'.w=w'∧pX E bl (cp*aM.length) aM.length cA t v E':=by
 have qg:aK (V2 (E.one bl g aM.length cp)) db vs:=⟨hs.1▸aL.1,fun i x u hx hu=>by
  have aR:i<args.length:=by have:=(List.getElem?_eq_some_iff.1 hx).1;have:=hs.1;omega
  have aE:=List.getElem?_eq_getElem aR
  rcases hs.2 i _ x aE hx with⟨bi,rfl⟩ | h
  ·have hv:=aL.2 i _ u aE hu
   rw[bi] at hv
   rw[ak u hv]
   exact .inr ⟨rfl,bl,rfl,by rw[Nat.zero_mul]⟩
  ·exact Yl (E1:=E.one bl g aM.length cp) az.dc rfl rfl h (aL.2 i _ u aE hu)⟩
 refine(h.2 (E.one bl g aM.length cp) vs (fun _=>rfl) (VY az gl uq hw bX h1 hk aw) qg).mono ?_
 rintro e w' ⟨r,v,dQ,E1,rfl,⟨B,rfl,Bb⟩,rfl,ap,ej,hv,a6⟩
 have aI:E1.ba 0=g:=ej.dJ 0 _ rfl
 obtain⟨hm,aH,hc⟩:=a6.le.m 0 (some bl) rfl aI
 have aH:E1.sz 0=aM.length:=aH
 have hc:E1.cp 0=cp:=hc
 obtain⟨blk,zI,ty2,q1,cj,q2,q3,q4,cw,cr⟩:=ej.heap 0 bl hm
 cases q1
 have sy: ∀c,E1.PF c∨(∃j,j≠0∧E1.m j=some (some c))→E.w.heap.size≤c∧c<E1.w.heap.size:=by
  rintro c (hc | ⟨j,aC,xx⟩)
  ·exact⟨(a6.et c hc).elim (fun h=>h.elim) id,ej.df c (ej.dc c hc)⟩
  ·refine⟨(a6.nF c ⟨j,xx⟩).elim (fun⟨b,hb⟩=> ?_) id,ej.ed c ⟨j,xx⟩⟩
   rw[(qU hb).2] at xx
   exact absurd (ej.fR j 0 bl xx hm) aC
 have lW: ∀c,c<E.w.heap.size→c≠bl→E1.w.heap[c]?=E.w.heap[c]?:=fun c hc b2=>a6.dM c hc (fun⟨b,hb⟩=>b2 (qU hb).2) (fun⟨t,bt⟩=>by cases bt)
 have RI: ∀c,E1.PA c→E.PA c∨(E.w.heap.size≤c∧c<E1.w.heap.size):=fun c hc=>(a6.ep c hc).elim .inl fun h=> .inr ⟨h,ej.df c hc⟩
 let E':Env:={E with w:=E1.w,PA:=fun c=>E.PA c∨E1.PA c∨(E1.PF c∨ ∃j,j≠0∧E1.m j=some (some c)),PF:=fun c=>E.PF c∨(E1.PF c∨ ∃j,j≠0∧E1.m j=some (some c))}
 let wg:Env:={E1 with m:=fun j=>if j=0 then none else E1.m j,ba:=fun j=>if j=0 then g+1 else E1.ba j}
 have aZ: ∀{j:Nat} {x:Option Nat},wg.m j=some x→j≠0∧E1.m j=some x:=fun{j x} h=>by
  have h:(if j=0 then none else E1.m j)=some x:=h
  split at h
  ·cases h
  ·rename_i e;exact⟨e,h⟩
 have uA: ∀{j:Nat},j≠0→wg.ba j=E1.ba j:=fun{j} h=>if_neg h
 have hle:E1.eZ wg:=⟨fun _ h=>h,fun _ h=>h,fun _ _=>rfl,fun _ _=>rfl,fun b=>by
   by_cases e:b=0
   ·subst e;show E1.ba 0≤(if 0=0 then g+1 else E1.ba 0);rw[if_pos rfl,aI];omega
   ·rw[uA e];exact Nat.le_refl _,fun b x hx nx=>by
   by_cases e:b=0
   ·subst e
    have nx:(if 0=0 then g+1 else E1.ba 0)=E1.ba 0:=nx
    rw[if_pos rfl,aI] at nx;omega
   ·exact⟨by show(if b=0 then none else E1.m b)=_;rw[if_neg e];exact hx,rfl,rfl⟩,fun _ _ h=>h⟩
 have my: ∀{j:Nat} (x y:Blk),j≠0→(x::B)[j]?=(y::B)[j]?:=fun{j} x y aC=>by
  cases j with
  | zero=>exact absurd rfl aC
  | succ j=>rfl
 have RT:SimH wg (⟨g+1,aM.length,[cA]⟩::B):=
  {heap:=fun b c hb=>by
    obtain⟨qj,hb⟩:=aZ hb
    obtain⟨blk,r8,ty,dr,fJ,dT,fh,lA,WO,WQ⟩:=ej.heap b c hb
    refine⟨blk,r8,ty,by rw[my _ ⟨g,aM.length,[cA]⟩ qj];exact dr,fJ,dT,fh,lA,WO,fun i j row a h1 h2=> ?_⟩
    obtain⟨u,hu,fs⟩:=WQ i j row a h1 h2
    exact⟨u,hu,fs.le hle.bG⟩
   dJ:=fun b blk hb=>by
    by_cases e:b=0
    ·subst e;cases hb;rfl
    ·rw[uA e];rw[my _ ⟨g,aM.length,[cA]⟩ e] at hb;exact ej.dJ b blk hb
   fz:=fun b hb=>by
    obtain⟨qj,hb⟩:=aZ hb
    obtain⟨blk,dr,dT⟩:=ej.fz b hb
    exact⟨blk,by rw[my _ ⟨g,aM.length,[cA]⟩ qj];exact dr,dT⟩
   fresh:=fun b hb=>by
    have hb:B.length+1≤b:=hb
    have:=ej.fresh b hb
    exact⟨by show(if b=0 then none else E1.m b)=none;rw[if_neg (by omega)];exact this.1,by rw[uA (by omega)];exact this.2⟩
   fR:=fun b bS c h1 h2=>ej.fR b bS c (aZ h1).2 (aZ h2).2
   gW:=ej.gW
   e7:=fun b t c h1 h2=>ej.e7 b t c (aZ h1).2 h2
   fV:=fun c hc ⟨b,hb⟩=>ej.fV c hc ⟨b,(aZ hb).2⟩
   gm:=ej.gm
   dc:=ej.dc
   df:=ej.df
   ed:=fun c ⟨b,hb⟩=>ej.ed c ⟨b,(aZ hb).2⟩
   eQ:=ej.eQ}
 refine⟨v,E',rfl,rfl,rfl,rfl,rfl,rfl,rfl,fun c hc=> .inl hc,fun c hc=> .inl hc,fun c hc=>hc.elim (fun h=> .inl (az.dc c h)) (fun h=> .inr (.inr h)),fun c hc=> ?_,fun c hc=>hc.elim .inl (fun h=> .inr (sy c h).1),
  a6.os,a6.tape,a6.output,a6.size,lW,⟨zI,ty2,q2,by rw[q3,aH,hc],?_,fun j a aC=> ?_⟩,?_⟩
 ·rcases hc with h | h | h
  ·exact .inl h
  ·exact RI c h
  ·exact .inr (sy c h)
 ·have:=cw 0 cA rfl
  rw[aH] at this;exact this
 ·obtain⟨u,hu,fs⟩:=cr 0 j cA a rfl aC
  refine⟨u,by rw[Nat.zero_mul,Nat.zero_add] at hu;exact hu,?_⟩
  have hb:=List.all_eq_true.1 hG a (List.mem_of_getElem? aC)
  exact(wJ hb fs).mono (fun _ _=>rfl) (fun _ _=>rfl) (fun c hc=> .inr (.inl hc)) (fun c hc=> .inr (.inl hc))
 ·refine Lx (E':=E') RT rfl (fun c hc=> ?_) Bb (hv.le hle)
  have:E1.PF c∨ ∃j,j≠0∧E1.m j=some (some c):=hc.elim .inl fun⟨j,aC⟩=> .inr ⟨j,aZ aC⟩
  exact⟨.inr (.inr this),.inr this⟩
section
variable {E E':Env} {H:List Blk} {L:List (Nat×List AV)} {bl k n:Nat} {cA:List AV} {t:AV} {v:Value}
theorem pX.step (A:pX E bl k n cA t v E') (az:SimH E H) (gl:E.ff bl∨E.iu bl):Step E E':=
 {le:=⟨A.ep,A.et,fun c hc=>A.dM c (az.df c hc) (fun e=>by subst e;exact gl.elim (az.fV c hc) (az.gm c hc)),fun c hc=>A.dM c (az.df c (az.dc c hc)) (fun e=>by subst e;exact gl.elim (az.fV c (az.dc c hc)) (az.gm c (az.dc c hc))),
   fun b=>by rw[A.ba];exact Nat.le_refl _,fun b x hx _=>by rw[A.m,A.sz,A.cp];exact⟨hx,rfl,rfl⟩,fun t c h=>by rw[A.mL];exact h⟩
  os:=A.os,tape:=A.tape,output:=A.output,size:=A.size
  dM:=fun c hc h1 h2=>A.dM c hc (fun e=>by subst e;exact gl.elim h1 h2)
  gV:=fun b c hb=> .inl (by rw[←A.m];exact hb)
  hr:=fun c ⟨t,bt⟩=> .inl ⟨t,by rw[←A.mL];exact bt⟩
  ep:=fun c hc=>(A.yd c hc).elim .inl fun h=> .inr h.1
  et:=A.Wg}
theorem pX.simH (A:pX E bl k n cA t v E') (az:SimH E H) (gl:E.ff bl∨E.iu bl) {H':List Blk} (hlen:H'.length=H.length) (aI: ∀(b:Nat) (x:Blk),H'[b]?=some x→ ∃y,H[b]?=some y∧x.ba=y.ba) (hs: ∀(b:Nat) (y:Blk),H[b]?=some y→ ∃x,H'[b]?=some x∧x.sz=y.sz)
  (hb: ∀b c,E.m b=some (some c)→(c≠bl∧H'[b]?=H[b]?)∨ ∃blk aM ty,H'[b]?=some blk∧E.sz b=blk.sz∧E'.w.heap[c]?=some (.cells aM ty (0,0))∧aM.size=E.cp b*E.sz b∧blk.rows.length≤E.cp b∧rT E' (E.sz b) blk.rows aM):SimH E' H':=by
 have a6:=A.step az gl
 have mK: ∀c,E'.ff c→E.ff c:=fun c ⟨b,hb⟩=>⟨b,by rw[←A.m];exact hb⟩
 have Bw: ∀c,E'.iu c→E.iu c:=fun c ⟨b,hb⟩=>⟨b,by rw[←A.mL];exact hb⟩
 have hW:=az.ed
 have hX:=az.eQ
 exact{
  heap:=fun b c h=>by
   rw[A.m] at h
   rw[A.sz,A.cp]
   rcases hb b c h with⟨b2,he⟩ | h
   ·obtain⟨blk,aM,ty,q1,cj,q2,q3,q4,cw,cr⟩:=az.heap b c h
    refine⟨blk,aM,ty,by rw[he];exact q1,cj,by rw[A.dM c (hW c ⟨b,h⟩) b2];exact q2,q3,q4,cw,fun i j row a h1 h2=> ?_⟩
    obtain⟨u,hu,fs⟩:=cr i j row a h1 h2
    exact⟨u,hu,fs.le a6.le.bG⟩
   ·exact h
  dJ:=fun b blk h=>by
   rw[A.ba]
   obtain⟨y,h1,h2⟩:=aI b blk h
   rw[h2];exact az.dJ b y h1
  fz:=fun b h=>by
   rw[A.m] at h
   obtain⟨y,h1,h2⟩:=az.fz b h
   obtain⟨x,aJ,bj⟩:=hs b y h1
   exact⟨x,aJ,by rw[A.sz,bj];exact h2⟩
  fresh:=fun b h=>by rw[A.m,A.ba];exact az.fresh b (by rw[←hlen];exact h)
  fR:=fun b bS c h1 h2=>by rw[A.m] at h1 h2;exact az.fR b bS c h1 h2
  gW:=fun t gZ c h1 h2=>by rw[A.mL] at h1 h2;exact az.gW t gZ c h1 h2
  e7:=fun b t c h1 h2=>by rw[A.m] at h1;rw[A.mL] at h2;exact az.e7 b t c h1 h2
  fV:=fun c hc hi=>(A.yd c hc).elim (fun h=>az.fV c h (mK c hi)) (fun h=>absurd (hW c (mK c hi)) (by omega))
  gm:=fun c hc hi=>(A.yd c hc).elim (fun h=>az.gm c h (Bw c hi)) (fun h=>absurd (hX c (Bw c hi)) (by omega))
  dc:=A.dc
  df:=fun c hc=>(A.yd c hc).elim (fun h=>Nat.lt_of_lt_of_le (az.df c h) A.size) (fun h=>h.2)
  ed:=fun c hc=>Nat.lt_of_lt_of_le (hW c (mK c hc)) A.size
  eQ:=fun c hc=>Nat.lt_of_lt_of_le (hX c (Bw c hc)) A.size}
theorem pX.row (A:pX E bl k n cA t v E') (hk:cA.all hh=true) {cells:Array Value} {ty:TypeId} (hw:E'.w.heap[bl]?=some (.cells cells ty (0,0))):cA.length=n∧cells.size=k∧ ∀(j:Nat) (a:AV),cA[j]?=some a→ ∃u,cells[j]?=some u∧bT E'.bG a u:=by
 obtain⟨c2,ty2,q1,q2,q3,q4⟩:=A.new
 rw[hw] at q1
 cases q1
 refine⟨q3,q2,fun j a aC=> ?_⟩
 obtain⟨u,hu,aw⟩:=q4 j a aC
 exact⟨u,hu,a1.v1 (E:=E'.bG) aw⟩
end
theorem Om {P:Program} {f:FuncId} {vs:List Value} {E:Env} {H:List Blk} {L:List (Nat×List AV)} {args db aM cA:List AV} {t:AV} {b g:Nat} (az:SimH E H) (bF:SimL E L) (hb:H[b]?=some ⟨g,aM.length,[aM]⟩) (hk:aM.all qL=true) (hG:cA.all hh=true)
  (aL:aK (V2 E) args vs) (hm:AV.ptr b g 0 0∈args) (hs:aK (pY (.ptr b g 0 0) (.ptr 0 g 0 0)) args db) (h:p0 P f g db aM cA t):
  Calls P f vs.toArray E.w fun e w'=> ∃v E',e= .returned v∧E'.w=w'∧Step E E'∧SimH E' (H.set b ⟨g,aM.length,[cA]⟩)∧SimL E' L∧V3 E' t v∧E'.mL=E.mL:=by
 have hU:=az.dJ b _ hb
 have iH: ∀v,V2 E (.ptr b g 0 0) v→ ∃bl,E.m b=some (some bl)∧v= .pointer (some ⟨bl,0,none⟩):=fun v hv=>by
  obtain⟨bl,hm,rfl⟩:=V3.yh (E:=E) (v:=v) (show V3 E (.ptr b g 0 0) v from hv) hU
  exact⟨bl,hm,by rw[Nat.zero_mul]⟩
 obtain⟨i,hi,he⟩:=List.mem_iff_getElem.1 hm
 have gv:i<vs.length:=aL.1▸hi
 have fF:=aL.2 i _ _ (List.getElem?_eq_getElem hi) (List.getElem?_eq_getElem gv)
 rw[he] at fF
 obtain⟨bl,iq,_⟩:=iH _ fF
 obtain⟨blk,cells,ty,q1,cj,q2,q3,q4,cw⟩:=az.heap b bl iq
 rw[hb] at q1
 cases q1
 have cj:E.sz b=aM.length:=cj
 have gl:bl<E.w.heap.size:=az.ed bl ⟨b,iq⟩
 refine(EK (bl:=bl) (cp:=E.cp b) az gl (fun h=>az.fV bl h ⟨b,iq⟩) q2 (by rw[q3,cj]) q4 hk (fun j a aC=> ?_) aL (fun v hv=> ?_) hs hG h).mono ?_
 ·obtain⟨u,hu,fs⟩:=cw.2 0 j aM a rfl aC
  exact⟨u,by rw[Nat.zero_mul,Nat.zero_add] at hu;exact hu,fs.up⟩
 ·obtain⟨NT,h1,rfl⟩:=iH v hv
  rw[iq] at h1;cases h1;rfl
 rintro e w' ⟨v,E',rfl,rfl,A⟩
 have oh:E.ff bl∨E.iu bl:= .inl ⟨b,iq⟩
 have a6:=A.step az oh
 refine⟨v,E',rfl,rfl,a6,A.simH az oh (by rw[List.length_set]) (fun j x hx=> ?_) (fun j y bm=> ?_) (fun j c aC=> ?_),fun u c hu=> ?_,A.v3,A.mL⟩
 ·rw[List.getElem?_set] at hx
  split at hx
  ·rename_i e;subst e
   split at hx
   ·cases hx;exact⟨_,hb,rfl⟩
   ·cases hx
  ·exact⟨x,hx,rfl⟩
 ·rw[List.getElem?_set]
  split
  ·rename_i e;subst e
   rw[hb] at bm;cases bm
   rw[if_pos (List.getElem?_eq_some_iff.1 hb).1];exact⟨_,rfl,rfl⟩
  ·exact⟨y,bm,rfl⟩
 ·by_cases e:j=b
  ·subst e
   rw[iq] at aC
   cases aC
   obtain⟨c2,ty2,dr,dT,fh,lA⟩:=A.new
   obtain⟨s1,s2,gM⟩:=A.row hG dr
   refine .inr ⟨⟨g,aM.length,[cA]⟩,c2,ty2,by rw[List.getElem?_set,if_pos rfl,if_pos (List.getElem?_eq_some_iff.1 hb).1],cj,dr,by rw[dT,cj],q4,fun i row aw=> ?_,fun i j row a aw aC=> ?_⟩
   ·cases i with
    | zero=>cases aw;rw[cj];exact s1
    | succ i=>cases aw
   ·cases i with
    | zero=>
     cases aw
     obtain⟨u,hu,fs⟩:=gM j a aC
     exact⟨u,by rw[Nat.zero_mul,Nat.zero_add];exact hu,fs⟩
    | succ i=>cases aw
  ·refine .inl ⟨fun h=>e ?_,by rw[List.getElem?_set,if_neg (fun h=>e h.symm)]⟩
   subst h;exact az.fR j b c aC iq
 ·rw[A.mL] at hu
  obtain⟨r8,c2,ty2,dr,dT,fh⟩:=bF u c hu
  exact⟨r8,c2,ty2,dr,by rw[A.dM c (az.eQ c ⟨u,hu⟩) (fun e=>by subst e;exact az.e7 b u c iq hu)];exact dT,fh.mono fun _ _ k=>k.le a6.le.bG⟩
theorem On {P:Program} {f:FuncId} {vs:List Value} {E:Env} {H:List Blk} {L:List (Nat×List AV)} {args db aM cA:List AV} {t:AV} {x:Nat} (az:SimH E H) (bF:SimL E L) (hx:dm L x=some aM) (hk:aM.all qL=true) (hG:cA.all hh=true)
  (aL:aK (V2 E) args vs) (hm:AV.dZ x 0∈args) (hs:aK (pY (.dZ x 0) (.ptr 0 0 0 0)) args db) (h:p0 P f 0 db aM cA t):
  Calls P f vs.toArray E.w fun e w'=> ∃v E',e= .returned v∧E'.w=w'∧Step E E'∧SimH E' H∧SimL E' (iR L x cA)∧V3 E' t v∧E'.mL=E.mL:=by
 have iH: ∀v,V2 E (.dZ x 0) v→ ∃bl,E.mL x=some bl∧v= .pointer (some ⟨bl,0,none⟩):=fun v hv=>hv
 obtain⟨i,hi,he⟩:=List.mem_iff_getElem.1 hm
 have gv:i<vs.length:=aL.1▸hi
 have fF:=aL.2 i _ _ (List.getElem?_eq_getElem hi) (List.getElem?_eq_getElem gv)
 rw[he] at fF
 obtain⟨bl,iq,_⟩:=iH _ fF
 obtain⟨r8,cells,ty,q1,q2,q3⟩:=bF x bl iq
 rw[hx] at q1
 cases q1
 have gl:bl<E.w.heap.size:=az.eQ bl ⟨x,iq⟩
 have bX:cells.size=1*aM.length:=by rw[Nat.one_mul];exact q3.1.symm
 refine(EK (bl:=bl) (cp:=1) az gl (fun h=>az.gm bl h ⟨x,iq⟩) q2 bX (Nat.le_refl _) hk (fun j a aC=> ?_) aL (fun v hv=> ?_) hs hG h).mono ?_
 ·obtain⟨u,hu,fs⟩:=q3.get aC
  exact⟨u,by rw[Array.getElem?_toList] at hu;exact hu,fs.up⟩
 ·obtain⟨NT,h1,rfl⟩:=iH v hv
  rw[iq] at h1;cases h1;rfl
 rintro e w' ⟨v,E',rfl,rfl,A⟩
 have oh:E.ff bl∨E.iu bl:= .inr ⟨x,iq⟩
 have a6:=A.step az oh
 refine⟨v,E',rfl,rfl,a6,A.simH az oh rfl (fun j y bm=>⟨y,bm,rfl⟩) (fun j y bm=>⟨y,bm,rfl⟩) (fun j c aC=> .inl ⟨fun e=>by subst e;exact az.e7 j x c aC iq,rfl⟩),fun u c hu=> ?_,A.v3,A.mL⟩
 rw[A.mL] at hu
 rw[ui]
 by_cases e:u=x
 ·subst e
  rw[iq] at hu
  cases hu
  obtain⟨c2,ty2,dr,dT,fh,lA⟩:=A.new
  obtain⟨s1,s2,gM⟩:=A.row hG dr
  rw[if_pos rfl,hx]
  refine⟨cA,c2,ty2,rfl,dr,by show cA.length=c2.size;rw[s1,s2,Nat.one_mul],fun j a v aC hv=> ?_⟩
  obtain⟨ZE,jN,fs⟩:=gM j a aC
  rw[Array.getElem?_toList,jN] at hv
  cases hv;exact fs
 ·rw[if_neg e]
  obtain⟨c1,c2,ty2,dr,dT,fh⟩:=bF u c hu
  exact⟨c1,c2,ty2,dr,by rw[A.dM c (az.eQ c ⟨u,hu⟩) (fun h=>by subst h;exact e (az.gW u x c hu iq))];exact dT,fh.mono fun _ _ k=>k.le a6.le.bG⟩
def EJ (P:Program) (f:FuncId) (args:List AV) (L:List (Nat×List AV)) (H:List Blk) (K:lF Prop):Prop:=
 ∃db aM cA t,aM.all qL=true∧cA.all hh=true∧
  ((∃b g,H[b]?=some ⟨g,aM.length,[aM]⟩∧AV.ptr b g 0 0∈args∧aK (pY (.ptr b g 0 0) (.ptr 0 g 0 0)) args db∧p0 P f g db aM cA t∧K t L (H.set b ⟨g,aM.length,[cA]⟩))∨
   ∃x,dm L x=some aM∧AV.dZ x 0∈args∧aK (pY (.dZ x 0) (.ptr 0 0 0 0)) args db∧p0 P f 0 db aM cA t∧K t (iR L x cA) H)
theorem Ol {P:Program} {f:FuncId} {args:List AV} {L:List (Nat×List AV)} {H:List Blk} {E:Env} {vs:List Value} {K:AV→List (Nat×List AV)→List Blk→Prop} (az:SimH E H) (bF:SimL E L) (aL:aK (V2 E) args vs) (h:EJ P f args L H K):
  pE P f=true∧Calls P f vs.toArray E.w fun e w'=> ∃v u L' H' E',e= .returned u∧K v L' H'∧E'.w=w'∧Step E E'∧SimH E' H'∧SimL E' L'∧V3 E' v u∧E'.mL=E.mL:=by
 obtain⟨db,aM,cA,t,hk,hG,⟨b,g,hb,hm,hs,hf,hK⟩ | ⟨x,hx,hm,hs,hf,hK⟩⟩:=h
 ·refine⟨hf.1,(Om az bF hb hk hG aL hm hs hf).mono ?_⟩
  rintro e w' ⟨v,E',rfl,rfl,h1,h2,aJ,bj,cP⟩
  exact⟨t,v,L,_,E',rfl,hK,rfl,h1,h2,aJ,bj,cP⟩
 ·refine⟨hf.1,(On az bF hx hk hG aL hm hs hf).mono ?_⟩
  rintro e w' ⟨v,E',rfl,rfl,h1,h2,aJ,bj,cP⟩
  exact⟨t,v,_,H,E',rfl,hK,rfl,h1,h2,aJ,bj,cP⟩
def Oi (P:Program) (f:FuncId) (args:List AV) (L:List (Nat×List AV)) (H:List Blk) (K:lF Prop):Prop:=
 args.all dC=true∧ ∃db,aK (dE L H) args db∧c8 P f db [] fun r dQ=>s4 r=true∧pF dQ=true∧K (m3 H.length r) L (H++dQ.map (iS H.length))
def Og (P:Program) (f:FuncId) (args:List AV) (L:List (Nat×List AV)) (H:List Blk) (K:lF Prop):Prop:=
 args.all dC=true∧args.all hY=true∧c8 P f args H fun r H'=>sV r=true∧K r L H'
def iX (P:Program) (f:FuncId) (args:List AV) (L:List (Nat×List AV)) (H:List Blk) (K:lF Prop):Prop:=
 lQ P f args L H (fun r=>K r L H)∨Oi P f args L H K∨Og P f args L H K∨(args.all dC=true∧EJ P f args L H K)
def Fc (P:Program) (c:Call) (bo:Operand→AV) (L:List (Nat×List AV)) (H:List Blk) (K:lF Prop):Prop:=match c.callee with
 | .builtin .len=>Af P c bo L H fun r=>K r L H
 | .builtin .append=>(match c.args.toList,c.argTypes.toList with
  | [s,x],[t,t2]=>dC (bo s)=true∧dC (bo x)=true∧p6 P t t2 (bo s) (bo x) L H K
  | _,_=>False)
 | .value f=>jp (bo f) fun g caps=>iX P g (c.args.toList.map bo++caps) L H K
 | _=>False
def hQ (P:Program) (esc:List Nat) (o:Oper) (bo:Operand→AV) (L:List (Nat×List AV)) (H:List Blk) (K:lF Prop):Prop:=match o.op with
 | .store t a v=>dD (dC (bo v)) (jB P t (bo a) (bo v) L H fun L' H'=>K (.tup []) L' H')
 | .alloc e=>ch (kq P e) fun z=>qS esc o.dst z L H K
 | .box e x=>dD (dC (bo x)) (qS esc o.dst (dP (bo x)) L H K)
 | .makeSlice t l c=>sS P t (bo l) (bo c) L H K
 | .buildSlice t n ps=>dD (ps.toList.all fun p=>dC (bo p.2)) (p_ P (qe esc o.dst) (rh esc) t n (ps.toList.map fun p=>(p.1,bo p.2)) L H K)
 | .call c=>Fc P c bo L H K
 | _=>o4 P o bo L H fun r=>K r L H
theorem wo {E:Env} {a:AV} {v:Value} (h:dC a=true) (hv:V3 E a v):V2 E a v:=by
 rwa [lN (sW h)] at hv
theorem Oj {P:Program} {f:FuncId} {args:List AV} {L:List (Nat×List AV)} {H:List Blk} {E:Env} {vs:List Value} {K:AV→List (Nat×List AV)→List Blk→Prop} (az:SimH E H) (bF:SimL E L)
  (aL:aK (V2 E) args vs) (h:iX P f args L H K):
  pE P f=true∧Calls P f vs.toArray E.w fun e w'=> ∃v u L' H' E',e= .returned u∧K v L' H'∧E'.w=w'∧Step E E'∧SimH E' H'∧SimL E' L'∧V3 E' v u∧E'.mL=E.mL:=by
 rcases h with⟨ap,db,t,hs,mB,hK⟩ | ⟨ap,db,hs,mB⟩ | ⟨ap,aE,mB⟩ | ⟨ap,ak⟩
 ·refine⟨mB.1,(EL (Sub.refl L H) az bF aL hs mB).mono ?_⟩
  rintro e w' ⟨v,E',rfl,rfl,ag,hv⟩
  exact⟨t,v,L,H,E',rfl,hK,rfl,ag.step,ag.simH az,ag.simL az bF,hv,ag.mL⟩
 ·refine⟨mB.1,(Ok (Q:=fun r dQ=>K (m3 H.length r) L (H++dQ.map (iS H.length))) az bF aL hs mB).mono ?_⟩
  rintro e w' ⟨r,v,dQ,E',rfl,hK,rfl,a6,h1,h2,hv,hml⟩
  exact⟨_,v,L,_,E',rfl,hK,rfl,a6,h1,h2,hv,hml⟩
 ·refine⟨mB.1,(Oh (Q:=fun r H'=>K r L H') az bF aL aE mB).mono ?_⟩
  rintro e w' ⟨r,v,H',E',rfl,hK,rfl,a6,h1,h2,hv,hml⟩
  exact⟨_,v,L,_,E',rfl,hK,rfl,a6,h1,h2,hv,hml⟩
 ·exact Ol az bF aL ak
theorem Of {P:Program} {f:FuncId} {args:List AV} {L:List (Nat×List AV)} {H:List Blk} {K:AV→List (Nat×List AV)→List Blk→Prop} (h:iX P f args L H K):args.all dC=true:=by
 rcases h with⟨ap,_⟩ | ⟨ap,_⟩ | ⟨ap,_⟩ | ⟨ap,_⟩<;>exact ap
set_option maxHeartbeats 1000000 in
theorem evOp_sound {P:Program} {esc:List Nat} {o:Oper} {a:Act} {T:List AV} {E:Env} {L:List (Nat×List AV)} {H:List Blk} {K:AV→List (Nat×List AV)→List Blk→Prop} {Q:Exit→Act→World→Prop}
  (bM: ∀t,V3 E (T.getD t .undef) (a.tmps.getD t undef)) (az:SimH E H) (bF:SimL E L) (h:hQ P esc o (bL T) L H K):o.wp P a E.w (y4 E o a K) Q:=by
 have fin: ∀{s:Sem Value},(execOp a.eval o=(do pure (Next.value (←s))))→(∃v L' H' E' u,K v L' H'∧s.run P E.w= .ok u E'.w∧Step E E'∧SimH E' H'∧SimL E' L'∧V3 E' v u∧ ∀t,o.dst≠some t→E'.mL t=E.mL t)→o.wp P a E.w (y4 E o a K) Q:=by
  rintro s hs ⟨v,L',H',E',u,hK,aw,h1,h2,aJ,bj,cP⟩
  unfold Oper.wp
  rw[hs]
  exact DV aw ⟨v,u,L',H',E',hK,rfl,h1,h2,aJ,bj,rfl,cP⟩
 have KF:o4 P o (bL T) L H (fun r=>K r L H)→o.wp P a E.w (y4 E o a K) Q:=fun h=>
  Oper.wp_mono (fun gB w' ⟨v,u,E',hK,hw,ag,hv,aL⟩=>⟨v,u,L,H,E',hK,hw,ag.step,ag.simH az,ag.simL az bF,hv,aL,fun t _=>by rw[ag.mL]⟩) (Fk bM (Sub.refl L H) az bF h)
 obtain⟨dst,op,ty,pos,after,guard⟩:=o
 cases op with
 | store t x v=>
  obtain⟨ap,h⟩:=mR (show dD (dC (bL T v)) (jB P t (bL T x) (bL T v) L H fun L' H'=>K (.tup []) L' H') from h)
  obtain⟨L',H',E',hK,aw,h1,h2,aJ,hml⟩:=Zq az bF (opv_rel bM x) (wo ap (opv_rel bM v)) h
  unfold Oper.wp
  have:(execOp a.eval ⟨dst,.store t x v,ty,pos,after,guard⟩).run P E.w= .ok .skip E'.w:=by
   simp only[execOp,Sem.run_bind,aw,Sem.run_pure,Result.andThen_ok]
  rw[this]
  exact⟨.tup [],_,L',H',E',hK,rfl,h1,h2,aJ,⟨[],rfl,aK.nil⟩,rfl,fun t _=>by rw[hml]⟩
 | alloc e=>
  obtain⟨z,aH,h⟩:=ea (show ch (kq P e) fun z=>qS esc dst z L H K from h)
  obtain⟨i,v,q1,q2,q3,q4⟩:=rL (E:=E) aH
  obtain⟨r,L',H',E',hK,hw,h1,h2,aJ,bj,hml⟩:=JG (ty:=e) az bF q4 h
  refine fin (s:=Instr.alloc e true (.tuple #[])) rfl ⟨r,L',H',E',_,hK,?_,h1,h2,aJ,bj,hml⟩
  rw[hw]
  simp[Instr.alloc,zeroValue,typeInfo,q1,q2,newVar,newRow]
 | box e x=>
  obtain⟨ap,h⟩:=mR (show dD (dC (bL T x)) (qS esc dst (dP (bL T x)) L H K) from h)
  have hs:(dP (bL T x)).all hA=true:=by
   unfold qS at h;split at h
   ·rename_i q;exact q
   ·exact h.elim
  obtain⟨r,L',H',E',hK,hw,h1,h2,aJ,bj,hml⟩:=JG (ty:=e) az bF (zy (wo ap (opv_rel bM x)) hs) h
  refine fin (s:=Instr.box e (a.eval x)) rfl ⟨r,L',H',E',_,hK,?_,h1,h2,aJ,bj,hml⟩
  rw[hw]
  simp[Instr.box,newVar,newRow]
 | makeSlice t l c=>
  obtain⟨v,L',H',E',u,hK,aw,h1,h2,aJ,bj,hml⟩:=VP az bF (opv_rel bM l) (opv_rel bM c) (show sS P t (bL T l) (bL T c) L H K from h)
  exact fin (s:=Instr.makeSlice t (a.eval l) (a.eval c)) rfl ⟨v,L',H',E',u,hK,aw,h1,h2,aJ,bj,fun t _=>by rw[hml]⟩
 | buildSlice t n ps=>
  obtain⟨ap,h⟩:=mR (show dD (ps.toList.all fun p=>dC (bL T p.2)) (p_ P (qe esc dst) (rh esc) t n (ps.toList.map fun p=>(p.1,bL T p.2)) L H K) from h)
  obtain⟨v,u,L',H',E',hK,aw,h1,h2,aJ,bj,hml⟩:=N2 az bF (Cs bM ps.toList fun p ak=>sW (List.all_eq_true.1 ap p ak)) h
  exact fin (s:=Instr.buildSlice t n (ps.toList.map fun p=>(p.1,a.eval p.2)).toArray) (by rw[parts_eq];rfl) ⟨v,L',H',E',u,hK,aw,h1,h2,aJ,bj,fun t _=>by rw[hml]⟩
 | call c=>
  have h:Fc P c (bL T) L H K:=h
  obtain⟨callee,args,argTypes⟩:=c
  cases callee with
  | builtin b=>
   cases b with
   | len=>exact KF h
   | append=>
    have h:(match args.toList,argTypes.toList with
     | [s,x],[t,t2]=>dC (bL T s)=true∧dC (bL T x)=true∧p6 P t t2 (bL T s) (bL T x) L H K
     | _,_=>False):=h
    split at h
    ·rename_i s x t t2 h1 h2
     obtain rfl:args= #[s,x]:=by rw[←Array.toArray_toList (xs:=args),h1]
     obtain rfl:argTypes= #[t,t2]:=by rw[←Array.toArray_toList (xs:=argTypes),h2]
     obtain⟨eS,n2,h⟩:=h
     obtain⟨r,u,H',E',hK,aw,q1,q2,q3,q4,hml⟩:=NE (ty:=ty) az bF (wo eS (opv_rel bM s)) (wo n2 (opv_rel bM x)) h
     unfold Oper.wp
     have:(execOp a.eval ⟨dst,.call ⟨.builtin .append,#[s,x],#[t,t2]⟩,ty,pos,after,guard⟩).run P E.w= .ok (.value u) E'.w:=by
      simp only[execOp,resolve,Sem.run_bind,Sem.run_pure,Result.andThen_ok,invoke,builtin]
      have e:Array.map a.eval #[s,x]= #[a.eval s,a.eval x]:=by simp
      rw[e,aw];rfl
     rw[this]
     exact⟨r,u,L,H',E',hK,rfl,q1,q2,q3,q4,rfl,fun t _=>by rw[hml]⟩
    ·exact h.elim
   | _=>exact h.elim
  | value f=>
   have h:jp (bL T f) fun g caps=>iX P g (args.toList.map (bL T)++caps) L H K:=h
   cases hf:bL T f with
   | fn g caps=>
    rw[hf] at h
    have h:iX P g (args.toList.map (bL T)++caps) L H K:=h
    have ap:=Of h
    obtain⟨vs,he,qo⟩:=EM bM hf
    have AM:aK (V2 E) (args.toList.map (bL T)++caps) (args.toList.map a.eval++vs):=
     aK.append (Et bM args.toList fun x hx=>sW (List.all_eq_true.1 ap _ (by simp;exact .inl ⟨x,by simpa using hx,rfl⟩))) qo
    obtain⟨ei,hc⟩:=Oj az bF AM h
    unfold Oper.wp
    rw[show execOp a.eval ⟨dst,.call ⟨.value f,args,argTypes⟩,ty,pos,after,guard⟩=(do let d ←resolve a.eval ⟨.value f,args,argTypes⟩ ty;invoke d.target d.args) from rfl]
    rw[KW (P:=P) (ty:=ty) (w:=E.w) (c:=⟨.value f,args,argTypes⟩) rfl he ei]
    refine hc.mono ?_
    rintro e w' ⟨v,u,L',H',E',rfl,hK,rfl,q1,q2,q3,q4,hml⟩
    exact⟨v,u,L',H',E',hK,rfl,q1,q2,q3,q4,rfl,fun t _=>by rw[hml]⟩
   | _=>rw[hf] at h;exact h.elim
  | _=>exact h.elim
 | _=>exact KF h
def mi (lit:Bool) (b:Bool) (x y:Prop):Prop:=match lit with
 | true=>(match b with
  | true=>x
  | false=>y)
 | false=>tU b x y
theorem wI {lit b:Bool} {x y:Prop} (h:mi lit b x y):(b=true→x)∧(b=false→y):=by
 cases lit with
 | false=>exact h
 | true=>cases b<;>exact⟨fun e=>by cases e<;>exact h,fun e=>by cases e<;>exact h⟩
def putA (T:List AV) (dst:Option Nat) (v:AV):List AV:=match dst with
 | some d=>T.set d v
 | none=>T
def lc (ops:Array Oper) (lit:Bool) (o:Oper) (T:List AV) (x y:List AV→Prop):Prop:=match o.guard with
 | none=>x T
 | some (j,b1)=>match(ops[j]?).bind (·.dst) with
  | none=>False
  | some t=>match T.getD t .undef with
   | .bool b=>mi lit b (if b1=true then x (T.set t (.bool true)) else y (T.set t (.bool true))) (if b1=true then y (T.set t (.bool false)) else x (T.set t (.bool false)))
   | .tup []=>y T
   | _=>False
def q0 (lit:Bool) (o:Oper) (T:List AV) (K:AV→Prop) (wX:Prop):Prop:=match o.op with
 | .pick c x y=>lP (bL T c) fun z=>mi lit z (K (bL T x)) (K (bL T y))
 | _=>wX
def evOps (P:Program) (esc:List Nat) (ops:Array Oper):List (Oper×Bool)→List AV→List (Nat×List AV)→List Blk→(List AV→List (Nat×List AV)→List Blk→Prop)→Prop
 | [],T,L,H,K=>K T L H
 | (o,lit)::rest,T,L,H,K=>lc ops lit o T
   (fun T=>q0 lit o T (fun v=>evOps P esc ops rest (putA T o.dst v) L H K) (hQ P esc o (bL T) L H fun v L' H'=>evOps P esc ops rest (putA T o.dst v) L' H' K))
   (fun T=>evOps P esc ops rest (putA T o.dst (.tup [])) L H K)
theorem n_ {T:List AV} {d t:Nat} {v:AV}:(T.set d v).getD t .undef=if d=t∧d<T.length then v else T.getD t .undef:=by
 rw[List.getD_eq_getElem?_getD,List.getD_eq_getElem?_getD,List.getElem?_set]
 by_cases h:d=t
 ·subst h
  by_cases aE:d<T.length
  ·simp[aE]
  ·simp[aE]
 ·simp[h]
theorem Lq {E:Env} {T:List AV} {a:Act} (bM: ∀t,V3 E (T.getD t .undef) (a.tmps.getD t undef)) (hs:T.length=a.tmps.size) {dst:Option Nat} {v:AV} {u:Value} (hv:V3 E v u):
  (∀t,V3 E ((putA T dst v).getD t .undef) ((a.put dst u).tmps.getD t undef))∧(putA T dst v).length=(a.put dst u).tmps.size:=by
 cases dst with
 | none=>exact⟨bM,hs⟩
 | some d=>
  refine⟨fun t=> ?_,by simp[putA,Act.put,hs]⟩
  show V3 E ((T.set d v).getD t .undef) ((a.tmps.setIfInBounds d u).getD t undef)
  rw[n_,Array.getD_eq_getD_getElem?,Array.getElem?_setIfInBounds]
  by_cases h:d=t
  ·subst h
   by_cases aE:d<T.length
   ·have xA:d<a.tmps.size:=hs▸aE
    simp[aE,xA];exact hv
   ·have xA: ¬d<a.tmps.size:=hs▸aE
    have:=bM d
    rw[Array.getD_eq_getD_getElem?] at this
    simp[aE,xA] at this ⊢
    exact this
  ·have:=bM t
   rw[Array.getD_eq_getD_getElem?] at this
   simp[h];exact this
theorem Yg {E:Env} {T:List AV} {a:Act} (bM: ∀t,V3 E (T.getD t .undef) (a.tmps.getD t undef)) {t:Nat} {b:Bool} (h:T.getD t .undef= .bool b):
  ∀s,V3 E ((T.set t (.bool b)).getD s .undef) (a.tmps.getD s undef):=fun s=>by
 rw[n_]
 by_cases hs:t=s∧t<T.length
 ·rw[if_pos hs,←h,hs.1];exact bM s
 ·rw[if_neg hs];exact bM s
theorem Z0 {ops:Array Oper} {a:Act} {T:List AV} {E:Env} (bM: ∀t,V3 E (T.getD t .undef) (a.tmps.getD t undef)) {j t:Nat} {b:Bool} (aC:(ops[j]?).bind (·.dst)=some t) (h:T.getD t .undef= .bool b) (hs:T.length=a.tmps.size):
  yielded ops a.tmps j=some b:=by
 have hv:=bM t
 rw[h] at hv
 have he:a.tmps.getD t undef= .bool b:=V3.mh hv
 unfold yielded
 rw[aC]
 rw[Array.getD_eq_getD_getElem?] at he
 cases ag:a.tmps[t]? with
 | none=>rw[ag] at he;cases he
 | some x=>rw[ag] at he;have:x= .bool b:=he;subst this;simp[ag]
theorem Z1 {ops:Array Oper} {a:Act} {T:List AV} {E:Env} (bM: ∀t,V3 E (T.getD t .undef) (a.tmps.getD t undef)) {j t:Nat} (aC:(ops[j]?).bind (·.dst)=some t) (h:T.getD t .undef= .tup []):
  yielded ops a.tmps j=none:=by
 have hv:=bM t
 rw[h] at hv
 obtain⟨vs,he,ak⟩:=(show ∃vs:List Value,a.tmps.getD t undef= .tuple vs.toArray∧aK (V2 E) [] vs from hv)
 obtain rfl:=ak.oC
 unfold yielded
 rw[aC]
 rw[Array.getD_eq_getD_getElem?] at he
 cases ag:a.tmps[t]? with
 | none=>simp[ag]
 | some x=>rw[ag] at he;have:x= .tuple #[]:=he;subst this;simp[ag]
theorem Ql {P:Program} {ops:Array Oper} {lit:Bool} {o:Oper} {a:Act} {T:List AV} {E:Env} {w:World} {x y:List AV→Prop} {R:Prop}
  (bM: ∀t,V3 E (T.getD t .undef) (a.tmps.getD t undef)) (hs:T.length=a.tmps.size) (h:lc ops lit o T x y)
  (n0: ∀T',Region.wanted o (yielded ops a.tmps)=true→(∀t,V3 E (T'.getD t .undef) (a.tmps.getD t undef))→T'.length=a.tmps.size→x T'→R)
  (no: ∀T',Region.wanted o (yielded ops a.tmps)=false→(∀t,V3 E (T'.getD t .undef) (a.tmps.getD t undef))→T'.length=a.tmps.size→y T'→R):R:=by
 unfold lc at h
 cases aI:o.guard with
 | none=>rw[aI] at h;exact n0 T (by simp[Region.wanted,aI]) bM hs h
 | some g=>
  obtain⟨j,b1⟩:=g
  rw[aI] at h
  simp only at h
  cases aC:(ops[j]?).bind (·.dst) with
  | none=>rw[aC] at h;exact h.elim
  | some t=>
   rw[aC] at h
   simp only at h
   split at h
   ·rename_i b hb
    have bm:=Z0 (ops:=ops) bM aC hb hs
    have hk:=Yg bM hb
    obtain⟨h1,h2⟩:=wI h
    cases b with
    | true=>
     have h:=h1 rfl
     cases b1 with
     | true=>exact n0 _ (by simp[Region.wanted,aI,bm]) hk (by simpa using hs) h
     | false=>exact no _ (by simp[Region.wanted,aI,bm]) hk (by simpa using hs) h
    | false=>
     have h:=h2 rfl
     cases b1 with
     | true=>exact no _ (by simp[Region.wanted,aI,bm]) hk (by simpa using hs) h
     | false=>exact n0 _ (by simp[Region.wanted,aI,bm]) hk (by simpa using hs) h
   ·rename_i hb
    have bm:=Z1 (ops:=ops) bM aC hb
    exact no T (by simp[Region.wanted,aI,bm]) bM hs h
   ·exact h.elim
theorem w1 [bZ] {P:Program} {esc:List Nat} {ops:Array Oper} {Q:Exit→St→Prop} {bR:Env}: ∀(l:List (Oper×Bool)) (T:List AV) (L:List (Nat×List AV)) (H:List Blk) (E:Env) (a:Act),
  Good bR E→p3 E ⟨T,L,H⟩ a.tmps→a.defers=[]→evOps P esc ops l T L H (fun T L H=>Q .normal ⟨T,L,H⟩)→wpList P ops (ku bR Q) (l.map (·.1)) a E.w
 | [],T,L,H,E,a,aI,hs,aZ,h=>⟨rfl,⟨T,L,H⟩,E,h,rfl,aI,hs,aZ⟩
 | (o,lit)::rest,T,L,H,E,a,aI,hs,aZ,h=>by
  have bM: ∀t,V3 E (T.getD t .undef) (a.tmps.getD t undef):=hs.gx
  show if Region.wanted o (yielded ops a.tmps) then o.wp P a E.w (wpList P ops (ku bR Q) (rest.map (·.1))) (ku bR Q)∨_ else wpList P ops (ku bR Q) (rest.map (·.1)) (a.put o.dst undef) E.w
  refine Ql (P:=P) (w:=E.w) bM hs.size h (fun T' hw hT' lj h'=> ?_) (fun T' hw hT' lj h'=> ?_)
  ·rw[if_pos hw]
   refine .inl ?_
   have next: ∀(v:AV) (u:Value) (L':List (Nat×List AV)) (H':List Blk) (E':Env),Step E E'→SimH E' H'→SimL E' L'→V3 E' v u→evOps P esc ops rest (putA T' o.dst v) L' H' (fun T L H=>Q .normal ⟨T,L,H⟩)→
     wpList P ops (ku bR Q) (rest.map (·.1)) (a.put o.dst u) E'.w:=fun v u L' H' E' q1 q2 q3 q4 hK=>by
    obtain⟨dr,dT⟩:=Lq (fun t=>(hT' t).le q1.le) lj (dst:=o.dst) q4
    refine w1 rest _ _ _ E' (a.put o.dst u) (aI.step q1) ⟨q2,q3,dr,dT⟩ ?_ hK
    cases o.dst<;>exact aZ
   have ba:(hQ P esc o (bL T') L H fun v L' H'=>evOps P esc ops rest (putA T' o.dst v) L' H' (fun T L H=>Q .normal ⟨T,L,H⟩))→o.wp P a E.w (wpList P ops (ku bR Q) (rest.map (·.1))) (ku bR Q):=fun h'=>
    Oper.wp_mono (fun gB w' ⟨v,u,L',H',E',hK,e6,q1,q2,q3,q4,aL,_⟩=>by
     subst aL;subst e6
     exact next v u L' H' E' q1 q2 q3 q4 hK) (evOp_sound hT' hs.h hs.l h')
   unfold q0 at h'
   split at h'
   ·rename_i c x y ew
    obtain⟨b,hb,bH⟩:=wz h'
    obtain⟨h1,h2⟩:=wI bH
    have hv:=opv_rel hT' c
    rw[hb] at hv
    have he:a.eval c= .bool b:=V3.mh hv
    unfold Oper.wp
    have hx: ∀z,(z=if b=true then a.eval x else a.eval y)→(execOp a.eval o).run P E.w= .ok (.value z) E.w:=fun z aH=>by
     subst aH
     simp only[execOp,ew,he,asBool,Sem.run_bind,Sem.run_pure,Result.andThen_ok]
    cases b with
    | true=>rw[hx (a.eval x) rfl];exact next _ _ L H E (Step.refl E) hs.h hs.l (opv_rel hT' x) (h1 rfl)
    | false=>rw[hx (a.eval y) rfl];exact next _ _ L H E (Step.refl E) hs.h hs.l (opv_rel hT' y) (h2 rfl)
   ·exact ba h'
  ·rw[hw]
   show wpList P ops (ku bR Q) (rest.map (·.1)) (a.put o.dst undef) E.w
   obtain⟨dr,dT⟩:=Lq (a:=a) hT' lj (dst:=o.dst) (v:= .tup []) (u:=undef) ⟨[],rfl,aK.nil⟩
   refine w1 rest (putA T' o.dst (.tup [])) L H E (a.put o.dst undef) aI ⟨hs.h,hs.l,dr,dT⟩ ?_ h'
   cases o.dst<;>exact aZ
def lits (ops:Array Oper) (oA:List Nat):List (Oper×Bool):=ops.toList.zipIdx.map fun p=>(p.1,oA.contains p.2)
theorem Vu (ops:Array Oper) (oA:List Nat):(lits ops oA).map (·.1)=ops.toList:=by
 unfold lits
 rw[List.map_map]
 apply List.ext_getElem?
 intro i
 simp only[List.getElem?_map,List.getElem?_zipIdx]
 cases ops.toList[i]?<;>rfl
theorem WpS.region [bZ] {P:Program} {esc:List Nat} {oA:List Nat} {id:Nat} {ops:Array Oper} {Q:Exit→St→Prop} {aq:St} (h:evOps P esc ops (lits ops oA) aq.T aq.L aq.H (fun T L H=>Q .normal ⟨T,L,H⟩)):WpS P (.region id ops false) Q aq:=fun bR E a g s d=>by
 refine wp_region_list ?_
 have:=w1 (lits ops oA) aq.T aq.L aq.H E a g s d h
 rwa [Vu] at this
def qR (cc:List Nat):AV→Bool
 | .dZ t _=> !cc.contains t
 | _=>true
def py (cc:List Nat):AV→Bool
 | .fn _ caps=>caps.all (qR cc)
 | a=>qR cc a
def pz (cc:List Nat):AV→Bool
 | .agg l=>l.all (py cc)
 | a=>py cc a
def l1 (cc:List Nat):AV→Bool
 | .tup l=>l.all (pz cc)
 | a=>pz cc a
def Env.drop (E:Env) (cc:List Nat):Env:={E with mL:=fun t=>if cc.contains t=true then none else E.mL t}
section
variable {E:Env} {cc:List Nat}
theorem dO.drop {a:AV} {v:Value} (h:qR cc a=true) (hv:dO E a v):dO (E.drop cc) a v:=by
 cases a with
 | dZ t c=>
  obtain⟨bl,hm,e⟩:=hv
  have:cc.contains t=false:=by simpa[qR] using h
  exact⟨bl,by show(if cc.contains t=true then none else E.mL t)=_;rw[if_neg (by rw[this];simp)];exact hm,e⟩
 | _=>exact hv
theorem bT.drop {a:AV} {v:Value} (h:py cc a=true) (hv:bT E a v):bT (E.drop cc) a v:=by
 by_cases hf: ∃f caps,a= .fn f caps
 ·obtain⟨f,caps,rfl⟩:=hf
  obtain⟨vs,e,ak⟩:=hv
  exact⟨vs,e,ak.1,fun i x y hx bm=>(ak.2 i x y hx bm).drop (List.all_eq_true.1 (show caps.all (qR cc)=true from h) x (List.mem_of_getElem? hx))⟩
 ·have aN:py cc a=qR cc a:=by cases a<;>first | rfl | exact absurd ⟨_,_,rfl⟩ hf
  rw[nf fun f c e=>hf ⟨f,c,e⟩] at hv ⊢
  exact hv.drop (aN▸h)
theorem V2.drop {a:AV} {v:Value} (h:pz cc a=true) (hv:V2 E a v):V2 (E.drop cc) a v:=by
 by_cases hf: ∃l,a= .agg l
 ·obtain⟨l,rfl⟩:=hf
  obtain⟨vs,e,ak⟩:=hv
  exact⟨vs,e,ak.1,fun i x y hx bm=>(ak.2 i x y hx bm).drop (List.all_eq_true.1 (show l.all (py cc)=true from h) x (List.mem_of_getElem? hx))⟩
 ·have aN:pz cc a=py cc a:=by cases a<;>first | rfl | exact absurd ⟨_,rfl⟩ hf
  rw[lM fun l e=>hf ⟨l,e⟩] at hv ⊢
  exact hv.drop (aN▸h)
theorem V3.drop {a:AV} {v:Value} (h:l1 cc a=true) (hv:V3 E a v):V3 (E.drop cc) a v:=by
 by_cases hf: ∃l,a= .tup l
 ·obtain⟨l,rfl⟩:=hf
  obtain⟨vs,e,ak⟩:=hv
  exact⟨vs,e,ak.1,fun i x y hx bm=>(ak.2 i x y hx bm).drop (List.all_eq_true.1 (show l.all (pz cc)=true from h) x (List.mem_of_getElem? hx))⟩
 ·have aN:l1 cc a=pz cc a:=by cases a<;>first | rfl | exact absurd ⟨_,rfl⟩ hf
  rw[lN fun l e=>hf ⟨l,e⟩] at hv ⊢
  exact hv.drop (aN▸h)
end
def k4 (cc:List Nat) (L:List (Nat×List AV)):List (Nat×List AV):=match L with
 | []=>[]
 | (k,c)::L=>match cc.contains k with
  | true=>k4 cc L
  | false=>(k,c)::k4 cc L
theorem wT {cc:List Nat}: ∀(L:List (Nat×List AV)) (t:Nat),cc.contains t=false→dm (k4 cc L) t=dm L t
 | [],t,h=>rfl
 | (k,c)::L,t,h=>by
  unfold k4
  split
  ·rename_i hk
   have:t≠k:=fun e=>by subst e;rw[h] at hk;cases hk
   rw[wT L t h];simp[dm,this]
  ·simp only[dm];rw[wT L t h]
theorem Weak.k4 [bZ] (cc:List Nat) {T:List AV} {L:List (Nat×List AV)} {H:List Blk} (h:T.all (l1 cc)=true):Weak ⟨T,L,H⟩ ⟨T,k4 cc L,H⟩:=fun bR E tmps g s=>by
 have hm: ∀t c,(E.drop cc).mL t=some c→cc.contains t=false∧E.mL t=some c:=by
  intro t c hc
  have hc:(if cc.contains t=true then none else E.mL t)=some c:=hc
  split at hc
  ·cases hc
  ·rename_i q;exact⟨by simpa using q,hc⟩
 have hi: ∀c,(E.drop cc).iu c→E.iu c:=fun c ⟨t,bt⟩=>⟨t,(hm t c bt).2⟩
 have fK:SimH E H:=s.h
 refine⟨E.drop cc,rfl,?_,?_,?_,fun t=> ?_,s.size⟩
 ·exact{g with
   le:={g.le with mL:=fun t c hc=>by rw[g.bG t] at hc;cases hc}
   hr:=fun c hc=>g.hr c (hi c hc)}
 ·exact{fK with
   heap:=fK.heap
   gW:=fun t gZ c h1 h2=>fK.gW t gZ c (hm t c h1).2 (hm gZ c h2).2
   e7:=fun b t c h1 h2=>fK.e7 b t c h1 (hm t c h2).2
   gm:=fun c hc hx=>fK.gm c hc (hi c hx)
   eQ:=fun c hx=>fK.eQ c (hi c hx)}
 ·intro t c hc
  obtain⟨h1,h2⟩:=hm t c hc
  obtain⟨cells,aM,ty,q1,q2,q3⟩:=s.l t c h2
  exact⟨cells,aM,ty,by show dm (Fw.k4 cc L) t=_;rw[wT L t h1];exact q1,q2,q3⟩
 ·show V3 (E.drop cc) (T.getD t .undef) _
  refine(s.gx t).drop ?_
  show l1 cc (T.getD t .undef)=true
  rw[List.getD_eq_getElem?_getD]
  cases ag:T[t]? with
  | none=>rfl
  | some a=>exact List.all_eq_true.1 h a (List.mem_of_getElem? ag)
def ov:AV→Bool
 | .a8 [] true _=>true
 | _=>false
theorem O6 {E:Env} {a:AV} {v:Value} (h:ov a=true) (hv:dO E a v): ∃A,v= .slice A 0 0:=by
 have key: ∀rows full fr,a= .a8 rows full fr→rows=[]→full=true→ ∃A,v= .slice A 0 0:=by
  intro rows full fr e aw hf
  subst e
  have hv:a1 E.w E.PA E.PF (.a8 rows full fr) v:=hv
  cases hv with
  | @a8 _ _ PB _ _ _ A cap sz vs eh e5 fw bX dv hrel=>
   refine⟨A,?_⟩
   rw[fw hf,aw];rfl
 unfold ov at h
 split at h
 ·exact key _ _ _ rfl rfl rfl
 ·cases h
theorem z8 {E E':Env} {a:AV} {v:Value} {b:Nat} (h:ov a=true) (hv:bT E a v) (aI:E'.ba b=0) (hm:E'.m b=some none):bT E' (.ref b 0 0 0 false) v:=by
 have fF:dO E a v:=by
  rwa [nf] at hv
  rintro f c rfl;cases h
 obtain⟨A,rfl⟩:=O6 h fF
 exact .inr ⟨aI.symm,.inl ⟨hm,rfl,rfl,A,rfl⟩⟩
theorem Weak.Nw [bZ] (i sz:Nat) {T:List AV} {L:List (Nat×List AV)} {H:List Blk} (h:ov (T.getD i .undef)=true):Weak ⟨T,L,H⟩ ⟨T.set i (.ref H.length 0 0 0 false),L,H++[⟨0,sz,[]⟩]⟩:=fun bR E tmps g s=>by
 obtain⟨E',hw,a6,h1,h2,aJ,bj,_⟩:=x4 (blk:=⟨0,sz,[]⟩) s.h s.l rfl rfl
 refine⟨E',hw,g.step a6,h1,h2,fun t=> ?_,by simpa using s.size⟩
 show V3 E' ((T.set i _).getD t .undef) _
 rw[n_]
 split
 ·rename_i ag
  obtain⟨rfl,_⟩:=ag
  have hv:=s.gx i
  have hH:bT E (T.getD i .undef) (tmps.getD i undef):=by
   have hv:V3 E (T.getD i .undef) (tmps.getD i undef):=hv
   rw[lN,lM] at hv
   ·exact hv
   ·intro l e;rw[e] at h;cases h
   ·intro l e;rw[e] at h;cases h
  exact jk (jI (z8 h hH aJ bj))
 ·exact(s.gx t).le a6.le
theorem Weak.zf [bZ] (t i sz:Nat) {T:List AV} {L:List (Nat×List AV)} {H:List Blk} {cells:List AV} (hc:dm L t=some cells) (h:ov (cells.getD i .undef)=true):
  Weak ⟨T,L,H⟩ ⟨T,iR L t (cells.set i (.ref H.length 0 0 0 false)),H++[⟨0,sz,[]⟩]⟩:=fun bR E tmps g s=>by
 obtain⟨E',hw,a6,h1,h2,aJ,bj,cP,eg⟩:=x4 (blk:=⟨0,sz,[]⟩) s.h s.l rfl rfl
 refine⟨E',hw,g.step a6,h1,?_,fun t=>(s.gx t).le a6.le,s.size⟩
 intro u c hm
 obtain⟨fo,aM,ty,q1,q2,q3⟩:=h2 u c hm
 show ∃zv aM ty,dm (iR L t _) u=some zv∧_
 rw[ui]
 by_cases hu:u=t
 ·subst hu
  rw[if_pos rfl]
  have vo:dm L u=some fo:=q1
  rw[hc] at vo
  cases vo
  refine⟨_,aM,ty,by rw[hc];rfl,q2,by simpa using q3.1,fun j x v hx hv=> ?_⟩
  rw[List.getElem?_set] at hx
  split at hx
  ·rename_i kC
   subst kC
   split at hx
   ·rename_i aR
    cases hx
    have aI:=List.getElem?_eq_getElem aR
    have:cells.getD i .undef=cells[i]:=by rw[List.getD_eq_getElem?_getD,aI];rfl
    have hH:=q3.2 i _ v aI hv
    rw[this] at h
    exact z8 (E:=E'.bG) h hH aJ bj
   ·cases hx
  ·exact q3.2 j x v hx hv
 ·rw[if_neg hu]
  exact⟨fo,aM,ty,q1,q2,q3⟩
structure b5 where
 br:Int
 bJ:Int
 deriving Inhabited,DecidableEq
structure Way where
 ah:List Int
 aQ:List b5
 bI:List b5
 bV:List Int
 c9:List Int
 deriving Inhabited,DecidableEq
structure aG where
 ah:Int
 bD:List Int
 M:List Way
 bA:List (List Bool)
 dV:Int
 deriving Inhabited,DecidableEq
structure Event where
 op:Int
 MH:Int
 bJ:Int
 deriving Inhabited,DecidableEq
structure b8 where
 b1:Int
 aQ:Int
 deriving Inhabited,DecidableEq
structure ab where
 au:Int
 aa:Int
 U:List Bool
 an:Bool
 ao:Int
 deriving Inhabited,DecidableEq
structure Frame where
 ok:Bool
 aA:List Bool
 av:List b8
 M:List ab
 deriving Inhabited,DecidableEq
structure wc where
 code:Int
 frame:Frame
 deriving Inhabited,DecidableEq
structure gP where
 code:Int
 pos:Int
 deriving Inhabited,DecidableEq
structure zc where
 M:List Int
 ah:List Int
 av:List Int
 deriving Inhabited,DecidableEq
structure wb where
 code:List UInt8
 pos:Int
 K5:Int
 deriving Inhabited
def ca (n:Int):List AV:=[.int .i64 n]
def wW (n:UInt8):List AV:=[.int .u8 n.toNat]
def aT (b:Bool):List AV:=[.bool b]
def z6 (s:ByteArray):List AV:=[.str s]
def e3 {α:Type} (e:α→List AV) (fr:Bool) (xs:List α):List AV:=[.a8 (xs.map e) false fr]
def dh (x:b5):List AV:=[.int .i64 x.br,.int .i64 x.bJ]
def dI (fr:Bool) (x:Way):List AV:=[.a8 (x.ah.map ca) false fr,.a8 (x.aQ.map dh) false fr,.a8 (x.bI.map dh) false fr,.a8 (x.bV.map ca) false fr,.a8 (x.c9.map ca) false fr]
def bW (fr:Bool) (x:aG):List AV:=[.int .i64 x.ah,.a8 (x.bD.map ca) false fr,.a8 (x.M.map (dI false)) false fr,.a8 (x.bA.map (e3 aT false)) false fr,.int .i64 x.dV]
def zX (x:Event):List AV:=[.int .i64 x.op,.int .i64 x.MH,.int .i64 x.bJ]
def bn (x:b8):List AV:=[.int .i64 x.b1,.int .i64 x.aQ]
def cl (fr:Bool) (x:ab):List AV:=[.int .i64 x.au,.int .i64 x.aa,.a8 (x.U.map aT) false fr,.bool x.an,.int .i64 x.ao]
def ck (fr:Bool) (x:Frame):List AV:=[.bool x.ok,.a8 (x.aA.map aT) false fr,.a8 (x.av.map bn) false fr,.a8 (x.M.map (cl false)) false fr]
def zW (fr:Bool) (x:wc):List AV:=[.int .i64 x.code,.bool x.frame.ok,.a8 (x.frame.aA.map aT) false fr,.a8 (x.frame.av.map bn) false fr,.a8 (x.frame.M.map (cl false)) false fr]
def zY (x:gP):List AV:=[.int .i64 x.code,.int .i64 x.pos]
def O4 (fr:Bool) (x:wb):List AV:=[.a8 (x.code.map wW) false fr,.int .i64 x.pos,.int .u64 x.K5]
def O5 (fr:Bool) (x:zc):List AV:=[.a8 (x.M.map ca) false fr,.a8 (x.ah.map ca) false fr,.a8 (x.av.map ca) false fr]
def nth {α:Type} [Inhabited α] (xs:List α) (i:Int):α:=xs.getD i.toNat default
theorem fg {α:Type} [Inhabited α] {xs:List α} {i:Int} (h:i.toNat<xs.length):xs[i.toNat]?=some (nth xs i):=by
 unfold nth
 rw[List.getD_eq_getElem?_getD,List.getElem?_eq_getElem h];rfl
def pB:Code→List Nat→Code
 | c,[]=>c
 | .seq x y,n::p=>match n with
  | 0=>pB x p
  | _=>pB y p
 | .cond _ x y,n::p=>match n with
  | 0=>pB x p
  | _=>pB y p
 | .block _ x,_::p=>pB x p
 | .loop x,_::p=>pB x p
 | .scope x,_::p=>pB x p
 | c,_=>c
def jo (f:Func):Code:=f.body.getD .skip
section
variable {P:Program} {esc:List Nat} {ops:Array Oper} {l l':List (Oper×Bool)} {T T':List AV} {L L':List (Nat×List AV)} {H H':List Blk} {K:List AV→List (Nat×List AV)→List Blk→Prop}
end
theorem WpS.seq' [bZ] {P:Program} {c x y:Code} {Q:Exit→St→Prop} {aq:St} (e:c= .seq x y) (h:WpS P x (dH P y Q) aq):WpS P c Q aq:=e▸WpS.seq h
theorem WpS.OC [bZ] {P:Program} {c x y:Code} {o:Operand} {Q:Exit→St→Prop} {aq:St} {b:Bool} (e:c= .cond o x y) (hb:bL aq.T o= .bool b) (h1:b=true→WpS P x Q aq) (h2:b=false→WpS P y Q aq):WpS P c Q aq:=
 e▸WpS.cond (by rw[hb];exact⟨h1,h2⟩)
theorem WpS.N1 [bZ] {P:Program} {c x:Code} {id:Nat} {Q:Exit→St→Prop} {aq:St} (e:c= .block id x) (h:WpS P x (dz id Q) aq):WpS P c Q aq:=e▸WpS.block h
theorem WpS.XG [bZ] {P:Program} {c:Code} {Q:Exit→St→Prop} {aq:St} (e:c= .skip) (h:Q .normal aq):WpS P c Q aq:=e▸WpS.skip h
theorem WpS.W5 [bZ] {P:Program} {c:Code} {Q:Exit→St→Prop} {aq:St} (e:c= .ret) (h:Q .ret aq):WpS P c Q aq:=e▸WpS.ret h
theorem WpS.Ph [bZ] {P:Program} {c:Code} {id:Nat} {Q:Exit→St→Prop} {aq:St} (e:c= .exit id) (h:Q (.exit id) aq):WpS P c Q aq:=e▸WpS.exit h
theorem WpS.VC [bZ] {P:Program} {c x:Code} {Q:Exit→St→Prop} {aq:St} {V:Type} (S:V→St) (I:V→Prop) (m:V→Nat) (e:c= .loop x) (v0:V) (hs:Weak aq (S v0)) (aN:I v0)
  (round: ∀v,I v→WpS P x (fun ex s=>match ex with
   | .normal=> ∃dx,I dx∧m dx<m v∧Weak s (S dx)
   | ex=>Q ex s) (S v)):WpS P c Q aq:=by
 subst e
 refine WpS.oS (WpS.loop (fun n s=> ∃v,I v∧s=S v∧n=m v) (m v0) ⟨v0,aN,rfl,rfl⟩ ?_) hs
 rintro n s ⟨v,hv,rfl,rfl⟩
 refine WpS.mono (round v hv) fun ex s ag=> ?_
 cases ex with
 | normal=>
  obtain⟨dx,h1,h2,aJ⟩:=ag
  exact⟨m dx,S dx,h2,aJ,dx,h1,rfl,rfl⟩
 | _=>exact ag
theorem dH.normal [bZ] {P:Program} {y:Code} {Q:Exit→St→Prop} {s:St} (h:WpS P y Q s):dH P y Q .normal s:=h
theorem dH.ret [bZ] {P:Program} {y:Code} {Q:Exit→St→Prop} {s:St} (h:Q .ret s):dH P y Q .ret s:=h
theorem dH.exit [bZ] {P:Program} {y:Code} {Q:Exit→St→Prop} {s:St} {id:Nat} (h:Q (.exit id) s):dH P y Q (.exit id) s:=h
theorem dz.normal {id:Nat} {Q:Exit→St→Prop} {s:St} (h:Q .normal s):dz id Q .normal s:=h
theorem dz.ret {id:Nat} {Q:Exit→St→Prop} {s:St} (h:Q .ret s):dz id Q .ret s:=h
theorem dz.here {id:Nat} {Q:Exit→St→Prop} {s:St} (h:Q .normal s):dz id Q (.exit id) s:=by
 show(if id=id then _ else _);rw[if_pos rfl];exact h
theorem dz.there {id eP:Nat} {Q:Exit→St→Prop} {s:St} (b2:eP≠id) (h:Q (.exit eP) s):dz id Q (.exit eP) s:=by
 show(if eP=id then _ else _);rw[if_neg b2];exact h
theorem dE.h0 {L:List (Nat×List AV)} {H:List Blk} {a b:AV} (h:eE L H a b):dE L H a b:= .inr h
theorem dE.agg {L:List (Nat×List AV)} {H:List Blk} {l l':List AV} (h:aK (eE L H) l l'):dE L H (.agg l) (.agg l'):= .inl ⟨l,l',rfl,rfl,h⟩
theorem jj.h0 {H:List Blk} {a b:AV} (h:e1 H a b):jj H a b:= .inr (.inr h)
theorem jj.agg {H:List Blk} {l l':List AV} (h:aK (e1 H) l l'):jj H (.agg l) (.agg l'):= .inr (.inl ⟨l,l',rfl,rfl,h⟩)
theorem WpS.start [bZ] {P:Program} {c:Code} {Q:Exit→St→Prop} {aq iU:St} (e:aq=iU) (h:WpS P c Q iU):WpS P c Q aq:=e▸h
def cL [bZ] (S:St) (ψ:Prop) (Q:Exit→St→Prop) (ex:Exit) (s:St):Prop:=match ex with
 | .normal=>ψ∧Weak s S
 | ex=>Q ex s
theorem WpS.tn [bZ] {P:Program} {c x y:Code} {Q:Exit→St→Prop} {aq:St} (S:St) {ψ:Prop} (e:c= .seq x y) (h:WpS P x (cL S ψ Q) aq) (ag:ψ→WpS P y Q S):WpS P c Q aq:=by
 subst e
 refine WpS.seq (WpS.mono h fun ex s hs=> ?_)
 cases ex with
 | normal=>exact WpS.oS (ag hs.1) hs.2
 | _=>exact hs
theorem cL.normal [bZ] {S s:St} {ψ:Prop} {Q:Exit→St→Prop} (ak:ψ) (h:Weak s S):cL S ψ Q .normal s:=⟨ak,h⟩
theorem cL.ret [bZ] {S s:St} {ψ:Prop} {Q:Exit→St→Prop} (h:Q .ret s):cL S ψ Q .ret s:=h
theorem cL.exit [bZ] {S s:St} {ψ:Prop} {Q:Exit→St→Prop} {id:Nat} (h:Q (.exit id) s):cL S ψ Q (.exit id) s:=h
def ef [bZ] {V:Type} (S:V→St) (I:V→Prop) (m:V→Nat) (v:V) (Q:Exit→St→Prop) (ex:Exit) (s:St):Prop:=match ex with
 | .normal=> ∃dx,I dx∧m dx<m v∧Weak s (S dx)
 | ex=>Q ex s
theorem WpS.Js [bZ] {P:Program} {c x:Code} {Q:Exit→St→Prop} {aq:St} {V:Type} (S:V→St) (I:V→Prop) (m:V→Nat) (e:c= .loop x) (v0:V) (hs:Weak aq (S v0)) (aN:I v0)
  (round: ∀v,I v→WpS P x (ef S I m v Q) (S v)):WpS P c Q aq:=
 WpS.VC S I m e v0 hs aN fun v hv=>WpS.mono (round v hv) fun ex s h=>by
  cases ex<;>exact h
theorem ef.again [bZ] {V:Type} {S:V→St} {I:V→Prop} {m:V→Nat} {v:V} {Q:Exit→St→Prop} {s:St} (dx:V) (h:I dx∧m dx<m v) (hw:Weak s (S dx)):ef S I m v Q .normal s:=⟨dx,h.1,h.2,hw⟩
theorem ef.ret [bZ] {V:Type} {S:V→St} {I:V→Prop} {m:V→Nat} {v:V} {Q:Exit→St→Prop} {s:St} (h:Q .ret s):ef S I m v Q .ret s:=h
theorem ef.exit [bZ] {V:Type} {S:V→St} {I:V→Prop} {m:V→Nat} {v:V} {Q:Exit→St→Prop} {s:St} {id:Nat} (h:Q (.exit id) s):ef S I m v Q (.exit id) s:=h
@[irreducible] def bC (c:Code) (n:Nat):Code:=pB c ((List.range (Nat.log2 n)).map fun i=>(n>>>i)%2).reverse
def iz (c:Code) (n:Nat):Array Oper:=match bC c n with
 | .region _ ops _=>ops
 | _=> #[]
theorem nb [bZ] {s s' s'':St} (h:Weak s s') (e:s'=s''):Weak s s'':=e▸h
def iD (H:List Blk) (c d:List AV):Prop:=c.length=d.length∧ ∀(j:Nat) (a b:AV),c[j]?=some a→d[j]?=some b→e1 H a a∧b=h7 a
theorem Yj {H:List Blk} {α:Type} {eT eF:α→List AV} {b:Nat} {g sz:Nat} {full:Bool} {xs:List α} (hb:H[b]?=some ⟨g,sz,List.map eT xs⟩) (ap:xs.length≤4611686018427387904) (hc: ∀x,iD H (eT x) (eF x)):
  e1 H (.ref b g 0 xs.length full) (.a8 (List.map eF xs) false true):=by
 refine e1.ref (fun h=>by cases h) (fun i j=>((xs[i]?).bind fun x=>(eT x)[j]?).getD .undef) hb rfl (by rw[List.length_map]) ap (by simp) (fun i row row' h1 h2=> ?_) (fun i j row a hi h1 h2=> ?_) (fun i j row' c h1 h2=> ?_)
 ·have h1:(List.map eT xs)[0+i]?=some row:=h1
  rw[Nat.zero_add,List.getElem?_map] at h1
  rw[List.getElem?_map] at h2
  cases hx:xs[i]? with
  | none=>rw[hx] at h1;cases h1
  | some x=>rw[hx] at h1 h2;cases h1;cases h2;exact(hc x).1
 ·have h1:(List.map eT xs)[0+i]?=some row:=h1
  rw[Nat.zero_add,List.getElem?_map] at h1
  cases hx:xs[i]? with
  | none=>rw[hx] at h1;cases h1
  | some x=>
   rw[hx] at h1;cases h1
   show e1 H a (((some x).bind fun x=>(eT x)[j]?).getD .undef)
   have aC:(eT x)[j]?=some a:=h2
   have he:((some x).bind fun x=>(eT x)[j]?).getD .undef=a:=by
    show((eT x)[j]?).getD .undef=a
    rw[aC];rfl
   rw[he]
   have aR:j<(eF x).length:=by rw[←(hc x).1];exact(List.getElem?_eq_some_iff.1 aC).1
   exact((hc x).2 j a _ aC (List.getElem?_eq_getElem aR)).1
 ·rw[List.getElem?_map] at h1
  cases hx:xs[i]? with
  | none=>rw[hx] at h1;cases h1
  | some x=>
   rw[hx] at h1;cases h1
   show c=h7 (((some x).bind fun x=>(eT x)[j]?).getD .undef)
   have aR:j<(eT x).length:=by rw[(hc x).1];exact(List.getElem?_eq_some_iff.1 h2).1
   have aC:=List.getElem?_eq_getElem aR
   have he:((some x).bind fun x=>(eT x)[j]?).getD .undef=(eT x)[j]:=by
    show((eT x)[j]?).getD .undef=_
    rw[aC];rfl
   rw[he]
   exact((hc x).2 j _ c aC h2).2
theorem iD.nil {H:List Blk}:iD H [] []:=⟨rfl,fun j a b h=>by simp at h⟩
theorem iD.cons {H:List Blk} {a b:AV} {c d:List AV} (h1:e1 H a a) (h2:b=h7 a) (h:iD H c d):iD H (a::c) (b::d):=
 ⟨by simp[h.1],fun j x y hx bm=>by
  cases j with
  | zero=>simp at hx bm;subst hx;subst bm;exact⟨h1,h2⟩
  | succ j=>exact h.2 j x y (by simpa using hx) (by simpa using bm)⟩
theorem Ob {H:List Blk} (n:Int):iD H (ca n) (ca n):= .cons (.int _ _) rfl .nil
theorem Od {H:List Blk} (n:UInt8):iD H (wW n) (wW n):= .cons (.int _ _) rfl .nil
theorem zs {H:List Blk} (b:Bool):iD H (aT b) (aT b):= .cons (.bool _) rfl .nil
theorem Oc {H:List Blk} (b:ByteArray):iD H (z6 b) (z6 b):= .cons (.str _) rfl .nil
theorem ik {H:List Blk} (rows:List (List AV)):e1 H (.a8 rows false true) (.a8 rows false true):= .a8 _ _ _ id
theorem EH {H:List Blk} (x:b5):iD H (dh x) (dh x):= .cons (.int _ _) rfl (.cons (.int _ _) rfl .nil)
theorem N_ {H:List Blk} (x:Event):iD H (zX x) (zX x):= .cons (.int _ _) rfl (.cons (.int _ _) rfl (.cons (.int _ _) rfl .nil))
theorem EI {H:List Blk} (x:b8):iD H (bn x) (bn x):= .cons (.int _ _) rfl (.cons (.int _ _) rfl .nil)
theorem Oe {H:List Blk} (x:Way):iD H (dI true x) (dI false x):= .cons (ik _) rfl (.cons (ik _) rfl (.cons (ik _) rfl (.cons (ik _) rfl (.cons (ik _) rfl .nil))))
theorem Oa {H:List Blk} (x:ab):iD H (cl true x) (cl false x):= .cons (.int _ _) rfl (.cons (.int _ _) rfl (.cons (ik _) rfl (.cons (.bool _) rfl (.cons (.int _ _) rfl .nil))))
theorem N9 {H:List Blk} (x:wc):iD H (zW true x) (zW false x):= .cons (.int _ _) rfl (.cons (.bool _) rfl (.cons (ik _) rfl (.cons (ik _) rfl (.cons (ik _) rfl .nil))))
theorem Mv {H:List Blk} {α:Type} {eT eF:α→List AV} {b g sz:Nat} {full:Bool} {xs ys:List α} (hb:H[b]?=some ⟨g,sz,List.map eT xs⟩) (hc: ∀x,iD H (eT x) (eF x)) (h:xs.length≤4611686018427387904∧xs=ys):
  e1 H (.ref b g 0 xs.length full) (.a8 (List.map eF ys) false true):=h.2▸Yj hb h.1 hc
theorem Zm {H:List Blk} {α:Type} {e:α→List AV} {ys:List α} {full fr:Bool} (h:[]=ys):e1 H (.a8 [] full fr) (.a8 (List.map e ys) false true):=h▸ .Ju _ _ _ (fun h=>by cases h)
theorem Zl {H:List Blk} {α:Type} {e:α→List AV} {xs ys:List α} {full:Bool} (h:xs=ys):e1 H (.a8 (List.map e xs) full true) (.a8 (List.map e ys) false true):=h▸ .a8 _ _ _ (fun h=>by cases h)
theorem Mw {H:List Blk} {k:IntKind} {a b:Int} (h:a=b):e1 H (.int k a) (.int k b):=h▸ .int k a
theorem ru {H:List Blk} {a b:Bool} (h:a=b):e1 H (.bool a) (.bool b):=h▸ .bool a
theorem Zn {H:List Blk} {a b:ByteArray} (h:a=b):e1 H (.str a) (.str b):=h▸ .str a
theorem fi {L:List (Nat×List AV)} {H:List Blk} {rows:List (List AV)} {full fr:Bool}:eE L H (.a8 rows full fr) (.a8 rows false false):= .a8 _ _ _ _ (fun h=>by cases h)
def lI (L:List (Nat×List AV)) (H:List Blk) (c d:List AV):Prop:=c.length=d.length∧ ∀(j:Nat) (a b:AV),c[j]?=some a→d[j]?=some b→eE L H a b
theorem K3 {L:List (Nat×List AV)} {H:List Blk} {α:Type} {eT eF:α→List AV} {b g sz:Nat} {full:Bool} {xs:List α} (hb:H[b]?=some ⟨g,sz,List.map eT xs⟩) (hc: ∀x,lI L H (eT x) (eF x)) (ap:xs.length≤4611686018427387904):
  eE L H (.ref b g 0 xs.length full) (.a8 (List.map eF xs) false false):=by
 refine eE.ref (fun h=>by cases h) hb rfl (by rw[List.length_map]) ap (by simp) (fun i row row' h1 h2=> ?_) (fun i j row row' a c h1 h2 aJ bj=> ?_)
 ·have h1:(List.map eT xs)[0+i]?=some row:=h1
  rw[Nat.zero_add,List.getElem?_map] at h1
  rw[List.getElem?_map] at h2
  cases hx:xs[i]? with
  | none=>rw[hx] at h1;cases h1
  | some x=>rw[hx] at h1 h2;cases h1;cases h2;exact(hc x).1
 ·have h1:(List.map eT xs)[0+i]?=some row:=h1
  rw[Nat.zero_add,List.getElem?_map] at h1
  rw[List.getElem?_map] at h2
  cases hx:xs[i]? with
  | none=>rw[hx] at h1;cases h1
  | some x=>rw[hx] at h1 h2;cases h1;cases h2;exact(hc x).2 j a c aJ bj
theorem lI.nil {L:List (Nat×List AV)} {H:List Blk}:lI L H [] []:=⟨rfl,fun j a b h=>by simp at h⟩
theorem lI.cons {L:List (Nat×List AV)} {H:List Blk} {a b:AV} {c d:List AV} (h1:eE L H a b) (h:lI L H c d):lI L H (a::c) (b::d):=
 ⟨by simp[h.1],fun j x y hx bm=>by
  cases j with
  | zero=>simp at hx bm;subst hx;subst bm;exact h1
  | succ j=>exact h.2 j x y (by simpa using hx) (by simpa using bm)⟩
section
variable {L:List (Nat×List AV)} {H:List Blk}
theorem xP (b:Bool):lI L H (aT b) (aT b):= .cons (.bool _) .nil
theorem Br (x:b8):lI L H (bn x) (bn x):= .cons (.int _ _) (.cons (.int _ _) .nil)
end
def dj {α:Type} (F:(α→Prop)→Prop):Prop:= ∀K,F K→ ∃r,K r∧F (fun x=>x=r)
theorem dj.ret {α:Type} (r:α):dj fun K=>K r:=fun K h=>⟨r,h,rfl⟩
theorem dj.no {α:Type}:dj (α:=α) fun _=>False:=fun K h=>h.elim
theorem dj.and {α:Type} {φ:Prop} {F:(α→Prop)→Prop} (h:dj F):dj fun K=>φ∧F K:=fun K ⟨ak,hf⟩=>by
 obtain⟨r,h1,h2⟩:=h K hf
 exact⟨r,h1,ak,h2⟩
theorem dj.NA {α:Type} {φ:Prop} {F:(α→Prop)→Prop} (h:φ→dj F):dj fun K=>φ∧F K:=fun K ⟨ak,hf⟩=>by
 obtain⟨r,h1,h2⟩:=h ak K hf
 exact⟨r,h1,ak,h2⟩
theorem dj.bind {α β:Type} {o:Option β} {F:β→(α→Prop)→Prop} (h: ∀b,dj (F b)):dj fun K=>ch o fun b=>F b K:=fun K hf=>by
 cases o with
 | none=>exact hf.elim
 | some b=>exact h b K hf
theorem dj.ite {α:Type} {c:Prop} [Decidable c] {F G:(α→Prop)→Prop} (h:dj F) (k:dj G):dj fun K=>if c then F K else G K:=by
 intro K hf
 by_cases hc:c
 ·rw[if_pos hc] at hf
  obtain⟨r,h1,h2⟩:=h K hf
  exact⟨r,h1,by show if c then _ else _;rw[if_pos hc];exact h2⟩
 ·rw[if_neg hc] at hf
  obtain⟨r,h1,h2⟩:=k K hf
  exact⟨r,h1,by show if c then _ else _;rw[if_neg hc];exact h2⟩
theorem dj.dD {α:Type} {b:Bool} {F:(α→Prop)→Prop} (h:dj F):dj fun K=>dD b (F K):=by
 cases b with
 | true=>exact h
 | false=>exact dj.no
theorem DN {P:Program} {t:TypeId} {cells:List AV} {c:Nat}:dj (g_ P t cells c):=by
 unfold g_
 exact .ite (.ite (.ite (.ret _) .no) (.bind fun _=> .ret _)) .no
theorem Va {P:Program} {t:TypeId} {x:AV} {L:List (Nat×List AV)} {H:List Blk}:dj (lZ P t x L H):=by
 cases x with
 | dZ s c=>exact .bind fun _=>DN
 | ptr b g r c=>exact .bind fun _=> .and (.bind fun _=>DN)
 | cD cells c=>exact DN
 | _=>exact .no
theorem VR {x:AV}:dj (Ck x):=by
 cases x<;>first | exact .no | exact .ret _
theorem NO {op:BinOp} {k:IntKind} {a b:Int}:dj (wE op k a b):=by
 cases op<;>first | exact .no | exact .ret _ | exact .and (.ret _)
theorem NN {op:BinOp} {k iv:IntKind} {a b:Int}:dj (wF op k a iv b):=by
 cases op<;>first | exact .and (.ret _) | exact .ite NO .no
def tV (x:AV):Bool:=match x with
 | .a8 _ _ _=>false
 | _=>true
theorem NP {P:Program} {op:BinOp} {t:TypeId} {x y:AV} {oT:Bool} (hx:tV x=true):dj (oZ P op t x y oT):=by
 cases x with
 | int k a=>cases y<;>first | exact .no | exact NN
 | bool a=>
  cases y with
  | bool b=>exact .ite (by cases op<;>first | exact .no | exact .ret _) .no
  | _=>exact .no
 | str a=>
  cases y with
  | str b=>
   show dj (zn op a b)
   cases op<;>first | exact .no | exact .ret _ | exact .and (.ret _)
  | _=>exact .no
 | agg l=>
  cases y with
  | agg m=>exact .ite (.bind fun p=> .bind fun q=>by
    show dj (zo op p.1 p.2 q.1 q.2)
    cases op<;>first | exact .no | exact .ret _) .no
  | _=>exact .no
 | a8 rows cS fr=>cases hx
 | _=>exact .no
theorem ZF {op:UnOp} {x:AV}:dj (yW op x):=by
 cases op<;>cases x<;>first | exact .no | exact .ret _
theorem OS {P:Program} {s d:TypeId} {x:AV}:dj (zQ P s d x):=by
 cases x with
 | int k n=>exact .bind fun _=> .bind fun _=> .ret _
 | _=>exact .no
theorem Po {P:Program} {t:TypeId} {x:AV} {f:Nat}:dj (Al P t x f):=by
 refine .bind fun fd=> .ite ?_ .no
 cases x<;>first | exact .no | exact .ret _
theorem Se {P:Program} {t:TypeId} {x i:AV} {H:List Blk}:dj (sH P t x i H):=by
 refine .bind fun e=> .ite ?_ .no
 cases i with
 | int k n=>
  cases x with
  | a8 rows cS fr=>exact .and (.bind fun _=> .and (.ret _))
  | ref b g off m cS=>exact .bind fun _=> .and (.and (.and (.and (.ret _))))
  | _=>exact .no
 | _=>exact .no
theorem Sn {P:Program} {t:TypeId} {x i:AV}:dj (Bs P t x i):=by
 cases x with
 | str s=>
  cases i with
  | int k n=>
   show dj fun K:AV→Prop=>(match P.underlying t with
   | some .string=>0≤n∧n<s.size∧K (.int .u8 (s.data.getD n.toNat 0).toNat)
   | _=>False)
   split
   ·exact .and (.and (.ret _))
   ·exact .no
  | _=>exact .no
 | _=>exact .no
theorem r3 {α:Type} {x:Option AV} {d:Nat} {F:Nat→(α→Prop)→Prop} (h: ∀n,dj (F n)):dj fun K=>jJ x d fun n=>F n K:=by
 cases x with
 | none=>exact h d
 | some a=>
  cases a with
  | int k n=>exact .and (h _)
  | _=>exact .no
theorem XM {P:Program} {t:TypeId} {x:AV} {lo hi:Option AV} {H:List Blk}:dj (rp P t x lo hi H):=by
 cases x with
 | str s=>
  show dj fun K:AV→Prop=>(match P.underlying t with
   | some .string=>jJ lo 0 fun l=>jJ hi s.size fun h=>l≤h∧h≤s.size∧K (.str (s.extract l h))
   | _=>False)
  split
  ·exact r3 fun l=>r3 fun h=> .and (.and (.ret _))
  ·exact .no
 | a8 rows cS fr=>exact .bind fun e=> .ite (r3 fun l=>r3 fun h=> .and (.and (.and (.ret _)))) .no
 | ref b g off n cS=>
  refine .bind fun e=> .ite (.bind fun blk=> .and (.and (r3 fun l=>r3 fun h=> .NA fun hle=> .and ?_))) .no
  intro K ⟨h1,h2⟩
  rcases Nat.lt_trichotomy l h with aR | Ra | nw
  ·exact⟨_,h1 aR,fun _=>rfl,fun e=>absurd e (by omega)⟩
  ·exact⟨_,h2 Ra,fun e=>absurd e (by omega),fun _=>rfl⟩
  ·omega
 | _=>exact .no
theorem Pj {x:AV} {i:Nat}:dj (Ah x i):=by
 cases x with
 | tup l=>exact .bind fun _=> .ret _
 | _=>exact .no
theorem VN {fn:Fn} {first:Array Operand} {caps:List AV}:dj (u4 fn first caps):=by
 cases fn with
 | func f=>exact .ite (.ret _) .no
 | _=>exact .no
theorem N6 {P:Program} {t:TypeId} {parts:List (Nat×AV)}:dj (zr P t parts):= .bind fun _=> .bind fun _=> .bind fun _=> .ret _
theorem N4 {P:Program} {t:TypeId} {n:Nat} {parts:List (Nat×AV)}:dj (r5 P t n parts):= .bind fun _=> .bind fun _=> .ite (.bind fun _=> .ite (.ret _) .no) .no
def ox (x:AV) (K:AV→Prop):Prop:=match x with
 | .a8 rows _ _=>K (.int .i64 rows.length)
 | .str s=>K (.int .i64 s.size)
 | .ref _ _ _ n _=>K (.int .i64 n)
 | _=>False
theorem Vg {x:AV}:dj (ox x):=by
 cases x<;>first | exact .no | exact .ret _
theorem Vh {x:AV} {K:AV→Prop} (h:ox x K):ow x K:=by
 cases x<;>first | exact h | exact fun _=>h
theorem Oq {P:Program} {f:FuncId} {args:List AV} {L:List (Nat×List AV)} {H:List Blk}:dj (lQ P f args L H):=fun K ⟨ap,db,t,h1,h2,aJ⟩=>⟨t,aJ,ap,db,t,h1,h2,rfl⟩
def Pd (P:Program) (c:Call) (bo:Operand→AV) (L:List (Nat×List AV)) (H:List Blk) (K:AV→Prop):Prop:=match c.callee with
 | .builtin .len=>(match c.args.toList,c.argTypes.toList with
  | [x],[t]=>dD (hJ P t (bo x)) (ox (bo x) K)
  | _,_=>False)
 | .value f=>jp (bo f) fun g caps=>lQ P g (c.args.toList.map bo++caps) L H K
 | _=>False
def hE (P:Program) (o:Oper) (bo:Operand→AV) (L:List (Nat×List AV)) (H:List Blk) (K:AV→Prop):Prop:=match o.op with
 | .call c=>Pd P c bo L H K
 | .pick c x y=>lP (bo c) fun z=>mi true z (K (bo x)) (K (bo y))
 | .binOp op t x y _=>dD (tV (bo x)) (oZ P op t (bo x) (bo y) (nG y) K)
 | _=>o4 P o bo L H K
theorem w2 {P:Program} {o:Oper} {bo:Operand→AV} {L:List (Nat×List AV)} {H:List Blk} {K:AV→Prop} (h:hE P o bo L H K):o4 P o bo L H K:=by
 obtain⟨dst,op,ty,pos,after,guard⟩:=o
 cases op with
 | call c=>
  obtain⟨callee,args,argTypes⟩:=c
  cases callee with
  | builtin b=>
   cases b with
   | len=>
    have h:(match args.toList,argTypes.toList with
     | [x],[t]=>dD (hJ P t (bo x)) (ox (bo x) K)
     | _,_=>False):=h
    show(match args.toList,argTypes.toList with
     | [x],[t]=>dD (hJ P t (bo x)) (ow (bo x) K)
     | _,_=>False)
    split at h
    ·obtain⟨h1,h2⟩:=mR h
     simp only[h1];exact Vh h2
    ·exact h.elim
   | _=>exact h.elim
  | value f=>exact h
  | _=>exact h.elim
 | binOp op t x y ty2=>exact(mR (show dD (tV (bo x)) (oZ P op t (bo x) (bo y) (nG y) K) from h)).2
 | pick c x y=>
  obtain⟨b,hb,hw⟩:=wz (show lP (bo c) fun z=>mi true z (K (bo x)) (K (bo y)) from h)
  show lP (bo c) fun z=>tU z (K (bo x)) (K (bo y))
  rw[hb];exact wI hw
 | _=>exact h
theorem NM {α:Type} {z:Bool} {x y:α}:dj fun K=>mi true z (K x) (K y):=by
 cases z with
 | true=>exact .ret x
 | false=>exact .ret y
theorem NG {α:Type} {v:AV} {F:Bool→(α→Prop)→Prop} (h: ∀b,dj (F b)):dj fun K=>lP v fun b=>F b K:=by
 cases v with
 | bool b=>exact h b
 | _=>exact .no
theorem Pg {P:Program} {o:Oper} {bo:Operand→AV} {L:List (Nat×List AV)} {H:List Blk}:dj (hE P o bo L H):=by
 obtain⟨dst,op,ty,pos,after,guard⟩:=o
 cases op with
 | move x=>exact .ret _
 | assign x=>exact .ret _
 | pick c x y=>exact NG fun z=>NM
 | build t ps=>exact .dD N6
 | buildSlice t n ps=>exact .dD N4
 | load t a=>exact Va
 | nilCheck x=>exact VR
 | binOp op t x y ty2=>
  show dj fun K=>dD (tV (bo x)) (oZ P op t (bo x) (bo y) (nG y) K)
  cases hb:tV (bo x) with
  | true=>exact NP hb
  | false=>exact .no
 | unOp op t x=>exact ZF
 | convert s d x=>exact OS
 | makeFunc fn first caps=>exact VN
 | fieldAddr t x f=>exact Po
 | indexAddr t x i=>exact Se
 | index t x i=>exact Sn
 | slice t x lo hi mx=>
  cases mx with
  | none=>exact XM
  | some m=>exact .no
 | extract x i=>exact Pj
 | call c=>
  obtain⟨callee,args,argTypes⟩:=c
  cases callee with
  | builtin b=>
   cases b with
   | len=>
    show dj fun K=>(match args.toList,argTypes.toList with
     | [x],[t]=>dD (hJ P t (bo x)) (ox (bo x) K)
     | _,_=>False)
    split
    ·exact .dD Vg
    ·exact .no
   | _=>exact .no
  | value f=>
   show dj fun K=>jp (bo f) fun g caps=>lQ P g (args.toList.map bo++caps) L H K
   cases bo f with
   | fn g caps=>exact Oq
   | _=>exact .no
  | _=>exact .no
 | _=>exact .no
structure Item where
 i:Nat
 lit:Bool
 q:Bool
 hn:List Nat
def D3:AV→AV→Bool
 | .int k n,.int iv lq=>decide (k=iv)&&decide (n=lq)
 | .bool b,.bool bS=>b==bS
 | .a8 [] f g,.a8 [] w5 cC=>f==w5&&g==cC
 | .eI,.eI=>true
 | _,_=>false
def y2:List AV→List AV→Bool
 | [],[]=>true
 | a::l,b::m=>D3 a b&&y2 l m
 | _,_=>false
theorem aaa {a b:AV} (h:D3 a b=true):a=b:=by
 unfold D3 at h
 split at h
 ·simp only[Bool.and_eq_true,decide_eq_true_eq] at h;rw[h.1,h.2]
 ·rw[eq_of_beq h]
 ·simp only[Bool.and_eq_true] at h;rw[eq_of_beq h.1,eq_of_beq h.2]
 ·rfl
 ·cases h
theorem M8: ∀{l m:List AV},y2 l m=true→l=m
 | [],[],_=>rfl
 | [],_::_,h=>by cases h
 | _::_,[],h=>by cases h
 | a::l,b::m,h=>by
  simp only[y2,Bool.and_eq_true] at h
  rw[aaa h.1,M8 h.2]
def mN (o:Oper):Bool:=match o.op with
 | .alloc _=>true
 | _=>false
def Eh (P:Program) (e:TypeId) (dst:Option Nat) (L:List (Nat×List AV)) (K:AV→Prop):Prop:=ch (kq P e) fun z=>ch dst fun t=>ch (dm L t) fun c=>dD (z.all hA) (dD (y2 c z) (K (.dZ t 0)))
def iY (P:Program) (o:Oper) (bo:Operand→AV) (L:List (Nat×List AV)) (H:List Blk) (K:AV→Prop):Prop:=match o.op with
 | .alloc e=>Eh P e o.dst L K
 | _=>hE P o bo L H K
theorem sf {P:Program} {o:Oper} {bo:Operand→AV} {L:List (Nat×List AV)} {H:List Blk} {K:AV→Prop} (h:mN o=false):iY P o bo L H K=hE P o bo L H K:=by
 obtain⟨dst,op,ty,pos,after,guard⟩:=o
 cases op<;>first | rfl | cases h
theorem Pf {P:Program} {o:Oper} {bo:Operand→AV} {L:List (Nat×List AV)} {H:List Blk}:dj (iY P o bo L H):=by
 cases h:mN o with
 | false=>intro K hk;rw[sf h] at hk;obtain⟨r,h1,h2⟩:=Pg K hk;exact⟨r,h1,by rw[sf h];exact h2⟩
 | true=>
  obtain⟨dst,op,ty,pos,after,guard⟩:=o
  cases op
  case alloc e=>exact dj.bind fun _=> .bind fun _=> .bind fun _=> .dD (.dD (.ret _))
  all_goals cases h
def opI (ops:Array Oper) (i:Nat):Oper:=ops.getD i default
def o1 (o:Oper) (T:List AV):AV:=match o.dst with
 | some d=>T.getD d .undef
 | none=> .undef
def n9 (P:Program) (ops:Array Oper):List Nat→List AV→List (Nat×List AV)→List Blk→Prop
 | [],_,_,_=>True
 | i::r,T,L,H=>((opI ops i).guard.isNone=true∧(opI ops i).dst.isSome=true∧iY P (opI ops i) (bL T) L H (fun v=>v=o1 (opI ops i) T))∧n9 P ops r T L H
theorem FC {P:Program} {ops:Array Oper} {T:List AV} {L:List (Nat×List AV)} {H:List Blk}: ∀{hn:List Nat},n9 P ops hn T L H→ ∀i∈hn,(opI ops i).guard.isNone=true∧(opI ops i).dst.isSome=true∧iY P (opI ops i) (bL T) L H (fun v=>v=o1 (opI ops i) T)
 | [],_,i,hi=>by cases hi
 | j::r,h,i,hi=>by
  rcases List.mem_cons.1 hi with rfl | hi
  ·exact h.1
  ·exact FC h.2 i hi
def hR (P:Program) (esc:List Nat) (ops:Array Oper):List Item→List AV→List (Nat×List AV)→List Blk→(List AV→List (Nat×List AV)→List Blk→Prop)→Prop
 | [],T,L,H,K=>K T L H
 | x::rest,T,L,H,K=>lc ops x.lit (opI ops x.i) T
   (fun T=>match x.q with
    | true=>iY P (opI ops x.i) (bL T) L H fun v=>hR P esc ops rest (putA T (opI ops x.i).dst v) L H K
    | false=>hQ P esc (opI ops x.i) (bL T) L H fun v L' H'=>n9 P ops x.hn T L' H'∧hR P esc ops rest (putA T (opI ops x.i).dst v) L' H' K)
   (fun T=>hR P esc ops rest (putA T (opI ops x.i).dst (.tup [])) L H K)
theorem Fj {P:Program} {o:Oper} {bo eC:Operand→AV} {L:List (Nat×List AV)} {H:List Blk} {K:AV→Prop} (h: ∀x∈o.op.operands,bo x=eC x):o4 P o bo L H K=o4 P o eC L H K:=by
 obtain⟨dst,op,ty,pos,after,guard⟩:=o
 have J3: ∀ps:Array (Nat×Operand),(∀x∈ps.map (·.2),bo x=eC x)→(ps.toList.map fun p=>(p.1,bo p.2))=(ps.toList.map fun p=>(p.1,eC p.2)):=fun ps ak=>
  List.map_congr_left fun p hm=>by rw[ak p.2 (Array.mem_map.2 ⟨p,by simpa using hm,rfl⟩)]
 have Em: ∀ps:Array (Nat×Operand),(∀x∈ps.map (·.2),bo x=eC x)→(ps.toList.all fun p=>dC (bo p.2))=(ps.toList.all fun p=>dC (eC p.2)):=fun ps ak=>by
  rw[Bool.eq_iff_iff,List.all_eq_true,List.all_eq_true]
  constructor<;>intro q p hm
  ·rw[←ak p.2 (Array.mem_map.2 ⟨p,by simpa using hm,rfl⟩)];exact q p hm
  ·rw[ak p.2 (Array.mem_map.2 ⟨p,by simpa using hm,rfl⟩)];exact q p hm
 have a8: ∀xs:Array Operand,(∀x∈xs,bo x=eC x)→xs.toList.map bo=xs.toList.map eC:=fun xs hx=>List.map_congr_left fun p hm=>hx p (by simpa using hm)
 cases op<;>simp only[Op.operands] at h
 case build t ps=>
  show dD _ _=dD _ _
  rw[J3 ps fun x hx=>h x (by simpa using hx),Em ps fun x hx=>h x (by simpa using hx)]
 case buildSlice t n ps=>
  show dD _ _=dD _ _
  rw[J3 ps fun x hx=>h x (by simpa using hx),Em ps fun x hx=>h x (by simpa using hx)]
 case makeFunc fn first caps=>
  show u4 fn first (caps.toList.map bo) K=u4 fn first (caps.toList.map eC) K
  rw[a8 caps fun x hx=>h x (by simp[hx])]
 case slice t x lo hi mx=>
  cases mx with
  | some m=>rfl
  | none=>
   show rp P t (bo x) (lo.map bo) (hi.map bo) H K=rp P t (eC x) (lo.map eC) (hi.map eC) H K
   cases lo<;>cases hi<;>simp_all
 case call c=>
  obtain⟨callee,args,argTypes⟩:=c
  have aL: ∀x∈args,bo x=eC x:=fun x hx=>h x (by simp[Call.operands,hx])
  cases callee with
  | builtin b=>
   cases b with
   | len=>
    show(match args.toList,argTypes.toList with
     | [x],[t]=>dD (hJ P t (bo x)) (ow (bo x) K)
     | _,_=>False)=(match args.toList,argTypes.toList with
     | [x],[t]=>dD (hJ P t (eC x)) (ow (eC x) K)
     | _,_=>False)
    split
    ·rename_i x t h1 h2
     rw[aL x (by rw[←Array.mem_toList_iff,h1];simp)]
    ·rfl
   | _=>rfl
  | value f=>
   have hf:bo f=eC f:=h f (by simp[Call.operands])
   show jp (bo f) _=jp (eC f) _
   rw[hf,a8 args aL]
  | invoke r m=>rfl
 all_goals (first | rfl | (simp only[o4];simp_all;done))
theorem Fi {P:Program} {o:Oper} {bo eC:Operand→AV} {L:List (Nat×List AV)} {H:List Blk} {K:AV→Prop} (h: ∀x∈o.op.operands,bo x=eC x):hE P o bo L H K=hE P o eC L H K:=by
 have hv:=fun K=>Fj (P:=P) (L:=L) (H:=H) (K:=K) h
 obtain⟨dst,op,ty,pos,after,guard⟩:=o
 cases op
 case call c=>
  simp only[Op.operands] at h
  obtain⟨callee,args,argTypes⟩:=c
  have aL: ∀x∈args,bo x=eC x:=fun x hx=>h x (by simp[Call.operands,hx])
  cases callee with
  | builtin b=>
   cases b with
   | len=>
    show(match args.toList,argTypes.toList with
     | [x],[t]=>dD (hJ P t (bo x)) (ox (bo x) K)
     | _,_=>False)=(match args.toList,argTypes.toList with
     | [x],[t]=>dD (hJ P t (eC x)) (ox (eC x) K)
     | _,_=>False)
    split
    ·rename_i x t h1 h2
     rw[aL x (by rw[←Array.mem_toList_iff,h1];simp)]
    ·rfl
   | _=>rfl
  | value f=>exact hv K
  | invoke r m=>rfl
 case pick c x y=>simp only[Op.operands] at h;simp only[hE];simp_all
 case binOp op t x y ty2=>simp only[Op.operands] at h;simp only[hE];simp_all
 all_goals exact hv K
theorem Fe {P:Program} {o:Oper} {bo eC:Operand→AV} {L:List (Nat×List AV)} {H:List Blk} {K:AV→Prop} (h: ∀x∈o.op.operands,bo x=eC x):iY P o bo L H K=iY P o eC L H K:=by
 cases aL:mN o with
 | false=>rw[sf aL,sf aL];exact Fi h
 | true=>
  obtain⟨dst,op,ty,pos,after,guard⟩:=o
  cases op
  case alloc e=>rfl
  all_goals cases aL
theorem Pe {P:Program} {esc:List Nat} {o:Oper} {bo eC:Operand→AV} {L:List (Nat×List AV)} {H:List Blk} {K:AV→List (Nat×List AV)→List Blk→Prop} (h: ∀x∈o.op.operands,bo x=eC x):hQ P esc o bo L H K=hQ P esc o eC L H K:=by
 have hv:=fun K=>Fj (P:=P) (L:=L) (H:=H) (K:=K) h
 obtain⟨dst,op,ty,pos,after,guard⟩:=o
 cases op
 case call c=>
  obtain⟨callee,args,argTypes⟩:=c
  have h':=h
  simp only[Op.operands] at h
  have aL: ∀x∈args,bo x=eC x:=fun x hx=>h x (by simp[Call.operands,hx])
  cases callee with
  | builtin b=>
   cases b with
   | len=>exact hv fun r=>K r L H
   | append=>
    show(match args.toList,argTypes.toList with
     | [s,x],[t,t2]=>dC (bo s)=true∧dC (bo x)=true∧p6 P t t2 (bo s) (bo x) L H K
     | _,_=>False)=(match args.toList,argTypes.toList with
     | [s,x],[t,t2]=>dC (eC s)=true∧dC (eC x)=true∧p6 P t t2 (eC s) (eC x) L H K
     | _,_=>False)
    split
    ·rename_i s x t t2 h1 h2
     rw[aL x (by rw[←Array.mem_toList_iff,h1];simp),aL s (by rw[←Array.mem_toList_iff,h1];simp)]
    ·rfl
   | _=>rfl
  | value f=>
   have hf:bo f=eC f:=h f (by simp[Call.operands])
   show jp (bo f) _=jp (eC f) _
   rw[hf,List.map_congr_left fun p hm=>aL p (by simpa using hm)]
  | invoke r m=>rfl
 case alloc e=>rfl
 case buildSlice t n ps=>
  simp only[Op.operands] at h
  have h: ∀x∈ps.map (·.2),bo x=eC x:=fun x hx=>h x (by simpa using hx)
  have bi:(ps.toList.map fun p=>(p.1,bo p.2))=(ps.toList.map fun p=>(p.1,eC p.2)):=
   List.map_congr_left fun p hm=>by rw[h p.2 (Array.mem_map.2 ⟨p,by simpa using hm,rfl⟩)]
  have e2:(ps.toList.all fun p=>dC (bo p.2))=(ps.toList.all fun p=>dC (eC p.2)):=by
   rw[Bool.eq_iff_iff,List.all_eq_true,List.all_eq_true]
   constructor<;>intro q p hm
   ·rw[←h p.2 (Array.mem_map.2 ⟨p,by simpa using hm,rfl⟩)];exact q p hm
   ·rw[h p.2 (Array.mem_map.2 ⟨p,by simpa using hm,rfl⟩)];exact q p hm
  show dD _ (p_ P (qe esc dst) (rh esc) t n _ L H K)=dD _ (p_ P (qe esc dst) (rh esc) t n _ L H K)
  rw[bi,e2]
 case store t x y=>simp only[Op.operands] at h;simp only[hQ];simp_all
 case box e x=>simp only[Op.operands] at h;simp only[hQ];simp_all
 case makeSlice t l c=>simp only[Op.operands] at h;simp only[hQ];simp_all
 all_goals exact hv fun r=>K r L H
structure rO (P:Program) (ops:Array Oper) (L:List (Nat×List AV)) (H:List Blk) (T:List AV) (o:Oper) (v:AV) (run:Bool):Prop where
 b1: ∀(E:Env) (a:Act),(∀t∈o.looksAt ops,V3 E (T.getD t .undef) (a.tmps.getD t undef))→T.length=a.tmps.size→Region.wanted o (yielded ops a.tmps)=run
 n0:run=true→iY P o (bL T) L H (fun r=>r=v)
 no:run=false→v= .tup []
 put: ∀d,o.dst=some d→d<T.length→T.getD d .undef=v
theorem VB {ops:Array Oper} {o:Oper} {t:Nat} (h: .tmp t∈o.op.operands):t∈o.looksAt ops:=
 List.mem_append_left _ (List.mem_filterMap.2 ⟨.tmp t,by simpa using h,rfl⟩)
theorem VA {ops:Array Oper} {o:Oper} {j t:Nat} {b:Bool} (aI:o.guard=some (j,b)) (bt:(ops[j]?).bind (·.dst)=some t):t∈o.looksAt ops:=by
 refine List.mem_append_right _ ?_
 rw[aI];simp[bt]
theorem ya {ops:Array Oper} {o:Oper} {T T':List AV} (h: ∀t∈o.looksAt ops,T.getD t .undef=T'.getD t .undef): ∀x∈o.op.operands,bL T x=bL T' x:=fun x hx=>by
 cases x with
 | tmp t=>exact h t (VB hx)
 | _=>rfl
theorem rO.mono {P:Program} {ops:Array Oper} {L:List (Nat×List AV)} {H:List Blk} {T T':List AV} {o:Oper} {v:AV} {run:Bool} (h:rO P ops L H T o v run) (aE:T'.length=T.length)
  (aL: ∀t∈o.looksAt ops,T'.getD t .undef=T.getD t .undef) (aZ: ∀d,o.dst=some d→T'.getD d .undef=T.getD d .undef):rO P ops L H T' o v run where
 b1:=fun E a hs aH=>h.b1 E a (fun t bt=>by rw[←aL t bt];exact hs t bt) (by rw[←aE];exact aH)
 n0:=fun aw=>by
  rw[Fe (ya aL)]
  exact h.n0 aw
 no:=h.no
 put:=fun d pd aR=>by rw[aZ d pd];exact h.put d pd (by rw[←aE];exact aR)
theorem FP {P:Program} {ops:Array Oper} {lit:Bool} {o:Oper} {T:List AV} {x y:List AV→Prop} (h:lc ops lit o T x y):
  ∃T' run,T'.length=T.length∧(∀t,T'.getD t .undef=T.getD t .undef)∧(∀(E:Env) (a:Act),(∀t∈o.looksAt ops,V3 E (T.getD t .undef) (a.tmps.getD t undef))→T.length=a.tmps.size→Region.wanted o (yielded ops a.tmps)=run)∧(if run=true then x T' else y T'):=by
 unfold lc at h
 cases aI:o.guard with
 | none=>rw[aI] at h;exact⟨T,true,rfl,fun _=>rfl,fun E a _ _=>by simp[Region.wanted,aI],h⟩
 | some g=>
  obtain⟨j,b1⟩:=g
  rw[aI] at h
  simp only at h
  cases aC:(ops[j]?).bind (·.dst) with
  | none=>rw[aC] at h;exact h.elim
  | some t=>
   rw[aC] at h
   simp only at h
   have xC:t∈o.looksAt ops:=VA aI aC
   have om: ∀b,T.getD t .undef= .bool b→ ∀s,(T.set t (.bool b)).getD s .undef=T.getD s .undef:=fun b hb s=>by
    rw[n_]
    by_cases hs:t=s∧t<T.length
    ·rw[if_pos hs,←hs.1,hb]
    ·rw[if_neg hs]
   split at h
   ·rename_i b hb
    obtain⟨h1,h2⟩:=wI h
    have hw: ∀(E:Env) (a:Act),(∀t∈o.looksAt ops,V3 E (T.getD t .undef) (a.tmps.getD t undef))→T.length=a.tmps.size→Region.wanted o (yielded ops a.tmps)=(b==b1):=fun E a hs aH=>by
     have hv:=hs t xC
     rw[hb] at hv
     have he:a.tmps.getD t undef= .bool b:=V3.mh hv
     have bm:yielded ops a.tmps j=some b:=by
      unfold yielded
      rw[aC]
      rw[Array.getD_eq_getD_getElem?] at he
      cases ag:a.tmps[t]? with
      | none=>rw[ag] at he;cases he
      | some x=>rw[ag] at he;have:x= .bool b:=he;subst this;simp[ag]
     simp[Region.wanted,aI,bm]
    cases b with
    | true=>refine⟨_,_,by simp,om true hb,hw,?_⟩;have:=h1 rfl;cases b1<;>exact this
    | false=>refine⟨_,_,by simp,om false hb,hw,?_⟩;have:=h2 rfl;cases b1<;>exact this
   ·rename_i hb
    refine⟨T,false,rfl,fun _=>rfl,fun E a hs aH=> ?_,h⟩
    have hv:=hs t xC
    rw[hb] at hv
    obtain⟨vs,he,ak⟩:=(show ∃vs:List Value,a.tmps.getD t undef= .tuple vs.toArray∧aK (V2 E) [] vs from hv)
    obtain rfl:=ak.oC
    have bm:yielded ops a.tmps j=none:=by
     unfold yielded
     rw[aC]
     rw[Array.getD_eq_getD_getElem?] at he
     cases ag:a.tmps[t]? with
     | none=>simp[ag]
     | some x=>rw[ag] at he;have:x= .tuple #[]:=he;subst this;simp[ag]
    simp[Region.wanted,aI,bm]
   ·exact h.elim
theorem s_ (T:List AV) (d:Option Nat) (v:AV):(putA T d v).length=T.length:=by
 cases d<;>simp[putA]
theorem yi {T:List AV} {d:Option Nat} {v:AV} {t:Nat} (h:d≠some t):(putA T d v).getD t .undef=T.getD t .undef:=by
 cases d with
 | none=>rfl
 | some s=>
  show(T.set s v).getD t .undef=_
  rw[n_,if_neg]
  rintro⟨rfl,_⟩;exact h rfl
theorem Kl {T:List AV} {d:Nat} {v:AV} (h:d<T.length):(putA T (some d) v).getD d .undef=v:=by
 show(T.set d v).getD d .undef=v
 rw[n_,if_pos ⟨rfl,h⟩]
def jf (ops:Array Oper):List Item→Prop
 | []=>True
 | x::r=>(∀t∈(opI ops x.i).looksAt ops,∀y∈x::r,(opI ops y.i).dst≠some t)∧(∀d,(opI ops x.i).dst=some d→ ∀y∈r,(opI ops y.i).dst≠some d)∧jf ops r
theorem C1 {P:Program} {esc:List Nat} {ops:Array Oper} {L:List (Nat×List AV)} {H:List Blk} {K:List AV→List (Nat×List AV)→List Blk→Prop}: ∀(l:List Item) (T:List AV),jf ops l→hR P esc ops l T L H K→
  ∃pre post lL,l=pre++post∧(∀x∈pre,x.q=true)∧(∀x r,post=x::r→x.q=false)∧hR P esc ops post lL L H K∧lL.length=T.length∧
   (∀t,(∀x∈pre,(opI ops x.i).dst≠some t)→lL.getD t .undef=T.getD t .undef)∧ ∀x∈pre,∃v run,rO P ops L H lL (opI ops x.i) v run
 | [],T,_,h=>⟨[],[],T,rfl,fun x hx=>(by cases hx),fun x r e=>(by cases e),h,rfl,fun _ _=>rfl,fun x hx=>(by cases hx)⟩
 | x::r,T,aW,h=>by
  cases ag:x.q with
  | false=>exact⟨[],x::r,T,rfl,fun x hx=>(by cases hx),fun y yt e=>(by cases e;exact ag),h,rfl,fun _ _=>rfl,fun x hx=>(by cases hx)⟩
  | true=>
   obtain⟨jH,run,mD,jv,hw,ey⟩:=FP (P:=P) h
   obtain⟨Eo,NB,NC⟩:=aW
   have key: ∃v,hR P esc ops r (putA jH (opI ops x.i).dst v) L H K∧(run=true→iY P (opI ops x.i) (bL jH) L H (fun r=>r=v))∧(run=false→v= .tup []):=by
    cases run with
    | true=>
     have ey:(match x.q with
      | true=>iY P (opI ops x.i) (bL jH) L H fun v=>hR P esc ops r (putA jH (opI ops x.i).dst v) L H K
      | false=>_):=ey
     rw[ag] at ey
     obtain⟨v,h1,h2⟩:=Pf _ ey
     exact⟨v,h1,fun _=>h2,fun e=>by cases e⟩
    | false=>exact⟨.tup [],ey,fun e=>(by cases e),fun _=>rfl⟩
   obtain⟨v,hv,Sa,Rx⟩:=key
   obtain⟨pre,post,lL,rfl,uL,oi,od,hlen,fx,uy⟩:=C1 r _ NC hv
   have pk: ∀y∈pre,y∈pre++post:=fun y bm=>List.mem_append_left _ bm
   have uF: ∀t∈(opI ops x.i).looksAt ops,lL.getD t .undef=jH.getD t .undef:=fun t bt=>by
    rw[fx t fun y bm=>Eo t bt y (List.mem_cons_of_mem _ (pk y bm)),yi (Eo t bt x (List.mem_cons_self ..))]
   refine⟨x::pre,post,lL,rfl,fun y bm=> ?_,oi,od,by rw[hlen,s_,mD],fun t bt=> ?_,fun y bm=> ?_⟩
   ·rcases List.mem_cons.1 bm with rfl | bm
    ·exact ag
    ·exact uL y bm
   ·rw[fx t fun y bm=>bt y (List.mem_cons_of_mem _ bm),yi (bt x (List.mem_cons_self ..)),jv]
   ·rcases List.mem_cons.1 bm with rfl | bm
    ·refine⟨v,run,⟨fun E a hs aH=>hw E a (fun t bt=> ?_) ?_,fun aw=> ?_,Rx,fun d aZ aR=> ?_⟩⟩
     ·rw[←jv t,←uF t bt];exact hs t bt
     ·rw[←aH,hlen,s_,mD]
     ·rw[Fe (ya uF)];exact Sa aw
     ·rw[fx d fun y bm=>NB d aZ y (pk y bm),aZ]
      exact Kl (by rw[hlen,s_] at aR;exact aR)
    ·exact uy y bm
def pZ (A:Nat→List Nat):List Item→List Item→Prop
 | _,[]=>True
 | p,h::r=>(h.q=false→(∀y∈r,h.i∈A y.i)∧ ∀x∈p,x.i∈A h.i∨x.i∈h.hn)∧pZ A (p++[h]) r
theorem pZ.at {A:Nat→List Nat}: ∀{pre p:List Item} {h:Item} {r:List Item},pZ A p (pre++h::r)→h.q=false→(∀y∈r,h.i∈A y.i)∧ ∀x∈p++pre,x.i∈A h.i∨x.i∈h.hn
 | [],p,h,r,hb,ag=>by
  rw[List.append_nil];exact hb.1 ag
 | x::pre,p,h,r,hb,ag=>by
  have:=pZ.at (pre:=pre) (p:=p++[x]) hb.2 ag
  simpa using this
structure we (ops:Array Oper) (ord:List Item) (A:Nat→List Nat):Prop where
 back: ∀i o,ops[i]?=some o→ ∀e∈o.after,Region.binds .any e=true→e.on<i
 Ny: ∀i o,ops[i]?=some o→ ∀a∈A i,∃e∈o.after,Region.binds .any e=true∧(a=e.on∨a∈A e.on)
 all: ∀i,i<ops.size→ ∃x∈ord,x.i=i
 lt: ∀x∈ord,x.i<ops.size
 nodup:(ord.map (·.i)).Nodup
 ZJ: ∀x∈ord,∀t∈(opI ops x.i).looksAt ops,∀y∈ord,(opI ops y.i).dst=some t→y.i∈A x.i
 apart:jf ops ord
 kw:pZ A [] ord
theorem jf.tail {ops:Array Oper}: ∀{p r:List Item},jf ops (p++r)→jf ops r
 | [],_,h=>h
 | _::p,_,h=>jf.tail (p:=p) h.2.2
theorem jf.H8 {ops:Array Oper}: ∀{p r:List Item},jf ops (p++r)→ ∀x∈p,(∀t∈(opI ops x.i).looksAt ops,∀y∈r,(opI ops y.i).dst≠some t)∧ ∀d,(opI ops x.i).dst=some d→ ∀y∈r,(opI ops y.i).dst≠some d
 | [],_,_,x,hx=>by cases hx
 | z::p,r,h,x,hx=>by
  rcases List.mem_cons.1 hx with rfl | hx
  ·exact⟨fun t bt y bm=>h.1 t bt y (List.mem_cons_of_mem _ (List.mem_append_right _ bm)),fun d aZ y bm=>h.2.1 d aZ y (List.mem_append_right _ bm)⟩
  ·exact jf.H8 (p:=p) h.2.2 x hx
theorem jf.inj {ops:Array Oper}: ∀{l:List Item},jf ops l→ ∀x∈l,∀y∈l,x.i≠y.i→ ∀d,(opI ops x.i).dst=some d→(opI ops y.i).dst≠some d
 | [],_,x,hx,_,_,_,_,_=>by cases hx
 | z::r,h,x,hx,y,bm,b2,d,aZ=>by
  rcases List.mem_cons.1 hx with ex | H6
  ·rcases List.mem_cons.1 bm with Ai | BY
   ·exact absurd (by rw[ex,Ai]) b2
   ·exact h.2.1 d (by rw[←ex];exact aZ) y BY
  ·rcases List.mem_cons.1 bm with Ai | BY
   ·exact fun e=>h.2.1 d (by rw[←Ai];exact e) x H6 aZ
   ·exact jf.inj h.2.2 x H6 y BY b2 d aZ
theorem oD {ops:Array Oper} {i:Nat} (h:i<ops.size):ops[i]?=some (opI ops i):=by
 unfold opI
 rw[Array.getElem?_eq_getElem h,Array.getD_eq_getD_getElem?,Array.getElem?_eq_getElem h];rfl
def y3 (ops:Array Oper) (S:Array Bool):Prop:= ∀i o,ops[i]?=some o→S.getD i false=true→ ∀e∈o.after,Region.binds .any e=true→S.getD e.on false=true
theorem Nz {ops:Array Oper} {ord:List Item} {A:Nat→List Nat} (D:we ops ord A) {S:Array Bool} (hs:S.size=ops.size) (hc:y3 ops S): ∀(i:Nat) o,ops[i]?=some o→(∀e∈o.after,Region.binds .any e=true→S.getD e.on false=true)→ ∀a∈A i,S.getD a false=true:=by
 intro i
 induction i using Nat.strongRecOn with
 | _ i bx=>
  intro o aB aw a aL
  obtain⟨e,he,hb,oh⟩:=D.Ny i o aB a aL
  have po:=aw e he hb
  rcases oh with rfl | oh
  ·exact po
  ·have aR:=D.back i o aB e he hb
   have bX:e.on<ops.size:=by
    rcases Nat.lt_or_ge e.on ops.size with h | h
    ·exact h
    ·rw[Array.getD_eq_getD_getElem?,Array.getElem?_eq_none (by omega)] at po;cases po
   exact bx e.on aR _ (oD bX) (fun cH Q_ dK=>hc e.on _ (oD bX) po cH Q_ dK) a oh
theorem KM {ops:Array Oper} {S:Array Bool} (hs:S.size=ops.size) {i:Nat} (h:i∈Region.ready .any ops S):i<ops.size∧S.getD i false=false∧ ∀e∈(opI ops i).after,Region.binds .any e=true→S.getD e.on false=true:=by
 unfold Region.ready at h
 rw[List.mem_filter,List.mem_range] at h
 obtain⟨aR,h⟩:=h
 rw[oD aR] at h
 simp only[Option.map_some,Option.getD_some,Bool.and_eq_true,Bool.not_eq_true',Array.all_eq_true_iff_forall_mem] at h
 obtain⟨h1,h2⟩:=h
 refine⟨aR,?_,fun e he hb=> ?_⟩
 ·rw[Array.getD_eq_getD_getElem?,Array.getElem?_eq_getElem (by omega)] at h1 ⊢;exact h1
 ·have:=h2 e he
  rw[hb] at this;simpa using this
theorem WW {ops:Array Oper} {ord:List Item} {A:Nat→List Nat} (D:we ops ord A) {S:Array Bool} (hs:S.size=ops.size) (h:Region.ready .any ops S=[]): ∀i,i<ops.size→S.getD i false=true:=by
 intro i
 induction i using Nat.strongRecOn with
 | _ i bx=>
  intro aR
  cases ag:S.getD i false with
  | true=>rfl
  | false=>
   exfalso
   have:i∈Region.ready .any ops S:=by
    unfold Region.ready
    rw[List.mem_filter,List.mem_range]
    refine⟨aR,?_⟩
    rw[oD aR]
    simp only[Option.map_some,Option.getD_some,Bool.and_eq_true,Bool.not_eq_true',Array.all_eq_true_iff_forall_mem]
    refine⟨?_,fun e he=> ?_⟩
    ·rw[Array.getD_eq_getD_getElem?,Array.getElem?_eq_getElem (by omega)] at ag ⊢;exact ag
    ·cases hb:Region.binds .any e with
     | false=>rfl
     | true=>
      have aE:=D.back i _ (oD aR) e he hb
      simpa using bx e.on aE (by omega)
   rw[h] at this;cases this
theorem ET {α:Type} (p s5:α→Bool) (j:α) (ak:p j=true) (xI:s5 j=false) (hk: ∀k,k≠j→p k=s5 k): ∀l:List α,l.Nodup→j∈l→l.countP p=l.countP s5+1
 | [],_,h=>by cases h
 | k::l,ap,h=>by
  rw[List.nodup_cons] at ap
  by_cases A3:k=j
  ·subst A3
   rw[List.countP_cons_of_pos ak,List.countP_cons_of_neg (by simp[xI])]
   congr 1
   refine List.countP_congr fun x hx=> ?_
   rw[hk x (fun e=>ap.1 (e▸hx))]
  ·have aC:j∈l:=(List.mem_cons.1 h).resolve_left fun e=>A3 e.symm
   have bx:=ET p s5 j ak xI hk l ap.2 aC
   rw[List.countP_cons,List.countP_cons,hk k A3,bx];omega
def left (n:Nat) (S:Array Bool):Nat:=(List.range n).countP fun j=> !S.getD j false
theorem uh {S:Array Bool} {i j:Nat}:(S.setIfInBounds i true).getD j false=if i=j∧i<S.size then true else S.getD j false:=by
 rw[Array.getD_eq_getD_getElem?,Array.getD_eq_getD_getElem?,Array.getElem?_setIfInBounds]
 by_cases h:i=j
 ·subst h
  by_cases aE:i<S.size
  ·simp[aE]
  ·simp[aE]
 ·simp[h]
theorem Ve {n:Nat} {S:Array Bool} {i:Nat} (hs:S.size=n) (hi:i<n) (h:S.getD i false=false):left n S=left n (S.setIfInBounds i true)+1:=by
 refine ET _ _ i (by simp[h]) ?_ (fun k hk=> ?_) _ List.nodup_range (List.mem_range.2 hi)
 ·rw[uh,if_pos ⟨rfl,by omega⟩];rfl
 ·rw[uh,if_neg (fun e=>hk e.1.symm)]
theorem Vf {n:Nat} {S:Array Bool} (h:left n S=0): ∀i,i<n→S.getD i false=true:=fun i hi=>by
 have:=(List.countP_eq_zero.1 h) i (List.mem_range.2 hi)
 simpa using this
def qx:List Nat→List AV→List AV
 | [],T=>T
 | d::gS,T=>qx gS (T.set d .undef)
theorem xv: ∀(gS:List Nat) (T:List AV) (t:Nat),(t∈gS→(qx gS T).getD t .undef= .undef)∧(t ∉ gS→(qx gS T).getD t .undef=T.getD t .undef)
 | [],T,t=>⟨fun h=>(by cases h),fun _=>rfl⟩
 | d::gS,T,t=>by
  obtain⟨h1,h2⟩:=xv gS (T.set d .undef) t
  refine⟨fun h=> ?_,fun h=> ?_⟩
  ·by_cases aZ:t∈gS
   ·exact h1 aZ
   ·have e:t=d:=(List.mem_cons.1 h).resolve_right aZ
    show(qx gS (T.set d .undef)).getD t .undef= .undef
    rw[h2 aZ,n_]
    by_cases aE:d=t∧d<T.length
    ·rw[if_pos aE]
    ·rw[if_neg aE,List.getD_eq_getElem?_getD,List.getElem?_eq_none (by rcases Nat.lt_or_ge d T.length with q | q;exact absurd ⟨e.symm,q⟩ aE;omega)];rfl
  ·show(qx gS (T.set d .undef)).getD t .undef=_
   rw[h2 fun hm=>h (List.mem_cons_of_mem _ hm),n_,if_neg fun hm=>h (by rw[hm.1];exact List.mem_cons_self ..)]
section
variable {P:Program} {esc:List Nat} {ops:Array Oper} {ord:List Item} {A:Nat→List Nat} {Q:Exit→St→Prop} {bR:Env}
structure D5 [bZ] (P:Program) (esc:List Nat) (ops:Array Oper) (ord:List Item) (Q:Exit→St→Prop) (bR:Env) (S:Array Bool) (a:Act) (w:World) (pre post:List Item) (E:Env) (T:List AV) (L:List (Nat×List AV)) (H:List Blk):Prop where
 mQ:ord=pre++post
 vV: ∀x∈post,S.getD x.i false=false
 head: ∀x r,post=x::r→x.q=false
 Ae:hR P esc ops post T L H (fun T L H=>Q .normal ⟨T,L,H⟩)
 facts: ∀x∈pre,S.getD x.i false=false→x.q=true∧ ∃v run,rO P ops L H T (opI ops x.i) v run
 gx: ∀t,(∃x∈pre,S.getD x.i false=false∧(opI ops x.i).dst=some t)∨V3 E (T.getD t .undef) (a.tmps.getD t undef)
 size:T.length=a.tmps.size
 h:SimH E H
 l:SimL E L
 o_:Good bR E
 bp: ∀x∈ord,S.getD x.i false=false→mN (opI ops x.i)=true→x.q=true→ ∀d,(opI ops x.i).dst=some d→E.mL d=none
 zR:a.defers=[]
 w:E.w=w
theorem Kq {a:Act} {d:Option Nat} {u:Value} {t:Nat} (h:d≠some t):(a.put d u).tmps.getD t undef=a.tmps.getD t undef:=by
 cases d with
 | none=>rfl
 | some s=>
  show(a.tmps.setIfInBounds s u).getD t undef=_
  rw[Array.getD_eq_getD_getElem?,Array.getD_eq_getD_getElem?,Array.getElem?_setIfInBounds_ne (fun e=>h (by rw[e]))]
theorem Ks {a:Act} {d:Nat} {u:Value} (h:d<a.tmps.size):(a.put (some d) u).tmps.getD d undef=u:=by
 show(a.tmps.setIfInBounds d u).getD d undef=_
 rw[Array.getD_eq_getD_getElem?,Array.getElem?_setIfInBounds_self];simp[h]
theorem Kt (a:Act) (d:Option Nat) (u:Value):(a.put d u).tmps.size=a.tmps.size:=by
 cases d<;>simp[Act.put]
theorem Ko {a:Act} (d:Option Nat) (u:Value) (h:a.defers=[]):(a.put d u).defers=[]:=by
 cases d<;>exact h
theorem Nx {o:Oper} {a:Act} {T:List AV} {L:List (Nat×List AV)} {H:List Blk} {v:AV} {E:Env} (az:SimH E H) (bF:SimL E L) (aL:mN o=true) (ap: ∀d,o.dst=some d→E.mL d=none) (h:iY P o (bL T) L H (fun r=>r=v)):
  ∃t u E',V3 E' v u∧o.dst=some t∧Step E E'∧SimH E' H∧SimL E' L∧(∀s,s≠t→E'.mL s=E.mL s)∧True∧ ∀(next:Act→World→Prop) Q,next (a.put o.dst u) E'.w→o.wp P a E.w next Q:=by
 obtain⟨dst,op,ty,pos,after,guard⟩:=o
 cases op
 all_goals try (cases aL;done)
 rename_i e
 obtain⟨z,aH,h⟩:=ea (show Eh P e dst L (fun r=>r=v) from h)
 obtain⟨t,bt,h⟩:=ea h
 obtain⟨c,hc,h⟩:=ea h
 obtain⟨hs,h⟩:=mR h
 obtain⟨ag,cP⟩:=mR h
 have cP:AV.dZ t 0=v:=cP
 clear h
 subst cP
 have ag:=M8 ag
 subst ag
 obtain⟨i,rM,q1,q2,q3,q4⟩:=rL (E:=E) aH
 obtain⟨E',bi,e2,cE,gI,hl,_,mm⟩:=JF (ty:=e) az bF (ks.alloc E.w (.cells rM.cells e (0,0))) hc (ap t bt) (DH hs q4)
 refine⟨t,_,E',hl,bt,e2,cE,gI,mm,trivial,fun next Q hk=> ?_⟩
 unfold Oper.wp
 rw[show execOp a.eval ⟨dst,.alloc e,ty,pos,after,guard⟩=(do pure (Next.value (←Instr.alloc e true (.tuple #[])))) from rfl]
 refine DV (w':=E'.w) ?_ hk
 rw[bi]
 simp[Instr.alloc,zeroValue,typeInfo,q1,q2,newVar,newRow]
theorem OW [bZ] (D:we ops ord A): ∀(ho:Nat) (S:Array Bool) (a:Act) (w:World) (pre post:List Item) (E:Env) (T:List AV) (L:List (Nat×List AV)) (H:List Blk),
  S.size=ops.size→left ops.size S=ho→y3 ops S→D5 P esc ops ord Q bR S a w pre post E T L H→wpAny P .any ops (ku bR Q) ho S a w:=by
 have fin: ∀(S:Array Bool) (a:Act) (w:World) (pre post:List Item) (E:Env) (T:List AV) (L:List (Nat×List AV)) (H:List Blk),(∀i,i<ops.size→S.getD i false=true)→D5 P esc ops ord Q bR S a w pre post E T L H→ku bR Q .normal a w:=by
  intro S a w pre post E T L H ds I
  have ak:post=[]:=by
   cases post with
   | nil=>rfl
   | cons x r=>
    have h1:=I.vV x (List.mem_cons_self ..)
    rw[ds x.i (D.lt x (by rw[I.mQ];simp))] at h1;cases h1
  subst ak
  refine⟨rfl,⟨T,L,H⟩,E,I.Ae,I.w,I.o_,⟨I.h,I.l,fun t=> ?_,I.size⟩,I.zR⟩
  rcases I.gx t with⟨x,hx,hu,_⟩ | h
  ·rw[ds x.i (D.lt x (by rw[I.mQ];simp[hx]))] at hu;cases hu
  ·exact h
 intro ho
 induction ho with
 | zero=>
  intro S a w pre post E T L H hs hf hc I
  have ds:=Vf hf
  refine⟨?_,fin S a w pre post E T L H ds I⟩
  cases aw:Region.ready .any ops S with
  | nil=>rfl
  | cons i l=>
   have:=KM hs (i:=i) (by rw[aw];exact List.mem_cons_self ..)
   rw[ds i this.1] at this;cases this.2.1
 | succ ho bx=>
  intro S a w pre post E T L H hs hf hc I
  refine⟨fun aw=>fin S a w pre post E T L H (WW D hs aw) I,fun i hi=> ?_⟩
  obtain⟨aR,nC,po⟩:=KM hs hi
  have AK:=Nz D hs hc i _ (oD aR) po
  have F_:(S.setIfInBounds i true).size=ops.size:=by simpa using hs
  have xq:left ops.size (S.setIfInBounds i true)=ho:=by have:=Ve hs aR nC;omega
  have nu:y3 ops (S.setIfInBounds i true):=by
   intro j o aB aC e he hb
   rw[uh] at aC ⊢
   by_cases kC:i=j
   ·subst kC
    have:o=opI ops i:=by rw[oD aR] at aB;exact(Option.some.inj aB).symm
    subst this
    split
    ·rfl
    ·exact po e he hb
   ·rw[if_neg fun q=>kC q.1] at aC
    split
    ·rfl
    ·exact hc j o aB aC e he hb
  have C5: ∀j,(S.setIfInBounds i true).getD j false=false→S.getD j false=false∧j≠i:=fun j aC=>by
   rw[uh] at aC
   split at aC
   ·cases aC
   ·rename_i q;exact⟨aC,fun e=>q ⟨e.symm,by omega⟩⟩
  have vH: ∀j,j≠i→S.getD j false=false→(S.setIfInBounds i true).getD j false=false:=fun j aC h=>by
   rw[uh,if_neg fun q=>aC q.1.symm];exact h
  obtain⟨y,bm,jO⟩:=D.all i aR
  subst jO
  have jO:y.i=y.i:=rfl
  let gS:List Nat:=(pre.filter fun x=> !S.getD x.i false).filterMap fun x=>(opI ops x.i).dst
  have AU: ∀t,t∈gS↔ ∃x∈pre,S.getD x.i false=false∧(opI ops x.i).dst=some t:=fun t=>by
   simp only[gS,List.mem_filterMap,List.mem_filter,Bool.not_eq_true']
   constructor
   ·rintro⟨x,⟨h1,h2⟩,aJ⟩;exact⟨x,h1,h2,aJ⟩
   ·rintro⟨x,h1,h2,aJ⟩;exact⟨x,⟨h1,h2⟩,aJ⟩
  have bM: ∀t,V3 E ((qx gS T).getD t .undef) (a.tmps.getD t undef):=fun t=>by
   by_cases h:t∈gS
   ·rw[(xv gS T t).1 h];exact V3.undef _ _
   ·rw[(xv gS T t).2 h]
    exact(I.gx t).resolve_left fun q=>h ((AU t).2 q)
  have uF: ∀t∈(opI ops y.i).looksAt ops,t ∉ gS:=fun t bt hm=>by
   obtain⟨x,hx,hu,aZ⟩:=(AU t).1 hm
   have:=AK x.i (by rw[←jO];rw[←jO] at bt;exact D.ZJ y bm t bt x (by rw[I.mQ];simp[hx]) aZ)
   rw[this] at hu;cases hu
  have G1: ∀t∈(opI ops y.i).looksAt ops,V3 E (T.getD t .undef) (a.tmps.getD t undef):=fun t bt=>(I.gx t).resolve_left fun q=>uF t bt ((AU t).2 q)
  have Gd: ∀t∈(opI ops y.i).looksAt ops,(qx gS T).getD t .undef=T.getD t .undef:=fun t bt=>(xv gS T t).2 (uF t bt)
  have Eg: ∀E':Env,(∀t,(opI ops y.i).dst≠some t→E'.mL t=E.mL t)→ ∀x∈ord,(S.setIfInBounds y.i true).getD x.i false=false→mN (opI ops x.i)=true→x.q=true→ ∀d,(opI ops x.i).dst=some d→E'.mL d=none:=fun E' hml x hx hu aL R9 d aZ=>by
   obtain⟨pr,sD⟩:=C5 _ hu
   rw[hml d (D.apart.inj x hx y bm sD d aZ)]
   exact I.bp x hx pr aL R9 d aZ
  unfold wpOp
  rw[oD aR]
  simp only
  have pk:y∈pre∨y∈post:=by rw[I.mQ] at bm;exact List.mem_append.1 bm
  rcases pk with qG | qG
  ·
   obtain⟨ag,v,run,F⟩:=I.facts y qG (by rw[jO];exact nC)
   rw[jO] at F
   have hw:=F.b1 E a G1 I.size
   have next: ∀(u:Value) (E':Env),Step E E'→SimH E' H→SimL E' L→(∀t,(opI ops y.i).dst≠some t→E'.mL t=E.mL t)→V3 E' v u→wpAny P .any ops (ku bR Q) ho (S.setIfInBounds y.i true) (a.put (opI ops y.i).dst u) E'.w:=fun u E' a6 oj ol hml hv=>by
    refine bx _ _ _ pre post E' T L H F_ xq nu ⟨I.mQ,fun x hx=>vH _ (fun e=> ?_) (I.vV x hx),I.head,I.Ae,fun x hx hu=>I.facts x hx (C5 _ hu).1,fun t=> ?_,by rw[Kt];exact I.size,oj,ol,I.o_.step a6,Eg E' hml,Ko _ _ I.zR,rfl⟩
    ·have lY:=D.nodup
     rw[I.mQ,List.map_append,List.nodup_append] at lY
     exact lY.2.2 y.i (List.mem_map_of_mem qG) x.i (List.mem_map_of_mem hx) (by rw[jO,e])
    ·by_cases aZ:(opI ops y.i).dst=some t
     ·right
      rw[aZ]
      by_cases aE:t<T.length
      ·rw[F.put t aZ aE,Ks (by rw[←I.size];exact aE)];exact hv
      ·rw[List.getD_eq_getElem?_getD,List.getElem?_eq_none (Nat.not_lt.1 aE)];exact V3.undef _ _
     ·rcases I.gx t with⟨x,hx,hu,uQ⟩ | h
      ·exact .inl ⟨x,hx,vH _ (fun e=>aZ (by rw[←e];exact uQ)) hu,uQ⟩
      ·right;rw[Kq aZ];exact h.le a6.le
   cases run with
   | true=>
    rw[if_pos hw]
    refine .inl ?_
    have od:=F.n0 rfl
    cases AJ:mN (opI ops y.i) with
    | true=>
     obtain⟨t,u,E',hv,Q9,q1,q2,q3,q4,_,cr⟩:=Nx (P:=P) (a:=a) I.h I.l AJ (fun t bt=>I.bp y bm (by rw[jO];exact nC) AJ ag t bt) od
     rw[←I.w]
     exact cr _ _ (next u E' q1 q2 q3 (fun s hs=>q4 s fun e=>hs (by rw[Q9,e])) hv)
    | false=>
    rw[sf AJ,←Fi (ya Gd)] at od
    rw[←I.w]
    refine Oper.wp_mono (fun gB w' ⟨dx,u,E',he,e6,hqt,hv,aL⟩=> ?_) (Fk bM (Sub.refl L H) I.h I.l (w2 od))
    subst he;subst e6;subst aL
    exact next u E' hqt.step (hqt.simH I.h) (hqt.simL I.h I.l) (fun t _=>by rw[hqt.mL]) hv
   | false=>
    rw[if_neg (by rw[hw];simp)]
    have hv:=F.no rfl
    subst hv
    rw[←I.w]
    exact next undef E (Step.refl E) I.h I.l (fun _ _=>rfl) ⟨[],rfl,aK.nil⟩
  ·
   have oi: ∃r,post=y::r:=by
    cases ak:post with
    | nil=>rw[ak] at qG;cases qG
    | cons x r=>
     rw[ak] at qG
     rcases List.mem_cons.1 qG with rfl | Sb
     ·exact⟨r,rfl⟩
     ·have hb:=D.kw
      rw[I.mQ,ak] at hb
      have:=(hb.at (I.head x r ak)).1 y Sb
      rw[jO] at this
      have h1:=AK x.i this
      rw[I.vV x (by rw[ak];exact List.mem_cons_self ..)] at h1;cases h1
   obtain⟨r,RM⟩:=oi
   subst RM
   have ag:=I.head y r rfl
   have od:=I.Ae
   obtain⟨jH,run,mD,jv,hw,ey⟩:=FP (P:=P) od
   have hw:=hw E a G1 I.size
   have AL:=D.apart
   rw[I.mQ] at AL
   have GF:=jf.H8 AL
   have QZ:=(show pZ A [] (pre++y::r) from I.mQ▸D.kw).at ag
   have lY:=D.nodup
   rw[I.mQ,List.map_append,List.map_cons,List.nodup_append,List.nodup_cons] at lY
   have RJ: ∀x∈pre,S.getD x.i false=false→x.i∈y.hn:=fun x hx hu=>by
    rcases QZ.2 x (by simpa using hx) with h | h
    ·rw[jO] at h
     have:=AK x.i h
     rw[hu] at this;cases this
    ·exact h

   have next: ∀(v:AV) (u:Value) (L':List (Nat×List AV)) (H':List Blk) (E':Env),Step E E'→SimH E' H'→SimL E' L'→(∀t,(opI ops y.i).dst≠some t→E'.mL t=E.mL t)→V3 E' v u→hR P esc ops r (putA jH (opI ops y.i).dst v) L' H' (fun T L H=>Q .normal ⟨T,L,H⟩)→
     (∀x∈pre,S.getD x.i false=false→ ∃v run,rO P ops L' H' jH (opI ops x.i) v run)→
     wpAny P .any ops (ku bR Q) ho (S.setIfInBounds y.i true) (a.put (opI ops y.i).dst u) E'.w:=by
    intro v u L' H' E' a6 az bF hml hv hK Rg
    obtain⟨Cx,Wn,lL,Bc,RH,RL,Rb,hlen,fx,uy⟩:=C1 r _ (jf.tail (p:=[y]) (jf.tail AL)) hK
    have Bd: ∀z∈Cx,z∈r:=fun z aH=>by rw[Bc];exact List.mem_append_left _ aH
    have Ga: ∀t,(∀z∈y::r,(opI ops z.i).dst≠some t)→lL.getD t .undef=jH.getD t .undef:=fun t bt=>by
     rw[fx t fun z aH=>bt z (List.mem_cons_of_mem _ (Bd z aH)),yi (bt y (List.mem_cons_self ..))]
    refine bx _ _ _ (pre++y::Cx) Wn E' lL L' H' F_ xq nu ⟨by rw[I.mQ,Bc];simp,fun x hx=> ?_,RL,Rb,fun x hx hu=> ?_,fun t=> ?_,by rw[Kt,hlen,s_,mD];exact I.size,az,bF,I.o_.step a6,Eg E' hml,Ko _ _ I.zR,rfl⟩
    ·have xM:x∈r:=by rw[Bc];exact List.mem_append_right _ hx
     exact vH _ (fun e=>lY.2.1.1 (by rw[jO,←e];exact List.mem_map_of_mem xM)) (I.vV x (List.mem_cons_of_mem _ xM))
    ·obtain⟨pr,sD⟩:=C5 _ hu
     rcases List.mem_append.1 hx with hx | hx
     ·refine⟨(I.facts x hx pr).1,?_⟩
      obtain⟨dx,run',F⟩:=Rg x hx pr
      refine⟨dx,run',F.mono (by rw[hlen,s_]) (fun t bt=>Ga t fun z aH=>(GF x hx).1 t bt z aH) fun d aZ=>Ga d fun z aH=>(GF x hx).2 d aZ z aH⟩
     ·rcases List.mem_cons.1 hx with rfl | hx
      ·exact absurd jO sD
      ·exact⟨RH x hx,uy x hx⟩
    ·by_cases qp: ∃z∈Cx,(opI ops z.i).dst=some t
     ·obtain⟨z,aH,mJ⟩:=qp
      refine .inl ⟨z,by simp[aH],vH _ (fun e=>lY.2.1.1 (by rw[jO,←e];exact List.mem_map_of_mem (Bd z aH))) (I.vV z (List.mem_cons_of_mem _ (Bd z aH))),mJ⟩
     ·have bi:=fx t fun z aH q=>qp ⟨z,aH,q⟩
      by_cases aZ:(opI ops y.i).dst=some t
      ·right
       rw[jO] at aZ bi
       rw[bi,aZ]
       by_cases aE:t<jH.length
       ·rw[Kl aE,Ks (by rw[←I.size,←mD];exact aE)];exact hv
       ·rw[List.getD_eq_getElem?_getD,List.getElem?_eq_none (by rw[s_];exact Nat.not_lt.1 aE)];exact V3.undef _ _
      ·rw[yi aZ,jv] at bi
       rcases I.gx t with⟨x,hx,hu,uQ⟩ | h
       ·refine .inl ⟨x,by simp[hx],vH _ (fun e=>aZ (by rw[jO,←e];exact uQ)) hu,uQ⟩
       ·right;rw[bi,Kq (by rw[←jO];exact aZ)];exact h.le a6.le
   cases run with
   | true=>
    rw[if_pos hw]
    refine .inl ?_
    have ey:(match y.q with
     | true=>_
     | false=>hQ P esc (opI ops y.i) (bL jH) L H fun v L' H'=>n9 P ops y.hn jH L' H'∧hR P esc ops r (putA jH (opI ops y.i).dst v) L' H' (fun T L H=>Q .normal ⟨T,L,H⟩)):=ey
    rw[ag] at ey
    have ey:hQ P esc (opI ops y.i) (bL jH) L H fun v L' H'=>n9 P ops y.hn jH L' H'∧hR P esc ops r (putA jH (opI ops y.i).dst v) L' H' (fun T L H=>Q .normal ⟨T,L,H⟩):=ey
    rw[←Pe (ya fun t bt=>(Gd t bt).trans (jv t).symm)] at ey
    rw[←I.w]
    refine Oper.wp_mono (fun gB w' ⟨v,u,L',H',E',⟨mA,hK⟩,e6,q1,q2,q3,q4,aL,hml⟩=> ?_) (evOp_sound bM I.h I.l ey)
    subst e6;subst aL
    refine next v u L' H' E' q1 q2 q3 hml q4 hK fun x hx hu=> ?_
    obtain⟨f1,f2,f3⟩:=FC mA x.i (RJ x hx hu)
    refine⟨_,true,⟨fun E a hs aH=> ?_,fun _=>f3,fun e=>(by cases e),fun d aZ aR=> ?_⟩⟩
    ·unfold Region.wanted
     cases uA:(opI ops x.i).guard with
     | none=>rfl
     | some g=>rw[uA] at f1;cases f1
    ·unfold o1;rw[aZ]
   | false=>
    rw[if_neg (by rw[hw];simp)]
    rw[←I.w]
    refine next (.tup []) undef L H E (Step.refl E) I.h I.l (fun _ _=>rfl) ⟨[],rfl,aK.nil⟩ ey fun x hx hu=> ?_
    obtain⟨_,dx,run',F⟩:=I.facts x hx hu
    exact⟨dx,run',F.mono mD (fun t _=>jv t) fun d _=>jv d⟩
end
def wy (ops:Array Oper):List Item→Bool
 | []=>true
 | x::r=>((opI ops x.i).looksAt ops).all (fun t=>(x::r).all fun y=>(opI ops y.i).dst !=some t)&&(match(opI ops x.i).dst with
  | some d=>r.all fun y=>(opI ops y.i).dst !=some d
  | none=>true)&&wy ops r
theorem Er {ops:Array Oper}: ∀{l:List Item},wy ops l=true→jf ops l
 | [],_=>trivial
 | x::r,h=>by
  simp only[wy,Bool.and_eq_true] at h
  obtain⟨⟨h1,h2⟩,aJ⟩:=h
  refine⟨fun t bt y bm=> ?_,fun d aZ y bm=> ?_,Er aJ⟩
  ·have:=List.all_eq_true.1 (List.all_eq_true.1 h1 t bt) y bm
   simpa using this
  ·rw[aZ] at h2
   have:=List.all_eq_true.1 h2 y bm
   simpa using this
def wC (A:Nat→List Nat):List Item→List Item→Bool
 | _,[]=>true
 | p,h::r=>(h.q || (r.all (fun y=>(A y.i).contains h.i)&&p.all fun x=>(A h.i).contains x.i || h.hn.contains x.i))&&wC A (p++[h]) r
theorem Ev {A:Nat→List Nat}: ∀{l p:List Item},wC A p l=true→pZ A p l
 | [],_,_=>trivial
 | h::r,p,hb=>by
  simp only[wC,Bool.and_eq_true] at hb
  refine⟨fun ag=> ?_,Ev hb.2⟩
  have h1:=hb.1
  rw[ag,Bool.false_or,Bool.and_eq_true] at h1
  refine⟨fun y bm=>by simpa using List.all_eq_true.1 h1.1 y bm,fun x hx=> ?_⟩
  have:=List.all_eq_true.1 h1.2 x hx
  simpa using this
def x7:List Nat→Bool
 | []=>true
 | x::r=> !r.contains x&&x7 r
theorem JI: ∀{l:List Nat},x7 l=true→l.Nodup
 | [],_=>List.nodup_nil
 | x::r,h=>by
  simp only[x7,Bool.and_eq_true] at h
  rw[List.nodup_cons]
  exact⟨by simpa using h.1,JI h.2⟩
def r_ (ops:Array Oper) (ord:List Item) (A:Nat→List Nat):Bool:=
 (List.range ops.size).all (fun i=>(opI ops i).after.toList.all (fun e=> !Region.binds .any e || decide (e.on<i))&&(A i).all fun a=>(opI ops i).after.toList.any fun e=>Region.binds .any e&&(a==e.on || (A e.on).contains a))&&
 (List.range ops.size).all (fun i=>ord.any fun x=>x.i==i)&&ord.all (fun x=>decide (x.i<ops.size))&&x7 (ord.map (·.i))&&
 ord.all (fun x=>((opI ops x.i).looksAt ops).all fun t=>ord.all fun y=>(opI ops y.i).dst !=some t || (A x.i).contains y.i)&&wy ops ord&&wC A [] ord
theorem OX {ops:Array Oper} {ord:List Item} {A:Nat→List Nat} (gC: ∀i,ops.size≤i→A i=[]) (h:r_ ops ord A=true):we ops ord A:=by
 simp only[r_,Bool.and_eq_true] at h
 obtain⟨⟨⟨⟨⟨⟨h1,h2⟩,aJ⟩,bj⟩,cP⟩,eg⟩,j8⟩:=h
 have get: ∀i o,ops[i]?=some o→i<ops.size∧o=opI ops i:=fun i o aB=>by
  have aR:i<ops.size:=by
   rcases Nat.lt_or_ge i ops.size with h | h
   ·exact h
   ·rw[Array.getElem?_eq_none h] at aB;cases aB
  rw[oD aR] at aB
  exact⟨aR,(Option.some.inj aB).symm⟩
 refine⟨fun i o aB e he hb=> ?_,fun i o aB a aL=> ?_,fun i hi=> ?_,fun x hx=> ?_,JI bj,fun x hx t bt y bm aZ=> ?_,Er eg,Ev j8⟩
 ·obtain⟨aR,rfl⟩:=get i o aB
  have:=List.all_eq_true.1 h1 i (List.mem_range.2 aR)
  rw[Bool.and_eq_true] at this
  have:=List.all_eq_true.1 this.1 e (by simpa using he)
  rw[hb] at this;simpa using this
 ·obtain⟨aR,rfl⟩:=get i o aB
  have:=List.all_eq_true.1 h1 i (List.mem_range.2 aR)
  rw[Bool.and_eq_true] at this
  have:=List.all_eq_true.1 this.2 a aL
  obtain⟨e,he,hc⟩:=List.any_eq_true.1 this
  rw[Bool.and_eq_true] at hc
  exact⟨e,by simpa using he,hc.1,by simpa using hc.2⟩
 ·obtain⟨x,hx,hc⟩:=List.any_eq_true.1 (List.all_eq_true.1 h2 i (List.mem_range.2 hi))
  exact⟨x,hx,by simpa using hc⟩
 ·simpa using List.all_eq_true.1 aJ x hx
 ·have:=List.all_eq_true.1 (List.all_eq_true.1 (List.all_eq_true.1 cP x hx) t bt) y bm
  rw[Bool.or_eq_true] at this
  rcases this with h | h
  ·rw[aZ] at h;simp at h
  ·simpa using h
def tQ (hP:List (List Nat)) (i:Nat):List Nat:=hP.getD i []
theorem Env.E2 (E:Env):Step E {E with w:=E.w.drew}:=
 ⟨⟨fun _ h=>h,fun _ h=>h,fun _ _=>rfl,fun _ _=>rfl,fun _=>Nat.le_refl _,fun _ _ h _=>⟨h,rfl,rfl⟩,fun _ _ h=>h⟩,rfl,rfl,rfl,Nat.le_refl _,fun _ _ _ _=>rfl,fun _ _ h=> .inl h,fun _ h=> .inl h,fun _ h=> .inl h,fun _ h=> .inl h⟩
theorem O0 {E:Env} {H:List Blk} (h:SimH E H):SimH {E with w:=E.w.drew} H:=
 {h with
  heap:=fun b c hb=>by
   obtain⟨blk,aM,ty,q1,cj,q2,q3,q4,cw,cr⟩:=h.heap b c hb
   exact⟨blk,aM,ty,q1,cj,q2,q3,q4,cw,fun i j row a aw aC=>by obtain⟨u,hu,hv⟩:=cr i j row a aw aC;exact⟨u,hu,hv.le (Env.E2 E).le.bG⟩⟩}
theorem Vd (n:Nat):left n (Array.replicate n false)=n:=by
 unfold left
 have:(List.range n).countP (fun j=> !(Array.replicate n false).getD j false)=(List.range n).countP (fun _=>true):=by
  refine List.countP_congr fun x hx=> ?_
  rw[Array.getD_eq_getD_getElem?,Array.getElem?_replicate]
  split<;>simp
 rw[this,List.countP_true,List.length_range]
def qd:List (Nat×List AV)→List (Nat×List AV)→Bool
 | [],_=>true
 | (t,_)::r,L=>(dm L t).isNone&&qd r L
def p5 (ops:Array Oper) (L:List (Nat×List AV)):List Item→Bool
 | []=>true
 | x::r=>(match x.q&&mN (opI ops x.i) with
  | false=>true
  | true=>match(opI ops x.i).dst with
   | none=>true
   | some d=>(dm L d).isNone)&&p5 ops L r
theorem FH {E:Env} {L:List (Nat×List AV)} (bF:SimL E L): ∀{gA:List (Nat×List AV)},qd gA L=true→SimL E (gA++L)
 | [],_=>bF
 | (t,c)::r,h=>by
  simp only[qd,Bool.and_eq_true,Option.isNone_iff_eq_none] at h
  exact(FH bF h.2).cons (bF.none h.1)
theorem Ei {ops:Array Oper} {E:Env} {L:List (Nat×List AV)} (bF:SimL E L): ∀{l:List Item},p5 ops L l=true→ ∀x∈l,mN (opI ops x.i)=true→x.q=true→ ∀d,(opI ops x.i).dst=some d→E.mL d=none
 | [],_,x,hx,_,_,_,_=>by cases hx
 | y::r,h,x,hx,aL,ag,d,aZ=>by
  simp only[p5,Bool.and_eq_true] at h
  rcases List.mem_cons.1 hx with rfl | hx
  ·have h1:=h.1
   rw[ag,aL] at h1
   simp only[Bool.and_self] at h1
   rw[aZ] at h1
   exact bF.none (by simpa using h1)
  ·exact Ei bF h.2 x hx aL ag d aZ
theorem WpS.KP [bZ] {P:Program} {esc:List Nat} {c:Code} {id:Nat} {ops:Array Oper} {Q:Exit→St→Prop} {T:List AV} {L:List (Nat×List AV)} {H:List Blk} (ord:List Item) (hP:List (List Nat)) (hm:P.follows .mixedOrders=true)
  (aE:hP.length=ops.size) (aZ:r_ ops ord (tQ hP)=true) (e:c= .region id ops true) (gA:List (Nat×List AV)) (hf:qd gA L=true) (aH:p5 ops L ord=true) (h:hR P esc ops ord T (gA++L) H (fun T L H=>Q .normal ⟨T,L,H⟩)):WpS P c Q ⟨T,L,H⟩:=by
 subst e
 intro bR E a g s d
 have D:=OX (fun i hi=>by unfold tQ;rw[List.getD_eq_getElem?_getD,List.getElem?_eq_none (by omega)];rfl) aZ
 refine wp_region_any hm ?_
 obtain⟨pre,post,lL,aw,ak,RK,od,hlen,fx,uy⟩:=C1 ord T D.apart h
 have nC: ∀j,(Array.replicate ops.size false).getD j false=false:=fun j=>by
  rw[Array.getD_eq_getD_getElem?,Array.getElem?_replicate];split<;>rfl
 have a6:=Env.E2 E
 have hw:(show World from{E.w with drawn:=E.w.drawn+1})=({E with w:=E.w.drew}:Env).w:=rfl
 refine OW D ops.size _ a _ pre post {E with w:=E.w.drew} lL (gA++L) H (by simp) (Vd _) (fun i o aB aC=> ?_) ⟨aw,fun x hx=>nC _,RK,od,fun x hx _=>⟨ak x hx,uy x hx⟩,fun t=> ?_,by rw[hlen];exact s.size,O0 s.h,FH ?_ hf,g.step a6,fun x hx _ aL ag d aZ=>Ei s.l aH x hx aL ag d aZ,d,rfl⟩
 ·rw[nC] at aC;cases aC
 ·by_cases qp: ∃z∈pre,(opI ops z.i).dst=some t
  ·obtain⟨z,aH,mJ⟩:=qp
   exact .inl ⟨z,aH,nC _,mJ⟩
  ·right
   rw[fx t fun z aH q=>qp ⟨z,aH,q⟩]
   exact(s.gx t).le a6.le
 ·intro t c hm
  obtain⟨cells,aM,ty,q1,q2,q3⟩:=s.l t c hm
  exact⟨cells,aM,ty,q1,q2,q3.mono fun _ _ k=>k.le a6.le.bG⟩
theorem Cn {φ ψ:Prop} (e:φ=ψ) (h:ψ):φ:=e▸h
def uY (ops:Array Oper):List (Oper×Bool):=ops.toList.map fun o=>(o,true)
theorem WpS.KQ [bZ] {P:Program} {esc:List Nat} {c:Code} {id:Nat} {ops:Array Oper} {Q:Exit→St→Prop} {T:List AV} {L:List (Nat×List AV)} {H:List Blk} (e:c= .region id ops false)
  (h:evOps P esc ops (uY ops) T L H (fun T L H=>Q .normal ⟨T,L,H⟩)):WpS P c Q ⟨T,L,H⟩:=by
 subst e
 intro bR E a g s d
 refine wp_region_list ?_
 have:=w1 (uY ops) T L H E a g s d h
 have e2:(uY ops).map (·.1)=ops.toList:=by
  unfold uY;rw[List.map_map];exact List.map_id' _
 rwa [e2] at this
section
variable {P:Program} {esc:List Nat} {ops:Array Oper} {l l':List Item} {T T':List AV} {L L':List (Nat×List AV)} {H H':List Blk} {K:List AV→List (Nat×List AV)→List Blk→Prop}
end
def eL:List (Nat×AV)→Nat→AV
 | [],_=> .undef
 | (k,v)::r,t=>match Nat.beq k t with
  | true=>v
  | false=>eL r t
def jr:List (Nat×AV)→Nat→List (Nat×AV)
 | [],_=>[]
 | (k,v)::r,t=>match Nat.beq k t with
  | true=>jr r t
  | false=>(k,v)::jr r t
def dw (n:Nat):List (Nat×AV)→Bool
 | []=>true
 | (k,_)::r=>match Nat.blt k n with
  | true=>dw n r
  | false=>false
@[irreducible] def bq (n:Nat) (A:List (Nat×AV)):List AV:=(List.range n).map (eL A)
def lu (n:Nat) (A:List (Nat×AV)) (dst:Option Nat) (v:AV):List (Nat×AV):=match dst with
 | none=>A
 | some d=>match Nat.blt d n with
  | true=>(d,v)::jr A d
  | false=>A
def mS (A:List (Nat×AV)):Operand→AV
 | .tmp t=>eL A t
 | .const v=>lS v
 | .func f=> .fn f []
 | .global _=> .undef
theorem Vx (A:List (Nat×AV)) (d t:Nat):eL (jr A d) t=if d=t then .undef else eL A t:=by
 induction A with
 | nil=>simp[jr,eL]
 | cons p r bx=>
  obtain⟨k,v⟩:=p
  have xC:eL ((k,v)::r) t=match Nat.beq k t with
   | true=>v
   | false=>eL r t:=rfl
  rw[xC]
  cases h1:Nat.beq k d with
  | true=>
   have bi:=Nat.eq_of_beq_eq_true h1
   rw[show jr ((k,v)::r) d=jr r d by simp[jr,h1],bx]
   subst bi
   cases h2:Nat.beq k t with
   | true=>have e2:=Nat.eq_of_beq_eq_true h2;simp[e2]
   | false=>rfl
  | false=>
   rw[show jr ((k,v)::r) d=(k,v)::jr r d by simp[jr,h1],show eL ((k,v)::jr r d) t=match Nat.beq k t with
    | true=>v
    | false=>eL (jr r d) t from rfl]
   cases h2:Nat.beq k t with
   | true=>
    have e2:=Nat.eq_of_beq_eq_true h2
    have: ¬d=t:=fun e=>by subst e;subst e2;rw[Nat.beq_refl] at h1;cases h1
    simp[this]
   | false=>simp only;rw[bx]
theorem Jr {n:Nat}: ∀{A:List (Nat×AV)} {t:Nat},dw n A=true→n≤t→eL A t= .undef
 | [],t,_,_=>rfl
 | (k,v)::r,t,h,bt=>by
  unfold dw at h
  split at h
  ·rename_i hk
   have hk:k<n:=by rw[←Nat.blt_eq];exact hk
   unfold eL
   cases h2:Nat.beq k t with
   | true=>have:=Nat.eq_of_beq_eq_true h2;omega
   | false=>exact Jr h bt
  ·cases h
theorem Cd {n d:Nat}: ∀{A:List (Nat×AV)},dw n A=true→dw n (jr A d)=true
 | [],h=>rfl
 | (k,v)::r,h=>by
  unfold dw at h
  split at h
  ·rename_i hk
   unfold jr
   split
   ·exact Cd h
   ·unfold dw;rw[hk];exact Cd h
  ·cases h
theorem Ce {n:Nat} {A:List (Nat×AV)} (h:dw n A=true) (dst:Option Nat) (v:AV):dw n (lu n A dst v)=true:=by
 unfold lu
 split
 ·exact h
 ·split
  ·rename_i aZ;unfold dw;rw[aZ];exact Cd h
  ·exact h
theorem pA (n:Nat) (A:List (Nat×AV)):(bq n A).length=n:=by unfold bq;simp
theorem nJ {n:Nat} {A:List (Nat×AV)} (h:dw n A=true) (t:Nat):(bq n A).getD t .undef=eL A t:=by
 unfold bq
 rw[List.getD_eq_getElem?_getD,List.getElem?_map]
 rcases Nat.lt_or_ge t n with aR | eK
 ·rw[List.getElem?_range aR];rfl
 ·rw[List.getElem?_eq_none (by simpa using eK),Jr h eK];rfl
theorem Cf {n:Nat} {A:List (Nat×AV)} (dst:Option Nat) (v:AV):putA (bq n A) dst v=bq n (lu n A dst v):=by
 cases dst with
 | none=>rfl
 | some d=>
  show(bq n A).set d v=bq n (match Nat.blt d n with
   | true=>(d,v)::jr A d
   | false=>A)
  cases aZ:Nat.blt d n with
  | true=>
   apply List.ext_getElem?
   intro t
   unfold bq
   rw[List.getElem?_set]
   simp only[List.length_map,List.length_range,List.getElem?_map]
   rcases Nat.lt_or_ge t n with aR | eK
   ·rw[List.getElem?_range aR]
    by_cases he:d=t
    ·subst he;simp[aR,eL]
    ·have hb:Nat.beq d t=false:=by
      cases ag:Nat.beq d t with
      | true=>exact absurd (Nat.eq_of_beq_eq_true ag) he
      | false=>rfl
     simp[he,eL,hb,Vx]
   ·rw[List.getElem?_eq_none (l:=List.range n) (by simpa using eK)]
    by_cases he:d=t
    ·subst he;simp[Nat.not_lt.2 eK]
    ·simp[he]
  | false=>
   have: ¬d<n:=fun h=>by rw[←Nat.blt_eq,aZ] at h;cases h
   exact List.set_eq_of_length_le (by rw[pA];omega)
theorem x2 {n:Nat} {A:List (Nat×AV)} (h:dw n A=true):bL (bq n A)=mS A:=by
 funext o
 cases o with
 | tmp t=>exact nJ h t
 | _=>rfl
theorem Jz {n:Nat} {A:List (Nat×AV)} (h:dw n A=true) {t:Nat} {b:Bool} (hb:eL A t= .bool b):(bq n A).set t (.bool b)=bq n A:=by
 apply List.ext_getElem?
 intro s
 rw[List.getElem?_set]
 by_cases he:t=s
 ·subst he
  rw[if_pos rfl]
  rcases Nat.lt_or_ge t n with aR | eK
  ·rw[if_pos (by rw[pA];exact aR)]
   unfold bq
   rw[List.getElem?_map,List.getElem?_range aR]
   show _=some (eL A t)
   rw[hb]
  ·rw[if_neg (by rw[pA];omega),List.getElem?_eq_none (by rw[pA];omega)]
 ·rw[if_neg he]
def o9 (ops:Array Oper) (o:Oper) (A:List (Nat×AV)) (x y:Prop):Prop:=match o.guard with
 | none=>x
 | some (j,b1)=>match(ops[j]?).bind (·.dst) with
  | none=>False
  | some t=>match eL A t with
   | .bool b=>(match b with
    | true=>(match b1 with
     | true=>x
     | false=>y)
    | false=>(match b1 with
     | true=>y
     | false=>x))
   | .tup []=>y
   | _=>False
theorem FN {ops:Array Oper} {o:Oper} {n:Nat} {A:List (Nat×AV)} (h:dw n A=true) {x y:List AV→Prop}:lc ops true o (bq n A) x y=o9 ops o A (x (bq n A)) (y (bq n A)):=by
 unfold lc o9
 cases o.guard with
 | none=>rfl
 | some g=>
  obtain⟨j,b1⟩:=g
  simp only
  cases(ops[j]?).bind (·.dst) with
  | none=>rfl
  | some t=>
   simp only
   rw[nJ h t]
   cases hb:eL A t with
   | bool b=>
    cases b with
    | true=>simp only[mi];rw[Jz h hb];cases b1<;>rfl
    | false=>simp only[mi];rw[Jz h hb];cases b1<;>rfl
   | tup l=>cases l<;>rfl
   | _=>rfl
def evS (P:Program) (esc:List Nat) (ops:Array Oper) (n:Nat):List Oper→List (Nat×AV)→List (Nat×List AV)→List Blk→(List (Nat×AV)→List (Nat×List AV)→List Blk→Prop)→Prop
 | [],A,L,H,K=>K A L H
 | o::rest,A,L,H,K=>o9 ops o A
   (match o.op with
    | .pick c x y=>lP (mS A c) fun z=>(match z with
     | true=>evS P esc ops n rest (lu n A o.dst (mS A x)) L H K
     | false=>evS P esc ops n rest (lu n A o.dst (mS A y)) L H K)
    | _=>hQ P esc o (mS A) L H fun v L' H'=>evS P esc ops n rest (lu n A o.dst v) L' H' K)
   (evS P esc ops n rest (lu n A o.dst (.tup [])) L H K)
theorem Ag {P:Program} {esc:List Nat} {ops:Array Oper} {n:Nat} {K:List AV→List (Nat×List AV)→List Blk→Prop}: ∀(l:List Oper) (A:List (Nat×AV)) (L:List (Nat×List AV)) (H:List Blk),dw n A=true→
  evOps P esc ops (l.map fun o=>(o,true)) (bq n A) L H K=evS P esc ops n l A L H fun A L H=>K (bq n A) L H
 | [],A,L,H,h=>rfl
 | o::rest,A,L,H,h=>by
  show lc ops true o (bq n A) _ _=_
  rw[FN h]
  show o9 ops o A _ _=o9 ops o A _ _
  have e2:evOps P esc ops (rest.map fun o=>(o,true)) (putA (bq n A) o.dst (.tup [])) L H K=evS P esc ops n rest (lu n A o.dst (.tup [])) L H fun A L H=>K (bq n A) L H:=by
   rw[Cf,Ag rest _ _ _ (Ce h _ _)]
  have Aa: ∀v L H,evOps P esc ops (rest.map fun o=>(o,true)) (putA (bq n A) o.dst v) L H K=evS P esc ops n rest (lu n A o.dst v) L H fun A L H=>K (bq n A) L H:=fun v L H=>by
   rw[Cf,Ag rest _ _ _ (Ce h _ _)]
  rw[e2]
  congr 1
  unfold q0
  rw[x2 h]
  cases ew:o.op<;>simp only[Aa]
  case pick c x y=>
   unfold lP
   cases mS A c<;>first | rfl | (rename_i z;cases z<;>rfl)
theorem WpS.yv [bZ] {P:Program} {esc:List Nat} {c:Code} {id n:Nat} {ops:Array Oper} {Q:Exit→St→Prop} {A:List (Nat×AV)} {L:List (Nat×List AV)} {H:List Blk} (e:c= .region id ops false) (ap:dw n A=true)
  (h:evS P esc ops n (ops.toList.drop 0) A L H (fun A L H=>Q .normal ⟨bq n A,L,H⟩)):WpS P c Q ⟨bq n A,L,H⟩:=
 WpS.KQ (esc:=esc) e (by unfold uY;rw[Ag _ _ _ _ ap];exact h)
def zV (o:Oper) (A:List (Nat×AV)):AV:=match o.dst with
 | some d=>eL A d
 | none=> .undef
def si (P:Program) (ops:Array Oper):List Nat→List (Nat×AV)→List (Nat×List AV)→List Blk→Prop
 | [],_,_,_=>True
 | i::r,A,L,H=>((opI ops i).guard.isNone=true∧(opI ops i).dst.isSome=true∧iY P (opI ops i) (mS A) L H (fun v=>v=zV (opI ops i) A))∧si P ops r A L H
def evSD (P:Program) (esc:List Nat) (ops:Array Oper) (n:Nat):List Item→List (Nat×AV)→List (Nat×List AV)→List Blk→(List (Nat×AV)→List (Nat×List AV)→List Blk→Prop)→Prop
 | [],A,L,H,K=>K A L H
 | x::rest,A,L,H,K=>o9 ops (opI ops x.i) A
   (match x.q with
    | true=>iY P (opI ops x.i) (mS A) L H fun v=>evSD P esc ops n rest (lu n A (opI ops x.i).dst v) L H K
    | false=>hQ P esc (opI ops x.i) (mS A) L H fun v L' H'=>si P ops x.hn A L' H'∧evSD P esc ops n rest (lu n A (opI ops x.i).dst v) L' H' K)
   (evSD P esc ops n rest (lu n A (opI ops x.i).dst (.tup [])) L H K)
theorem FD {P:Program} {ops:Array Oper} {n:Nat} {A:List (Nat×AV)} {L:List (Nat×List AV)} {H:List Blk} (h:dw n A=true): ∀l:List Nat,n9 P ops l (bq n A) L H=si P ops l A L H
 | []=>rfl
 | i::r=>by
  show(_∧_)=(_∧_)
  rw[FD h r,x2 h]
  have:o1 (opI ops i) (bq n A)=zV (opI ops i) A:=by
   unfold o1 zV
   cases(opI ops i).dst with
   | none=>rfl
   | some d=>exact nJ h d
  rw[this]
theorem Fg {P:Program} {esc:List Nat} {ops:Array Oper} {n:Nat} {K:List AV→List (Nat×List AV)→List Blk→Prop}: ∀(l:List Item) (A:List (Nat×AV)) (L:List (Nat×List AV)) (H:List Blk),l.all (·.lit)=true→dw n A=true→
  hR P esc ops l (bq n A) L H K=evSD P esc ops n l A L H fun A L H=>K (bq n A) L H
 | [],A,L,H,aE,h=>rfl
 | x::rest,A,L,H,aE,h=>by
  simp only[List.all_cons,Bool.and_eq_true] at aE
  show lc ops x.lit (opI ops x.i) (bq n A) _ _=_
  rw[aE.1,FN h]
  show o9 ops (opI ops x.i) A _ _=o9 ops (opI ops x.i) A _ _
  have Aa: ∀v L H,hR P esc ops rest (putA (bq n A) (opI ops x.i).dst v) L H K=evSD P esc ops n rest (lu n A (opI ops x.i).dst v) L H fun A L H=>K (bq n A) L H:=fun v L H=>by
   rw[Cf,Fg rest _ _ _ aE.2 (Ce h _ _)]
  simp only[Aa,x2 h,FD h]
  first
  | done
  | (cases x.q<;>rfl)
theorem WpS.W2 [bZ] {P:Program} {esc:List Nat} {c:Code} {id n:Nat} {ops:Array Oper} {Q:Exit→St→Prop} {A:List (Nat×AV)} {L:List (Nat×List AV)} {H:List Blk} (ord:List Item) (hP:List (List Nat)) (hm:P.follows .mixedOrders=true)
  (aE:hP.length=ops.size) (aZ:r_ ops ord (tQ hP)=true) (A4:ord.all (·.lit)=true) (e:c= .region id ops true) (ap:dw n A=true) (gA:List (Nat×List AV)) (hf:qd gA L=true) (aH:p5 ops L ord=true) (h:evSD P esc ops n (ord.drop 0) A (gA++L) H (fun A L H=>Q .normal ⟨bq n A,L,H⟩)):WpS P c Q ⟨bq n A,L,H⟩:=
 WpS.KP (esc:=esc) ord hP hm aE aZ e gA hf aH (by rw[Fg _ _ _ _ A4 ap];exact h)
theorem Weak.gx [bZ] {T T':List AV} {L:List (Nat×List AV)} {H:List Blk} (aE:T'.length=T.length) (h: ∀t,T'.getD t .undef=T.getD t .undef∨T'.getD t .undef= .undef):Weak ⟨T,L,H⟩ ⟨T',L,H⟩:=fun bR E tmps g s=>
 ⟨E,rfl,g,s.h,s.l,fun t=>by
  show V3 E (T'.getD t .undef) _
  rcases h t with e | e<;>rw[e]
  ·exact s.gx t
  ·exact V3.undef _ _,by show T'.length=_;rw[aE];exact s.size⟩
def kJ (A:List (Nat×AV)):List (Nat×AV)→List (Nat×AV)
 | []=>[]
 | (k,_)::r=>(k,eL A k)::kJ A r
theorem Cb {A:List (Nat×AV)}: ∀(B:List (Nat×AV)) (t:Nat),eL (kJ A B) t=eL A t∨eL (kJ A B) t= .undef
 | [],t=> .inr rfl
 | (k,v)::r,t=>by
  show(match Nat.beq k t with
   | true=>eL A k
   | false=>eL (kJ A r) t)=eL A t∨_
  cases h:Nat.beq k t with
  | true=>have:=Nat.eq_of_beq_eq_true h;subst this;exact .inl rfl
  | false=>
   rcases Cb r t with e | e
   ·exact .inl e
   ·right;show(match Nat.beq k t with
     | true=>eL A k
     | false=>eL (kJ A r) t)=_
    rw[h];exact e
def uZ (cc:List Nat):List (Nat×AV)→Bool
 | []=>true
 | (_,v)::r=>l1 cc v&&uZ cc r
theorem Jt {cc:List Nat}: ∀{A:List (Nat×AV)},uZ cc A=true→ ∀t,l1 cc (eL A t)=true
 | [],h,t=>rfl
 | (k,v)::r,h,t=>by
  simp only[uZ,Bool.and_eq_true] at h
  unfold eL
  cases Nat.beq k t with
  | true=>exact h.1
  | false=>exact Jt h.2 t
theorem ZS [bZ] {n:Nat} {A A':List (Nat×AV)} {L L':List (Nat×List AV)} {H:List Blk} (cc:List Nat) (gC:dw n A=true) (j9:dw n A'=true) (ak:uZ cc A'=true) (js:kJ A A'=A') (e3:k4 cc L=L'):Weak ⟨bq n A,L,H⟩ ⟨bq n A',L',H⟩:=by
 subst e3
 refine(Weak.gx (T':=bq n A') (by rw[pA,pA]) fun t=> ?_).trans (Weak.k4 cc ?_)
 ·rw[nJ gC,nJ j9,←js];exact Cb A' t
 ·rw[List.all_eq_true]
  intro a aL
  obtain⟨t,bt⟩:=List.mem_iff_getElem?.1 aL
  have e:(bq n A').getD t .undef=a:=by rw[List.getD_eq_getElem?_getD,bt];rfl
  rw[nJ j9] at e
  rw[←e]
  exact Jt ak t
theorem tD [bZ] {n:Nat} {A A':List (Nat×AV)} {L:List (Nat×List AV)} {H:List Blk} (gC:dw n A=true) (j9:dw n A'=true) (js:kJ A A'=A'):Weak ⟨bq n A,L,H⟩ ⟨bq n A',L,H⟩:=
 Weak.gx (T':=bq n A') (by rw[pA,pA]) fun t=>by rw[nJ gC,nJ j9,←js];exact Cb A' t
theorem OD {n:Nat} {A:List (Nat×AV)} {o:Operand} {b:Bool} {L:List (Nat×List AV)} {H:List Blk} (ap:dw n A=true) (h:mS A o= .bool b):bL (St.mk (bq n A) L H).T o= .bool b:=by
 show bL (bq n A) o=_
 rw[x2 ap,h]
def oN (P:Program) (A:List (Nat×AV)) (L:List (Nat×List AV)) (H:List Blk):List ResultVar→(List AV→Prop)→Prop
 | [],K=>K []
 | .tmp t::rs,K=>oN P A L H rs fun l=>K (eL A t::l)
 | .cell a t::rs,K=>lZ P t (eL A a) L H fun x=>oN P A L H rs fun l=>K (x::l)
theorem CN {P:Program} {n:Nat} {A:List (Nat×AV)} {L:List (Nat×List AV)} {H:List Blk} (ap:dw n A=true): ∀(rs:List ResultVar) (K:List AV→Prop),pK P ⟨bq n A,L,H⟩ rs K=oN P A L H rs K
 | [],K=>rfl
 | .tmp t::rs,K=>by
  show pK P ⟨bq n A,L,H⟩ rs (fun l=>K ((bq n A).getD t .undef::l))=oN P A L H rs fun l=>K (eL A t::l)
  rw[nJ ap];exact CN ap rs _
 | .cell a t::rs,K=>by
  show lZ P t ((bq n A).getD a .undef) L H _=lZ P t (eL A a) L H _
  rw[nJ ap]
  congr 1
  funext x
  exact CN ap rs _
theorem CQ {P:Program} {fn:Func} {n:Nat} {A:List (Nat×AV)} {L:List (Nat×List AV)} {H:List Blk} {r:AV} {Q:AV→List Blk→Prop} (ap:dw n A=true) (l:List AV) (e: ∀K,oN P A L H fn.results.toList K=K l) (aw:l.all hY=true) (hw:pW l=r) (h:Q r H):p2 P fn Q .ret ⟨bq n A,L,H⟩:=by
 show tf P fn ⟨bq n A,L,H⟩ Q
 unfold tf
 rw[CN ap,e]
 exact⟨aw,by rw[hw];exact h⟩
theorem Pb {P:Program} {fn:Func} {n:Nat} {A:List (Nat×AV)} {L:List (Nat×List AV)} {H:List Blk} {r:AV} {Q:AV→List Blk→Prop} (ap:dw n A=true) (l:List AV) (e: ∀K,oN P A L H fn.results.toList K=K l) (aw:l.all hY=true) (hw:pW l=r) (h:Q r H):p2 P fn Q .normal ⟨bq n A,L,H⟩:=
 CQ (fn:=fn) ap l e aw hw h
theorem Fh {P:Program} {esc:List Nat} {ops:Array Oper} {n:Nat} {K:List (Nat×AV)→List (Nat×List AV)→List Blk→Prop}: ∀(mO iK:List Oper) (A:List (Nat×AV)) (L:List (Nat×List AV)) (H:List Blk),
  evS P esc ops n (mO++iK) A L H K=evS P esc ops n mO A L H fun A L H=>evS P esc ops n iK A L H K
 | [],iK,A,L,H=>rfl
 | o::r,iK,A,L,H=>by
  show evS P esc ops n (o::(r++iK)) A L H K=_
  simp only[evS,Fh r iK]
theorem hS {P:Program} {esc:List Nat} {ops:Array Oper} {n:Nat} {K:List (Nat×AV)→List (Nat×List AV)→List Blk→Prop} {A:List (Nat×AV)} {L:List (Nat×List AV)} {H:List Blk} (X:List Oper) (i k:Nat):
  evS P esc ops n (X.drop i) A L H K=evS P esc ops n ((X.drop i).take k) A L H fun A L H=>evS P esc ops n (X.drop (i+k)) A L H K:=by
 rw[←Fh,←List.drop_drop,List.take_append_drop]
theorem Ff {P:Program} {esc:List Nat} {ops:Array Oper} {n:Nat} {K:List (Nat×AV)→List (Nat×List AV)→List Blk→Prop}: ∀(mO iK:List Item) (A:List (Nat×AV)) (L:List (Nat×List AV)) (H:List Blk),
  evSD P esc ops n (mO++iK) A L H K=evSD P esc ops n mO A L H fun A L H=>evSD P esc ops n iK A L H K
 | [],iK,A,L,H=>rfl
 | o::r,iK,A,L,H=>by
  show evSD P esc ops n (o::(r++iK)) A L H K=_
  simp only[evSD,Ff r iK]
theorem ky {P:Program} {esc:List Nat} {ops:Array Oper} {n:Nat} {K:List (Nat×AV)→List (Nat×List AV)→List Blk→Prop} {A:List (Nat×AV)} {L:List (Nat×List AV)} {H:List Blk} (X:List Item) (i k:Nat):
  evSD P esc ops n (X.drop i) A L H K=evSD P esc ops n ((X.drop i).take k) A L H fun A L H=>evSD P esc ops n (X.drop (i+k)) A L H K:=by
 rw[←Ff,←List.drop_drop,List.take_append_drop]
theorem map_set {α β:Type} (f:α→β) (xs:List α) (i:Nat) (x:α):(List.map f xs).set i (f x)=List.map f (xs.set i x):=by
 rw[List.map_set]
theorem yM {H:List Blk} {α:Type} {eT eF:α→List AV} {b g sz n:Nat} {full:Bool} {xs ys:List α} (ap:n=xs.length) (hb:H[b]?=some ⟨g,sz,List.map eT xs⟩) (hc: ∀x,iD H (eT x) (eF x)) (h:xs.length≤4611686018427387904∧xs=ys):
  e1 H (.ref b g 0 n full) (.a8 (List.map eF ys) false true):=ap▸Mv hb hc h
theorem re {L:List (Nat×List AV)} {H:List Blk} {α:Type} {eT eF:α→List AV} {b g sz n:Nat} {full:Bool} {xs:List α} (aN:n=xs.length) (hb:H[b]?=some ⟨g,sz,List.map eT xs⟩) (hc: ∀x,lI L H (eT x) (eF x)) (ap:xs.length≤4611686018427387904):
  eE L H (.ref b g 0 n full) (.a8 (List.map eF xs) false false):=aN▸K3 hb hc ap
theorem CT {α:Type} {enc:α→List AV} {k:Nat} (h: ∀x,(enc x).length=k∧(enc x).all hA=true) (ys:List α):pN k (List.map enc ys):=fun row aw=>by
 obtain⟨x,_,rfl⟩:=List.mem_map.1 aw
 exact⟨(h x).1,fun a aL=>List.all_eq_true.1 (h x).2 a aL⟩
theorem xX {α:Type} {c:Bool} {x y:List α} {n:Nat} (hx:x.length=n) (bm:y.length=n):(bif c then x else y).length=n:=by cases c<;>assumption
def lO:List (Nat×AV)→List (Nat×AV)→List (Nat×AV)
 | [],R=>R
 | p::N,R=>p::lO N R
def E0:List (Nat×AV)→List (Nat×AV)→List (Nat×AV)
 | [],A=>A
 | p::N,A=>jr (E0 N A) p.1
def e8 (N A:List (Nat×AV)):List (Nat×AV):=lO N (E0 N A)
def cT (d:Option Nat) (v:AV) (N A:List (Nat×AV)):List (Nat×AV):=match d with
 | some d=>e8 ((d,v)::N) A
 | none=>e8 N A
def rj:List (Nat×AV)→Nat→AV→List (Nat×AV)
 | [],_,_=>[]
 | (k,u)::r,t,v=>match Nat.beq k t with
  | true=>(k,v)::r
  | false=>(k,u)::rj r t v
abbrev ar (n:Int):AV:= .int .i64 n
abbrev ax (b:Bool):AV:= .bool b
abbrev bp {α:Type} (e:α→List AV) (x:List α):AV:= .a8 (List.map e x) false false
abbrev bh:AV:= .a8 [] true true
abbrev me {α:Type} (e:α→List AV) (x:List α):AV:= .a8 (List.map e x) false true
abbrev ay (b g n:Nat):AV:= .ref b g 0 n false
abbrev aW (t c:Nat):AV:= .dZ t c
abbrev t0:AV:= .tup []
def fB (l:List Nat):List (Nat×AV):=l.map fun i=>(i,.tup [])
def JK:Bool→List Nat→Bool×List Nat
 | b,0::m=>JK (!b) m
 | b,m=>(b,m)
def iQ {α:Type} (b:Bool) (m:List Nat):List α→List α
 | []=>[]
 | x::l=>match JK b m with
  | (true,(n+1)::m)=>x::iQ true (n::m) l
  | (false,(n+1)::m)=>iQ false (n::m) l
  | _=>[]
theorem vF {α:Type} {n:Nat} {m:List Nat} {x:α} {l:List α}:iQ true ((n+1)::m) (x::l)=x::iQ true (n::m) l:=rfl
theorem vE {α:Type} {n:Nat} {m:List Nat} {x:α} {l:List α}:iQ false ((n+1)::m) (x::l)=iQ false (n::m) l:=rfl
theorem vG {α:Type} {m:List Nat} {l:List α}:iQ true (0::m) l=iQ false m l:=by cases l<;>rfl
theorem self {α:Type} {m:List Nat} {l:List α}:iQ false (0::m) l=iQ true m l:=by cases l<;>rfl
theorem vD {α:Type} {b:Bool} {l:List α}:iQ b [] l=[]:=by cases b<;>cases l<;>rfl
def gJ (j:Nat) (r:List (List AV)):List Blk→List Blk
 | []=>[]
 | b::H=>match j with
  | 0=>⟨b.ba,b.sz,r⟩::H
  | j+1=>b::gJ j r H
def gT (i j:Nat) (a:AV):List (Nat×List AV)→List (Nat×List AV)
 | []=>[]
 | x::L=>match i with
  | 0=>(x.1,x.2.set j a)::L
  | i+1=>x::gT i j a L
def er (i:Nat) (a:List AV):List (Nat×List AV)→List (Nat×List AV)
 | []=>[]
 | x::L=>match i with
  | 0=>(x.1,a)::L
  | i+1=>x::er i a L
def dN (i:Nat) (b:Blk):List Blk→List Blk
 | []=>[]
 | x::H=>match i with
  | 0=>b::H
  | i+1=>x::dN i b H
section
variable {i j k:Nat} {a:AV} {c l:List AV} {L:List (Nat×List AV)} {x:Nat×List AV} {b y:Blk} {H:List Blk}
theorem E4:gT 0 j a ((k,c)::L)=(k,c.set j a)::L:=rfl
theorem E5:gT (i+1) j a (x::L)=x::gT i j a L:=rfl
theorem Fa:er 0 l ((k,c)::L)=(k,l)::L:=rfl
theorem Fb:er (i+1) l (x::L)=x::er i l L:=rfl
theorem Ez:dN 0 b (y::H)=b::H:=rfl
theorem EA:dN (i+1) b (y::H)=y::dN i b H:=rfl
end
abbrev aj (i:Nat):Item:=⟨i,true,true,[]⟩
abbrev rg (a b:Nat):List Nat:=List.range' a (b - a)
def rS [bZ] {V:Type} (S:V→St) (oW:V→Prop) (Q:Exit→St→Prop) (ex:Exit) (s:St):Prop:=match ex with
 | .normal=> ∃v,oW v∧Weak s (S v)
 | ex=>Q ex s
theorem rS.normal [bZ] {V:Type} {S:V→St} {oW:V→Prop} {Q:Exit→St→Prop} {s:St} (v:V) (h:oW v) (hw:Weak s (S v)):rS S oW Q .normal s:=⟨v,h,hw⟩
theorem rS.ret [bZ] {V:Type} {S:V→St} {oW:V→Prop} {Q:Exit→St→Prop} {s:St} (h:Q .ret s):rS S oW Q .ret s:=h
theorem rS.exit [bZ] {V:Type} {S:V→St} {oW:V→Prop} {Q:Exit→St→Prop} {s:St} {id:Nat} (h:Q (.exit id) s):rS S oW Q (.exit id) s:=h
section
variable {P:Program} {b:Code} {k n:Nat} {Q:Exit→St→Prop} {aq:St} {A A':List (Nat×AV)} {L L':List (Nat×List AV)} {H H':List Blk}
theorem jK [bZ] (S:St) (ψ:Prop) (h:WpS P (bC b (2*k)) (cL S ψ Q) aq) (ag:ψ→WpS P (bC b (2*k+1)) Q S) (e:bC b k= .seq (bC b (2*k)) (bC b (2*k+1)):=by kernel_rfl):WpS P (bC b k) Q aq:=WpS.tn S e h ag
theorem dA [bZ] (N:List (Nat×AV)) (m:List Nat) (ψ:Prop) (h:WpS P (bC b (2*k)) (cL ⟨bq n A',L,H⟩ ψ Q) ⟨bq n A,L,H⟩) (ag:ψ→WpS P (bC b (2*k+1)) Q ⟨bq n A',L,H⟩) (gC:lO N (iQ true m A)=A':=by simp only[lO,vF,vE,vG,self,vD];rfl) (e:bC b k= .seq (bC b (2*k)) (bC b (2*k+1)):=by kernel_rfl):WpS P (bC b k) Q ⟨bq n A,L,H⟩:=WpS.tn _ e h ag
theorem gH [bZ] (N:List (Nat×AV)) (m:List Nat) (Ak:List (Nat×List AV)→List (Nat×List AV)) (Aj:List Blk→List Blk) (ψ:Prop) (h:WpS P (bC b (2*k)) (cL ⟨bq n A',L',H'⟩ ψ Q) ⟨bq n A,L,H⟩) (ag:ψ→WpS P (bC b (2*k+1)) Q ⟨bq n A',L',H'⟩) (bF:Ak L=L':=by first | (simp only[id,E4,E5,Fa,Fb,List.set_cons_zero,List.set_cons_succ];rfl) | (dsimp only;rfl) | rfl) (az:Aj H=H':=by first | (simp only[id,Ez,EA,List.cons_append,List.nil_append];rfl) | (dsimp only;rfl) | rfl) (gC:lO N (iQ true m A)=A':=by simp only[lO,vF,vE,vG,self,vD];rfl) (e:bC b k= .seq (bC b (2*k)) (bC b (2*k+1)):=by kernel_rfl):WpS P (bC b k) Q ⟨bq n A,L,H⟩:=WpS.tn _ e h ag
theorem iF [bZ] (h:WpS P (bC b (2*k)) (dH P (bC b (2*k+1)) Q) aq) (e:bC b k= .seq (bC b (2*k)) (bC b (2*k+1)):=by kernel_rfl):WpS P (bC b k) Q aq:=WpS.seq' e h
theorem o0 [bZ] (o:Operand) (z:Bool) (h1:z=true→WpS P (bC b (2*k)) Q ⟨bq n A,L,H⟩) (h2:z=false→WpS P (bC b (2*k+1)) Q ⟨bq n A,L,H⟩) (e:bC b k= .cond o (bC b (2*k)) (bC b (2*k+1)):=by kernel_rfl)
  (ap:dw n A=true:=by kernel_rfl) (aB:mS A o= .bool z:=by kernel_rfl):WpS P (bC b k) Q ⟨bq n A,L,H⟩:=WpS.OC e (OD ap aB) h1 h2
theorem hC [bZ] (id:Nat) (h:WpS P (bC b (2*k)) (dz id Q) aq) (e:bC b k= .block id (bC b (2*k)):=by kernel_rfl):WpS P (bC b k) Q aq:=WpS.N1 e h
theorem fc [bZ] (h:Q .normal aq) (e:bC b k= .skip:=by kernel_rfl):WpS P (bC b k) Q aq:=WpS.XG e h
theorem ij [bZ] (h:Q .ret aq) (e:bC b k= .ret:=by kernel_rfl):WpS P (bC b k) Q aq:=WpS.W5 e h
theorem kx [bZ] (id:Nat) (h:Q (.exit id) aq) (e:bC b k= .exit id:=by kernel_rfl):WpS P (bC b k) Q aq:=WpS.Ph e h
theorem ml [bZ] {V:Type} (S:V→St) (I:V→Prop) (m:V→Nat) (v0:V) (hs:Weak aq (S v0)) (aN:I v0) (round: ∀v,I v→WpS P (bC b (2*k)) (ef S I m v Q) (S v)) (e:bC b k= .loop (bC b (2*k)):=by kernel_rfl):WpS P (bC b k) Q aq:=
 WpS.Js S I m e v0 hs aN round
theorem b3 [bZ] (esc:List Nat) (id:Nat) (h:evS P esc (iz b k) n ((iz b k).toList.drop 0) A L H (fun A L H=>Q .normal ⟨bq n A,L,H⟩)) (e:bC b k= .region id (iz b k) false:=by kernel_rfl) (ap:dw n A=true:=by kernel_rfl):WpS P (bC b k) Q ⟨bq n A,L,H⟩:=
 WpS.yv (esc:=esc) e ap h
theorem pL [bZ] (esc:List Nat) (id:Nat) (ord:List Item) (hP:List (List Nat)) (gA:List (Nat×List AV)) (h:evSD P esc (iz b k) n (ord.drop 0) A (gA++L) H (fun A L H=>Q .normal ⟨bq n A,L,H⟩)) (hm:P.follows .mixedOrders=true:=by kernel_rfl) (aE:hP.length=(iz b k).size:=by kernel_rfl)
  (aZ:r_ (iz b k) ord (tQ hP)=true:=by kernel_rfl) (A4:ord.all (·.lit)=true:=by kernel_rfl) (e:bC b k= .region id (iz b k) true:=by kernel_rfl) (ap:dw n A=true:=by kernel_rfl) (hf:qd gA L=true:=by kernel_rfl) (aH:p5 (iz b k) L ord=true:=by kernel_rfl):WpS P (bC b k) Q ⟨bq n A,L,H⟩:=
 WpS.W2 (esc:=esc) ord hP hm aE aZ A4 e ap gA hf aH h
theorem hD [bZ] (esc:List Nat) (id:Nat) (kt:List (Nat×AV)) (u1 m:List Nat) (ag:WpS P (bC b (2*k+1)) Q ⟨bq n A',L,H⟩) (gC:lO (iQ true u1 kt) (iQ true m A)=A':=by simp only[lO,vF,vE,vG,self,vD];rfl) (e:bC b k= .seq (bC b (2*k)) (bC b (2*k+1)):=by kernel_rfl)
  (e2:bC b (2*k)= .region id (iz b (2*k)) false:=by kernel_rfl) (ap:dw n A=true:=by kernel_rfl) (cE: ∀K,evS P esc (iz b (2*k)) n ((iz b (2*k)).toList.drop 0) A L H K=K (e8 kt A) L H:=by intro K;kernel_rfl) (js:kJ (e8 kt A) A'=A':=by kernel_rfl)
  (h1:dw n (e8 kt A)=true:=by kernel_rfl) (h2:dw n A'=true:=by kernel_rfl):WpS P (bC b k) Q ⟨bq n A,L,H⟩:=
 WpS.tn ⟨bq n A',L,H⟩ (ψ:=True) e (WpS.yv (esc:=esc) e2 ap (by rw[cE];exact⟨trivial,tD h1 h2 js⟩)) fun _=>ag
theorem r7 [bZ] (esc:List Nat) (id:Nat) (kt:List (Nat×AV)) (u1 m:List Nat) (L':List (Nat×List AV)) (H':List Blk) (ag:WpS P (bC b (2*k+1)) Q ⟨bq n A',L',H'⟩) (gC:lO (iQ true u1 kt) (iQ true m A)=A':=by simp only[lO,vF,vE,vG,self,vD];rfl) (e:bC b k= .seq (bC b (2*k)) (bC b (2*k+1)):=by kernel_rfl)
  (e2:bC b (2*k)= .region id (iz b (2*k)) false:=by kernel_rfl) (ap:dw n A=true:=by kernel_rfl) (cE: ∀K,evS P esc (iz b (2*k)) n ((iz b (2*k)).toList.drop 0) A L H K=K (e8 kt A) L' H':=by intro K;kernel_rfl) (js:kJ (e8 kt A) A'=A':=by kernel_rfl)
  (h1:dw n (e8 kt A)=true:=by kernel_rfl) (h2:dw n A'=true:=by kernel_rfl):WpS P (bC b k) Q ⟨bq n A,L,H⟩:=
 WpS.tn ⟨bq n A',L',H'⟩ (ψ:=True) e (WpS.yv (esc:=esc) e2 ap (by rw[cE];exact⟨trivial,tD h1 h2 js⟩)) fun _=>ag
theorem wK [bZ] (esc:List Nat) (id:Nat) (kt:List (Nat×AV)) (u1 m:List Nat) (Ak:List (Nat×List AV)→List (Nat×List AV)) (Aj:List Blk→List Blk) (ag:WpS P (bC b (2*k+1)) Q ⟨bq n A',L',H'⟩) (bF:Ak L=L':=by first | (simp only[id,E4,E5,Fa,Fb,List.set_cons_zero,List.set_cons_succ];rfl) | (dsimp only;rfl) | rfl) (az:Aj H=H':=by first | (simp only[id,Ez,EA,List.cons_append,List.nil_append];rfl) | (dsimp only;rfl) | rfl) (gC:lO (iQ true u1 kt) (iQ true m A)=A':=by simp only[lO,vF,vE,vG,self,vD];rfl) (e:bC b k= .seq (bC b (2*k)) (bC b (2*k+1)):=by kernel_rfl)
  (e2:bC b (2*k)= .region id (iz b (2*k)) false:=by kernel_rfl) (ap:dw n A=true:=by kernel_rfl) (cE: ∀K,evS P esc (iz b (2*k)) n ((iz b (2*k)).toList.drop 0) A L H K=K (e8 kt A) L' H':=by intro K;kernel_rfl) (js:kJ (e8 kt A) A'=A':=by kernel_rfl)
  (h1:dw n (e8 kt A)=true:=by kernel_rfl) (h2:dw n A'=true:=by kernel_rfl):WpS P (bC b k) Q ⟨bq n A,L,H⟩:=
 WpS.tn ⟨bq n A',L',H'⟩ (ψ:=True) e (WpS.yv (esc:=esc) e2 ap (by rw[cE];exact⟨trivial,tD h1 h2 js⟩)) fun _=>ag
theorem gq [bZ] {t:Nat} {z:Bool} (h1:z=true→WpS P (bC b (2*k)) Q ⟨bq n ((t,.bool z)::A),L,H⟩) (h2:z=false→WpS P (bC b (2*k+1)) Q ⟨bq n ((t,.bool z)::A),L,H⟩) (e:bC b k= .cond (.tmp t) (bC b (2*k)) (bC b (2*k+1)):=by kernel_rfl)
  (ap:dw n ((t,.bool z)::A)=true:=by kernel_rfl):WpS P (bC b k) Q ⟨bq n ((t,.bool z)::A),L,H⟩:=o0 (.tmp t) z h1 h2 e ap (by show eL ((t,.bool z)::A) t=_;unfold eL;rw[show Nat.beq t t=true from Nat.beq_refl t])
theorem c8.go {f:FuncId} {fn:Func} {args:List AV} {H:List Blk} {R:AV→List Blk→Prop} (A:List (Nat×AV)) (hf:P.funcs[f]?=some fn) (h: ∀gR:bZ,gR.n=H.length→WpS P (bC (jo fn) 1) (p2 P fn R) ⟨bq fn.ntmps A,[],H⟩) (hb:fn.body=some (bC (jo fn) 1):=by kernel_rfl) (ap:(fn.name== "runtime.NumGoroutine")=false:=by kernel_rfl)
  (hi:xT fn args H=⟨bq fn.ntmps A,[],H⟩:=by kernel_rfl):c8 P f args H R:=c8.JQ hf hb ap fun gR e4=>hi▸h gR e4
theorem rc {fn:Func} {R:AV→List Blk→Prop} (r:AV) (h:R r H) (ap:dw n A=true:=by kernel_rfl) (e: ∀K,oN P A L H fn.results.toList K=K [r]:=by intro K;kernel_rfl) (aw:[r].all hY=true:=by kernel_rfl):p2 P fn R .ret ⟨bq n A,L,H⟩:=CQ ap [r] e aw rfl h
theorem fb [bZ] (js:kJ A A'=A':=by kernel_rfl) (gC:dw n A=true:=by kernel_rfl) (j9:dw n A'=true:=by kernel_rfl):Weak ⟨bq n A,L,H⟩ ⟨bq n A',L,H⟩:=tD gC j9 js
theorem gz [bZ] (cc:List Nat) (gC:dw n A=true:=by kernel_rfl) (j9:dw n A'=true:=by kernel_rfl) (ak:uZ cc A'=true:=by kernel_rfl) (js:kJ A A'=A':=by kernel_rfl) (e3:k4 cc L=L':=by kernel_rfl):Weak ⟨bq n A,L,H⟩ ⟨bq n A',L',H⟩:=ZS cc gC j9 ak js e3
theorem lB {fn:Func} {R:AV→List Blk→Prop} (r:AV) (l:List AV) (h:R r H) (ap:dw n A=true:=by kernel_rfl) (e: ∀K,oN P A L H fn.results.toList K=K l:=by intro K;kernel_rfl) (aw:l.all hY=true:=by kernel_rfl) (hw:pW l=r:=by kernel_rfl):p2 P fn R .ret ⟨bq n A,L,H⟩:=CQ ap l e aw hw h
theorem z_ {fn:Func} {R:AV→List Blk→Prop} (r:AV) (l:List AV) (h:R r H) (ap:dw n A=true:=by kernel_rfl) (e: ∀K,oN P A L H fn.results.toList K=K l:=by intro K;kernel_rfl) (aw:l.all hY=true:=by kernel_rfl) (hw:pW l=r:=by kernel_rfl):p2 P fn R .normal ⟨bq n A,L,H⟩:=Pb ap l e aw hw h
end
section
variable {P:Program} {esc:List Nat} {ops:Array Oper} {n:Nat} {X:List Oper} {i0:Nat} {A:List (Nat×AV)} {L:List (Nat×List AV)} {H:List Blk} {K:List (Nat×AV)→List (Nat×List AV)→List Blk→Prop}
theorem cI [bZ] {A':List (Nat×AV)} {L':List (Nat×List AV)} {H':List Blk} {ψ:Prop} {Q:Exit→St→Prop} (N:List (Nat×AV)) (ak:ψ) (js:kJ (e8 N A) A'=A':=by kernel_rfl) (e: ∀K,evS P esc ops n (X.drop i0) A L H K=K (e8 N A) L' H':=by intro K;kernel_rfl)
  (gC:dw n (e8 N A)=true:=by kernel_rfl) (j9:dw n A'=true:=by kernel_rfl):evS P esc ops n (X.drop i0) A L H (fun A L H=>cL ⟨bq n A',L',H'⟩ ψ Q .normal ⟨bq n A,L,H⟩):=by
 rw[e];exact⟨ak,tD gC j9 js⟩
theorem nS (a7 t:Nat) (b:Bool) (N:List (Nat×AV)) (h1:b=true→evS P esc ops n (X.drop (i0+a7)) (rj (e8 ((t,.bool b)::N) A) t (.bool true)) L H K) (h2:b=false→evS P esc ops n (X.drop (i0+a7)) (rj (e8 ((t,.bool b)::N) A) t (.bool false)) L H K)
  (e: ∀K,evS P esc ops n ((X.drop i0).take a7) A L H K=K (rj (e8 ((t,.bool b)::N) A) t (.bool b)) L H:=by intro K;kernel_rfl):evS P esc ops n (X.drop i0) A L H K:=by
 rw[hS X i0 a7,e]
 cases b with
 | true=>exact h1 rfl
 | false=>exact h2 rfl
theorem fA (N:List (Nat×AV)) (h:K (e8 N A) L H) (e: ∀K,evS P esc ops n (X.drop i0) A L H K=K (e8 N A) L H:=by intro K;kernel_rfl):evS P esc ops n (X.drop i0) A L H K:=by
 rw[e];exact h
theorem K2 (N:List (Nat×AV)) (L':List (Nat×List AV)) (H':List Blk) (h:K (e8 N A) L' H') (e: ∀K,evS P esc ops n (X.drop i0) A L H K=K (e8 N A) L' H':=by intro K;kernel_rfl):evS P esc ops n (X.drop i0) A L H K:=by
 rw[e];exact h
theorem CY (a7:Nat) (N:List (Nat×AV)) (L':List (Nat×List AV)) (H':List Blk) (h:evS P esc ops n (X.drop (i0+a7)) (e8 N A) L' H' K) (e: ∀K,evS P esc ops n ((X.drop i0).take a7) A L H K=K (e8 N A) L' H':=by intro K;kernel_rfl):evS P esc ops n (X.drop i0) A L H K:=by
 rw[hS X i0 a7,e];exact h
theorem yB (a7:Nat) (d:Option Nat) (v:AV) (N:List (Nat×AV)) {φ:Prop} (h1:φ) (h:evS P esc ops n (X.drop (i0+a7)) (cT d v N A) L H K) (e: ∀K,evS P esc ops n ((X.drop i0).take a7) A L H K=(φ∧K (cT d v N A) L H):=by intro K;kernel_rfl):evS P esc ops n (X.drop i0) A L H K:=by
 rw[hS X i0 a7,e];exact⟨h1,h⟩
theorem m2 (a7:Nat) (d:Option Nat) (N:List (Nat×AV)) {α:Type} [Inhabited α] (enc:α→List AV) (xs:List α) {i:Int} (m:Nat)
  (aN:0≤i∧i.toNat<xs.length) (h:evS P esc ops n (X.drop (i0+a7)) (cT d (.cD (enc (nth xs i)) 0) N A) L H K) (ap: ∀x,(enc x).length=m:=by exact fun _=>rfl)
  (e: ∀K,evS P esc ops n ((X.drop i0).take a7) A L H K=(0≤i∧ch (List.map enc xs)[i.toNat]? fun row=>row.length=m∧K (cT d (.cD row 0) N A) L H):=by intro K;kernel_rfl):evS P esc ops n (X.drop i0) A L H K:=by
 rw[hS X i0 a7,e]
 refine⟨aN.1,dg (a:=enc (nth xs i)) ?_ ⟨ap _,h⟩⟩
 rw[List.getElem?_map,fg aN.2];rfl
theorem CW (a7:Nat) (d:Option Nat) (N:List (Nat×AV)) (b g z:Nat) {i:Int} {m:Nat} (aN:0≤i∧i.toNat<m) (h:evS P esc ops n (X.drop (i0+a7)) (cT d (.ptr b g (0+i.toNat) 0) N A) L H K)
  (e: ∀K,evS P esc ops n ((X.drop i0).take a7) A L H K=(g=g∧z=z∧0≤i∧i<m∧K (cT d (.ptr b g (0+i.toNat) 0) N A) L H):=by intro K;kernel_rfl):evS P esc ops n (X.drop i0) A L H K:=by
 rw[hS X i0 a7,e];exact⟨rfl,rfl,aN.1,by have:=aN.2;omega,h⟩
theorem Xj (a7:Nat) (d:Option Nat) (N:List (Nat×AV)) {α:Type} [Inhabited α] (enc:α→List AV) (xs:List α) (i:Int) (t:TypeId) (c g:Nat) (v:AV) (aw:i.toNat<xs.length) (h:evS P esc ops n (X.drop (i0+a7)) (cT d v N A) L H K)
  (e2: ∀K,g_ P t (enc (nth xs i)) c K=K v:=by intro K;kernel_rfl)
  (e: ∀K,evS P esc ops n ((X.drop i0).take a7) A L H K=(g=g∧ch (List.map enc xs)[0+i.toNat]? fun row=>g_ P t row c fun v=>K (cT d v N A) L H):=by intro K;kernel_rfl):evS P esc ops n (X.drop i0) A L H K:=by
 rw[hS X i0 a7,e]
 refine⟨rfl,dg (a:=enc (nth xs i)) ?_ (by rw[e2];exact h)⟩
 rw[Nat.zero_add,List.getElem?_map,fg aw];rfl
theorem tk (a7:Nat) (d:Option Nat) (N:List (Nat×AV)) {g:FuncId} (args:List AV) {db:List AV} {t:AV}
  (hf:bf P g db t) (hs:aK (dE L H) args db) (h:evS P esc ops n (X.drop (i0+a7)) (cT d t N A) L H K) (ap:args.all dC=true:=by kernel_rfl) (e: ∀K,evS P esc ops n ((X.drop i0).take a7) A L H K=iX P g args L H (fun v L' H'=>K (cT d v N A) L' H'):=by intro K;kernel_rfl):evS P esc ops n (X.drop i0) A L H K:=by
 rw[hS X i0 a7,e];exact .inl ⟨ap,db,t,hs,hf,h⟩
theorem Xk (a7:Nat) (d:Option Nat) (N:List (Nat×AV)) {α:Type} (enc:α→List AV) {i:Int} (B:Int) (z:List AV) (b:Nat) (H':List (List AV)→List Blk) (bE:α) (aN:0≤i∧B*i≤140737488355328∧i≤4611686018427387904)
  (h:evS P esc ops n (X.drop (i0+a7)) (cT d (.ref b 0 0 (List.replicate i.toNat bE).length false) N A) L (H' (List.map enc (List.replicate i.toNat bE))) K) (aH:z=enc bE:=by rfl)
  (e: ∀K,evS P esc ops n ((X.drop i0).take a7) A L H K=(0≤i∧i≤i∧B*i≤140737488355328∧i≤4611686018427387904∧K (cT d (.ref b 0 0 i.toNat false) N A) L (H' (List.replicate i.toNat z))):=by intro K;kernel_rfl):evS P esc ops n (X.drop i0) A L H K:=by
 rw[hS X i0 a7,e]
 refine⟨aN.1,Int.le_refl _,aN.2.1,aN.2.2,?_⟩
 ·rw[aH,←List.map_replicate];rw[List.length_replicate] at h;exact h
theorem pO (a7:Nat) (d:Option Nat) (N:List (Nat×AV)) {α:Type} (enc:α→List AV) (ys:List α) (bO:List (List AV)) (b s B:Nat) (H':List (List AV)→List Blk) (hx:bO=List.map enc ys) (aN:ys.length*B≤140737488355328∧ys.length≤4611686018427387904)
  (h:evS P esc ops n (X.drop (i0+a7)) (cT d (.ref b 0 0 ys.length false) N A) L (H' (List.map enc ys)) K) (hk: ∀x,(enc x).length=s∧(enc x).all hA=true:=by exact fun _=>⟨rfl,rfl⟩)
  (e: ∀K,evS P esc ops n ((X.drop i0).take a7) A L H K=(true=true∧true=true∧pN s bO∧true=true∧(∀row∈([]:List (List AV)),row.length=s)∧(List.length (α:=List AV) []+bO.length)*B≤140737488355328∧List.length (α:=List AV) []+bO.length≤4611686018427387904∧(([]:List (List AV))≠[]→bO≠[])∧
   K (cT d (.ref b 0 0 (List.length (α:=List AV) []+bO.length) false) N A) L (H' ([]++bO))):=by intro K;kernel_rfl):evS P esc ops n (X.drop i0) A L H K:=by
 rw[hS X i0 a7,e]
 subst hx
 refine⟨rfl,rfl,CT hk ys,rfl,(fun row h=>by cases h),by simpa using aN.1,by simpa using aN.2,(fun h=>absurd rfl h),?_⟩
 ·simpa using h
theorem yC (a7:Nat) (d:Option Nat) (N:List (Nat×AV)) {g:FuncId} (args:List AV) {db:List AV} {fJ:AV} {cK:List Blk} (r:AV) (j4:List Blk)
  (hf:c8 P g db [] fun r H'=>r=fJ∧H'=cK) (hs:aK (dE L H) args db) (uI:pF cK=true) (zZ:H++cK.map (iS H.length)=j4)
  (h:evS P esc ops n (X.drop (i0+a7)) (cT d r N A) L j4 K) (ap:args.all dC=true:=by kernel_rfl) (aB:s4 fJ=true:=by kernel_rfl) (er:m3 H.length fJ=r:=by kernel_rfl) (e: ∀K,evS P esc ops n ((X.drop i0).take a7) A L H K=iX P g args L H (fun v L' H'=>K (cT d v N A) L' H'):=by intro K;kernel_rfl):evS P esc ops n (X.drop i0) A L H K:=by
 rw[hS X i0 a7,e]
 subst er;subst zZ
 exact .inr (.inl ⟨ap,db,hs,hf.mono fun dr H1 ⟨h1,h2⟩=>by subst h1;subst h2;exact⟨aB,uI,h⟩⟩)
theorem sLen (a7:Nat) (d:Option Nat) (N:List (Nat×AV)) {α:Type} (enc:α→List AV) (xs:List α) (h:xs.length≤4611686018427387904→evS P esc ops n (X.drop (i0+a7)) (cT d (.int .i64 (xs.length:Nat)) N A) L H K)
  (e: ∀K,evS P esc ops n ((X.drop i0).take a7) A L H K=((List.map enc xs).length≤4611686018427387904→K (cT d (.int .i64 ((List.map enc xs).length:Nat)) N A) L H):=by intro K;kernel_rfl):evS P esc ops n (X.drop i0) A L H K:=by
 rw[hS X i0 a7,e,List.length_map];exact h
theorem CZ (a7:Nat) (d:Option Nat) (N:List (Nat×AV)) {α:Type} (enc:α→List AV) (xs:List α) (h1:xs≠[]→evS P esc ops n (X.drop (i0+a7)) (cT d (.bool false) N A) L H K) (h2:xs=[]→ ∀b,evS P esc ops n (X.drop (i0+a7)) (cT d (.bool b) N A) L H K)
  (e: ∀K,evS P esc ops n ((X.drop i0).take a7) A L H K=((List.map enc xs≠[]→K (cT d (.bool false) N A) L H)∧(List.map enc xs=[]→ ∀b,K (cT d (.bool b) N A) L H)):=by intro K;kernel_rfl):evS P esc ops n (X.drop i0) A L H K:=by
 rw[hS X i0 a7,e]
 exact⟨fun h=>h1 fun e=>h (by rw[e];rfl),fun h=>h2 (by simpa using h)⟩
end
section
variable {P:Program} {esc:List Nat} {ops:Array Oper} {n:Nat} {X:List Item} {i0:Nat} {A:List (Nat×AV)} {L:List (Nat×List AV)} {H:List Blk} {K:List (Nat×AV)→List (Nat×List AV)→List Blk→Prop}
theorem jV [bZ] {A':List (Nat×AV)} {L':List (Nat×List AV)} {H':List Blk} {ψ:Prop} {Q:Exit→St→Prop} (N:List (Nat×AV)) (ak:ψ) (js:kJ (e8 N A) A'=A':=by kernel_rfl) (e: ∀K,evSD P esc ops n (X.drop i0) A L H K=K (e8 N A) L' H':=by intro K;kernel_rfl)
  (gC:dw n (e8 N A)=true:=by kernel_rfl) (j9:dw n A'=true:=by kernel_rfl):evSD P esc ops n (X.drop i0) A L H (fun A L H=>cL ⟨bq n A',L',H'⟩ ψ Q .normal ⟨bq n A,L,H⟩):=by
 rw[e];exact⟨ak,tD gC j9 js⟩
theorem nW (a7 t:Nat) (b:Bool) (N:List (Nat×AV)) (h1:b=true→evSD P esc ops n (X.drop (i0+a7)) (rj (e8 ((t,.bool b)::N) A) t (.bool true)) L H K) (h2:b=false→evSD P esc ops n (X.drop (i0+a7)) (rj (e8 ((t,.bool b)::N) A) t (.bool false)) L H K)
  (e: ∀K,evSD P esc ops n ((X.drop i0).take a7) A L H K=K (rj (e8 ((t,.bool b)::N) A) t (.bool b)) L H:=by intro K;kernel_rfl):evSD P esc ops n (X.drop i0) A L H K:=by
 rw[ky X i0 a7,e]
 cases b with
 | true=>exact h1 rfl
 | false=>exact h2 rfl
theorem ME (N:List (Nat×AV)) (h:K (e8 N A) L H) (e: ∀K,evSD P esc ops n (X.drop i0) A L H K=K (e8 N A) L H:=by intro K;kernel_rfl):evSD P esc ops n (X.drop i0) A L H K:=by
 rw[e];exact h
theorem DL (a7:Nat) (d:Option Nat) (v:AV) (N:List (Nat×AV)) {φ:Prop} (h1:φ) (h:evSD P esc ops n (X.drop (i0+a7)) (cT d v N A) L H K) (e: ∀K,evSD P esc ops n ((X.drop i0).take a7) A L H K=(φ∧K (cT d v N A) L H):=by intro K;kernel_rfl):evSD P esc ops n (X.drop i0) A L H K:=by
 rw[ky X i0 a7,e];exact⟨h1,h⟩
theorem ZC (a7:Nat) (N:List (Nat×AV)) (L':List (Nat×List AV)) (H':List Blk) {φ:Prop} (h1:φ) (h:evSD P esc ops n (X.drop (i0+a7)) (e8 N A) L' H' K) (e: ∀K,evSD P esc ops n ((X.drop i0).take a7) A L H K=(φ∧K (e8 N A) L' H'):=by intro K;kernel_rfl):evSD P esc ops n (X.drop i0) A L H K:=by
 rw[ky X i0 a7,e];exact⟨h1,h⟩
theorem vR (a7:Nat) (d:Option Nat) (N:List (Nat×AV)) {α:Type} [Inhabited α] (enc:α→List AV) (xs:List α) {i:Int} (m:Nat)
  (aN:0≤i∧i.toNat<xs.length) (h:evSD P esc ops n (X.drop (i0+a7)) (cT d (.cD (enc (nth xs i)) 0) N A) L H K) (ap: ∀x,(enc x).length=m:=by exact fun _=>rfl)
  (e: ∀K,evSD P esc ops n ((X.drop i0).take a7) A L H K=(0≤i∧ch (List.map enc xs)[i.toNat]? fun row=>row.length=m∧K (cT d (.cD row 0) N A) L H):=by intro K;kernel_rfl):evSD P esc ops n (X.drop i0) A L H K:=by
 rw[ky X i0 a7,e]
 refine⟨aN.1,dg (a:=enc (nth xs i)) ?_ ⟨ap _,h⟩⟩
 rw[List.getElem?_map,fg aN.2];rfl
theorem vQ (a7:Nat) (d:Option Nat) (N:List (Nat×AV)) (b g z:Nat) {i:Int} {m:Nat} (aN:0≤i∧i.toNat<m) (h:evSD P esc ops n (X.drop (i0+a7)) (cT d (.ptr b g (0+i.toNat) 0) N A) L H K)
  (e: ∀K,evSD P esc ops n ((X.drop i0).take a7) A L H K=(g=g∧z=z∧0≤i∧i<m∧K (cT d (.ptr b g (0+i.toNat) 0) N A) L H):=by intro K;kernel_rfl):evSD P esc ops n (X.drop i0) A L H K:=by
 rw[ky X i0 a7,e];exact⟨rfl,rfl,aN.1,by have:=aN.2;omega,h⟩
theorem vS (a7:Nat) (d:Option Nat) (N:List (Nat×AV)) {α:Type} [Inhabited α] (enc:α→List AV) (xs:List α) (i:Int) (t:TypeId) (c g:Nat) (v:AV) (aw:i.toNat<xs.length) (h:evSD P esc ops n (X.drop (i0+a7)) (cT d v N A) L H K)
  (e2: ∀K,g_ P t (enc (nth xs i)) c K=K v:=by intro K;kernel_rfl)
  (e: ∀K,evSD P esc ops n ((X.drop i0).take a7) A L H K=(g=g∧ch (List.map enc xs)[0+i.toNat]? fun row=>g_ P t row c fun v=>K (cT d v N A) L H):=by intro K;kernel_rfl):evSD P esc ops n (X.drop i0) A L H K:=by
 rw[ky X i0 a7,e]
 refine⟨rfl,dg (a:=enc (nth xs i)) ?_ (by rw[e2];exact h)⟩
 rw[Nat.zero_add,List.getElem?_map,fg aw];rfl
theorem ZB (a7:Nat) (d:Option Nat) (N:List (Nat×AV)) {g:FuncId} (args:List AV) {db:List AV} {t:AV}
  (hf:bf P g db t) (hs:aK (dE L H) args db) (h:evSD P esc ops n (X.drop (i0+a7)) (cT d t N A) L H K) (ap:args.all dC=true:=by kernel_rfl) (e: ∀K,evSD P esc ops n ((X.drop i0).take a7) A L H K=lQ P g args L H (fun v=>K (cT d v N A) L H):=by intro K;kernel_rfl):evSD P esc ops n (X.drop i0) A L H K:=by
 rw[ky X i0 a7,e];exact⟨ap,db,t,hs,hf,h⟩
theorem ZA (a7:Nat) (d:Option Nat) (N:List (Nat×AV)) {α:Type} (enc:α→List AV) (xs ys:List α) (bO:List (List AV)) (b g s B:Nat) (F:List (List AV)→Prop) (H':List (List AV)→List Blk) (hx:bO=List.map enc ys) (aN:(xs.length+ys.length)*B≤140737488355328∧xs.length+ys.length≤4611686018427387904)
  (dn:F ((List.map enc (xs++ys)))) (h:evSD P esc ops n (X.drop (i0+a7)) (cT d (.ref b (g+1) 0 (xs++ys).length false) N A) L (H' (List.map enc (xs++ys))) K) (hk: ∀x,(enc x).length=s∧(enc x).all hA=true:=by exact fun _=>⟨rfl,rfl⟩)
  (e: ∀K,evSD P esc ops n ((X.drop i0).take a7) A L H K=(true=true∧true=true∧pN s bO∧0=0∧g=g∧s=s∧(List.map enc xs).length=xs.length∧(xs.length+bO.length)*B≤140737488355328∧xs.length+bO.length≤4611686018427387904∧F ((List.map enc xs++bO))∧K (cT d (.ref b (g+1) 0 (xs.length+bO.length) false) N A) L (H' (List.map enc xs++bO))):=by intro K;kernel_rfl):evSD P esc ops n (X.drop i0) A L H K:=by
 rw[ky X i0 a7,e]
 subst hx
 refine⟨rfl,rfl,CT hk ys,rfl,rfl,rfl,List.length_map ..,by rw[List.length_map];exact aN.1,by rw[List.length_map];exact aN.2,?_,?_⟩
 ·rw[←List.map_append];exact dn
 ·rw[List.length_append] at h;rw[List.length_map,←List.map_append];exact h
theorem DM (a7:Nat) (d:Option Nat) (N:List (Nat×AV)) {g:FuncId} (args:List AV) {db:List AV} {fJ:AV} {cK:List Blk} (F:List (Nat×List AV)→List Blk→Prop) (r:AV) (j4:List Blk)
  (hf:c8 P g db [] fun r H'=>r=fJ∧H'=cK) (hs:aK (dE L H) args db) (uI:pF cK=true) (zZ:H++cK.map (iS H.length)=j4) (dn:F L j4)
  (h:evSD P esc ops n (X.drop (i0+a7)) (cT d r N A) L j4 K) (ap:args.all dC=true:=by kernel_rfl) (aB:s4 fJ=true:=by kernel_rfl) (er:m3 H.length fJ=r:=by kernel_rfl) (e: ∀K,evSD P esc ops n ((X.drop i0).take a7) A L H K=iX P g args L H (fun v L' H'=>F L' H'∧K (cT d v N A) L' H'):=by intro K;kernel_rfl):evSD P esc ops n (X.drop i0) A L H K:=by
 rw[ky X i0 a7,e]
 subst er;subst zZ
 exact .inr (.inl ⟨ap,db,hs,hf.mono fun dr H1 ⟨h1,h2⟩=>by subst h1;subst h2;exact⟨aB,uI,dn,h⟩⟩)
theorem MF (a7:Nat) (d:Option Nat) (N:List (Nat×AV)) {α:Type} (enc:α→List AV) (xs:List α) (h:evSD P esc ops n (X.drop (i0+a7)) (cT d (.int .i64 (xs.length:Nat)) N A) L H K)
  (e: ∀K,evSD P esc ops n ((X.drop i0).take a7) A L H K=K (cT d (.int .i64 ((List.map enc xs).length:Nat)) N A) L H:=by intro K;kernel_rfl):evSD P esc ops n (X.drop i0) A L H K:=by
 rw[ky X i0 a7,e,List.length_map];exact h
end
inductive gQ (H:List Blk) (cW:Nat) (cv:Nat→Option Nat):AV→AV→Prop where
 | int (k:IntKind) (n:Int):gQ H cW cv (.int k n) (.int k n)
 | bool (b:Bool):gQ H cW cv (.bool b) (.bool b)
 | str (s:ByteArray):gQ H cW cv (.str s) (.str s)
 | eI:gQ H cW cv .eI .eI
 | eU:gQ H cW cv .eU .eU
 | a8 (rows:List (List AV)) (full cS fr:Bool) (hw:cS=true→full=true):gQ H cW cv (.a8 rows full fr) (.a8 rows cS fr)
 | ref {b g n j:Nat} {full:Bool} {blk:Blk} (aC:j<cW) (hs:cv j=some b) (hb:H[b]?=some blk) (aI:blk.ba=g):gQ H cW cv (.ref b g 0 n full) (.ref j 0 0 n false)
 | nil {a:AV} {j:Nat} (aC:j<cW) (hs:cv j=none) (h:ov a=true):gQ H cW cv a (.ref j 0 0 0 false)
def Ea (H:List Blk) (cW:Nat) (cv:Nat→Option Nat) (a b:AV):Prop:=(∃l l',a= .agg l∧b= .agg l'∧aK (gQ H cW cv) l l')∨gQ H cW cv a b
structure p1 (H cK:List Blk) (cv:Nat→Option Nat):Prop where
 inj: ∀i j b,i<cK.length→j<cK.length→cv i=some b→cv j=some b→i=j
 ba: ∀(j:Nat) (k:Blk),cK[j]?=some k→k.ba=0
 blk: ∀(j b:Nat) (k:Blk),cK[j]?=some k→cv j=some b→ ∃q,H[b]?=some q∧q.sz=k.sz∧aK (aK (gQ H cK.length cv)) q.rows k.rows
def Env.own (E:Env) (cK:List Blk) (cv:Nat→Option Nat):Env:=
 {w:=E.w,PA:=E.PA,PF:=E.PF,mL:=fun _=>none,ba:=fun _=>0
  m:=fun j=>if j<cK.length then(match cv j with
   | some b=>E.m b
   | none=>some none) else none
  sz:=fun j=>(cK[j]?.map Blk.sz).getD 0
  cp:=fun j=>match cv j with
   | some b=>E.cp b
   | none=>0}
section
variable {E:Env} {H cK:List Blk} {cv:Nat→Option Nat}
theorem J0 {j b:Nat} (aC:j<cK.length) (hs:cv j=some b):(E.own cK cv).m j=E.m b:=by
 show(if j<cK.length then _ else _)=_
 rw[if_pos aC,hs]
theorem V8 {j:Nat} (aC:j<cK.length) (hs:cv j=none):(E.own cK cv).m j=some none:=by
 show(if j<cK.length then _ else _)=_
 rw[if_pos aC,hs]
theorem s0 {j:Nat} {x:Option Nat} (h:(E.own cK cv).m j=some x):j<cK.length∧((cv j=none∧x=none)∨ ∃b,cv j=some b∧E.m b=some x):=by
 have h:(if j<cK.length then(match cv j with
   | some b=>E.m b
   | none=>some none) else none)=some x:=h
 split at h
 ·rename_i aC
  refine⟨aC,?_⟩
  cases hs:cv j with
  | none=>rw[hs] at h;cases h;exact .inl ⟨rfl,rfl⟩
  | some b=>rw[hs] at h;exact .inr ⟨b,rfl,h⟩
 ·cases h
theorem gQ.v1 (az:SimH E H) (cV:p1 H cK cv) {a b:AV} (h:gQ H cK.length cv a b) {v:Value} (hv:bT E a v):bT (E.own cK cv) b v:=by
 cases h with
 | int k n=>exact hv
 | bool b=>exact hv
 | str s=>exact hv
 | eI=>exact hv
 | eU=>exact hv
 | a8 rows full cS fr hw=>
  have hv:a1 E.w E.PA E.PF (.a8 rows full fr) v:=hv
  cases hv with
  | a8 eh e5 fw bX dv hrel=>exact a1.a8 eh e5 (fun h=>fw (hw h)) bX dv hrel
 | @ref b g n j full blk aC hs hb aI=>
  have hU:=az.dJ b blk hb
  have hk:cK[j]?=some cK[j]:=List.getElem?_eq_getElem aC
  obtain⟨q,ag,bX,_⟩:=cV.blk j b _ hk hs
  rw[hb] at ag
  obtain rfl:=Option.some.inj ag
  rcases(show dO E (.ref b g 0 n full) v from hv) with⟨aR,_⟩ | ⟨eK,bH⟩
  ·omega
  ·refine .inr ⟨rfl,?_⟩
   rcases bH with⟨hm,_,ap,A,gC⟩ | ⟨c,cap,hm,e,h1,h2,aJ⟩
   ·exact .inl ⟨by rw[J0 aC hs];exact hm,rfl,ap,A,gC⟩
   ·refine .inr ⟨c,cap,by rw[J0 aC hs];exact hm,by rw[e,Nat.zero_mul,Nat.zero_mul],h1,(fun h=>by cases h),?_⟩
    show 0+cap≤(match cv j with
     | some b=>E.cp b
     | none=>0)
    rw[hs];exact aJ
 | nil aC hs h=>exact z8 (E:=E) h hv rfl (V8 aC hs)
theorem V9 (az:SimH E H) (bF: ∀t,E.mL t=none) (cV:p1 H cK cv):SimH (E.own cK cv) cK:=by
 have gu:E.bG=E:=by
  have:E.mL=fun _=>none:=funext bF
  cases E;simp only[Env.bG] at*;subst this;rfl
 have mK: ∀c,(E.own cK cv).ff c→E.ff c:=fun c ⟨j,aC⟩=>by
  obtain⟨_,h | ⟨b,_,h⟩⟩:=s0 aC
  ·cases h.2
  ·exact⟨b,h⟩
 exact{
  heap:=fun j c hm=>by
   obtain⟨aC,h | ⟨b,hs,hb⟩⟩:=s0 hm
   ·cases h.2
   ·have hk:cK[j]?=some cK[j]:=List.getElem?_eq_getElem aC
    obtain⟨q,ag,bX,aw⟩:=cV.blk j b _ hk hs
    obtain⟨blk,aM,ty,q1,cj,q2,q3,q4,cw,cr⟩:=az.heap b c hb
    rw[ag] at q1
    obtain rfl:=Option.some.inj q1
    have bi:(E.own cK cv).sz j=E.sz b:=by
     show(cK[j]?.map Blk.sz).getD 0=_
     rw[hk,cj,bX];rfl
    have e2:(E.own cK cv).cp j=E.cp b:=by
     show(match cv j with
      | some b=>E.cp b
      | none=>0)=_
     rw[hs]
    refine⟨_,aM,ty,hk,by rw[bi,cj,bX],q2,by rw[bi,e2];exact q3,by rw[e2,←aw.1];exact q4,fun i row dR=> ?_,fun i l row a dR aL=> ?_⟩
    ·have aR:=(List.getElem?_eq_some_iff.1 dR).1
     have h1:q.rows[i]?=some (q.rows[i]'(by rw[aw.1];exact aR)):=List.getElem?_eq_getElem _
     rw[bi,←(aw.2 i _ row h1 dR).1];exact cw i _ h1
    ·have aR:=(List.getElem?_eq_some_iff.1 dR).1
     have h1:q.rows[i]?=some (q.rows[i]'(by rw[aw.1];exact aR)):=List.getElem?_eq_getElem _
     have ak:=aw.2 i _ row h1 dR
     have xD:=(List.getElem?_eq_some_iff.1 aL).1
     have h2:=List.getElem?_eq_getElem (l:=q.rows[i]'(by rw[aw.1];exact aR)) (i:=l) (by rw[ak.1];exact xD)
     obtain⟨u,hu,hv⟩:=cr i l _ _ h1 h2
     rw[gu] at hv
     exact⟨u,by rw[bi];exact hu,(ak.2 l _ a h2 aL).v1 az cV hv⟩
  dJ:=fun j k hk=>(cV.ba j k hk).symm
  fz:=fun j hm=>by
   obtain⟨aC,_⟩:=s0 hm
   have hk:cK[j]?=some cK[j]:=List.getElem?_eq_getElem aC
   exact⟨_,hk,by show(cK[j]?.map Blk.sz).getD 0=_;rw[hk];rfl⟩
  fresh:=fun j aC=>⟨by show(if j<cK.length then _ else _)=_;rw[if_neg (by omega)],rfl⟩
  fR:=fun i j c h1 h2=>by
   obtain⟨hi,h | ⟨b,hs,hb⟩⟩:=s0 h1
   ·cases h.2
   ·obtain⟨aC,h | ⟨bS,lj,dK⟩⟩:=s0 h2
    ·cases h.2
    ·have:=az.fR b bS c hb dK
     subst this
     exact cV.inj i j b hi aC hs lj
  gW:=fun t gZ c h=>by cases h
  e7:=fun b t c _ h=>by cases h
  fV:=fun c hc h=>az.fV c hc (mK c h)
  gm:=fun c hc ⟨t,h⟩=>by cases h
  dc:=az.dc
  df:=az.df
  ed:=fun c h=>az.ed c (mK c h)
  eQ:=fun c ⟨t,h⟩=>by cases h}
end
theorem c8.toOwn {P:Program} {f:FuncId} {args:List AV} {fJ:AV} {cK:List Blk} (h:c8 P f args [] fun r H=> ∃cv,p1 H cK cv∧Ea H cK.length cv r fJ):c8 P f args [] fun r H=>r=fJ∧H=cK:=by
 refine⟨h.1,fun E vs ap hs aL=>(h.2 E vs ap hs aL).mono ?_⟩
 rintro e w' ⟨r,v,H',E',rfl,⟨cv,cV,uo⟩,rfl,Rs,lj,hv,a6⟩
 refine⟨fJ,v,cK,E'.own cK cv,rfl,⟨rfl,rfl⟩,rfl,fun _=>rfl,V9 lj Rs cV,?_,?_⟩
 ·rcases uo with⟨l,l',rfl,rfl,ak⟩ | uo
  ·obtain⟨h8,rfl,ag⟩:=(show ∃h8:List Value,v= .agg h8.toArray∧aK (bT E') l h8 from hv)
   refine⟨h8,rfl,ak.1▸ag.1,fun i a u aL hu=> ?_⟩
   have aR:i<l.length:=by rw[ak.1];exact(List.getElem?_eq_some_iff.1 aL).1
   have h1:=List.getElem?_eq_getElem aR
   exact(ak.2 i _ a h1 aL).v1 lj cV (ag.2 i _ u h1 hu)
  ·have hH:bT E' r v:=by
    rw[lN,lM] at hv
    ·exact hv
    ·rintro l rfl;cases uo with
     | nil aC hs hx=>exact absurd hx Bool.false_ne_true
    ·rintro l rfl;cases uo with
     | nil aC hs hx=>exact absurd hx Bool.false_ne_true
   exact jk (jI (uo.v1 lj cV hH))
 ·have mK: ∀c,(E'.own cK cv).ff c→E'.ff c:=fun c ⟨j,aC⟩=>by
   obtain⟨_,h | ⟨b,_,h⟩⟩:=s0 aC
   ·cases h.2
   ·exact⟨b,h⟩
  exact{
   le:=⟨a6.le.ep,a6.le.et,a6.le.pV,a6.le.wf,fun b=>by rw[(hs.fresh b (Nat.zero_le _)).2];exact Nat.zero_le _,(fun b x hm _=>by rw[(hs.fresh b (Nat.zero_le _)).1] at hm;cases hm),(fun t c hm=>by rw[ap t] at hm;cases hm)⟩
   os:=a6.os,tape:=a6.tape,output:=a6.output,size:=a6.size,dM:=a6.dM
   gV:=fun b c hb=>(a6.nF c (mK c ⟨b,hb⟩)).elim (fun⟨j,aC⟩=>by rw[(hs.fresh j (Nat.zero_le _)).1] at aC;cases aC) .inr
   hr:=fun c ⟨t,h⟩=>by cases h
   ep:=a6.ep,et:=a6.et}
theorem p1.nil {H:List Blk} {cv:Nat→Option Nat}:p1 H [] cv:=⟨fun i j b h=>by simp at h,fun j k h=>by simp at h,fun j b k h=>by simp at h⟩
def l7 (l:List (Option Nat)) (j:Nat):Option Nat:=(l[j]?).getD none
def zb (H:List Blk) (cW:Nat) (cv:Nat→Option Nat) (k:Blk):Option Nat→Prop
 | none=>True
 | some b=> ∃q,H[b]?=some q∧q.sz=k.sz∧aK (aK (gQ H cW cv)) q.rows k.rows
def tG (H:List Blk) (cW:Nat) (cv:Nat→Option Nat):List (Option Nat)→List Blk→Prop
 | [],[]=>True
 | o::l,k::cK=>k.ba=0∧zb H cW cv k o∧tG H cW cv l cK
 | _,_=>False
theorem tG.get {H:List Blk} {cW:Nat} {cv:Nat→Option Nat}: ∀{l:List (Option Nat)} {cK:List Blk},tG H cW cv l cK→ ∀(j:Nat) (k:Blk),cK[j]?=some k→ ∃o,l[j]?=some o∧k.ba=0∧zb H cW cv k o
 | [],[],_,j,k,h=>by simp at h
 | o::l,q::cK,aL,0,k,h=>by simp at h;subst h;exact⟨o,rfl,aL.1,aL.2.1⟩
 | o::l,q::cK,aL,j+1,k,h=>by
  obtain⟨x,hx,h2⟩:=tG.get aL.2.2 j k (by simpa using h)
  exact⟨x,by simpa using hx,h2⟩
theorem nL {H cK:List Blk} (l:List (Option Nat)) (aE:l.length=cK.length) (aZ:(l.filterMap id).Nodup) (h:tG H cK.length (l7 l) l cK):p1 H cK (l7 l) where
 inj:=fun i j b hi aC h1 h2=>by
  have gv:i<l.length:=by omega
  have su:j<l.length:=by omega
  have bi:l[i]=some b:=by have:(l[i]?).getD none=some b:=h1;rwa [List.getElem?_eq_getElem gv] at this
  have e2:l[j]=some b:=by have:(l[j]?).getD none=some b:=h2;rwa [List.getElem?_eq_getElem su] at this
  rcases Nat.lt_trichotomy i j with aR | rfl | nw
  ·exfalso
   have ak:=List.pairwise_filterMap.1 aZ
   exact(List.pairwise_iff_getElem.1 ak i j gv su aR) b (by simpa using bi) b (by simpa using e2) rfl
  ·rfl
  ·exfalso
   have ak:=List.pairwise_filterMap.1 aZ
   exact(List.pairwise_iff_getElem.1 ak j i su gv nw) b (by simpa using e2) b (by simpa using bi) rfl
 ba:=fun j k hk=>by obtain⟨o,_,h1,_⟩:=h.get j k hk;exact h1
 blk:=fun j b k hk hs=>by
  obtain⟨o,aB,_,h2⟩:=h.get j k hk
  have:o=some b:=by have hs:(l[j]?).getD none=some b:=hs;rw[aB] at hs;exact hs
  subst this
  exact h2
theorem nR {H:List Blk} {cW:Nat} {cv:Nat→Option Nat} {α:Type} {enc:α→List AV} {b g sz:Nat} {xs ys:List α} (hb:H[b]?=some ⟨g,sz,List.map enc xs⟩) (hc: ∀x,aK (gQ H cW cv) (enc x) (enc x)) (e:xs=ys):
  zb H cW cv ⟨0,sz,List.map enc ys⟩ (some b):=by
 subst e
 refine⟨_,hb,rfl,rfl,fun i r yt h1 h2=> ?_⟩
 rw[List.getElem?_map] at h1 h2
 cases hx:xs[i]? with
 | none=>rw[hx] at h1;cases h1
 | some x=>rw[hx] at h1 h2;cases h1;cases h2;exact hc x
section
variable {H:List Blk} {cW:Nat} {cv:Nat→Option Nat}
theorem va (b:Bool):aK (gQ H cW cv) (aT b) (aT b):= .cons (.bool _) .nil
theorem vb (rows:List (List AV)) (fr:Bool):gQ H cW cv (.a8 rows false fr) (.a8 rows false fr):= .a8 _ _ _ _ id
theorem JP (x:b5):aK (gQ H cW cv) (dh x) (dh x):= .cons (.int _ _) (.cons (.int _ _) .nil)
theorem Cm (x:b8):aK (gQ H cW cv) (bn x) (bn x):= .cons (.int _ _) (.cons (.int _ _) .nil)
theorem Cp {k:IntKind} {a b:Int} (h:a=b):gQ H cW cv (.int k a) (.int k b):=h▸ .int k a
theorem V6 {a b:Bool} (h:a=b):gQ H cW cv (.bool a) (.bool b):=h▸ .bool a
theorem qV {b g n m j sz:Nat} {full:Bool} {rows:List (List AV)} (aC:j<cW) (hs:cv j=some b) (hb:H[b]?=some ⟨g,sz,rows⟩) (ap:n=m):gQ H cW cv (.ref b g 0 n full) (.ref j 0 0 m false):=ap▸ .ref aC hs hb rfl
theorem Cq {a:AV} {j m:Nat} (aC:j<cW) (hs:cv j=none) (h:ov a=true) (hm:0=m):gQ H cW cv a (.ref j 0 0 m false):=hm▸ .nil aC hs h
end
theorem qW {α:Type} {enc:α→List AV} {g sz:Nat} {xs:List α} {H:List Blk} (h1: ∀x,(enc x).all mT=true) (h2:pF H=true):pF (⟨g,sz,List.map enc xs⟩::H)=true:=by
 show(((List.map enc xs).all fun row=>row.all mT)&&H.all fun b=>b.rows.all fun row=>row.all mT)=true
 rw[Bool.and_eq_true]
 refine⟨?_,h2⟩
 rw[List.all_eq_true]
 intro row aw
 obtain⟨x,_,rfl⟩:=List.mem_map.1 aw
 exact h1 x
theorem rn {α:Type} {enc:α→List AV} {k g sz:Nat} {xs:List α} {H H':List Blk} (h1: ∀x,(enc x).map (h6 k)=enc x) (h2:H.map (iS k)=H'):(Blk.mk g sz (List.map enc xs)::H).map (iS k)=⟨g,sz,List.map enc xs⟩::H':=by
 subst h2
 show(⟨g,sz,(List.map enc xs).map fun row=>row.map (h6 k)⟩:Blk)::_=_
 rw[List.map_map]
 congr 2
 exact List.map_congr_left fun x _=>h1 x
theorem tp {k:Nat} {H cK H1 j4:List Blk} (h:cK.map (iS k)=H1) (e:H++H1=j4):H++cK.map (iS k)=j4:=by rw[h,e]
def Env.at (W:World):Env:={w:=W,PA:=fun c=>c<W.heap.size,PF:=fun _=>False,m:=fun _=>none,ba:=fun _=>0,sz:=fun _=>0,cp:=fun _=>0,mL:=fun _=>none}
theorem NH (W:World):SimH (Env.at W) [] where
 heap:=fun b c hb=>by cases hb
 dJ:=fun b blk hb=>by simp at hb
 fz:=fun b hb=>by cases hb
 fresh:=fun b _=>⟨rfl,rfl⟩
 fR:=fun b bS c hb=>by cases hb
 gW:=fun t gZ c hb=>by cases hb
 e7:=fun b t c hb=>by cases hb
 fV:=fun c _ ⟨b,hb⟩=>by cases hb
 gm:=fun c _ ⟨b,hb⟩=>by cases hb
 dc:=fun c hc=>hc.elim
 df:=fun c hc=>hc
 ed:=fun c ⟨b,hb⟩=>by cases hb
 eQ:=fun c ⟨b,hb⟩=>by cases hb
theorem TC {P:Program} {f:FuncId} {b9:List AV} {W:World} {vs:List Value} (h:bf P f b9 (.bool true)) (aL:aK (V2 (Env.at W)) b9 vs):
  Calls P f vs.toArray W fun e Ee=>e= .returned (.bool true)∧RowKit.Below W.heap.size W Ee:=by
 refine(h.2 (Env.at W) vs (fun _=>rfl) (NH W) aL).mono ?_
 rintro e w' ⟨r,v,H',E',rfl,aw,rfl,ap,hs,hv,a6⟩
 have hb:r= .bool true:=by
  rcases aw with⟨l,l',_,e,_⟩ | ⟨l,l',_,e,_⟩ | aw
  ·cases e
  ·cases e
  ·cases aw;rfl
 subst hb
 refine⟨by rw[V3.mh hv],a6.os,a6.tape,a6.output,a6.size,fun k hk=>a6.dM k hk (fun⟨b,hb⟩=>by cases hb) (fun⟨b,hb⟩=>by cases hb)⟩
def za (W:World):AV→Value→Prop:=a1 W (fun c=>c<W.heap.size) (fun _=>False)
def e0 (P:Program) (W:World) (t:TypeId) {α:Type} (enc:α→List AV):Prop:=
 ∀{H:Type} (il:TypeId×Value→H) (ho:Nat) (aM:List Value) (x:DataW H×List MemPlace),DataW.trod il P W 0 (fun _=>true) true ho t aM=some x→(∀n∈x.1.weights P t,n≤reachBytes)→ ∃y:α,aK (za W) (enc y) aM
section
variable {P:Program} {W:World}
theorem kg {t:TypeId} {k:IntKind} (hu:P.underlying t=some (.int k)):e0 P W t (fun n:Int=>[.int k n]):=fun il ho aM x h _=>by
 obtain⟨n,rfl,_⟩:=DataW.trod_int hu h
 exact⟨n,.cons (.int _ _) .nil⟩
theorem vd {t:TypeId} (hu:P.underlying t=some .bool):e0 P W t aT:=fun il ho aM x h _=>by
 obtain⟨n,rfl,_⟩:=DataW.trod_bool hu h
 exact⟨n,.cons (.bool _) .nil⟩
theorem Vs {α:Type} (n:Nat) (φ:Nat→α→Prop) (h: ∀i,i<n→ ∃y,φ i y): ∃ys:List α,ys.length=n∧ ∀(i:Nat) (y:α),ys[i]?=some y→φ i y:=by
 induction n with
 | zero=>exact⟨[],rfl,fun i y h=>by simp at h⟩
 | succ n bx=>
  obtain⟨ys,aE,bm⟩:=bx fun i hi=>h i (by omega)
  obtain⟨z,aH⟩:=h n (by omega)
  refine⟨ys++[z],by simp[aE],fun i y hi=> ?_⟩
  rcases Nat.lt_or_ge i n with aR | eK
  ·rw[List.getElem?_append_left (by omega)] at hi
   exact bm i y hi
  ·rw[List.getElem?_append_right (by omega)] at hi
   rcases Nat.eq_or_lt_of_le eK with rfl | nw
   ·rw[aE,Nat.sub_self] at hi
    cases hi;exact aH
   ·rw[List.getElem?_eq_none (by simp;omega)] at hi
    cases hi
theorem Jv {α β:Type} {f:α→Option β}: ∀{l:List α} {r:List β},l.mapM f=some r→r.length=l.length∧ ∀(i:Nat) (a:α),l[i]?=some a→f a=r[i]?
 | [],r,h=>by simp at h;subst h;exact⟨rfl,fun i a h=>by simp at h⟩
 | x::l,r,h=>by
  rw[List.mapM_cons] at h
  simp only[bind,Option.bind_eq_some_iff,pure,Option.some.injEq] at h
  obtain⟨b,hb,yt,aw,rfl⟩:=h
  obtain⟨h1,h2⟩:=Jv aw
  refine⟨by simp[h1],fun i a aL=> ?_⟩
  cases i with
  | zero=>simp at aL;subst aL;simpa using hb
  | succ i=>exact h2 i a (by simpa using aL)
theorem Oy {a:Addr} {n:Nat} {l:List Value} (h:W.cells? 0 a n=some l):l.length=n∧ ∀j,j<n→W.cell? (a.add j)=l[j]?:=by
 unfold World.cells? at h
 rw[if_pos (Nat.zero_le _)] at h
 obtain⟨aE,aI⟩:=Jv h
 rw[List.length_range] at aE
 exact⟨aE,fun j aC=>aI j j (List.getElem?_range aC)⟩
theorem Zj {a:Addr} {v:Value} (h:W.cell? a=some v):a.spot=none∧a.block<W.heap.size:=by
 unfold World.cell? at h
 split at h
 ·rename_i c _ _ hb
  split at h
  ·cases h
  ·rename_i hs
   refine⟨by cases ag:a.spot<;>simp_all,?_⟩
   rcases Nat.lt_or_ge a.block W.heap.size with h1 | h1
   ·exact h1
   ·rw[Array.getElem?_eq_none h1] at hb;cases hb
 ·cases h
theorem add_add (c o x y:Nat):((⟨c,o,none⟩:Addr).add x).add y=⟨c,o+(x+y),none⟩:=by
 rw[kZ,kZ,Nat.add_assoc]
theorem ls {t e:TypeId} {α:Type} {enc:α→List AV} (hu:P.underlying t=some (.slice e)) (hb:1≤P.bytesOf e) (aH:1≤P.cellsOf e) (hc: ∀x,(enc x).length=P.cellsOf e) (h:e0 P W e enc):e0 P W t (e3 enc false):=by
 intro H il ho aM x bt hw
 rcases DataW.trod_slice hu bt with⟨rfl,rfl⟩ | ⟨a,len,cap,sb,rest,n,_,rfl,rfl,_,aE,_,hlen,qq,_,_⟩
 ·refine⟨[],.cons ?_ .nil⟩
  exact a1.a8 (rows:=[]) (PB:=fun _=>False) (sz:=0) (vs:=fun _ _=>undef) (fun _ h=>h.elim) ⟨Nat.le_refl _,Nat.zero_le _⟩ (fun h=>by cases h) (fun i row h=>by simp at h) (fun h=>by simp at h) (fun i j row a h=>by simp at h)
 ·have sG:(sb.length+rest.length)*P.bytesOf e≤reachBytes:=by
   have:=hw ((sb.length+rest.length)*P.bytesOf e) (by simp[DataW.weights,hu])
   simpa using this
  have hp:len≤4611686018427387904:=by
   have h1:sb.length+rest.length≤(sb.length+rest.length)*P.bytesOf e:=Nat.le_mul_of_pos_right _ hb
   have h2:=reachBytes_lt
   have aJ:(2:Nat) ^ 47=140737488355328:=rfl
   omega
  have ds: ∀(l:List (DataW H)) (d:DataW H),d∈l→ ∀m∈d.weights P e,m∈DataW.weightsAll P e l:=by
   intro l
   induction l with
   | nil=>intro d aZ;cases aZ
   | cons q l bx=>
    intro d aZ m hm
    simp only[DataW.weightsAll,List.mem_append]
    rcases List.mem_cons.1 aZ with rfl | aZ
    ·exact .inl hm
    ·exact .inr (bx d aZ m hm)
  obtain⟨ys,xO,bm⟩:=Vs len (fun i y=> ∃l,W.cells? 0 (a.add (i*P.cellsOf e)) (P.cellsOf e)=some l∧aK (za W) (enc y) l) fun i hi=>by
   have h1:=qq i hi
   have h2:sb[i]?=some (sb[i]'(by omega)):=List.getElem?_eq_getElem _
   rw[h2,Option.bind_eq_some_iff] at h1
   obtain⟨l,ql,R0⟩:=h1
   obtain⟨y,bm⟩:=h il n l _ R0 fun m hm=>hw m (by
    simp only[DataW.weights,hu,List.mem_cons,List.mem_append]
    exact .inr (.inl (ds _ _ (List.mem_map.2 ⟨_,List.getElem_mem (by omega),rfl⟩) m hm)))
   exact⟨y,l,ql,bm⟩
  have fx: ∀i j,i<len→j<P.cellsOf e→ ∃l v,W.cells? 0 (a.add (i*P.cellsOf e)) (P.cellsOf e)=some l∧l[j]?=some v∧W.cell? ((a.add (i*P.cellsOf e)).add j)=some v:=fun i j hi aC=>by
   obtain⟨l,mD,_⟩:=bm i _ (List.getElem?_eq_getElem (by omega))
   obtain⟨q1,q2⟩:=Oy mD
   exact⟨l,l[j]'(by omega),mD,List.getElem?_eq_getElem _,by rw[q2 j aC];exact List.getElem?_eq_getElem _⟩
  let vs:Nat→Nat→Value:=fun i j=>(((W.cells? 0 (a.add (i*P.cellsOf e)) (P.cellsOf e)).getD [])[j]?).getD undef
  refine⟨ys,.cons ?_ .nil⟩
  have key:=a1.a8 (w:=W) (PA:=fun c=>c<W.heap.size) (PF:=fun _=>False) (PB:=fun c=>c<W.heap.size) (rows:=List.map enc ys) (full:=false) (fresh:=false) (A:=some a) (cap:=cap) (sz:=P.cellsOf e) (vs:=vs)
   (fun c hc=>by simpa using hc) (by rw[List.length_map,xO];exact⟨aE,hp⟩) (fun h=>by cases h)
   (fun i row aw=>by
    rw[List.getElem?_map] at aw
    cases ag:ys[i]? with
    | none=>rw[ag] at aw;cases aw
    | some y=>rw[ag] at aw;cases aw;exact hc y)
   (fun i_=>by
    rw[List.length_map,xO] at i_
    obtain⟨l,v,_,_,hv⟩:=fx 0 0 i_ aH
    rw[Nat.zero_mul] at hv
    have aN:(a.add 0).add 0=a:=by simp[Addr.add]
    rw[aN] at hv
    obtain⟨hs,aR⟩:=Zj hv
    obtain⟨c,o,s⟩:=a
    have hs:s=none:=hs
    subst hs
    refine⟨c,o,rfl,aR,fun i j hi aC=> ?_⟩
    rw[List.length_map,xO] at hi
    obtain⟨l,v,q1,q2,q3⟩:=fx i j hi aC
    rw[add_add] at q3
    rw[q3]
    show some v=some ((((W.cells? 0 _ _).getD [])[j]?).getD undef)
    rw[q1]
    show some v=some ((l[j]?).getD undef)
    rw[q2];rfl)
   (fun i j row b aw aC=>by
    rw[List.getElem?_map] at aw
    cases ag:ys[i]? with
    | none=>rw[ag] at aw;cases aw
    | some y=>
     rw[ag] at aw;cases aw
     obtain⟨l,mD,ak⟩:=bm i y ag
     obtain⟨v,hv,kb⟩:=ak.get aC
     show a1 W _ _ b ((((W.cells? 0 _ _).getD [])[j]?).getD undef)
     rw[mD]
     show a1 W _ _ b ((l[j]?).getD undef)
     rw[hv];exact kb)
  rw[List.length_map,xO] at key
  exact key
def pQ (P:Program) (t:TypeId) (cc:List TypeId):Bool:=match P.underlying t with
 | some (.struct dl)=>(dl.toList.zipIdx.all fun p=>p.1.offset==p.2&&P.cellsOf p.1.type==1)&&dl.toList.map (·.type)==cc&&P.cellsOf t==cc.length
 | _=>false
theorem tv {t:TypeId} {cc:List TypeId} (hs:pQ P t cc=true) {H:Type} {il:TypeId×Value→H} {ho:Nat} {aM:List Value} {x:DataW H×List MemPlace} (h:DataW.trod il P W 0 (fun _=>true) true ho t aM=some x)
  (hw: ∀n∈x.1.weights P t,n≤reachBytes):aM.length=cc.length∧ ∀(i:Nat) (u:TypeId) (v:Value),cc[i]?=some u→aM[i]?=some v→ ∃(n:Nat) (z:DataW H×List MemPlace),DataW.trod il P W 0 (fun _=>true) true n u [v]=some z∧ ∀m∈z.1.weights P u,m≤reachBytes:=by
 unfold pQ at hs
 split at hs
 ·rename_i dl hu
  simp only[Bool.and_eq_true,beq_iff_eq] at hs
  obtain⟨⟨h1,h2⟩,aJ⟩:=hs
  obtain⟨xs,n,_,rfl,aE,mI,hf⟩:=DataW.trod_struct hu h
  refine⟨by rw[aE,aJ],fun i u v bt hv=> ?_⟩
  have hi:i<dl.size:=by
   have:=(List.getElem?_eq_some_iff.1 bt).1
   rw[←h2] at this;simpa using this
  have AX:dl[i]?=some dl[i]:=Array.getElem?_eq_getElem hi
  have R2:dl[i].type=u:=by
   have:(dl.toList.map (·.type))[i]?=some u:=by rw[h2];exact bt
   rw[List.getElem?_map,Array.getElem?_toList,AX] at this
   exact Option.some.inj this
  have A8:=List.all_eq_true.1 h1 (dl[i],i) (by rw[List.mem_zipIdx_iff_getElem?];rw[Array.getElem?_toList];exact AX)
  simp only[Bool.and_eq_true,beq_iff_eq] at A8
  have:=hf i dl[i] AX
  rw[A8.1,A8.2,R2] at this
  have RD:(aM.drop i).take 1=[v]:=by
   have aR:=(List.getElem?_eq_some_iff.1 hv).1
   rw[List.drop_eq_getElem_cons aR,List.take_succ_cons,List.take_zero]
   have:=(List.getElem?_eq_some_iff.1 hv).2
   rw[this]
  rw[RD] at this
  have G9:xs[i]?=some (xs[i]'(by omega)):=List.getElem?_eq_getElem _
  rw[G9] at this
  refine⟨n,_,this,fun m hm=>hw m ?_⟩
  simp only[DataW.weights,hu]
  exact DataW.weights_mem_each (j:=i) (by rw[h2];exact bt) (by rw[List.getElem?_map,G9];rfl) m hm
 ·cases hs
theorem r9 {aM:List Value} (h:aM.length=2): ∃a b,aM=[a,b]:=by
 match aM,h with
 | [a,b],_=>exact⟨a,b,rfl⟩
theorem Ov {aM:List Value} (h:aM.length=4): ∃a b c d,aM=[a,b,c,d]:=by
 match aM,h with
 | [a,b,c,d],_=>exact⟨a,b,c,d,rfl⟩
theorem zw {aM:List Value} (h:aM.length=5): ∃a b c d e,aM=[a,b,c,d,e]:=by
 match aM,h with
 | [a,b,c,d,e],_=>exact⟨a,b,c,d,e,rfl⟩
theorem ht {α:Type} {u:TypeId} {enc:α→List AV} {f:α→AV} (he: ∀y,enc y=[f y]) (h:e0 P W u enc) {H:Type} {il:TypeId×Value→H} {n:Nat} {v:Value} {z:DataW H×List MemPlace} (bt:DataW.trod il P W 0 (fun _=>true) true n u [v]=some z)
  (hw: ∀m∈z.1.weights P u,m≤reachBytes): ∃y,za W (f y) v:=by
 obtain⟨y,bm⟩:=h il n [v] z bt hw
 rw[he] at bm
 exact⟨y,bm.head⟩
theorem JV {t a b:TypeId} (hs:pQ P t [a,b]=true) (aL:e0 P W a ca) (hb:e0 P W b ca):e0 P W t dh:=fun il ho aM x h hw=>by
 obtain⟨aE,hc⟩:=tv hs h hw
 obtain⟨gp,c1,rfl⟩:=r9 aE
 obtain⟨cW,z0,cj,aS⟩:=hc 0 a gp rfl rfl
 obtain⟨eS,v8,q1,bQ⟩:=hc 1 b c1 rfl rfl
 obtain⟨j2,fJ⟩:=ht (fun _=>rfl) aL cj aS
 obtain⟨lH,dr⟩:=ht (fun _=>rfl) hb q1 bQ
 exact⟨⟨j2,lH⟩,.cons fJ (.cons dr .nil)⟩
theorem V4 {t a b:TypeId} (hs:pQ P t [a,b]=true) (aL:e0 P W a ca) (hb:e0 P W b ca):e0 P W t bn:=fun il ho aM x h hw=>by
 obtain⟨aE,hc⟩:=tv hs h hw
 obtain⟨gp,c1,rfl⟩:=r9 aE
 obtain⟨cW,z0,cj,aS⟩:=hc 0 a gp rfl rfl
 obtain⟨eS,v8,q1,bQ⟩:=hc 1 b c1 rfl rfl
 obtain⟨j2,fJ⟩:=ht (fun _=>rfl) aL cj aS
 obtain⟨lH,dr⟩:=ht (fun _=>rfl) hb q1 bQ
 exact⟨⟨j2,lH⟩,.cons fJ (.cons dr .nil)⟩
theorem V5 {t a b c d e:TypeId} (hs:pQ P t [a,b,c,d,e]=true) (aL:e0 P W a (e3 ca false)) (hb:e0 P W b (e3 dh false)) (qn:e0 P W c (e3 dh false)) (aZ:e0 P W d (e3 ca false)) (he:e0 P W e (e3 ca false)):e0 P W t (dI false):=fun il ho aM x h hw=>by
 obtain⟨aE,hc⟩:=tv hs h hw
 obtain⟨gp,c1,c2,c3,c4,rfl⟩:=zw aE
 obtain⟨cW,z0,cj,aS⟩:=hc 0 a gp rfl rfl
 obtain⟨eS,v8,q1,bQ⟩:=hc 1 b c1 rfl rfl
 obtain⟨n2,z2,q2,dy⟩:=hc 2 c c2 rfl rfl
 obtain⟨kf,z3,q3,gO⟩:=hc 3 d c3 rfl rfl
 obtain⟨JB,z4,q4,vY⟩:=hc 4 e c4 rfl rfl
 obtain⟨j2,fJ⟩:=ht (fun _=>rfl) aL cj aS
 obtain⟨lH,dr⟩:=ht (fun _=>rfl) hb q1 bQ
 obtain⟨rJ,dT⟩:=ht (fun _=>rfl) qn q2 dy
 obtain⟨rK,fh⟩:=ht (fun _=>rfl) aZ q3 gO
 obtain⟨v7,lA⟩:=ht (fun _=>rfl) he q4 vY
 exact⟨⟨j2,lH,rJ,rK,v7⟩,.cons fJ (.cons dr (.cons dT (.cons fh (.cons lA .nil))))⟩
theorem V1 {t a b c d e:TypeId} (hs:pQ P t [a,b,c,d,e]=true) (aL:e0 P W a ca) (hb:e0 P W b (e3 ca false)) (qn:e0 P W c (e3 (dI false) false)) (aZ:e0 P W d (e3 (e3 aT false) false)) (he:e0 P W e ca):e0 P W t (bW false):=fun il ho aM x h hw=>by
 obtain⟨aE,hc⟩:=tv hs h hw
 obtain⟨gp,c1,c2,c3,c4,rfl⟩:=zw aE
 obtain⟨cW,z0,cj,aS⟩:=hc 0 a gp rfl rfl
 obtain⟨eS,v8,q1,bQ⟩:=hc 1 b c1 rfl rfl
 obtain⟨n2,z2,q2,dy⟩:=hc 2 c c2 rfl rfl
 obtain⟨kf,z3,q3,gO⟩:=hc 3 d c3 rfl rfl
 obtain⟨JB,z4,q4,vY⟩:=hc 4 e c4 rfl rfl
 obtain⟨j2,fJ⟩:=ht (fun _=>rfl) aL cj aS
 obtain⟨lH,dr⟩:=ht (fun _=>rfl) hb q1 bQ
 obtain⟨rJ,dT⟩:=ht (fun _=>rfl) qn q2 dy
 obtain⟨rK,fh⟩:=ht (fun _=>rfl) aZ q3 gO
 obtain⟨v7,lA⟩:=ht (fun _=>rfl) he q4 vY
 exact⟨⟨j2,lH,rJ,rK,v7⟩,.cons fJ (.cons dr (.cons dT (.cons fh (.cons lA .nil))))⟩
theorem V0 {t a b c d e:TypeId} (hs:pQ P t [a,b,c,d,e]=true) (aL:e0 P W a ca) (hb:e0 P W b ca) (qn:e0 P W c (e3 aT false)) (aZ:e0 P W d aT) (he:e0 P W e ca):e0 P W t (cl false):=fun il ho aM x h hw=>by
 obtain⟨aE,hc⟩:=tv hs h hw
 obtain⟨gp,c1,c2,c3,c4,rfl⟩:=zw aE
 obtain⟨cW,z0,cj,aS⟩:=hc 0 a gp rfl rfl
 obtain⟨eS,v8,q1,bQ⟩:=hc 1 b c1 rfl rfl
 obtain⟨n2,z2,q2,dy⟩:=hc 2 c c2 rfl rfl
 obtain⟨kf,z3,q3,gO⟩:=hc 3 d c3 rfl rfl
 obtain⟨JB,z4,q4,vY⟩:=hc 4 e c4 rfl rfl
 obtain⟨j2,fJ⟩:=ht (fun _=>rfl) aL cj aS
 obtain⟨lH,dr⟩:=ht (fun _=>rfl) hb q1 bQ
 obtain⟨rJ,dT⟩:=ht (fun _=>rfl) qn q2 dy
 obtain⟨rK,fh⟩:=ht (fun _=>rfl) aZ q3 gO
 obtain⟨v7,lA⟩:=ht (fun _=>rfl) he q4 vY
 exact⟨⟨j2,lH,rJ,rK,v7⟩,.cons fJ (.cons dr (.cons dT (.cons fh (.cons lA .nil))))⟩
theorem VZ {t a b c d:TypeId} (hs:pQ P t [a,b,c,d]=true) (aL:e0 P W a aT) (hb:e0 P W b (e3 aT false)) (qn:e0 P W c (e3 bn false)) (aZ:e0 P W d (e3 (cl false) false)):e0 P W t (ck false):=fun il ho aM x h hw=>by
 obtain⟨aE,hc⟩:=tv hs h hw
 obtain⟨gp,c1,c2,c3,rfl⟩:=Ov aE
 obtain⟨cW,z0,cj,aS⟩:=hc 0 a gp rfl rfl
 obtain⟨eS,v8,q1,bQ⟩:=hc 1 b c1 rfl rfl
 obtain⟨n2,z2,q2,dy⟩:=hc 2 c c2 rfl rfl
 obtain⟨kf,z3,q3,gO⟩:=hc 3 d c3 rfl rfl
 obtain⟨j2,fJ⟩:=ht (fun _=>rfl) aL cj aS
 obtain⟨lH,dr⟩:=ht (fun _=>rfl) hb q1 bQ
 obtain⟨rJ,dT⟩:=ht (fun _=>rfl) qn q2 dy
 obtain⟨rK,fh⟩:=ht (fun _=>rfl) aZ q3 gO
 exact⟨⟨j2,lH,rJ,rK⟩,.cons fJ (.cons dr (.cons dT (.cons fh .nil)))⟩
theorem Es {t:TypeId} {α:Type} {enc:α→List AV} {k:Nat} (h:e0 P W t enc) (hk:2≤k) (hc: ∀y,(enc y).length=k) {H:Type} {il:TypeId×Value→H} {v:Value} {d:DataW H} {ps:List MemPlace} (bt:DataW.Trod il P W 0 (fun _=>true) true t v d ps)
  (hw: ∀n∈d.weights P t,n≤reachBytes): ∃y,V2 (Env.at W) (.agg (enc y)) v:=by
 obtain⟨ho,hf⟩:=bt
 obtain⟨y,ak⟩:=h il ho _ _ hf hw
 have aE:=ak.1
 rw[hc] at aE
 have hv:v= .agg v.cells:=by
  cases v<;>first | rfl | (simp[Value.cells] at aE;omega)
 refine⟨y,v.cells.toList,by rw[Array.toArray_toList];exact hv,ak.mono fun a u aw=>a1.v1 (E:=Env.at W) aw⟩
end
def H4 (P:Program) (fn:Func) (c:OpenClaim):Bool:=c.kinds==(if c.domain.isEmpty then[] else fn.params.toList.map fun t=>match P.underlying t with | some (.int k)=>some k | _=>none)
theorem Tx {P:Program} {f:FuncId} {fn:Func} {s:ChangeSpec} {c:OpenClaim} (aN:(c.wf (OpenSpec.ofChange s))=true) (h1:laidOutB P=true) (h2:mapsRowed P=true) (aJ:fn.params.all (P.readableRec ·)=true) (bj:namedTie P c.named s.vars=true) (cP:(c.stops==[])=true) (eg:(P.stops==[])=true) (j8:(c.knobs==[])=true) (ob:(P.stopKnobs==[])=true) (qf:(c.inPlace==P.inPlace f)=true) (pb:(c.unfollowed==P.unfollowed f)=true) (Qr:(c.recurses==P.recurses f)=true) (Qs:(c.named==P.varsNamed f)=true) (Qt:(c.maps==(fn.params.toList++s.plain.varTypes P).any (P.mapsRec ·))=true) (Qu:(c.ifaces==(fn.params.toList++s.plain.varTypes P).any (P.ifacesRec ·))=true) (Qv:(c.mapsOut==P.mapsAmong fn.resultTypes.toList)=true) (Qw:(c.loops==(fn.params.toList++s.plain.varTypes P).any (P.loopsFrom ·))=true) (Qx:(c.wideKeys==(fn.params.toList++s.plain.varTypes P++fn.resultTypes.toList).any (P.wideKeysFrom ·))=true) (Qy:s.vars.all (P.varReadable ·)=true) (Qz:fn.resultTypes.all (fun t=>P.readableRec t&&decide (t<P.types.size))=true) (xh:(c.ifacesOut==fn.resultTypes.toList.any (P.ifacesRec ·))=true) (QA:(c.loopsOut==fn.resultTypes.toList.any (P.loopsFrom ·))=true) (QB:(c.plainKeys==P.plainKeys)=true) (QC:c.shortTexts.isNone=true) (QD:P.stopsHeard=true) (QE:P.mayEnter=true) (QF:(c.lifted==P.liftsFinal)=true) (QG:(P.make==some c.make)=true) (QH:H4 P fn c=true) (QI:(c.pinned==c.pinnedBy)=true) (j7:(c.veiled==(fn.params.toList++s.plain.varTypes P++fn.resultTypes.toList).any (P.veiledRec ·))=true) (QJ:c.veiledFits P fn.params.toList (fn.params.toList++s.plain.varTypes P++fn.resultTypes.toList)=true):joinedFacts P f fn s c=true:=by
 unfold joinedFacts
 simp only[Bool.and_eq_true]
 exact⟨⟨⟨⟨⟨⟨⟨⟨⟨⟨⟨⟨⟨⟨⟨⟨⟨⟨⟨⟨⟨⟨⟨⟨⟨⟨⟨⟨⟨⟨⟨aN,h1⟩,h2⟩,aJ⟩,bj⟩,cP⟩,eg⟩,j8⟩,ob⟩,qf⟩,pb⟩,Qr⟩,Qs⟩,Qt⟩,Qu⟩,Qv⟩,Qw⟩,Qx⟩,Qy⟩,Qz⟩,xh⟩,QA⟩,QB⟩,QC⟩,QD⟩,QE⟩,QF⟩,QG⟩,QH⟩,QI⟩,j7⟩,QJ⟩
theorem VT {α:Type} [Inhabited α] {xs:List α} {i:Int} (h:i.toNat<xs.length):nth xs i=xs[i.toNat]:=by
 have:=fg h
 rw[List.getElem?_eq_getElem h] at this
 exact(Option.some.inj this).symm
def bz (b:List Bool):Blk:=⟨0,1,List.map aT b⟩
def ju (s:Nat) (h:ab) (id:Nat):List AV:=[.int .i64 h.au,.int .i64 h.aa,.ref (id+s) 0 0 h.U.length false,.bool h.an,.int .i64 h.ao]
def bd (s:Nat) (ws:List ab) (ids:List Nat):List (List AV):=List.zipWith (ju s) ws ids
def view (ws:List ab) (ids:List Nat) (bs:List (List Bool)):List ab:=List.zipWith (fun h id=>{h with U:=bs.getD id []}) ws ids
structure kV (ws:List ab) (ids:List Nat) (bs:List (List Bool)):Prop where
 len:ws.length=ids.length
 lt: ∀(i id:Nat),ids[i]?=some id→id<bs.length
 U: ∀(i id:Nat) (h:ab),ws[i]?=some h→ids[i]?=some id→h.U.length=(bs.getD id []).length
theorem dU {s:Nat} {ws:List ab} {ids:List Nat} {i:Int} (aE:ws.length=ids.length) (hi:i.toNat<ws.length):(bd s ws ids)[i.toNat]?=some (ju s (nth ws i) (nth ids i)):=by
 unfold bd
 rw[List.getElem?_zipWith,fg hi,fg (by omega)]
theorem us {s:Nat} {ws:List ab} {ids:List Nat} (aE:ws.length=ids.length):(bd s ws ids).length=ws.length:=by
 unfold bd;rw[List.length_zipWith];omega
theorem xn {s:Nat} {ws:List ab} {ids:List Nat} {i:Nat} {h:ab} {id:Nat} (aE:ws.length=ids.length):(bd s ws ids).set i (ju s h id)=bd s (ws.set i h) (ids.set i id):=by
 apply List.ext_getElem?
 intro j
 unfold bd
 rw[List.getElem?_set,List.getElem?_zipWith,List.getElem?_zipWith,List.getElem?_set,List.getElem?_set]
 by_cases kC:i=j
 ·subst kC
  simp only[if_true,List.length_zipWith]
  by_cases hi:i<ws.length
  ·rw[if_pos (by omega),if_pos hi,if_pos (by omega)]
  ·rw[if_neg (by omega),if_neg hi]
 ·simp only[if_neg kC]
theorem ld {s:Nat} {ws:List ab} {ids:List Nat} {i:Int} {h:ab} (aE:ws.length=ids.length) (hi:i.toNat<ws.length):(bd s ws ids).set i.toNat (ju s h (nth ids i))=bd s (ws.set i.toNat h) ids:=by
 rw[xn aE]
 congr 1
 rw[VT (by omega)]
 exact List.set_getElem_self _
theorem QT {s:Nat} {ws:List ab} {ids:List Nat} {h:ab} {id:Nat} (aE:ws.length=ids.length):bd s ws ids++[ju s h id]=bd s (ws++[h]) (ids++[id]):=by
 unfold bd
 rw[List.zipWith_append aE];rfl
theorem o5 {bs:List (List Bool)} {id:Nat} (h:id<bs.length):(List.map bz bs)[id]?=some (bz (bs.getD id [])):=by
 rw[List.getElem?_map,List.getElem?_eq_getElem h,List.getD_eq_getElem?_getD,List.getElem?_eq_getElem h];rfl
theorem An {bs:List (List Bool)} {id:Nat} {b:List Bool}:(List.map bz bs).set id (bz b)=List.map bz (bs.set id b):=by rw[List.map_set]
theorem tY {b:List Bool} {i:Int} (h:i.toNat<b.length):(List.map aT b)[i.toNat]?=some (aT (nth b i)):=by rw[List.getElem?_map,fg h];rfl
theorem zq {b:List Bool} {i:Nat} {x:Bool}:(List.map aT b).set i (aT x)=List.map aT (b.set i x):=by rw[List.map_set]
theorem h9 {ws:List ab} {ids:List Nat} {bs:List (List Bool)} (h:kV ws ids bs):(view ws ids bs).length=ws.length:=by
 unfold view;rw[List.length_zipWith];have:=h.len;omega
theorem tB {ws:List ab} {ids:List Nat} {bs:List (List Bool)} {i:Nat} {h:ab} {id:Nat} (h1:ws[i]?=some h) (h2:ids[i]?=some id):(view ws ids bs)[i]?=some {h with U:=bs.getD id []}:=by
 unfold view;rw[List.getElem?_zipWith,h1,h2]
theorem rb {s:Nat} {ws:List ab} {ids:List Nat} {i:Nat} {row:List AV} (h:(bd s ws ids)[i]?=some row): ∃x id,ws[i]?=some x∧ids[i]?=some id∧row=ju s x id:=by
 unfold bd at h
 rw[List.getElem?_zipWith] at h
 cases hx:ws[i]? with
 | none=>rw[hx] at h;cases h
 | some x=>
  cases aZ:ids[i]? with
  | none=>rw[hx,aZ] at h;cases h
  | some id=>rw[hx,aZ] at h;cases h;exact⟨x,id,rfl,rfl,rfl⟩
theorem yD {L:List (Nat×List AV)} {H:List Blk} {b s n:Nat} {full:Bool} {ws:List ab} {ids:List Nat} {bs:List (List Bool)} (ap:n=ws.length) (hb:H[b]?=some ⟨0,5,bd s ws ids⟩)
  (hf: ∀(id:Nat) (k:Blk),(List.map bz bs)[id]?=some k→H[id+s]?=some k) (ok:kV ws ids bs) (hp:ws.length≤4611686018427387904) (xi: ∀x∈bs,x.length≤4611686018427387904):
  eE L H (.ref b 0 0 n full) (.a8 (List.map (cl false) (view ws ids bs)) false false):=by
 subst ap
 refine eE.ref (fun h=>by cases h) hb rfl (by rw[List.length_map,h9 ok]) hp (by rw[Nat.zero_add,us ok.len];exact Nat.le_refl _) (fun i row row' h1 h2=> ?_) (fun i j row row' a c h1 h2 aJ bj=> ?_)
 ·rw[Nat.zero_add] at h1
  obtain⟨x,id,hx,aZ,rfl⟩:=rb h1
  rw[List.getElem?_map,tB hx aZ] at h2
  cases h2;rfl
 ·rw[Nat.zero_add] at h1
  obtain⟨x,id,hx,aZ,rfl⟩:=rb h1
  rw[List.getElem?_map,tB hx aZ] at h2
  cases h2
  have aR:=ok.lt i id aZ
  have key:lI L H (ju s x id) (cl false {x with U:=bs.getD id []}):=by
   refine .cons (.int _ _) (.cons (.int _ _) (.cons ?_ (.cons (.bool _) (.cons (.int _ _) .nil))))
   have hm:bs.getD id []∈bs:=by rw[List.getD_eq_getElem?_getD,List.getElem?_eq_getElem aR];exact List.getElem_mem aR
   exact re (eT:=aT) (eF:=aT) (sz:=1) (ok.U i id x hx aZ) (hf id _ (o5 aR)) xP (xi _ hm)
  exact key.2 j a c aJ bj
theorem Zk {H:List Blk} {b g s n:Nat} {full:Bool} {ws ys:List ab} {ids:List Nat} {bs:List (List Bool)} (ap:n=ws.length) (hb:H[b]?=some ⟨g,5,bd s ws ids⟩)
  (hf: ∀(id:Nat) (k:Blk),(List.map bz bs)[id]?=some k→H[id+s]?=some k) (h:kV ws ids bs∧ws.length≤4611686018427387904∧(∀x∈bs,x.length≤4611686018427387904)∧view ws ids bs=ys):
  e1 H (.ref b g 0 n full) (.a8 (List.map (cl false) ys) false true):=by
 obtain⟨ok,hp,xi,rfl⟩:=h
 subst ap
 refine e1.ref (fun h=>by cases h) (fun i j=>(((view ws ids bs)[i]?).bind fun x=>(cl true x)[j]?).getD .undef) hb rfl (by rw[List.length_map,h9 ok]) hp (by rw[Nat.zero_add,us ok.len];exact Nat.le_refl _) (fun i row row' h1 h2=> ?_) (fun i j row a hi h1 h2=> ?_) (fun i j row' c h1 h2=> ?_)
 ·rw[Nat.zero_add] at h1
  obtain⟨x,id,hx,aZ,rfl⟩:=rb h1
  rw[List.getElem?_map,tB hx aZ] at h2
  cases h2;rfl
 ·rw[Nat.zero_add] at h1
  obtain⟨x,id,hx,aZ,rfl⟩:=rb h1
  rw[tB hx aZ]
  have aR:=ok.lt i id aZ
  have hm:bs.getD id []∈bs:=by rw[List.getD_eq_getElem?_getD,List.getElem?_eq_getElem aR];exact List.getElem_mem aR
  show e1 H a (((some ({x with U:=bs.getD id []}:ab)).bind fun x=>(cl true x)[j]?).getD .undef)
  match j,h2 with
  | 0,h2=>cases h2;exact .int _ _
  | 1,h2=>cases h2;exact .int _ _
  | 2,h2=>
   cases h2
   exact yM (eT:=aT) (eF:=aT) (sz:=1) (ok.U i id x hx aZ) (hf id _ (o5 aR)) zs ⟨xi _ hm,rfl⟩
  | 3,h2=>cases h2;exact .bool _
  | 4,h2=>cases h2;exact .int _ _
  | j+5,h2=>simp[ju] at h2
 ·rw[List.getElem?_map] at h1
  cases hv:(view ws ids bs)[i]? with
  | none=>rw[hv] at h1;cases h1
  | some x=>
   rw[hv] at h1;cases h1
   show c=h7 (((some x).bind fun x=>(cl true x)[j]?).getD .undef)
   match j,h2 with
   | 0,h2=>cases h2;rfl
   | 1,h2=>cases h2;rfl
   | 2,h2=>cases h2;rfl
   | 3,h2=>cases h2;rfl
   | 4,h2=>cases h2;rfl
   | j+5,h2=>simp[cl] at h2
theorem Weak.Cj [bZ] (sz:Nat) {T:List AV} {L:List (Nat×List AV)} {H:List Blk}:Weak ⟨T,L,H⟩ ⟨T,L,H++[⟨0,sz,[]⟩]⟩:=fun bR E tmps g s=>by
 obtain⟨E',hw,a6,h1,h2,_⟩:=x4 (blk:=⟨0,sz,[]⟩) s.h s.l rfl rfl
 exact⟨E',hw,g.step a6,h1,h2,fun t=>(s.gx t).le a6.le,s.size⟩
theorem Weak.clear [bZ] (j:Nat) {g sz:Nat} {rows:List (List AV)} {T:List AV} {L:List (Nat×List AV)} {H:List Blk} (aC:H[j]?=some ⟨g,sz,rows⟩):Weak ⟨T,L,H⟩ ⟨T,L,H.set j ⟨g,sz,[]⟩⟩:=fun bR E tmps Qk s=>by
 have ph:=(List.getElem?_eq_some_iff.1 aC).1
 have get: ∀(b:Nat) (blk:Blk),(H.set j ⟨g,sz,[]⟩)[b]?=some blk→(b=j∧blk=⟨g,sz,[]⟩)∨(b≠j∧H[b]?=some blk):=fun b blk h=>by
  rw[List.getElem?_set] at h
  split at h
  ·rename_i e;subst e;exact .inl ⟨rfl,(Option.some.inj h).symm⟩
  ·rename_i e;exact .inr ⟨fun h=>e h.symm,h⟩
 have fK:SimH E H:=s.h
 refine⟨E,rfl,Qk,{fK with
  heap:=fun b c hb=> ?_,dJ:=fun b blk hb=> ?_,fz:=fun b hb=> ?_,fresh:=fun b hb=>fK.fresh b (by simpa using hb)},s.l,s.gx,s.size⟩
 ·obtain⟨blk,aM,ty,q1,cj,q2,q3,q4,cw⟩:=fK.heap b c hb
  by_cases e:b=j
  ·subst e
   rw[aC] at q1
   obtain rfl:=Option.some.inj q1
   exact⟨⟨g,sz,[]⟩,aM,ty,by rw[List.getElem?_set];simp[ph],cj,q2,q3,Nat.zero_le _,fun i row h=>by simp at h,fun i j row a h=>by simp at h⟩
  ·exact⟨blk,aM,ty,by rw[List.getElem?_set,if_neg (fun h=>e h.symm)];exact q1,cj,q2,q3,q4,cw⟩
 ·rcases get b blk hb with⟨rfl,rfl⟩ | ⟨_,hb⟩
  ·exact(fK.dJ b _ aC:)
  ·exact fK.dJ b blk hb
 ·obtain⟨blk,q1,cj⟩:=fK.fz b hb
  by_cases e:b=j
  ·subst e
   rw[aC] at q1
   obtain rfl:=Option.some.inj q1
   exact⟨⟨g,sz,[]⟩,by rw[List.getElem?_set];simp[ph],cj⟩
  ·exact⟨blk,by rw[List.getElem?_set,if_neg (fun h=>e h.symm)];exact q1,cj⟩
theorem XB (H:List Blk):H.map (iS 0)=H:=by
 have aN: ∀a:AV,h6 0 a=a:=fun a=>by cases a<;>simp[h6]
 have:iS 0=id:=by
  funext b
  obtain⟨g,s,rows⟩:=b
  show(⟨g,s,rows.map fun row=>row.map (h6 0)⟩:Blk)=⟨g,s,rows⟩
  congr 1
  have:(fun row:List AV=>row.map (h6 0))=id:=by funext row;rw[show h6 0=id from funext aN];simp
  rw[this];simp
 rw[this];simp
theorem JY {g0 g1 g2 s:Nat} {aA:List Bool} {oE:List b8} {ws:List ab} {ids:List Nat} {bs:List (List Bool)}:pF (⟨g0,1,List.map aT aA⟩::⟨g1,2,List.map bn oE⟩::⟨g2,5,bd s ws ids⟩::List.map bz bs)=true:=by
 refine qW (fun _=>rfl) (qW (fun _=>rfl) ?_)
 unfold pF
 rw[List.all_eq_true]
 intro b hb
 rw[List.all_eq_true]
 intro row aw
 rcases List.mem_cons.1 hb with rfl | hb
 ·obtain⟨i,hi⟩:=List.mem_iff_getElem?.1 aw
  obtain⟨x,id,_,_,rfl⟩:=rb hi
  rfl
 ·obtain⟨b,_,rfl⟩:=List.mem_map.1 hb
  obtain⟨x,_,rfl⟩:=List.mem_map.1 aw
  rfl
def rm (j:Nat):Option Nat:=if j<3 then some j else some (j+1)
theorem JZ {r:AV} {g0 g1 g2 g3 cW eS n2:Nat} {f0 f1 f2:Bool} {R:Frame} {ok:Bool} {aA:List Bool} {oE:List b8} {ws:List ab} {ids:List Nat} {bs:List (List Bool)} {rows:List (List AV)}
  (h:ok=R.ok∧aA=R.aA∧oE=R.av∧ws=R.M∧ids=List.range ws.length∧bs=ws.map ab.U) (aN:cW=aA.length) (h1:eS=oE.length) (h2:n2=ws.length) (aw:r= .agg [.bool ok,.ref 0 g0 0 cW f0,.ref 1 g1 0 eS f1,.ref 2 g2 0 n2 f2]):
  ∃cv,p1 (⟨g0,1,List.map aT aA⟩::⟨g1,2,List.map bn oE⟩::⟨g2,5,bd 4 ws ids⟩::⟨g3,5,rows⟩::List.map bz bs)
   (⟨0,1,List.map aT R.aA⟩::⟨0,2,List.map bn R.av⟩::⟨0,5,bd 3 R.M (List.range R.M.length)⟩::List.map bz (List.map ab.U R.M)) cv∧
   Ea (⟨g0,1,List.map aT aA⟩::⟨g1,2,List.map bn oE⟩::⟨g2,5,bd 4 ws ids⟩::⟨g3,5,rows⟩::List.map bz bs)
    (⟨0,1,List.map aT R.aA⟩::⟨0,2,List.map bn R.av⟩::⟨0,5,bd 3 R.M (List.range R.M.length)⟩::List.map bz (List.map ab.U R.M)).length cv r
    (.agg [.bool R.ok,.ref 0 0 0 R.aA.length false,.ref 1 0 0 R.av.length false,.ref 2 0 0 R.M.length false]):=by
 obtain⟨rfl,rfl,rfl,rfl,rfl,rfl⟩:=h
 subst aN;subst h1;subst h2;subst aw
 have hlen:(⟨0,1,List.map aT R.aA⟩::⟨0,2,List.map bn R.av⟩::⟨0,5,bd 3 R.M (List.range R.M.length)⟩::List.map bz (List.map ab.U R.M):List Blk).length=R.M.length+3:=by simp
 refine⟨rm,⟨fun i j b hi aC h1 h2=> ?_,fun j k hk=> ?_,fun j b k hk hs=> ?_⟩,.inl ⟨_,_,rfl,rfl,?_⟩⟩
 ·unfold rm at h1 h2
  split at h1<;>split at h2<;>simp at h1 h2<;>omega
 ·match j,hk with
  | 0,hk=>simp at hk;subst hk;rfl
  | 1,hk=>simp at hk;subst hk;rfl
  | 2,hk=>simp at hk;subst hk;rfl
  | j+3,hk=>simp at hk;obtain⟨x,_,rfl⟩:=hk;rfl
 ·rw[hlen]
  match j,hk,hs with
  | 0,hk,hs=>
   simp at hk;subst hk
   obtain rfl:0=b:=by simpa[rm] using hs
   exact nR (b:=0) rfl va rfl
  | 1,hk,hs=>
   simp at hk;subst hk
   obtain rfl:1=b:=by simpa[rm] using hs
   exact nR (b:=1) rfl Cm rfl
  | 2,hk,hs=>
   simp at hk;subst hk
   obtain rfl:2=b:=by simpa[rm] using hs
   refine⟨_,rfl,rfl,⟨by rw[us (by simp),us (by simp)],fun i aaw eb aL hb=> ?_⟩⟩
   obtain⟨x,id,hx,aZ,rfl⟩:=rb aL
   obtain⟨y0,eP,hq,pd,rfl⟩:=rb hb
   rw[hx] at hq;cases hq
   rw[aZ] at pd;cases pd
   have xw:i<R.M.length:=(List.getElem?_eq_some_iff.1 hx).1
   obtain rfl:i=id:=by rw[List.getElem?_range xw] at aZ;exact Option.some.inj aZ
   refine .cons (.int _ _) (.cons (.int _ _) (.cons ?_ (.cons (.bool _) (.cons (.int _ _) .nil))))
   refine gQ.ref (blk:=bz x.U) (by omega) (by simp[rm]) ?_ rfl
   show(List.map bz (List.map ab.U R.M))[i]?=_
   rw[List.getElem?_map,List.getElem?_map,hx];rfl
  | j+3,hk,hs=>
   obtain rfl:j+4=b:=by
    unfold rm at hs
    rw[if_neg (by omega)] at hs;exact Option.some.inj hs
   have hk:(List.map bz (List.map ab.U R.M))[j]?=some k:=by simpa using hk
   have: ∃x,k=bz x:=by
    rw[List.getElem?_map] at hk
    cases ag:(List.map ab.U R.M)[j]? with
    | none=>rw[ag] at hk;cases hk
    | some x=>rw[ag] at hk;cases hk;exact⟨x,rfl⟩
   obtain⟨x,rfl⟩:=this
   have hb:(⟨g0,1,List.map aT R.aA⟩::⟨g1,2,List.map bn R.av⟩::⟨g2,5,bd 4 R.M (List.range R.M.length)⟩::⟨g3,5,rows⟩::List.map bz (List.map ab.U R.M):List Blk)[j+4]?=some ⟨0,1,List.map aT x⟩:=hk
   exact nR (b:=j+4) hb va rfl
 ·rw[hlen]
  exact .cons (.bool _) (.cons (.ref (by omega) rfl rfl rfl) (.cons (.ref (by omega) rfl rfl rfl) (.cons (.ref (by omega) rfl rfl rfl) .nil)))
theorem XE {k s:Nat} {ws:List ab} {ids:List Nat}:(bd s ws ids).map (fun row=>row.map (h6 k))=bd (s+k) ws ids:=by
 apply List.ext_getElem?
 intro i
 unfold bd
 rw[List.getElem?_map,List.getElem?_zipWith,List.getElem?_zipWith]
 cases ws[i]? with
 | none=>rfl
 | some h=>
  cases ids[i]? with
  | none=>rfl
  | some id=>
   show some [_,_,AV.ref (k+(id+s)) 0 0 h.U.length false,_,_]=some [_,_,AV.ref (id+(s+k)) 0 0 h.U.length false,_,_]
   rw[show k+(id+s)=id+(s+k) by omega];rfl
theorem XC {k:Nat} {bs:List (List Bool)}:(List.map bz bs).map (iS k)=List.map bz bs:=by
 rw[List.map_map]
 refine List.map_congr_left fun b _=> ?_
 show(⟨0,1,(List.map aT b).map fun row=>row.map (h6 k)⟩:Blk)=⟨0,1,_⟩
 rw[List.map_map]
 congr 1
theorem XD {k g0 g1 g2 s:Nat} {aA:List Bool} {oE:List b8} {ws:List ab} {ids:List Nat} {bs:List (List Bool)}:
  (⟨g0,1,List.map aT aA⟩::⟨g1,2,List.map bn oE⟩::⟨g2,5,bd s ws ids⟩::List.map bz bs:List Blk).map (iS k)=⟨g0,1,List.map aT aA⟩::⟨g1,2,List.map bn oE⟩::⟨g2,5,bd (s+k) ws ids⟩::List.map bz bs:=by
 refine rn (fun _=>rfl) (rn (fun _=>rfl) ?_)
 show(⟨g2,5,(bd s ws ids).map fun row=>row.map (h6 k)⟩:Blk)::(List.map bz bs).map (iS k)=_
 rw[XE,XC]
structure ie (ws:List ab) (ids:List Nat) (bs:List (List Bool)):Prop where
 ok:kV ws ids bs
 jb: ∀i j k:Nat,ids[i]?=some k→ids[j]?=some k→i=j
 len: ∀b∈bs,b.length≤1048576
theorem ue {bs:List (List Bool)} {b:List Bool}:List.map bz bs++[⟨0,1,List.map aT b⟩]=List.map bz (bs++[b]):=by rw[List.map_append];rfl
section
variable {P:Program} {esc:List Nat} {ops:Array Oper} {n:Nat} {X:List Oper} {i0:Nat} {A:List (Nat×AV)} {L:List (Nat×List AV)} {H:List Blk} {K:List (Nat×AV)→List (Nat×List AV)→List Blk→Prop}
theorem km (a7:Nat) (d:Option Nat) (N:List (Nat×AV)) (rows:List (List AV)) {row:List AV} (i:Int) (t:TypeId) (c g:Nat) (v:AV) (dR:rows[i.toNat]?=some row) (h:evS P esc ops n (X.drop (i0+a7)) (cT d v N A) L H K)
  (e2: ∀K,g_ P t row c K=K v:=by intro K;kernel_rfl)
  (e: ∀K,evS P esc ops n ((X.drop i0).take a7) A L H K=(g=g∧ch rows[0+i.toNat]? fun row=>g_ P t row c fun v=>K (cT d v N A) L H):=by intro K;kernel_rfl):evS P esc ops n (X.drop i0) A L H K:=by
 rw[hS X i0 a7,e]
 exact⟨rfl,dg (a:=row) (by rw[Nat.zero_add];exact dR) (by rw[e2];exact h)⟩
theorem Xo (a7:Nat) (d:Option Nat) (N:List (Nat×AV)) (rows:List (List AV)) {row row':List AV} (i:Int) (c k g:Nat) (cells:List AV) (H':List (List AV)→List Blk) (hN:List (List AV)) (dR:rows[i.toNat]?=some row) (pq:rows.set i.toNat row'=hN)
  (h:evS P esc ops n (X.drop (i0+a7)) (cT d (.tup []) N A) L (H' hN) K) (hc:Nat.ble (c+k) row.length=true:=by kernel_rfl) (hs:e9 row c cells=row':=by kernel_rfl)
  (e: ∀K,evS P esc ops n ((X.drop i0).take a7) A L H K=(g=g∧ch rows[0+i.toNat]? fun row=>c+k≤row.length∧K (cT d (.tup []) N A) L (H' (rows.set (0+i.toNat) (e9 row c cells)))):=by intro K;kernel_rfl):evS P esc ops n (X.drop i0) A L H K:=by
 rw[hS X i0 a7,e]
 refine⟨rfl,dg (a:=row) (by rw[Nat.zero_add];exact dR) ⟨Nat.le_of_ble_eq_true hc,?_⟩⟩
 ·rw[hs,Nat.zero_add,pq];exact h
theorem kN (a7:Nat) (d:Option Nat) (N:List (Nat×AV)) (rows:List (List AV)) {row row':List AV} (i:Int) (c k g:Nat) (cells:List AV) (j:Nat) (hN:List (List AV)) (dR:rows[i.toNat]?=some row) (pq:rows.set i.toNat row'=hN)
  (h:evS P esc ops n (X.drop (i0+a7)) (cT d (.tup []) N A) L (gJ j hN H) K) (hc:Nat.ble (c+k) row.length=true:=by kernel_rfl) (hs:e9 row c cells=row':=by kernel_rfl)
  (e: ∀K,evS P esc ops n ((X.drop i0).take a7) A L H K=(g=g∧ch rows[0+i.toNat]? fun row=>c+k≤row.length∧K (cT d (.tup []) N A) L (gJ j (rows.set (0+i.toNat) (e9 row c cells)) H)):=by intro K;kernel_rfl):evS P esc ops n (X.drop i0) A L H K:=Xo a7 d N rows i c k g cells (fun r=>gJ j r H) hN dR pq h hc hs e
theorem Xh (a7:Nat) (d:Option Nat) (N:List (Nat×AV)) (bs:List (List Bool)) (id s:Nat) {i:Int} {m:Nat} (hid:id<bs.length) (aN:0≤i∧i.toNat<m) (h:evS P esc ops n (X.drop (i0+a7)) (cT d (.ptr (id+s) 0 (0+i.toNat) 0) N A) L H K)
  (e: ∀K,evS P esc ops n ((X.drop i0).take a7) A L H K=(ch (List.map bz bs)[id]? fun blk=>blk.ba=0∧blk.sz=1∧0≤i∧i<m∧K (cT d (.ptr (id+s) 0 (0+i.toNat) 0) N A) L H):=by intro K;kernel_rfl):evS P esc ops n (X.drop i0) A L H K:=by
 rw[hS X i0 a7,e]
 exact dg (o5 hid) ⟨rfl,rfl,aN.1,by have:=aN.2;omega,h⟩
theorem Xn (a7:Nat) (d:Option Nat) (N:List (Nat×AV)) (bs:List (List Bool)) (id:Nat) (i:Int) (x:Bool) (H':List Blk→List Blk) (hid:id<bs.length) (hi:i.toNat<(bs.getD id []).length)
  (h:evS P esc ops n (X.drop (i0+a7)) (cT d (.tup []) N A) L (H' (List.map bz (bs.set id ((bs.getD id []).set i.toNat x)))) K)
  (e: ∀K,evS P esc ops n ((X.drop i0).take a7) A L H K=(ch (List.map bz bs)[id]? fun blk=>blk.ba=0∧ch blk.rows[0+i.toNat]? fun row=>0+1≤row.length∧K (cT d (.tup []) N A) L (H' ((List.map bz bs).set id {blk with rows:=blk.rows.set (0+i.toNat) (e9 row 0 [.bool x])}))):=by intro K;kernel_rfl):evS P esc ops n (X.drop i0) A L H K:=by
 rw[hS X i0 a7,e]
 have key:(List.map bz bs).set id {bz (bs.getD id []) with rows:=(bz (bs.getD id [])).rows.set (0+i.toNat) (e9 (aT (nth (bs.getD id []) i)) 0 [.bool x])}=List.map bz (bs.set id ((bs.getD id []).set i.toNat x)):=by
  rw[←An]
  congr 1
  show(⟨0,1,(List.map aT (bs.getD id [])).set (0+i.toNat) (aT x)⟩:Blk)=⟨0,1,_⟩
  rw[Nat.zero_add,zq]
 refine dg (o5 hid) ⟨rfl,dg (a:=aT (nth (bs.getD id []) i)) (by rw[Nat.zero_add];exact tY hi) ⟨Nat.le_refl _,?_⟩⟩
 ·rw[key];exact h
theorem Xp (a7:Nat) (N:List (Nat×AV)) (H':List Blk) {φ ψ:Prop} (h1:φ) (h2:ψ) (h:evS P esc ops n (X.drop (i0+a7)) (e8 N A) L H' K) (e: ∀K,evS P esc ops n ((X.drop i0).take a7) A L H K=(φ∧ψ∧K (e8 N A) L H'):=by intro K;kernel_rfl):evS P esc ops n (X.drop i0) A L H K:=by
 rw[hS X i0 a7,e];exact⟨h1,h2,h⟩
theorem Xm (H':List Blk) (az:H=H') (h:evS P esc ops n (X.drop i0) A L H' K):evS P esc ops n (X.drop i0) A L H K:=by
 subst az;exact h
theorem CX (a7:Nat) (d:Option Nat) (N:List (Nat×AV)) {g:FuncId} (args:List AV) (Q:AV→List Blk→Prop) (hf:c8 P g args H Q) (aw: ∀r H',Q r H'→sV r=true) (h: ∀r H',Q r H'→evS P esc ops n (X.drop (i0+a7)) (cT d r N A) L H' K)
  (ap:args.all dC=true:=by kernel_rfl) (aE:args.all hY=true:=by kernel_rfl) (e: ∀K,evS P esc ops n ((X.drop i0).take a7) A L H K=(iX P g args L H (fun v L' H'=>K (cT d v N A) L' H')):=by intro K;kernel_rfl):evS P esc ops n (X.drop i0) A L H K:=by
 rw[hS X i0 a7,e]
 exact .inr (.inr (.inl ⟨ap,aE,hf.mono fun r H' ag=>⟨aw r H' ag,h r H' ag⟩⟩))
theorem Xl (a7:Nat) (d:Option Nat) (N:List (Nat×AV)) {i:Int} (B:Int) (z:List AV) (m:Nat) (j4:List Blk) (aN:0≤i∧B*i≤140737488355328∧i≤4611686018427387904) (aE:H.length=m) (hx:H++[⟨0,1,List.map aT (List.replicate i.toNat false)⟩]=j4)
  (h:evS P esc ops n (X.drop (i0+a7)) (cT d (.ref m 0 0 (List.replicate i.toNat false).length false) N A) L j4 K) (aH:z=aT false:=by rfl)
  (e: ∀K,evS P esc ops n ((X.drop i0).take a7) A L H K=(0≤i∧i≤i∧B*i≤140737488355328∧i≤4611686018427387904∧K (cT d (.ref H.length 0 0 i.toNat false) N A) L (H++[⟨0,1,List.replicate i.toNat z⟩])):=by intro K;kernel_rfl):evS P esc ops n (X.drop i0) A L H K:=by
 rw[hS X i0 a7,e]
 subst aE;subst hx;subst aH
 rw[List.length_replicate,List.map_replicate] at h
 exact⟨aN.1,Int.le_refl _,aN.2.1,aN.2.2,h⟩
theorem Xi (a7:Nat) (d:Option Nat) (N:List (Nat×AV)) (ys:List Bool) (B:Nat) (m:Nat) (j4:List Blk) (aN:ys.length*B≤140737488355328∧ys.length≤4611686018427387904) (aE:H.length=m) (hx:H++[⟨0,1,List.map aT ys⟩]=j4)
  (h:evS P esc ops n (X.drop (i0+a7)) (cT d (.ref m 0 0 ys.length false) N A) L j4 K)
  (e: ∀K,evS P esc ops n ((X.drop i0).take a7) A L H K=(true=true∧true=true∧pN 1 (List.map aT ys)∧true=true∧(∀row∈([]:List (List AV)),row.length=1)∧(List.length (α:=List AV) []+(List.map aT ys).length)*B≤140737488355328∧List.length (α:=List AV) []+(List.map aT ys).length≤4611686018427387904∧(([]:List (List AV))≠[]→(List.map aT ys)≠[])∧
   K (cT d (.ref H.length 0 0 (List.length (α:=List AV) []+(List.map aT ys).length) false) N A) L (H++[⟨0,1,[]++(List.map aT ys)⟩])):=by intro K;kernel_rfl):evS P esc ops n (X.drop i0) A L H K:=by
 rw[hS X i0 a7,e]
 subst aE;subst hx
 refine⟨rfl,rfl,CT (enc:=aT) (fun _=>⟨rfl,rfl⟩) ys,rfl,(fun row h=>by cases h),by simpa using aN.1,by simpa using aN.2,(fun h=>absurd rfl h),?_⟩
 simpa using h
theorem K1 (a7:Nat) (d:Option Nat) (N:List (Nat×AV)) (s b g q B:Nat) (ws:List ab) (ids:List Nat) (x:ab) (id:Nat) (H':List (List AV)→List Blk) (aE:ws.length=ids.length)
  (aN:(ws.length+1)*B≤140737488355328∧ws.length+1≤4611686018427387904) (h:evS P esc ops n (X.drop (i0+a7)) (cT d (.ref b (g+1) 0 (ws++[x]).length false) N A) L (H' (bd s (ws++[x]) (ids++[id]))) K)
  (e: ∀K,evS P esc ops n ((X.drop i0).take a7) A L H K=(true=true∧true=true∧(q=q∧0+1≤1∧(pN 5 [ju s x id]∧0=0∧g=g∧5=5∧(bd s ws ids).length=ws.length∧(ws.length+1)*B≤140737488355328∧ws.length+1≤4611686018427387904∧
   K (cT d (.ref b (g+1) 0 (ws.length+1) false) N A) L (H' (bd s ws ids++[ju s x id]))))):=by intro K;kernel_rfl):evS P esc ops n (X.drop i0) A L H K:=by
 rw[hS X i0 a7,e]
 refine⟨rfl,rfl,rfl,Nat.le_refl _,?_,rfl,rfl,rfl,us aE,aN.1,aN.2,?_⟩
 ·intro row aw
  rw[List.mem_singleton.1 aw]
  exact⟨rfl,fun a aL=>List.all_eq_true.1 (show(ju s x id).all hA=true from rfl) a aL⟩
 ·rw[QT aE];rw[List.length_append] at h;exact h
end
section
variable {P:Program} {esc:List Nat} {ops:Array Oper} {n:Nat} {X:List Item} {i0:Nat} {A:List (Nat×AV)} {L:List (Nat×List AV)} {H:List Blk} {K:List (Nat×AV)→List (Nat×List AV)→List Blk→Prop}
theorem lE (a7:Nat) (d:Option Nat) (N:List (Nat×AV)) (rows:List (List AV)) {row:List AV} (i:Int) (t:TypeId) (c g:Nat) (v:AV) (dR:rows[i.toNat]?=some row) (h:evSD P esc ops n (X.drop (i0+a7)) (cT d v N A) L H K)
  (e2: ∀K,g_ P t row c K=K v:=by intro K;kernel_rfl)
  (e: ∀K,evSD P esc ops n ((X.drop i0).take a7) A L H K=(g=g∧ch rows[0+i.toNat]? fun row=>g_ P t row c fun v=>K (cT d v N A) L H):=by intro K;kernel_rfl):evSD P esc ops n (X.drop i0) A L H K:=by
 rw[ky X i0 a7,e]
 exact⟨rfl,dg (a:=row) (by rw[Nat.zero_add];exact dR) (by rw[e2];exact h)⟩
theorem rB (a7:Nat) (d:Option Nat) (N:List (Nat×AV)) (bs:List (List Bool)) (id s:Nat) {i:Int} {m:Nat} (hid:id<bs.length) (aN:0≤i∧i.toNat<m) (h:evSD P esc ops n (X.drop (i0+a7)) (cT d (.ptr (id+s) 0 (0+i.toNat) 0) N A) L H K)
  (e: ∀K,evSD P esc ops n ((X.drop i0).take a7) A L H K=(ch (List.map bz bs)[id]? fun blk=>blk.ba=0∧blk.sz=1∧0≤i∧i<m∧K (cT d (.ptr (id+s) 0 (0+i.toNat) 0) N A) L H):=by intro K;kernel_rfl):evSD P esc ops n (X.drop i0) A L H K:=by
 rw[ky X i0 a7,e]
 exact dg (o5 hid) ⟨rfl,rfl,aN.1,by have:=aN.2;omega,h⟩
theorem vT (a7:Nat) (d:Option Nat) (N:List (Nat×AV)) (bs:List (List Bool)) (id:Nat) (i:Int) (t:TypeId) (hid:id<bs.length) (hi:i.toNat<(bs.getD id []).length) (h:evSD P esc ops n (X.drop (i0+a7)) (cT d (.bool (nth (bs.getD id []) i)) N A) L H K)
  (e2: ∀x K,g_ P t (aT x) 0 K=K (.bool x):=by intro x K;kernel_rfl)
  (e: ∀K,evSD P esc ops n ((X.drop i0).take a7) A L H K=(ch (List.map bz bs)[id]? fun blk=>blk.ba=0∧ch blk.rows[0+i.toNat]? fun row=>g_ P t row 0 fun v=>K (cT d v N A) L H):=by intro K;kernel_rfl):evSD P esc ops n (X.drop i0) A L H K:=by
 rw[ky X i0 a7,e]
 refine dg (o5 hid) ⟨rfl,dg (a:=aT (nth (bs.getD id []) i)) (by rw[Nat.zero_add];exact tY hi) (by rw[e2];exact h)⟩
theorem MG (a7:Nat) (d:Option Nat) (N:List (Nat×AV)) (bs:List (List Bool)) (id:Nat) (i:Int) (x:Bool) (F:List Blk→Prop) (H':List Blk→List Blk) (hid:id<bs.length) (hi:i.toNat<(bs.getD id []).length)
  (dn:F ((List.map bz (bs.set id ((bs.getD id []).set i.toNat x))))) (h:evSD P esc ops n (X.drop (i0+a7)) (cT d (.tup []) N A) L (H' (List.map bz (bs.set id ((bs.getD id []).set i.toNat x)))) K)
  (e: ∀K,evSD P esc ops n ((X.drop i0).take a7) A L H K=(ch (List.map bz bs)[id]? fun blk=>blk.ba=0∧ch blk.rows[0+i.toNat]? fun row=>0+1≤row.length∧F (((List.map bz bs).set id {blk with rows:=blk.rows.set (0+i.toNat) (e9 row 0 [.bool x])}))∧K (cT d (.tup []) N A) L (H' ((List.map bz bs).set id {blk with rows:=blk.rows.set (0+i.toNat) (e9 row 0 [.bool x])}))):=by intro K;kernel_rfl):evSD P esc ops n (X.drop i0) A L H K:=by
 rw[ky X i0 a7,e]
 have key:(List.map bz bs).set id {bz (bs.getD id []) with rows:=(bz (bs.getD id [])).rows.set (0+i.toNat) (e9 (aT (nth (bs.getD id []) i)) 0 [.bool x])}=List.map bz (bs.set id ((bs.getD id []).set i.toNat x)):=by
  rw[←An]
  congr 1
  show(⟨0,1,(List.map aT (bs.getD id [])).set (0+i.toNat) (aT x)⟩:Blk)=⟨0,1,_⟩
  rw[Nat.zero_add,zq]
 refine dg (o5 hid) ⟨rfl,dg (a:=aT (nth (bs.getD id []) i)) (by rw[Nat.zero_add];exact tY hi) ⟨Nat.le_refl _,?_,?_⟩⟩
 ·rw[key];exact dn
 ·rw[key];exact h
end
theorem Xu {H:List Blk} {b j:Nat} {x y:Blk} (h:(H.set b x)[j]?=some y):(j=b∧y=x)∨(j≠b∧H[j]?=some y):=by
 rw[List.getElem?_set] at h
 split at h
 ·rename_i e;subst e
  split at h
  ·cases h;exact .inl ⟨rfl,rfl⟩
  ·cases h
 ·rename_i e;exact .inr ⟨fun h=>e h.symm,h⟩
theorem FK [gR:bZ] {bR E:Env} {H:List Blk} {L:List (Nat×List AV)} (g:Good bR E) (az:SimH E H) (bF:SimL E L) {b j6 sz:Nat} {rows:List (List AV)} (hb:H[b]?=some ⟨j6,sz,rows⟩) (e4:gR.n≤b)
  (hk: ∀row∈rows,∀a∈row,hh a=true∧lb a=true) (hp:rows.length≤4611686018427387904):
  ∃E',E'.w=E.w∧Good bR E'∧SimH E' (H.set b ⟨j6+1,sz,[]⟩)∧SimL E' L∧E.eZ E'∧E'.mL=E.mL∧ ∀v full,dO E (.ref b j6 0 rows.length full) v→a1 E'.w E'.PA E'.PF (.a8 (rows.map fun row=>row.map h7) false true) v:=by
 have hU:E.ba b=j6:=az.dJ b _ hb
 have nt:=(List.getElem?_eq_some_iff.1 hb).1
 let E':Env:={E with PA:=fun c=>E.PA c∨E.m b=some (some c),PF:=fun c=>E.PF c∨E.m b=some (some c),m:=fun j=>if j=b then none else E.m j,ba:=fun j=>if j=b then j6+1 else E.ba j}
 have hm: ∀{j:Nat} {x:Option Nat},E'.m j=some x→j≠b∧E.m j=some x:=fun{j x} h=>by
  have h:(if j=b then none else E.m j)=some x:=h
  split at h
  ·cases h
  ·rename_i e;exact⟨e,h⟩
 have aI: ∀{j:Nat},j≠b→E'.ba j=E.ba j:=fun{j} h=>if_neg h
 have hle:E.eZ E':=⟨fun _ h=> .inl h,fun _ h=> .inl h,fun _ _=>rfl,fun _ _=>rfl,fun j=>by
   show E.ba j≤(if j=b then j6+1 else E.ba j)
   split
   ·rename_i e;subst e;omega
   ·exact Nat.le_refl _,fun j x hx nx=>by
   have nx:(if j=b then j6+1 else E.ba j)=E.ba j:=nx
   have b2:j≠b:=fun e=>by subst e;rw[if_pos rfl] at nx;omega
   exact⟨by show(if j=b then none else E.m j)=_;rw[if_neg b2];exact hx,rfl,rfl⟩,fun _ _ h=>h⟩
 have dV: ∀c,E.m b=some (some c)→bR.w.heap.size≤c:=fun c hc=>(g.gV b c hc).elim (fun h=>by rw[(g.u6 b e4).1] at h;cases h) id
 have hW:=az.ed
 refine⟨E',rfl,?_,?_,?_,hle,rfl,?_⟩
 ·exact{g with
   le:=g.le.trans hle
   gV:=fun j c h=>g.gV j c (hm h).2
   hr:=g.hr
   ep:=fun c hc=>hc.elim (g.ep c) fun h=> .inr (dV c h)
   et:=fun c hc=>hc.elim (g.et c) fun h=> .inr (dV c h)}
 ·exact{az with
   heap:=fun j c h=>by
    obtain⟨b2,h⟩:=hm h
    obtain⟨blk,aM,ty,q1,cj,q2,q3,q4,cw,cr⟩:=az.heap j c h
    refine⟨blk,aM,ty,by rw[List.getElem?_set,if_neg (fun e=>b2 e.symm)];exact q1,cj,q2,q3,q4,cw,fun i k row a h1 h2=> ?_⟩
    obtain⟨u,hu,aw⟩:=cr i k row a h1 h2
    exact⟨u,hu,aw.le hle.bG⟩
   dJ:=fun j blk h=>by
    rcases Xu h with⟨rfl,rfl⟩ | ⟨b2,h⟩
    ·exact if_pos rfl
    ·rw[aI b2];exact az.dJ j blk h
   fz:=fun j h=>by
    obtain⟨b2,h⟩:=hm h
    obtain⟨blk,q1,q2⟩:=az.fz j h
    exact⟨blk,by rw[List.getElem?_set,if_neg (fun e=>b2 e.symm)];exact q1,q2⟩
   fresh:=fun j h=>by
    rw[List.length_set] at h
    have:=az.fresh j h
    have b2:j≠b:=by omega
    exact⟨by show(if j=b then none else E.m j)=none;rw[if_neg b2];exact this.1,by rw[aI b2];exact this.2⟩
   fR:=fun j k c h1 h2=>az.fR j k c (hm h1).2 (hm h2).2
   e7:=fun j t c h1 h2=>az.e7 j t c (hm h1).2 h2
   fV:=fun c hc ⟨j,aC⟩=>by
    obtain⟨b2,aC⟩:=hm aC
    rcases hc with hc | hc
    ·exact az.fV c hc ⟨j,aC⟩
    ·exact b2 (az.fR j b c aC hc)
   gm:=fun c hc ⟨t,bt⟩=>by
    rcases hc with hc | hc
    ·exact az.gm c hc ⟨t,bt⟩
    ·exact az.e7 b t c hc bt
   dc:=fun c hc=>hc.elim (fun h=> .inl (az.dc c h)) .inr
   df:=fun c hc=>hc.elim (az.df c) fun h=>hW c ⟨b,h⟩
   ed:=fun c ⟨j,aC⟩=>hW c ⟨j,(hm aC).2⟩}
 ·intro t c bt
  obtain⟨cells,aM,ty,q1,q2,q3⟩:=bF t c bt
  exact⟨cells,aM,ty,q1,q2,q3.mono fun _ _ k=>k.le hle.bG⟩
 ·intro v full hv
  rcases hv with⟨bH,_⟩ | ⟨eK,bH⟩
  ·omega
  ·rcases bH with⟨_,_,jx,A,rfl⟩ | ⟨c,cap,iq,rfl,lX,mA,nv⟩
   ·obtain rfl:rows=[]:=List.eq_nil_of_length_eq_zero jx
    exact a1.a8 (rows:=[]) (PB:=fun _=>False) (sz:=0) (vs:=fun _ _=>undef) (fun _ h=>h.elim) ⟨Nat.le_refl _,Nat.zero_le _⟩ (fun _=>rfl) (fun i row h=>by simp at h) (fun h=>by simp at h) (fun i j row a h=>by simp at h)
   ·obtain⟨blk,aM,ty,q1,cj,q2,q3,q4,cw,cr⟩:=az.heap b c iq
    rw[hb] at q1
    cases q1
    have key:=a1.a8 (w:=E.w) (PA:=E'.PA) (PF:=E'.PF) (PB:=E'.PF) (rows:=rows.map fun row=>row.map h7) (full:=false) (fresh:=true) (A:=some ⟨c,0,none⟩) (cap:=cap) (sz:=E.sz b) (vs:=fun i j=>(aM[i*E.sz b+j]?).getD undef)
     (fun c hc=>by simpa using hc) (by rw[List.length_map];exact⟨lX,hp⟩) (fun h=>by cases h) (fun i row' aw=> ?_) (fun i_=>⟨c,0,rfl,.inr iq,fun i j hi aC=> ?_⟩) (fun i j row' gB aw aC=> ?_)
    ·rw[List.length_map] at key
     show a1 E.w E'.PA E'.PF _ (.slice (some ⟨c,0*E.sz b,none⟩) rows.length cap)
     rw[Nat.zero_mul];exact key
    ·rw[List.getElem?_map] at aw
     cases ag:rows[i]? with
     | none=>simp[ag] at aw
     | some row=>simp[ag] at aw;subst aw;rw[List.length_map];exact cw i row ag
    ·rw[List.length_map] at hi
     have aw:=List.getElem?_eq_getElem hi
     have aE:=cw i _ aw
     obtain⟨u,hu,_⟩:=cr i j _ _ aw (List.getElem?_eq_getElem (by rw[aE];exact aC))
     rw[Nat.zero_add,cell_of q2 hu,hu];rfl
    ·rw[List.getElem?_map] at aw
     cases ag:rows[i]? with
     | none=>simp[ag] at aw
     | some row=>
      simp[ag] at aw;subst aw
      rw[List.getElem?_map] at aC
      cases jz:row[j]? with
      | none=>simp[jz] at aC
      | some a=>
       simp[jz] at aC;subst aC
       obtain⟨u,hu,fs⟩:=cr i j row a ag jz
       obtain⟨cY,fT⟩:=hk row (List.mem_of_getElem? ag) a (List.mem_of_getElem? jz)
       rw[hu]
       exact(MN cY fT (wJ cY fs)).mono (fun _ _=>rfl) (fun _ h=>h.elim) (fun c hc=> .inl hc) (fun _ h=>h)
theorem Weak.Qf [gR:bZ] (i:Nat) {T:List AV} {L:List (Nat×List AV)} {H:List Blk} {b j6 sz n:Nat} {full:Bool} {rows:List (List AV)} (bM:T.getD i .undef= .ref b j6 0 n full) (ap:n=rows.length) (hb:H[b]?=some ⟨j6,sz,rows⟩) (e4:gR.n≤b)
  (hk: ∀row∈rows,∀a∈row,hh a=true∧lb a=true) (hp:rows.length≤4611686018427387904):Weak ⟨T,L,H⟩ ⟨T.set i (.a8 (rows.map fun row=>row.map h7) false true),L,H.set b ⟨j6+1,sz,[]⟩⟩:=fun bR E tmps g s=>by
 subst ap
 obtain⟨E',hw,aI,h1,h2,hle,GN,hv⟩:=FK g s.h s.l hb e4 hk hp
 refine⟨E',hw,aI,h1,h2,fun t=> ?_,by simpa using s.size⟩
 show V3 E' ((T.set i _).getD t .undef) _
 rw[n_]
 split
 ·rename_i ag
  obtain⟨rfl,_⟩:=ag
  have aN:V3 E (T.getD i .undef) (tmps.getD i undef):=s.gx i
  rw[bM] at aN
  exact hv _ full aN
 ·exact(s.gx t).le hle
theorem Weak.Qe [gR:bZ] (t i:Nat) {T:List AV} {L:List (Nat×List AV)} {H:List Blk} {cells:List AV} {b j6 sz n:Nat} {full:Bool} {rows:List (List AV)} (hc:dm L t=some cells) (bM:cells.getD i .undef= .ref b j6 0 n full) (ap:n=rows.length) (hb:H[b]?=some ⟨j6,sz,rows⟩) (e4:gR.n≤b)
  (hk: ∀row∈rows,∀a∈row,hh a=true∧lb a=true) (hp:rows.length≤4611686018427387904):Weak ⟨T,L,H⟩ ⟨T,iR L t (cells.set i (.a8 (rows.map fun row=>row.map h7) false true)),H.set b ⟨j6+1,sz,[]⟩⟩:=fun bR E tmps g s=>by
 subst ap
 obtain⟨E',hw,aI,h1,h2,hle,GN,hv⟩:=FK g s.h s.l hb e4 hk hp
 refine⟨E',hw,aI,h1,fun u c hm=> ?_,fun t=>(s.gx t).le hle,s.size⟩
 rw[GN] at hm
 obtain⟨fo,aM,ty,q1,q2,q3⟩:=s.l u c hm
 show ∃zv aM ty,dm (iR L t _) u=some zv∧_
 rw[ui]
 by_cases hu:u=t
 ·subst hu
  rw[if_pos rfl]
  have vo:dm L u=some fo:=q1
  rw[hc] at vo
  cases vo
  refine⟨_,aM,ty,by rw[hc];rfl,by rw[hw];exact q2,by simpa using q3.1,fun j x v hx mE=> ?_⟩
  rw[List.getElem?_set] at hx
  split at hx
  ·rename_i kC
   subst kC
   split at hx
   ·rename_i aR
    cases hx
    have Gu:=List.getElem?_eq_getElem aR
    have he:cells.getD i .undef=cells[i]:=by rw[List.getD_eq_getElem?_getD,Gu];rfl
    have hH:=q3.2 i _ v Gu mE
    rw[←he,bM] at hH
    exact a1.v1 (E:=E'.bG) (hv v full hH)
   ·cases hx
  ·exact(q3.2 j x v hx mE).le hle.bG
 ·rw[if_neg hu]
  exact⟨fo,aM,ty,q1,by rw[hw];exact q2,q3.mono fun _ _ k=>k.le hle.bG⟩
def vA (n:Nat):AV→Bool
 | .ref b _ _ _ _=>Nat.blt b n
 | .ptr b _ _ _=>Nat.blt b n
 | _=>true
def m1 (n:Nat):AV→Bool
 | .fn _ caps=>caps.all (vA n)
 | a=>vA n a
def tg (n:Nat):AV→Bool
 | .agg l=>l.all (m1 n)
 | a=>m1 n a
def th (n:Nat):AV→Bool
 | .tup l=>l.all (tg n)
 | a=>tg n a
def Env.cut (E:Env) (n:Nat):Env:={E with m:=fun j=>if j<n then E.m j else none,ba:=fun j=>if j<n then E.ba j else 0}
section
variable {E:Env} {n:Nat}
theorem ua {j:Nat} (h:j<n):(E.cut n).m j=E.m j∧(E.cut n).ba j=E.ba j:=⟨if_pos h,if_pos h⟩
theorem dO.cut {a:AV} {v:Value} (h:vA n a=true) (hv:dO E a v):dO (E.cut n) a v:=by
 cases a with
 | ref b g o m f=>
  have hb:b<n:=by rw[←Nat.blt_eq];exact h
  obtain⟨bi,e2⟩:=ua (E:=E) hb
  have hv:(g<E.ba b∧_)∨(g=E.ba b∧_):=hv
  show(g<(E.cut n).ba b∧_)∨(g=(E.cut n).ba b∧_)
  rw[bi,e2];exact hv
 | ptr b g r c=>
  have hb:b<n:=by rw[←Nat.blt_eq];exact h
  obtain⟨bi,e2⟩:=ua (E:=E) hb
  have hv:(g<E.ba b∧_)∨(g=E.ba b∧_):=hv
  show(g<(E.cut n).ba b∧_)∨(g=(E.cut n).ba b∧_)
  rw[bi,e2];exact hv
 | _=>exact hv
theorem bT.cut {a:AV} {v:Value} (h:m1 n a=true) (hv:bT E a v):bT (E.cut n) a v:=by
 by_cases hf: ∃f caps,a= .fn f caps
 ·obtain⟨f,caps,rfl⟩:=hf
  obtain⟨vs,e,ak⟩:=hv
  exact⟨vs,e,ak.1,fun i x y hx bm=>(ak.2 i x y hx bm).cut (List.all_eq_true.1 (show caps.all (vA n)=true from h) x (List.mem_of_getElem? hx))⟩
 ·have aN:m1 n a=vA n a:=by cases a<;>first | rfl | exact absurd ⟨_,_,rfl⟩ hf
  rw[nf fun f c e=>hf ⟨f,c,e⟩] at hv ⊢
  exact hv.cut (aN▸h)
theorem V2.cut {a:AV} {v:Value} (h:tg n a=true) (hv:V2 E a v):V2 (E.cut n) a v:=by
 by_cases hf: ∃l,a= .agg l
 ·obtain⟨l,rfl⟩:=hf
  obtain⟨vs,e,ak⟩:=hv
  exact⟨vs,e,ak.1,fun i x y hx bm=>(ak.2 i x y hx bm).cut (List.all_eq_true.1 (show l.all (m1 n)=true from h) x (List.mem_of_getElem? hx))⟩
 ·have aN:tg n a=m1 n a:=by cases a<;>first | rfl | exact absurd ⟨_,rfl⟩ hf
  rw[lM fun l e=>hf ⟨l,e⟩] at hv ⊢
  exact hv.cut (aN▸h)
theorem V3.cut {a:AV} {v:Value} (h:th n a=true) (hv:V3 E a v):V3 (E.cut n) a v:=by
 by_cases hf: ∃l,a= .tup l
 ·obtain⟨l,rfl⟩:=hf
  obtain⟨vs,e,ak⟩:=hv
  exact⟨vs,e,ak.1,fun i x y hx bm=>(ak.2 i x y hx bm).cut (List.all_eq_true.1 (show l.all (tg n)=true from h) x (List.mem_of_getElem? hx))⟩
 ·have aN:th n a=tg n a:=by cases a<;>first | rfl | exact absurd ⟨_,rfl⟩ hf
  rw[lN fun l e=>hf ⟨l,e⟩] at hv ⊢
  exact hv.cut (aN▸h)
end
theorem Weak.cut [gR:bZ] (n:Nat) {T:List AV} {L:List (Nat×List AV)} {H:List Blk} (e4:gR.n≤n) (bM: ∀t,th n (T.getD t .undef)=true) (bF: ∀t cells,dm L t=some cells→cells.all (m1 n)=true) (az: ∀(b:Nat) (blk:Blk),b<n→H[b]?=some blk→ ∀row∈blk.rows,row.all (m1 n)=true):
  Weak ⟨T,L,H⟩ ⟨T,L,H.take n⟩:=fun bR E tmps g s=>by
 have fK:SimH E H:=s.h
 have hm: ∀{j:Nat} {x:Option Nat},(E.cut n).m j=some x→j<n∧E.m j=some x:=fun{j x} h=>by
  have h:(if j<n then E.m j else none)=some x:=h
  split at h
  ·rename_i e;exact⟨e,h⟩
  ·cases h
 have get: ∀{j:Nat},j<n→(H.take n)[j]?=H[j]?:=fun{j} h=>by rw[List.getElem?_take,if_pos h]
 refine⟨E.cut n,rfl,?_,?_,?_,fun t=>(s.gx t).cut (bM t),s.size⟩
 ·exact{g with
   le:=⟨g.le.ep,g.le.et,g.le.pV,g.le.wf,fun b=>by
     show bR.ba b≤(if b<n then E.ba b else 0)
     split
     ·exact g.le.ba b
     ·rw[(g.u6 b (by omega)).2];exact Nat.le_refl _,fun b x hx nx=>by
     have hb:b<n:=by
      rcases Nat.lt_or_ge b n with h | h
      ·exact h
      ·rw[(g.u6 b (by omega)).1] at hx;cases hx
     obtain⟨bi,e2⟩:=ua (E:=E) hb
     rw[e2] at nx
     rw[bi]
     exact g.le.m b x hx nx,g.le.mL⟩
   gV:=fun b c h=>g.gV b c (hm h).2
   hr:=g.hr}
 ·exact{fK with
   heap:=fun j c h=>by
    obtain⟨aC,h⟩:=hm h
    obtain⟨blk,aM,ty,q1,cj,q2,q3,q4,cw,cr⟩:=fK.heap j c h
    refine⟨blk,aM,ty,by rw[get aC];exact q1,cj,q2,q3,q4,cw,fun i k row a h1 h2=> ?_⟩
    obtain⟨u,hu,aw⟩:=cr i k row a h1 h2
    exact⟨u,hu,aw.cut (List.all_eq_true.1 (az j blk aC q1 row (List.mem_of_getElem? h1)) a (List.mem_of_getElem? h2))⟩
   dJ:=fun j blk h=>by
    have aC:j<n:=by
     rcases Nat.lt_or_ge j n with q | q
     ·exact q
     ·rw[List.getElem?_take,if_neg (by omega)] at h;cases h
    rw[(ua (E:=E) aC).2]
    rw[get aC] at h;exact fK.dJ j blk h
   fz:=fun j h=>by
    obtain⟨aC,h⟩:=hm h
    obtain⟨blk,q1,q2⟩:=fK.fz j h
    exact⟨blk,by rw[get aC];exact q1,q2⟩
   fresh:=fun j h=>by
    rw[List.length_take] at h
    rcases Nat.lt_or_ge j n with q | q
    ·obtain⟨bi,e2⟩:=ua (E:=E) q
     rw[bi,e2];exact fK.fresh j (by omega)
    ·exact⟨if_neg (by omega),if_neg (by omega)⟩
   fR:=fun j k c h1 h2=>fK.fR j k c (hm h1).2 (hm h2).2
   e7:=fun j t c h1 h2=>fK.e7 j t c (hm h1).2 h2
   fV:=fun c hc ⟨j,aC⟩=>fK.fV c hc ⟨j,(hm aC).2⟩
   ed:=fun c ⟨j,aC⟩=>fK.ed c ⟨j,(hm aC).2⟩}
 ·intro t c bt
  obtain⟨cells,aM,ty,q1,q2,q3⟩:=s.l t c bt
  exact⟨cells,aM,ty,q1,q2,q3.1,fun i a u hx hu=>(q3.2 i a u hx hu).cut (List.all_eq_true.1 (bF t cells q1) a (List.mem_of_getElem? hx))⟩
end Go.Proofs.Ytglpfccgmfhkdaa.Fw
