/- The framework, part OP: a call that is handed one struct in the memory (or a variable of the caller's) to write into, beside values that stay. -/
import Derived.Test.YtglpfccgmfhkdaaM1
set_option linter.unusedVariables false
namespace Go.Proofs.Ytglpfccgmfhkdaa.Fw
open Go
def rH:AV→Bool
 | .aR _ full fr=> !full&& !fr
 | a=>hJ a
theorem UZ {a:AV} (h:rH a=true):hJ a=true∧hF a=a:=by
 cases a with
 | aR rows full fr=>
  refine⟨rfl,?_⟩
  cases full<;>cases fr<;>first | rfl | cases h
 | _=>first | exact⟨h,rfl⟩
def qJ (P:Program) (f:FuncId) (g:Nat) (args:List AV) (aw bM:List AV) (t:AV):Prop:=
 dc P f args [⟨g,aw.length,[aw]⟩] fun r ef=> ∃B,ef=⟨g,aw.length,[bM]⟩::B∧jE (⟨g+1,aw.length,[bM]⟩::B) r t
def qG (p q a a0:AV):Prop:=(a=p∧a0=q)∨dP [] [] a a0
theorem MV {E:Env} (ai: ∀c,E.PF c→E.PA c) {a b:AV} (h:eW [] [] a b): ∀{v:Value},bQ E a v→aQ E.w E.PA (fun _=>False) b v:=by
 induction h with
 | undef a=>intro v _;exact .undef v
 | int k n=>intro v hv;have hv:aQ E.w E.PA E.PF (.int k n) v:=hv;cases hv;exact .int _ _
 | bool k=>intro v hv;have hv:aQ E.w E.PA E.PF (.bool k) v:=hv;cases hv;exact .bool _
 | str k=>intro v hv;have hv:aQ E.w E.PA E.PF (.str k) v:=hv;cases hv;exact .str _
 | eY=>intro v hv;have hv:aQ E.w E.PA E.PF .eY v:=hv;cases hv;exact .eY
 | fg=>intro v hv;have hv:aQ E.w E.PA E.PF .fg v:=hv;cases hv;exact .fg
 | aR rows full fr cW hw=>
  intro v hv
  have hv:aQ E.w E.PA E.PF (.aR rows full fr) v:=hv
  cases hv with
  | aR dY ec eN bU dd hrel=>
   exact .aR (fun c hc=>by
    have:=dY c hc
    simp only[Bool.false_eq_true,if_false]
    split at this
    ·exact ai c this
    ·exact this) ec (fun h=>eN (hw h)) bU dd hrel
 | cM cells c=>
  intro v hv
  have hv:aQ E.w E.PA E.PF (.cM cells c) v:=hv
  cases hv with
  | cM hc dd hrel=>exact .cM hc dd hrel
 | et aL=>cases aL
 | ptr hb=>cases hb
 | ref _ hb=>cases hb
 | @fn f caps u3 aE aq bx=>
  intro v hv
  obtain⟨vs,rfl,af⟩:=(show ∃vs:List Value,v= .func (.func f) #[] vs.toArray∧aK (ea E) caps vs from hv)
  exact .fn (aE▸af.1) fun i b u hb hu=>by
   have aS:i<caps.length:=by have:=(List.getElem?_eq_some_iff.1 hb).1;omega
   exact bx i _ b (List.getElem?_eq_getElem aS) hb (AH (af.2 i _ u (List.getElem?_eq_getElem aS) hu))
theorem ZA {E E1:Env} (ai: ∀c,E.PF c→E.PA c) (hw:E1.w=E.w) (s_:E1.PA=E.PA) {a b:AV} (h:dP [] [] a b) {v:Value} (hv:V2 E a v):V2 E1 b v:=by
 have up: ∀{b:AV} {v:Value},aQ E.w E.PA (fun _=>False) b v→bQ E1 b v:=fun h=>aQ.v1 (E:=E1) (h.mono (fun _ _=>by rw[hw]) (fun _ h=>h.elim) (fun c hc=>by rw[s_];exact hc) (fun _ h=>h.elim))
 rcases h with⟨l,eB,rfl,rfl,af⟩ | h
 ·obtain⟨vs,rfl,aq⟩:=hv
  refine⟨vs,rfl,af.1▸aq.1,fun i x u hx hu=> ?_⟩
  have aS:i<l.length:=by have:=(List.getElem?_eq_some_iff.1 hx).1;have:=af.1;omega
  have aE:=List.getElem?_eq_getElem aS
  exact up (MV ai (af.2 i _ x aE hx) (aq.2 i _ u aE hu))
 ·by_cases hf: ∃l,a= .agg l
  ·obtain⟨l,rfl⟩:=hf
   cases h with
   | undef=>exact aQ.undef v
  ·rw[ma fun l e=>hf ⟨l,e⟩] at hv
   exact jF (up (MV ai h hv))
def Env.one (E:Env) (bl g sz cp:Nat):Env:=
 {w:=E.w,PA:=E.PA,PF:=fun _=>False,m:=fun j=>if j=0 then some (some bl) else none,bc:=fun j=>if j=0 then g else 0
  sz:=fun j=>if j=0 then sz else 0,cp:=fun j=>if j=0 then cp else 0,mL:=fun _=>none}
theorem rV {E:Env} {bl g sz cp j c:Nat} (h:(E.one bl g sz cp).m j=some (some c)):j=0∧c=bl:=by
 have h:(if j=0 then some (some bl) else none)=some (some c):=h
 split at h
 ·rename_i e;cases h;exact⟨e,rfl⟩
 ·cases h
theorem Xv {E:Env} {H:List Blk} (ax:SimH E H) {bl g cp:Nat} {aw:List AV} {cells:Array Value} {ty:TypeId} (gC:bl<E.w.heap.size) (s_: ¬E.PA bl) (hw:E.w.heap[bl]?=some (.cells cells ty (0,0))) (bU:cells.size=cp*aw.length) (h1:1≤cp)
  (hk:aw.all rH=true) (aq: ∀(j:Nat) (a:AV),aw[j]?=some a→ ∃u,cells[j]?=some u∧bQ E a u):SimH (E.one bl g aw.length cp) [⟨g,aw.length,[aw]⟩] where
 heap:=fun b c hb=>by
  obtain⟨rfl,rfl⟩:=rV hb
  have eg: ∀{i:Nat} {row:List AV},([aw]:List (List AV))[i]?=some row→i=0∧row=aw:=fun{i row} h=>by
   cases i with
   | zero=>cases h;exact⟨rfl,rfl⟩
   | succ i=>cases h
  refine⟨⟨g,aw.length,[aw]⟩,cells,ty,rfl,rfl,hw,bU,h1,fun i row h=> ?_,fun i j row a h ar=> ?_⟩
  ·rw[(eg h).2];rfl
  ·obtain⟨rfl,rfl⟩:=eg h
   obtain⟨u,hu,hv⟩:=aq j a ar
   refine⟨u,by rw[Nat.zero_mul,Nat.zero_add];exact hu,?_⟩
   have Cu:=UZ (List.all_eq_true.1 hk a (List.mem_of_getElem? ar))
   have:=Fv Cu.1 (xN Cu.1 hv) (fun c hc=>hc) ax.c4
   rw[Cu.2] at this
   exact aQ.v1 (E:=(E.one c g row.length cp).bK) this
 dX:=fun b blk hb=>by
  cases b with
  | zero=>cases hb;rfl
  | succ b=>cases hb
 fX:=fun b hb=>by
  have hb:(if b=0 then some (some bl) else none)=some none:=hb
  split at hb<;>cases hb
 fresh:=fun b hb=>by
  have hb:1≤b:=hb
  exact⟨if_neg (by omega),if_neg (by omega)⟩
 gu:=fun b bI c h1 h2=>by rw[(rV h1).1,(rV h2).1]
 hS:=fun t gz c h=>by cases h
 fz:=fun b t c _ h=>by cases h
 gw:=fun c hc ⟨b,hb⟩=>by rw[(rV hb).2] at hc;exact s_ hc
 gM:=fun c _ ⟨t,bj⟩=>by cases bj
 c4:=fun c hc=>hc.elim
 eK:=fun c hc=>hc.elim
 db:=ax.db
 eQ:=fun c ⟨b,hb⟩=>by rw[(rV hb).2];exact gC
 fq:=fun c ⟨t,bj⟩=>by cases bj
structure qF (E:Env) (bl k n:Nat) (bM:List AV) (t:AV) (v:Value) (E':Env):Prop where
 m:E'.m=E.m
 mL:E'.mL=E.mL
 bc:E'.bc=E.bc
 sz:E'.sz=E.sz
 cp:E'.cp=E.cp
 eJ: ∀c,E.PA c→E'.PA c
 eD: ∀c,E.PF c→E'.PF c
 c4: ∀c,E'.PF c→E'.PA c
 eK: ∀c,E'.PF c→Plain E'.w c
 zp: ∀c,E'.PA c→E.PA c∨(E.w.heap.size≤c∧c<E'.w.heap.size)
 XM: ∀c,E'.PF c→E.PF c∨E.w.heap.size≤c
 os:E'.w.os=E.w.os
 tape:E'.w.tape=E.w.tape
 output:E'.w.output=E.w.output
 size:E.w.heap.size≤E'.w.heap.size
 dj: ∀c,c<E.w.heap.size→c≠bl→E'.w.heap[c]?=E.w.heap[c]?
 new: ∃cells ty,E'.w.heap[bl]?=some (.cells cells ty (0,0))∧cells.size=k∧bM.length=n∧ ∀(j:Nat) (a:AV),bM[j]?=some a→ ∃u,cells[j]?=some u∧aQ E'.w E'.PA E'.PF a u
 v3:V3 E' t v
theorem MX {E1 E':Env} {H:List Blk} (hs:SimH E1 H) (hw:E'.w=E1.w) (hu: ∀c,E1.PF c∨E1.fe c→E'.PA c∧E'.PF c) {a b:AV} {u:Value} (h:jE H a b) (hv:V3 E1 a u):V3 E' b u:=by
 have c9: ∀{a b:AV} {u:Value},fm H a b→bQ E1 a u→bQ E' b u:=fun aC k5=>aQ.v1 (E:=E') ((MW hs aC k5).mono (fun _ _=>by rw[hw]) (fun _ _=>by rw[hw]) (fun c hc=>(hu c hc).1) (fun c hc=>(hu c hc).2))
 have dn: ∀{a b:AV} {u:Value},qT H a b→V2 E1 a u→V2 E' b u:=by
  rintro a b u (⟨l,eB,rfl,rfl,ai⟩ | h) hu
  ·obtain⟨ga,rfl,af⟩:=hu
   refine⟨ga,rfl,ai.1▸af.1,fun i x y hx bd=> ?_⟩
   have aS:i<l.length:=by have:=(List.getElem?_eq_some_iff.1 hx).1;have:=ai.1;omega
   have aE:=List.getElem?_eq_getElem aS
   exact c9 (ai.2 i _ x aE hx) (af.2 i _ y aE bd)
  ·have:bQ E1 a u:=by cases h<;>exact hu
   exact jF (c9 h this)
 rcases h with⟨l,eB,rfl,rfl,ai⟩ | h
 ·obtain⟨ga,rfl,af⟩:=hv
  refine⟨ga,rfl,ai.1▸af.1,fun i x y hx bd=> ?_⟩
  have aS:i<l.length:=by have:=(List.getElem?_eq_some_iff.1 hx).1;have:=ai.1;omega
  have aE:=List.getElem?_eq_getElem aS
  exact dn (ai.2 i _ x aE hx) (af.2 i _ y aE bd)
 ·have:V2 E1 a u:=by
   rcases h with⟨l,eB,rfl,rfl,ai⟩ | h
   ·exact hv
   ·cases h<;>exact hv
  exact nW (dn h this)
theorem Gs {P:Program} {f:FuncId} {vs:List Value} {E:Env} {H:List Blk} {args dg aw bM:List AV} {p t:AV} {bl g cp:Nat} {cells:Array Value} {ty:TypeId} (ax:SimH E H) (gC:bl<E.w.heap.size) (s_: ¬E.PA bl)
  (hw:E.w.heap[bl]?=some (.cells cells ty (0,0))) (bU:cells.size=cp*aw.length) (h1:1≤cp) (hk:aw.all rH=true) (aq: ∀(j:Nat) (a:AV),aw[j]?=some a→ ∃u,cells[j]?=some u∧bQ E a u)
  (aC:aK (V2 E) args vs) (ai: ∀v,V2 E p v→v= .pointer (some ⟨bl,0,none⟩)) (hs:aK (qG p (.ptr 0 g 0 0)) args dg) (h4:bM.all hJ=true) (h:qJ P f g dg aw bM t):
  Calls P f vs.toArray E.w fun e w'=> ∃v E',e= .returned v∧E'.w=w'∧qF E bl (cp*aw.length) aw.length bM t v E':=by
 have ra:aK (V2 (E.one bl g aw.length cp)) dg vs:=⟨hs.1▸aC.1,fun i x u hx hu=>by
  have aS:i<args.length:=by have:=(List.getElem?_eq_some_iff.1 hx).1;have:=hs.1;omega
  have aE:=List.getElem?_eq_getElem aS
  rcases hs.2 i _ x aE hx with⟨aT,rfl⟩ | h
  ·have hv:=aC.2 i _ u aE hu
   rw[aT] at hv
   rw[ai u hv]
   exact .inr ⟨rfl,bl,rfl,by rw[Nat.zero_mul]⟩
  ·exact ZA (E1:=E.one bl g aw.length cp) ax.c4 rfl rfl h (aC.2 i _ u aE hu)⟩
 refine(h.2 (E.one bl g aw.length cp) vs (fun _=>rfl) (Xv ax gC s_ hw bU h1 hk aq) ra).mono ?_
 rintro e w' ⟨r,v,ef,E1,rfl,⟨B,rfl,CG⟩,rfl,ap,ed,hv,bf⟩
 have aL:E1.bc 0=g:=ed.dX 0 _ rfl
 obtain⟨hm,aJ,hc⟩:=bf.le.m 0 (some bl) rfl aL
 have aJ:E1.sz 0=aw.length:=aJ
 have hc:E1.cp 0=cp:=hc
 obtain⟨blk,u5,ty2,q1,b8,q2,q3,q4,cD,cu⟩:=ed.heap 0 bl hm
 cases q1
 have tl: ∀c,E1.PF c∨(∃j,j≠0∧E1.m j=some (some c))→E.w.heap.size≤c∧c<E1.w.heap.size:=by
  rintro c (hc | ⟨j,ar,yC⟩)
  ·exact⟨(bf.eD c hc).elim (fun h=>h.elim) id,ed.db c (ed.c4 c hc)⟩
  ·refine⟨(bf.ni c ⟨j,yC⟩).elim (fun⟨b,hb⟩=> ?_) id,ed.eQ c ⟨j,yC⟩⟩
   rw[(rV hb).2] at yC
   exact absurd (ed.gu j 0 bl yC hm) ar
 have kx: ∀c,c<E.w.heap.size→c≠bl→E1.w.heap[c]?=E.w.heap[c]?:=fun c hc cd=>bf.dj c hc (fun⟨b,hb⟩=>cd (rV hb).2) (fun⟨t,bj⟩=>by cases bj)
 have S2: ∀c,E1.PA c→E.PA c∨(E.w.heap.size≤c∧c<E1.w.heap.size):=fun c hc=>(bf.eJ c hc).elim .inl fun h=> .inr ⟨h,ed.db c hc⟩
 let E':Env:={E with w:=E1.w,PA:=fun c=>E.PA c∨E1.PA c∨(E1.PF c∨ ∃j,j≠0∧E1.m j=some (some c)),PF:=fun c=>E.PF c∨(E1.PF c∨ ∃j,j≠0∧E1.m j=some (some c))}
 let xd:Env:={E1 with m:=fun j=>if j=0 then none else E1.m j,bc:=fun j=>if j=0 then g+1 else E1.bc j}
 have aY: ∀{j:Nat} {x:Option Nat},xd.m j=some x→j≠0∧E1.m j=some x:=fun{j x} h=>by
  have h:(if j=0 then none else E1.m j)=some x:=h
  split at h
  ·cases h
  ·rename_i e;exact⟨e,h⟩
 have vA: ∀{j:Nat},j≠0→xd.bc j=E1.bc j:=fun{j} h=>if_neg h
 have hle:E1.fx xd:=⟨fun _ h=>h,fun _ h=>h,fun _ _=>rfl,fun _ _=>rfl,fun b=>by
   by_cases e:b=0
   ·subst e;show E1.bc 0≤(if 0=0 then g+1 else E1.bc 0);rw[if_pos rfl,aL];omega
   ·rw[vA e];exact Nat.le_refl _,fun b x hx oa=>by
   by_cases e:b=0
   ·subst e
    have oa:(if 0=0 then g+1 else E1.bc 0)=E1.bc 0:=oa
    rw[if_pos rfl,aL] at oa;omega
   ·exact⟨by show(if b=0 then none else E1.m b)=_;rw[if_neg e];exact hx,rfl,rfl⟩,fun _ _ h=>h⟩
 have m5: ∀{j:Nat} (x y:Blk),j≠0→(x::B)[j]?=(y::B)[j]?:=fun{j} x y ar=>by
  cases j with
  | zero=>exact absurd rfl ar
  | succ j=>rfl
 have Tc:SimH xd (⟨g+1,aw.length,[bM]⟩::B):=
  {heap:=fun b c hb=>by
    obtain⟨Cf,hb⟩:=aY hb
    obtain⟨blk,sS,ty,c9,e6,dn,fi,l0,Yk,Yl⟩:=ed.heap b c hb
    refine⟨blk,sS,ty,by rw[m5 _ ⟨g,aw.length,[bM]⟩ Cf];exact c9,e6,dn,fi,l0,Yk,fun i j row a h1 h2=> ?_⟩
    obtain⟨u,hu,fJ⟩:=Yl i j row a h1 h2
    exact⟨u,hu,fJ.le hle.bK⟩
   dX:=fun b blk hb=>by
    by_cases e:b=0
    ·subst e;cases hb;rfl
    ·rw[vA e];rw[m5 _ ⟨g,aw.length,[bM]⟩ e] at hb;exact ed.dX b blk hb
   fX:=fun b hb=>by
    obtain⟨Cf,hb⟩:=aY hb
    obtain⟨blk,c9,dn⟩:=ed.fX b hb
    exact⟨blk,by rw[m5 _ ⟨g,aw.length,[bM]⟩ Cf];exact c9,dn⟩
   fresh:=fun b hb=>by
    have hb:B.length+1≤b:=hb
    have:=ed.fresh b hb
    exact⟨by show(if b=0 then none else E1.m b)=none;rw[if_neg (by omega)];exact this.1,by rw[vA (by omega)];exact this.2⟩
   gu:=fun b bI c h1 h2=>ed.gu b bI c (aY h1).2 (aY h2).2
   hS:=ed.hS
   fz:=fun b t c h1 h2=>ed.fz b t c (aY h1).2 h2
   gw:=fun c hc ⟨b,hb⟩=>ed.gw c hc ⟨b,(aY hb).2⟩
   gM:=ed.gM
   c4:=ed.c4
   eK:=ed.eK
   db:=ed.db
   eQ:=fun c ⟨b,hb⟩=>ed.eQ c ⟨b,(aY hb).2⟩
   fq:=ed.fq}
 refine⟨v,E',rfl,rfl,rfl,rfl,rfl,rfl,rfl,fun c hc=> .inl hc,fun c hc=> .inl hc,fun c hc=>hc.elim (fun h=> .inl (ax.c4 c h)) (fun h=> .inr (.inr h)),fun c hc=>hc.elim (fun h=>(ax.eK c h).same (kx c (ax.db c (ax.c4 c h)) (fun e=>by subst e;exact s_ (ax.c4 _ h)))) (fun h=>h.elim (ed.eK c) fun⟨j,_,ar⟩=>by obtain⟨_,aw,ty,_,_,q,_⟩:=ed.heap j c ar;exact⟨aw,ty,q⟩),fun c hc=> ?_,fun c hc=>hc.elim .inl (fun h=> .inr (tl c h).1),
  bf.os,bf.tape,bf.output,bf.size,kx,⟨u5,ty2,q2,by rw[q3,aJ,hc],?_,fun j a ar=> ?_⟩,?_⟩
 ·rcases hc with h | h | h
  ·exact .inl h
  ·exact S2 c h
  ·exact .inr (tl c h)
 ·have:=cD 0 bM rfl
  rw[aJ] at this;exact this
 ·obtain⟨u,hu,fJ⟩:=cu 0 j bM a rfl ar
  refine⟨u,by rw[Nat.zero_mul,Nat.zero_add] at hu;exact hu,?_⟩
  have hb:=List.all_eq_true.1 h4 a (List.mem_of_getElem? ar)
  exact(xN hb fJ).mono (fun _ _=>rfl) (fun _ _=>rfl) (fun c hc=> .inr (.inl hc)) (fun c hc=> .inr (.inl hc))
 ·refine MX (E':=E') Tc rfl (fun c hc=> ?_) CG (hv.le hle)
  have:E1.PF c∨ ∃j,j≠0∧E1.m j=some (some c):=hc.elim .inl fun⟨j,ar⟩=> .inr ⟨j,aY ar⟩
  exact⟨.inr (.inr this),.inr this⟩
section
variable {E E':Env} {H:List Blk} {L:List (Nat×List AV)} {bl k n:Nat} {bM:List AV} {t:AV} {v:Value}
theorem qF.step (A:qF E bl k n bM t v E') (ax:SimH E H) (gC:E.fe bl∨E.iQ bl):Step E E':=
 {le:=⟨A.eJ,A.eD,fun c hc=>A.dj c (ax.db c hc) (fun e=>by subst e;exact gC.elim (ax.gw c hc) (ax.gM c hc)),fun c hc=>A.dj c (ax.db c (ax.c4 c hc)) (fun e=>by subst e;exact gC.elim (ax.gw c (ax.c4 c hc)) (ax.gM c (ax.c4 c hc))),
   fun b=>by rw[A.bc];exact Nat.le_refl _,fun b x hx _=>by rw[A.m,A.sz,A.cp];exact⟨hx,rfl,rfl⟩,fun t c h=>by rw[A.mL];exact h⟩
  os:=A.os,tape:=A.tape,output:=A.output,size:=A.size
  dj:=fun c hc h1 h2=>A.dj c hc (fun e=>by subst e;exact gC.elim h1 h2)
  hB:=fun b c hb=> .inl (by rw[←A.m];exact hb)
  hR:=fun c ⟨t,bj⟩=> .inl ⟨t,by rw[←A.mL];exact bj⟩
  eJ:=fun c hc=>(A.zp c hc).elim .inl fun h=> .inr h.1
  eD:=A.XM}
theorem qF.simH (A:qF E bl k n bM t v E') (ax:SimH E H) (gC:E.fe bl∨E.iQ bl) {H':List Blk} (hlen:H'.length=H.length) (aL: ∀(b:Nat) (x:Blk),H'[b]?=some x→ ∃y,H[b]?=some y∧x.bc=y.bc) (hs: ∀(b:Nat) (y:Blk),H[b]?=some y→ ∃x,H'[b]?=some x∧x.sz=y.sz)
  (hb: ∀b c,E.m b=some (some c)→(c≠bl∧H'[b]?=H[b]?)∨ ∃blk aw ty,H'[b]?=some blk∧E.sz b=blk.sz∧E'.w.heap[c]?=some (.cells aw ty (0,0))∧aw.size=E.cp b*E.sz b∧blk.rows.length≤E.cp b∧sF E' (E.sz b) blk.rows aw):SimH E' H':=by
 have bf:=A.step ax gC
 have nj: ∀c,E'.fe c→E.fe c:=fun c ⟨b,hb⟩=>⟨b,by rw[←A.m];exact hb⟩
 have C1: ∀c,E'.iQ c→E.iQ c:=fun c ⟨b,hb⟩=>⟨b,by rw[←A.mL];exact hb⟩
 have iq:=ax.eQ
 have ir:=ax.fq
 exact{
  heap:=fun b c h=>by
   rw[A.m] at h
   rw[A.sz,A.cp]
   rcases hb b c h with⟨cd,he⟩ | h
   ·obtain⟨blk,aw,ty,q1,b8,q2,q3,q4,cD,cu⟩:=ax.heap b c h
    refine⟨blk,aw,ty,by rw[he];exact q1,b8,by rw[A.dj c (iq c ⟨b,h⟩) cd];exact q2,q3,q4,cD,fun i j row a h1 h2=> ?_⟩
    obtain⟨u,hu,fJ⟩:=cu i j row a h1 h2
    exact⟨u,hu,fJ.le bf.le.bK⟩
   ·exact h
  dX:=fun b blk h=>by
   rw[A.bc]
   obtain⟨y,h1,h2⟩:=aL b blk h
   rw[h2];exact ax.dX b y h1
  fX:=fun b h=>by
   rw[A.m] at h
   obtain⟨y,h1,h2⟩:=ax.fX b h
   obtain⟨x,aH,bn⟩:=hs b y h1
   exact⟨x,aH,by rw[A.sz,bn];exact h2⟩
  fresh:=fun b h=>by rw[A.m,A.bc];exact ax.fresh b (by rw[←hlen];exact h)
  gu:=fun b bI c h1 h2=>by rw[A.m] at h1 h2;exact ax.gu b bI c h1 h2
  hS:=fun t gz c h1 h2=>by rw[A.mL] at h1 h2;exact ax.hS t gz c h1 h2
  fz:=fun b t c h1 h2=>by rw[A.m] at h1;rw[A.mL] at h2;exact ax.fz b t c h1 h2
  gw:=fun c hc hi=>(A.zp c hc).elim (fun h=>ax.gw c h (nj c hi)) (fun h=>absurd (iq c (nj c hi)) (by omega))
  gM:=fun c hc hi=>(A.zp c hc).elim (fun h=>ax.gM c h (C1 c hi)) (fun h=>absurd (ir c (C1 c hi)) (by omega))
  c4:=A.c4
  eK:=A.eK
  db:=fun c hc=>(A.zp c hc).elim (fun h=>Nat.lt_of_lt_of_le (ax.db c h) A.size) (fun h=>h.2)
  eQ:=fun c hc=>Nat.lt_of_lt_of_le (iq c (nj c hc)) A.size
  fq:=fun c hc=>Nat.lt_of_lt_of_le (ir c (C1 c hc)) A.size}
theorem qF.row (A:qF E bl k n bM t v E') (hk:bM.all hJ=true) {cells:Array Value} {ty:TypeId} (hw:E'.w.heap[bl]?=some (.cells cells ty (0,0))):bM.length=n∧cells.size=k∧ ∀(j:Nat) (a:AV),bM[j]?=some a→ ∃u,cells[j]?=some u∧bQ E'.bK a u:=by
 obtain⟨ch,ty2,q1,q2,q3,q4⟩:=A.new
 rw[hw] at q1
 cases q1
 refine⟨q3,q2,fun j a ar=> ?_⟩
 obtain⟨u,hu,aq⟩:=q4 j a ar
 exact⟨u,hu,aQ.v1 (E:=E'.bK) aq⟩
end
theorem PD {P:Program} {f:FuncId} {vs:List Value} {E:Env} {H:List Blk} {L:List (Nat×List AV)} {args dg aw bM:List AV} {t:AV} {b g:Nat} (ax:SimH E H) (bH:SimL E L) (hb:H[b]?=some ⟨g,aw.length,[aw]⟩) (hk:aw.all rH=true) (h4:bM.all hJ=true)
  (aC:aK (V2 E) args vs) (hm:AV.ptr b g 0 0∈args) (hs:aK (qG (.ptr b g 0 0) (.ptr 0 g 0 0)) args dg) (h:qJ P f g dg aw bM t):
  Calls P f vs.toArray E.w fun e w'=> ∃v E',e= .returned v∧E'.w=w'∧Step E E'∧SimH E' (H.set b ⟨g,aw.length,[bM]⟩)∧SimL E' L∧V3 E' t v∧E'.mL=E.mL:=by
 have im:=ax.dX b _ hb
 have k4: ∀v,V2 E (.ptr b g 0 0) v→ ∃bl,E.m b=some (some bl)∧v= .pointer (some ⟨bl,0,none⟩):=fun v hv=>by
  obtain⟨bl,hm,rfl⟩:=V3.zu (E:=E) (v:=v) (show V3 E (.ptr b g 0 0) v from hv) im
  exact⟨bl,hm,by rw[Nat.zero_mul]⟩
 obtain⟨i,hi,he⟩:=List.mem_iff_getElem.1 hm
 have gL:i<vs.length:=aC.1▸hi
 have gD:=aC.2 i _ _ (List.getElem?_eq_getElem hi) (List.getElem?_eq_getElem gL)
 rw[he] at gD
 obtain⟨bl,iN,_⟩:=k4 _ gD
 obtain⟨blk,cells,ty,q1,b8,q2,q3,q4,cD⟩:=ax.heap b bl iN
 rw[hb] at q1
 cases q1
 have b8:E.sz b=aw.length:=b8
 have gC:bl<E.w.heap.size:=ax.eQ bl ⟨b,iN⟩
 refine(Gs (bl:=bl) (cp:=E.cp b) ax gC (fun h=>ax.gw bl h ⟨b,iN⟩) q2 (by rw[q3,b8]) q4 hk (fun j a ar=> ?_) aC (fun v hv=> ?_) hs h4 h).mono ?_
 ·obtain⟨u,hu,fJ⟩:=cD.2 0 j aw a rfl ar
  exact⟨u,by rw[Nat.zero_mul,Nat.zero_add] at hu;exact hu,fJ.up⟩
 ·obtain⟨Pe,h1,rfl⟩:=k4 v hv
  rw[iN] at h1;cases h1;rfl
 rintro e w' ⟨v,E',rfl,rfl,A⟩
 have o1:E.fe bl∨E.iQ bl:= .inl ⟨b,iN⟩
 have bf:=A.step ax o1
 refine⟨v,E',rfl,rfl,bf,A.simH ax o1 (by rw[List.length_set]) (fun j x hx=> ?_) (fun j y bd=> ?_) (fun j c ar=> ?_),fun u c hu=> ?_,A.v3,A.mL⟩
 ·rw[List.getElem?_set] at hx
  split at hx
  ·rename_i e;subst e
   split at hx
   ·cases hx;exact⟨_,hb,rfl⟩
   ·cases hx
  ·exact⟨x,hx,rfl⟩
 ·rw[List.getElem?_set]
  split
  ·rename_i e;subst e
   rw[hb] at bd;cases bd
   rw[if_pos (List.getElem?_eq_some_iff.1 hb).1];exact⟨_,rfl,rfl⟩
  ·exact⟨y,bd,rfl⟩
 ·by_cases e:j=b
  ·subst e
   rw[iN] at ar
   cases ar
   obtain⟨ch,ty2,c9,dn,fi,l0⟩:=A.new
   obtain⟨s1,s2,l2⟩:=A.row h4 c9
   refine .inr ⟨⟨g,aw.length,[bM]⟩,ch,ty2,by rw[List.getElem?_set,if_pos rfl,if_pos (List.getElem?_eq_some_iff.1 hb).1],b8,c9,by rw[dn,b8],q4,fun i row aq=> ?_,fun i j row a aq ar=> ?_⟩
   ·cases i with
    | zero=>cases aq;rw[b8];exact s1
    | succ i=>cases aq
   ·cases i with
    | zero=>
     cases aq
     obtain⟨u,hu,fJ⟩:=l2 j a ar
     exact⟨u,by rw[Nat.zero_mul,Nat.zero_add];exact hu,fJ⟩
    | succ i=>cases aq
  ·refine .inl ⟨fun h=>e ?_,by rw[List.getElem?_set,if_neg (fun h=>e h.symm)]⟩
   subst h;exact ax.gu j b c ar iN
 ·rw[A.mL] at hu
  obtain⟨sS,ch,ty2,c9,dn,fi⟩:=bH u c hu
  exact⟨sS,ch,ty2,c9,by rw[A.dj c (ax.fq c ⟨u,hu⟩) (fun e=>by subst e;exact ax.fz b u c iN hu)];exact dn,fi.mono fun _ _ k=>k.le bf.le.bK⟩
theorem PE {P:Program} {f:FuncId} {vs:List Value} {E:Env} {H:List Blk} {L:List (Nat×List AV)} {args dg aw bM:List AV} {t:AV} {x:Nat} (ax:SimH E H) (bH:SimL E L) (hx:dt L x=some aw) (hk:aw.all rH=true) (h4:bM.all hJ=true)
  (aC:aK (V2 E) args vs) (hm:AV.et x 0∈args) (hs:aK (qG (.et x 0) (.ptr 0 0 0 0)) args dg) (h:qJ P f 0 dg aw bM t):
  Calls P f vs.toArray E.w fun e w'=> ∃v E',e= .returned v∧E'.w=w'∧Step E E'∧SimH E' H∧SimL E' (jj L x bM)∧V3 E' t v∧E'.mL=E.mL:=by
 have k4: ∀v,V2 E (.et x 0) v→ ∃bl,E.mL x=some bl∧v= .pointer (some ⟨bl,0,none⟩):=fun v hv=>hv
 obtain⟨i,hi,he⟩:=List.mem_iff_getElem.1 hm
 have gL:i<vs.length:=aC.1▸hi
 have gD:=aC.2 i _ _ (List.getElem?_eq_getElem hi) (List.getElem?_eq_getElem gL)
 rw[he] at gD
 obtain⟨bl,iN,_⟩:=k4 _ gD
 obtain⟨sS,cells,ty,q1,q2,q3⟩:=bH x bl iN
 rw[hx] at q1
 cases q1
 have gC:bl<E.w.heap.size:=ax.fq bl ⟨x,iN⟩
 have bU:cells.size=1*aw.length:=by rw[Nat.one_mul];exact q3.1.symm
 refine(Gs (bl:=bl) (cp:=1) ax gC (fun h=>ax.gM bl h ⟨x,iN⟩) q2 bU (Nat.le_refl _) hk (fun j a ar=> ?_) aC (fun v hv=> ?_) hs h4 h).mono ?_
 ·obtain⟨u,hu,fJ⟩:=q3.get ar
  exact⟨u,by rw[Array.getElem?_toList] at hu;exact hu,fJ.up⟩
 ·obtain⟨Pe,h1,rfl⟩:=k4 v hv
  rw[iN] at h1;cases h1;rfl
 rintro e w' ⟨v,E',rfl,rfl,A⟩
 have o1:E.fe bl∨E.iQ bl:= .inr ⟨x,iN⟩
 have bf:=A.step ax o1
 refine⟨v,E',rfl,rfl,bf,A.simH ax o1 rfl (fun j y bd=>⟨y,bd,rfl⟩) (fun j y bd=>⟨y,bd,rfl⟩) (fun j c ar=> .inl ⟨fun e=>by subst e;exact ax.fz j x c ar iN,rfl⟩),fun u c hu=> ?_,A.v3,A.mL⟩
 rw[A.mL] at hu
 rw[vg]
 by_cases e:u=x
 ·subst e
  rw[iN] at hu
  cases hu
  obtain⟨ch,ty2,c9,dn,fi,l0⟩:=A.new
  obtain⟨s1,s2,l2⟩:=A.row h4 c9
  rw[if_pos rfl,hx]
  refine⟨bM,ch,ty2,rfl,c9,by show bM.length=ch.size;rw[s1,s2,Nat.one_mul],fun j a v ar hv=> ?_⟩
  obtain⟨abY,k5,fJ⟩:=l2 j a ar
  rw[Array.getElem?_toList,k5] at hv
  cases hv;exact fJ
 ·rw[if_neg e]
  obtain⟨cr,ch,ty2,c9,dn,fi⟩:=bH u c hu
  exact⟨cr,ch,ty2,c9,by rw[A.dj c (ax.fq c ⟨u,hu⟩) (fun h=>by subst h;exact e (ax.hS u x c hu iN))];exact dn,fi.mono fun _ _ k=>k.le bf.le.bK⟩
def Gr (P:Program) (f:FuncId) (args:List AV) (L:List (Nat×List AV)) (H:List Blk) (K:l6 Prop):Prop:=
 ∃dg aw bM t,aw.all rH=true∧bM.all hJ=true∧
  ((∃b g,H[b]?=some ⟨g,aw.length,[aw]⟩∧AV.ptr b g 0 0∈args∧aK (qG (.ptr b g 0 0) (.ptr 0 g 0 0)) args dg∧qJ P f g dg aw bM t∧K t L (H.set b ⟨g,aw.length,[bM]⟩))∨
   ∃x,dt L x=some aw∧AV.et x 0∈args∧aK (qG (.et x 0) (.ptr 0 0 0 0)) args dg∧qJ P f 0 dg aw bM t∧K t (jj L x bM) H)
theorem PC {P:Program} {f:FuncId} {args:List AV} {L:List (Nat×List AV)} {H:List Blk} {E:Env} {vs:List Value} {K:AV→List (Nat×List AV)→List Blk→Prop} (ax:SimH E H) (bH:SimL E L) (aC:aK (V2 E) args vs) (h:Gr P f args L H K):
  qk P f=true∧Calls P f vs.toArray E.w fun e w'=> ∃v u L' H' E',e= .returned u∧K v L' H'∧E'.w=w'∧Step E E'∧SimH E' H'∧SimL E' L'∧V3 E' v u∧E'.mL=E.mL:=by
 obtain⟨dg,aw,bM,t,hk,h4,⟨b,g,hb,hm,hs,hf,hK⟩ | ⟨x,hx,hm,hs,hf,hK⟩⟩:=h
 ·refine⟨hf.1,(PD ax bH hb hk h4 aC hm hs hf).mono ?_⟩
  rintro e w' ⟨v,E',rfl,rfl,h1,h2,aH,bn,cX⟩
  exact⟨t,v,L,_,E',rfl,hK,rfl,h1,h2,aH,bn,cX⟩
 ·refine⟨hf.1,(PE ax bH hx hk h4 aC hm hs hf).mono ?_⟩
  rintro e w' ⟨v,E',rfl,rfl,h1,h2,aH,bn,cX⟩
  exact⟨t,v,_,H,E',rfl,hK,rfl,h1,h2,aH,bn,cX⟩
def Px (P:Program) (f:FuncId) (args:List AV) (L:List (Nat×List AV)) (H:List Blk) (K:l6 Prop):Prop:=
 args.all dL=true∧ ∃dg,aK (dP L H) args dg∧dc P f dg [] fun r ef=>tO r=true∧ql ef=true∧K (nD H.length r) L (H++ef.map (jk H.length))
def Pv (P:Program) (f:FuncId) (args:List AV) (L:List (Nat×List AV)) (H:List Blk) (K:l6 Prop):Prop:=
 args.all dL=true∧args.all iv=true∧dc P f args H fun r H'=>tI r=true∧K r L H'
def jq (P:Program) (f:FuncId) (args:List AV) (L:List (Nat×List AV)) (H:List Blk) (K:l6 Prop):Prop:=
 mf P f args L H (fun r=>K r L H)∨Px P f args L H K∨Pv P f args L H K∨(args.all dL=true∧Gr P f args L H K)
def G1 (P:Program) (c:Call) (bp:Operand→AV) (L:List (Nat×List AV)) (H:List Blk) (K:l6 Prop):Prop:=match c.callee with
 | .builtin .len=>BH P c bp L H fun r=>K r L H
 | .builtin .append=>(match c.args.toList,c.argTypes.toList with
  | [s,x],[t,t2]=>dL (bp s)=true∧dL (bp x)=true∧qV P t t2 (bp s) (bp x) L H K
  | _,_=>False)
 | .value f=>jK (bp f) fun g caps=>jq P g (c.args.toList.map bp++caps) L H K
 | _=>False
def ih (P:Program) (esc:List Nat) (o:Oper) (bp:Operand→AV) (L:List (Nat×List AV)) (H:List Blk) (K:l6 Prop):Prop:=match o.op with
 | .store t a v=>dM (dL (bp v)) (jX P t (bp a) (bp v) L H fun L' H'=>K (.tup []) L' H')
 | .alloc e=>cn (kT P e) fun z=>rS esc o.dst z L H K
 | .box e x=>dM (dL (bp x)) (rS esc o.dst (eb (bp x)) L H K)
 | .makeSlice t l c=>tF P t (bp l) (bp c) L H K
 | .buildSlice t n ps=>dM (ps.toList.all fun p=>dL (bp p.2)) (qY P (q8 esc o.dst) (sc esc) t n (ps.toList.map fun p=>(p.1,bp p.2)) L H K)
 | .call c=>G1 P c bp L H K
 | _=>pN P o bp L H fun r=>K r L H
theorem xx {E:Env} {a:AV} {v:Value} (h:dL a=true) (hv:V3 E a v):V2 E a v:=by
 rwa [mb (tJ h)] at hv
theorem Py {P:Program} {f:FuncId} {args:List AV} {L:List (Nat×List AV)} {H:List Blk} {E:Env} {vs:List Value} {K:AV→List (Nat×List AV)→List Blk→Prop} (ax:SimH E H) (bH:SimL E L)
  (aC:aK (V2 E) args vs) (h:jq P f args L H K):
  qk P f=true∧Calls P f vs.toArray E.w fun e w'=> ∃v u L' H' E',e= .returned u∧K v L' H'∧E'.w=w'∧Step E E'∧SimH E' H'∧SimL E' L'∧V3 E' v u∧E'.mL=E.mL:=by
 rcases h with⟨ap,dg,t,hs,m9,hK⟩ | ⟨ap,dg,hs,m9⟩ | ⟨ap,aE,m9⟩ | ⟨ap,ai⟩
 ·refine⟨m9.1,(Gt (Sub.refl L H) ax bH aC hs m9).mono ?_⟩
  rintro e w' ⟨v,E',rfl,rfl,af,hv⟩
  exact⟨t,v,L,H,E',rfl,hK,rfl,af.step,af.simH ax,af.simL ax bH,hv,af.mL⟩
 ·refine⟨m9.1,(Pz (Q:=fun r ef=>K (nD H.length r) L (H++ef.map (jk H.length))) ax bH aC hs m9).mono ?_⟩
  rintro e w' ⟨r,v,ef,E',rfl,hK,rfl,bf,h1,h2,hv,hml⟩
  exact⟨_,v,L,_,E',rfl,hK,rfl,bf,h1,h2,hv,hml⟩
 ·refine⟨m9.1,(Pw (Q:=fun r H'=>K r L H') ax bH aC aE m9).mono ?_⟩
  rintro e w' ⟨r,v,H',E',rfl,hK,rfl,bf,h1,h2,hv,hml⟩
  exact⟨_,v,L,_,E',rfl,hK,rfl,bf,h1,h2,hv,hml⟩
 ·exact PC ax bH aC ai
theorem Pu {P:Program} {f:FuncId} {args:List AV} {L:List (Nat×List AV)} {H:List Blk} {K:AV→List (Nat×List AV)→List Blk→Prop} (h:jq P f args L H K):args.all dL=true:=by
 rcases h with⟨ap,_⟩ | ⟨ap,_⟩ | ⟨ap,_⟩ | ⟨ap,_⟩<;>exact ap
set_option maxHeartbeats 1000000 in
theorem evOp_sound {P:Program} {esc:List Nat} {o:Oper} {a:Act} {T:List AV} {E:Env} {L:List (Nat×List AV)} {H:List Blk} {K:AV→List (Nat×List AV)→List Blk→Prop} {Q:Exit→Act→World→Prop}
  (bS: ∀t,V3 E (T.getD t .undef) (a.tmps.getD t undef)) (ax:SimH E H) (bH:SimL E L) (h:ih P esc o (bR T) L H K):o.wp P a E.w (Aq E o a K) Q:=by
 have fin: ∀{s:Sem Value},(execOp a.eval o=(do pure (Next.value (←s))))→(∃v L' H' E' u,K v L' H'∧s.run P E.w= .ok u E'.w∧Step E E'∧SimH E' H'∧SimL E' L'∧V3 E' v u∧ ∀t,o.dst≠some t→E'.mL t=E.mL t)→o.wp P a E.w (Aq E o a K) Q:=by
  rintro s hs ⟨v,L',H',E',u,hK,aq,h1,h2,aH,bn,cX⟩
  unfold Oper.wp
  rw[hs]
  exact Fy aq ⟨v,u,L',H',E',hK,rfl,h1,h2,aH,bn,rfl,cX⟩
 have L7:pN P o (bR T) L H (fun r=>K r L H)→o.wp P a E.w (Aq E o a K) Q:=fun h=>
  Oper.wp_mono (fun gS w' ⟨v,u,E',hK,hw,af,hv,aC⟩=>⟨v,u,L,H,E',hK,hw,af.step,af.simH ax,af.simL ax bH,hv,aC,fun t _=>by rw[af.mL]⟩) (G8 bS (Sub.refl L H) ax bH h)
 obtain⟨dst,op,ty,pos,after,guard⟩:=o
 cases op with
 | store t x v=>
  obtain⟨ap,h⟩:=nr (show dM (dL (bR T v)) (jX P t (bR T x) (bR T v) L H fun L' H'=>K (.tup []) L' H') from h)
  obtain⟨L',H',E',hK,aq,h1,h2,aH,hml⟩:=aaD ax bH (opv_rel bS x) (xx ap (opv_rel bS v)) h
  unfold Oper.wp
  have:(execOp a.eval ⟨dst,.store t x v,ty,pos,after,guard⟩).run P E.w= .ok .skip E'.w:=by
   simp only[execOp,Sem.run_bind,aq,Sem.run_pure,Result.andThen_ok]
  rw[this]
  exact⟨.tup [],_,L',H',E',hK,rfl,h1,h2,aH,⟨[],rfl,aK.nil⟩,rfl,fun t _=>by rw[hml]⟩
 | alloc e=>
  obtain⟨z,aJ,h⟩:=eu (show cn (kT P e) fun z=>rS esc dst z L H K from h)
  obtain⟨i,v,q1,q2,q3,q4⟩:=sw (E:=E) aJ
  obtain⟨r,L',H',E',hK,hw,h1,h2,aH,bn,hml⟩:=La (ty:=e) ax bH q4 h
  refine fin (s:=Instr.alloc e true (.tuple #[])) rfl ⟨r,L',H',E',_,hK,?_,h1,h2,aH,bn,hml⟩
  rw[hw]
  simp[Instr.alloc,zeroValue,typeInfo,q1,q2,newVar,newRow]
 | box e x=>
  obtain⟨ap,h⟩:=nr (show dM (dL (bR T x)) (rS esc dst (eb (bR T x)) L H K) from h)
  have hs:(eb (bR T x)).all hX=true:=by
   unfold rS at h;split at h
   ·rename_i q;exact q
   ·exact h.elim
  obtain⟨r,L',H',E',hK,hw,h1,h2,aH,bn,hml⟩:=La (ty:=e) ax bH (A5 (xx ap (opv_rel bS x)) hs) h
  refine fin (s:=Instr.box e (a.eval x)) rfl ⟨r,L',H',E',_,hK,?_,h1,h2,aH,bn,hml⟩
  rw[hw]
  simp[Instr.box,newVar,newRow]
 | makeSlice t l c=>
  obtain⟨v,L',H',E',u,hK,aq,h1,h2,aH,bn,hml⟩:=Xe ax bH (opv_rel bS l) (opv_rel bS c) (show tF P t (bR T l) (bR T c) L H K from h)
  exact fin (s:=Instr.makeSlice t (a.eval l) (a.eval c)) rfl ⟨v,L',H',E',u,hK,aq,h1,h2,aH,bn,fun t _=>by rw[hml]⟩
 | buildSlice t n ps=>
  obtain⟨ap,h⟩:=nr (show dM (ps.toList.all fun p=>dL (bR T p.2)) (qY P (q8 esc dst) (sc esc) t n (ps.toList.map fun p=>(p.1,bR T p.2)) L H K) from h)
  obtain⟨v,u,L',H',E',hK,aq,h1,h2,aH,bn,hml⟩:=Pg ax bH (DY bS ps.toList fun p ai=>tJ (List.all_eq_true.1 ap p ai)) h
  exact fin (s:=Instr.buildSlice t n (ps.toList.map fun p=>(p.1,a.eval p.2)).toArray) (by rw[parts_eq];rfl) ⟨v,L',H',E',u,hK,aq,h1,h2,aH,bn,fun t _=>by rw[hml]⟩
 | call c=>
  have h:G1 P c (bR T) L H K:=h
  obtain⟨callee,args,argTypes⟩:=c
  cases callee with
  | builtin b=>
   cases b with
   | len=>exact L7 h
   | append=>
    have h:(match args.toList,argTypes.toList with
     | [s,x],[t,t2]=>dL (bR T s)=true∧dL (bR T x)=true∧qV P t t2 (bR T s) (bR T x) L H K
     | _,_=>False):=h
    split at h
    ·rename_i s x t t2 h1 h2
     obtain rfl:args= #[s,x]:=by rw[←Array.toArray_toList (xs:=args),h1]
     obtain rfl:argTypes= #[t,t2]:=by rw[←Array.toArray_toList (xs:=argTypes),h2]
     obtain⟨e5,n2,h⟩:=h
     obtain⟨r,u,H',E',hK,aq,q1,q2,q3,q4,hml⟩:=O0 (ty:=ty) ax bH (xx e5 (opv_rel bS s)) (xx n2 (opv_rel bS x)) h
     unfold Oper.wp
     have:(execOp a.eval ⟨dst,.call ⟨.builtin .append,#[s,x],#[t,t2]⟩,ty,pos,after,guard⟩).run P E.w= .ok (.value u) E'.w:=by
      simp only[execOp,resolve,Sem.run_bind,Sem.run_pure,Result.andThen_ok,invoke,builtin]
      have e:Array.map a.eval #[s,x]= #[a.eval s,a.eval x]:=by simp
      rw[e,aq];rfl
     rw[this]
     exact⟨r,u,L,H',E',hK,rfl,q1,q2,q3,q4,rfl,fun t _=>by rw[hml]⟩
    ·exact h.elim
   | _=>exact h.elim
  | value f=>
   have h:jK (bR T f) fun g caps=>jq P g (args.toList.map (bR T)++caps) L H K:=h
   cases hf:bR T f with
   | fn g caps=>
    rw[hf] at h
    have h:jq P g (args.toList.map (bR T)++caps) L H K:=h
    have ap:=Pu h
    obtain⟨vs,he,rk⟩:=Gu bS hf
    have Cd:aK (V2 E) (args.toList.map (bR T)++caps) (args.toList.map a.eval++vs):=
     aK.append (F8 bS args.toList fun x hx=>tJ (List.all_eq_true.1 ap _ (by simp;exact .inl ⟨x,by simpa using hx,rfl⟩))) rk
    obtain⟨eH,hc⟩:=Py ax bH Cd h
    unfold Oper.wp
    rw[show execOp a.eval ⟨dst,.call ⟨.value f,args,argTypes⟩,ty,pos,after,guard⟩=(do let d ←resolve a.eval ⟨.value f,args,argTypes⟩ ty;invoke d.target d.args) from rfl]
    rw[Mn (P:=P) (ty:=ty) (w:=E.w) (c:=⟨.value f,args,argTypes⟩) rfl he eH]
    refine hc.mono ?_
    rintro e w' ⟨v,u,L',H',E',rfl,hK,rfl,q1,q2,q3,q4,hml⟩
    exact⟨v,u,L',H',E',hK,rfl,q1,q2,q3,q4,rfl,fun t _=>by rw[hml]⟩
   | _=>rw[hf] at h;exact h.elim
  | _=>exact h.elim
 | _=>exact L7 h
def mT (lit:Bool) (b:Bool) (x y:Prop):Prop:=match lit with
 | true=>(match b with
  | true=>x
  | false=>y)
 | false=>uY b x y
theorem xM {lit b:Bool} {x y:Prop} (h:mT lit b x y):(b=true→x)∧(b=false→y):=by
 cases lit with
 | false=>exact h
 | true=>cases b<;>exact⟨fun e=>by cases e<;>exact h,fun e=>by cases e<;>exact h⟩
def putA (T:List AV) (dst:Option Nat) (v:AV):List AV:=match dst with
 | some d=>T.set d v
 | none=>T
def lF (ops:Array Oper) (lit:Bool) (o:Oper) (T:List AV) (x y:List AV→Prop):Prop:=match o.guard with
 | none=>x T
 | some (j,cE)=>match(ops[j]?).bind (·.dst) with
  | none=>False
  | some t=>match T.getD t .undef with
   | .bool b=>mT lit b (if cE=true then x (T.set t (.bool true)) else y (T.set t (.bool true))) (if cE=true then y (T.set t (.bool false)) else x (T.set t (.bool false)))
   | .tup []=>y T
   | _=>False
def r2 (lit:Bool) (o:Oper) (T:List AV) (K:AV→Prop) (x4:Prop):Prop:=match o.op with
 | .pick c x y=>me (bR T c) fun z=>mT lit z (K (bR T x)) (K (bR T y))
 | _=>x4
def evOps (P:Program) (esc:List Nat) (ops:Array Oper):List (Oper×Bool)→List AV→List (Nat×List AV)→List Blk→(List AV→List (Nat×List AV)→List Blk→Prop)→Prop
 | [],T,L,H,K=>K T L H
 | (o,lit)::rest,T,L,H,K=>lF ops lit o T
   (fun T=>r2 lit o T (fun v=>evOps P esc ops rest (putA T o.dst v) L H K) (ih P esc o (bR T) L H fun v L' H'=>evOps P esc ops rest (putA T o.dst v) L' H' K))
   (fun T=>evOps P esc ops rest (putA T o.dst (.tup [])) L H K)
theorem oU {T:List AV} {d t:Nat} {v:AV}:(T.set d v).getD t .undef=if d=t∧d<T.length then v else T.getD t .undef:=by
 rw[List.getD_eq_getElem?_getD,List.getD_eq_getElem?_getD,List.getElem?_set]
 by_cases h:d=t
 ·subst h
  by_cases aE:d<T.length
  ·simp[aE]
  ·simp[aE]
 ·simp[h]
theorem MR {E:Env} {T:List AV} {a:Act} (bS: ∀t,V3 E (T.getD t .undef) (a.tmps.getD t undef)) (hs:T.length=a.tmps.size) {dst:Option Nat} {v:AV} {u:Value} (hv:V3 E v u):
  (∀t,V3 E ((putA T dst v).getD t .undef) ((a.put dst u).tmps.getD t undef))∧(putA T dst v).length=(a.put dst u).tmps.size:=by
 cases dst with
 | none=>exact⟨bS,hs⟩
 | some d=>
  refine⟨fun t=> ?_,by simp[putA,Act.put,hs]⟩
  show V3 E ((T.set d v).getD t .undef) ((a.tmps.setIfInBounds d u).getD t undef)
  rw[oU,Array.getD_eq_getD_getElem?,Array.getElem?_setIfInBounds]
  by_cases h:d=t
  ·subst h
   by_cases aE:d<T.length
   ·have yG:d<a.tmps.size:=hs▸aE
    simp[aE,yG];exact hv
   ·have yG: ¬d<a.tmps.size:=hs▸aE
    have:=bS d
    rw[Array.getD_eq_getD_getElem?] at this
    simp[aE,yG] at this ⊢
    exact this
  ·have:=bS t
   rw[Array.getD_eq_getD_getElem?] at this
   simp[h];exact this
theorem Zw {E:Env} {T:List AV} {a:Act} (bS: ∀t,V3 E (T.getD t .undef) (a.tmps.getD t undef)) {t:Nat} {b:Bool} (h:T.getD t .undef= .bool b):
  ∀s,V3 E ((T.set t (.bool b)).getD s .undef) (a.tmps.getD s undef):=fun s=>by
 rw[oU]
 by_cases hs:t=s∧t<T.length
 ·rw[if_pos hs,←h,hs.1];exact bS s
 ·rw[if_neg hs];exact bS s
theorem abg {ops:Array Oper} {a:Act} {T:List AV} {E:Env} (bS: ∀t,V3 E (T.getD t .undef) (a.tmps.getD t undef)) {j t:Nat} {b:Bool} (ar:(ops[j]?).bind (·.dst)=some t) (h:T.getD t .undef= .bool b) (hs:T.length=a.tmps.size):
  yielded ops a.tmps j=some b:=by
 have hv:=bS t
 rw[h] at hv
 have he:a.tmps.getD t undef= .bool b:=V3.mS hv
 unfold yielded
 rw[ar]
 rw[Array.getD_eq_getD_getElem?] at he
 cases af:a.tmps[t]? with
 | none=>rw[af] at he;cases he
 | some x=>rw[af] at he;have:x= .bool b:=he;subst this;simp[af]
theorem abh {ops:Array Oper} {a:Act} {T:List AV} {E:Env} (bS: ∀t,V3 E (T.getD t .undef) (a.tmps.getD t undef)) {j t:Nat} (ar:(ops[j]?).bind (·.dst)=some t) (h:T.getD t .undef= .tup []):
  yielded ops a.tmps j=none:=by
 have hv:=bS t
 rw[h] at hv
 obtain⟨vs,he,ai⟩:=(show ∃vs:List Value,a.tmps.getD t undef= .tuple vs.toArray∧aK (V2 E) [] vs from hv)
 obtain rfl:=ai.mv
 unfold yielded
 rw[ar]
 rw[Array.getD_eq_getD_getElem?] at he
 cases af:a.tmps[t]? with
 | none=>simp[af]
 | some x=>rw[af] at he;have:x= .tuple #[]:=he;subst this;simp[af]
theorem RC {P:Program} {ops:Array Oper} {lit:Bool} {o:Oper} {a:Act} {T:List AV} {E:Env} {w:World} {x y:List AV→Prop} {R:Prop}
  (bS: ∀t,V3 E (T.getD t .undef) (a.tmps.getD t undef)) (hs:T.length=a.tmps.size) (h:lF ops lit o T x y)
  (oI: ∀T',Region.wanted o (yielded ops a.tmps)=true→(∀t,V3 E (T'.getD t .undef) (a.tmps.getD t undef))→T'.length=a.tmps.size→x T'→R)
  (no: ∀T',Region.wanted o (yielded ops a.tmps)=false→(∀t,V3 E (T'.getD t .undef) (a.tmps.getD t undef))→T'.length=a.tmps.size→y T'→R):R:=by
 unfold lF at h
 cases aL:o.guard with
 | none=>rw[aL] at h;exact oI T (by simp[Region.wanted,aL]) bS hs h
 | some g=>
  obtain⟨j,cE⟩:=g
  rw[aL] at h
  simp only at h
  cases ar:(ops[j]?).bind (·.dst) with
  | none=>rw[ar] at h;exact h.elim
  | some t=>
   rw[ar] at h
   simp only at h
   split at h
   ·rename_i b hb
    have bd:=abg (ops:=ops) bS ar hb hs
    have hk:=Zw bS hb
    obtain⟨h1,h2⟩:=xM h
    cases b with
    | true=>
     have h:=h1 rfl
     cases cE with
     | true=>exact oI _ (by simp[Region.wanted,aL,bd]) hk (by simpa using hs) h
     | false=>exact no _ (by simp[Region.wanted,aL,bd]) hk (by simpa using hs) h
    | false=>
     have h:=h2 rfl
     cases cE with
     | true=>exact no _ (by simp[Region.wanted,aL,bd]) hk (by simpa using hs) h
     | false=>exact oI _ (by simp[Region.wanted,aL,bd]) hk (by simpa using hs) h
   ·rename_i hb
    have bd:=abh (ops:=ops) bS ar hb
    exact no T (by simp[Region.wanted,aL,bd]) bS hs h
   ·exact h.elim
theorem x8 [b6] {P:Program} {esc:List Nat} {ops:Array Oper} {Q:Exit→St→Prop} {bY:Env}: ∀(l:List (Oper×Bool)) (T:List AV) (L:List (Nat×List AV)) (H:List Blk) (E:Env) (a:Act),
  Good bY E→qS E ⟨T,L,H⟩ a.tmps→a.defers=[]→evOps P esc ops l T L H (fun T L H=>Q .normal ⟨T,L,H⟩)→wpList P ops (kW bY Q) (l.map (·.1)) a E.w
 | [],T,L,H,E,a,aL,hs,aY,h=>⟨rfl,⟨T,L,H⟩,E,h,rfl,aL,hs,aY⟩
 | (o,lit)::rest,T,L,H,E,a,aL,hs,aY,h=>by
  have bS: ∀t,V3 E (T.getD t .undef) (a.tmps.getD t undef):=hs.gO
  show if Region.wanted o (yielded ops a.tmps) then o.wp P a E.w (wpList P ops (kW bY Q) (rest.map (·.1))) (kW bY Q)∨_ else wpList P ops (kW bY Q) (rest.map (·.1)) (a.put o.dst undef) E.w
  refine RC (P:=P) (w:=E.w) bS hs.size h (fun T' hw hT' lO h'=> ?_) (fun T' hw hT' lO h'=> ?_)
  ·rw[if_pos hw]
   refine .inl ?_
   have next: ∀(v:AV) (u:Value) (L':List (Nat×List AV)) (H':List Blk) (E':Env),Step E E'→SimH E' H'→SimL E' L'→V3 E' v u→evOps P esc ops rest (putA T' o.dst v) L' H' (fun T L H=>Q .normal ⟨T,L,H⟩)→
     wpList P ops (kW bY Q) (rest.map (·.1)) (a.put o.dst u) E'.w:=fun v u L' H' E' q1 q2 q3 q4 hK=>by
    obtain⟨c9,dn⟩:=MR (fun t=>(hT' t).le q1.le) lO (dst:=o.dst) q4
    refine x8 rest _ _ _ E' (a.put o.dst u) (aL.step q1) ⟨q2,q3,c9,dn⟩ ?_ hK
    cases o.dst<;>exact aY
   have bc:(ih P esc o (bR T') L H fun v L' H'=>evOps P esc ops rest (putA T' o.dst v) L' H' (fun T L H=>Q .normal ⟨T,L,H⟩))→o.wp P a E.w (wpList P ops (kW bY Q) (rest.map (·.1))) (kW bY Q):=fun h'=>
    Oper.wp_mono (fun gS w' ⟨v,u,L',H',E',hK,fp,q1,q2,q3,q4,aC,_⟩=>by
     subst aC;subst fp
     exact next v u L' H' E' q1 q2 q3 q4 hK) (evOp_sound hT' hs.h hs.l h')
   unfold r2 at h'
   split at h'
   ·rename_i c x y eO
    obtain⟨b,hb,bw⟩:=xE h'
    obtain⟨h1,h2⟩:=xM bw
    have hv:=opv_rel hT' c
    rw[hb] at hv
    have he:a.eval c= .bool b:=V3.mS hv
    unfold Oper.wp
    have hx: ∀z,(z=if b=true then a.eval x else a.eval y)→(execOp a.eval o).run P E.w= .ok (.value z) E.w:=fun z aJ=>by
     subst aJ
     simp only[execOp,eO,he,asBool,Sem.run_bind,Sem.run_pure,Result.andThen_ok]
    cases b with
    | true=>rw[hx (a.eval x) rfl];exact next _ _ L H E (Step.refl E) hs.h hs.l (opv_rel hT' x) (h1 rfl)
    | false=>rw[hx (a.eval y) rfl];exact next _ _ L H E (Step.refl E) hs.h hs.l (opv_rel hT' y) (h2 rfl)
   ·exact bc h'
  ·rw[hw]
   show wpList P ops (kW bY Q) (rest.map (·.1)) (a.put o.dst undef) E.w
   obtain⟨c9,dn⟩:=MR (a:=a) hT' lO (dst:=o.dst) (v:= .tup []) (u:=undef) ⟨[],rfl,aK.nil⟩
   refine x8 rest (putA T' o.dst (.tup [])) L H E (a.put o.dst undef) aL ⟨hs.h,hs.l,c9,dn⟩ ?_ h'
   cases o.dst<;>exact aY
def lits (ops:Array Oper) (pe:List Nat):List (Oper×Bool):=ops.toList.zipIdx.map fun p=>(p.1,pe.contains p.2)
theorem WM (ops:Array Oper) (pe:List Nat):(lits ops pe).map (·.1)=ops.toList:=by
 unfold lits
 rw[List.map_map]
 apply List.ext_getElem?
 intro i
 simp only[List.getElem?_map,List.getElem?_zipIdx]
 cases ops.toList[i]?<;>rfl
theorem WpS.region [b6] {P:Program} {esc:List Nat} {pe:List Nat} {id:Nat} {ops:Array Oper} {Q:Exit→St→Prop} {av:St} (h:evOps P esc ops (lits ops pe) av.T av.L av.H (fun T L H=>Q .normal ⟨T,L,H⟩)):WpS P (.region id ops false) Q av:=fun bY E a g s d=>by
 refine wp_region_list ?_
 have:=x8 (lits ops pe) av.T av.L av.H E a g s d h
 rwa [WM] at this
def rP (ci:List Nat):AV→Bool
 | .et t _=> !ci.contains t
 | _=>true
def qb (ci:List Nat):AV→Bool
 | .fn _ caps=>caps.all (rP ci)
 | a=>rP ci a
def qc (ci:List Nat):AV→Bool
 | .agg l=>l.all (qb ci)
 | a=>qb ci a
def mu (ci:List Nat):AV→Bool
 | .tup l=>l.all (qc ci)
 | a=>qc ci a
def Env.drop (E:Env) (ci:List Nat):Env:={E with mL:=fun t=>if ci.contains t=true then none else E.mL t}
section
variable {E:Env} {ci:List Nat}
theorem ea.drop {a:AV} {v:Value} (h:rP ci a=true) (hv:ea E a v):ea (E.drop ci) a v:=by
 cases a with
 | et t c=>
  obtain⟨bl,hm,e⟩:=hv
  have:ci.contains t=false:=by simpa[rP] using h
  exact⟨bl,by show(if ci.contains t=true then none else E.mL t)=_;rw[if_neg (by rw[this];simp)];exact hm,e⟩
 | _=>exact hv
theorem bQ.drop {a:AV} {v:Value} (h:qb ci a=true) (hv:bQ E a v):bQ (E.drop ci) a v:=by
 by_cases hf: ∃f caps,a= .fn f caps
 ·obtain⟨f,caps,rfl⟩:=hf
  obtain⟨vs,e,ai⟩:=hv
  exact⟨vs,e,ai.1,fun i x y hx bd=>(ai.2 i x y hx bd).drop (List.all_eq_true.1 (show caps.all (rP ci)=true from h) x (List.mem_of_getElem? hx))⟩
 ·have aM:qb ci a=rP ci a:=by cases a<;>first | rfl | exact absurd ⟨_,_,rfl⟩ hf
  rw[nV fun f c e=>hf ⟨f,c,e⟩] at hv ⊢
  exact hv.drop (aM▸h)
theorem V2.drop {a:AV} {v:Value} (h:qc ci a=true) (hv:V2 E a v):V2 (E.drop ci) a v:=by
 by_cases hf: ∃l,a= .agg l
 ·obtain⟨l,rfl⟩:=hf
  obtain⟨vs,e,ai⟩:=hv
  exact⟨vs,e,ai.1,fun i x y hx bd=>(ai.2 i x y hx bd).drop (List.all_eq_true.1 (show l.all (qb ci)=true from h) x (List.mem_of_getElem? hx))⟩
 ·have aM:qc ci a=qb ci a:=by cases a<;>first | rfl | exact absurd ⟨_,rfl⟩ hf
  rw[ma fun l e=>hf ⟨l,e⟩] at hv ⊢
  exact hv.drop (aM▸h)
theorem V3.drop {a:AV} {v:Value} (h:mu ci a=true) (hv:V3 E a v):V3 (E.drop ci) a v:=by
 by_cases hf: ∃l,a= .tup l
 ·obtain⟨l,rfl⟩:=hf
  obtain⟨vs,e,ai⟩:=hv
  exact⟨vs,e,ai.1,fun i x y hx bd=>(ai.2 i x y hx bd).drop (List.all_eq_true.1 (show l.all (qc ci)=true from h) x (List.mem_of_getElem? hx))⟩
 ·have aM:mu ci a=qc ci a:=by cases a<;>first | rfl | exact absurd ⟨_,rfl⟩ hf
  rw[mb fun l e=>hf ⟨l,e⟩] at hv ⊢
  exact hv.drop (aM▸h)
end
def lx (ci:List Nat) (L:List (Nat×List AV)):List (Nat×List AV):=match L with
 | []=>[]
 | (k,c)::L=>match ci.contains k with
  | true=>lx ci L
  | false=>(k,c)::lx ci L
theorem x0 {ci:List Nat}: ∀(L:List (Nat×List AV)) (t:Nat),ci.contains t=false→dt (lx ci L) t=dt L t
 | [],t,h=>rfl
 | (k,c)::L,t,h=>by
  unfold lx
  split
  ·rename_i hk
   have:t≠k:=fun e=>by subst e;rw[h] at hk;cases hk
   rw[x0 L t h];simp[dt,this]
  ·simp only[dt];rw[x0 L t h]
theorem Weak.lx [b6] (ci:List Nat) {T:List AV} {L:List (Nat×List AV)} {H:List Blk} (h:T.all (mu ci)=true):Weak ⟨T,L,H⟩ ⟨T,lx ci L,H⟩:=fun bY E tmps g s=>by
 have hm: ∀t c,(E.drop ci).mL t=some c→ci.contains t=false∧E.mL t=some c:=by
  intro t c hc
  have hc:(if ci.contains t=true then none else E.mL t)=some c:=hc
  split at hc
  ·cases hc
  ·rename_i q;exact⟨by simpa using q,hc⟩
 have hi: ∀c,(E.drop ci).iQ c→E.iQ c:=fun c ⟨t,bj⟩=>⟨t,(hm t c bj).2⟩
 have f_:SimH E H:=s.h
 refine⟨E.drop ci,rfl,?_,?_,?_,fun t=> ?_,s.size⟩
 ·exact{g with
   le:={g.le with mL:=fun t c hc=>by rw[g.bK t] at hc;cases hc}
   hR:=fun c hc=>g.hR c (hi c hc)}
 ·exact{f_ with
   heap:=f_.heap
   hS:=fun t gz c h1 h2=>f_.hS t gz c (hm t c h1).2 (hm gz c h2).2
   fz:=fun b t c h1 h2=>f_.fz b t c h1 (hm t c h2).2
   gM:=fun c hc hx=>f_.gM c hc (hi c hx)
   fq:=fun c hx=>f_.fq c (hi c hx)}
 ·intro t c hc
  obtain⟨h1,h2⟩:=hm t c hc
  obtain⟨cells,aw,ty,q1,q2,q3⟩:=s.l t c h2
  exact⟨cells,aw,ty,by show dt (Fw.lx ci L) t=_;rw[x0 L t h1];exact q1,q2,q3⟩
 ·show V3 (E.drop ci) (T.getD t .undef) _
  refine(s.gO t).drop ?_
  show mu ci (T.getD t .undef)=true
  rw[List.getD_eq_getElem?_getD]
  cases af:T[t]? with
  | none=>rfl
  | some a=>exact List.all_eq_true.1 h a (List.mem_of_getElem? af)
def o_:AV→Bool
 | .aR [] true _=>true
 | _=>false
theorem Qr {E:Env} {a:AV} {v:Value} (h:o_ a=true) (hv:ea E a v): ∃A,v= .slice A 0 0:=by
 have key: ∀rows full fr,a= .aR rows full fr→rows=[]→full=true→ ∃A,v= .slice A 0 0:=by
  intro rows full fr e aq hf
  subst e
  have hv:aQ E.w E.PA E.PF (.aR rows full fr) v:=hv
  cases hv with
  | @aR _ _ PB _ _ _ A cap sz vs dY ec eN bU dd hrel=>
   refine⟨A,?_⟩
   rw[eN hf,aq];rfl
 unfold o_ at h
 split at h
 ·exact key _ _ _ rfl rfl rfl
 ·cases h
theorem BA {E E':Env} {a:AV} {v:Value} {b:Nat} (h:o_ a=true) (hv:bQ E a v) (aL:E'.bc b=0) (hm:E'.m b=some none):bQ E' (.ref b 0 0 0 false) v:=by
 have gD:ea E a v:=by
  rwa [nV] at hv
  rintro f c rfl;cases h
 obtain⟨A,rfl⟩:=Qr h gD
 exact .inr ⟨aL.symm,.inl ⟨hm,rfl,rfl,A,rfl⟩⟩
theorem Weak.OS [b6] (i sz:Nat) {T:List AV} {L:List (Nat×List AV)} {H:List Blk} (h:o_ (T.getD i .undef)=true):Weak ⟨T,L,H⟩ ⟨T.set i (.ref H.length 0 0 0 false),L,H++[⟨0,sz,[]⟩]⟩:=fun bY E tmps g s=>by
 obtain⟨E',hw,bf,h1,h2,aH,bn,_⟩:=ze (blk:=⟨0,sz,[]⟩) s.h s.l rfl rfl
 refine⟨E',hw,g.step bf,h1,h2,fun t=> ?_,by simpa using s.size⟩
 show V3 E' ((T.set i _).getD t .undef) _
 rw[oU]
 split
 ·rename_i af
  obtain⟨rfl,_⟩:=af
  have hv:=s.gO i
  have iP:bQ E (T.getD i .undef) (tmps.getD i undef):=by
   have hv:V3 E (T.getD i .undef) (tmps.getD i undef):=hv
   rw[mb,ma] at hv
   ·exact hv
   ·intro l e;rw[e] at h;cases h
   ·intro l e;rw[e] at h;cases h
  exact nW (jF (BA h iP aH bn))
 ·exact(s.gO t).le bf.le
theorem Weak.AK [b6] (t i sz:Nat) {T:List AV} {L:List (Nat×List AV)} {H:List Blk} {cells:List AV} (hc:dt L t=some cells) (h:o_ (cells.getD i .undef)=true):
  Weak ⟨T,L,H⟩ ⟨T,jj L t (cells.set i (.ref H.length 0 0 0 false)),H++[⟨0,sz,[]⟩]⟩:=fun bY E tmps g s=>by
 obtain⟨E',hw,bf,h1,h2,aH,bn,cX,eG⟩:=ze (blk:=⟨0,sz,[]⟩) s.h s.l rfl rfl
 refine⟨E',hw,g.step bf,h1,?_,fun t=>(s.gO t).le bf.le,s.size⟩
 intro u c hm
 obtain⟨fF,aw,ty,q1,q2,q3⟩:=h2 u c hm
 show ∃A2 aw ty,dt (jj L t _) u=some A2∧_
 rw[vg]
 by_cases hu:u=t
 ·subst hu
  rw[if_pos rfl]
  have wC:dt L u=some fF:=q1
  rw[hc] at wC
  cases wC
  refine⟨_,aw,ty,by rw[hc];rfl,q2,by simpa using q3.1,fun j x v hx hv=> ?_⟩
  rw[List.getElem?_set] at hx
  split at hx
  ·rename_i j7
   subst j7
   split at hx
   ·rename_i aS
    cases hx
    have aL:=List.getElem?_eq_getElem aS
    have:cells.getD i .undef=cells[i]:=by rw[List.getD_eq_getElem?_getD,aL];rfl
    have iP:=q3.2 i _ v aL hv
    rw[this] at h
    exact BA (E:=E'.bK) h iP aH bn
   ·cases hx
  ·exact q3.2 j x v hx hv
 ·rw[if_neg hu]
  exact⟨fF,aw,ty,q1,q2,q3⟩
structure b9 where
 bo:Int
 bG:Int
 deriving Inhabited,DecidableEq
structure Way where
 ag:List Int
 a7:List b9
 bJ:List b9
 bZ:List Int
 c6:List Int
 deriving Inhabited,DecidableEq
structure aN where
 ag:Int
 bu:List Int
 M:List Way
 bz:List (List Bool)
 dq:Int
 deriving Inhabited,DecidableEq
structure Event where
 op:Int
 NX:Int
 bG:Int
 deriving Inhabited,DecidableEq
structure ck where
 cE:Int
 a7:Int
 deriving Inhabited,DecidableEq
structure ab where
 az:Int
 aa:Int
 U:List Bool
 an:Bool
 ao:Int
 deriving Inhabited,DecidableEq
structure Frame where
 ok:Bool
 aF:List Bool
 aB:List ck
 M:List ab
 deriving Inhabited,DecidableEq
structure qI where
 code:Int
 frame:Frame
 deriving Inhabited,DecidableEq
structure ho where
 code:Int
 pos:Int
 deriving Inhabited,DecidableEq
structure AG where
 M:List Int
 ag:List Int
 aB:List Int
 deriving Inhabited,DecidableEq
structure ie where
 code:List UInt8
 pos:Int
 wP:Int
 deriving Inhabited
def bO (n:Int):List AV:=[.int .i64 n]
def x3 (n:UInt8):List AV:=[.int .u8 n.toNat]
def aU (b:Bool):List AV:=[.bool b]
def By (s:ByteArray):List AV:=[.str s]
def e1 {α:Type} (e:α→List AV) (fr:Bool) (xs:List α):List AV:=[.aR (xs.map e) false fr]
def di (x:b9):List AV:=[.int .i64 x.bo,.int .i64 x.bG]
def dI (fr:Bool) (x:Way):List AV:=[.aR (x.ag.map bO) false fr,.aR (x.a7.map di) false fr,.aR (x.bJ.map di) false fr,.aR (x.bZ.map bO) false fr,.aR (x.c6.map bO) false fr]
def bL (fr:Bool) (x:aN):List AV:=[.int .i64 x.ag,.aR (x.bu.map bO) false fr,.aR (x.M.map (dI false)) false fr,.aR (x.bz.map (e1 aU false)) false fr,.int .i64 x.dq]
def Bu (x:Event):List AV:=[.int .i64 x.op,.int .i64 x.NX,.int .i64 x.bG]
def br (x:ck):List AV:=[.int .i64 x.cE,.int .i64 x.a7]
def ct (fr:Bool) (x:ab):List AV:=[.int .i64 x.az,.int .i64 x.aa,.aR (x.U.map aU) false fr,.bool x.an,.int .i64 x.ao]
def b5 (fr:Bool) (x:Frame):List AV:=[.bool x.ok,.aR (x.aF.map aU) false fr,.aR (x.aB.map br) false fr,.aR (x.M.map (ct false)) false fr]
def Bt (fr:Bool) (x:qI):List AV:=[.int .i64 x.code,.bool x.frame.ok,.aR (x.frame.aF.map aU) false fr,.aR (x.frame.aB.map br) false fr,.aR (x.frame.M.map (ct false)) false fr]
def Bv (x:ho):List AV:=[.int .i64 x.code,.int .i64 x.pos]
def Qp (fr:Bool) (x:ie):List AV:=[.aR (x.code.map x3) false fr,.int .i64 x.pos,.int .u64 x.wP]
def Qq (fr:Bool) (x:AG):List AV:=[.aR (x.M.map bO) false fr,.aR (x.ag.map bO) false fr,.aR (x.aB.map bO) false fr]
def nth {α:Type} [Inhabited α] (xs:List α) (i:Int):α:=xs.getD i.toNat default
theorem fY {α:Type} [Inhabited α] {xs:List α} {i:Int} (h:i.toNat<xs.length):xs[i.toNat]?=some (nth xs i):=by
 unfold nth
 rw[List.getD_eq_getElem?_getD,List.getElem?_eq_getElem h];rfl
def qg:Code→List Nat→Code
 | c,[]=>c
 | .seq x y,n::p=>match n with
  | 0=>qg x p
  | _=>qg y p
 | .cond _ x y,n::p=>match n with
  | 0=>qg x p
  | _=>qg y p
 | .block _ x,_::p=>qg x p
 | .loop x,_::p=>qg x p
 | .scope x,_::p=>qg x p
 | c,_=>c
def jJ (f:Func):Code:=f.body.getD .skip
section
variable {P:Program} {esc:List Nat} {ops:Array Oper} {l eB:List (Oper×Bool)} {T T':List AV} {L L':List (Nat×List AV)} {H H':List Blk} {K:List AV→List (Nat×List AV)→List Blk→Prop}
end
theorem WpS.seq' [b6] {P:Program} {c x y:Code} {Q:Exit→St→Prop} {av:St} (e:c= .seq x y) (h:WpS P x (dR P y Q) av):WpS P c Q av:=e▸WpS.seq h
theorem WpS.PX [b6] {P:Program} {c x y:Code} {o:Operand} {Q:Exit→St→Prop} {av:St} {b:Bool} (e:c= .cond o x y) (hb:bR av.T o= .bool b) (h1:b=true→WpS P x Q av) (h2:b=false→WpS P y Q av):WpS P c Q av:=
 e▸WpS.cond (by rw[hb];exact⟨h1,h2⟩)
theorem WpS.Pf [b6] {P:Program} {c x:Code} {id:Nat} {Q:Exit→St→Prop} {av:St} (e:c= .block id x) (h:WpS P x (dG id Q) av):WpS P c Q av:=e▸WpS.block h
theorem WpS.Y0 [b6] {P:Program} {c:Code} {Q:Exit→St→Prop} {av:St} (e:c= .skip) (h:Q .normal av):WpS P c Q av:=e▸WpS.skip h
theorem WpS.Yy [b6] {P:Program} {c:Code} {Q:Exit→St→Prop} {av:St} (e:c= .ret) (h:Q .ret av):WpS P c Q av:=e▸WpS.ret h
theorem WpS.QD [b6] {P:Program} {c:Code} {id:Nat} {Q:Exit→St→Prop} {av:St} (e:c= .exit id) (h:Q (.exit id) av):WpS P c Q av:=e▸WpS.exit h
theorem WpS.WU [b6] {P:Program} {c x:Code} {Q:Exit→St→Prop} {av:St} {V:Type} (S:V→St) (I:V→Prop) (m:V→Nat) (e:c= .loop x) (v0:V) (hs:Weak av (S v0)) (aM:I v0)
  (round: ∀v,I v→WpS P x (fun ex s=>match ex with
   | .normal=> ∃dv,I dv∧m dv<m v∧Weak s (S dv)
   | ex=>Q ex s) (S v)):WpS P c Q av:=by
 subst e
 refine WpS.py (WpS.loop (fun n s=> ∃v,I v∧s=S v∧n=m v) (m v0) ⟨v0,aM,rfl,rfl⟩ ?_) hs
 rintro n s ⟨v,hv,rfl,rfl⟩
 refine WpS.mono (round v hv) fun ex s af=> ?_
 cases ex with
 | normal=>
  obtain⟨dv,h1,h2,aH⟩:=af
  exact⟨m dv,S dv,h2,aH,dv,h1,rfl,rfl⟩
 | _=>exact af
theorem dR.normal [b6] {P:Program} {y:Code} {Q:Exit→St→Prop} {s:St} (h:WpS P y Q s):dR P y Q .normal s:=h
theorem dR.ret [b6] {P:Program} {y:Code} {Q:Exit→St→Prop} {s:St} (h:Q .ret s):dR P y Q .ret s:=h
theorem dR.exit [b6] {P:Program} {y:Code} {Q:Exit→St→Prop} {s:St} {id:Nat} (h:Q (.exit id) s):dR P y Q (.exit id) s:=h
theorem dG.normal {id:Nat} {Q:Exit→St→Prop} {s:St} (h:Q .normal s):dG id Q .normal s:=h
theorem dG.ret {id:Nat} {Q:Exit→St→Prop} {s:St} (h:Q .ret s):dG id Q .ret s:=h
theorem dG.here {id:Nat} {Q:Exit→St→Prop} {s:St} (h:Q .normal s):dG id Q (.exit id) s:=by
 show(if id=id then _ else _);rw[if_pos rfl];exact h
theorem dG.there {id fc:Nat} {Q:Exit→St→Prop} {s:St} (cd:fc≠id) (h:Q (.exit fc) s):dG id Q (.exit fc) s:=by
 show(if fc=id then _ else _);rw[if_neg cd];exact h
theorem dP.iw {L:List (Nat×List AV)} {H:List Blk} {a b:AV} (h:eW L H a b):dP L H a b:= .inr h
theorem dP.agg {L:List (Nat×List AV)} {H:List Blk} {l eB:List AV} (h:aK (eW L H) l eB):dP L H (.agg l) (.agg eB):= .inl ⟨l,eB,rfl,rfl,h⟩
theorem jE.iw {H:List Blk} {a b:AV} (h:fm H a b):jE H a b:= .inr (.inr h)
theorem jE.agg {H:List Blk} {l eB:List AV} (h:aK (fm H) l eB):jE H (.agg l) (.agg eB):= .inr (.inl ⟨l,eB,rfl,rfl,h⟩)
theorem WpS.start [b6] {P:Program} {c:Code} {Q:Exit→St→Prop} {av jm:St} (e:av=jm) (h:WpS P c Q jm):WpS P c Q av:=e▸h
def cR [b6] (S:St) (ψ:Prop) (Q:Exit→St→Prop) (ex:Exit) (s:St):Prop:=match ex with
 | .normal=>ψ∧Weak s S
 | ex=>Q ex s
theorem WpS.uj [b6] {P:Program} {c x y:Code} {Q:Exit→St→Prop} {av:St} (S:St) {ψ:Prop} (e:c= .seq x y) (h:WpS P x (cR S ψ Q) av) (af:ψ→WpS P y Q S):WpS P c Q av:=by
 subst e
 refine WpS.seq (WpS.mono h fun ex s hs=> ?_)
 cases ex with
 | normal=>exact WpS.py (af hs.1) hs.2
 | _=>exact hs
theorem cR.normal [b6] {S s:St} {ψ:Prop} {Q:Exit→St→Prop} (ai:ψ) (h:Weak s S):cR S ψ Q .normal s:=⟨ai,h⟩
theorem cR.ret [b6] {S s:St} {ψ:Prop} {Q:Exit→St→Prop} (h:Q .ret s):cR S ψ Q .ret s:=h
theorem cR.exit [b6] {S s:St} {ψ:Prop} {Q:Exit→St→Prop} {id:Nat} (h:Q (.exit id) s):cR S ψ Q (.exit id) s:=h
def eE [b6] {V:Type} (S:V→St) (I:V→Prop) (m:V→Nat) (v:V) (Q:Exit→St→Prop) (ex:Exit) (s:St):Prop:=match ex with
 | .normal=> ∃dv,I dv∧m dv<m v∧Weak s (S dv)
 | ex=>Q ex s
theorem WpS.KV [b6] {P:Program} {c x:Code} {Q:Exit→St→Prop} {av:St} {V:Type} (S:V→St) (I:V→Prop) (m:V→Nat) (e:c= .loop x) (v0:V) (hs:Weak av (S v0)) (aM:I v0)
  (round: ∀v,I v→WpS P x (eE S I m v Q) (S v)):WpS P c Q av:=
 WpS.WU S I m e v0 hs aM fun v hv=>WpS.mono (round v hv) fun ex s h=>by
  cases ex<;>exact h
theorem eE.again [b6] {V:Type} {S:V→St} {I:V→Prop} {m:V→Nat} {v:V} {Q:Exit→St→Prop} {s:St} (dv:V) (h:I dv∧m dv<m v) (hw:Weak s (S dv)):eE S I m v Q .normal s:=⟨dv,h.1,h.2,hw⟩
theorem eE.ret [b6] {V:Type} {S:V→St} {I:V→Prop} {m:V→Nat} {v:V} {Q:Exit→St→Prop} {s:St} (h:Q .ret s):eE S I m v Q .ret s:=h
theorem eE.exit [b6] {V:Type} {S:V→St} {I:V→Prop} {m:V→Nat} {v:V} {Q:Exit→St→Prop} {s:St} {id:Nat} (h:Q (.exit id) s):eE S I m v Q (.exit id) s:=h
@[irreducible] def bE (c:Code) (n:Nat):Code:=qg c ((List.range (Nat.log2 n)).map fun i=>(n>>>i)%2).reverse
def iV (c:Code) (n:Nat):Array Oper:=match bE c n with
 | .region _ ops _=>ops
 | _=> #[]
theorem nL [b6] {s s' s'':St} (h:Weak s s') (e:s'=s''):Weak s s'':=e▸h
def iX (H:List Blk) (c d:List AV):Prop:=c.length=d.length∧ ∀(j:Nat) (a b:AV),c[j]?=some a→d[j]?=some b→fm H a a∧b=hF a
theorem Zy {H:List Blk} {α:Type} {eT eF:α→List AV} {b:Nat} {g sz:Nat} {full:Bool} {xs:List α} (hb:H[b]?=some ⟨g,sz,List.map eT xs⟩) (ap:xs.length≤4611686018427387904) (hc: ∀x,iX H (eT x) (eF x)):
  fm H (.ref b g 0 xs.length full) (.aR (List.map eF xs) false true):=by
 refine fm.ref (fun h=>by cases h) (fun i j=>((xs[i]?).bind fun x=>(eT x)[j]?).getD .undef) hb rfl (by rw[List.length_map]) ap (by simp) (fun i row row' h1 h2=> ?_) (fun i j row a hi h1 h2=> ?_) (fun i j row' c h1 h2=> ?_)
 ·have h1:(List.map eT xs)[0+i]?=some row:=h1
  rw[Nat.zero_add,List.getElem?_map] at h1
  rw[List.getElem?_map] at h2
  cases hx:xs[i]? with
  | none=>rw[hx] at h1;cases h1
  | some x=>rw[hx] at h1 h2;cases h1;cases h2;exact(hc x).1
 ·have h1:(List.map eT xs)[0+i]?=some row:=h1
  rw[Nat.zero_add,List.getElem?_map] at h1
  cases hx:xs[i]? with
  | none=>rw[hx] at h1;cases h1
  | some x=>
   rw[hx] at h1;cases h1
   show fm H a (((some x).bind fun x=>(eT x)[j]?).getD .undef)
   have ar:(eT x)[j]?=some a:=h2
   have he:((some x).bind fun x=>(eT x)[j]?).getD .undef=a:=by
    show((eT x)[j]?).getD .undef=a
    rw[ar];rfl
   rw[he]
   have aS:j<(eF x).length:=by rw[←(hc x).1];exact(List.getElem?_eq_some_iff.1 ar).1
   exact((hc x).2 j a _ ar (List.getElem?_eq_getElem aS)).1
 ·rw[List.getElem?_map] at h1
  cases hx:xs[i]? with
  | none=>rw[hx] at h1;cases h1
  | some x=>
   rw[hx] at h1;cases h1
   show c=hF (((some x).bind fun x=>(eT x)[j]?).getD .undef)
   have aS:j<(eT x).length:=by rw[(hc x).1];exact(List.getElem?_eq_some_iff.1 h2).1
   have ar:=List.getElem?_eq_getElem aS
   have he:((some x).bind fun x=>(eT x)[j]?).getD .undef=(eT x)[j]:=by
    show((eT x)[j]?).getD .undef=_
    rw[ar];rfl
   rw[he]
   exact((hc x).2 j _ c ar h2).2
theorem iX.nil {H:List Blk}:iX H [] []:=⟨rfl,fun j a b h=>by simp at h⟩
theorem iX.cons {H:List Blk} {a b:AV} {c d:List AV} (h1:fm H a a) (h2:b=hF a) (h:iX H c d):iX H (a::c) (b::d):=
 ⟨by simp[h.1],fun j x y hx bd=>by
  cases j with
  | zero=>simp at hx bd;subst hx;subst bd;exact⟨h1,h2⟩
  | succ j=>exact h.2 j x y (by simpa using hx) (by simpa using bd)⟩
theorem Pq {H:List Blk} (n:Int):iX H (bO n) (bO n):= .cons (.int _ _) rfl .nil
theorem Ps {H:List Blk} (n:UInt8):iX H (x3 n) (x3 n):= .cons (.int _ _) rfl .nil
theorem AZ {H:List Blk} (b:Bool):iX H (aU b) (aU b):= .cons (.bool _) rfl .nil
theorem Pr {H:List Blk} (b:ByteArray):iX H (By b) (By b):= .cons (.str _) rfl .nil
theorem iL {H:List Blk} (rows:List (List AV)):fm H (.aR rows false true) (.aR rows false true):= .aR _ _ _ id
theorem Gp {H:List Blk} (x:b9):iX H (di x) (di x):= .cons (.int _ _) rfl (.cons (.int _ _) rfl .nil)
theorem Po {H:List Blk} (x:Event):iX H (Bu x) (Bu x):= .cons (.int _ _) rfl (.cons (.int _ _) rfl (.cons (.int _ _) rfl .nil))
theorem Gq {H:List Blk} (x:ck):iX H (br x) (br x):= .cons (.int _ _) rfl (.cons (.int _ _) rfl .nil)
theorem Pt {H:List Blk} (x:Way):iX H (dI true x) (dI false x):= .cons (iL _) rfl (.cons (iL _) rfl (.cons (iL _) rfl (.cons (iL _) rfl (.cons (iL _) rfl .nil))))
theorem Pp {H:List Blk} (x:ab):iX H (ct true x) (ct false x):= .cons (.int _ _) rfl (.cons (.int _ _) rfl (.cons (iL _) rfl (.cons (.bool _) rfl (.cons (.int _ _) rfl .nil))))
theorem Pn {H:List Blk} (x:qI):iX H (Bt true x) (Bt false x):= .cons (.int _ _) rfl (.cons (.bool _) rfl (.cons (iL _) rfl (.cons (iL _) rfl (.cons (iL _) rfl .nil))))
theorem NL {H:List Blk} {α:Type} {eT eF:α→List AV} {b g sz:Nat} {full:Bool} {xs ys:List α} (hb:H[b]?=some ⟨g,sz,List.map eT xs⟩) (hc: ∀x,iX H (eT x) (eF x)) (h:xs.length≤4611686018427387904∧xs=ys):
  fm H (.ref b g 0 xs.length full) (.aR (List.map eF ys) false true):=h.2▸Zy hb h.1 hc
theorem aaA {H:List Blk} {α:Type} {e:α→List AV} {ys:List α} {full fr:Bool} (h:[]=ys):fm H (.aR [] full fr) (.aR (List.map e ys) false true):=h▸ .KX _ _ _ (fun h=>by cases h)
theorem aaz {H:List Blk} {α:Type} {e:α→List AV} {xs ys:List α} {full:Bool} (h:xs=ys):fm H (.aR (List.map e xs) full true) (.aR (List.map e ys) false true):=h▸ .aR _ _ _ (fun h=>by cases h)
theorem NM {H:List Blk} {k:IntKind} {a b:Int} (h:a=b):fm H (.int k a) (.int k b):=h▸ .int k a
theorem sj {H:List Blk} {a b:Bool} (h:a=b):fm H (.bool a) (.bool b):=h▸ .bool a
theorem aaB {H:List Blk} {a b:ByteArray} (h:a=b):fm H (.str a) (.str b):=h▸ .str a
theorem fA {L:List (Nat×List AV)} {H:List Blk} {rows:List (List AV)} {full fr:Bool}:eW L H (.aR rows full fr) (.aR rows false false):= .aR _ _ _ _ (fun h=>by cases h)
def l9 (L:List (Nat×List AV)) (H:List Blk) (c d:List AV):Prop:=c.length=d.length∧ ∀(j:Nat) (a b:AV),c[j]?=some a→d[j]?=some b→eW L H a b
theorem Mw {L:List (Nat×List AV)} {H:List Blk} {α:Type} {eT eF:α→List AV} {b g sz:Nat} {full:Bool} {xs:List α} (hb:H[b]?=some ⟨g,sz,List.map eT xs⟩) (hc: ∀x,l9 L H (eT x) (eF x)) (ap:xs.length≤4611686018427387904):
  eW L H (.ref b g 0 xs.length full) (.aR (List.map eF xs) false false):=by
 refine eW.ref (fun h=>by cases h) hb rfl (by rw[List.length_map]) ap (by simp) (fun i row row' h1 h2=> ?_) (fun i j row row' a c h1 h2 aH bn=> ?_)
 ·have h1:(List.map eT xs)[0+i]?=some row:=h1
  rw[Nat.zero_add,List.getElem?_map] at h1
  rw[List.getElem?_map] at h2
  cases hx:xs[i]? with
  | none=>rw[hx] at h1;cases h1
  | some x=>rw[hx] at h1 h2;cases h1;cases h2;exact(hc x).1
 ·have h1:(List.map eT xs)[0+i]?=some row:=h1
  rw[Nat.zero_add,List.getElem?_map] at h1
  rw[List.getElem?_map] at h2
  cases hx:xs[i]? with
  | none=>rw[hx] at h1;cases h1
  | some x=>rw[hx] at h1 h2;cases h1;cases h2;exact(hc x).2 j a c aH bn
theorem l9.nil {L:List (Nat×List AV)} {H:List Blk}:l9 L H [] []:=⟨rfl,fun j a b h=>by simp at h⟩
theorem l9.cons {L:List (Nat×List AV)} {H:List Blk} {a b:AV} {c d:List AV} (h1:eW L H a b) (h:l9 L H c d):l9 L H (a::c) (b::d):=
 ⟨by simp[h.1],fun j x y hx bd=>by
  cases j with
  | zero=>simp at hx bd;subst hx;subst bd;exact h1
  | succ j=>exact h.2 j x y (by simpa using hx) (by simpa using bd)⟩
section
variable {L:List (Nat×List AV)} {H:List Blk}
theorem yT (b:Bool):l9 L H (aU b) (aU b):= .cons (.bool _) .nil
theorem CW (x:ck):l9 L H (br x) (br x):= .cons (.int _ _) (.cons (.int _ _) .nil)
end
def dp {α:Type} (F:(α→Prop)→Prop):Prop:= ∀K,F K→ ∃r,K r∧F (fun x=>x=r)
theorem dp.ret {α:Type} (r:α):dp fun K=>K r:=fun K h=>⟨r,h,rfl⟩
theorem dp.no {α:Type}:dp (α:=α) fun _=>False:=fun K h=>h.elim
theorem dp.and {α:Type} {φ:Prop} {F:(α→Prop)→Prop} (h:dp F):dp fun K=>φ∧F K:=fun K ⟨ai,hf⟩=>by
 obtain⟨r,h1,h2⟩:=h K hf
 exact⟨r,h1,ai,h2⟩
theorem dp.OW {α:Type} {φ:Prop} {F:(α→Prop)→Prop} (h:φ→dp F):dp fun K=>φ∧F K:=fun K ⟨ai,hf⟩=>by
 obtain⟨r,h1,h2⟩:=h ai K hf
 exact⟨r,h1,ai,h2⟩
theorem dp.bind {α β:Type} {o:Option β} {F:β→(α→Prop)→Prop} (h: ∀b,dp (F b)):dp fun K=>cn o fun b=>F b K:=fun K hf=>by
 cases o with
 | none=>exact hf.elim
 | some b=>exact h b K hf
theorem dp.ite {α:Type} {c:Prop} [Decidable c] {F G:(α→Prop)→Prop} (h:dp F) (k:dp G):dp fun K=>if c then F K else G K:=by
 intro K hf
 by_cases hc:c
 ·rw[if_pos hc] at hf
  obtain⟨r,h1,h2⟩:=h K hf
  exact⟨r,h1,by show if c then _ else _;rw[if_pos hc];exact h2⟩
 ·rw[if_neg hc] at hf
  obtain⟨r,h1,h2⟩:=k K hf
  exact⟨r,h1,by show if c then _ else _;rw[if_neg hc];exact h2⟩
theorem dp.dM {α:Type} {b:Bool} {F:(α→Prop)→Prop} (h:dp F):dp fun K=>dM b (F K):=by
 cases b with
 | true=>exact h
 | false=>exact dp.no
theorem Fl {P:Program} {t:TypeId} {cells:List AV} {c:Nat}:dp (hE P t cells c):=by
 unfold hE
 exact .ite (.ite (.ite (.ret _) .no) (.bind fun _=> .ret _)) .no
theorem Ws {P:Program} {t:TypeId} {x:AV} {L:List (Nat×List AV)} {H:List Blk}:dp (mr P t x L H):=by
 cases x with
 | et s c=>exact .bind fun _=>Fl
 | ptr b g r c=>exact .bind fun _=> .and (.bind fun _=>Fl)
 | cM cells c=>exact Fl
 | _=>exact .no
theorem Xk {x:AV}:dp (DR x):=by
 cases x<;>first | exact .no | exact .ret _
theorem O_ {op:BinOp} {k:IntKind} {a b:Int}:dp (xI op k a b):=by
 cases op<;>first | exact .no | exact .ret _ | exact .and (.ret _)
theorem O9 {op:BinOp} {k iR:IntKind} {a b:Int}:dp (xJ op k a iR b):=by
 cases op<;>first | exact .and (.ret _) | exact .ite O_ .no
def uZ (x:AV):Bool:=match x with
 | .aR _ _ _=>false
 | _=>true
theorem Pa {P:Program} {op:BinOp} {t:TypeId} {x y:AV} {pz:Bool} (hx:uZ x=true):dp (pH P op t x y pz):=by
 cases x with
 | int k a=>cases y<;>first | exact .no | exact O9
 | bool a=>
  cases y with
  | bool b=>exact .ite (by cases op<;>first | exact .no | exact .ret _) .no
  | _=>exact .no
 | str a=>
  cases y with
  | str b=>
   show dp (AT op a b)
   cases op<;>first | exact .no | exact .ret _ | exact .and (.ret _)
  | _=>exact .no
 | agg l=>
  cases y with
  | agg m=>exact .ite (.bind fun p=> .bind fun q=>by
    show dp (AU op p.1 p.2 q.1 q.2)
    cases op<;>first | exact .no | exact .ret _) .no
  | _=>exact .no
 | aR rows cW fr=>cases hx
 | _=>exact .no
theorem aaU {op:UnOp} {x:AV}:dp (Af op x):=by
 cases op<;>cases x<;>first | exact .no | exact .ret _
theorem Qc {P:Program} {s d:TypeId} {x:AV}:dp (Bn P s d x):=by
 cases x with
 | int k n=>exact .bind fun _=> .bind fun _=> .ret _
 | _=>exact .no
theorem QJ {P:Program} {t:TypeId} {x:AV} {f:Nat}:dp (BN P t x f):=by
 refine .bind fun fd=> .ite ?_ .no
 cases x<;>first | exact .no | exact .ret _
theorem Tz {P:Program} {t:TypeId} {x i:AV} {H:List Blk}:dp (tv P t x i H):=by
 refine .bind fun e=> .ite ?_ .no
 cases i with
 | int k n=>
  cases x with
  | aR rows cW fr=>exact .and (.bind fun _=> .and (.ret _))
  | ref b g off m cW=>exact .bind fun _=> .and (.and (.and (.and (.ret _))))
  | _=>exact .no
 | _=>exact .no
theorem TI {P:Program} {t:TypeId} {x i:AV}:dp (CX P t x i):=by
 cases x with
 | str s=>
  cases i with
  | int k n=>
   show dp fun K:AV→Prop=>(match P.underlying t with
   | some .string=>0≤n∧n<s.size∧K (.int .u8 (s.data.getD n.toNat 0).toNat)
   | _=>False)
   split
   ·exact .and (.and (.ret _))
   ·exact .no
  | _=>exact .no
 | _=>exact .no
theorem sM {α:Type} {x:Option AV} {d:Nat} {F:Nat→(α→Prop)→Prop} (h: ∀n,dp (F n)):dp fun K=>j4 x d fun n=>F n K:=by
 cases x with
 | none=>exact h d
 | some a=>
  cases a with
  | int k n=>exact .and (h _)
  | _=>exact .no
theorem Y2 {P:Program} {t:TypeId} {x:AV} {lo hi:Option AV} {H:List Blk}:dp (si P t x lo hi H):=by
 cases x with
 | str s=>
  show dp fun K:AV→Prop=>(match P.underlying t with
   | some .string=>j4 lo 0 fun l=>j4 hi s.size fun h=>l≤h∧h≤s.size∧K (.str (s.extract l h))
   | _=>False)
  split
  ·exact sM fun l=>sM fun h=> .and (.and (.ret _))
  ·exact .no
 | aR rows cW fr=>exact .bind fun e=> .ite (sM fun l=>sM fun h=> .and (.and (.and (.ret _)))) .no
 | ref b g off n cW=>
  refine .bind fun e=> .ite (.bind fun blk=> .and (.and (sM fun l=>sM fun h=> .OW fun hle=> .and ?_))) .no
  intro K ⟨h1,h2⟩
  rcases Nat.lt_trichotomy l h with aS | Sv | mm
  ·exact⟨_,h1 aS,fun _=>rfl,fun e=>absurd e (by omega)⟩
  ·exact⟨_,h2 Sv,fun e=>absurd e (by omega),fun _=>rfl⟩
  ·omega
 | _=>exact .no
theorem QE {x:AV} {i:Nat}:dp (BJ x i):=by
 cases x with
 | tup l=>exact .bind fun _=> .ret _
 | _=>exact .no
theorem W7 {fn:Fn} {first:Array Operand} {caps:List AV}:dp (wh fn first caps):=by
 cases fn with
 | func f=>exact .ite (.ret _) .no
 | _=>exact .no
theorem Pl {P:Program} {t:TypeId} {parts:List (Nat×AV)}:dp (AY P t parts):= .bind fun _=> .bind fun _=> .bind fun _=> .ret _
theorem Pj {P:Program} {t:TypeId} {n:Nat} {parts:List (Nat×AV)}:dp (sP P t n parts):= .bind fun _=> .bind fun _=> .ite (.bind fun _=> .ite (.ret _) .no) .no
def pc (x:AV) (K:AV→Prop):Prop:=match x with
 | .aR rows _ _=>K (.int .i64 rows.length)
 | .str s=>K (.int .i64 s.size)
 | .ref _ _ _ n _=>K (.int .i64 n)
 | _=>False
theorem Wy {x:AV}:dp (pc x):=by
 cases x<;>first | exact .no | exact .ret _
theorem Wz {x:AV} {K:AV→Prop} (h:pc x K):pb x K:=by
 cases x<;>first | exact h | exact fun _=>h
theorem PH {P:Program} {f:FuncId} {args:List AV} {L:List (Nat×List AV)} {H:List Blk}:dp (mf P f args L H):=fun K ⟨ap,dg,t,h1,h2,aH⟩=>⟨t,aH,ap,dg,t,h1,h2,rfl⟩
def Qz (P:Program) (c:Call) (bp:Operand→AV) (L:List (Nat×List AV)) (H:List Blk) (K:AV→Prop):Prop:=match c.callee with
 | .builtin .len=>(match c.args.toList,c.argTypes.toList with
  | [x],[t]=>dM (h6 P t (bp x)) (pc (bp x) K)
  | _,_=>False)
 | .value f=>jK (bp f) fun g caps=>mf P g (c.args.toList.map bp++caps) L H K
 | _=>False
def h0 (P:Program) (o:Oper) (bp:Operand→AV) (L:List (Nat×List AV)) (H:List Blk) (K:AV→Prop):Prop:=match o.op with
 | .call c=>Qz P c bp L H K
 | .pick c x y=>me (bp c) fun z=>mT true z (K (bp x)) (K (bp y))
 | .binOp op t x y _=>dM (uZ (bp x)) (pH P op t (bp x) (bp y) (ol y) K)
 | _=>pN P o bp L H K
theorem x9 {P:Program} {o:Oper} {bp:Operand→AV} {L:List (Nat×List AV)} {H:List Blk} {K:AV→Prop} (h:h0 P o bp L H K):pN P o bp L H K:=by
 obtain⟨dst,op,ty,pos,after,guard⟩:=o
 cases op with
 | call c=>
  obtain⟨callee,args,argTypes⟩:=c
  cases callee with
  | builtin b=>
   cases b with
   | len=>
    have h:(match args.toList,argTypes.toList with
     | [x],[t]=>dM (h6 P t (bp x)) (pc (bp x) K)
     | _,_=>False):=h
    show(match args.toList,argTypes.toList with
     | [x],[t]=>dM (h6 P t (bp x)) (pb (bp x) K)
     | _,_=>False)
    split at h
    ·obtain⟨h1,h2⟩:=nr h
     simp only[h1];exact Wz h2
    ·exact h.elim
   | _=>exact h.elim
  | value f=>exact h
  | _=>exact h.elim
 | binOp op t x y ty2=>exact(nr (show dM (uZ (bp x)) (pH P op t (bp x) (bp y) (ol y) K) from h)).2
 | pick c x y=>
  obtain⟨b,hb,hw⟩:=xE (show me (bp c) fun z=>mT true z (K (bp x)) (K (bp y)) from h)
  show me (bp c) fun z=>uY z (K (bp x)) (K (bp y))
  rw[hb];exact xM hw
 | _=>exact h
theorem O8 {α:Type} {z:Bool} {x y:α}:dp fun K=>mT true z (K x) (K y):=by
 cases z with
 | true=>exact .ret x
 | false=>exact .ret y
theorem O2 {α:Type} {v:AV} {F:Bool→(α→Prop)→Prop} (h: ∀b,dp (F b)):dp fun K=>me v fun b=>F b K:=by
 cases v with
 | bool b=>exact h b
 | _=>exact .no
theorem QC {P:Program} {o:Oper} {bp:Operand→AV} {L:List (Nat×List AV)} {H:List Blk}:dp (h0 P o bp L H):=by
 obtain⟨dst,op,ty,pos,after,guard⟩:=o
 cases op with
 | move x=>exact .ret _
 | assign x=>exact .ret _
 | pick c x y=>exact O2 fun z=>O8
 | build t ps=>exact .dM Pl
 | buildSlice t n ps=>exact .dM Pj
 | load t a=>exact Ws
 | nilCheck x=>exact Xk
 | binOp op t x y ty2=>
  show dp fun K=>dM (uZ (bp x)) (pH P op t (bp x) (bp y) (ol y) K)
  cases hb:uZ (bp x) with
  | true=>exact Pa hb
  | false=>exact .no
 | unOp op t x=>exact aaU
 | convert s d x=>exact Qc
 | makeFunc fn first caps=>exact W7
 | fieldAddr t x f=>exact QJ
 | indexAddr t x i=>exact Tz
 | index t x i=>exact TI
 | slice t x lo hi mx=>
  cases mx with
  | none=>exact Y2
  | some m=>exact .no
 | extract x i=>exact QE
 | call c=>
  obtain⟨callee,args,argTypes⟩:=c
  cases callee with
  | builtin b=>
   cases b with
   | len=>
    show dp fun K=>(match args.toList,argTypes.toList with
     | [x],[t]=>dM (h6 P t (bp x)) (pc (bp x) K)
     | _,_=>False)
    split
    ·exact .dM Wy
    ·exact .no
   | _=>exact .no
  | value f=>
   show dp fun K=>jK (bp f) fun g caps=>mf P g (args.toList.map bp++caps) L H K
   cases bp f with
   | fn g caps=>exact PH
   | _=>exact .no
  | _=>exact .no
 | _=>exact .no
structure Item where
 i:Nat
 lit:Bool
 q:Bool
 hN:List Nat
def FE:AV→AV→Bool
 | .int k n,.int iR jw=>decide (k=iR)&&decide (n=jw)
 | .bool b,.bool bI=>b==bI
 | .aR [] f g,.aR [] yb cL=>f==yb&&g==cL
 | .eY,.eY=>true
 | _,_=>false
def Al:List AV→List AV→Bool
 | [],[]=>true
 | a::l,b::m=>FE a b&&Al l m
 | _,_=>false
theorem abq {a b:AV} (h:FE a b=true):a=b:=by
 unfold FE at h
 split at h
 ·simp only[Bool.and_eq_true,decide_eq_true_eq] at h;rw[h.1,h.2]
 ·rw[eq_of_beq h]
 ·simp only[Bool.and_eq_true] at h;rw[eq_of_beq h.1,eq_of_beq h.2]
 ·rfl
 ·cases h
theorem Ov: ∀{l m:List AV},Al l m=true→l=m
 | [],[],_=>rfl
 | [],_::_,h=>by cases h
 | _::_,[],h=>by cases h
 | a::l,b::m,h=>by
  simp only[Al,Bool.and_eq_true] at h
  rw[abq h.1,Ov h.2]
def nm (o:Oper):Bool:=match o.op with
 | .alloc _=>true
 | _=>false
def FX (P:Program) (e:TypeId) (dst:Option Nat) (L:List (Nat×List AV)) (K:AV→Prop):Prop:=cn (kT P e) fun z=>cn dst fun t=>cn (dt L t) fun c=>dM (z.all hX) (dM (Al c z) (K (.et t 0)))
def jr (P:Program) (o:Oper) (bp:Operand→AV) (L:List (Nat×List AV)) (H:List Blk) (K:AV→Prop):Prop:=match o.op with
 | .alloc e=>FX P e o.dst L K
 | _=>h0 P o bp L H K
theorem sZ {P:Program} {o:Oper} {bp:Operand→AV} {L:List (Nat×List AV)} {H:List Blk} {K:AV→Prop} (h:nm o=false):jr P o bp L H K=h0 P o bp L H K:=by
 obtain⟨dst,op,ty,pos,after,guard⟩:=o
 cases op<;>first | rfl | cases h
theorem QB {P:Program} {o:Oper} {bp:Operand→AV} {L:List (Nat×List AV)} {H:List Blk}:dp (jr P o bp L H):=by
 cases h:nm o with
 | false=>intro K hk;rw[sZ h] at hk;obtain⟨r,h1,h2⟩:=QC K hk;exact⟨r,h1,by rw[sZ h];exact h2⟩
 | true=>
  obtain⟨dst,op,ty,pos,after,guard⟩:=o
  cases op
  case alloc e=>exact dp.bind fun _=> .bind fun _=> .bind fun _=> .dM (.dM (.ret _))
  all_goals cases h
def opI (ops:Array Oper) (i:Nat):Oper:=ops.getD i default
def pK (o:Oper) (T:List AV):AV:=match o.dst with
 | some d=>T.getD d .undef
 | none=> .undef
def oT (P:Program) (ops:Array Oper):List Nat→List AV→List (Nat×List AV)→List Blk→Prop
 | [],_,_,_=>True
 | i::r,T,L,H=>((opI ops i).guard.isNone=true∧(opI ops i).dst.isSome=true∧jr P (opI ops i) (bR T) L H (fun v=>v=pK (opI ops i) T))∧oT P ops r T L H
theorem Hn {P:Program} {ops:Array Oper} {T:List AV} {L:List (Nat×List AV)} {H:List Blk}: ∀{hN:List Nat},oT P ops hN T L H→ ∀i∈hN,(opI ops i).guard.isNone=true∧(opI ops i).dst.isSome=true∧jr P (opI ops i) (bR T) L H (fun v=>v=pK (opI ops i) T)
 | [],_,i,hi=>by cases hi
 | j::r,h,i,hi=>by
  rcases List.mem_cons.1 hi with rfl | hi
  ·exact h.1
  ·exact Hn h.2 i hi
def ii (P:Program) (esc:List Nat) (ops:Array Oper):List Item→List AV→List (Nat×List AV)→List Blk→(List AV→List (Nat×List AV)→List Blk→Prop)→Prop
 | [],T,L,H,K=>K T L H
 | x::rest,T,L,H,K=>lF ops x.lit (opI ops x.i) T
   (fun T=>match x.q with
    | true=>jr P (opI ops x.i) (bR T) L H fun v=>ii P esc ops rest (putA T (opI ops x.i).dst v) L H K
    | false=>ih P esc (opI ops x.i) (bR T) L H fun v L' H'=>oT P ops x.hN T L' H'∧ii P esc ops rest (putA T (opI ops x.i).dst v) L' H' K)
   (fun T=>ii P esc ops rest (putA T (opI ops x.i).dst (.tup [])) L H K)
theorem G7 {P:Program} {o:Oper} {bp eU:Operand→AV} {L:List (Nat×List AV)} {H:List Blk} {K:AV→Prop} (h: ∀x∈o.op.operands,bp x=eU x):pN P o bp L H K=pN P o eU L H K:=by
 obtain⟨dst,op,ty,pos,after,guard⟩:=o
 have Lv: ∀ps:Array (Nat×Operand),(∀x∈ps.map (·.2),bp x=eU x)→(ps.toList.map fun p=>(p.1,bp p.2))=(ps.toList.map fun p=>(p.1,eU p.2)):=fun ps ai=>
  List.map_congr_left fun p hm=>by rw[ai p.2 (Array.mem_map.2 ⟨p,by simpa using hm,rfl⟩)]
 have F2: ∀ps:Array (Nat×Operand),(∀x∈ps.map (·.2),bp x=eU x)→(ps.toList.all fun p=>dL (bp p.2))=(ps.toList.all fun p=>dL (eU p.2)):=fun ps ai=>by
  rw[Bool.eq_iff_iff,List.all_eq_true,List.all_eq_true]
  constructor<;>intro q p hm
  ·rw[←ai p.2 (Array.mem_map.2 ⟨p,by simpa using hm,rfl⟩)];exact q p hm
  ·rw[ai p.2 (Array.mem_map.2 ⟨p,by simpa using hm,rfl⟩)];exact q p hm
 have aR: ∀xs:Array Operand,(∀x∈xs,bp x=eU x)→xs.toList.map bp=xs.toList.map eU:=fun xs hx=>List.map_congr_left fun p hm=>hx p (by simpa using hm)
 cases op<;>simp only[Op.operands] at h
 case build t ps=>
  show dM _ _=dM _ _
  rw[Lv ps fun x hx=>h x (by simpa using hx),F2 ps fun x hx=>h x (by simpa using hx)]
 case buildSlice t n ps=>
  show dM _ _=dM _ _
  rw[Lv ps fun x hx=>h x (by simpa using hx),F2 ps fun x hx=>h x (by simpa using hx)]
 case makeFunc fn first caps=>
  show wh fn first (caps.toList.map bp) K=wh fn first (caps.toList.map eU) K
  rw[aR caps fun x hx=>h x (by simp[hx])]
 case slice t x lo hi mx=>
  cases mx with
  | some m=>rfl
  | none=>
   show si P t (bp x) (lo.map bp) (hi.map bp) H K=si P t (eU x) (lo.map eU) (hi.map eU) H K
   cases lo<;>cases hi<;>simp_all
 case call c=>
  obtain⟨callee,args,argTypes⟩:=c
  have aC: ∀x∈args,bp x=eU x:=fun x hx=>h x (by simp[Call.operands,hx])
  cases callee with
  | builtin b=>
   cases b with
   | len=>
    show(match args.toList,argTypes.toList with
     | [x],[t]=>dM (h6 P t (bp x)) (pb (bp x) K)
     | _,_=>False)=(match args.toList,argTypes.toList with
     | [x],[t]=>dM (h6 P t (eU x)) (pb (eU x) K)
     | _,_=>False)
    split
    ·rename_i x t h1 h2
     rw[aC x (by rw[←Array.mem_toList_iff,h1];simp)]
    ·rfl
   | _=>rfl
  | value f=>
   have hf:bp f=eU f:=h f (by simp[Call.operands])
   show jK (bp f) _=jK (eU f) _
   rw[hf,aR args aC]
  | invoke r m=>rfl
 all_goals (first | rfl | (simp only[pN];simp_all;done))
theorem G6 {P:Program} {o:Oper} {bp eU:Operand→AV} {L:List (Nat×List AV)} {H:List Blk} {K:AV→Prop} (h: ∀x∈o.op.operands,bp x=eU x):h0 P o bp L H K=h0 P o eU L H K:=by
 have hv:=fun K=>G7 (P:=P) (L:=L) (H:=H) (K:=K) h
 obtain⟨dst,op,ty,pos,after,guard⟩:=o
 cases op
 case call c=>
  simp only[Op.operands] at h
  obtain⟨callee,args,argTypes⟩:=c
  have aC: ∀x∈args,bp x=eU x:=fun x hx=>h x (by simp[Call.operands,hx])
  cases callee with
  | builtin b=>
   cases b with
   | len=>
    show(match args.toList,argTypes.toList with
     | [x],[t]=>dM (h6 P t (bp x)) (pc (bp x) K)
     | _,_=>False)=(match args.toList,argTypes.toList with
     | [x],[t]=>dM (h6 P t (eU x)) (pc (eU x) K)
     | _,_=>False)
    split
    ·rename_i x t h1 h2
     rw[aC x (by rw[←Array.mem_toList_iff,h1];simp)]
    ·rfl
   | _=>rfl
  | value f=>exact hv K
  | invoke r m=>rfl
 case pick c x y=>simp only[Op.operands] at h;simp only[h0];simp_all
 case binOp op t x y ty2=>simp only[Op.operands] at h;simp only[h0];simp_all
 all_goals exact hv K
theorem G2 {P:Program} {o:Oper} {bp eU:Operand→AV} {L:List (Nat×List AV)} {H:List Blk} {K:AV→Prop} (h: ∀x∈o.op.operands,bp x=eU x):jr P o bp L H K=jr P o eU L H K:=by
 cases aC:nm o with
 | false=>rw[sZ aC,sZ aC];exact G6 h
 | true=>
  obtain⟨dst,op,ty,pos,after,guard⟩:=o
  cases op
  case alloc e=>rfl
  all_goals cases aC
theorem QA {P:Program} {esc:List Nat} {o:Oper} {bp eU:Operand→AV} {L:List (Nat×List AV)} {H:List Blk} {K:AV→List (Nat×List AV)→List Blk→Prop} (h: ∀x∈o.op.operands,bp x=eU x):ih P esc o bp L H K=ih P esc o eU L H K:=by
 have hv:=fun K=>G7 (P:=P) (L:=L) (H:=H) (K:=K) h
 obtain⟨dst,op,ty,pos,after,guard⟩:=o
 cases op
 case call c=>
  obtain⟨callee,args,argTypes⟩:=c
  have h':=h
  simp only[Op.operands] at h
  have aC: ∀x∈args,bp x=eU x:=fun x hx=>h x (by simp[Call.operands,hx])
  cases callee with
  | builtin b=>
   cases b with
   | len=>exact hv fun r=>K r L H
   | append=>
    show(match args.toList,argTypes.toList with
     | [s,x],[t,t2]=>dL (bp s)=true∧dL (bp x)=true∧qV P t t2 (bp s) (bp x) L H K
     | _,_=>False)=(match args.toList,argTypes.toList with
     | [s,x],[t,t2]=>dL (eU s)=true∧dL (eU x)=true∧qV P t t2 (eU s) (eU x) L H K
     | _,_=>False)
    split
    ·rename_i s x t t2 h1 h2
     rw[aC x (by rw[←Array.mem_toList_iff,h1];simp),aC s (by rw[←Array.mem_toList_iff,h1];simp)]
    ·rfl
   | _=>rfl
  | value f=>
   have hf:bp f=eU f:=h f (by simp[Call.operands])
   show jK (bp f) _=jK (eU f) _
   rw[hf,List.map_congr_left fun p hm=>aC p (by simpa using hm)]
  | invoke r m=>rfl
 case alloc e=>rfl
 case buildSlice t n ps=>
  simp only[Op.operands] at h
  have h: ∀x∈ps.map (·.2),bp x=eU x:=fun x hx=>h x (by simpa using hx)
  have aT:(ps.toList.map fun p=>(p.1,bp p.2))=(ps.toList.map fun p=>(p.1,eU p.2)):=
   List.map_congr_left fun p hm=>by rw[h p.2 (Array.mem_map.2 ⟨p,by simpa using hm,rfl⟩)]
  have e2:(ps.toList.all fun p=>dL (bp p.2))=(ps.toList.all fun p=>dL (eU p.2)):=by
   rw[Bool.eq_iff_iff,List.all_eq_true,List.all_eq_true]
   constructor<;>intro q p hm
   ·rw[←h p.2 (Array.mem_map.2 ⟨p,by simpa using hm,rfl⟩)];exact q p hm
   ·rw[h p.2 (Array.mem_map.2 ⟨p,by simpa using hm,rfl⟩)];exact q p hm
  show dM _ (qY P (q8 esc dst) (sc esc) t n _ L H K)=dM _ (qY P (q8 esc dst) (sc esc) t n _ L H K)
  rw[aT,e2]
 case store t x y=>simp only[Op.operands] at h;simp only[ih];simp_all
 case box e x=>simp only[Op.operands] at h;simp only[ih];simp_all
 case makeSlice t l c=>simp only[Op.operands] at h;simp only[ih];simp_all
 all_goals exact hv fun r=>K r L H
structure sA (P:Program) (ops:Array Oper) (L:List (Nat×List AV)) (H:List Blk) (T:List AV) (o:Oper) (v:AV) (run:Bool):Prop where
 cE: ∀(E:Env) (a:Act),(∀t∈o.looksAt ops,V3 E (T.getD t .undef) (a.tmps.getD t undef))→T.length=a.tmps.size→Region.wanted o (yielded ops a.tmps)=run
 oI:run=true→jr P o (bR T) L H (fun r=>r=v)
 no:run=false→v= .tup []
 put: ∀d,o.dst=some d→d<T.length→T.getD d .undef=v
theorem WT {ops:Array Oper} {o:Oper} {t:Nat} (h: .tmp t∈o.op.operands):t∈o.looksAt ops:=
 List.mem_append_left _ (List.mem_filterMap.2 ⟨.tmp t,by simpa using h,rfl⟩)
theorem WS {ops:Array Oper} {o:Oper} {j t:Nat} {b:Bool} (aL:o.guard=some (j,b)) (bj:(ops[j]?).bind (·.dst)=some t):t∈o.looksAt ops:=by
 refine List.mem_append_right _ ?_
 rw[aL];simp[bj]
theorem zn {ops:Array Oper} {o:Oper} {T T':List AV} (h: ∀t∈o.looksAt ops,T.getD t .undef=T'.getD t .undef): ∀x∈o.op.operands,bR T x=bR T' x:=fun x hx=>by
 cases x with
 | tmp t=>exact h t (WT hx)
 | _=>rfl
theorem sA.mono {P:Program} {ops:Array Oper} {L:List (Nat×List AV)} {H:List Blk} {T T':List AV} {o:Oper} {v:AV} {run:Bool} (h:sA P ops L H T o v run) (aE:T'.length=T.length)
  (aC: ∀t∈o.looksAt ops,T'.getD t .undef=T.getD t .undef) (aY: ∀d,o.dst=some d→T'.getD d .undef=T.getD d .undef):sA P ops L H T' o v run where
 cE:=fun E a hs aJ=>h.cE E a (fun t bj=>by rw[←aC t bj];exact hs t bj) (by rw[←aE];exact aJ)
 oI:=fun aq=>by
  rw[G2 (zn aC)]
  exact h.oI aq
 no:=h.no
 put:=fun d pV aS=>by rw[aY d pV];exact h.put d pV (by rw[←aE];exact aS)
theorem Hz {P:Program} {ops:Array Oper} {lit:Bool} {o:Oper} {T:List AV} {x y:List AV→Prop} (h:lF ops lit o T x y):
  ∃T' run,T'.length=T.length∧(∀t,T'.getD t .undef=T.getD t .undef)∧(∀(E:Env) (a:Act),(∀t∈o.looksAt ops,V3 E (T.getD t .undef) (a.tmps.getD t undef))→T.length=a.tmps.size→Region.wanted o (yielded ops a.tmps)=run)∧(if run=true then x T' else y T'):=by
 unfold lF at h
 cases aL:o.guard with
 | none=>rw[aL] at h;exact⟨T,true,rfl,fun _=>rfl,fun E a _ _=>by simp[Region.wanted,aL],h⟩
 | some g=>
  obtain⟨j,cE⟩:=g
  rw[aL] at h
  simp only at h
  cases ar:(ops[j]?).bind (·.dst) with
  | none=>rw[ar] at h;exact h.elim
  | some t=>
   rw[ar] at h
   simp only at h
   have yI:t∈o.looksAt ops:=WS aL ar
   have o5: ∀b,T.getD t .undef= .bool b→ ∀s,(T.set t (.bool b)).getD s .undef=T.getD s .undef:=fun b hb s=>by
    rw[oU]
    by_cases hs:t=s∧t<T.length
    ·rw[if_pos hs,←hs.1,hb]
    ·rw[if_neg hs]
   split at h
   ·rename_i b hb
    obtain⟨h1,h2⟩:=xM h
    have hw: ∀(E:Env) (a:Act),(∀t∈o.looksAt ops,V3 E (T.getD t .undef) (a.tmps.getD t undef))→T.length=a.tmps.size→Region.wanted o (yielded ops a.tmps)=(b==cE):=fun E a hs aJ=>by
     have hv:=hs t yI
     rw[hb] at hv
     have he:a.tmps.getD t undef= .bool b:=V3.mS hv
     have bd:yielded ops a.tmps j=some b:=by
      unfold yielded
      rw[ar]
      rw[Array.getD_eq_getD_getElem?] at he
      cases af:a.tmps[t]? with
      | none=>rw[af] at he;cases he
      | some x=>rw[af] at he;have:x= .bool b:=he;subst this;simp[af]
     simp[Region.wanted,aL,bd]
    cases b with
    | true=>refine⟨_,_,by simp,o5 true hb,hw,?_⟩;have:=h1 rfl;cases cE<;>exact this
    | false=>refine⟨_,_,by simp,o5 false hb,hw,?_⟩;have:=h2 rfl;cases cE<;>exact this
   ·rename_i hb
    refine⟨T,false,rfl,fun _=>rfl,fun E a hs aJ=> ?_,h⟩
    have hv:=hs t yI
    rw[hb] at hv
    obtain⟨vs,he,ai⟩:=(show ∃vs:List Value,a.tmps.getD t undef= .tuple vs.toArray∧aK (V2 E) [] vs from hv)
    obtain rfl:=ai.mv
    have bd:yielded ops a.tmps j=none:=by
     unfold yielded
     rw[ar]
     rw[Array.getD_eq_getD_getElem?] at he
     cases af:a.tmps[t]? with
     | none=>simp[af]
     | some x=>rw[af] at he;have:x= .tuple #[]:=he;subst this;simp[af]
    simp[Region.wanted,aL,bd]
   ·exact h.elim
theorem tW (T:List AV) (d:Option Nat) (v:AV):(putA T d v).length=T.length:=by
 cases d<;>simp[putA]
theorem zv {T:List AV} {d:Option Nat} {v:AV} {t:Nat} (h:d≠some t):(putA T d v).getD t .undef=T.getD t .undef:=by
 cases d with
 | none=>rfl
 | some s=>
  show(T.set s v).getD t .undef=_
  rw[oU,if_neg]
  rintro⟨rfl,_⟩;exact h rfl
theorem LN {T:List AV} {d:Nat} {v:AV} (h:d<T.length):(putA T (some d) v).getD d .undef=v:=by
 show(T.set d v).getD d .undef=v
 rw[oU,if_pos ⟨rfl,h⟩]
def jB (ops:Array Oper):List Item→Prop
 | []=>True
 | x::r=>(∀t∈(opI ops x.i).looksAt ops,∀y∈x::r,(opI ops y.i).dst≠some t)∧(∀d,(opI ops x.i).dst=some d→ ∀y∈r,(opI ops y.i).dst≠some d)∧jB ops r
theorem Ez {P:Program} {esc:List Nat} {ops:Array Oper} {L:List (Nat×List AV)} {H:List Blk} {K:List AV→List (Nat×List AV)→List Blk→Prop}: ∀(l:List Item) (T:List AV),jB ops l→ii P esc ops l T L H K→
  ∃pre post l_,l=pre++post∧(∀x∈pre,x.q=true)∧(∀x r,post=x::r→x.q=false)∧ii P esc ops post l_ L H K∧l_.length=T.length∧
   (∀t,(∀x∈pre,(opI ops x.i).dst≠some t)→l_.getD t .undef=T.getD t .undef)∧ ∀x∈pre,∃v run,sA P ops L H l_ (opI ops x.i) v run
 | [],T,_,h=>⟨[],[],T,rfl,fun x hx=>(by cases hx),fun x r e=>(by cases e),h,rfl,fun _ _=>rfl,fun x hx=>(by cases hx)⟩
 | x::r,T,aZ,h=>by
  cases af:x.q with
  | false=>exact⟨[],x::r,T,rfl,fun x hx=>(by cases hx),fun y zF e=>(by cases e;exact af),h,rfl,fun _ _=>rfl,fun x hx=>(by cases hx)⟩
  | true=>
   obtain⟨j3,run,na,jR,hw,eP⟩:=Hz (P:=P) h
   obtain⟨F4,OX,OY⟩:=aZ
   have key: ∃v,ii P esc ops r (putA j3 (opI ops x.i).dst v) L H K∧(run=true→jr P (opI ops x.i) (bR j3) L H (fun r=>r=v))∧(run=false→v= .tup []):=by
    cases run with
    | true=>
     have eP:(match x.q with
      | true=>jr P (opI ops x.i) (bR j3) L H fun v=>ii P esc ops r (putA j3 (opI ops x.i).dst v) L H K
      | false=>_):=eP
     rw[af] at eP
     obtain⟨v,h1,h2⟩:=QB _ eP
     exact⟨v,h1,fun _=>h2,fun e=>by cases e⟩
    | false=>exact⟨.tup [],eP,fun e=>(by cases e),fun _=>rfl⟩
   obtain⟨v,hv,Tt,SQ⟩:=key
   obtain⟨pre,post,l_,rfl,vK,o2,oY,hlen,fM,vy⟩:=Ez r _ OY hv
   have p2: ∀y∈pre,y∈pre++post:=fun y bd=>List.mem_append_left _ bd
   have vF: ∀t∈(opI ops x.i).looksAt ops,l_.getD t .undef=j3.getD t .undef:=fun t bj=>by
    rw[fM t fun y bd=>F4 t bj y (List.mem_cons_of_mem _ (p2 y bd)),zv (F4 t bj x (List.mem_cons_self ..))]
   refine⟨x::pre,post,l_,rfl,fun y bd=> ?_,o2,oY,by rw[hlen,tW,na],fun t bj=> ?_,fun y bd=> ?_⟩
   ·rcases List.mem_cons.1 bd with rfl | bd
    ·exact af
    ·exact vK y bd
   ·rw[fM t fun y bd=>bj y (List.mem_cons_of_mem _ bd),zv (bj x (List.mem_cons_self ..)),jR]
   ·rcases List.mem_cons.1 bd with rfl | bd
    ·refine⟨v,run,⟨fun E a hs aJ=>hw E a (fun t bj=> ?_) ?_,fun aq=> ?_,SQ,fun d aY aS=> ?_⟩⟩
     ·rw[←jR t,←vF t bj];exact hs t bj
     ·rw[←aJ,hlen,tW,na]
     ·rw[G2 (zn vF)];exact Tt aq
     ·rw[fM d fun y bd=>OX d aY y (p2 y bd),aY]
      exact LN (by rw[hlen,tW] at aS;exact aS)
    ·exact vy y bd
def qH (A:Nat→List Nat):List Item→List Item→Prop
 | _,[]=>True
 | p,h::r=>(h.q=false→(∀y∈r,h.i∈A y.i)∧ ∀x∈p,x.i∈A h.i∨x.i∈h.hN)∧qH A (p++[h]) r
theorem qH.at {A:Nat→List Nat}: ∀{pre p:List Item} {h:Item} {r:List Item},qH A p (pre++h::r)→h.q=false→(∀y∈r,h.i∈A y.i)∧ ∀x∈p++pre,x.i∈A h.i∨x.i∈h.hN
 | [],p,h,r,hb,af=>by
  rw[List.append_nil];exact hb.1 af
 | x::pre,p,h,r,hb,af=>by
  have:=qH.at (pre:=pre) (p:=p++[x]) hb.2 af
  simpa using this
structure xc (ops:Array Oper) (ord:List Item) (A:Nat→List Nat):Prop where
 back: ∀i o,ops[i]?=some o→ ∀e∈o.after,Region.binds .any e=true→e.on<i
 OU: ∀i o,ops[i]?=some o→ ∀a∈A i,∃e∈o.after,Region.binds .any e=true∧(a=e.on∨a∈A e.on)
 all: ∀i,i<ops.size→ ∃x∈ord,x.i=i
 lt: ∀x∈ord,x.i<ops.size
 nodup:(ord.map (·.i)).Nodup
 aaY: ∀x∈ord,∀t∈(opI ops x.i).looksAt ops,∀y∈ord,(opI ops y.i).dst=some t→y.i∈A x.i
 apart:jB ops ord
 kX:qH A [] ord
theorem jB.tail {ops:Array Oper}: ∀{p r:List Item},jB ops (p++r)→jB ops r
 | [],_,h=>h
 | _::p,_,h=>jB.tail (p:=p) h.2.2
theorem jB.JF {ops:Array Oper}: ∀{p r:List Item},jB ops (p++r)→ ∀x∈p,(∀t∈(opI ops x.i).looksAt ops,∀y∈r,(opI ops y.i).dst≠some t)∧ ∀d,(opI ops x.i).dst=some d→ ∀y∈r,(opI ops y.i).dst≠some d
 | [],_,_,x,hx=>by cases hx
 | z::p,r,h,x,hx=>by
  rcases List.mem_cons.1 hx with rfl | hx
  ·exact⟨fun t bj y bd=>h.1 t bj y (List.mem_cons_of_mem _ (List.mem_append_right _ bd)),fun d aY y bd=>h.2.1 d aY y (List.mem_append_right _ bd)⟩
  ·exact jB.JF (p:=p) h.2.2 x hx
theorem jB.inj {ops:Array Oper}: ∀{l:List Item},jB ops l→ ∀x∈l,∀y∈l,x.i≠y.i→ ∀d,(opI ops x.i).dst=some d→(opI ops y.i).dst≠some d
 | [],_,x,hx,_,_,_,_,_=>by cases hx
 | z::r,h,x,hx,y,bd,cd,d,aY=>by
  rcases List.mem_cons.1 hx with ex | JD
  ·rcases List.mem_cons.1 bd with BK | Dt
   ·exact absurd (by rw[ex,BK]) cd
   ·exact h.2.1 d (by rw[←ex];exact aY) y Dt
  ·rcases List.mem_cons.1 bd with BK | Dt
   ·exact fun e=>h.2.1 d (by rw[←BK];exact e) x JD aY
   ·exact jB.inj h.2.2 x JD y Dt cd d aY
theorem pg {ops:Array Oper} {i:Nat} (h:i<ops.size):ops[i]?=some (opI ops i):=by
 unfold opI
 rw[Array.getElem?_eq_getElem h,Array.getD_eq_getD_getElem?,Array.getElem?_eq_getElem h];rfl
def Ap (ops:Array Oper) (S:Array Bool):Prop:= ∀i o,ops[i]?=some o→S.getD i false=true→ ∀e∈o.after,Region.binds .any e=true→S.getD e.on false=true
theorem OV {ops:Array Oper} {ord:List Item} {A:Nat→List Nat} (D:xc ops ord A) {S:Array Bool} (hs:S.size=ops.size) (hc:Ap ops S): ∀(i:Nat) o,ops[i]?=some o→(∀e∈o.after,Region.binds .any e=true→S.getD e.on false=true)→ ∀a∈A i,S.getD a false=true:=by
 intro i
 induction i using Nat.strongRecOn with
 | _ i bx=>
  intro o aD aq a aC
  obtain⟨e,he,hb,o1⟩:=D.OU i o aD a aC
  have p3:=aq e he hb
  rcases o1 with rfl | o1
  ·exact p3
  ·have aS:=D.back i o aD e he hb
   have bU:e.on<ops.size:=by
    rcases Nat.lt_or_ge e.on ops.size with h | h
    ·exact h
    ·rw[Array.getD_eq_getD_getElem?,Array.getElem?_eq_none (by omega)] at p3;cases p3
   exact bx e.on aS _ (pg bU) (fun b1 Su dS=>hc e.on _ (pg bU) p3 b1 Su dS) a o1
theorem Md {ops:Array Oper} {S:Array Bool} (hs:S.size=ops.size) {i:Nat} (h:i∈Region.ready .any ops S):i<ops.size∧S.getD i false=false∧ ∀e∈(opI ops i).after,Region.binds .any e=true→S.getD e.on false=true:=by
 unfold Region.ready at h
 rw[List.mem_filter,List.mem_range] at h
 obtain⟨aS,h⟩:=h
 rw[pg aS] at h
 simp only[Option.map_some,Option.getD_some,Bool.and_eq_true,Bool.not_eq_true',Array.all_eq_true_iff_forall_mem] at h
 obtain⟨h1,h2⟩:=h
 refine⟨aS,?_,fun e he hb=> ?_⟩
 ·rw[Array.getD_eq_getD_getElem?,Array.getElem?_eq_getElem (by omega)] at h1 ⊢;exact h1
 ·have:=h2 e he
  rw[hb] at this;simpa using this
theorem Yp {ops:Array Oper} {ord:List Item} {A:Nat→List Nat} (D:xc ops ord A) {S:Array Bool} (hs:S.size=ops.size) (h:Region.ready .any ops S=[]): ∀i,i<ops.size→S.getD i false=true:=by
 intro i
 induction i using Nat.strongRecOn with
 | _ i bx=>
  intro aS
  cases af:S.getD i false with
  | true=>rfl
  | false=>
   exfalso
   have:i∈Region.ready .any ops S:=by
    unfold Region.ready
    rw[List.mem_filter,List.mem_range]
    refine⟨aS,?_⟩
    rw[pg aS]
    simp only[Option.map_some,Option.getD_some,Bool.and_eq_true,Bool.not_eq_true',Array.all_eq_true_iff_forall_mem]
    refine⟨?_,fun e he=> ?_⟩
    ·rw[Array.getD_eq_getD_getElem?,Array.getElem?_eq_getElem (by omega)] at af ⊢;exact af
    ·cases hb:Region.binds .any e with
     | false=>rfl
     | true=>
      have aE:=D.back i _ (pg aS) e he hb
      simpa using bx e.on aE (by omega)
   rw[h] at this;cases this
theorem GF {α:Type} (p tP:α→Bool) (j:α) (ai:p j=true) (yN:tP j=false) (hk: ∀k,k≠j→p k=tP k): ∀l:List α,l.Nodup→j∈l→l.countP p=l.countP tP+1
 | [],_,h=>by cases h
 | k::l,ap,h=>by
  rw[List.nodup_cons] at ap
  by_cases Cv:k=j
  ·subst Cv
   rw[List.countP_cons_of_pos ai,List.countP_cons_of_neg (by simp[yN])]
   congr 1
   refine List.countP_congr fun x hx=> ?_
   rw[hk x (fun e=>ap.1 (e▸hx))]
  ·have ar:j∈l:=(List.mem_cons.1 h).resolve_left fun e=>Cv e.symm
   have bx:=GF p tP j ai yN hk l ap.2 ar
   rw[List.countP_cons,List.countP_cons,hk k Cv,bx];omega
def left (n:Nat) (S:Array Bool):Nat:=(List.range n).countP fun j=> !S.getD j false
theorem vf {S:Array Bool} {i j:Nat}:(S.setIfInBounds i true).getD j false=if i=j∧i<S.size then true else S.getD j false:=by
 rw[Array.getD_eq_getD_getElem?,Array.getD_eq_getD_getElem?,Array.getElem?_setIfInBounds]
 by_cases h:i=j
 ·subst h
  by_cases aE:i<S.size
  ·simp[aE]
  ·simp[aE]
 ·simp[h]
theorem Ww {n:Nat} {S:Array Bool} {i:Nat} (hs:S.size=n) (hi:i<n) (h:S.getD i false=false):left n S=left n (S.setIfInBounds i true)+1:=by
 refine GF _ _ i (by simp[h]) ?_ (fun k hk=> ?_) _ List.nodup_range (List.mem_range.2 hi)
 ·rw[vf,if_pos ⟨rfl,by omega⟩];rfl
 ·rw[vf,if_neg (fun e=>hk e.1.symm)]
theorem Wx {n:Nat} {S:Array Bool} (h:left n S=0): ∀i,i<n→S.getD i false=true:=fun i hi=>by
 have:=(List.countP_eq_zero.1 h) i (List.mem_range.2 hi)
 simpa using this
def rv:List Nat→List AV→List AV
 | [],T=>T
 | d::hq,T=>rv hq (T.set d .undef)
theorem yz: ∀(hq:List Nat) (T:List AV) (t:Nat),(t∈hq→(rv hq T).getD t .undef= .undef)∧(t ∉ hq→(rv hq T).getD t .undef=T.getD t .undef)
 | [],T,t=>⟨fun h=>(by cases h),fun _=>rfl⟩
 | d::hq,T,t=>by
  obtain⟨h1,h2⟩:=yz hq (T.set d .undef) t
  refine⟨fun h=> ?_,fun h=> ?_⟩
  ·by_cases aY:t∈hq
   ·exact h1 aY
   ·have e:t=d:=(List.mem_cons.1 h).resolve_right aY
    show(rv hq (T.set d .undef)).getD t .undef= .undef
    rw[h2 aY,oU]
    by_cases aE:d=t∧d<T.length
    ·rw[if_pos aE]
    ·rw[if_neg aE,List.getD_eq_getElem?_getD,List.getElem?_eq_none (by rcases Nat.lt_or_ge d T.length with q | q;exact absurd ⟨e.symm,q⟩ aE;omega)];rfl
  ·show(rv hq (T.set d .undef)).getD t .undef=_
   rw[h2 fun hm=>h (List.mem_cons_of_mem _ hm),oU,if_neg fun hm=>h (by rw[hm.1];exact List.mem_cons_self ..)]
section
variable {P:Program} {esc:List Nat} {ops:Array Oper} {ord:List Item} {A:Nat→List Nat} {Q:Exit→St→Prop} {bY:Env}
structure FG [b6] (P:Program) (esc:List Nat) (ops:Array Oper) (ord:List Item) (Q:Exit→St→Prop) (bY:Env) (S:Array Bool) (a:Act) (w:World) (pre post:List Item) (E:Env) (T:List AV) (L:List (Nat×List AV)) (H:List Blk):Prop where
 nq:ord=pre++post
 w8: ∀x∈post,S.getD x.i false=false
 head: ∀x r,post=x::r→x.q=false
 BG:ii P esc ops post T L H (fun T L H=>Q .normal ⟨T,L,H⟩)
 facts: ∀x∈pre,S.getD x.i false=false→x.q=true∧ ∃v run,sA P ops L H T (opI ops x.i) v run
 gO: ∀t,(∃x∈pre,S.getD x.i false=false∧(opI ops x.i).dst=some t)∨V3 E (T.getD t .undef) (a.tmps.getD t undef)
 size:T.length=a.tmps.size
 h:SimH E H
 l:SimL E L
 q9:Good bY E
 bq: ∀x∈ord,S.getD x.i false=false→nm (opI ops x.i)=true→x.q=true→ ∀d,(opI ops x.i).dst=some d→E.mL d=none
 Bo:a.defers=[]
 w:E.w=w
theorem LR {a:Act} {d:Option Nat} {u:Value} {t:Nat} (h:d≠some t):(a.put d u).tmps.getD t undef=a.tmps.getD t undef:=by
 cases d with
 | none=>rfl
 | some s=>
  show(a.tmps.setIfInBounds s u).getD t undef=_
  rw[Array.getD_eq_getD_getElem?,Array.getD_eq_getD_getElem?,Array.getElem?_setIfInBounds_ne (fun e=>h (by rw[e]))]
theorem LU {a:Act} {d:Nat} {u:Value} (h:d<a.tmps.size):(a.put (some d) u).tmps.getD d undef=u:=by
 show(a.tmps.setIfInBounds d u).getD d undef=_
 rw[Array.getD_eq_getD_getElem?,Array.getElem?_setIfInBounds_self];simp[h]
theorem LV (a:Act) (d:Option Nat) (u:Value):(a.put d u).tmps.size=a.tmps.size:=by
 cases d<;>simp[Act.put]
theorem LQ {a:Act} (d:Option Nat) (u:Value) (h:a.defers=[]):(a.put d u).defers=[]:=by
 cases d<;>exact h
theorem OT {o:Oper} {a:Act} {T:List AV} {L:List (Nat×List AV)} {H:List Blk} {v:AV} {E:Env} (ax:SimH E H) (bH:SimL E L) (aC:nm o=true) (ap: ∀d,o.dst=some d→E.mL d=none) (h:jr P o (bR T) L H (fun r=>r=v)):
  ∃t u E',V3 E' v u∧o.dst=some t∧Step E E'∧SimH E' H∧SimL E' L∧(∀s,s≠t→E'.mL s=E.mL s)∧True∧ ∀(next:Act→World→Prop) Q,next (a.put o.dst u) E'.w→o.wp P a E.w next Q:=by
 obtain⟨dst,op,ty,pos,after,guard⟩:=o
 cases op
 all_goals try (cases aC;done)
 rename_i e
 obtain⟨z,aJ,h⟩:=eu (show FX P e dst L (fun r=>r=v) from h)
 obtain⟨t,bj,h⟩:=eu h
 obtain⟨c,hc,h⟩:=eu h
 obtain⟨hs,h⟩:=nr h
 obtain⟨af,cX⟩:=nr h
 have cX:AV.et t 0=v:=cX
 clear h
 subst cX
 have af:=Ov af
 subst af
 obtain⟨i,sx,q1,q2,q3,q4⟩:=sw (E:=E) aJ
 obtain⟨E',aT,e2,c0,gI,hM,_,mV⟩:=K_ (ty:=e) ax bH (kU.alloc E.w (.cells sx.cells e (0,0))) hc (ap t bj) (Ff hs q4)
 refine⟨t,_,E',hM,bj,e2,c0,gI,mV,trivial,fun next Q hk=> ?_⟩
 unfold Oper.wp
 rw[show execOp a.eval ⟨dst,.alloc e,ty,pos,after,guard⟩=(do pure (Next.value (←Instr.alloc e true (.tuple #[])))) from rfl]
 refine Fy (w':=E'.w) ?_ hk
 rw[aT]
 simp[Instr.alloc,zeroValue,typeInfo,q1,q2,newVar,newRow]
theorem Qg [b6] (D:xc ops ord A): ∀(hO:Nat) (S:Array Bool) (a:Act) (w:World) (pre post:List Item) (E:Env) (T:List AV) (L:List (Nat×List AV)) (H:List Blk),
  S.size=ops.size→left ops.size S=hO→Ap ops S→FG P esc ops ord Q bY S a w pre post E T L H→wpAny P .any ops (kW bY Q) hO S a w:=by
 have fin: ∀(S:Array Bool) (a:Act) (w:World) (pre post:List Item) (E:Env) (T:List AV) (L:List (Nat×List AV)) (H:List Blk),(∀i,i<ops.size→S.getD i false=true)→FG P esc ops ord Q bY S a w pre post E T L H→kW bY Q .normal a w:=by
  intro S a w pre post E T L H dy I
  have ai:post=[]:=by
   cases post with
   | nil=>rfl
   | cons x r=>
    have h1:=I.w8 x (List.mem_cons_self ..)
    rw[dy x.i (D.lt x (by rw[I.nq];simp))] at h1;cases h1
  subst ai
  refine⟨rfl,⟨T,L,H⟩,E,I.BG,I.w,I.q9,⟨I.h,I.l,fun t=> ?_,I.size⟩,I.Bo⟩
  rcases I.gO t with⟨x,hx,hu,_⟩ | h
  ·rw[dy x.i (D.lt x (by rw[I.nq];simp[hx]))] at hu;cases hu
  ·exact h
 intro hO
 induction hO with
 | zero=>
  intro S a w pre post E T L H hs hf hc I
  have dy:=Wx hf
  refine⟨?_,fin S a w pre post E T L H dy I⟩
  cases aq:Region.ready .any ops S with
  | nil=>rfl
  | cons i l=>
   have:=Md hs (i:=i) (by rw[aq];exact List.mem_cons_self ..)
   rw[dy i this.1] at this;cases this.2.1
 | succ hO bx=>
  intro S a w pre post E T L H hs hf hc I
  refine⟨fun aq=>fin S a w pre post E T L H (Yp D hs aq) I,fun i hi=> ?_⟩
  obtain⟨aS,oh,p3⟩:=Md hs hi
  have Cb:=OV D hs hc i _ (pg aS) p3
  have HP:(S.setIfInBounds i true).size=ops.size:=by simpa using hs
  have yw:left ops.size (S.setIfInBounds i true)=hO:=by have:=Ww hs aS oh;omega
  have jd:Ap ops (S.setIfInBounds i true):=by
   intro j o aD ar e he hb
   rw[vf] at ar ⊢
   by_cases j7:i=j
   ·subst j7
    have:o=opI ops i:=by rw[pg aS] at aD;exact(Option.some.inj aD).symm
    subst this
    split
    ·rfl
    ·exact p3 e he hb
   ·rw[if_neg fun q=>j7 q.1] at ar
    split
    ·rfl
    ·exact hc j o aD ar e he hb
  have ED: ∀j,(S.setIfInBounds i true).getD j false=false→S.getD j false=false∧j≠i:=fun j ar=>by
   rw[vf] at ar
   split at ar
   ·cases ar
   ·rename_i q;exact⟨ar,fun e=>q ⟨e.symm,by omega⟩⟩
  have wU: ∀j,j≠i→S.getD j false=false→(S.setIfInBounds i true).getD j false=false:=fun j ar h=>by
   rw[vf,if_neg fun q=>ar q.1.symm];exact h
  obtain⟨y,bd,kc⟩:=D.all i aS
  subst kc
  have kc:y.i=y.i:=rfl
  let hq:List Nat:=(pre.filter fun x=> !S.getD x.i false).filterMap fun x=>(opI ops x.i).dst
  have Cn: ∀t,t∈hq↔ ∃x∈pre,S.getD x.i false=false∧(opI ops x.i).dst=some t:=fun t=>by
   simp only[hq,List.mem_filterMap,List.mem_filter,Bool.not_eq_true']
   constructor
   ·rintro⟨x,⟨h1,h2⟩,aH⟩;exact⟨x,h1,h2,aH⟩
   ·rintro⟨x,h1,h2,aH⟩;exact⟨x,⟨h1,h2⟩,aH⟩
  have bS: ∀t,V3 E ((rv hq T).getD t .undef) (a.tmps.getD t undef):=fun t=>by
   by_cases h:t∈hq
   ·rw[(yz hq T t).1 h];exact V3.undef _ _
   ·rw[(yz hq T t).2 h]
    exact(I.gO t).resolve_left fun q=>h ((Cn t).2 q)
  have vF: ∀t∈(opI ops y.i).looksAt ops,t ∉ hq:=fun t bj hm=>by
   obtain⟨x,hx,hu,aY⟩:=(Cn t).1 hm
   have:=Cb x.i (by rw[←kc];rw[←kc] at bj;exact D.aaY y bd t bj x (by rw[I.nq];simp[hx]) aY)
   rw[this] at hu;cases hu
  have Iv: ∀t∈(opI ops y.i).looksAt ops,V3 E (T.getD t .undef) (a.tmps.getD t undef):=fun t bj=>(I.gO t).resolve_left fun q=>vF t bj ((Cn t).2 q)
  have HU: ∀t∈(opI ops y.i).looksAt ops,(rv hq T).getD t .undef=T.getD t .undef:=fun t bj=>(yz hq T t).2 (vF t bj)
  have FW: ∀E':Env,(∀t,(opI ops y.i).dst≠some t→E'.mL t=E.mL t)→ ∀x∈ord,(S.setIfInBounds y.i true).getD x.i false=false→nm (opI ops x.i)=true→x.q=true→ ∀d,(opI ops x.i).dst=some d→E'.mL d=none:=fun E' hml x hx hu aC Tr d aY=>by
   obtain⟨og,p6⟩:=ED _ hu
   rw[hml d (D.apart.inj x hx y bd p6 d aY)]
   exact I.bq x hx og aC Tr d aY
  unfold wpOp
  rw[pg aS]
  simp only
  have p2:y∈pre∨y∈post:=by rw[I.nq] at bd;exact List.mem_append.1 bd
  rcases p2 with rC | rC
  ·
   obtain⟨af,v,run,F⟩:=I.facts y rC (by rw[kc];exact oh)
   rw[kc] at F
   have hw:=F.cE E a Iv I.size
   have next: ∀(u:Value) (E':Env),Step E E'→SimH E' H→SimL E' L→(∀t,(opI ops y.i).dst≠some t→E'.mL t=E.mL t)→V3 E' v u→wpAny P .any ops (kW bY Q) hO (S.setIfInBounds y.i true) (a.put (opI ops y.i).dst u) E'.w:=fun u E' bf o3 o4 hml hv=>by
    refine bx _ _ _ pre post E' T L H HP yw jd ⟨I.nq,fun x hx=>wU _ (fun e=> ?_) (I.w8 x hx),I.head,I.BG,fun x hx hu=>I.facts x hx (ED _ hu).1,fun t=> ?_,by rw[LV];exact I.size,o3,o4,I.q9.step bf,FW E' hml,LQ _ _ I.Bo,rfl⟩
    ·have mo:=D.nodup
     rw[I.nq,List.map_append,List.nodup_append] at mo
     exact mo.2.2 y.i (List.mem_map_of_mem rC) x.i (List.mem_map_of_mem hx) (by rw[kc,e])
    ·by_cases aY:(opI ops y.i).dst=some t
     ·right
      rw[aY]
      by_cases aE:t<T.length
      ·rw[F.put t aY aE,LU (by rw[←I.size];exact aE)];exact hv
      ·rw[List.getD_eq_getElem?_getD,List.getElem?_eq_none (Nat.not_lt.1 aE)];exact V3.undef _ _
     ·rcases I.gO t with⟨x,hx,hu,vS⟩ | h
      ·exact .inl ⟨x,hx,wU _ (fun e=>aY (by rw[←e];exact vS)) hu,vS⟩
      ·right;rw[LR aY];exact h.le bf.le
   cases run with
   | true=>
    rw[if_pos hw]
    refine .inl ?_
    have oY:=F.oI rfl
    cases ta:nm (opI ops y.i) with
    | true=>
     obtain⟨t,u,E',hv,Ss,q1,q2,q3,q4,_,cu⟩:=OT (P:=P) (a:=a) I.h I.l ta (fun t bj=>I.bq y bd (by rw[kc];exact oh) ta af t bj) oY
     rw[←I.w]
     exact cu _ _ (next u E' q1 q2 q3 (fun s hs=>q4 s fun e=>hs (by rw[Ss,e])) hv)
    | false=>
    rw[sZ ta,←G6 (zn HU)] at oY
    rw[←I.w]
    refine Oper.wp_mono (fun gS w' ⟨dv,u,E',he,fp,hqt,hv,aC⟩=> ?_) (G8 bS (Sub.refl L H) I.h I.l (x9 oY))
    subst he;subst fp;subst aC
    exact next u E' hqt.step (hqt.simH I.h) (hqt.simL I.h I.l) (fun t _=>by rw[hqt.mL]) hv
   | false=>
    rw[if_neg (by rw[hw];simp)]
    have hv:=F.no rfl
    subst hv
    rw[←I.w]
    exact next undef E (Step.refl E) I.h I.l (fun _ _=>rfl) ⟨[],rfl,aK.nil⟩
  ·
   have o2: ∃r,post=y::r:=by
    cases ai:post with
    | nil=>rw[ai] at rC;cases rC
    | cons x r=>
     rw[ai] at rC
     rcases List.mem_cons.1 rC with rfl | Tu
     ·exact⟨r,rfl⟩
     ·have hb:=D.kX
      rw[I.nq,ai] at hb
      have:=(hb.at (I.head x r ai)).1 y Tu
      rw[kc] at this
      have h1:=Cb x.i this
      rw[I.w8 x (by rw[ai];exact List.mem_cons_self ..)] at h1;cases h1
   obtain⟨r,S6⟩:=o2
   subst S6
   have af:=I.head y r rfl
   have oY:=I.BG
   obtain⟨j3,run,na,jR,hw,eP⟩:=Hz (P:=P) oY
   have hw:=hw E a Iv I.size
   have Cc:=D.apart
   rw[I.nq] at Cc
   have If:=jB.JF Cc
   have Sh:=(show qH A [] (pre++y::r) from I.nq▸D.kX).at af
   have mo:=D.nodup
   rw[I.nq,List.map_append,List.map_cons,List.nodup_append,List.nodup_cons] at mo
   have S3: ∀x∈pre,S.getD x.i false=false→x.i∈y.hN:=fun x hx hu=>by
    rcases Sh.2 x (by simpa using hx) with h | h
    ·rw[kc] at h
     have:=Cb x.i h
     rw[hu] at this;cases this
    ·exact h

   have next: ∀(v:AV) (u:Value) (L':List (Nat×List AV)) (H':List Blk) (E':Env),Step E E'→SimH E' H'→SimL E' L'→(∀t,(opI ops y.i).dst≠some t→E'.mL t=E.mL t)→V3 E' v u→ii P esc ops r (putA j3 (opI ops y.i).dst v) L' H' (fun T L H=>Q .normal ⟨T,L,H⟩)→
     (∀x∈pre,S.getD x.i false=false→ ∃v run,sA P ops L' H' j3 (opI ops x.i) v run)→
     wpAny P .any ops (kW bY Q) hO (S.setIfInBounds y.i true) (a.put (opI ops y.i).dst u) E'.w:=by
    intro v u L' H' E' bf ax bH hml hv hK SA
    obtain⟨D4,XV,l_,CH,S1,S5,Sw,hlen,fM,vy⟩:=Ez r _ (jB.tail (p:=[y]) (jB.tail Cc)) hK
    have CI: ∀z∈D4,z∈r:=fun z aJ=>by rw[CH];exact List.mem_append_left _ aJ
    have HQ: ∀t,(∀z∈y::r,(opI ops z.i).dst≠some t)→l_.getD t .undef=j3.getD t .undef:=fun t bj=>by
     rw[fM t fun z aJ=>bj z (List.mem_cons_of_mem _ (CI z aJ)),zv (bj y (List.mem_cons_self ..))]
    refine bx _ _ _ (pre++y::D4) XV E' l_ L' H' HP yw jd ⟨by rw[I.nq,CH];simp,fun x hx=> ?_,S5,Sw,fun x hx hu=> ?_,fun t=> ?_,by rw[LV,hlen,tW,na];exact I.size,ax,bH,I.q9.step bf,FW E' hml,LQ _ _ I.Bo,rfl⟩
    ·have yQ:x∈r:=by rw[CH];exact List.mem_append_right _ hx
     exact wU _ (fun e=>mo.2.1.1 (by rw[kc,←e];exact List.mem_map_of_mem yQ)) (I.w8 x (List.mem_cons_of_mem _ yQ))
    ·obtain⟨og,p6⟩:=ED _ hu
     rcases List.mem_append.1 hx with hx | hx
     ·refine⟨(I.facts x hx og).1,?_⟩
      obtain⟨dv,run',F⟩:=SA x hx og
      refine⟨dv,run',F.mono (by rw[hlen,tW]) (fun t bj=>HQ t fun z aJ=>(If x hx).1 t bj z aJ) fun d aY=>HQ d fun z aJ=>(If x hx).2 d aY z aJ⟩
     ·rcases List.mem_cons.1 hx with rfl | hx
      ·exact absurd kc p6
      ·exact⟨S1 x hx,vy x hx⟩
    ·by_cases rl: ∃z∈D4,(opI ops z.i).dst=some t
     ·obtain⟨z,aJ,nh⟩:=rl
      refine .inl ⟨z,by simp[aJ],wU _ (fun e=>mo.2.1.1 (by rw[kc,←e];exact List.mem_map_of_mem (CI z aJ))) (I.w8 z (List.mem_cons_of_mem _ (CI z aJ))),nh⟩
     ·have aT:=fM t fun z aJ q=>rl ⟨z,aJ,q⟩
      by_cases aY:(opI ops y.i).dst=some t
      ·right
       rw[kc] at aY aT
       rw[aT,aY]
       by_cases aE:t<j3.length
       ·rw[LN aE,LU (by rw[←I.size,←na];exact aE)];exact hv
       ·rw[List.getD_eq_getElem?_getD,List.getElem?_eq_none (by rw[tW];exact Nat.not_lt.1 aE)];exact V3.undef _ _
      ·rw[zv aY,jR] at aT
       rcases I.gO t with⟨x,hx,hu,vS⟩ | h
       ·refine .inl ⟨x,by simp[hx],wU _ (fun e=>aY (by rw[kc,←e];exact vS)) hu,vS⟩
       ·right;rw[aT,LR (by rw[←kc];exact aY)];exact h.le bf.le
   cases run with
   | true=>
    rw[if_pos hw]
    refine .inl ?_
    have eP:(match y.q with
     | true=>_
     | false=>ih P esc (opI ops y.i) (bR j3) L H fun v L' H'=>oT P ops y.hN j3 L' H'∧ii P esc ops r (putA j3 (opI ops y.i).dst v) L' H' (fun T L H=>Q .normal ⟨T,L,H⟩)):=eP
    rw[af] at eP
    have eP:ih P esc (opI ops y.i) (bR j3) L H fun v L' H'=>oT P ops y.hN j3 L' H'∧ii P esc ops r (putA j3 (opI ops y.i).dst v) L' H' (fun T L H=>Q .normal ⟨T,L,H⟩):=eP
    rw[←QA (zn fun t bj=>(HU t bj).trans (jR t).symm)] at eP
    rw[←I.w]
    refine Oper.wp_mono (fun gS w' ⟨v,u,L',H',E',⟨m8,hK⟩,fp,q1,q2,q3,q4,aC,hml⟩=> ?_) (evOp_sound bS I.h I.l eP)
    subst fp;subst aC
    refine next v u L' H' E' q1 q2 q3 hml q4 hK fun x hx hu=> ?_
    obtain⟨f1,f2,f3⟩:=Hn m8 x.i (S3 x hx hu)
    refine⟨_,true,⟨fun E a hs aJ=> ?_,fun _=>f3,fun e=>(by cases e),fun d aY aS=> ?_⟩⟩
    ·unfold Region.wanted
     cases vA:(opI ops x.i).guard with
     | none=>rfl
     | some g=>rw[vA] at f1;cases f1
    ·unfold pK;rw[aY]
   | false=>
    rw[if_neg (by rw[hw];simp)]
    rw[←I.w]
    refine next (.tup []) undef L H E (Step.refl E) I.h I.l (fun _ _=>rfl) ⟨[],rfl,aK.nil⟩ eP fun x hx hu=> ?_
    obtain⟨_,dv,run',F⟩:=I.facts x hx hu
    exact⟨dv,run',F.mono na (fun t _=>jR t) fun d _=>jR d⟩
end
def xD (ops:Array Oper):List Item→Bool
 | []=>true
 | x::r=>((opI ops x.i).looksAt ops).all (fun t=>(x::r).all fun y=>(opI ops y.i).dst !=some t)&&(match(opI ops x.i).dst with
  | some d=>r.all fun y=>(opI ops y.i).dst !=some d
  | none=>true)&&xD ops r
theorem F6 {ops:Array Oper}: ∀{l:List Item},xD ops l=true→jB ops l
 | [],_=>trivial
 | x::r,h=>by
  simp only[xD,Bool.and_eq_true] at h
  obtain⟨⟨h1,h2⟩,aH⟩:=h
  refine⟨fun t bj y bd=> ?_,fun d aY y bd=> ?_,F6 aH⟩
  ·have:=List.all_eq_true.1 (List.all_eq_true.1 h1 t bj) y bd
   simpa using this
  ·rw[aY] at h2
   have:=List.all_eq_true.1 h2 y bd
   simpa using this
def xG (A:Nat→List Nat):List Item→List Item→Bool
 | _,[]=>true
 | p,h::r=>(h.q || (r.all (fun y=>(A y.i).contains h.i)&&p.all fun x=>(A h.i).contains x.i || h.hN.contains x.i))&&xG A (p++[h]) r
theorem Gb {A:Nat→List Nat}: ∀{l p:List Item},xG A p l=true→qH A p l
 | [],_,_=>trivial
 | h::r,p,hb=>by
  simp only[xG,Bool.and_eq_true] at hb
  refine⟨fun af=> ?_,Gb hb.2⟩
  have h1:=hb.1
  rw[af,Bool.false_or,Bool.and_eq_true] at h1
  refine⟨fun y bd=>by simpa using List.all_eq_true.1 h1.1 y bd,fun x hx=> ?_⟩
  have:=List.all_eq_true.1 h1.2 x hx
  simpa using this
def zh:List Nat→Bool
 | []=>true
 | x::r=> !r.contains x&&zh r
theorem Le: ∀{l:List Nat},zh l=true→l.Nodup
 | [],_=>List.nodup_nil
 | x::r,h=>by
  simp only[zh,Bool.and_eq_true] at h
  rw[List.nodup_cons]
  exact⟨by simpa using h.1,Le h.2⟩
def sU (ops:Array Oper) (ord:List Item) (A:Nat→List Nat):Bool:=
 (List.range ops.size).all (fun i=>(opI ops i).after.toList.all (fun e=> !Region.binds .any e || decide (e.on<i))&&(A i).all fun a=>(opI ops i).after.toList.any fun e=>Region.binds .any e&&(a==e.on || (A e.on).contains a))&&
 (List.range ops.size).all (fun i=>ord.any fun x=>x.i==i)&&ord.all (fun x=>decide (x.i<ops.size))&&zh (ord.map (·.i))&&
 ord.all (fun x=>((opI ops x.i).looksAt ops).all fun t=>ord.all fun y=>(opI ops y.i).dst !=some t || (A x.i).contains y.i)&&xD ops ord&&xG A [] ord
theorem Qh {ops:Array Oper} {ord:List Item} {A:Nat→List Nat} (c3: ∀i,ops.size≤i→A i=[]) (h:sU ops ord A=true):xc ops ord A:=by
 simp only[sU,Bool.and_eq_true] at h
 obtain⟨⟨⟨⟨⟨⟨h1,h2⟩,aH⟩,bn⟩,cX⟩,eG⟩,kt⟩:=h
 have get: ∀i o,ops[i]?=some o→i<ops.size∧o=opI ops i:=fun i o aD=>by
  have aS:i<ops.size:=by
   rcases Nat.lt_or_ge i ops.size with h | h
   ·exact h
   ·rw[Array.getElem?_eq_none h] at aD;cases aD
  rw[pg aS] at aD
  exact⟨aS,(Option.some.inj aD).symm⟩
 refine⟨fun i o aD e he hb=> ?_,fun i o aD a aC=> ?_,fun i hi=> ?_,fun x hx=> ?_,Le bn,fun x hx t bj y bd aY=> ?_,F6 eG,Gb kt⟩
 ·obtain⟨aS,rfl⟩:=get i o aD
  have:=List.all_eq_true.1 h1 i (List.mem_range.2 aS)
  rw[Bool.and_eq_true] at this
  have:=List.all_eq_true.1 this.1 e (by simpa using he)
  rw[hb] at this;simpa using this
 ·obtain⟨aS,rfl⟩:=get i o aD
  have:=List.all_eq_true.1 h1 i (List.mem_range.2 aS)
  rw[Bool.and_eq_true] at this
  have:=List.all_eq_true.1 this.2 a aC
  obtain⟨e,he,hc⟩:=List.any_eq_true.1 this
  rw[Bool.and_eq_true] at hc
  exact⟨e,by simpa using he,hc.1,by simpa using hc.2⟩
 ·obtain⟨x,hx,hc⟩:=List.any_eq_true.1 (List.all_eq_true.1 h2 i (List.mem_range.2 hi))
  exact⟨x,hx,by simpa using hc⟩
 ·simpa using List.all_eq_true.1 aH x hx
 ·have:=List.all_eq_true.1 (List.all_eq_true.1 (List.all_eq_true.1 cX x hx) t bj) y bd
  rw[Bool.or_eq_true] at this
  rcases this with h | h
  ·rw[aY] at h;simp at h
  ·simpa using h
def uV (ic:List (List Nat)) (i:Nat):List Nat:=ic.getD i []
theorem Env.GN (E:Env):Step E {E with w:=E.w.drew}:=
 ⟨⟨fun _ h=>h,fun _ h=>h,fun _ _=>rfl,fun _ _=>rfl,fun _=>Nat.le_refl _,fun _ _ h _=>⟨h,rfl,rfl⟩,fun _ _ h=>h⟩,rfl,rfl,rfl,Nat.le_refl _,fun _ _ _ _=>rfl,fun _ _ h=> .inl h,fun _ h=> .inl h,fun _ h=> .inl h,fun _ h=> .inl h⟩
theorem Qk {E:Env} {H:List Blk} (h:SimH E H):SimH {E with w:=E.w.drew} H:=
 {h with
  heap:=fun b c hb=>by
   obtain⟨blk,aw,ty,q1,b8,q2,q3,q4,cD,cu⟩:=h.heap b c hb
   exact⟨blk,aw,ty,q1,b8,q2,q3,q4,cD,fun i j row a aq ar=>by obtain⟨u,hu,hv⟩:=cu i j row a aq ar;exact⟨u,hu,hv.le (Env.GN E).le.bK⟩⟩}
theorem Wv (n:Nat):left n (Array.replicate n false)=n:=by
 unfold left
 have:(List.range n).countP (fun j=> !(Array.replicate n false).getD j false)=(List.range n).countP (fun _=>true):=by
  refine List.countP_congr fun x hx=> ?_
  rw[Array.getD_eq_getD_getElem?,Array.getElem?_replicate]
  split<;>simp
 rw[this,List.countP_true,List.length_range]
def q7:List (Nat×List AV)→List (Nat×List AV)→Bool
 | [],_=>true
 | (t,_)::r,L=>(dt L t).isNone&&q7 r L
def qU (ops:Array Oper) (L:List (Nat×List AV)):List Item→Bool
 | []=>true
 | x::r=>(match x.q&&nm (opI ops x.i) with
  | false=>true
  | true=>match(opI ops x.i).dst with
   | none=>true
   | some d=>(dt L d).isNone)&&qU ops L r
theorem Hs {E:Env} {L:List (Nat×List AV)} (bH:SimL E L): ∀{gR:List (Nat×List AV)},q7 gR L=true→SimL E (gR++L)
 | [],_=>bH
 | (t,c)::r,h=>by
  simp only[q7,Bool.and_eq_true,Option.isNone_iff_eq_none] at h
  exact(Hs bH h.2).cons (bH.none h.1)
theorem FY {ops:Array Oper} {E:Env} {L:List (Nat×List AV)} (bH:SimL E L): ∀{l:List Item},qU ops L l=true→ ∀x∈l,nm (opI ops x.i)=true→x.q=true→ ∀d,(opI ops x.i).dst=some d→E.mL d=none
 | [],_,x,hx,_,_,_,_=>by cases hx
 | y::r,h,x,hx,aC,af,d,aY=>by
  simp only[qU,Bool.and_eq_true] at h
  rcases List.mem_cons.1 hx with rfl | hx
  ·have h1:=h.1
   rw[af,aC] at h1
   simp only[Bool.and_self] at h1
   rw[aY] at h1
   exact bH.none (by simpa using h1)
  ·exact FY bH h.2 x hx aC af d aY
theorem WpS.Mg [b6] {P:Program} {esc:List Nat} {c:Code} {id:Nat} {ops:Array Oper} {Q:Exit→St→Prop} {T:List AV} {L:List (Nat×List AV)} {H:List Blk} (ord:List Item) (ic:List (List Nat)) (hm:P.follows .mixedOrders=true)
  (aE:ic.length=ops.size) (aY:sU ops ord (uV ic)=true) (e:c= .region id ops true) (gR:List (Nat×List AV)) (hf:q7 gR L=true) (aJ:qU ops L ord=true) (h:ii P esc ops ord T (gR++L) H (fun T L H=>Q .normal ⟨T,L,H⟩)):WpS P c Q ⟨T,L,H⟩:=by
 subst e
 intro bY E a g s d
 have D:=Qh (fun i hi=>by unfold uV;rw[List.getD_eq_getElem?_getD,List.getElem?_eq_none (by omega)];rfl) aY
 refine wp_region_any hm ?_
 obtain⟨pre,post,l_,aq,ai,S4,oY,hlen,fM,vy⟩:=Ez ord T D.apart h
 have oh: ∀j,(Array.replicate ops.size false).getD j false=false:=fun j=>by
  rw[Array.getD_eq_getD_getElem?,Array.getElem?_replicate];split<;>rfl
 have bf:=Env.GN E
 have hw:(show World from{E.w with drawn:=E.w.drawn+1})=({E with w:=E.w.drew}:Env).w:=rfl
 refine Qg D ops.size _ a _ pre post {E with w:=E.w.drew} l_ (gR++L) H (by simp) (Wv _) (fun i o aD ar=> ?_) ⟨aq,fun x hx=>oh _,S4,oY,fun x hx _=>⟨ai x hx,vy x hx⟩,fun t=> ?_,by rw[hlen];exact s.size,Qk s.h,Hs ?_ hf,g.step bf,fun x hx _ aC af d aY=>FY s.l aJ x hx aC af d aY,d,rfl⟩
 ·rw[oh] at ar;cases ar
 ·by_cases rl: ∃z∈pre,(opI ops z.i).dst=some t
  ·obtain⟨z,aJ,nh⟩:=rl
   exact .inl ⟨z,aJ,oh _,nh⟩
  ·right
   rw[fM t fun z aJ q=>rl ⟨z,aJ,q⟩]
   exact(s.gO t).le bf.le
 ·intro t c hm
  obtain⟨cells,aw,ty,q1,q2,q3⟩:=s.l t c hm
  exact⟨cells,aw,ty,q1,q2,q3.mono fun _ _ k=>k.le bf.le.bK⟩
theorem DU {φ ψ:Prop} (e:φ=ψ) (h:ψ):φ:=e▸h
def v8 (ops:Array Oper):List (Oper×Bool):=ops.toList.map fun o=>(o,true)
theorem WpS.Mh [b6] {P:Program} {esc:List Nat} {c:Code} {id:Nat} {ops:Array Oper} {Q:Exit→St→Prop} {T:List AV} {L:List (Nat×List AV)} {H:List Blk} (e:c= .region id ops false)
  (h:evOps P esc ops (v8 ops) T L H (fun T L H=>Q .normal ⟨T,L,H⟩)):WpS P c Q ⟨T,L,H⟩:=by
 subst e
 intro bY E a g s d
 refine wp_region_list ?_
 have:=x8 (v8 ops) T L H E a g s d h
 have e2:(v8 ops).map (·.1)=ops.toList:=by
  unfold v8;rw[List.map_map];exact List.map_id' _
 rwa [e2] at this
section
variable {P:Program} {esc:List Nat} {ops:Array Oper} {l eB:List Item} {T T':List AV} {L L':List (Nat×List AV)} {H H':List Blk} {K:List AV→List (Nat×List AV)→List Blk→Prop}
end
def e4:List (Nat×AV)→Nat→AV
 | [],_=> .undef
 | (k,v)::r,t=>match Nat.beq k t with
  | true=>v
  | false=>e4 r t
def jM:List (Nat×AV)→Nat→List (Nat×AV)
 | [],_=>[]
 | (k,v)::r,t=>match Nat.beq k t with
  | true=>jM r t
  | false=>(k,v)::jM r t
def dE (n:Nat):List (Nat×AV)→Bool
 | []=>true
 | (k,_)::r=>match Nat.blt k n with
  | true=>dE n r
  | false=>false
@[irreducible] def bt (n:Nat) (A:List (Nat×AV)):List AV:=(List.range n).map (e4 A)
def lV (n:Nat) (A:List (Nat×AV)) (dst:Option Nat) (v:AV):List (Nat×AV):=match dst with
 | none=>A
 | some d=>match Nat.blt d n with
  | true=>(d,v)::jM A d
  | false=>A
def ns (A:List (Nat×AV)):Operand→AV
 | .tmp t=>e4 A t
 | .const v=>mh v
 | .func f=> .fn f []
 | .global _=> .undef
theorem WQ (A:List (Nat×AV)) (d t:Nat):e4 (jM A d) t=if d=t then .undef else e4 A t:=by
 induction A with
 | nil=>simp[jM,e4]
 | cons p r bx=>
  obtain⟨k,v⟩:=p
  have yI:e4 ((k,v)::r) t=match Nat.beq k t with
   | true=>v
   | false=>e4 r t:=rfl
  rw[yI]
  cases h1:Nat.beq k d with
  | true=>
   have aT:=Nat.eq_of_beq_eq_true h1
   rw[show jM ((k,v)::r) d=jM r d by simp[jM,h1],bx]
   subst aT
   cases h2:Nat.beq k t with
   | true=>have e2:=Nat.eq_of_beq_eq_true h2;simp[e2]
   | false=>rfl
  | false=>
   rw[show jM ((k,v)::r) d=(k,v)::jM r d by simp[jM,h1],show e4 ((k,v)::jM r d) t=match Nat.beq k t with
    | true=>v
    | false=>e4 (jM r d) t from rfl]
   cases h2:Nat.beq k t with
   | true=>
    have e2:=Nat.eq_of_beq_eq_true h2
    have: ¬d=t:=fun e=>by subst e;subst e2;rw[Nat.beq_refl] at h1;cases h1
    simp[this]
   | false=>simp only;rw[bx]
theorem KU {n:Nat}: ∀{A:List (Nat×AV)} {t:Nat},dE n A=true→n≤t→e4 A t= .undef
 | [],t,_,_=>rfl
 | (k,v)::r,t,h,bj=>by
  unfold dE at h
  split at h
  ·rename_i hk
   have hk:k<n:=by rw[←Nat.blt_eq];exact hk
   unfold e4
   cases h2:Nat.beq k t with
   | true=>have:=Nat.eq_of_beq_eq_true h2;omega
   | false=>exact KU h bj
  ·cases h
theorem DJ {n d:Nat}: ∀{A:List (Nat×AV)},dE n A=true→dE n (jM A d)=true
 | [],h=>rfl
 | (k,v)::r,h=>by
  unfold dE at h
  split at h
  ·rename_i hk
   unfold jM
   split
   ·exact DJ h
   ·unfold dE;rw[hk];exact DJ h
  ·cases h
theorem DK {n:Nat} {A:List (Nat×AV)} (h:dE n A=true) (dst:Option Nat) (v:AV):dE n (lV n A dst v)=true:=by
 unfold lV
 split
 ·exact h
 ·split
  ·rename_i aY;unfold dE;rw[aY];exact DJ h
  ·exact h
theorem qd (n:Nat) (A:List (Nat×AV)):(bt n A).length=n:=by unfold bt;simp
theorem oq {n:Nat} {A:List (Nat×AV)} (h:dE n A=true) (t:Nat):(bt n A).getD t .undef=e4 A t:=by
 unfold bt
 rw[List.getD_eq_getElem?_getD,List.getElem?_map]
 rcases Nat.lt_or_ge t n with aS | e3
 ·rw[List.getElem?_range aS];rfl
 ·rw[List.getElem?_eq_none (by simpa using e3),KU h e3];rfl
theorem DL {n:Nat} {A:List (Nat×AV)} (dst:Option Nat) (v:AV):putA (bt n A) dst v=bt n (lV n A dst v):=by
 cases dst with
 | none=>rfl
 | some d=>
  show(bt n A).set d v=bt n (match Nat.blt d n with
   | true=>(d,v)::jM A d
   | false=>A)
  cases aY:Nat.blt d n with
  | true=>
   apply List.ext_getElem?
   intro t
   unfold bt
   rw[List.getElem?_set]
   simp only[List.length_map,List.length_range,List.getElem?_map]
   rcases Nat.lt_or_ge t n with aS | e3
   ·rw[List.getElem?_range aS]
    by_cases he:d=t
    ·subst he;simp[aS,e4]
    ·have hb:Nat.beq d t=false:=by
      cases af:Nat.beq d t with
      | true=>exact absurd (Nat.eq_of_beq_eq_true af) he
      | false=>rfl
     simp[he,e4,hb,WQ]
   ·rw[List.getElem?_eq_none (l:=List.range n) (by simpa using e3)]
    by_cases he:d=t
    ·subst he;simp[Nat.not_lt.2 e3]
    ·simp[he]
  | false=>
   have: ¬d<n:=fun h=>by rw[←Nat.blt_eq,aY] at h;cases h
   exact List.set_eq_of_length_le (by rw[qd];omega)
theorem za {n:Nat} {A:List (Nat×AV)} (h:dE n A=true):bR (bt n A)=ns A:=by
 funext o
 cases o with
 | tmp t=>exact oq h t
 | _=>rfl
theorem K4 {n:Nat} {A:List (Nat×AV)} (h:dE n A=true) {t:Nat} {b:Bool} (hb:e4 A t= .bool b):(bt n A).set t (.bool b)=bt n A:=by
 apply List.ext_getElem?
 intro s
 rw[List.getElem?_set]
 by_cases he:t=s
 ·subst he
  rw[if_pos rfl]
  rcases Nat.lt_or_ge t n with aS | e3
  ·rw[if_pos (by rw[qd];exact aS)]
   unfold bt
   rw[List.getElem?_map,List.getElem?_range aS]
   show _=some (e4 A t)
   rw[hb]
  ·rw[if_neg (by rw[qd];omega),List.getElem?_eq_none (by rw[qd];omega)]
 ·rw[if_neg he]
def pR (ops:Array Oper) (o:Oper) (A:List (Nat×AV)) (x y:Prop):Prop:=match o.guard with
 | none=>x
 | some (j,cE)=>match(ops[j]?).bind (·.dst) with
  | none=>False
  | some t=>match e4 A t with
   | .bool b=>(match b with
    | true=>(match cE with
     | true=>x
     | false=>y)
    | false=>(match cE with
     | true=>y
     | false=>x))
   | .tup []=>y
   | _=>False
theorem Hx {ops:Array Oper} {o:Oper} {n:Nat} {A:List (Nat×AV)} (h:dE n A=true) {x y:List AV→Prop}:lF ops true o (bt n A) x y=pR ops o A (x (bt n A)) (y (bt n A)):=by
 unfold lF pR
 cases o.guard with
 | none=>rfl
 | some g=>
  obtain⟨j,cE⟩:=g
  simp only
  cases(ops[j]?).bind (·.dst) with
  | none=>rfl
  | some t=>
   simp only
   rw[oq h t]
   cases hb:e4 A t with
   | bool b=>
    cases b with
    | true=>simp only[mT];rw[K4 h hb];cases cE<;>rfl
    | false=>simp only[mT];rw[K4 h hb];cases cE<;>rfl
   | tup l=>cases l<;>rfl
   | _=>rfl
def evS (P:Program) (esc:List Nat) (ops:Array Oper) (n:Nat):List Oper→List (Nat×AV)→List (Nat×List AV)→List Blk→(List (Nat×AV)→List (Nat×List AV)→List Blk→Prop)→Prop
 | [],A,L,H,K=>K A L H
 | o::rest,A,L,H,K=>pR ops o A
   (match o.op with
    | .pick c x y=>me (ns A c) fun z=>(match z with
     | true=>evS P esc ops n rest (lV n A o.dst (ns A x)) L H K
     | false=>evS P esc ops n rest (lV n A o.dst (ns A y)) L H K)
    | _=>ih P esc o (ns A) L H fun v L' H'=>evS P esc ops n rest (lV n A o.dst v) L' H' K)
   (evS P esc ops n rest (lV n A o.dst (.tup [])) L H K)
theorem BI {P:Program} {esc:List Nat} {ops:Array Oper} {n:Nat} {K:List AV→List (Nat×List AV)→List Blk→Prop}: ∀(l:List Oper) (A:List (Nat×AV)) (L:List (Nat×List AV)) (H:List Blk),dE n A=true→
  evOps P esc ops (l.map fun o=>(o,true)) (bt n A) L H K=evS P esc ops n l A L H fun A L H=>K (bt n A) L H
 | [],A,L,H,h=>rfl
 | o::rest,A,L,H,h=>by
  show lF ops true o (bt n A) _ _=_
  rw[Hx h]
  show pR ops o A _ _=pR ops o A _ _
  have e2:evOps P esc ops (rest.map fun o=>(o,true)) (putA (bt n A) o.dst (.tup [])) L H K=evS P esc ops n rest (lV n A o.dst (.tup [])) L H fun A L H=>K (bt n A) L H:=by
   rw[DL,BI rest _ _ _ (DK h _ _)]
  have BC: ∀v L H,evOps P esc ops (rest.map fun o=>(o,true)) (putA (bt n A) o.dst v) L H K=evS P esc ops n rest (lV n A o.dst v) L H fun A L H=>K (bt n A) L H:=fun v L H=>by
   rw[DL,BI rest _ _ _ (DK h _ _)]
  rw[e2]
  congr 1
  unfold r2
  rw[za h]
  cases eO:o.op<;>simp only[BC]
  case pick c x y=>
   unfold me
   cases ns A c<;>first | rfl | (rename_i z;cases z<;>rfl)
theorem WpS.zH [b6] {P:Program} {esc:List Nat} {c:Code} {id n:Nat} {ops:Array Oper} {Q:Exit→St→Prop} {A:List (Nat×AV)} {L:List (Nat×List AV)} {H:List Blk} (e:c= .region id ops false) (ap:dE n A=true)
  (h:evS P esc ops n (ops.toList.drop 0) A L H (fun A L H=>Q .normal ⟨bt n A,L,H⟩)):WpS P c Q ⟨bt n A,L,H⟩:=
 WpS.Mh (esc:=esc) e (by unfold v8;rw[BI _ _ _ _ ap];exact h)
def Bs (o:Oper) (A:List (Nat×AV)):AV:=match o.dst with
 | some d=>e4 A d
 | none=> .undef
def s4 (P:Program) (ops:Array Oper):List Nat→List (Nat×AV)→List (Nat×List AV)→List Blk→Prop
 | [],_,_,_=>True
 | i::r,A,L,H=>((opI ops i).guard.isNone=true∧(opI ops i).dst.isSome=true∧jr P (opI ops i) (ns A) L H (fun v=>v=Bs (opI ops i) A))∧s4 P ops r A L H
def evSD (P:Program) (esc:List Nat) (ops:Array Oper) (n:Nat):List Item→List (Nat×AV)→List (Nat×List AV)→List Blk→(List (Nat×AV)→List (Nat×List AV)→List Blk→Prop)→Prop
 | [],A,L,H,K=>K A L H
 | x::rest,A,L,H,K=>pR ops (opI ops x.i) A
   (match x.q with
    | true=>jr P (opI ops x.i) (ns A) L H fun v=>evSD P esc ops n rest (lV n A (opI ops x.i).dst v) L H K
    | false=>ih P esc (opI ops x.i) (ns A) L H fun v L' H'=>s4 P ops x.hN A L' H'∧evSD P esc ops n rest (lV n A (opI ops x.i).dst v) L' H' K)
   (evSD P esc ops n rest (lV n A (opI ops x.i).dst (.tup [])) L H K)
theorem Ho {P:Program} {ops:Array Oper} {n:Nat} {A:List (Nat×AV)} {L:List (Nat×List AV)} {H:List Blk} (h:dE n A=true): ∀l:List Nat,oT P ops l (bt n A) L H=s4 P ops l A L H
 | []=>rfl
 | i::r=>by
  show(_∧_)=(_∧_)
  rw[Ho h r,za h]
  have:pK (opI ops i) (bt n A)=Bs (opI ops i) A:=by
   unfold pK Bs
   cases(opI ops i).dst with
   | none=>rfl
   | some d=>exact oq h d
  rw[this]
theorem G4 {P:Program} {esc:List Nat} {ops:Array Oper} {n:Nat} {K:List AV→List (Nat×List AV)→List Blk→Prop}: ∀(l:List Item) (A:List (Nat×AV)) (L:List (Nat×List AV)) (H:List Blk),l.all (·.lit)=true→dE n A=true→
  ii P esc ops l (bt n A) L H K=evSD P esc ops n l A L H fun A L H=>K (bt n A) L H
 | [],A,L,H,aE,h=>rfl
 | x::rest,A,L,H,aE,h=>by
  simp only[List.all_cons,Bool.and_eq_true] at aE
  show lF ops x.lit (opI ops x.i) (bt n A) _ _=_
  rw[aE.1,Hx h]
  show pR ops (opI ops x.i) A _ _=pR ops (opI ops x.i) A _ _
  have BC: ∀v L H,ii P esc ops rest (putA (bt n A) (opI ops x.i).dst v) L H K=evSD P esc ops n rest (lV n A (opI ops x.i).dst v) L H fun A L H=>K (bt n A) L H:=fun v L H=>by
   rw[DL,G4 rest _ _ _ aE.2 (DK h _ _)]
  simp only[BC,za h,Ho h]
  first
  | done
  | (cases x.q<;>rfl)
theorem WpS.Yv [b6] {P:Program} {esc:List Nat} {c:Code} {id n:Nat} {ops:Array Oper} {Q:Exit→St→Prop} {A:List (Nat×AV)} {L:List (Nat×List AV)} {H:List Blk} (ord:List Item) (ic:List (List Nat)) (hm:P.follows .mixedOrders=true)
  (aE:ic.length=ops.size) (aY:sU ops ord (uV ic)=true) (Cy:ord.all (·.lit)=true) (e:c= .region id ops true) (ap:dE n A=true) (gR:List (Nat×List AV)) (hf:q7 gR L=true) (aJ:qU ops L ord=true) (h:evSD P esc ops n (ord.drop 0) A (gR++L) H (fun A L H=>Q .normal ⟨bt n A,L,H⟩)):WpS P c Q ⟨bt n A,L,H⟩:=
 WpS.Mg (esc:=esc) ord ic hm aE aY e gR hf aJ (by rw[G4 _ _ _ _ Cy ap];exact h)
theorem Weak.gO [b6] {T T':List AV} {L:List (Nat×List AV)} {H:List Blk} (aE:T'.length=T.length) (h: ∀t,T'.getD t .undef=T.getD t .undef∨T'.getD t .undef= .undef):Weak ⟨T,L,H⟩ ⟨T',L,H⟩:=fun bY E tmps g s=>
 ⟨E,rfl,g,s.h,s.l,fun t=>by
  show V3 E (T'.getD t .undef) _
  rcases h t with e | e<;>rw[e]
  ·exact s.gO t
  ·exact V3.undef _ _,by show T'.length=_;rw[aE];exact s.size⟩
def la (A:List (Nat×AV)):List (Nat×AV)→List (Nat×AV)
 | []=>[]
 | (k,_)::r=>(k,e4 A k)::la A r
theorem DH {A:List (Nat×AV)}: ∀(B:List (Nat×AV)) (t:Nat),e4 (la A B) t=e4 A t∨e4 (la A B) t= .undef
 | [],t=> .inr rfl
 | (k,v)::r,t=>by
  show(match Nat.beq k t with
   | true=>e4 A k
   | false=>e4 (la A r) t)=e4 A t∨_
  cases h:Nat.beq k t with
  | true=>have:=Nat.eq_of_beq_eq_true h;subst this;exact .inl rfl
  | false=>
   rcases DH r t with e | e
   ·exact .inl e
   ·right;show(match Nat.beq k t with
     | true=>e4 A k
     | false=>e4 (la A r) t)=_
    rw[h];exact e
def v_ (ci:List Nat):List (Nat×AV)→Bool
 | []=>true
 | (_,v)::r=>mu ci v&&v_ ci r
theorem KW {ci:List Nat}: ∀{A:List (Nat×AV)},v_ ci A=true→ ∀t,mu ci (e4 A t)=true
 | [],h,t=>rfl
 | (k,v)::r,h,t=>by
  simp only[v_,Bool.and_eq_true] at h
  unfold e4
  cases Nat.beq k t with
  | true=>exact h.1
  | false=>exact KW h.2 t
theorem aa_ [b6] {n:Nat} {A A':List (Nat×AV)} {L L':List (Nat×List AV)} {H:List Blk} (ci:List Nat) (c3:dE n A=true) (ku:dE n A'=true) (ai:v_ ci A'=true) (jN:la A A'=A') (e1:lx ci L=L'):Weak ⟨bt n A,L,H⟩ ⟨bt n A',L',H⟩:=by
 subst e1
 refine(Weak.gO (T':=bt n A') (by rw[qd,qd]) fun t=> ?_).trans (Weak.lx ci ?_)
 ·rw[oq c3,oq ku,←jN];exact DH A' t
 ·rw[List.all_eq_true]
  intro a aC
  obtain⟨t,bj⟩:=List.mem_iff_getElem?.1 aC
  have e:(bt n A').getD t .undef=a:=by rw[List.getD_eq_getElem?_getD,bj];rfl
  rw[oq ku] at e
  rw[←e]
  exact KW ai t
theorem uB [b6] {n:Nat} {A A':List (Nat×AV)} {L:List (Nat×List AV)} {H:List Blk} (c3:dE n A=true) (ku:dE n A'=true) (jN:la A A'=A'):Weak ⟨bt n A,L,H⟩ ⟨bt n A',L,H⟩:=
 Weak.gO (T':=bt n A') (by rw[qd,qd]) fun t=>by rw[oq c3,oq ku,←jN];exact DH A' t
theorem PY {n:Nat} {A:List (Nat×AV)} {o:Operand} {b:Bool} {L:List (Nat×List AV)} {H:List Blk} (ap:dE n A=true) (h:ns A o= .bool b):bR (St.mk (bt n A) L H).T o= .bool b:=by
 show bR (bt n A) o=_
 rw[za ap,h]
def pt (P:Program) (A:List (Nat×AV)) (L:List (Nat×List AV)) (H:List Blk):List ResultVar→(List AV→Prop)→Prop
 | [],K=>K []
 | .tmp t::rs,K=>pt P A L H rs fun l=>K (e4 A t::l)
 | .cell a t::rs,K=>mr P t (e4 A a) L H fun x=>pt P A L H rs fun l=>K (x::l)
theorem Ej {P:Program} {n:Nat} {A:List (Nat×AV)} {L:List (Nat×List AV)} {H:List Blk} (ap:dE n A=true): ∀(rs:List ResultVar) (K:List AV→Prop),qq P ⟨bt n A,L,H⟩ rs K=pt P A L H rs K
 | [],K=>rfl
 | .tmp t::rs,K=>by
  show qq P ⟨bt n A,L,H⟩ rs (fun l=>K ((bt n A).getD t .undef::l))=pt P A L H rs fun l=>K (e4 A t::l)
  rw[oq ap];exact Ej ap rs _
 | .cell a t::rs,K=>by
  show mr P t ((bt n A).getD a .undef) L H _=mr P t (e4 A a) L H _
  rw[oq ap]
  congr 1
  funext x
  exact Ej ap rs _
theorem Em {P:Program} {fn:Func} {n:Nat} {A:List (Nat×AV)} {L:List (Nat×List AV)} {H:List Blk} {r:AV} {Q:AV→List Blk→Prop} (ap:dE n A=true) (l:List AV) (e: ∀K,pt P A L H fn.results.toList K=K l) (aq:l.all iv=true) (hw:qE l=r) (h:Q r H):qQ P fn Q .ret ⟨bt n A,L,H⟩:=by
 show ub P fn ⟨bt n A,L,H⟩ Q
 unfold ub
 rw[Ej ap,e]
 exact⟨aq,by rw[hw];exact h⟩
theorem Qx {P:Program} {fn:Func} {n:Nat} {A:List (Nat×AV)} {L:List (Nat×List AV)} {H:List Blk} {r:AV} {Q:AV→List Blk→Prop} (ap:dE n A=true) (l:List AV) (e: ∀K,pt P A L H fn.results.toList K=K l) (aq:l.all iv=true) (hw:qE l=r) (h:Q r H):qQ P fn Q .normal ⟨bt n A,L,H⟩:=
 Em (fn:=fn) ap l e aq hw h
theorem G5 {P:Program} {esc:List Nat} {ops:Array Oper} {n:Nat} {K:List (Nat×AV)→List (Nat×List AV)→List Blk→Prop}: ∀(rJ kC:List Oper) (A:List (Nat×AV)) (L:List (Nat×List AV)) (H:List Blk),
  evS P esc ops n (rJ++kC) A L H K=evS P esc ops n rJ A L H fun A L H=>evS P esc ops n kC A L H K
 | [],kC,A,L,H=>rfl
 | o::r,kC,A,L,H=>by
  show evS P esc ops n (o::(r++kC)) A L H K=_
  simp only[evS,G5 r kC]
theorem ij {P:Program} {esc:List Nat} {ops:Array Oper} {n:Nat} {K:List (Nat×AV)→List (Nat×List AV)→List Blk→Prop} {A:List (Nat×AV)} {L:List (Nat×List AV)} {H:List Blk} (X:List Oper) (i k:Nat):
  evS P esc ops n (X.drop i) A L H K=evS P esc ops n ((X.drop i).take k) A L H fun A L H=>evS P esc ops n (X.drop (i+k)) A L H K:=by
 rw[←G5,←List.drop_drop,List.take_append_drop]
theorem G3 {P:Program} {esc:List Nat} {ops:Array Oper} {n:Nat} {K:List (Nat×AV)→List (Nat×List AV)→List Blk→Prop}: ∀(rJ kC:List Item) (A:List (Nat×AV)) (L:List (Nat×List AV)) (H:List Blk),
  evSD P esc ops n (rJ++kC) A L H K=evSD P esc ops n rJ A L H fun A L H=>evSD P esc ops n kC A L H K
 | [],kC,A,L,H=>rfl
 | o::r,kC,A,L,H=>by
  show evSD P esc ops n (o::(r++kC)) A L H K=_
  simp only[evSD,G3 r kC]
theorem k0 {P:Program} {esc:List Nat} {ops:Array Oper} {n:Nat} {K:List (Nat×AV)→List (Nat×List AV)→List Blk→Prop} {A:List (Nat×AV)} {L:List (Nat×List AV)} {H:List Blk} (X:List Item) (i k:Nat):
  evSD P esc ops n (X.drop i) A L H K=evSD P esc ops n ((X.drop i).take k) A L H fun A L H=>evSD P esc ops n (X.drop (i+k)) A L H K:=by
 rw[←G3,←List.drop_drop,List.take_append_drop]
theorem map_set {α β:Type} (f:α→β) (xs:List α) (i:Nat) (x:α):(List.map f xs).set i (f x)=List.map f (xs.set i x):=by
 rw[List.map_set]
theorem zZ {H:List Blk} {α:Type} {eT eF:α→List AV} {b g sz n:Nat} {full:Bool} {xs ys:List α} (ap:n=xs.length) (hb:H[b]?=some ⟨g,sz,List.map eT xs⟩) (hc: ∀x,iX H (eT x) (eF x)) (h:xs.length≤4611686018427387904∧xs=ys):
  fm H (.ref b g 0 n full) (.aR (List.map eF ys) false true):=ap▸NL hb hc h
theorem sa {L:List (Nat×List AV)} {H:List Blk} {α:Type} {eT eF:α→List AV} {b g sz n:Nat} {full:Bool} {xs:List α} (aM:n=xs.length) (hb:H[b]?=some ⟨g,sz,List.map eT xs⟩) (hc: ∀x,l9 L H (eT x) (eF x)) (ap:xs.length≤4611686018427387904):
  eW L H (.ref b g 0 n full) (.aR (List.map eF xs) false false):=aM▸Mw hb hc ap
theorem Ep {α:Type} {enc:α→List AV} {k:Nat} (h: ∀x,(enc x).length=k∧(enc x).all hX=true) (ys:List α):qu k (List.map enc ys):=fun row aq=>by
 obtain⟨x,_,rfl⟩:=List.mem_map.1 aq
 exact⟨(h x).1,fun a aC=>List.all_eq_true.1 (h x).2 a aC⟩
theorem y4 {α:Type} {c:Bool} {x y:List α} {n:Nat} (hx:x.length=n) (bd:y.length=n):(bif c then x else y).length=n:=by cases c<;>assumption
def mc:List (Nat×AV)→List (Nat×AV)→List (Nat×AV)
 | [],R=>R
 | p::N,R=>p::mc N R
def GM:List (Nat×AV)→List (Nat×AV)→List (Nat×AV)
 | [],A=>A
 | p::N,A=>jM (GM N A) p.1
def fs (N A:List (Nat×AV)):List (Nat×AV):=mc N (GM N A)
def c1 (d:Option Nat) (v:AV) (N A:List (Nat×AV)):List (Nat×AV):=match d with
 | some d=>fs ((d,v)::N) A
 | none=>fs N A
def sd:List (Nat×AV)→Nat→AV→List (Nat×AV)
 | [],_,_=>[]
 | (k,u)::r,t,v=>match Nat.beq k t with
  | true=>(k,v)::r
  | false=>(k,u)::sd r t v
abbrev au (n:Int):AV:= .int .i64 n
abbrev ay (b:Bool):AV:= .bool b
abbrev bq {α:Type} (e:α→List AV) (x:List α):AV:= .aR (List.map e x) false false
abbrev bm:AV:= .aR [] true true
abbrev lq {α:Type} (e:α→List AV) (x:List α):AV:= .aR (List.map e x) false true
abbrev aA (b g n:Nat):AV:= .ref b g 0 n false
abbrev aZ (t c:Nat):AV:= .et t c
abbrev t0:AV:= .tup []
def fR (l:List Nat):List (Nat×AV):=l.map fun i=>(i,.tup [])
def Lg:Bool→List Nat→Bool×List Nat
 | b,0::m=>Lg (!b) m
 | b,m=>(b,m)
def ji {α:Type} (b:Bool) (m:List Nat):List α→List α
 | []=>[]
 | x::l=>match Lg b m with
  | (true,(n+1)::m)=>x::ji true (n::m) l
  | (false,(n+1)::m)=>ji false (n::m) l
  | _=>[]
theorem wS {α:Type} {n:Nat} {m:List Nat} {x:α} {l:List α}:ji true ((n+1)::m) (x::l)=x::ji true (n::m) l:=rfl
theorem wR {α:Type} {n:Nat} {m:List Nat} {x:α} {l:List α}:ji false ((n+1)::m) (x::l)=ji false (n::m) l:=rfl
theorem wT {α:Type} {m:List Nat} {l:List α}:ji true (0::m) l=ji false m l:=by cases l<;>rfl
theorem self {α:Type} {m:List Nat} {l:List α}:ji false (0::m) l=ji true m l:=by cases l<;>rfl
theorem wQ {α:Type} {b:Bool} {l:List α}:ji b [] l=[]:=by cases b<;>cases l<;>rfl
def hd (j:Nat) (r:List (List AV)):List Blk→List Blk
 | []=>[]
 | b::H=>match j with
  | 0=>⟨b.bc,b.sz,r⟩::H
  | j+1=>b::hd j r H
def hr (i j:Nat) (a:AV):List (Nat×List AV)→List (Nat×List AV)
 | []=>[]
 | x::L=>match i with
  | 0=>(x.1,x.2.set j a)::L
  | i+1=>x::hr i j a L
def er (i:Nat) (a:List AV):List (Nat×List AV)→List (Nat×List AV)
 | []=>[]
 | x::L=>match i with
  | 0=>(x.1,a)::L
  | i+1=>x::er i a L
def dW (i:Nat) (b:Blk):List Blk→List Blk
 | []=>[]
 | x::H=>match i with
  | 0=>b::H
  | i+1=>x::dW i b H
section
variable {i j k:Nat} {a:AV} {c l:List AV} {L:List (Nat×List AV)} {x:Nat×List AV} {b y:Blk} {H:List Blk}
theorem GP:hr 0 j a ((k,c)::L)=(k,c.set j a)::L:=rfl
theorem GQ:hr (i+1) j a (x::L)=x::hr i j a L:=rfl
theorem GZ:er 0 l ((k,c)::L)=(k,l)::L:=rfl
theorem G0:er (i+1) l (x::L)=x::er i l L:=rfl
theorem Gf:dW 0 b (y::H)=b::H:=rfl
theorem Gg:dW (i+1) b (y::H)=y::dW i b H:=rfl
end
abbrev al (i:Nat):Item:=⟨i,true,true,[]⟩
abbrev rg (a b:Nat):List Nat:=List.range' a (b - a)
def sE [b6] {V:Type} (S:V→St) (pD:V→Prop) (Q:Exit→St→Prop) (ex:Exit) (s:St):Prop:=match ex with
 | .normal=> ∃v,pD v∧Weak s (S v)
 | ex=>Q ex s
theorem sE.normal [b6] {V:Type} {S:V→St} {pD:V→Prop} {Q:Exit→St→Prop} {s:St} (v:V) (h:pD v) (hw:Weak s (S v)):sE S pD Q .normal s:=⟨v,h,hw⟩
theorem sE.ret [b6] {V:Type} {S:V→St} {pD:V→Prop} {Q:Exit→St→Prop} {s:St} (h:Q .ret s):sE S pD Q .ret s:=h
theorem sE.exit [b6] {V:Type} {S:V→St} {pD:V→Prop} {Q:Exit→St→Prop} {s:St} {id:Nat} (h:Q (.exit id) s):sE S pD Q (.exit id) s:=h
section
variable {P:Program} {b:Code} {k n:Nat} {Q:Exit→St→Prop} {av:St} {A A':List (Nat×AV)} {L L':List (Nat×List AV)} {H H':List Blk}
theorem j5 [b6] (S:St) (ψ:Prop) (h:WpS P (bE b (2*k)) (cR S ψ Q) av) (af:ψ→WpS P (bE b (2*k+1)) Q S) (e:bE b k= .seq (bE b (2*k)) (bE b (2*k+1)):=by kernel_rfl):WpS P (bE b k) Q av:=WpS.uj S e h af
theorem dH [b6] (N:List (Nat×AV)) (m:List Nat) (ψ:Prop) (h:WpS P (bE b (2*k)) (cR ⟨bt n A',L,H⟩ ψ Q) ⟨bt n A,L,H⟩) (af:ψ→WpS P (bE b (2*k+1)) Q ⟨bt n A',L,H⟩) (c3:mc N (ji true m A)=A':=by simp only[mc,wS,wR,wT,self,wQ];rfl) (e:bE b k= .seq (bE b (2*k)) (bE b (2*k+1)):=by kernel_rfl):WpS P (bE b k) Q ⟨bt n A,L,H⟩:=WpS.uj _ e h af
theorem g_ [b6] (N:List (Nat×AV)) (m:List Nat) (BM:List (Nat×List AV)→List (Nat×List AV)) (BL:List Blk→List Blk) (ψ:Prop) (h:WpS P (bE b (2*k)) (cR ⟨bt n A',L',H'⟩ ψ Q) ⟨bt n A,L,H⟩) (af:ψ→WpS P (bE b (2*k+1)) Q ⟨bt n A',L',H'⟩) (bH:BM L=L':=by first | (simp only[id,GP,GQ,GZ,G0,List.set_cons_zero,List.set_cons_succ];rfl) | (dsimp only;rfl) | rfl) (ax:BL H=H':=by first | (simp only[id,Gf,Gg,List.cons_append,List.nil_append];rfl) | (dsimp only;rfl) | rfl) (c3:mc N (ji true m A)=A':=by simp only[mc,wS,wR,wT,self,wQ];rfl) (e:bE b k= .seq (bE b (2*k)) (bE b (2*k+1)):=by kernel_rfl):WpS P (bE b k) Q ⟨bt n A,L,H⟩:=WpS.uj _ e h af
theorem jc [b6] (h:WpS P (bE b (2*k)) (dR P (bE b (2*k+1)) Q) av) (e:bE b k= .seq (bE b (2*k)) (bE b (2*k+1)):=by kernel_rfl):WpS P (bE b k) Q av:=WpS.seq' e h
theorem pJ [b6] (o:Operand) (z:Bool) (h1:z=true→WpS P (bE b (2*k)) Q ⟨bt n A,L,H⟩) (h2:z=false→WpS P (bE b (2*k+1)) Q ⟨bt n A,L,H⟩) (e:bE b k= .cond o (bE b (2*k)) (bE b (2*k+1)):=by kernel_rfl)
  (ap:dE n A=true:=by kernel_rfl) (aD:ns A o= .bool z:=by kernel_rfl):WpS P (bE b k) Q ⟨bt n A,L,H⟩:=WpS.PX e (PY ap aD) h1 h2
theorem hY [b6] (id:Nat) (h:WpS P (bE b (2*k)) (dG id Q) av) (e:bE b k= .block id (bE b (2*k)):=by kernel_rfl):WpS P (bE b k) Q av:=WpS.Pf e h
theorem fy [b6] (h:Q .normal av) (e:bE b k= .skip:=by kernel_rfl):WpS P (bE b k) Q av:=WpS.Y0 e h
theorem iK [b6] (h:Q .ret av) (e:bE b k= .ret:=by kernel_rfl):WpS P (bE b k) Q av:=WpS.Yy e h
theorem kY [b6] (id:Nat) (h:Q (.exit id) av) (e:bE b k= .exit id:=by kernel_rfl):WpS P (bE b k) Q av:=WpS.QD e h
theorem mU [b6] {V:Type} (S:V→St) (I:V→Prop) (m:V→Nat) (v0:V) (hs:Weak av (S v0)) (aM:I v0) (round: ∀v,I v→WpS P (bE b (2*k)) (eE S I m v Q) (S v)) (e:bE b k= .loop (bE b (2*k)):=by kernel_rfl):WpS P (bE b k) Q av:=
 WpS.KV S I m e v0 hs aM round
theorem ca [b6] (esc:List Nat) (id:Nat) (h:evS P esc (iV b k) n ((iV b k).toList.drop 0) A L H (fun A L H=>Q .normal ⟨bt n A,L,H⟩)) (e:bE b k= .region id (iV b k) false:=by kernel_rfl) (ap:dE n A=true:=by kernel_rfl):WpS P (bE b k) Q ⟨bt n A,L,H⟩:=
 WpS.zH (esc:=esc) e ap h
theorem qs [b6] (esc:List Nat) (id:Nat) (ord:List Item) (ic:List (List Nat)) (gR:List (Nat×List AV)) (h:evSD P esc (iV b k) n (ord.drop 0) A (gR++L) H (fun A L H=>Q .normal ⟨bt n A,L,H⟩)) (hm:P.follows .mixedOrders=true:=by kernel_rfl) (aE:ic.length=(iV b k).size:=by kernel_rfl)
  (aY:sU (iV b k) ord (uV ic)=true:=by kernel_rfl) (Cy:ord.all (·.lit)=true:=by kernel_rfl) (e:bE b k= .region id (iV b k) true:=by kernel_rfl) (ap:dE n A=true:=by kernel_rfl) (hf:q7 gR L=true:=by kernel_rfl) (aJ:qU (iV b k) L ord=true:=by kernel_rfl):WpS P (bE b k) Q ⟨bt n A,L,H⟩:=
 WpS.Yv (esc:=esc) ord ic hm aE aY Cy e ap gR hf aJ h
theorem hZ [b6] (esc:List Nat) (id:Nat) (kV:List (Nat×AV)) (wb m:List Nat) (af:WpS P (bE b (2*k+1)) Q ⟨bt n A',L,H⟩) (c3:mc (ji true wb kV) (ji true m A)=A':=by simp only[mc,wS,wR,wT,self,wQ];rfl) (e:bE b k= .seq (bE b (2*k)) (bE b (2*k+1)):=by kernel_rfl)
  (e2:bE b (2*k)= .region id (iV b (2*k)) false:=by kernel_rfl) (ap:dE n A=true:=by kernel_rfl) (c0: ∀K,evS P esc (iV b (2*k)) n ((iV b (2*k)).toList.drop 0) A L H K=K (fs kV A) L H:=by intro K;kernel_rfl) (jN:la (fs kV A) A'=A':=by kernel_rfl)
  (h1:dE n (fs kV A)=true:=by kernel_rfl) (h2:dE n A'=true:=by kernel_rfl):WpS P (bE b k) Q ⟨bt n A,L,H⟩:=
 WpS.uj ⟨bt n A',L,H⟩ (ψ:=True) e (WpS.zH (esc:=esc) e2 ap (by rw[c0];exact⟨trivial,uB h1 h2 jN⟩)) fun _=>af
theorem sR [b6] (esc:List Nat) (id:Nat) (kV:List (Nat×AV)) (wb m:List Nat) (L':List (Nat×List AV)) (H':List Blk) (af:WpS P (bE b (2*k+1)) Q ⟨bt n A',L',H'⟩) (c3:mc (ji true wb kV) (ji true m A)=A':=by simp only[mc,wS,wR,wT,self,wQ];rfl) (e:bE b k= .seq (bE b (2*k)) (bE b (2*k+1)):=by kernel_rfl)
  (e2:bE b (2*k)= .region id (iV b (2*k)) false:=by kernel_rfl) (ap:dE n A=true:=by kernel_rfl) (c0: ∀K,evS P esc (iV b (2*k)) n ((iV b (2*k)).toList.drop 0) A L H K=K (fs kV A) L' H':=by intro K;kernel_rfl) (jN:la (fs kV A) A'=A':=by kernel_rfl)
  (h1:dE n (fs kV A)=true:=by kernel_rfl) (h2:dE n A'=true:=by kernel_rfl):WpS P (bE b k) Q ⟨bt n A,L,H⟩:=
 WpS.uj ⟨bt n A',L',H'⟩ (ψ:=True) e (WpS.zH (esc:=esc) e2 ap (by rw[c0];exact⟨trivial,uB h1 h2 jN⟩)) fun _=>af
theorem xO [b6] (esc:List Nat) (id:Nat) (kV:List (Nat×AV)) (wb m:List Nat) (BM:List (Nat×List AV)→List (Nat×List AV)) (BL:List Blk→List Blk) (af:WpS P (bE b (2*k+1)) Q ⟨bt n A',L',H'⟩) (bH:BM L=L':=by first | (simp only[id,GP,GQ,GZ,G0,List.set_cons_zero,List.set_cons_succ];rfl) | (dsimp only;rfl) | rfl) (ax:BL H=H':=by first | (simp only[id,Gf,Gg,List.cons_append,List.nil_append];rfl) | (dsimp only;rfl) | rfl) (c3:mc (ji true wb kV) (ji true m A)=A':=by simp only[mc,wS,wR,wT,self,wQ];rfl) (e:bE b k= .seq (bE b (2*k)) (bE b (2*k+1)):=by kernel_rfl)
  (e2:bE b (2*k)= .region id (iV b (2*k)) false:=by kernel_rfl) (ap:dE n A=true:=by kernel_rfl) (c0: ∀K,evS P esc (iV b (2*k)) n ((iV b (2*k)).toList.drop 0) A L H K=K (fs kV A) L' H':=by intro K;kernel_rfl) (jN:la (fs kV A) A'=A':=by kernel_rfl)
  (h1:dE n (fs kV A)=true:=by kernel_rfl) (h2:dE n A'=true:=by kernel_rfl):WpS P (bE b k) Q ⟨bt n A,L,H⟩:=
 WpS.uj ⟨bt n A',L',H'⟩ (ψ:=True) e (WpS.zH (esc:=esc) e2 ap (by rw[c0];exact⟨trivial,uB h1 h2 jN⟩)) fun _=>af
theorem gG [b6] {t:Nat} {z:Bool} (h1:z=true→WpS P (bE b (2*k)) Q ⟨bt n ((t,.bool z)::A),L,H⟩) (h2:z=false→WpS P (bE b (2*k+1)) Q ⟨bt n ((t,.bool z)::A),L,H⟩) (e:bE b k= .cond (.tmp t) (bE b (2*k)) (bE b (2*k+1)):=by kernel_rfl)
  (ap:dE n ((t,.bool z)::A)=true:=by kernel_rfl):WpS P (bE b k) Q ⟨bt n ((t,.bool z)::A),L,H⟩:=pJ (.tmp t) z h1 h2 e ap (by show e4 ((t,.bool z)::A) t=_;unfold e4;rw[show Nat.beq t t=true from Nat.beq_refl t])
theorem dc.go {f:FuncId} {fn:Func} {args:List AV} {H:List Blk} {R:AV→List Blk→Prop} (A:List (Nat×AV)) (hf:P.funcs[f]?=some fn) (h: ∀hp:b6,hp.n=H.length→WpS P (bE (jJ fn) 1) (qQ P fn R) ⟨bt fn.ntmps A,[],H⟩) (hb:fn.body=some (bE (jJ fn) 1):=by kernel_rfl) (ap:(fn.name== "runtime.NumGoroutine")=false:=by kernel_rfl)
  (hi:yY fn args H=⟨bt fn.ntmps A,[],H⟩:=by kernel_rfl):dc P f args H R:=dc.Lm hf hb ap fun hp fo=>hi▸h hp fo
theorem r_ {fn:Func} {R:AV→List Blk→Prop} (r:AV) (h:R r H) (ap:dE n A=true:=by kernel_rfl) (e: ∀K,pt P A L H fn.results.toList K=K [r]:=by intro K;kernel_rfl) (aq:[r].all iv=true:=by kernel_rfl):qQ P fn R .ret ⟨bt n A,L,H⟩:=Em ap [r] e aq rfl h
theorem fv [b6] (jN:la A A'=A':=by kernel_rfl) (c3:dE n A=true:=by kernel_rfl) (ku:dE n A'=true:=by kernel_rfl):Weak ⟨bt n A,L,H⟩ ⟨bt n A',L,H⟩:=uB c3 ku jN
theorem gQ [b6] (ci:List Nat) (c3:dE n A=true:=by kernel_rfl) (ku:dE n A'=true:=by kernel_rfl) (ai:v_ ci A'=true:=by kernel_rfl) (jN:la A A'=A':=by kernel_rfl) (e1:lx ci L=L':=by kernel_rfl):Weak ⟨bt n A,L,H⟩ ⟨bt n A',L',H⟩:=aa_ ci c3 ku ai jN e1
theorem l1 {fn:Func} {R:AV→List Blk→Prop} (r:AV) (l:List AV) (h:R r H) (ap:dE n A=true:=by kernel_rfl) (e: ∀K,pt P A L H fn.results.toList K=K l:=by intro K;kernel_rfl) (aq:l.all iv=true:=by kernel_rfl) (hw:qE l=r:=by kernel_rfl):qQ P fn R .ret ⟨bt n A,L,H⟩:=Em ap l e aq hw h
theorem BB {fn:Func} {R:AV→List Blk→Prop} (r:AV) (l:List AV) (h:R r H) (ap:dE n A=true:=by kernel_rfl) (e: ∀K,pt P A L H fn.results.toList K=K l:=by intro K;kernel_rfl) (aq:l.all iv=true:=by kernel_rfl) (hw:qE l=r:=by kernel_rfl):qQ P fn R .normal ⟨bt n A,L,H⟩:=Qx ap l e aq hw h
end
section
variable {P:Program} {esc:List Nat} {ops:Array Oper} {n:Nat} {X:List Oper} {i0:Nat} {A:List (Nat×AV)} {L:List (Nat×List AV)} {H:List Blk} {K:List (Nat×AV)→List (Nat×List AV)→List Blk→Prop}
theorem cQ [b6] {A':List (Nat×AV)} {L':List (Nat×List AV)} {H':List Blk} {ψ:Prop} {Q:Exit→St→Prop} (N:List (Nat×AV)) (ai:ψ) (jN:la (fs N A) A'=A':=by kernel_rfl) (e: ∀K,evS P esc ops n (X.drop i0) A L H K=K (fs N A) L' H':=by intro K;kernel_rfl)
  (c3:dE n (fs N A)=true:=by kernel_rfl) (ku:dE n A'=true:=by kernel_rfl):evS P esc ops n (X.drop i0) A L H (fun A L H=>cR ⟨bt n A',L',H'⟩ ψ Q .normal ⟨bt n A,L,H⟩):=by
 rw[e];exact⟨ai,uB c3 ku jN⟩
theorem oB (a8 t:Nat) (b:Bool) (N:List (Nat×AV)) (h1:b=true→evS P esc ops n (X.drop (i0+a8)) (sd (fs ((t,.bool b)::N) A) t (.bool true)) L H K) (h2:b=false→evS P esc ops n (X.drop (i0+a8)) (sd (fs ((t,.bool b)::N) A) t (.bool false)) L H K)
  (e: ∀K,evS P esc ops n ((X.drop i0).take a8) A L H K=K (sd (fs ((t,.bool b)::N) A) t (.bool b)) L H:=by intro K;kernel_rfl):evS P esc ops n (X.drop i0) A L H K:=by
 rw[ij X i0 a8,e]
 cases b with
 | true=>exact h1 rfl
 | false=>exact h2 rfl
theorem fQ (N:List (Nat×AV)) (h:K (fs N A) L H) (e: ∀K,evS P esc ops n (X.drop i0) A L H K=K (fs N A) L H:=by intro K;kernel_rfl):evS P esc ops n (X.drop i0) A L H K:=by
 rw[e];exact h
theorem Mv (N:List (Nat×AV)) (L':List (Nat×List AV)) (H':List Blk) (h:K (fs N A) L' H') (e: ∀K,evS P esc ops n (X.drop i0) A L H K=K (fs N A) L' H':=by intro K;kernel_rfl):evS P esc ops n (X.drop i0) A L H K:=by
 rw[e];exact h
theorem Ew (a8:Nat) (N:List (Nat×AV)) (L':List (Nat×List AV)) (H':List Blk) (h:evS P esc ops n (X.drop (i0+a8)) (fs N A) L' H' K) (e: ∀K,evS P esc ops n ((X.drop i0).take a8) A L H K=K (fs N A) L' H':=by intro K;kernel_rfl):evS P esc ops n (X.drop i0) A L H K:=by
 rw[ij X i0 a8,e];exact h
theorem zO (a8:Nat) (d:Option Nat) (v:AV) (N:List (Nat×AV)) {φ:Prop} (h1:φ) (h:evS P esc ops n (X.drop (i0+a8)) (c1 d v N A) L H K) (e: ∀K,evS P esc ops n ((X.drop i0).take a8) A L H K=(φ∧K (c1 d v N A) L H):=by intro K;kernel_rfl):evS P esc ops n (X.drop i0) A L H K:=by
 rw[ij X i0 a8,e];exact⟨h1,h⟩
theorem nC (a8:Nat) (d:Option Nat) (N:List (Nat×AV)) {α:Type} [Inhabited α] (enc:α→List AV) (xs:List α) {i:Int} (m:Nat)
  (aM:0≤i∧i.toNat<xs.length) (h:evS P esc ops n (X.drop (i0+a8)) (c1 d (.cM (enc (nth xs i)) 0) N A) L H K) (ap: ∀x,(enc x).length=m:=by exact fun _=>rfl)
  (e: ∀K,evS P esc ops n ((X.drop i0).take a8) A L H K=(0≤i∧cn (List.map enc xs)[i.toNat]? fun row=>row.length=m∧K (c1 d (.cM row 0) N A) L H):=by intro K;kernel_rfl):evS P esc ops n (X.drop i0) A L H K:=by
 rw[ij X i0 a8,e]
 refine⟨aM.1,dk (a:=enc (nth xs i)) ?_ ⟨ap _,h⟩⟩
 rw[List.getElem?_map,fY aM.2];rfl
theorem Eu (a8:Nat) (d:Option Nat) (N:List (Nat×AV)) (b g z:Nat) {i:Int} {m:Nat} (aM:0≤i∧i.toNat<m) (h:evS P esc ops n (X.drop (i0+a8)) (c1 d (.ptr b g (0+i.toNat) 0) N A) L H K)
  (e: ∀K,evS P esc ops n ((X.drop i0).take a8) A L H K=(g=g∧z=z∧0≤i∧i<m∧K (c1 d (.ptr b g (0+i.toNat) 0) N A) L H):=by intro K;kernel_rfl):evS P esc ops n (X.drop i0) A L H K:=by
 rw[ij X i0 a8,e];exact⟨rfl,rfl,aM.1,by have:=aM.2;omega,h⟩
theorem YL (a8:Nat) (d:Option Nat) (N:List (Nat×AV)) {α:Type} [Inhabited α] (enc:α→List AV) (xs:List α) (i:Int) (t:TypeId) (c g:Nat) (v:AV) (aq:i.toNat<xs.length) (h:evS P esc ops n (X.drop (i0+a8)) (c1 d v N A) L H K)
  (e2: ∀K,hE P t (enc (nth xs i)) c K=K v:=by intro K;kernel_rfl)
  (e: ∀K,evS P esc ops n ((X.drop i0).take a8) A L H K=(g=g∧cn (List.map enc xs)[0+i.toNat]? fun row=>hE P t row c fun v=>K (c1 d v N A) L H):=by intro K;kernel_rfl):evS P esc ops n (X.drop i0) A L H K:=by
 rw[ij X i0 a8,e]
 refine⟨rfl,dk (a:=enc (nth xs i)) ?_ (by rw[e2];exact h)⟩
 rw[Nat.zero_add,List.getElem?_map,fY aq];rfl
theorem ug (a8:Nat) (d:Option Nat) (N:List (Nat×AV)) {g:FuncId} (args:List AV) {dg:List AV} {t:AV}
  (hf:a_ P g dg t) (hs:aK (dP L H) args dg) (h:evS P esc ops n (X.drop (i0+a8)) (c1 d t N A) L H K) (ap:args.all dL=true:=by kernel_rfl) (e: ∀K,evS P esc ops n ((X.drop i0).take a8) A L H K=jq P g args L H (fun v L' H'=>K (c1 d v N A) L' H'):=by intro K;kernel_rfl):evS P esc ops n (X.drop i0) A L H K:=by
 rw[ij X i0 a8,e];exact .inl ⟨ap,dg,t,hs,hf,h⟩
theorem YM (a8:Nat) (d:Option Nat) (N:List (Nat×AV)) {α:Type} (enc:α→List AV) {i:Int} (B:Int) (z:List AV) (b:Nat) (H':List (List AV)→List Blk) (bC:α) (aM:0≤i∧B*i≤140737488355328∧i≤4611686018427387904)
  (h:evS P esc ops n (X.drop (i0+a8)) (c1 d (.ref b 0 0 (List.replicate i.toNat bC).length false) N A) L (H' (List.map enc (List.replicate i.toNat bC))) K) (aJ:z=enc bC:=by rfl)
  (e: ∀K,evS P esc ops n ((X.drop i0).take a8) A L H K=(0≤i∧i≤i∧B*i≤140737488355328∧i≤4611686018427387904∧K (c1 d (.ref b 0 0 i.toNat false) N A) L (H' (List.replicate i.toNat z))):=by intro K;kernel_rfl):evS P esc ops n (X.drop i0) A L H K:=by
 rw[ij X i0 a8,e]
 refine⟨aM.1,Int.le_refl _,aM.2.1,aM.2.2,?_⟩
 ·rw[aJ,←List.map_replicate];rw[List.length_replicate] at h;exact h
theorem qv (a8:Nat) (d:Option Nat) (N:List (Nat×AV)) {α:Type} (enc:α→List AV) (ys:List α) (bW:List (List AV)) (b s B:Nat) (H':List (List AV)→List Blk) (hx:bW=List.map enc ys) (aM:ys.length*B≤140737488355328∧ys.length≤4611686018427387904)
  (h:evS P esc ops n (X.drop (i0+a8)) (c1 d (.ref b 0 0 ys.length false) N A) L (H' (List.map enc ys)) K) (hk: ∀x,(enc x).length=s∧(enc x).all hX=true:=by exact fun _=>⟨rfl,rfl⟩)
  (e: ∀K,evS P esc ops n ((X.drop i0).take a8) A L H K=(true=true∧true=true∧qu s bW∧true=true∧(∀row∈([]:List (List AV)),row.length=s)∧(List.length (α:=List AV) []+bW.length)*B≤140737488355328∧List.length (α:=List AV) []+bW.length≤4611686018427387904∧(([]:List (List AV))≠[]→bW≠[])∧
   K (c1 d (.ref b 0 0 (List.length (α:=List AV) []+bW.length) false) N A) L (H' ([]++bW))):=by intro K;kernel_rfl):evS P esc ops n (X.drop i0) A L H K:=by
 rw[ij X i0 a8,e]
 subst hx
 refine⟨rfl,rfl,Ep hk ys,rfl,(fun row h=>by cases h),by simpa using aM.1,by simpa using aM.2,(fun h=>absurd rfl h),?_⟩
 ·simpa using h
theorem zP (a8:Nat) (d:Option Nat) (N:List (Nat×AV)) {g:FuncId} (args:List AV) {dg:List AV} {e6:AV} {cH:List Blk} (r:AV) (kr:List Blk)
  (hf:dc P g dg [] fun r H'=>r=e6∧H'=cH) (hs:aK (dP L H) args dg) (vG:ql cH=true) (Bw:H++cH.map (jk H.length)=kr)
  (h:evS P esc ops n (X.drop (i0+a8)) (c1 d r N A) L kr K) (ap:args.all dL=true:=by kernel_rfl) (aD:tO e6=true:=by kernel_rfl) (er:nD H.length e6=r:=by kernel_rfl) (e: ∀K,evS P esc ops n ((X.drop i0).take a8) A L H K=jq P g args L H (fun v L' H'=>K (c1 d v N A) L' H'):=by intro K;kernel_rfl):evS P esc ops n (X.drop i0) A L H K:=by
 rw[ij X i0 a8,e]
 subst er;subst Bw
 exact .inr (.inl ⟨ap,dg,hs,hf.mono fun c9 H1 ⟨h1,h2⟩=>by subst h1;subst h2;exact⟨aD,vG,h⟩⟩)
theorem sLen (a8:Nat) (d:Option Nat) (N:List (Nat×AV)) {α:Type} (enc:α→List AV) (xs:List α) (h:xs.length≤4611686018427387904→evS P esc ops n (X.drop (i0+a8)) (c1 d (.int .i64 (xs.length:Nat)) N A) L H K)
  (e: ∀K,evS P esc ops n ((X.drop i0).take a8) A L H K=((List.map enc xs).length≤4611686018427387904→K (c1 d (.int .i64 ((List.map enc xs).length:Nat)) N A) L H):=by intro K;kernel_rfl):evS P esc ops n (X.drop i0) A L H K:=by
 rw[ij X i0 a8,e,List.length_map];exact h
theorem Ex (a8:Nat) (d:Option Nat) (N:List (Nat×AV)) {α:Type} (enc:α→List AV) (xs:List α) (h1:xs≠[]→evS P esc ops n (X.drop (i0+a8)) (c1 d (.bool false) N A) L H K) (h2:xs=[]→ ∀b,evS P esc ops n (X.drop (i0+a8)) (c1 d (.bool b) N A) L H K)
  (e: ∀K,evS P esc ops n ((X.drop i0).take a8) A L H K=((List.map enc xs≠[]→K (c1 d (.bool false) N A) L H)∧(List.map enc xs=[]→ ∀b,K (c1 d (.bool b) N A) L H)):=by intro K;kernel_rfl):evS P esc ops n (X.drop i0) A L H K:=by
 rw[ij X i0 a8,e]
 exact⟨fun h=>h1 fun e=>h (by rw[e];rfl),fun h=>h2 (by simpa using h)⟩
end
section
variable {P:Program} {esc:List Nat} {ops:Array Oper} {n:Nat} {X:List Item} {i0:Nat} {A:List (Nat×AV)} {L:List (Nat×List AV)} {H:List Blk} {K:List (Nat×AV)→List (Nat×List AV)→List Blk→Prop}
theorem kj [b6] {A':List (Nat×AV)} {L':List (Nat×List AV)} {H':List Blk} {ψ:Prop} {Q:Exit→St→Prop} (N:List (Nat×AV)) (ai:ψ) (jN:la (fs N A) A'=A':=by kernel_rfl) (e: ∀K,evSD P esc ops n (X.drop i0) A L H K=K (fs N A) L' H':=by intro K;kernel_rfl)
  (c3:dE n (fs N A)=true:=by kernel_rfl) (ku:dE n A'=true:=by kernel_rfl):evSD P esc ops n (X.drop i0) A L H (fun A L H=>cR ⟨bt n A',L',H'⟩ ψ Q .normal ⟨bt n A,L,H⟩):=by
 rw[e];exact⟨ai,uB c3 ku jN⟩
theorem oE (a8 t:Nat) (b:Bool) (N:List (Nat×AV)) (h1:b=true→evSD P esc ops n (X.drop (i0+a8)) (sd (fs ((t,.bool b)::N) A) t (.bool true)) L H K) (h2:b=false→evSD P esc ops n (X.drop (i0+a8)) (sd (fs ((t,.bool b)::N) A) t (.bool false)) L H K)
  (e: ∀K,evSD P esc ops n ((X.drop i0).take a8) A L H K=K (sd (fs ((t,.bool b)::N) A) t (.bool b)) L H:=by intro K;kernel_rfl):evSD P esc ops n (X.drop i0) A L H K:=by
 rw[k0 X i0 a8,e]
 cases b with
 | true=>exact h1 rfl
 | false=>exact h2 rfl
theorem NU (N:List (Nat×AV)) (h:K (fs N A) L H) (e: ∀K,evSD P esc ops n (X.drop i0) A L H K=K (fs N A) L H:=by intro K;kernel_rfl):evSD P esc ops n (X.drop i0) A L H K:=by
 rw[e];exact h
theorem Fj (a8:Nat) (d:Option Nat) (v:AV) (N:List (Nat×AV)) {φ:Prop} (h1:φ) (h:evSD P esc ops n (X.drop (i0+a8)) (c1 d v N A) L H K) (e: ∀K,evSD P esc ops n ((X.drop i0).take a8) A L H K=(φ∧K (c1 d v N A) L H):=by intro K;kernel_rfl):evSD P esc ops n (X.drop i0) A L H K:=by
 rw[k0 X i0 a8,e];exact⟨h1,h⟩
theorem aaP (a8:Nat) (N:List (Nat×AV)) (L':List (Nat×List AV)) (H':List Blk) {φ:Prop} (h1:φ) (h:evSD P esc ops n (X.drop (i0+a8)) (fs N A) L' H' K) (e: ∀K,evSD P esc ops n ((X.drop i0).take a8) A L H K=(φ∧K (fs N A) L' H'):=by intro K;kernel_rfl):evSD P esc ops n (X.drop i0) A L H K:=by
 rw[k0 X i0 a8,e];exact⟨h1,h⟩
theorem w4 (a8:Nat) (d:Option Nat) (N:List (Nat×AV)) {α:Type} [Inhabited α] (enc:α→List AV) (xs:List α) {i:Int} (m:Nat)
  (aM:0≤i∧i.toNat<xs.length) (h:evSD P esc ops n (X.drop (i0+a8)) (c1 d (.cM (enc (nth xs i)) 0) N A) L H K) (ap: ∀x,(enc x).length=m:=by exact fun _=>rfl)
  (e: ∀K,evSD P esc ops n ((X.drop i0).take a8) A L H K=(0≤i∧cn (List.map enc xs)[i.toNat]? fun row=>row.length=m∧K (c1 d (.cM row 0) N A) L H):=by intro K;kernel_rfl):evSD P esc ops n (X.drop i0) A L H K:=by
 rw[k0 X i0 a8,e]
 refine⟨aM.1,dk (a:=enc (nth xs i)) ?_ ⟨ap _,h⟩⟩
 rw[List.getElem?_map,fY aM.2];rfl
theorem w3 (a8:Nat) (d:Option Nat) (N:List (Nat×AV)) (b g z:Nat) {i:Int} {m:Nat} (aM:0≤i∧i.toNat<m) (h:evSD P esc ops n (X.drop (i0+a8)) (c1 d (.ptr b g (0+i.toNat) 0) N A) L H K)
  (e: ∀K,evSD P esc ops n ((X.drop i0).take a8) A L H K=(g=g∧z=z∧0≤i∧i<m∧K (c1 d (.ptr b g (0+i.toNat) 0) N A) L H):=by intro K;kernel_rfl):evSD P esc ops n (X.drop i0) A L H K:=by
 rw[k0 X i0 a8,e];exact⟨rfl,rfl,aM.1,by have:=aM.2;omega,h⟩
theorem w5 (a8:Nat) (d:Option Nat) (N:List (Nat×AV)) {α:Type} [Inhabited α] (enc:α→List AV) (xs:List α) (i:Int) (t:TypeId) (c g:Nat) (v:AV) (aq:i.toNat<xs.length) (h:evSD P esc ops n (X.drop (i0+a8)) (c1 d v N A) L H K)
  (e2: ∀K,hE P t (enc (nth xs i)) c K=K v:=by intro K;kernel_rfl)
  (e: ∀K,evSD P esc ops n ((X.drop i0).take a8) A L H K=(g=g∧cn (List.map enc xs)[0+i.toNat]? fun row=>hE P t row c fun v=>K (c1 d v N A) L H):=by intro K;kernel_rfl):evSD P esc ops n (X.drop i0) A L H K:=by
 rw[k0 X i0 a8,e]
 refine⟨rfl,dk (a:=enc (nth xs i)) ?_ (by rw[e2];exact h)⟩
 rw[Nat.zero_add,List.getElem?_map,fY aq];rfl
theorem aaO (a8:Nat) (d:Option Nat) (N:List (Nat×AV)) {g:FuncId} (args:List AV) {dg:List AV} {t:AV}
  (hf:a_ P g dg t) (hs:aK (dP L H) args dg) (h:evSD P esc ops n (X.drop (i0+a8)) (c1 d t N A) L H K) (ap:args.all dL=true:=by kernel_rfl) (e: ∀K,evSD P esc ops n ((X.drop i0).take a8) A L H K=mf P g args L H (fun v=>K (c1 d v N A) L H):=by intro K;kernel_rfl):evSD P esc ops n (X.drop i0) A L H K:=by
 rw[k0 X i0 a8,e];exact⟨ap,dg,t,hs,hf,h⟩
theorem aaN (a8:Nat) (d:Option Nat) (N:List (Nat×AV)) {α:Type} (enc:α→List AV) (xs ys:List α) (bW:List (List AV)) (b g s B:Nat) (F:List (List AV)→Prop) (H':List (List AV)→List Blk) (hx:bW=List.map enc ys) (aM:(xs.length+ys.length)*B≤140737488355328∧xs.length+ys.length≤4611686018427387904)
  (dJ:F ((List.map enc (xs++ys)))) (h:evSD P esc ops n (X.drop (i0+a8)) (c1 d (.ref b (g+1) 0 (xs++ys).length false) N A) L (H' (List.map enc (xs++ys))) K) (hk: ∀x,(enc x).length=s∧(enc x).all hX=true:=by exact fun _=>⟨rfl,rfl⟩)
  (e: ∀K,evSD P esc ops n ((X.drop i0).take a8) A L H K=(true=true∧true=true∧qu s bW∧0=0∧g=g∧s=s∧(List.map enc xs).length=xs.length∧(xs.length+bW.length)*B≤140737488355328∧xs.length+bW.length≤4611686018427387904∧F ((List.map enc xs++bW))∧K (c1 d (.ref b (g+1) 0 (xs.length+bW.length) false) N A) L (H' (List.map enc xs++bW))):=by intro K;kernel_rfl):evSD P esc ops n (X.drop i0) A L H K:=by
 rw[k0 X i0 a8,e]
 subst hx
 refine⟨rfl,rfl,Ep hk ys,rfl,rfl,rfl,List.length_map ..,by rw[List.length_map];exact aM.1,by rw[List.length_map];exact aM.2,?_,?_⟩
 ·rw[←List.map_append];exact dJ
 ·rw[List.length_append] at h;rw[List.length_map,←List.map_append];exact h
theorem Fk (a8:Nat) (d:Option Nat) (N:List (Nat×AV)) {g:FuncId} (args:List AV) {dg:List AV} {e6:AV} {cH:List Blk} (F:List (Nat×List AV)→List Blk→Prop) (r:AV) (kr:List Blk)
  (hf:dc P g dg [] fun r H'=>r=e6∧H'=cH) (hs:aK (dP L H) args dg) (vG:ql cH=true) (Bw:H++cH.map (jk H.length)=kr) (dJ:F L kr)
  (h:evSD P esc ops n (X.drop (i0+a8)) (c1 d r N A) L kr K) (ap:args.all dL=true:=by kernel_rfl) (aD:tO e6=true:=by kernel_rfl) (er:nD H.length e6=r:=by kernel_rfl) (e: ∀K,evSD P esc ops n ((X.drop i0).take a8) A L H K=jq P g args L H (fun v L' H'=>F L' H'∧K (c1 d v N A) L' H'):=by intro K;kernel_rfl):evSD P esc ops n (X.drop i0) A L H K:=by
 rw[k0 X i0 a8,e]
 subst er;subst Bw
 exact .inr (.inl ⟨ap,dg,hs,hf.mono fun c9 H1 ⟨h1,h2⟩=>by subst h1;subst h2;exact⟨aD,vG,dJ,h⟩⟩)
theorem NV (a8:Nat) (d:Option Nat) (N:List (Nat×AV)) {α:Type} (enc:α→List AV) (xs:List α) (h:evSD P esc ops n (X.drop (i0+a8)) (c1 d (.int .i64 (xs.length:Nat)) N A) L H K)
  (e: ∀K,evSD P esc ops n ((X.drop i0).take a8) A L H K=K (c1 d (.int .i64 ((List.map enc xs).length:Nat)) N A) L H:=by intro K;kernel_rfl):evSD P esc ops n (X.drop i0) A L H K:=by
 rw[k0 X i0 a8,e,List.length_map];exact h
end
inductive hI (H:List Blk) (c5:Nat) (cF:Nat→Option Nat):AV→AV→Prop where
 | int (k:IntKind) (n:Int):hI H c5 cF (.int k n) (.int k n)
 | bool (b:Bool):hI H c5 cF (.bool b) (.bool b)
 | str (s:ByteArray):hI H c5 cF (.str s) (.str s)
 | eY:hI H c5 cF .eY .eY
 | fg:hI H c5 cF .fg .fg
 | aR (rows:List (List AV)) (full cW fr:Bool) (hw:cW=true→full=true):hI H c5 cF (.aR rows full fr) (.aR rows cW fr)
 | ref {b g n j:Nat} {full:Bool} {blk:Blk} (ar:j<c5) (hs:cF j=some b) (hb:H[b]?=some blk) (aL:blk.bc=g):hI H c5 cF (.ref b g 0 n full) (.ref j 0 0 n false)
 | nil {a:AV} {j:Nat} (ar:j<c5) (hs:cF j=none) (h:o_ a=true):hI H c5 cF a (.ref j 0 0 0 false)
def FR (H:List Blk) (c5:Nat) (cF:Nat→Option Nat) (a b:AV):Prop:=(∃l eB,a= .agg l∧b= .agg eB∧aK (hI H c5 cF) l eB)∨hI H c5 cF a b
structure qP (H cH:List Blk) (cF:Nat→Option Nat):Prop where
 inj: ∀i j b,i<cH.length→j<cH.length→cF i=some b→cF j=some b→i=j
 bc: ∀(j:Nat) (k:Blk),cH[j]?=some k→k.bc=0
 blk: ∀(j b:Nat) (k:Blk),cH[j]?=some k→cF j=some b→ ∃q,H[b]?=some q∧q.sz=k.sz∧aK (aK (hI H cH.length cF)) q.rows k.rows
def Env.own (E:Env) (cH:List Blk) (cF:Nat→Option Nat):Env:=
 {w:=E.w,PA:=E.PA,PF:=E.PF,mL:=fun _=>none,bc:=fun _=>0
  m:=fun j=>if j<cH.length then(match cF j with
   | some b=>E.m b
   | none=>some none) else none
  sz:=fun j=>(cH[j]?.map Blk.sz).getD 0
  cp:=fun j=>match cF j with
   | some b=>E.cp b
   | none=>0}
section
variable {E:Env} {H cH:List Blk} {cF:Nat→Option Nat}
theorem Lu {j b:Nat} (ar:j<cH.length) (hs:cF j=some b):(E.own cH cF).m j=E.m b:=by
 show(if j<cH.length then _ else _)=_
 rw[if_pos ar,hs]
theorem XD {j:Nat} (ar:j<cH.length) (hs:cF j=none):(E.own cH cF).m j=some none:=by
 show(if j<cH.length then _ else _)=_
 rw[if_pos ar,hs]
theorem tM {j:Nat} {x:Option Nat} (h:(E.own cH cF).m j=some x):j<cH.length∧((cF j=none∧x=none)∨ ∃b,cF j=some b∧E.m b=some x):=by
 have h:(if j<cH.length then(match cF j with
   | some b=>E.m b
   | none=>some none) else none)=some x:=h
 split at h
 ·rename_i ar
  refine⟨ar,?_⟩
  cases hs:cF j with
  | none=>rw[hs] at h;cases h;exact .inl ⟨rfl,rfl⟩
  | some b=>rw[hs] at h;exact .inr ⟨b,rfl,h⟩
 ·cases h
theorem hI.v1 (ax:SimH E H) (cS:qP H cH cF) {a b:AV} (h:hI H cH.length cF a b) {v:Value} (hv:bQ E a v):bQ (E.own cH cF) b v:=by
 cases h with
 | int k n=>exact hv
 | bool b=>exact hv
 | str s=>exact hv
 | eY=>exact hv
 | fg=>exact hv
 | aR rows full cW fr hw=>
  have hv:aQ E.w E.PA E.PF (.aR rows full fr) v:=hv
  cases hv with
  | aR dY ec eN bU dd hrel=>exact aQ.aR dY ec (fun h=>eN (hw h)) bU dd hrel
 | @ref b g n j full blk ar hs hb aL=>
  have im:=ax.dX b blk hb
  have hk:cH[j]?=some cH[j]:=List.getElem?_eq_getElem ar
  obtain⟨q,af,bU,_⟩:=cS.blk j b _ hk hs
  rw[hb] at af
  obtain rfl:=Option.some.inj af
  rcases(show ea E (.ref b g 0 n full) v from hv) with⟨aS,_⟩ | ⟨e3,bw⟩
  ·omega
  ·refine .inr ⟨rfl,?_⟩
   rcases bw with⟨hm,_,ap,A,c3⟩ | ⟨c,cap,hm,e,h1,h2,aH⟩
   ·exact .inl ⟨by rw[Lu ar hs];exact hm,rfl,ap,A,c3⟩
   ·refine .inr ⟨c,cap,by rw[Lu ar hs];exact hm,by rw[e,Nat.zero_mul,Nat.zero_mul],h1,(fun h=>by cases h),?_⟩
    show 0+cap≤(match cF j with
     | some b=>E.cp b
     | none=>0)
    rw[hs];exact aH
 | nil ar hs h=>exact BA (E:=E) h hv rfl (XD ar hs)
theorem XE (ax:SimH E H) (bH: ∀t,E.mL t=none) (cS:qP H cH cF):SimH (E.own cH cF) cH:=by
 have gK:E.bK=E:=by
  have:E.mL=fun _=>none:=funext bH
  cases E;simp only[Env.bK] at*;subst this;rfl
 have nj: ∀c,(E.own cH cF).fe c→E.fe c:=fun c ⟨j,ar⟩=>by
  obtain⟨_,h | ⟨b,_,h⟩⟩:=tM ar
  ·cases h.2
  ·exact⟨b,h⟩
 exact{
  heap:=fun j c hm=>by
   obtain⟨ar,h | ⟨b,hs,hb⟩⟩:=tM hm
   ·cases h.2
   ·have hk:cH[j]?=some cH[j]:=List.getElem?_eq_getElem ar
    obtain⟨q,af,bU,aq⟩:=cS.blk j b _ hk hs
    obtain⟨blk,aw,ty,q1,b8,q2,q3,q4,cD,cu⟩:=ax.heap b c hb
    rw[af] at q1
    obtain rfl:=Option.some.inj q1
    have aT:(E.own cH cF).sz j=E.sz b:=by
     show(cH[j]?.map Blk.sz).getD 0=_
     rw[hk,b8,bU];rfl
    have e2:(E.own cH cF).cp j=E.cp b:=by
     show(match cF j with
      | some b=>E.cp b
      | none=>0)=_
     rw[hs]
    refine⟨_,aw,ty,hk,by rw[aT,b8,bU],q2,by rw[aT,e2];exact q3,by rw[e2,←aq.1];exact q4,fun i row eg=> ?_,fun i l row a eg aC=> ?_⟩
    ·have aS:=(List.getElem?_eq_some_iff.1 eg).1
     have h1:q.rows[i]?=some (q.rows[i]'(by rw[aq.1];exact aS)):=List.getElem?_eq_getElem _
     rw[aT,←(aq.2 i _ row h1 eg).1];exact cD i _ h1
    ·have aS:=(List.getElem?_eq_some_iff.1 eg).1
     have h1:q.rows[i]?=some (q.rows[i]'(by rw[aq.1];exact aS)):=List.getElem?_eq_getElem _
     have ai:=aq.2 i _ row h1 eg
     have SJ:=(List.getElem?_eq_some_iff.1 aC).1
     have h2:=List.getElem?_eq_getElem (l:=q.rows[i]'(by rw[aq.1];exact aS)) (i:=l) (by rw[ai.1];exact SJ)
     obtain⟨u,hu,hv⟩:=cu i l _ _ h1 h2
     rw[gK] at hv
     exact⟨u,by rw[aT];exact hu,(ai.2 l _ a h2 aC).v1 ax cS hv⟩
  dX:=fun j k hk=>(cS.bc j k hk).symm
  fX:=fun j hm=>by
   obtain⟨ar,_⟩:=tM hm
   have hk:cH[j]?=some cH[j]:=List.getElem?_eq_getElem ar
   exact⟨_,hk,by show(cH[j]?.map Blk.sz).getD 0=_;rw[hk];rfl⟩
  fresh:=fun j ar=>⟨by show(if j<cH.length then _ else _)=_;rw[if_neg (by omega)],rfl⟩
  gu:=fun i j c h1 h2=>by
   obtain⟨hi,h | ⟨b,hs,hb⟩⟩:=tM h1
   ·cases h.2
   ·obtain⟨ar,h | ⟨bI,lO,dS⟩⟩:=tM h2
    ·cases h.2
    ·have:=ax.gu b bI c hb dS
     subst this
     exact cS.inj i j b hi ar hs lO
  hS:=fun t gz c h=>by cases h
  fz:=fun b t c _ h=>by cases h
  gw:=fun c hc h=>ax.gw c hc (nj c h)
  gM:=fun c hc ⟨t,h⟩=>by cases h
  c4:=ax.c4
  eK:=ax.eK
  db:=ax.db
  eQ:=fun c h=>ax.eQ c (nj c h)
  fq:=fun c ⟨t,h⟩=>by cases h}
end
theorem dc.toOwn {P:Program} {f:FuncId} {args:List AV} {e6:AV} {cH:List Blk} (h:dc P f args [] fun r H=> ∃cF,qP H cH cF∧FR H cH.length cF r e6):dc P f args [] fun r H=>r=e6∧H=cH:=by
 refine⟨h.1,fun E vs ap hs aC=>(h.2 E vs ap hs aC).mono ?_⟩
 rintro e w' ⟨r,v,H',E',rfl,⟨cF,cS,vm⟩,rfl,SL,lO,hv,bf⟩
 refine⟨e6,v,cH,E'.own cH cF,rfl,⟨rfl,rfl⟩,rfl,fun _=>rfl,XE lO SL cS,?_,?_⟩
 ·rcases vm with⟨l,eB,rfl,rfl,ai⟩ | vm
  ·obtain⟨ga,rfl,af⟩:=(show ∃ga:List Value,v= .agg ga.toArray∧aK (bQ E') l ga from hv)
   refine⟨ga,rfl,ai.1▸af.1,fun i a u aC hu=> ?_⟩
   have aS:i<l.length:=by rw[ai.1];exact(List.getElem?_eq_some_iff.1 aC).1
   have h1:=List.getElem?_eq_getElem aS
   exact(ai.2 i _ a h1 aC).v1 lO cS (af.2 i _ u h1 hu)
  ·have iP:bQ E' r v:=by
    rw[mb,ma] at hv
    ·exact hv
    ·rintro l rfl;cases vm with
     | nil ar hs hx=>exact absurd hx Bool.false_ne_true
    ·rintro l rfl;cases vm with
     | nil ar hs hx=>exact absurd hx Bool.false_ne_true
   exact nW (jF (vm.v1 lO cS iP))
 ·have nj: ∀c,(E'.own cH cF).fe c→E'.fe c:=fun c ⟨j,ar⟩=>by
   obtain⟨_,h | ⟨b,_,h⟩⟩:=tM ar
   ·cases h.2
   ·exact⟨b,h⟩
  exact{
   le:=⟨bf.le.eJ,bf.le.eD,bf.le.qD,bf.le.wf,fun b=>by rw[(hs.fresh b (Nat.zero_le _)).2];exact Nat.zero_le _,(fun b x hm _=>by rw[(hs.fresh b (Nat.zero_le _)).1] at hm;cases hm),(fun t c hm=>by rw[ap t] at hm;cases hm)⟩
   os:=bf.os,tape:=bf.tape,output:=bf.output,size:=bf.size,dj:=bf.dj
   hB:=fun b c hb=>(bf.ni c (nj c ⟨b,hb⟩)).elim (fun⟨j,ar⟩=>by rw[(hs.fresh j (Nat.zero_le _)).1] at ar;cases ar) .inr
   hR:=fun c ⟨t,h⟩=>by cases h
   eJ:=bf.eJ,eD:=bf.eD}
theorem qP.nil {H:List Blk} {cF:Nat→Option Nat}:qP H [] cF:=⟨fun i j b h=>by simp at h,fun j k h=>by simp at h,fun j b k h=>by simp at h⟩
def mD (l:List (Option Nat)) (j:Nat):Option Nat:=(l[j]?).getD none
def AE (H:List Blk) (c5:Nat) (cF:Nat→Option Nat) (k:Blk):Option Nat→Prop
 | none=>True
 | some b=> ∃q,H[b]?=some q∧q.sz=k.sz∧aK (aK (hI H c5 cF)) q.rows k.rows
def uD (H:List Blk) (c5:Nat) (cF:Nat→Option Nat):List (Option Nat)→List Blk→Prop
 | [],[]=>True
 | o::l,k::cH=>k.bc=0∧AE H c5 cF k o∧uD H c5 cF l cH
 | _,_=>False
theorem uD.get {H:List Blk} {c5:Nat} {cF:Nat→Option Nat}: ∀{l:List (Option Nat)} {cH:List Blk},uD H c5 cF l cH→ ∀(j:Nat) (k:Blk),cH[j]?=some k→ ∃o,l[j]?=some o∧k.bc=0∧AE H c5 cF k o
 | [],[],_,j,k,h=>by simp at h
 | o::l,q::cH,aC,0,k,h=>by simp at h;subst h;exact⟨o,rfl,aC.1,aC.2.1⟩
 | o::l,q::cH,aC,j+1,k,h=>by
  obtain⟨x,hx,h2⟩:=uD.get aC.2.2 j k (by simpa using h)
  exact⟨x,by simpa using hx,h2⟩
theorem ot {H cH:List Blk} (l:List (Option Nat)) (aE:l.length=cH.length) (aY:(l.filterMap id).Nodup) (h:uD H cH.length (mD l) l cH):qP H cH (mD l) where
 inj:=fun i j b hi ar h1 h2=>by
  have gL:i<l.length:=by omega
  have pZ:j<l.length:=by omega
  have aT:l[i]=some b:=by have:(l[i]?).getD none=some b:=h1;rwa [List.getElem?_eq_getElem gL] at this
  have e2:l[j]=some b:=by have:(l[j]?).getD none=some b:=h2;rwa [List.getElem?_eq_getElem pZ] at this
  rcases Nat.lt_trichotomy i j with aS | rfl | mm
  ·exfalso
   have ai:=List.pairwise_filterMap.1 aY
   exact(List.pairwise_iff_getElem.1 ai i j gL pZ aS) b (by simpa using aT) b (by simpa using e2) rfl
  ·rfl
  ·exfalso
   have ai:=List.pairwise_filterMap.1 aY
   exact(List.pairwise_iff_getElem.1 ai j i pZ gL mm) b (by simpa using e2) b (by simpa using aT) rfl
 bc:=fun j k hk=>by obtain⟨o,_,h1,_⟩:=h.get j k hk;exact h1
 blk:=fun j b k hk hs=>by
  obtain⟨o,aD,_,h2⟩:=h.get j k hk
  have:o=some b:=by have hs:(l[j]?).getD none=some b:=hs;rw[aD] at hs;exact hs
  subst this
  exact h2
theorem oA {H:List Blk} {c5:Nat} {cF:Nat→Option Nat} {α:Type} {enc:α→List AV} {b g sz:Nat} {xs ys:List α} (hb:H[b]?=some ⟨g,sz,List.map enc xs⟩) (hc: ∀x,aK (hI H c5 cF) (enc x) (enc x)) (e:xs=ys):
  AE H c5 cF ⟨0,sz,List.map enc ys⟩ (some b):=by
 subst e
 refine⟨_,hb,rfl,rfl,fun i r zF h1 h2=> ?_⟩
 rw[List.getElem?_map] at h1 h2
 cases hx:xs[i]? with
 | none=>rw[hx] at h1;cases h1
 | some x=>rw[hx] at h1 h2;cases h1;cases h2;exact hc x
section
variable {H:List Blk} {c5:Nat} {cF:Nat→Option Nat}
theorem wo (b:Bool):aK (hI H c5 cF) (aU b) (aU b):= .cons (.bool _) .nil
theorem Ll (x:b9):aK (hI H c5 cF) (di x) (di x):= .cons (.int _ _) (.cons (.int _ _) .nil)
theorem DT (x:ck):aK (hI H c5 cF) (br x) (br x):= .cons (.int _ _) (.cons (.int _ _) .nil)
theorem DV {k:IntKind} {a b:Int} (h:a=b):hI H c5 cF (.int k a) (.int k b):=h▸ .int k a
theorem XB {a b:Bool} (h:a=b):hI H c5 cF (.bool a) (.bool b):=h▸ .bool a
theorem rW {b g n m j sz:Nat} {full:Bool} {rows:List (List AV)} (ar:j<c5) (hs:cF j=some b) (hb:H[b]?=some ⟨g,sz,rows⟩) (ap:n=m):hI H c5 cF (.ref b g 0 n full) (.ref j 0 0 m false):=ap▸ .ref ar hs hb rfl
theorem DW {a:AV} {j m:Nat} (ar:j<c5) (hs:cF j=none) (h:o_ a=true) (hm:0=m):hI H c5 cF a (.ref j 0 0 m false):=hm▸ .nil ar hs h
end
theorem rX {α:Type} {enc:α→List AV} {g sz:Nat} {xs:List α} {H:List Blk} (h1: ∀x,(enc x).all nt=true) (h2:ql H=true):ql (⟨g,sz,List.map enc xs⟩::H)=true:=by
 show(((List.map enc xs).all fun row=>row.all nt)&&H.all fun b=>b.rows.all fun row=>row.all nt)=true
 rw[Bool.and_eq_true]
 refine⟨?_,h2⟩
 rw[List.all_eq_true]
 intro row aq
 obtain⟨x,_,rfl⟩:=List.mem_map.1 aq
 exact h1 x
theorem sh {α:Type} {enc:α→List AV} {k g sz:Nat} {xs:List α} {H H':List Blk} (h1: ∀x,(enc x).map (iA k)=enc x) (h2:H.map (jk k)=H'):(Blk.mk g sz (List.map enc xs)::H).map (jk k)=⟨g,sz,List.map enc xs⟩::H':=by
 subst h2
 show(⟨g,sz,(List.map enc xs).map fun row=>row.map (iA k)⟩:Blk)::_=_
 rw[List.map_map]
 congr 2
 exact List.map_congr_left fun x _=>h1 x
theorem ul {k:Nat} {H cH H1 kr:List Blk} (h:cH.map (jk k)=H1) (e:H++H1=kr):H++cH.map (jk k)=kr:=by rw[h,e]
def Env.at (W:World):Env:={w:=W,PA:=fun c=>c<W.heap.size,PF:=fun _=>False,m:=fun _=>none,bc:=fun _=>0,sz:=fun _=>0,cp:=fun _=>0,mL:=fun _=>none}
theorem F9 (W:World):SimH (Env.at W) [] where
 heap:=fun b c hb=>by cases hb
 dX:=fun b blk hb=>by simp at hb
 fX:=fun b hb=>by cases hb
 fresh:=fun b _=>⟨rfl,rfl⟩
 gu:=fun b bI c hb=>by cases hb
 hS:=fun t gz c hb=>by cases hb
 fz:=fun b t c hb=>by cases hb
 gw:=fun c _ ⟨b,hb⟩=>by cases hb
 gM:=fun c _ ⟨b,hb⟩=>by cases hb
 c4:=fun c hc=>hc.elim
 eK:=fun c hc=>hc.elim
 db:=fun c hc=>hc
 eQ:=fun c ⟨b,hb⟩=>by cases hb
 fq:=fun c ⟨b,hb⟩=>by cases hb
theorem U4 {P:Program} {f:FuncId} {cc:List AV} {W:World} {vs:List Value} (h:a_ P f cc (.bool true)) (aC:aK (V2 (Env.at W)) cc vs):
  Calls P f vs.toArray W fun e FV=>e= .returned (.bool true)∧RowKit.Below W.heap.size W FV:=by
 refine(h.2 (Env.at W) vs (fun _=>rfl) (F9 W) aC).mono ?_
 rintro e w' ⟨r,v,H',E',rfl,aq,rfl,ap,hs,hv,bf⟩
 have hb:r= .bool true:=by
  rcases aq with⟨l,eB,_,e,_⟩ | ⟨l,eB,_,e,_⟩ | aq
  ·cases e
  ·cases e
  ·cases aq;rfl
 subst hb
 refine⟨by rw[V3.mS hv],bf.os,bf.tape,bf.output,bf.size,fun k hk=>bf.dj k hk (fun⟨b,hb⟩=>by cases hb) (fun⟨b,hb⟩=>by cases hb)⟩
def AD (W:World):AV→Value→Prop:=aQ W (fun c=>c<W.heap.size) (fun _=>False)
def fl (P:Program) (W:World) (t:TypeId) {α:Type} (enc:α→List AV):Prop:=
 ∀{H:Type} (iM:TypeId×Value→H) (hO:Nat) (aw:List Value) (x:DataW H×List MemPlace),DataW.trod iM P W 0 (fun _=>true) true hO t aw=some x→(∀n∈x.1.weights P t,n≤reachBytes)→ ∃y:α,aK (AD W) (enc y) aw
section
variable {P:Program} {W:World}
theorem kF {t:TypeId} {k:IntKind} (hu:P.underlying t=some (.int k)):fl P W t (fun n:Int=>[.int k n]):=fun iM hO aw x h _=>by
 obtain⟨n,rfl,_⟩:=DataW.trod_int hu h
 exact⟨n,.cons (.int _ _) .nil⟩
theorem wv {t:TypeId} (hu:P.underlying t=some .bool):fl P W t aU:=fun iM hO aw x h _=>by
 obtain⟨n,rfl,_⟩:=DataW.trod_bool hu h
 exact⟨n,.cons (.bool _) .nil⟩
theorem WK {α:Type} (n:Nat) (φ:Nat→α→Prop) (h: ∀i,i<n→ ∃y,φ i y): ∃ys:List α,ys.length=n∧ ∀(i:Nat) (y:α),ys[i]?=some y→φ i y:=by
 induction n with
 | zero=>exact⟨[],rfl,fun i y h=>by simp at h⟩
 | succ n bx=>
  obtain⟨ys,aE,bd⟩:=bx fun i hi=>h i (by omega)
  obtain⟨z,aJ⟩:=h n (by omega)
  refine⟨ys++[z],by simp[aE],fun i y hi=> ?_⟩
  rcases Nat.lt_or_ge i n with aS | e3
  ·rw[List.getElem?_append_left (by omega)] at hi
   exact bd i y hi
  ·rw[List.getElem?_append_right (by omega)] at hi
   rcases Nat.eq_or_lt_of_le e3 with rfl | mm
   ·rw[aE,Nat.sub_self] at hi
    cases hi;exact aJ
   ·rw[List.getElem?_eq_none (by simp;omega)] at hi
    cases hi
theorem KY {α β:Type} {f:α→Option β}: ∀{l:List α} {r:List β},l.mapM f=some r→r.length=l.length∧ ∀(i:Nat) (a:α),l[i]?=some a→f a=r[i]?
 | [],r,h=>by simp at h;subst h;exact⟨rfl,fun i a h=>by simp at h⟩
 | x::l,r,h=>by
  rw[List.mapM_cons] at h
  simp only[bind,Option.bind_eq_some_iff,pure,Option.some.injEq] at h
  obtain⟨b,hb,zF,aq,rfl⟩:=h
  obtain⟨h1,h2⟩:=KY aq
  refine⟨by simp[h1],fun i a aC=> ?_⟩
  cases i with
  | zero=>simp at aC;subst aC;simpa using hb
  | succ i=>exact h2 i a (by simpa using aC)
theorem PN {a:Addr} {n:Nat} {l:List Value} (h:W.cells? 0 a n=some l):l.length=n∧ ∀j,j<n→W.cell? (a.add j)=l[j]?:=by
 unfold World.cells? at h
 rw[if_pos (Nat.zero_le _)] at h
 obtain⟨aE,aL⟩:=KY h
 rw[List.length_range] at aE
 exact⟨aE,fun j ar=>aL j j (List.getElem?_range ar)⟩
theorem aax {a:Addr} {v:Value} (h:W.cell? a=some v):a.spot=none∧a.block<W.heap.size:=by
 unfold World.cell? at h
 split at h
 ·rename_i c _ _ hb
  split at h
  ·cases h
  ·rename_i hs
   refine⟨by cases af:a.spot<;>simp_all,?_⟩
   rcases Nat.lt_or_ge a.block W.heap.size with h1 | h1
   ·exact h1
   ·rw[Array.getElem?_eq_none h1] at hb;cases hb
 ·cases h
theorem add_add (c o x y:Nat):((⟨c,o,none⟩:Addr).add x).add y=⟨c,o+(x+y),none⟩:=by
 rw[ln,ln,Nat.add_assoc]
theorem lT {t e:TypeId} {α:Type} {enc:α→List AV} (hu:P.underlying t=some (.slice e)) (hb:1≤P.bytesOf e) (aJ:1≤P.cellsOf e) (hc: ∀x,(enc x).length=P.cellsOf e) (h:fl P W e enc):fl P W t (e1 enc false):=by
 intro H iM hO aw x bj hw
 rcases DataW.trod_slice hu bj with⟨rfl,rfl⟩ | ⟨a,len,cap,sW,rest,n,_,rfl,rfl,_,aE,_,hlen,rm,_,_⟩
 ·refine⟨[],.cons ?_ .nil⟩
  exact aQ.aR (rows:=[]) (PB:=fun _=>False) (sz:=0) (vs:=fun _ _=>undef) (fun _ h=>h.elim) ⟨Nat.le_refl _,Nat.zero_le _⟩ (fun h=>by cases h) (fun i row h=>by simp at h) (fun h=>by simp at h) (fun i j row a h=>by simp at h)
 ·have tt:(sW.length+rest.length)*P.bytesOf e≤reachBytes:=by
   have:=hw ((sW.length+rest.length)*P.bytesOf e) (by simp[DataW.weights,hu])
   simpa using this
  have hP:len≤4611686018427387904:=by
   have h1:sW.length+rest.length≤(sW.length+rest.length)*P.bytesOf e:=Nat.le_mul_of_pos_right _ hb
   have h2:=reachBytes_lt
   have aH:(2:Nat) ^ 47=140737488355328:=rfl
   omega
  have dy: ∀(l:List (DataW H)) (d:DataW H),d∈l→ ∀m∈d.weights P e,m∈DataW.weightsAll P e l:=by
   intro l
   induction l with
   | nil=>intro d aY;cases aY
   | cons q l bx=>
    intro d aY m hm
    simp only[DataW.weightsAll,List.mem_append]
    rcases List.mem_cons.1 aY with rfl | aY
    ·exact .inl hm
    ·exact .inr (bx d aY m hm)
  obtain⟨ys,yS,bd⟩:=WK len (fun i y=> ∃l,W.cells? 0 (a.add (i*P.cellsOf e)) (P.cellsOf e)=some l∧aK (AD W) (enc y) l) fun i hi=>by
   have h1:=rm i hi
   have h2:sW[i]?=some (sW[i]'(by omega)):=List.getElem?_eq_getElem _
   rw[h2,Option.bind_eq_some_iff] at h1
   obtain⟨l,rh,Tj⟩:=h1
   obtain⟨y,bd⟩:=h iM n l _ Tj fun m hm=>hw m (by
    simp only[DataW.weights,hu,List.mem_cons,List.mem_append]
    exact .inr (.inl (dy _ _ (List.mem_map.2 ⟨_,List.getElem_mem (by omega),rfl⟩) m hm)))
   exact⟨y,l,rh,bd⟩
  have fM: ∀i j,i<len→j<P.cellsOf e→ ∃l v,W.cells? 0 (a.add (i*P.cellsOf e)) (P.cellsOf e)=some l∧l[j]?=some v∧W.cell? ((a.add (i*P.cellsOf e)).add j)=some v:=fun i j hi ar=>by
   obtain⟨l,na,_⟩:=bd i _ (List.getElem?_eq_getElem (by omega))
   obtain⟨q1,q2⟩:=PN na
   exact⟨l,l[j]'(by omega),na,List.getElem?_eq_getElem _,by rw[q2 j ar];exact List.getElem?_eq_getElem _⟩
  let vs:Nat→Nat→Value:=fun i j=>(((W.cells? 0 (a.add (i*P.cellsOf e)) (P.cellsOf e)).getD [])[j]?).getD undef
  refine⟨ys,.cons ?_ .nil⟩
  have key:=aQ.aR (w:=W) (PA:=fun c=>c<W.heap.size) (PF:=fun _=>False) (PB:=fun c=>c<W.heap.size) (rows:=List.map enc ys) (full:=false) (fresh:=false) (A:=some a) (cap:=cap) (sz:=P.cellsOf e) (vs:=vs)
   (fun c hc=>by simpa using hc) (by rw[List.length_map,yS];exact⟨aE,hP⟩) (fun h=>by cases h)
   (fun i row aq=>by
    rw[List.getElem?_map] at aq
    cases af:ys[i]? with
    | none=>rw[af] at aq;cases aq
    | some y=>rw[af] at aq;cases aq;exact hc y)
   (fun jt=>by
    rw[List.length_map,yS] at jt
    obtain⟨l,v,_,_,hv⟩:=fM 0 0 jt aJ
    rw[Nat.zero_mul] at hv
    have aM:(a.add 0).add 0=a:=by simp[Addr.add]
    rw[aM] at hv
    obtain⟨hs,aS⟩:=aax hv
    obtain⟨c,o,s⟩:=a
    have hs:s=none:=hs
    subst hs
    refine⟨c,o,rfl,aS,fun i j hi ar=> ?_⟩
    rw[List.length_map,yS] at hi
    obtain⟨l,v,q1,q2,q3⟩:=fM i j hi ar
    rw[add_add] at q3
    rw[q3]
    show some v=some ((((W.cells? 0 _ _).getD [])[j]?).getD undef)
    rw[q1]
    show some v=some ((l[j]?).getD undef)
    rw[q2];rfl)
   (fun i j row b aq ar=>by
    rw[List.getElem?_map] at aq
    cases af:ys[i]? with
    | none=>rw[af] at aq;cases aq
    | some y=>
     rw[af] at aq;cases aq
     obtain⟨l,na,ai⟩:=bd i y af
     obtain⟨v,hv,kz⟩:=ai.get ar
     show aQ W _ _ b ((((W.cells? 0 _ _).getD [])[j]?).getD undef)
     rw[na]
     show aQ W _ _ b ((l[j]?).getD undef)
     rw[hv];exact kz)
  rw[List.length_map,yS] at key
  exact key
def qw (P:Program) (t:TypeId) (ci:List TypeId):Bool:=match P.underlying t with
 | some (.struct ds)=>(ds.toList.zipIdx.all fun p=>p.1.offset==p.2&&P.cellsOf p.1.type==1)&&ds.toList.map (·.type)==ci&&P.cellsOf t==ci.length
 | _=>false
theorem ur {t:TypeId} {ci:List TypeId} (hs:qw P t ci=true) {H:Type} {iM:TypeId×Value→H} {hO:Nat} {aw:List Value} {x:DataW H×List MemPlace} (h:DataW.trod iM P W 0 (fun _=>true) true hO t aw=some x)
  (hw: ∀n∈x.1.weights P t,n≤reachBytes):aw.length=ci.length∧ ∀(i:Nat) (u:TypeId) (v:Value),ci[i]?=some u→aw[i]?=some v→ ∃(n:Nat) (z:DataW H×List MemPlace),DataW.trod iM P W 0 (fun _=>true) true n u [v]=some z∧ ∀m∈z.1.weights P u,m≤reachBytes:=by
 unfold qw at hs
 split at hs
 ·rename_i ds hu
  simp only[Bool.and_eq_true,beq_iff_eq] at hs
  obtain⟨⟨h1,h2⟩,aH⟩:=hs
  obtain⟨xs,n,_,rfl,aE,ng,hf⟩:=DataW.trod_struct hu h
  refine⟨by rw[aE,aH],fun i u v bj hv=> ?_⟩
  have hi:i<ds.size:=by
   have:=(List.getElem?_eq_some_iff.1 bj).1
   rw[←h2] at this;simpa using this
  have Cq:ds[i]?=some ds[i]:=Array.getElem?_eq_getElem hi
  have Tl:ds[i].type=u:=by
   have:(ds.toList.map (·.type))[i]?=some u:=by rw[h2];exact bj
   rw[List.getElem?_map,Array.getElem?_toList,Cq] at this
   exact Option.some.inj this
  have CC:=List.all_eq_true.1 h1 (ds[i],i) (by rw[List.mem_zipIdx_iff_getElem?];rw[Array.getElem?_toList];exact Cq)
  simp only[Bool.and_eq_true,beq_iff_eq] at CC
  have:=hf i ds[i] Cq
  rw[CC.1,CC.2,Tl] at this
  have SX:(aw.drop i).take 1=[v]:=by
   have aS:=(List.getElem?_eq_some_iff.1 hv).1
   rw[List.drop_eq_getElem_cons aS,List.take_succ_cons,List.take_zero]
   have:=(List.getElem?_eq_some_iff.1 hv).2
   rw[this]
  rw[SX] at this
  have IC:xs[i]?=some (xs[i]'(by omega)):=List.getElem?_eq_getElem _
  rw[IC] at this
  refine⟨n,_,this,fun m hm=>hw m ?_⟩
  simp only[DataW.weights,hu]
  exact DataW.weights_mem_each (j:=i) (by rw[h2];exact bj) (by rw[List.getElem?_map,IC];rfl) m hm
 ·cases hs
theorem sT {aw:List Value} (h:aw.length=2): ∃a b,aw=[a,b]:=by
 match aw,h with
 | [a,b],_=>exact⟨a,b,rfl⟩
theorem PK {aw:List Value} (h:aw.length=4): ∃a b c d,aw=[a,b,c,d]:=by
 match aw,h with
 | [a,b,c,d],_=>exact⟨a,b,c,d,rfl⟩
theorem A3 {aw:List Value} (h:aw.length=5): ∃a b c d e,aw=[a,b,c,d,e]:=by
 match aw,h with
 | [a,b,c,d,e],_=>exact⟨a,b,c,d,e,rfl⟩
theorem hU {α:Type} {u:TypeId} {enc:α→List AV} {f:α→AV} (he: ∀y,enc y=[f y]) (h:fl P W u enc) {H:Type} {iM:TypeId×Value→H} {n:Nat} {v:Value} {z:DataW H×List MemPlace} (bj:DataW.trod iM P W 0 (fun _=>true) true n u [v]=some z)
  (hw: ∀m∈z.1.weights P u,m≤reachBytes): ∃y,AD W (f y) v:=by
 obtain⟨y,bd⟩:=h iM n [v] z bj hw
 rw[he] at bd
 exact⟨y,bd.head⟩
theorem Lp {t a b:TypeId} (hs:qw P t [a,b]=true) (aC:fl P W a bO) (hb:fl P W b bO):fl P W t di:=fun iM hO aw x h hw=>by
 obtain⟨aE,hc⟩:=ur hs h hw
 obtain⟨cP,cr,rfl⟩:=sT aE
 obtain⟨c5,z0,b8,aV⟩:=hc 0 a cP rfl rfl
 obtain⟨e5,kS,q1,cj⟩:=hc 1 b cr rfl rfl
 obtain⟨kp,e6⟩:=hU (fun _=>rfl) aC b8 aV
 obtain⟨hH,c9⟩:=hU (fun _=>rfl) hb q1 cj
 exact⟨⟨kp,hH⟩,.cons e6 (.cons c9 .nil)⟩
theorem Xz {t a b:TypeId} (hs:qw P t [a,b]=true) (aC:fl P W a bO) (hb:fl P W b bO):fl P W t br:=fun iM hO aw x h hw=>by
 obtain⟨aE,hc⟩:=ur hs h hw
 obtain⟨cP,cr,rfl⟩:=sT aE
 obtain⟨c5,z0,b8,aV⟩:=hc 0 a cP rfl rfl
 obtain⟨e5,kS,q1,cj⟩:=hc 1 b cr rfl rfl
 obtain⟨kp,e6⟩:=hU (fun _=>rfl) aC b8 aV
 obtain⟨hH,c9⟩:=hU (fun _=>rfl) hb q1 cj
 exact⟨⟨kp,hH⟩,.cons e6 (.cons c9 .nil)⟩
theorem XA {t a b c d e:TypeId} (hs:qw P t [a,b,c,d,e]=true) (aC:fl P W a (e1 bO false)) (hb:fl P W b (e1 di false)) (rj:fl P W c (e1 di false)) (aY:fl P W d (e1 bO false)) (he:fl P W e (e1 bO false)):fl P W t (dI false):=fun iM hO aw x h hw=>by
 obtain⟨aE,hc⟩:=ur hs h hw
 obtain⟨cP,cr,ch,gT,jp,rfl⟩:=A3 aE
 obtain⟨c5,z0,b8,aV⟩:=hc 0 a cP rfl rfl
 obtain⟨e5,kS,q1,cj⟩:=hc 1 b cr rfl rfl
 obtain⟨n2,z2,q2,dU⟩:=hc 2 c ch rfl rfl
 obtain⟨jV,z3,q3,gX⟩:=hc 3 d gT rfl rfl
 obtain⟨zd,z4,q4,kO⟩:=hc 4 e jp rfl rfl
 obtain⟨kp,e6⟩:=hU (fun _=>rfl) aC b8 aV
 obtain⟨hH,c9⟩:=hU (fun _=>rfl) hb q1 cj
 obtain⟨kR,dn⟩:=hU (fun _=>rfl) rj q2 dU
 obtain⟨sv,fi⟩:=hU (fun _=>rfl) aY q3 gX
 obtain⟨w_,l0⟩:=hU (fun _=>rfl) he q4 kO
 exact⟨⟨kp,hH,kR,sv,w_⟩,.cons e6 (.cons c9 (.cons dn (.cons fi (.cons l0 .nil))))⟩
theorem Xy {t a b c d e:TypeId} (hs:qw P t [a,b,c,d,e]=true) (aC:fl P W a bO) (hb:fl P W b (e1 bO false)) (rj:fl P W c (e1 (dI false) false)) (aY:fl P W d (e1 (e1 aU false) false)) (he:fl P W e bO):fl P W t (bL false):=fun iM hO aw x h hw=>by
 obtain⟨aE,hc⟩:=ur hs h hw
 obtain⟨cP,cr,ch,gT,jp,rfl⟩:=A3 aE
 obtain⟨c5,z0,b8,aV⟩:=hc 0 a cP rfl rfl
 obtain⟨e5,kS,q1,cj⟩:=hc 1 b cr rfl rfl
 obtain⟨n2,z2,q2,dU⟩:=hc 2 c ch rfl rfl
 obtain⟨jV,z3,q3,gX⟩:=hc 3 d gT rfl rfl
 obtain⟨zd,z4,q4,kO⟩:=hc 4 e jp rfl rfl
 obtain⟨kp,e6⟩:=hU (fun _=>rfl) aC b8 aV
 obtain⟨hH,c9⟩:=hU (fun _=>rfl) hb q1 cj
 obtain⟨kR,dn⟩:=hU (fun _=>rfl) rj q2 dU
 obtain⟨sv,fi⟩:=hU (fun _=>rfl) aY q3 gX
 obtain⟨w_,l0⟩:=hU (fun _=>rfl) he q4 kO
 exact⟨⟨kp,hH,kR,sv,w_⟩,.cons e6 (.cons c9 (.cons dn (.cons fi (.cons l0 .nil))))⟩
theorem Xx {t a b c d e:TypeId} (hs:qw P t [a,b,c,d,e]=true) (aC:fl P W a bO) (hb:fl P W b bO) (rj:fl P W c (e1 aU false)) (aY:fl P W d aU) (he:fl P W e bO):fl P W t (ct false):=fun iM hO aw x h hw=>by
 obtain⟨aE,hc⟩:=ur hs h hw
 obtain⟨cP,cr,ch,gT,jp,rfl⟩:=A3 aE
 obtain⟨c5,z0,b8,aV⟩:=hc 0 a cP rfl rfl
 obtain⟨e5,kS,q1,cj⟩:=hc 1 b cr rfl rfl
 obtain⟨n2,z2,q2,dU⟩:=hc 2 c ch rfl rfl
 obtain⟨jV,z3,q3,gX⟩:=hc 3 d gT rfl rfl
 obtain⟨zd,z4,q4,kO⟩:=hc 4 e jp rfl rfl
 obtain⟨kp,e6⟩:=hU (fun _=>rfl) aC b8 aV
 obtain⟨hH,c9⟩:=hU (fun _=>rfl) hb q1 cj
 obtain⟨kR,dn⟩:=hU (fun _=>rfl) rj q2 dU
 obtain⟨sv,fi⟩:=hU (fun _=>rfl) aY q3 gX
 obtain⟨w_,l0⟩:=hU (fun _=>rfl) he q4 kO
 exact⟨⟨kp,hH,kR,sv,w_⟩,.cons e6 (.cons c9 (.cons dn (.cons fi (.cons l0 .nil))))⟩
theorem Xw {t a b c d:TypeId} (hs:qw P t [a,b,c,d]=true) (aC:fl P W a aU) (hb:fl P W b (e1 aU false)) (rj:fl P W c (e1 br false)) (aY:fl P W d (e1 (ct false) false)):fl P W t (b5 false):=fun iM hO aw x h hw=>by
 obtain⟨aE,hc⟩:=ur hs h hw
 obtain⟨cP,cr,ch,gT,rfl⟩:=PK aE
 obtain⟨c5,z0,b8,aV⟩:=hc 0 a cP rfl rfl
 obtain⟨e5,kS,q1,cj⟩:=hc 1 b cr rfl rfl
 obtain⟨n2,z2,q2,dU⟩:=hc 2 c ch rfl rfl
 obtain⟨jV,z3,q3,gX⟩:=hc 3 d gT rfl rfl
 obtain⟨kp,e6⟩:=hU (fun _=>rfl) aC b8 aV
 obtain⟨hH,c9⟩:=hU (fun _=>rfl) hb q1 cj
 obtain⟨kR,dn⟩:=hU (fun _=>rfl) rj q2 dU
 obtain⟨sv,fi⟩:=hU (fun _=>rfl) aY q3 gX
 exact⟨⟨kp,hH,kR,sv⟩,.cons e6 (.cons c9 (.cons dn (.cons fi .nil)))⟩
theorem F7 {t:TypeId} {α:Type} {enc:α→List AV} {k:Nat} (h:fl P W t enc) (hk:2≤k) (hc: ∀y,(enc y).length=k) {H:Type} {iM:TypeId×Value→H} {v:Value} {d:DataW H} {ps:List MemPlace} (bj:DataW.Trod iM P W 0 (fun _=>true) true t v d ps)
  (hw: ∀n∈d.weights P t,n≤reachBytes): ∃y,V2 (Env.at W) (.agg (enc y)) v:=by
 obtain⟨hO,hf⟩:=bj
 obtain⟨y,ai⟩:=h iM hO _ _ hf hw
 have aE:=ai.1
 rw[hc] at aE
 have hv:v= .agg v.cells:=by
  cases v<;>first | rfl | (simp[Value.cells] at aE;omega)
 refine⟨y,v.cells.toList,by rw[Array.toArray_toList];exact hv,ai.mono fun a u aq=>aQ.v1 (E:=Env.at W) aq⟩
end
def Jz (P:Program) (fn:Func) (c:OpenClaim):Bool:=c.kinds==(if c.domain.isEmpty then[] else fn.params.toList.map fun t=>match P.underlying t with | some (.int k)=>some k | _=>none)
theorem UU {P:Program} {f:FuncId} {fn:Func} {s:ChangeSpec} {c:OpenClaim} (aM:(c.wf (OpenSpec.ofChange s))=true) (h1:laidOutB P=true) (h2:mapsRowed P=true) (aH:fn.params.all (P.readableRec ·)=true) (bn:namedTie P c.named s.vars=true) (cX:(c.stops==[])=true) (eG:(P.stops==[])=true) (kt:(c.knobs==[])=true) (oW:(P.stopKnobs==[])=true) (q_:(c.inPlace==P.inPlace f)=true) (vi:(c.unfollowed==P.unfollowed f)=true) (RH:(c.recurses==P.recurses f)=true) (RI:(c.named==P.varsNamed f)=true) (RJ:(c.maps==(fn.params.toList++s.plain.varTypes P).any (P.mapsRec ·))=true) (RK:(c.ifaces==(fn.params.toList++s.plain.varTypes P).any (P.ifacesRec ·))=true) (RL:(c.mapsOut==P.mapsAmong fn.resultTypes.toList)=true) (RM:(c.loops==(fn.params.toList++s.plain.varTypes P).any (P.loopsFrom ·))=true) (RN:(c.wideKeys==(fn.params.toList++s.plain.varTypes P++fn.resultTypes.toList).any (P.wideKeysFrom ·))=true) (RO:s.vars.all (P.varReadable ·)=true) (RP:fn.resultTypes.all (fun t=>P.readableRec t&&decide (t<P.types.size))=true) (RQ:(c.ifacesOut==fn.resultTypes.toList.any (P.ifacesRec ·))=true) (RR:(c.loopsOut==fn.resultTypes.toList.any (P.loopsFrom ·))=true) (RS:(c.plainKeys==P.plainKeys)=true) (RT:c.shortTexts.isNone=true) (RU:P.stopsHeard=true) (RV:P.mayEnter=true) (RW:(c.lifted==P.liftsFinal)=true) (RX:(P.make==some c.make)=true) (RY:Jz P fn c=true) (RZ:(c.pinned==c.pinnedBy)=true) (ml:(c.veiled==(fn.params.toList++s.plain.varTypes P++fn.resultTypes.toList).any (P.veiledRec ·))=true) (R0:c.veiledFits P fn.params.toList (fn.params.toList++s.plain.varTypes P++fn.resultTypes.toList)=true):joinedFacts P f fn s c=true:=by
 unfold joinedFacts
 simp only[Bool.and_eq_true]
 exact⟨⟨⟨⟨⟨⟨⟨⟨⟨⟨⟨⟨⟨⟨⟨⟨⟨⟨⟨⟨⟨⟨⟨⟨⟨⟨⟨⟨⟨⟨⟨aM,h1⟩,h2⟩,aH⟩,bn⟩,cX⟩,eG⟩,kt⟩,oW⟩,q_⟩,vi⟩,RH⟩,RI⟩,RJ⟩,RK⟩,RL⟩,RM⟩,RN⟩,RO⟩,RP⟩,RQ⟩,RR⟩,RS⟩,RT⟩,RU⟩,RV⟩,RW⟩,RX⟩,RY⟩,RZ⟩,ml⟩,R0⟩
theorem Xn {α:Type} [Inhabited α] {xs:List α} {i:Int} (h:i.toNat<xs.length):nth xs i=xs[i.toNat]:=by
 have:=fY h
 rw[List.getElem?_eq_getElem h] at this
 exact(Option.some.inj this).symm
def bB (b:List Bool):Blk:=⟨0,1,List.map aU b⟩
def jP (s:Nat) (h:ab) (id:Nat):List AV:=[.int .i64 h.az,.int .i64 h.aa,.ref (id+s) 0 0 h.U.length false,.bool h.an,.int .i64 h.ao]
def bh (s:Nat) (ws:List ab) (ids:List Nat):List (List AV):=List.zipWith (jP s) ws ids
def view (ws:List ab) (ids:List Nat) (bs:List (List Bool)):List ab:=List.zipWith (fun h id=>{h with U:=bs.getD id []}) ws ids
structure lk (ws:List ab) (ids:List Nat) (bs:List (List Bool)):Prop where
 len:ws.length=ids.length
 lt: ∀(i id:Nat),ids[i]?=some id→id<bs.length
 U: ∀(i id:Nat) (h:ab),ws[i]?=some h→ids[i]?=some id→h.U.length=(bs.getD id []).length
theorem ei {s:Nat} {ws:List ab} {ids:List Nat} {i:Int} (aE:ws.length=ids.length) (hi:i.toNat<ws.length):(bh s ws ids)[i.toNat]?=some (jP s (nth ws i) (nth ids i)):=by
 unfold bh
 rw[List.getElem?_zipWith,fY hi,fY (by omega)]
theorem vo {s:Nat} {ws:List ab} {ids:List Nat} (aE:ws.length=ids.length):(bh s ws ids).length=ws.length:=by
 unfold bh;rw[List.length_zipWith];omega
theorem yr {s:Nat} {ws:List ab} {ids:List Nat} {i:Nat} {h:ab} {id:Nat} (aE:ws.length=ids.length):(bh s ws ids).set i (jP s h id)=bh s (ws.set i h) (ids.set i id):=by
 apply List.ext_getElem?
 intro j
 unfold bh
 rw[List.getElem?_set,List.getElem?_zipWith,List.getElem?_zipWith,List.getElem?_set,List.getElem?_set]
 by_cases j7:i=j
 ·subst j7
  simp only[if_true,List.length_zipWith]
  by_cases hi:i<ws.length
  ·rw[if_pos (by omega),if_pos hi,if_pos (by omega)]
  ·rw[if_neg (by omega),if_neg hi]
 ·simp only[if_neg j7]
theorem lI {s:Nat} {ws:List ab} {ids:List Nat} {i:Int} {h:ab} (aE:ws.length=ids.length) (hi:i.toNat<ws.length):(bh s ws ids).set i.toNat (jP s h (nth ids i))=bh s (ws.set i.toNat h) ids:=by
 rw[yr aE]
 congr 1
 rw[Xn (by omega)]
 exact List.set_getElem_self _
theorem Sa {s:Nat} {ws:List ab} {ids:List Nat} {h:ab} {id:Nat} (aE:ws.length=ids.length):bh s ws ids++[jP s h id]=bh s (ws++[h]) (ids++[id]):=by
 unfold bh
 rw[List.zipWith_append aE];rfl
theorem pO {bs:List (List Bool)} {id:Nat} (h:id<bs.length):(List.map bB bs)[id]?=some (bB (bs.getD id [])):=by
 rw[List.getElem?_map,List.getElem?_eq_getElem h,List.getD_eq_getElem?_getD,List.getElem?_eq_getElem h];rfl
theorem BP {bs:List (List Bool)} {id:Nat} {b:List Bool}:(List.map bB bs).set id (bB b)=List.map bB (bs.set id b):=by rw[List.map_set]
theorem u2 {b:List Bool} {i:Int} (h:i.toNat<b.length):(List.map aU b)[i.toNat]?=some (aU (nth b i)):=by rw[List.getElem?_map,fY h];rfl
theorem AX {b:List Bool} {i:Nat} {x:Bool}:(List.map aU b).set i (aU x)=List.map aU (b.set i x):=by rw[List.map_set]
theorem iC {ws:List ab} {ids:List Nat} {bs:List (List Bool)} (h:lk ws ids bs):(view ws ids bs).length=ws.length:=by
 unfold view;rw[List.length_zipWith];have:=h.len;omega
theorem uy {ws:List ab} {ids:List Nat} {bs:List (List Bool)} {i:Nat} {h:ab} {id:Nat} (h1:ws[i]?=some h) (h2:ids[i]?=some id):(view ws ids bs)[i]?=some {h with U:=bs.getD id []}:=by
 unfold view;rw[List.getElem?_zipWith,h1,h2]
theorem r9 {s:Nat} {ws:List ab} {ids:List Nat} {i:Nat} {row:List AV} (h:(bh s ws ids)[i]?=some row): ∃x id,ws[i]?=some x∧ids[i]?=some id∧row=jP s x id:=by
 unfold bh at h
 rw[List.getElem?_zipWith] at h
 cases hx:ws[i]? with
 | none=>rw[hx] at h;cases h
 | some x=>
  cases aY:ids[i]? with
  | none=>rw[hx,aY] at h;cases h
  | some id=>rw[hx,aY] at h;cases h;exact⟨x,id,rfl,rfl,rfl⟩
theorem zQ {L:List (Nat×List AV)} {H:List Blk} {b s n:Nat} {full:Bool} {ws:List ab} {ids:List Nat} {bs:List (List Bool)} (ap:n=ws.length) (hb:H[b]?=some ⟨0,5,bh s ws ids⟩)
  (hf: ∀(id:Nat) (k:Blk),(List.map bB bs)[id]?=some k→H[id+s]?=some k) (ok:lk ws ids bs) (hP:ws.length≤4611686018427387904) (yo: ∀x∈bs,x.length≤4611686018427387904):
  eW L H (.ref b 0 0 n full) (.aR (List.map (ct false) (view ws ids bs)) false false):=by
 subst ap
 refine eW.ref (fun h=>by cases h) hb rfl (by rw[List.length_map,iC ok]) hP (by rw[Nat.zero_add,vo ok.len];exact Nat.le_refl _) (fun i row row' h1 h2=> ?_) (fun i j row row' a c h1 h2 aH bn=> ?_)
 ·rw[Nat.zero_add] at h1
  obtain⟨x,id,hx,aY,rfl⟩:=r9 h1
  rw[List.getElem?_map,uy hx aY] at h2
  cases h2;rfl
 ·rw[Nat.zero_add] at h1
  obtain⟨x,id,hx,aY,rfl⟩:=r9 h1
  rw[List.getElem?_map,uy hx aY] at h2
  cases h2
  have aS:=ok.lt i id aY
  have key:l9 L H (jP s x id) (ct false {x with U:=bs.getD id []}):=by
   refine .cons (.int _ _) (.cons (.int _ _) (.cons ?_ (.cons (.bool _) (.cons (.int _ _) .nil))))
   have hm:bs.getD id []∈bs:=by rw[List.getD_eq_getElem?_getD,List.getElem?_eq_getElem aS];exact List.getElem_mem aS
   exact sa (eT:=aU) (eF:=aU) (sz:=1) (ok.U i id x hx aY) (hf id _ (pO aS)) yT (yo _ hm)
  exact key.2 j a c aH bn
theorem aay {H:List Blk} {b g s n:Nat} {full:Bool} {ws ys:List ab} {ids:List Nat} {bs:List (List Bool)} (ap:n=ws.length) (hb:H[b]?=some ⟨g,5,bh s ws ids⟩)
  (hf: ∀(id:Nat) (k:Blk),(List.map bB bs)[id]?=some k→H[id+s]?=some k) (h:lk ws ids bs∧ws.length≤4611686018427387904∧(∀x∈bs,x.length≤4611686018427387904)∧view ws ids bs=ys):
  fm H (.ref b g 0 n full) (.aR (List.map (ct false) ys) false true):=by
 obtain⟨ok,hP,yo,rfl⟩:=h
 subst ap
 refine fm.ref (fun h=>by cases h) (fun i j=>(((view ws ids bs)[i]?).bind fun x=>(ct true x)[j]?).getD .undef) hb rfl (by rw[List.length_map,iC ok]) hP (by rw[Nat.zero_add,vo ok.len];exact Nat.le_refl _) (fun i row row' h1 h2=> ?_) (fun i j row a hi h1 h2=> ?_) (fun i j row' c h1 h2=> ?_)
 ·rw[Nat.zero_add] at h1
  obtain⟨x,id,hx,aY,rfl⟩:=r9 h1
  rw[List.getElem?_map,uy hx aY] at h2
  cases h2;rfl
 ·rw[Nat.zero_add] at h1
  obtain⟨x,id,hx,aY,rfl⟩:=r9 h1
  rw[uy hx aY]
  have aS:=ok.lt i id aY
  have hm:bs.getD id []∈bs:=by rw[List.getD_eq_getElem?_getD,List.getElem?_eq_getElem aS];exact List.getElem_mem aS
  show fm H a (((some ({x with U:=bs.getD id []}:ab)).bind fun x=>(ct true x)[j]?).getD .undef)
  match j,h2 with
  | 0,h2=>cases h2;exact .int _ _
  | 1,h2=>cases h2;exact .int _ _
  | 2,h2=>
   cases h2
   exact zZ (eT:=aU) (eF:=aU) (sz:=1) (ok.U i id x hx aY) (hf id _ (pO aS)) AZ ⟨yo _ hm,rfl⟩
  | 3,h2=>cases h2;exact .bool _
  | 4,h2=>cases h2;exact .int _ _
  | j+5,h2=>simp[jP] at h2
 ·rw[List.getElem?_map] at h1
  cases hv:(view ws ids bs)[i]? with
  | none=>rw[hv] at h1;cases h1
  | some x=>
   rw[hv] at h1;cases h1
   show c=hF (((some x).bind fun x=>(ct true x)[j]?).getD .undef)
   match j,h2 with
   | 0,h2=>cases h2;rfl
   | 1,h2=>cases h2;rfl
   | 2,h2=>cases h2;rfl
   | 3,h2=>cases h2;rfl
   | 4,h2=>cases h2;rfl
   | j+5,h2=>simp[ct] at h2
theorem Weak.DQ [b6] (sz:Nat) {T:List AV} {L:List (Nat×List AV)} {H:List Blk}:Weak ⟨T,L,H⟩ ⟨T,L,H++[⟨0,sz,[]⟩]⟩:=fun bY E tmps g s=>by
 obtain⟨E',hw,bf,h1,h2,_⟩:=ze (blk:=⟨0,sz,[]⟩) s.h s.l rfl rfl
 exact⟨E',hw,g.step bf,h1,h2,fun t=>(s.gO t).le bf.le,s.size⟩
theorem Weak.clear [b6] (j:Nat) {g sz:Nat} {rows:List (List AV)} {T:List AV} {L:List (Nat×List AV)} {H:List Blk} (ar:H[j]?=some ⟨g,sz,rows⟩):Weak ⟨T,L,H⟩ ⟨T,L,H.set j ⟨g,sz,[]⟩⟩:=fun bY E tmps RB s=>by
 have j8:=(List.getElem?_eq_some_iff.1 ar).1
 have get: ∀(b:Nat) (blk:Blk),(H.set j ⟨g,sz,[]⟩)[b]?=some blk→(b=j∧blk=⟨g,sz,[]⟩)∨(b≠j∧H[b]?=some blk):=fun b blk h=>by
  rw[List.getElem?_set] at h
  split at h
  ·rename_i e;subst e;exact .inl ⟨rfl,(Option.some.inj h).symm⟩
  ·rename_i e;exact .inr ⟨fun h=>e h.symm,h⟩
 have f_:SimH E H:=s.h
 refine⟨E,rfl,RB,{f_ with
  heap:=fun b c hb=> ?_,dX:=fun b blk hb=> ?_,fX:=fun b hb=> ?_,fresh:=fun b hb=>f_.fresh b (by simpa using hb)},s.l,s.gO,s.size⟩
 ·obtain⟨blk,aw,ty,q1,b8,q2,q3,q4,cD⟩:=f_.heap b c hb
  by_cases e:b=j
  ·subst e
   rw[ar] at q1
   obtain rfl:=Option.some.inj q1
   exact⟨⟨g,sz,[]⟩,aw,ty,by rw[List.getElem?_set];simp[j8],b8,q2,q3,Nat.zero_le _,fun i row h=>by simp at h,fun i j row a h=>by simp at h⟩
  ·exact⟨blk,aw,ty,by rw[List.getElem?_set,if_neg (fun h=>e h.symm)];exact q1,b8,q2,q3,q4,cD⟩
 ·rcases get b blk hb with⟨rfl,rfl⟩ | ⟨_,hb⟩
  ·exact(f_.dX b _ ar:)
  ·exact f_.dX b blk hb
 ·obtain⟨blk,q1,b8⟩:=f_.fX b hb
  by_cases e:b=j
  ·subst e
   rw[ar] at q1
   obtain rfl:=Option.some.inj q1
   exact⟨⟨g,sz,[]⟩,by rw[List.getElem?_set];simp[j8],b8⟩
  ·exact⟨blk,by rw[List.getElem?_set,if_neg (fun h=>e h.symm)];exact q1,b8⟩
theorem YW (H:List Blk):H.map (jk 0)=H:=by
 have aM: ∀a:AV,iA 0 a=a:=fun a=>by cases a<;>simp[iA]
 have:jk 0=id:=by
  funext b
  obtain⟨g,s,rows⟩:=b
  show(⟨g,s,rows.map fun row=>row.map (iA 0)⟩:Blk)=⟨g,s,rows⟩
  congr 1
  have:(fun row:List AV=>row.map (iA 0))=id:=by funext row;rw[show iA 0=id from funext aM];simp
  rw[this];simp
 rw[this];simp
theorem Ls {g0 g1 g2 s:Nat} {aF:List Bool} {ou:List ck} {ws:List ab} {ids:List Nat} {bs:List (List Bool)}:ql (⟨g0,1,List.map aU aF⟩::⟨g1,2,List.map br ou⟩::⟨g2,5,bh s ws ids⟩::List.map bB bs)=true:=by
 refine rX (fun _=>rfl) (rX (fun _=>rfl) ?_)
 unfold ql
 rw[List.all_eq_true]
 intro b hb
 rw[List.all_eq_true]
 intro row aq
 rcases List.mem_cons.1 hb with rfl | hb
 ·obtain⟨i,hi⟩:=List.mem_iff_getElem?.1 aq
  obtain⟨x,id,_,_,rfl⟩:=r9 hi
  rfl
 ·obtain⟨b,_,rfl⟩:=List.mem_map.1 hb
  obtain⟨x,_,rfl⟩:=List.mem_map.1 aq
  rfl
def sg (j:Nat):Option Nat:=if j<3 then some j else some (j+1)
theorem Lt {r:AV} {g0 g1 g2 g3 c5 e5 n2:Nat} {f0 f1 f2:Bool} {R:Frame} {ok:Bool} {aF:List Bool} {ou:List ck} {ws:List ab} {ids:List Nat} {bs:List (List Bool)} {rows:List (List AV)}
  (h:ok=R.ok∧aF=R.aF∧ou=R.aB∧ws=R.M∧ids=List.range ws.length∧bs=ws.map ab.U) (aM:c5=aF.length) (h1:e5=ou.length) (h2:n2=ws.length) (aq:r= .agg [.bool ok,.ref 0 g0 0 c5 f0,.ref 1 g1 0 e5 f1,.ref 2 g2 0 n2 f2]):
  ∃cF,qP (⟨g0,1,List.map aU aF⟩::⟨g1,2,List.map br ou⟩::⟨g2,5,bh 4 ws ids⟩::⟨g3,5,rows⟩::List.map bB bs)
   (⟨0,1,List.map aU R.aF⟩::⟨0,2,List.map br R.aB⟩::⟨0,5,bh 3 R.M (List.range R.M.length)⟩::List.map bB (List.map ab.U R.M)) cF∧
   FR (⟨g0,1,List.map aU aF⟩::⟨g1,2,List.map br ou⟩::⟨g2,5,bh 4 ws ids⟩::⟨g3,5,rows⟩::List.map bB bs)
    (⟨0,1,List.map aU R.aF⟩::⟨0,2,List.map br R.aB⟩::⟨0,5,bh 3 R.M (List.range R.M.length)⟩::List.map bB (List.map ab.U R.M)).length cF r
    (.agg [.bool R.ok,.ref 0 0 0 R.aF.length false,.ref 1 0 0 R.aB.length false,.ref 2 0 0 R.M.length false]):=by
 obtain⟨rfl,rfl,rfl,rfl,rfl,rfl⟩:=h
 subst aM;subst h1;subst h2;subst aq
 have hlen:(⟨0,1,List.map aU R.aF⟩::⟨0,2,List.map br R.aB⟩::⟨0,5,bh 3 R.M (List.range R.M.length)⟩::List.map bB (List.map ab.U R.M):List Blk).length=R.M.length+3:=by simp
 refine⟨sg,⟨fun i j b hi ar h1 h2=> ?_,fun j k hk=> ?_,fun j b k hk hs=> ?_⟩,.inl ⟨_,_,rfl,rfl,?_⟩⟩
 ·unfold sg at h1 h2
  split at h1<;>split at h2<;>simp at h1 h2<;>omega
 ·match j,hk with
  | 0,hk=>simp at hk;subst hk;rfl
  | 1,hk=>simp at hk;subst hk;rfl
  | 2,hk=>simp at hk;subst hk;rfl
  | j+3,hk=>simp at hk;obtain⟨x,_,rfl⟩:=hk;rfl
 ·rw[hlen]
  match j,hk,hs with
  | 0,hk,hs=>
   simp at hk;subst hk
   obtain rfl:0=b:=by simpa[sg] using hs
   exact oA (b:=0) rfl wo rfl
  | 1,hk,hs=>
   simp at hk;subst hk
   obtain rfl:1=b:=by simpa[sg] using hs
   exact oA (b:=1) rfl DT rfl
  | 2,hk,hs=>
   simp at hk;subst hk
   obtain rfl:2=b:=by simpa[sg] using hs
   refine⟨_,rfl,rfl,⟨by rw[vo (by simp),vo (by simp)],fun i abW ev aC hb=> ?_⟩⟩
   obtain⟨x,id,hx,aY,rfl⟩:=r9 aC
   obtain⟨l8,fc,gU,pV,rfl⟩:=r9 hb
   rw[hx] at gU;cases gU
   rw[aY] at pV;cases pV
   have yA:i<R.M.length:=(List.getElem?_eq_some_iff.1 hx).1
   obtain rfl:i=id:=by rw[List.getElem?_range yA] at aY;exact Option.some.inj aY
   refine .cons (.int _ _) (.cons (.int _ _) (.cons ?_ (.cons (.bool _) (.cons (.int _ _) .nil))))
   refine hI.ref (blk:=bB x.U) (by omega) (by simp[sg]) ?_ rfl
   show(List.map bB (List.map ab.U R.M))[i]?=_
   rw[List.getElem?_map,List.getElem?_map,hx];rfl
  | j+3,hk,hs=>
   obtain rfl:j+4=b:=by
    unfold sg at hs
    rw[if_neg (by omega)] at hs;exact Option.some.inj hs
   have hk:(List.map bB (List.map ab.U R.M))[j]?=some k:=by simpa using hk
   have: ∃x,k=bB x:=by
    rw[List.getElem?_map] at hk
    cases af:(List.map ab.U R.M)[j]? with
    | none=>rw[af] at hk;cases hk
    | some x=>rw[af] at hk;cases hk;exact⟨x,rfl⟩
   obtain⟨x,rfl⟩:=this
   have hb:(⟨g0,1,List.map aU R.aF⟩::⟨g1,2,List.map br R.aB⟩::⟨g2,5,bh 4 R.M (List.range R.M.length)⟩::⟨g3,5,rows⟩::List.map bB (List.map ab.U R.M):List Blk)[j+4]?=some ⟨0,1,List.map aU x⟩:=hk
   exact oA (b:=j+4) hb wo rfl
 ·rw[hlen]
  exact .cons (.bool _) (.cons (.ref (by omega) rfl rfl rfl) (.cons (.ref (by omega) rfl rfl rfl) (.cons (.ref (by omega) rfl rfl rfl) .nil)))
theorem YZ {k s:Nat} {ws:List ab} {ids:List Nat}:(bh s ws ids).map (fun row=>row.map (iA k))=bh (s+k) ws ids:=by
 apply List.ext_getElem?
 intro i
 unfold bh
 rw[List.getElem?_map,List.getElem?_zipWith,List.getElem?_zipWith]
 cases ws[i]? with
 | none=>rfl
 | some h=>
  cases ids[i]? with
  | none=>rfl
  | some id=>
   show some [_,_,AV.ref (k+(id+s)) 0 0 h.U.length false,_,_]=some [_,_,AV.ref (id+(s+k)) 0 0 h.U.length false,_,_]
   rw[show k+(id+s)=id+(s+k) by omega];rfl
theorem YX {k:Nat} {bs:List (List Bool)}:(List.map bB bs).map (jk k)=List.map bB bs:=by
 rw[List.map_map]
 refine List.map_congr_left fun b _=> ?_
 show(⟨0,1,(List.map aU b).map fun row=>row.map (iA k)⟩:Blk)=⟨0,1,_⟩
 rw[List.map_map]
 congr 1
theorem YY {k g0 g1 g2 s:Nat} {aF:List Bool} {ou:List ck} {ws:List ab} {ids:List Nat} {bs:List (List Bool)}:
  (⟨g0,1,List.map aU aF⟩::⟨g1,2,List.map br ou⟩::⟨g2,5,bh s ws ids⟩::List.map bB bs:List Blk).map (jk k)=⟨g0,1,List.map aU aF⟩::⟨g1,2,List.map br ou⟩::⟨g2,5,bh (s+k) ws ids⟩::List.map bB bs:=by
 refine sh (fun _=>rfl) (sh (fun _=>rfl) ?_)
 show(⟨g2,5,(bh s ws ids).map fun row=>row.map (iA k)⟩:Blk)::(List.map bB bs).map (jk k)=_
 rw[YZ,YX]
structure iG (ws:List ab) (ids:List Nat) (bs:List (List Bool)):Prop where
 ok:lk ws ids bs
 jx: ∀i j k:Nat,ids[i]?=some k→ids[j]?=some k→i=j
 len: ∀b∈bs,b.length≤1048576
theorem va {bs:List (List Bool)} {b:List Bool}:List.map bB bs++[⟨0,1,List.map aU b⟩]=List.map bB (bs++[b]):=by rw[List.map_append];rfl
section
variable {P:Program} {esc:List Nat} {ops:Array Oper} {n:Nat} {X:List Oper} {i0:Nat} {A:List (Nat×AV)} {L:List (Nat×List AV)} {H:List Blk} {K:List (Nat×AV)→List (Nat×List AV)→List Blk→Prop}
theorem kL (a8:Nat) (d:Option Nat) (N:List (Nat×AV)) (rows:List (List AV)) {row:List AV} (i:Int) (t:TypeId) (c g:Nat) (v:AV) (eg:rows[i.toNat]?=some row) (h:evS P esc ops n (X.drop (i0+a8)) (c1 d v N A) L H K)
  (e2: ∀K,hE P t row c K=K v:=by intro K;kernel_rfl)
  (e: ∀K,evS P esc ops n ((X.drop i0).take a8) A L H K=(g=g∧cn rows[0+i.toNat]? fun row=>hE P t row c fun v=>K (c1 d v N A) L H):=by intro K;kernel_rfl):evS P esc ops n (X.drop i0) A L H K:=by
 rw[ij X i0 a8,e]
 exact⟨rfl,dk (a:=row) (by rw[Nat.zero_add];exact eg) (by rw[e2];exact h)⟩
theorem YQ (a8:Nat) (d:Option Nat) (N:List (Nat×AV)) (rows:List (List AV)) {row row':List AV} (i:Int) (c k g:Nat) (cells:List AV) (H':List (List AV)→List Blk) (ia:List (List AV)) (eg:rows[i.toNat]?=some row) (p5:rows.set i.toNat row'=ia)
  (h:evS P esc ops n (X.drop (i0+a8)) (c1 d (.tup []) N A) L (H' ia) K) (hc:Nat.ble (c+k) row.length=true:=by kernel_rfl) (hs:ft row c cells=row':=by kernel_rfl)
  (e: ∀K,evS P esc ops n ((X.drop i0).take a8) A L H K=(g=g∧cn rows[0+i.toNat]? fun row=>c+k≤row.length∧K (c1 d (.tup []) N A) L (H' (rows.set (0+i.toNat) (ft row c cells)))):=by intro K;kernel_rfl):evS P esc ops n (X.drop i0) A L H K:=by
 rw[ij X i0 a8,e]
 refine⟨rfl,dk (a:=row) (by rw[Nat.zero_add];exact eg) ⟨Nat.le_of_ble_eq_true hc,?_⟩⟩
 ·rw[hs,Nat.zero_add,p5];exact h
theorem ld (a8:Nat) (d:Option Nat) (N:List (Nat×AV)) (rows:List (List AV)) {row row':List AV} (i:Int) (c k g:Nat) (cells:List AV) (j:Nat) (ia:List (List AV)) (eg:rows[i.toNat]?=some row) (p5:rows.set i.toNat row'=ia)
  (h:evS P esc ops n (X.drop (i0+a8)) (c1 d (.tup []) N A) L (hd j ia H) K) (hc:Nat.ble (c+k) row.length=true:=by kernel_rfl) (hs:ft row c cells=row':=by kernel_rfl)
  (e: ∀K,evS P esc ops n ((X.drop i0).take a8) A L H K=(g=g∧cn rows[0+i.toNat]? fun row=>c+k≤row.length∧K (c1 d (.tup []) N A) L (hd j (rows.set (0+i.toNat) (ft row c cells)) H)):=by intro K;kernel_rfl):evS P esc ops n (X.drop i0) A L H K:=YQ a8 d N rows i c k g cells (fun r=>hd j r H) ia eg p5 h hc hs e
theorem YJ (a8:Nat) (d:Option Nat) (N:List (Nat×AV)) (bs:List (List Bool)) (id s:Nat) {i:Int} {m:Nat} (hid:id<bs.length) (aM:0≤i∧i.toNat<m) (h:evS P esc ops n (X.drop (i0+a8)) (c1 d (.ptr (id+s) 0 (0+i.toNat) 0) N A) L H K)
  (e: ∀K,evS P esc ops n ((X.drop i0).take a8) A L H K=(cn (List.map bB bs)[id]? fun blk=>blk.bc=0∧blk.sz=1∧0≤i∧i<m∧K (c1 d (.ptr (id+s) 0 (0+i.toNat) 0) N A) L H):=by intro K;kernel_rfl):evS P esc ops n (X.drop i0) A L H K:=by
 rw[ij X i0 a8,e]
 exact dk (pO hid) ⟨rfl,rfl,aM.1,by have:=aM.2;omega,h⟩
theorem YP (a8:Nat) (d:Option Nat) (N:List (Nat×AV)) (bs:List (List Bool)) (id:Nat) (i:Int) (x:Bool) (H':List Blk→List Blk) (hid:id<bs.length) (hi:i.toNat<(bs.getD id []).length)
  (h:evS P esc ops n (X.drop (i0+a8)) (c1 d (.tup []) N A) L (H' (List.map bB (bs.set id ((bs.getD id []).set i.toNat x)))) K)
  (e: ∀K,evS P esc ops n ((X.drop i0).take a8) A L H K=(cn (List.map bB bs)[id]? fun blk=>blk.bc=0∧cn blk.rows[0+i.toNat]? fun row=>0+1≤row.length∧K (c1 d (.tup []) N A) L (H' ((List.map bB bs).set id {blk with rows:=blk.rows.set (0+i.toNat) (ft row 0 [.bool x])}))):=by intro K;kernel_rfl):evS P esc ops n (X.drop i0) A L H K:=by
 rw[ij X i0 a8,e]
 have key:(List.map bB bs).set id {bB (bs.getD id []) with rows:=(bB (bs.getD id [])).rows.set (0+i.toNat) (ft (aU (nth (bs.getD id []) i)) 0 [.bool x])}=List.map bB (bs.set id ((bs.getD id []).set i.toNat x)):=by
  rw[←BP]
  congr 1
  show(⟨0,1,(List.map aU (bs.getD id [])).set (0+i.toNat) (aU x)⟩:Blk)=⟨0,1,_⟩
  rw[Nat.zero_add,AX]
 refine dk (pO hid) ⟨rfl,dk (a:=aU (nth (bs.getD id []) i)) (by rw[Nat.zero_add];exact u2 hi) ⟨Nat.le_refl _,?_⟩⟩
 ·rw[key];exact h
theorem YR (a8:Nat) (N:List (Nat×AV)) (H':List Blk) {φ ψ:Prop} (h1:φ) (h2:ψ) (h:evS P esc ops n (X.drop (i0+a8)) (fs N A) L H' K) (e: ∀K,evS P esc ops n ((X.drop i0).take a8) A L H K=(φ∧ψ∧K (fs N A) L H'):=by intro K;kernel_rfl):evS P esc ops n (X.drop i0) A L H K:=by
 rw[ij X i0 a8,e];exact⟨h1,h2,h⟩
theorem YO (H':List Blk) (ax:H=H') (h:evS P esc ops n (X.drop i0) A L H' K):evS P esc ops n (X.drop i0) A L H K:=by
 subst ax;exact h
theorem Ev (a8:Nat) (d:Option Nat) (N:List (Nat×AV)) {g:FuncId} (args:List AV) (Q:AV→List Blk→Prop) (hf:dc P g args H Q) (aq: ∀r H',Q r H'→tI r=true) (h: ∀r H',Q r H'→evS P esc ops n (X.drop (i0+a8)) (c1 d r N A) L H' K)
  (ap:args.all dL=true:=by kernel_rfl) (aE:args.all iv=true:=by kernel_rfl) (e: ∀K,evS P esc ops n ((X.drop i0).take a8) A L H K=(jq P g args L H (fun v L' H'=>K (c1 d v N A) L' H')):=by intro K;kernel_rfl):evS P esc ops n (X.drop i0) A L H K:=by
 rw[ij X i0 a8,e]
 exact .inr (.inr (.inl ⟨ap,aE,hf.mono fun r H' af=>⟨aq r H' af,h r H' af⟩⟩))
theorem YN (a8:Nat) (d:Option Nat) (N:List (Nat×AV)) {i:Int} (B:Int) (z:List AV) (m:Nat) (kr:List Blk) (aM:0≤i∧B*i≤140737488355328∧i≤4611686018427387904) (aE:H.length=m) (hx:H++[⟨0,1,List.map aU (List.replicate i.toNat false)⟩]=kr)
  (h:evS P esc ops n (X.drop (i0+a8)) (c1 d (.ref m 0 0 (List.replicate i.toNat false).length false) N A) L kr K) (aJ:z=aU false:=by rfl)
  (e: ∀K,evS P esc ops n ((X.drop i0).take a8) A L H K=(0≤i∧i≤i∧B*i≤140737488355328∧i≤4611686018427387904∧K (c1 d (.ref H.length 0 0 i.toNat false) N A) L (H++[⟨0,1,List.replicate i.toNat z⟩])):=by intro K;kernel_rfl):evS P esc ops n (X.drop i0) A L H K:=by
 rw[ij X i0 a8,e]
 subst aE;subst hx;subst aJ
 rw[List.length_replicate,List.map_replicate] at h
 exact⟨aM.1,Int.le_refl _,aM.2.1,aM.2.2,h⟩
theorem YK (a8:Nat) (d:Option Nat) (N:List (Nat×AV)) (ys:List Bool) (B:Nat) (m:Nat) (kr:List Blk) (aM:ys.length*B≤140737488355328∧ys.length≤4611686018427387904) (aE:H.length=m) (hx:H++[⟨0,1,List.map aU ys⟩]=kr)
  (h:evS P esc ops n (X.drop (i0+a8)) (c1 d (.ref m 0 0 ys.length false) N A) L kr K)
  (e: ∀K,evS P esc ops n ((X.drop i0).take a8) A L H K=(true=true∧true=true∧qu 1 (List.map aU ys)∧true=true∧(∀row∈([]:List (List AV)),row.length=1)∧(List.length (α:=List AV) []+(List.map aU ys).length)*B≤140737488355328∧List.length (α:=List AV) []+(List.map aU ys).length≤4611686018427387904∧(([]:List (List AV))≠[]→(List.map aU ys)≠[])∧
   K (c1 d (.ref H.length 0 0 (List.length (α:=List AV) []+(List.map aU ys).length) false) N A) L (H++[⟨0,1,[]++(List.map aU ys)⟩])):=by intro K;kernel_rfl):evS P esc ops n (X.drop i0) A L H K:=by
 rw[ij X i0 a8,e]
 subst aE;subst hx
 refine⟨rfl,rfl,Ep (enc:=aU) (fun _=>⟨rfl,rfl⟩) ys,rfl,(fun row h=>by cases h),by simpa using aM.1,by simpa using aM.2,(fun h=>absurd rfl h),?_⟩
 simpa using h
theorem Mu (a8:Nat) (d:Option Nat) (N:List (Nat×AV)) (s b g q B:Nat) (ws:List ab) (ids:List Nat) (x:ab) (id:Nat) (H':List (List AV)→List Blk) (aE:ws.length=ids.length)
  (aM:(ws.length+1)*B≤140737488355328∧ws.length+1≤4611686018427387904) (h:evS P esc ops n (X.drop (i0+a8)) (c1 d (.ref b (g+1) 0 (ws++[x]).length false) N A) L (H' (bh s (ws++[x]) (ids++[id]))) K)
  (e: ∀K,evS P esc ops n ((X.drop i0).take a8) A L H K=(true=true∧true=true∧(q=q∧0+1≤1∧(qu 5 [jP s x id]∧0=0∧g=g∧5=5∧(bh s ws ids).length=ws.length∧(ws.length+1)*B≤140737488355328∧ws.length+1≤4611686018427387904∧
   K (c1 d (.ref b (g+1) 0 (ws.length+1) false) N A) L (H' (bh s ws ids++[jP s x id]))))):=by intro K;kernel_rfl):evS P esc ops n (X.drop i0) A L H K:=by
 rw[ij X i0 a8,e]
 refine⟨rfl,rfl,rfl,Nat.le_refl _,?_,rfl,rfl,rfl,vo aE,aM.1,aM.2,?_⟩
 ·intro row aq
  rw[List.mem_singleton.1 aq]
  exact⟨rfl,fun a aC=>List.all_eq_true.1 (show(jP s x id).all hX=true from rfl) a aC⟩
 ·rw[Sa aE];rw[List.length_append] at h;exact h
end
section
variable {P:Program} {esc:List Nat} {ops:Array Oper} {n:Nat} {X:List Item} {i0:Nat} {A:List (Nat×AV)} {L:List (Nat×List AV)} {H:List Blk} {K:List (Nat×AV)→List (Nat×List AV)→List Blk→Prop}
theorem l5 (a8:Nat) (d:Option Nat) (N:List (Nat×AV)) (rows:List (List AV)) {row:List AV} (i:Int) (t:TypeId) (c g:Nat) (v:AV) (eg:rows[i.toNat]?=some row) (h:evSD P esc ops n (X.drop (i0+a8)) (c1 d v N A) L H K)
  (e2: ∀K,hE P t row c K=K v:=by intro K;kernel_rfl)
  (e: ∀K,evSD P esc ops n ((X.drop i0).take a8) A L H K=(g=g∧cn rows[0+i.toNat]? fun row=>hE P t row c fun v=>K (c1 d v N A) L H):=by intro K;kernel_rfl):evSD P esc ops n (X.drop i0) A L H K:=by
 rw[k0 X i0 a8,e]
 exact⟨rfl,dk (a:=row) (by rw[Nat.zero_add];exact eg) (by rw[e2];exact h)⟩
theorem sn (a8:Nat) (d:Option Nat) (N:List (Nat×AV)) (bs:List (List Bool)) (id s:Nat) {i:Int} {m:Nat} (hid:id<bs.length) (aM:0≤i∧i.toNat<m) (h:evSD P esc ops n (X.drop (i0+a8)) (c1 d (.ptr (id+s) 0 (0+i.toNat) 0) N A) L H K)
  (e: ∀K,evSD P esc ops n ((X.drop i0).take a8) A L H K=(cn (List.map bB bs)[id]? fun blk=>blk.bc=0∧blk.sz=1∧0≤i∧i<m∧K (c1 d (.ptr (id+s) 0 (0+i.toNat) 0) N A) L H):=by intro K;kernel_rfl):evSD P esc ops n (X.drop i0) A L H K:=by
 rw[k0 X i0 a8,e]
 exact dk (pO hid) ⟨rfl,rfl,aM.1,by have:=aM.2;omega,h⟩
theorem w6 (a8:Nat) (d:Option Nat) (N:List (Nat×AV)) (bs:List (List Bool)) (id:Nat) (i:Int) (t:TypeId) (hid:id<bs.length) (hi:i.toNat<(bs.getD id []).length) (h:evSD P esc ops n (X.drop (i0+a8)) (c1 d (.bool (nth (bs.getD id []) i)) N A) L H K)
  (e2: ∀x K,hE P t (aU x) 0 K=K (.bool x):=by intro x K;kernel_rfl)
  (e: ∀K,evSD P esc ops n ((X.drop i0).take a8) A L H K=(cn (List.map bB bs)[id]? fun blk=>blk.bc=0∧cn blk.rows[0+i.toNat]? fun row=>hE P t row 0 fun v=>K (c1 d v N A) L H):=by intro K;kernel_rfl):evSD P esc ops n (X.drop i0) A L H K:=by
 rw[k0 X i0 a8,e]
 refine dk (pO hid) ⟨rfl,dk (a:=aU (nth (bs.getD id []) i)) (by rw[Nat.zero_add];exact u2 hi) (by rw[e2];exact h)⟩
theorem NW (a8:Nat) (d:Option Nat) (N:List (Nat×AV)) (bs:List (List Bool)) (id:Nat) (i:Int) (x:Bool) (F:List Blk→Prop) (H':List Blk→List Blk) (hid:id<bs.length) (hi:i.toNat<(bs.getD id []).length)
  (dJ:F ((List.map bB (bs.set id ((bs.getD id []).set i.toNat x))))) (h:evSD P esc ops n (X.drop (i0+a8)) (c1 d (.tup []) N A) L (H' (List.map bB (bs.set id ((bs.getD id []).set i.toNat x)))) K)
  (e: ∀K,evSD P esc ops n ((X.drop i0).take a8) A L H K=(cn (List.map bB bs)[id]? fun blk=>blk.bc=0∧cn blk.rows[0+i.toNat]? fun row=>0+1≤row.length∧F (((List.map bB bs).set id {blk with rows:=blk.rows.set (0+i.toNat) (ft row 0 [.bool x])}))∧K (c1 d (.tup []) N A) L (H' ((List.map bB bs).set id {blk with rows:=blk.rows.set (0+i.toNat) (ft row 0 [.bool x])}))):=by intro K;kernel_rfl):evSD P esc ops n (X.drop i0) A L H K:=by
 rw[k0 X i0 a8,e]
 have key:(List.map bB bs).set id {bB (bs.getD id []) with rows:=(bB (bs.getD id [])).rows.set (0+i.toNat) (ft (aU (nth (bs.getD id []) i)) 0 [.bool x])}=List.map bB (bs.set id ((bs.getD id []).set i.toNat x)):=by
  rw[←BP]
  congr 1
  show(⟨0,1,(List.map aU (bs.getD id [])).set (0+i.toNat) (aU x)⟩:Blk)=⟨0,1,_⟩
  rw[Nat.zero_add,AX]
 refine dk (pO hid) ⟨rfl,dk (a:=aU (nth (bs.getD id []) i)) (by rw[Nat.zero_add];exact u2 hi) ⟨Nat.le_refl _,?_,?_⟩⟩
 ·rw[key];exact dJ
 ·rw[key];exact h
end
theorem YU {H:List Blk} {b j:Nat} {x y:Blk} (h:(H.set b x)[j]?=some y):(j=b∧y=x)∨(j≠b∧H[j]?=some y):=by
 rw[List.getElem?_set] at h
 split at h
 ·rename_i e;subst e
  split at h
  ·cases h;exact .inl ⟨rfl,rfl⟩
  ·cases h
 ·rename_i e;exact .inr ⟨fun h=>e h.symm,h⟩
theorem Hu [hp:b6] {bY E:Env} {H:List Blk} {L:List (Nat×List AV)} (g:Good bY E) (ax:SimH E H) (bH:SimL E L) {b ks sz:Nat} {rows:List (List AV)} (hb:H[b]?=some ⟨ks,sz,rows⟩) (fo:hp.n≤b)
  (hk: ∀row∈rows,∀a∈row,hJ a=true∧lE a=true) (hP:rows.length≤4611686018427387904):
  ∃E',E'.w=E.w∧Good bY E'∧SimH E' (H.set b ⟨ks+1,sz,[]⟩)∧SimL E' L∧E.fx E'∧E'.mL=E.mL∧ ∀v full,ea E (.ref b ks 0 rows.length full) v→aQ E'.w E'.PA E'.PF (.aR (rows.map fun row=>row.map hF) false true) v:=by
 have im:E.bc b=ks:=ax.dX b _ hb
 have n9:=(List.getElem?_eq_some_iff.1 hb).1
 let E':Env:={E with PA:=fun c=>E.PA c∨E.m b=some (some c),PF:=fun c=>E.PF c∨E.m b=some (some c),m:=fun j=>if j=b then none else E.m j,bc:=fun j=>if j=b then ks+1 else E.bc j}
 have hm: ∀{j:Nat} {x:Option Nat},E'.m j=some x→j≠b∧E.m j=some x:=fun{j x} h=>by
  have h:(if j=b then none else E.m j)=some x:=h
  split at h
  ·cases h
  ·rename_i e;exact⟨e,h⟩
 have aL: ∀{j:Nat},j≠b→E'.bc j=E.bc j:=fun{j} h=>if_neg h
 have hle:E.fx E':=⟨fun _ h=> .inl h,fun _ h=> .inl h,fun _ _=>rfl,fun _ _=>rfl,fun j=>by
   show E.bc j≤(if j=b then ks+1 else E.bc j)
   split
   ·rename_i e;subst e;omega
   ·exact Nat.le_refl _,fun j x hx oa=>by
   have oa:(if j=b then ks+1 else E.bc j)=E.bc j:=oa
   have cd:j≠b:=fun e=>by subst e;rw[if_pos rfl] at oa;omega
   exact⟨by show(if j=b then none else E.m j)=_;rw[if_neg cd];exact hx,rfl,rfl⟩,fun _ _ h=>h⟩
 have dq: ∀c,E.m b=some (some c)→bY.w.heap.size≤c:=fun c hc=>(g.hB b c hc).elim (fun h=>by rw[(g.wj b fo).1] at h;cases h) id
 have iq:=ax.eQ
 refine⟨E',rfl,?_,?_,?_,hle,rfl,?_⟩
 ·exact{g with
   le:=g.le.trans hle
   hB:=fun j c h=>g.hB j c (hm h).2
   hR:=g.hR
   eJ:=fun c hc=>hc.elim (g.eJ c) fun h=> .inr (dq c h)
   eD:=fun c hc=>hc.elim (g.eD c) fun h=> .inr (dq c h)}
 ·exact{ax with
   heap:=fun j c h=>by
    obtain⟨cd,h⟩:=hm h
    obtain⟨blk,aw,ty,q1,b8,q2,q3,q4,cD,cu⟩:=ax.heap j c h
    refine⟨blk,aw,ty,by rw[List.getElem?_set,if_neg (fun e=>cd e.symm)];exact q1,b8,q2,q3,q4,cD,fun i k row a h1 h2=> ?_⟩
    obtain⟨u,hu,aq⟩:=cu i k row a h1 h2
    exact⟨u,hu,aq.le hle.bK⟩
   dX:=fun j blk h=>by
    rcases YU h with⟨rfl,rfl⟩ | ⟨cd,h⟩
    ·exact if_pos rfl
    ·rw[aL cd];exact ax.dX j blk h
   fX:=fun j h=>by
    obtain⟨cd,h⟩:=hm h
    obtain⟨blk,q1,q2⟩:=ax.fX j h
    exact⟨blk,by rw[List.getElem?_set,if_neg (fun e=>cd e.symm)];exact q1,q2⟩
   fresh:=fun j h=>by
    rw[List.length_set] at h
    have:=ax.fresh j h
    have cd:j≠b:=by omega
    exact⟨by show(if j=b then none else E.m j)=none;rw[if_neg cd];exact this.1,by rw[aL cd];exact this.2⟩
   gu:=fun j k c h1 h2=>ax.gu j k c (hm h1).2 (hm h2).2
   fz:=fun j t c h1 h2=>ax.fz j t c (hm h1).2 h2
   gw:=fun c hc ⟨j,ar⟩=>by
    obtain⟨cd,ar⟩:=hm ar
    rcases hc with hc | hc
    ·exact ax.gw c hc ⟨j,ar⟩
    ·exact cd (ax.gu j b c ar hc)
   gM:=fun c hc ⟨t,bj⟩=>by
    rcases hc with hc | hc
    ·exact ax.gM c hc ⟨t,bj⟩
    ·exact ax.fz b t c hc bj
   c4:=fun c hc=>hc.elim (fun h=> .inl (ax.c4 c h)) .inr
   eK:=fun c hc=>hc.elim (ax.eK c) fun h=>by
    obtain⟨_,aw,ty,_,_,q,_⟩:=ax.heap b c h
    exact⟨aw,ty,q⟩
   db:=fun c hc=>hc.elim (ax.db c) fun h=>iq c ⟨b,h⟩
   eQ:=fun c ⟨j,ar⟩=>iq c ⟨j,(hm ar).2⟩}
 ·intro t c bj
  obtain⟨cells,aw,ty,q1,q2,q3⟩:=bH t c bj
  exact⟨cells,aw,ty,q1,q2,q3.mono fun _ _ k=>k.le hle.bK⟩
 ·intro v full hv
  rcases hv with⟨bw,_⟩ | ⟨e3,bw⟩
  ·omega
  ·rcases bw with⟨_,_,j_,A,rfl⟩ | ⟨c,cap,iN,rfl,mn,m8,n_⟩
   ·obtain rfl:rows=[]:=List.eq_nil_of_length_eq_zero j_
    exact aQ.aR (rows:=[]) (PB:=fun _=>False) (sz:=0) (vs:=fun _ _=>undef) (fun _ h=>h.elim) ⟨Nat.le_refl _,Nat.zero_le _⟩ (fun _=>rfl) (fun i row h=>by simp at h) (fun h=>by simp at h) (fun i j row a h=>by simp at h)
   ·obtain⟨blk,aw,ty,q1,b8,q2,q3,q4,cD,cu⟩:=ax.heap b c iN
    rw[hb] at q1
    cases q1
    have key:=aQ.aR (w:=E.w) (PA:=E'.PA) (PF:=E'.PF) (PB:=E'.PF) (rows:=rows.map fun row=>row.map hF) (full:=false) (fresh:=true) (A:=some ⟨c,0,none⟩) (cap:=cap) (sz:=E.sz b) (vs:=fun i j=>(aw[i*E.sz b+j]?).getD undef)
     (fun c hc=>by simpa using hc) (by rw[List.length_map];exact⟨mn,hP⟩) (fun h=>by cases h) (fun i row' aq=> ?_) (fun jt=>⟨c,0,rfl,.inr iN,fun i j hi ar=> ?_⟩) (fun i j row' gS aq ar=> ?_)
    ·rw[List.length_map] at key
     show aQ E.w E'.PA E'.PF _ (.slice (some ⟨c,0*E.sz b,none⟩) rows.length cap)
     rw[Nat.zero_mul];exact key
    ·rw[List.getElem?_map] at aq
     cases af:rows[i]? with
     | none=>simp[af] at aq
     | some row=>simp[af] at aq;subst aq;rw[List.length_map];exact cD i row af
    ·rw[List.length_map] at hi
     have aq:=List.getElem?_eq_getElem hi
     have aE:=cD i _ aq
     obtain⟨u,hu,_⟩:=cu i j _ _ aq (List.getElem?_eq_getElem (by rw[aE];exact ar))
     rw[Nat.zero_add,cell_of q2 hu,hu];rfl
    ·rw[List.getElem?_map] at aq
     cases af:rows[i]? with
     | none=>simp[af] at aq
     | some row=>
      simp[af] at aq;subst aq
      rw[List.getElem?_map] at ar
      cases jT:row[j]? with
      | none=>simp[jT] at ar
      | some a=>
       simp[jT] at ar;subst ar
       obtain⟨u,hu,fJ⟩:=cu i j row a af jT
       obtain⟨c7,gv⟩:=hk row (List.mem_of_getElem? af) a (List.mem_of_getElem? jT)
       rw[hu]
       exact(N6 c7 gv (xN c7 fJ)).mono (fun _ _=>rfl) (fun _ h=>h.elim) (fun c hc=> .inl hc) (fun _ h=>h)
theorem Weak.Rw [hp:b6] (i:Nat) {T:List AV} {L:List (Nat×List AV)} {H:List Blk} {b ks sz n:Nat} {full:Bool} {rows:List (List AV)} (bS:T.getD i .undef= .ref b ks 0 n full) (ap:n=rows.length) (hb:H[b]?=some ⟨ks,sz,rows⟩) (fo:hp.n≤b)
  (hk: ∀row∈rows,∀a∈row,hJ a=true∧lE a=true) (hP:rows.length≤4611686018427387904):Weak ⟨T,L,H⟩ ⟨T.set i (.aR (rows.map fun row=>row.map hF) false true),L,H.set b ⟨ks+1,sz,[]⟩⟩:=fun bY E tmps g s=>by
 subst ap
 obtain⟨E',hw,aL,h1,h2,hle,Im,hv⟩:=Hu g s.h s.l hb fo hk hP
 refine⟨E',hw,aL,h1,h2,fun t=> ?_,by simpa using s.size⟩
 show V3 E' ((T.set i _).getD t .undef) _
 rw[oU]
 split
 ·rename_i af
  obtain⟨rfl,_⟩:=af
  have aM:V3 E (T.getD i .undef) (tmps.getD i undef):=s.gO i
  rw[bS] at aM
  exact hv _ full aM
 ·exact(s.gO t).le hle
theorem Weak.Rv [hp:b6] (t i:Nat) {T:List AV} {L:List (Nat×List AV)} {H:List Blk} {cells:List AV} {b ks sz n:Nat} {full:Bool} {rows:List (List AV)} (hc:dt L t=some cells) (bS:cells.getD i .undef= .ref b ks 0 n full) (ap:n=rows.length) (hb:H[b]?=some ⟨ks,sz,rows⟩) (fo:hp.n≤b)
  (hk: ∀row∈rows,∀a∈row,hJ a=true∧lE a=true) (hP:rows.length≤4611686018427387904):Weak ⟨T,L,H⟩ ⟨T,jj L t (cells.set i (.aR (rows.map fun row=>row.map hF) false true)),H.set b ⟨ks+1,sz,[]⟩⟩:=fun bY E tmps g s=>by
 subst ap
 obtain⟨E',hw,aL,h1,h2,hle,Im,hv⟩:=Hu g s.h s.l hb fo hk hP
 refine⟨E',hw,aL,h1,fun u c hm=> ?_,fun t=>(s.gO t).le hle,s.size⟩
 rw[Im] at hm
 obtain⟨fF,aw,ty,q1,q2,q3⟩:=s.l u c hm
 show ∃A2 aw ty,dt (jj L t _) u=some A2∧_
 rw[vg]
 by_cases hu:u=t
 ·subst hu
  rw[if_pos rfl]
  have wC:dt L u=some fF:=q1
  rw[hc] at wC
  cases wC
  refine⟨_,aw,ty,by rw[hc];rfl,by rw[hw];exact q2,by simpa using q3.1,fun j x v hx o6=> ?_⟩
  rw[List.getElem?_set] at hx
  split at hx
  ·rename_i j7
   subst j7
   split at hx
   ·rename_i aS
    cases hx
    have H9:=List.getElem?_eq_getElem aS
    have he:cells.getD i .undef=cells[i]:=by rw[List.getD_eq_getElem?_getD,H9];rfl
    have iP:=q3.2 i _ v H9 o6
    rw[←he,bS] at iP
    exact aQ.v1 (E:=E'.bK) (hv v full iP)
   ·cases hx
  ·exact(q3.2 j x v hx o6).le hle.bK
 ·rw[if_neg hu]
  exact⟨fF,aw,ty,q1,by rw[hw];exact q2,q3.mono fun _ _ k=>k.le hle.bK⟩
def wN (n:Nat):AV→Bool
 | .ref b _ _ _ _=>Nat.blt b n
 | .ptr b _ _ _=>Nat.blt b n
 | _=>true
def nB (n:Nat):AV→Bool
 | .fn _ caps=>caps.all (wN n)
 | a=>wN n a
def uc (n:Nat):AV→Bool
 | .agg l=>l.all (nB n)
 | a=>nB n a
def ud (n:Nat):AV→Bool
 | .tup l=>l.all (uc n)
 | a=>uc n a
def Env.cut (E:Env) (n:Nat):Env:={E with m:=fun j=>if j<n then E.m j else none,bc:=fun j=>if j<n then E.bc j else 0}
section
variable {E:Env} {n:Nat}
theorem u6 {j:Nat} (h:j<n):(E.cut n).m j=E.m j∧(E.cut n).bc j=E.bc j:=⟨if_pos h,if_pos h⟩
theorem ea.cut {a:AV} {v:Value} (h:wN n a=true) (hv:ea E a v):ea (E.cut n) a v:=by
 cases a with
 | ref b g o m f=>
  have hb:b<n:=by rw[←Nat.blt_eq];exact h
  obtain⟨aT,e2⟩:=u6 (E:=E) hb
  have hv:(g<E.bc b∧_)∨(g=E.bc b∧_):=hv
  show(g<(E.cut n).bc b∧_)∨(g=(E.cut n).bc b∧_)
  rw[aT,e2];exact hv
 | ptr b g r c=>
  have hb:b<n:=by rw[←Nat.blt_eq];exact h
  obtain⟨aT,e2⟩:=u6 (E:=E) hb
  have hv:(g<E.bc b∧_)∨(g=E.bc b∧_):=hv
  show(g<(E.cut n).bc b∧_)∨(g=(E.cut n).bc b∧_)
  rw[aT,e2];exact hv
 | _=>exact hv
theorem bQ.cut {a:AV} {v:Value} (h:nB n a=true) (hv:bQ E a v):bQ (E.cut n) a v:=by
 by_cases hf: ∃f caps,a= .fn f caps
 ·obtain⟨f,caps,rfl⟩:=hf
  obtain⟨vs,e,ai⟩:=hv
  exact⟨vs,e,ai.1,fun i x y hx bd=>(ai.2 i x y hx bd).cut (List.all_eq_true.1 (show caps.all (wN n)=true from h) x (List.mem_of_getElem? hx))⟩
 ·have aM:nB n a=wN n a:=by cases a<;>first | rfl | exact absurd ⟨_,_,rfl⟩ hf
  rw[nV fun f c e=>hf ⟨f,c,e⟩] at hv ⊢
  exact hv.cut (aM▸h)
theorem V2.cut {a:AV} {v:Value} (h:uc n a=true) (hv:V2 E a v):V2 (E.cut n) a v:=by
 by_cases hf: ∃l,a= .agg l
 ·obtain⟨l,rfl⟩:=hf
  obtain⟨vs,e,ai⟩:=hv
  exact⟨vs,e,ai.1,fun i x y hx bd=>(ai.2 i x y hx bd).cut (List.all_eq_true.1 (show l.all (nB n)=true from h) x (List.mem_of_getElem? hx))⟩
 ·have aM:uc n a=nB n a:=by cases a<;>first | rfl | exact absurd ⟨_,rfl⟩ hf
  rw[ma fun l e=>hf ⟨l,e⟩] at hv ⊢
  exact hv.cut (aM▸h)
theorem V3.cut {a:AV} {v:Value} (h:ud n a=true) (hv:V3 E a v):V3 (E.cut n) a v:=by
 by_cases hf: ∃l,a= .tup l
 ·obtain⟨l,rfl⟩:=hf
  obtain⟨vs,e,ai⟩:=hv
  exact⟨vs,e,ai.1,fun i x y hx bd=>(ai.2 i x y hx bd).cut (List.all_eq_true.1 (show l.all (uc n)=true from h) x (List.mem_of_getElem? hx))⟩
 ·have aM:ud n a=uc n a:=by cases a<;>first | rfl | exact absurd ⟨_,rfl⟩ hf
  rw[mb fun l e=>hf ⟨l,e⟩] at hv ⊢
  exact hv.cut (aM▸h)
end
theorem Weak.cut [hp:b6] (n:Nat) {T:List AV} {L:List (Nat×List AV)} {H:List Blk} (fo:hp.n≤n) (bS: ∀t,ud n (T.getD t .undef)=true) (bH: ∀t cells,dt L t=some cells→cells.all (nB n)=true) (ax: ∀(b:Nat) (blk:Blk),b<n→H[b]?=some blk→ ∀row∈blk.rows,row.all (nB n)=true):
  Weak ⟨T,L,H⟩ ⟨T,L,H.take n⟩:=fun bY E tmps g s=>by
 have f_:SimH E H:=s.h
 have hm: ∀{j:Nat} {x:Option Nat},(E.cut n).m j=some x→j<n∧E.m j=some x:=fun{j x} h=>by
  have h:(if j<n then E.m j else none)=some x:=h
  split at h
  ·rename_i e;exact⟨e,h⟩
  ·cases h
 have get: ∀{j:Nat},j<n→(H.take n)[j]?=H[j]?:=fun{j} h=>by rw[List.getElem?_take,if_pos h]
 refine⟨E.cut n,rfl,?_,?_,?_,fun t=>(s.gO t).cut (bS t),s.size⟩
 ·exact{g with
   le:=⟨g.le.eJ,g.le.eD,g.le.qD,g.le.wf,fun b=>by
     show bY.bc b≤(if b<n then E.bc b else 0)
     split
     ·exact g.le.bc b
     ·rw[(g.wj b (by omega)).2];exact Nat.le_refl _,fun b x hx oa=>by
     have hb:b<n:=by
      rcases Nat.lt_or_ge b n with h | h
      ·exact h
      ·rw[(g.wj b (by omega)).1] at hx;cases hx
     obtain⟨aT,e2⟩:=u6 (E:=E) hb
     rw[e2] at oa
     rw[aT]
     exact g.le.m b x hx oa,g.le.mL⟩
   hB:=fun b c h=>g.hB b c (hm h).2
   hR:=g.hR}
 ·exact{f_ with
   heap:=fun j c h=>by
    obtain⟨ar,h⟩:=hm h
    obtain⟨blk,aw,ty,q1,b8,q2,q3,q4,cD,cu⟩:=f_.heap j c h
    refine⟨blk,aw,ty,by rw[get ar];exact q1,b8,q2,q3,q4,cD,fun i k row a h1 h2=> ?_⟩
    obtain⟨u,hu,aq⟩:=cu i k row a h1 h2
    exact⟨u,hu,aq.cut (List.all_eq_true.1 (ax j blk ar q1 row (List.mem_of_getElem? h1)) a (List.mem_of_getElem? h2))⟩
   dX:=fun j blk h=>by
    have ar:j<n:=by
     rcases Nat.lt_or_ge j n with q | q
     ·exact q
     ·rw[List.getElem?_take,if_neg (by omega)] at h;cases h
    rw[(u6 (E:=E) ar).2]
    rw[get ar] at h;exact f_.dX j blk h
   fX:=fun j h=>by
    obtain⟨ar,h⟩:=hm h
    obtain⟨blk,q1,q2⟩:=f_.fX j h
    exact⟨blk,by rw[get ar];exact q1,q2⟩
   fresh:=fun j h=>by
    rw[List.length_take] at h
    rcases Nat.lt_or_ge j n with q | q
    ·obtain⟨aT,e2⟩:=u6 (E:=E) q
     rw[aT,e2];exact f_.fresh j (by omega)
    ·exact⟨if_neg (by omega),if_neg (by omega)⟩
   gu:=fun j k c h1 h2=>f_.gu j k c (hm h1).2 (hm h2).2
   fz:=fun j t c h1 h2=>f_.fz j t c (hm h1).2 h2
   gw:=fun c hc ⟨j,ar⟩=>f_.gw c hc ⟨j,(hm ar).2⟩
   eQ:=fun c ⟨j,ar⟩=>f_.eQ c ⟨j,(hm ar).2⟩}
 ·intro t c bj
  obtain⟨cells,aw,ty,q1,q2,q3⟩:=s.l t c bj
  exact⟨cells,aw,ty,q1,q2,q3.1,fun i a u hx hu=>(q3.2 i a u hx hu).cut (List.all_eq_true.1 (bH t cells q1) a (List.mem_of_getElem? hx))⟩
end Go.Proofs.Ytglpfccgmfhkdaa.Fw
