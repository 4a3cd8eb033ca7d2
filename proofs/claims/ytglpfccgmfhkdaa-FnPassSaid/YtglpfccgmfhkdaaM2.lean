/- The framework, part OP: a call that is handed one struct in the memory (or a variable of the caller's) to write into, beside values that stay. -/
import Derived.Test.YtglpfccgmfhkdaaM1
set_option linter.unusedVariables false
namespace Go.Proofs.Ytglpfccgmfhkdaa.Fw
open Go
def se:AV→Bool
 | .be _ full fr=> !full&& !fr
 | a=>kV a
theorem UF {a:AV} (h:se a=true):kV a=true∧m3 a=a:=by
 cases a with
 | be rows full fr=>
  refine⟨rfl,?_⟩
  cases full<;>cases fr<;>first | rfl | cases h
 | _=>first | exact⟨h,rfl⟩
def rr (P:Program) (f:FuncId) (g:Nat) (args:List AV) (ba dl:List AV) (t:AV):Prop:=
 dj P f args [⟨g,ba.length,[ba]⟩] fun r eI=> ∃B,eI=⟨g,ba.length,[dl]⟩::B∧gd (⟨g+1,ba.length,[dl]⟩::B) r t
def rp (p q a J:AV):Prop:=(a=p∧J=q)∨ck [] [] a J
theorem Ms {E:Env} (aF: ∀c,E.PF c→E.PA c) {a b:AV} (h:fo [] [] a b): ∀{v:Value},cG E a v→bD E.w E.PA (fun _=>False) b v:=by
 induction h with
 | undef a=>intro v _;exact .undef v
 | int k n=>intro v hv;have hv:bD E.w E.PA E.PF (.int k n) v:=hv;cases hv;exact .int _ _
 | bool k=>intro v hv;have hv:bD E.w E.PA E.PF (.bool k) v:=hv;cases hv;exact .bool _
 | str k=>intro v hv;have hv:bD E.w E.PA E.PF (.str k) v:=hv;cases hv;exact .str _
 | fu=>intro v hv;have hv:bD E.w E.PA E.PF .fu v:=hv;cases hv;exact .fu
 | fP=>intro v hv;have hv:bD E.w E.PA E.PF .fP v:=hv;cases hv;exact .fP
 | be rows full fr ei hw=>
  intro v hv
  have hv:bD E.w E.PA E.PF (.be rows full fr) v:=hv
  cases hv with
  | be fV gD gQ cH eP dB=>
   exact .be (fun c hc=>by
    have:=fV c hc
    simp only[Bool.false_eq_true,if_false]
    split at this
    ·exact aF c this
    ·exact this) gD (fun h=>gQ (hw h)) cH eP dB
 | cZ cells c=>
  intro v hv
  have hv:bD E.w E.PA E.PF (.cZ cells c) v:=hv
  cases hv with
  | cZ hc eP dB=>exact .cZ hc eP dB
 | e6 aO=>cases aO
 | ptr hb=>cases hb
 | ref _ hb=>cases hb
 | @fn f caps vu aI aJ bO=>
  intro v hv
  obtain⟨vs,rfl,aj⟩:=(show ∃vs:List Value,v= .func (.func f) #[] vs.toArray∧av (fa E) caps vs from hv)
  exact .fn (aI▸aj.1) fun i b u hb hu=>by
   have bg:i<caps.length:=by have:=(List.getElem?_eq_some_iff.1 hb).1;omega
   exact bO i _ b (List.getElem?_eq_getElem bg) hb (z1 (aj.2 i _ u (List.getElem?_eq_getElem bg) hu))
theorem Xj {E E1:Env} (aF: ∀c,E.PF c→E.PA c) (hw:E1.w=E.w) (vI:E1.PA=E.PA) {a b:AV} (h:ck [] [] a b) {v:Value} (hv:V2 E a v):V2 E1 b v:=by
 have up: ∀{b:AV} {v:Value},bD E.w E.PA (fun _=>False) b v→cG E1 b v:=fun h=>bD.v1 (E:=E1) (h.mono (fun _ _=>by rw[hw]) (fun _ h=>h.elim) (fun c hc=>by rw[vI];exact hc) (fun _ h=>h.elim))
 rcases h with⟨l,eR,rfl,rfl,aj⟩ | h
 ·obtain⟨vs,rfl,aJ⟩:=hv
  refine⟨vs,rfl,aj.1▸aJ.1,fun i x u hx hu=> ?_⟩
  have bg:i<l.length:=by have:=(List.getElem?_eq_some_iff.1 hx).1;have:=aj.1;omega
  have aI:=List.getElem?_eq_getElem bg
  exact up (Ms aF (aj.2 i _ x aI hx) (aJ.2 i _ u aI hu))
 ·by_cases hf: ∃l,a= .agg l
  ·obtain⟨l,rfl⟩:=hf
   cases h with
   | undef=>exact bD.undef v
  ·rw[om fun l e=>hf ⟨l,e⟩] at hv
   exact oo (up (Ms aF h hv))
def Env.one (E:Env) (bl g sz cp:Nat):Env:=
 {w:=E.w,PA:=E.PA,PF:=fun _=>False,m:=fun j=>if j=0 then some (some bl) else none,bI:=fun j=>if j=0 then g else 0
  sz:=fun j=>if j=0 then sz else 0,cp:=fun j=>if j=0 then cp else 0,mL:=fun _=>none}
theorem sq {E:Env} {bl g sz cp j c:Nat} (h:(E.one bl g sz cp).m j=some (some c)):j=0∧c=bl:=by
 have h:(if j=0 then some (some bl) else none)=some (some c):=h
 split at h
 ·rename_i e;cases h;exact⟨e,rfl⟩
 ·cases h
theorem VI {E:Env} {H:List Blk} (aV:SimH E H) {bl g cp:Nat} {ba:List AV} {cells:Array Value} {ty:TypeId} (gZ:bl<E.w.heap.size) (vI: ¬E.PA bl) (hw:E.w.heap[bl]?=some (.cells cells ty (0,0))) (cH:cells.size=cp*ba.length) (h1:1≤cp)
  (hk:ba.all se=true) (aJ: ∀(j:Nat) (a:AV),ba[j]?=some a→ ∃u,cells[j]?=some u∧cG E a u):SimH (E.one bl g ba.length cp) [⟨g,ba.length,[ba]⟩] where
 heap:=fun b c hb=>by
  obtain⟨rfl,rfl⟩:=sq hb
  have ek: ∀{i:Nat} {row:List AV},([ba]:List (List AV))[i]?=some row→i=0∧row=ba:=fun{i row} h=>by
   cases i with
   | zero=>cases h;exact⟨rfl,rfl⟩
   | succ i=>cases h
  refine⟨⟨g,ba.length,[ba]⟩,cells,ty,rfl,rfl,hw,cH,h1,fun i row h=> ?_,fun i j row a h aP=> ?_⟩
  ·rw[(ek h).2];rfl
  ·obtain⟨rfl,rfl⟩:=ek h
   obtain⟨u,hu,hv⟩:=aJ j a aP
   refine⟨u,by rw[Nat.zero_mul,Nat.zero_add];exact hu,?_⟩
   have BJ:=UF (List.all_eq_true.1 hk a (List.mem_of_getElem? aP))
   have:=F8 BJ.1 (Ae BJ.1 hv) (fun c hc=>hc) aV.ep
   rw[BJ.2] at this
   exact bD.v1 (E:=(E.one c g row.length cp).b6) this
 eZ:=fun b blk hb=>by
  cases b with
  | zero=>cases hb;rfl
  | succ b=>cases hb
 hE:=fun b hb=>by
  have hb:(if b=0 then some (some bl) else none)=some none:=hb
  split at hb<;>cases hb
 fresh:=fun b hb=>by
  have hb:1≤b:=hb
  exact⟨if_neg (by omega),if_neg (by omega)⟩
 iq:=fun b ca c h1 h2=>by rw[(sq h1).1,(sq h2).1]
 iH:=fun t iO c h=>by cases h
 g2:=fun b t c _ h=>by cases h
 h7:=fun c hc ⟨b,hb⟩=>by rw[(sq hb).2] at hc;exact vI hc
 h8:=fun c _ ⟨t,bu⟩=>by cases bu
 ep:=fun c hc=>hc.elim
 eG:=aV.eG
 gF:=fun c ⟨b,hb⟩=>by rw[(sq hb).2];exact gZ
 gu:=fun c ⟨t,bu⟩=>by cases bu
structure rn (E:Env) (bl k n:Nat) (dl:List AV) (t:AV) (v:Value) (E':Env):Prop where
 m:E'.m=E.m
 mL:E'.mL=E.mL
 bI:E'.bI=E.bI
 sz:E'.sz=E.sz
 cp:E'.cp=E.cp
 fE: ∀c,E.PA c→E'.PA c
 fF: ∀c,E.PF c→E'.PF c
 ep: ∀c,E'.PF c→E'.PA c
 y9: ∀c,E'.PA c→E.PA c∨(E.w.heap.size≤c∧c<E'.w.heap.size)
 VZ: ∀c,E'.PF c→E.PF c∨E.w.heap.size≤c
 os:E'.w.os=E.w.os
 tape:E'.w.tape=E.w.tape
 output:E'.w.output=E.w.output
 size:E.w.heap.size≤E'.w.heap.size
 ey: ∀c,c<E.w.heap.size→c≠bl→E'.w.heap[c]?=E.w.heap[c]?
 new: ∃cells ty,E'.w.heap[bl]?=some (.cells cells ty (0,0))∧cells.size=k∧dl.length=n∧ ∀(j:Nat) (a:AV),dl[j]?=some a→ ∃u,cells[j]?=some u∧bD E'.w E'.PA E'.PF a u
 m4:V3 E' t v
theorem Xl {E1 E':Env} {H:List Blk} (hs:SimH E1 H) (hw:E'.w=E1.w) (hu: ∀c,E1.PF c∨E1.gg c→E'.PA c∧E'.PF c) {a b:AV} {u:Value} (h:gd H a b) (hv:V3 E1 a u):V3 E' b u:=by
 have eS: ∀{a b:AV} {u:Value},fp H a b→cG E1 a u→cG E' b u:=fun a6 lS=>bD.v1 (E:=E') ((Mt hs a6 lS).mono (fun _ _=>by rw[hw]) (fun _ _=>by rw[hw]) (fun c hc=>(hu c hc).1) (fun c hc=>(hu c hc).2))
 have fY: ∀{a b:AV} {u:Value},rz H a b→V2 E1 a u→V2 E' b u:=by
  rintro a b u (⟨l,eR,rfl,rfl,aF⟩ | h) hu
  ·obtain⟨jz,rfl,aj⟩:=hu
   refine⟨jz,rfl,aF.1▸aj.1,fun i x y hx bA=> ?_⟩
   have bg:i<l.length:=by have:=(List.getElem?_eq_some_iff.1 hx).1;have:=aF.1;omega
   have aI:=List.getElem?_eq_getElem bg
   exact eS (aF.2 i _ x aI hx) (aj.2 i _ y aI bA)
  ·have:cG E1 a u:=by cases h<;>exact hu
   exact oo (eS h this)
 rcases h with⟨l,eR,rfl,rfl,aF⟩ | h
 ·obtain⟨jz,rfl,aj⟩:=hv
  refine⟨jz,rfl,aF.1▸aj.1,fun i x y hx bA=> ?_⟩
  have bg:i<l.length:=by have:=(List.getElem?_eq_some_iff.1 hx).1;have:=aF.1;omega
  have aI:=List.getElem?_eq_getElem bg
  exact fY (aF.2 i _ x aI hx) (aj.2 i _ y aI bA)
 ·have:V2 E1 a u:=by
   rcases h with⟨l,eR,rfl,rfl,aF⟩ | h
   ·exact hv
   ·cases h<;>exact hv
  exact oq (fY h this)
theorem GX {P:Program} {f:FuncId} {vs:List Value} {E:Env} {H:List Blk} {args dK ba dl:List AV} {p t:AV} {bl g cp:Nat} {cells:Array Value} {ty:TypeId} (aV:SimH E H) (gZ:bl<E.w.heap.size) (vI: ¬E.PA bl)
  (hw:E.w.heap[bl]?=some (.cells cells ty (0,0))) (cH:cells.size=cp*ba.length) (h1:1≤cp) (hk:ba.all se=true) (aJ: ∀(j:Nat) (a:AV),ba[j]?=some a→ ∃u,cells[j]?=some u∧cG E a u)
  (a6:av (V2 E) args vs) (aF: ∀v,V2 E p v→v= .pointer (some ⟨bl,0,none⟩)) (hs:av (rp p (.ptr 0 g 0 0)) args dK) (iF:dl.all kV=true) (h:rr P f g dK ba dl t):
  Calls P f vs.toArray E.w fun e w'=> ∃v E',e= .returned v∧E'.w=w'∧rn E bl (cp*ba.length) ba.length dl t v E':=by
 have rQ:av (V2 (E.one bl g ba.length cp)) dK vs:=⟨hs.1▸a6.1,fun i x u hx hu=>by
  have bg:i<args.length:=by have:=(List.getElem?_eq_some_iff.1 hx).1;have:=hs.1;omega
  have aI:=List.getElem?_eq_getElem bg
  rcases hs.2 i _ x aI hx with⟨bF,rfl⟩ | h
  ·have hv:=a6.2 i _ u aI hu
   rw[bF] at hv
   rw[aF u hv]
   exact .inr ⟨rfl,bl,rfl,by rw[Nat.zero_mul]⟩
  ·exact Xj (E1:=E.one bl g ba.length cp) aV.ep rfl rfl h (a6.2 i _ u aI hu)⟩
 refine(h.2 (E.one bl g ba.length cp) vs (fun _=>rfl) (VI aV gZ vI hw cH h1 hk aJ) rQ).mono ?_
 rintro e w' ⟨r,v,eI,E1,rfl,⟨B,rfl,tS⟩,rfl,aC,e9,hv,bd⟩
 have aO:E1.bI 0=g:=e9.eZ 0 _ rfl
 obtain⟨hm,aQ,hc⟩:=bd.le.m 0 (some bl) rfl aO
 have aQ:E1.sz 0=ba.length:=aQ
 have hc:E1.cp 0=cp:=hc
 obtain⟨blk,Aw,ty2,q1,dX,q2,q3,q4,cx,cT⟩:=e9.heap 0 bl hm
 cases q1
 have tO: ∀c,E1.PF c∨(∃j,j≠0∧E1.m j=some (some c))→E.w.heap.size≤c∧c<E1.w.heap.size:=by
  rintro c (hc | ⟨j,aP,ym⟩)
  ·exact⟨(bd.fF c hc).elim (fun h=>h.elim) id,e9.eG c (e9.ep c hc)⟩
  ·refine⟨(bd.hO c ⟨j,ym⟩).elim (fun⟨b,hb⟩=> ?_) id,e9.gF c ⟨j,ym⟩⟩
   rw[(sq hb).2] at ym
   exact absurd (e9.iq j 0 bl ym hm) aP
 have nj: ∀c,c<E.w.heap.size→c≠bl→E1.w.heap[c]?=E.w.heap[c]?:=fun c hc cO=>bd.ey c hc (fun⟨b,hb⟩=>cO (sq hb).2) (fun⟨t,bu⟩=>by cases bu)
 have SG: ∀c,E1.PA c→E.PA c∨(E.w.heap.size≤c∧c<E1.w.heap.size):=fun c hc=>(bd.fE c hc).elim .inl fun h=> .inr ⟨h,e9.eG c hc⟩
 let E':Env:={E with w:=E1.w,PA:=fun c=>E.PA c∨E1.PA c∨(E1.PF c∨ ∃j,j≠0∧E1.m j=some (some c)),PF:=fun c=>E.PF c∨(E1.PF c∨ ∃j,j≠0∧E1.m j=some (some c))}
 let xd:Env:={E1 with m:=fun j=>if j=0 then none else E1.m j,bI:=fun j=>if j=0 then g+1 else E1.bI j}
 have bp: ∀{j:Nat} {x:Option Nat},xd.m j=some x→j≠0∧E1.m j=some x:=fun{j x} h=>by
  have h:(if j=0 then none else E1.m j)=some x:=h
  split at h
  ·cases h
  ·rename_i e;exact⟨e,h⟩
 have vQ: ∀{j:Nat},j≠0→xd.bI j=E1.bI j:=fun{j} h=>if_neg h
 have hle:E1.gB xd:=⟨fun _ h=>h,fun _ h=>h,fun _ _=>rfl,fun _ _=>rfl,fun b=>by
   by_cases e:b=0
   ·subst e;show E1.bI 0≤(if 0=0 then g+1 else E1.bI 0);rw[if_pos rfl,aO];omega
   ·rw[vQ e];exact Nat.le_refl _,fun b x hx BF=>by
   by_cases e:b=0
   ·subst e
    have BF:(if 0=0 then g+1 else E1.bI 0)=E1.bI 0:=BF
    rw[if_pos rfl,aO] at BF;omega
   ·exact⟨by show(if b=0 then none else E1.m b)=_;rw[if_neg e];exact hx,rfl,rfl⟩,fun _ _ h=>h⟩
 have nV: ∀{j:Nat} (x y:Blk),j≠0→(x::B)[j]?=(y::B)[j]?:=fun{j} x y aP=>by
  cases j with
  | zero=>exact absurd rfl aP
  | succ j=>rfl
 have SP:SimH xd (⟨g+1,ba.length,[dl]⟩::B):=
  {heap:=fun b c hb=>by
    obtain⟨Bv,hb⟩:=bp hb
    obtain⟨blk,tg,ty,eS,lV,fY,fg,sD,Wh,Wi⟩:=e9.heap b c hb
    refine⟨blk,tg,ty,by rw[nV _ ⟨g,ba.length,[dl]⟩ Bv];exact eS,lV,fY,fg,sD,Wh,fun i j row a h1 h2=> ?_⟩
    obtain⟨u,hu,gH⟩:=Wi i j row a h1 h2
    exact⟨u,hu,gH.le hle.b6⟩
   eZ:=fun b blk hb=>by
    by_cases e:b=0
    ·subst e;cases hb;rfl
    ·rw[vQ e];rw[nV _ ⟨g,ba.length,[dl]⟩ e] at hb;exact e9.eZ b blk hb
   hE:=fun b hb=>by
    obtain⟨Bv,hb⟩:=bp hb
    obtain⟨blk,eS,fY⟩:=e9.hE b hb
    exact⟨blk,by rw[nV _ ⟨g,ba.length,[dl]⟩ Bv];exact eS,fY⟩
   fresh:=fun b hb=>by
    have hb:B.length+1≤b:=hb
    have:=e9.fresh b hb
    exact⟨by show(if b=0 then none else E1.m b)=none;rw[if_neg (by omega)];exact this.1,by rw[vQ (by omega)];exact this.2⟩
   iq:=fun b ca c h1 h2=>e9.iq b ca c (bp h1).2 (bp h2).2
   iH:=e9.iH
   g2:=fun b t c h1 h2=>e9.g2 b t c (bp h1).2 h2
   h7:=fun c hc ⟨b,hb⟩=>e9.h7 c hc ⟨b,(bp hb).2⟩
   h8:=e9.h8
   ep:=e9.ep
   eG:=e9.eG
   gF:=fun c ⟨b,hb⟩=>e9.gF c ⟨b,(bp hb).2⟩
   gu:=e9.gu}
 refine⟨v,E',rfl,rfl,rfl,rfl,rfl,rfl,rfl,fun c hc=> .inl hc,fun c hc=> .inl hc,fun c hc=>hc.elim (fun h=> .inl (aV.ep c h)) (fun h=> .inr (.inr h)),fun c hc=> ?_,fun c hc=>hc.elim .inl (fun h=> .inr (tO c h).1),
  bd.os,bd.tape,bd.output,bd.size,nj,⟨Aw,ty2,q2,by rw[q3,aQ,hc],?_,fun j a aP=> ?_⟩,?_⟩
 ·rcases hc with h | h | h
  ·exact .inl h
  ·exact SG c h
  ·exact .inr (tO c h)
 ·have:=cx 0 dl rfl
  rw[aQ] at this;exact this
 ·obtain⟨u,hu,gH⟩:=cT 0 j dl a rfl aP
  refine⟨u,by rw[Nat.zero_mul,Nat.zero_add] at hu;exact hu,?_⟩
  have hb:=List.all_eq_true.1 iF a (List.mem_of_getElem? aP)
  exact(Ae hb gH).mono (fun _ _=>rfl) (fun _ _=>rfl) (fun c hc=> .inr (.inl hc)) (fun c hc=> .inr (.inl hc))
 ·refine Xl (E':=E') SP rfl (fun c hc=> ?_) tS (hv.le hle)
  have:E1.PF c∨ ∃j,j≠0∧E1.m j=some (some c):=hc.elim .inl fun⟨j,aP⟩=> .inr ⟨j,bp aP⟩
  exact⟨.inr (.inr this),.inr this⟩
section
variable {E E':Env} {H:List Blk} {L:List (Nat×List AV)} {bl k n:Nat} {dl:List AV} {t:AV} {v:Value}
theorem rn.step (A:rn E bl k n dl t v E') (aV:SimH E H) (gZ:E.gg bl∨E.jN bl):Step E E':=
 {le:=⟨A.fE,A.fF,fun c hc=>A.ey c (aV.eG c hc) (fun e=>by subst e;exact gZ.elim (aV.h7 c hc) (aV.h8 c hc)),fun c hc=>A.ey c (aV.eG c (aV.ep c hc)) (fun e=>by subst e;exact gZ.elim (aV.h7 c (aV.ep c hc)) (aV.h8 c (aV.ep c hc))),
   fun b=>by rw[A.bI];exact Nat.le_refl _,fun b x hx _=>by rw[A.m,A.sz,A.cp];exact⟨hx,rfl,rfl⟩,fun t c h=>by rw[A.mL];exact h⟩
  os:=A.os,tape:=A.tape,output:=A.output,size:=A.size
  ey:=fun c hc h1 h2=>A.ey c hc (fun e=>by subst e;exact gZ.elim h1 h2)
  hO:=fun c ⟨b,hb⟩=> .inl ⟨b,by rw[←A.m];exact hb⟩
  j9:=fun c ⟨t,bu⟩=> .inl ⟨t,by rw[←A.mL];exact bu⟩
  fE:=fun c hc=>(A.y9 c hc).elim .inl fun h=> .inr h.1
  fF:=A.VZ}
theorem rn.simH (A:rn E bl k n dl t v E') (aV:SimH E H) (gZ:E.gg bl∨E.jN bl) {H':List Blk} (hlen:H'.length=H.length) (aO: ∀(b:Nat) (x:Blk),H'[b]?=some x→ ∃y,H[b]?=some y∧x.bI=y.bI) (hs: ∀(b:Nat) (y:Blk),H[b]?=some y→ ∃x,H'[b]?=some x∧x.sz=y.sz)
  (hb: ∀b c,E.m b=some (some c)→(c≠bl∧H'[b]?=H[b]?)∨ ∃blk ba ty,H'[b]?=some blk∧E.sz b=blk.sz∧E'.w.heap[c]?=some (.cells ba ty (0,0))∧ba.size=E.cp b*E.sz b∧blk.rows.length≤E.cp b∧s5 E' (E.sz b) blk.rows ba):SimH E' H':=by
 have bd:=A.step aV gZ
 have nl: ∀c,E'.gg c→E.gg c:=fun c ⟨b,hb⟩=>⟨b,by rw[←A.m];exact hb⟩
 have Cd: ∀c,E'.jN c→E.jN c:=fun c ⟨b,hb⟩=>⟨b,by rw[←A.mL];exact hb⟩
 have kw:=aV.gF
 have jm:=aV.gu
 exact{
  heap:=fun b c h=>by
   rw[A.m] at h
   rw[A.sz,A.cp]
   rcases hb b c h with⟨cO,he⟩ | h
   ·obtain⟨blk,ba,ty,q1,dX,q2,q3,q4,cx,cT⟩:=aV.heap b c h
    refine⟨blk,ba,ty,by rw[he];exact q1,dX,by rw[A.ey c (kw c ⟨b,h⟩) cO];exact q2,q3,q4,cx,fun i j row a h1 h2=> ?_⟩
    obtain⟨u,hu,gH⟩:=cT i j row a h1 h2
    exact⟨u,hu,gH.le bd.le.b6⟩
   ·exact h
  eZ:=fun b blk h=>by
   rw[A.bI]
   obtain⟨y,h1,h2⟩:=aO b blk h
   rw[h2];exact aV.eZ b y h1
  hE:=fun b h=>by
   rw[A.m] at h
   obtain⟨y,h1,h2⟩:=aV.hE b h
   obtain⟨x,aS,bt⟩:=hs b y h1
   exact⟨x,aS,by rw[A.sz,bt];exact h2⟩
  fresh:=fun b h=>by rw[A.m,A.bI];exact aV.fresh b (by rw[←hlen];exact h)
  iq:=fun b ca c h1 h2=>by rw[A.m] at h1 h2;exact aV.iq b ca c h1 h2
  iH:=fun t iO c h1 h2=>by rw[A.mL] at h1 h2;exact aV.iH t iO c h1 h2
  g2:=fun b t c h1 h2=>by rw[A.m] at h1;rw[A.mL] at h2;exact aV.g2 b t c h1 h2
  h7:=fun c hc hi=>(A.y9 c hc).elim (fun h=>aV.h7 c h (nl c hi)) (fun h=>absurd (kw c (nl c hi)) (by omega))
  h8:=fun c hc hi=>(A.y9 c hc).elim (fun h=>aV.h8 c h (Cd c hi)) (fun h=>absurd (jm c (Cd c hi)) (by omega))
  ep:=A.ep
  eG:=fun c hc=>(A.y9 c hc).elim (fun h=>Nat.lt_of_lt_of_le (aV.eG c h) A.size) (fun h=>h.2)
  gF:=fun c hc=>Nat.lt_of_lt_of_le (kw c (nl c hc)) A.size
  gu:=fun c hc=>Nat.lt_of_lt_of_le (jm c (Cd c hc)) A.size}
theorem rn.row (A:rn E bl k n dl t v E') (hk:dl.all kV=true) {cells:Array Value} {ty:TypeId} (hw:E'.w.heap[bl]?=some (.cells cells ty (0,0))):dl.length=n∧cells.size=k∧ ∀(j:Nat) (a:AV),dl[j]?=some a→ ∃u,cells[j]?=some u∧cG E'.b6 a u:=by
 obtain⟨j3,ty2,q1,q2,q3,q4⟩:=A.new
 rw[hw] at q1
 cases q1
 refine⟨q3,q2,fun j a aP=> ?_⟩
 obtain⟨u,hu,aJ⟩:=q4 j a aP
 exact⟨u,hu,bD.v1 (E:=E'.b6) aJ⟩
end
theorem Pl {P:Program} {f:FuncId} {vs:List Value} {E:Env} {H:List Blk} {L:List (Nat×List AV)} {args dK ba dl:List AV} {t:AV} {b g:Nat} (aV:SimH E H) (bT:SimL E L) (hb:H[b]?=some ⟨g,ba.length,[ba]⟩) (hk:ba.all se=true) (iF:dl.all kV=true)
  (a6:av (V2 E) args vs) (hm:AV.ptr b g 0 0∈args) (hs:av (rp (.ptr b g 0 0) (.ptr 0 g 0 0)) args dK) (h:rr P f g dK ba dl t):
  Calls P f vs.toArray E.w fun e w'=> ∃v E',e= .returned v∧E'.w=w'∧Step E E'∧SimH E' (H.set b ⟨g,ba.length,[dl]⟩)∧SimL E' L∧V3 E' t v∧E'.mL=E.mL:=by
 have jL:=aV.eZ b _ hb
 have lQ: ∀v,V2 E (.ptr b g 0 0) v→ ∃bl,E.m b=some (some bl)∧v= .pointer (some ⟨bl,0,none⟩):=fun v hv=>by
  obtain⟨bl,hm,rfl⟩:=V3.ze (E:=E) (v:=v) (show V3 E (.ptr b g 0 0) v from hv) jL
  exact⟨bl,hm,by rw[Nat.zero_mul]⟩
 obtain⟨i,hi,he⟩:=List.mem_iff_getElem.1 hm
 have fz:i<vs.length:=a6.1▸hi
 have fA:=a6.2 i _ _ (List.getElem?_eq_getElem hi) (List.getElem?_eq_getElem fz)
 rw[he] at fA
 obtain⟨bl,k2,_⟩:=lQ _ fA
 obtain⟨blk,cells,ty,q1,dX,q2,q3,q4,cx⟩:=aV.heap b bl k2
 rw[hb] at q1
 cases q1
 have dX:E.sz b=ba.length:=dX
 have gZ:bl<E.w.heap.size:=aV.gF bl ⟨b,k2⟩
 refine(GX (bl:=bl) (cp:=E.cp b) aV gZ (fun h=>aV.h7 bl h ⟨b,k2⟩) q2 (by rw[q3,dX]) q4 hk (fun j a aP=> ?_) a6 (fun v hv=> ?_) hs iF h).mono ?_
 ·obtain⟨u,hu,gH⟩:=cx.2 0 j ba a rfl aP
  exact⟨u,by rw[Nat.zero_mul,Nat.zero_add] at hu;exact hu,gH.up⟩
 ·obtain⟨OZ,h1,rfl⟩:=lQ v hv
  rw[k2] at h1;cases h1;rfl
 rintro e w' ⟨v,E',rfl,rfl,A⟩
 have pJ:E.gg bl∨E.jN bl:= .inl ⟨b,k2⟩
 have bd:=A.step aV pJ
 refine⟨v,E',rfl,rfl,bd,A.simH aV pJ (by rw[List.length_set]) (fun j x hx=> ?_) (fun j y bA=> ?_) (fun j c aP=> ?_),fun u c hu=> ?_,A.m4,A.mL⟩
 ·rw[List.getElem?_set] at hx
  split at hx
  ·rename_i e;subst e
   split at hx
   ·cases hx;exact⟨_,hb,rfl⟩
   ·cases hx
  ·exact⟨x,hx,rfl⟩
 ·rw[List.getElem?_set]
  split
  ·rename_i e;subst e
   rw[hb] at bA;cases bA
   rw[if_pos (List.getElem?_eq_some_iff.1 hb).1];exact⟨_,rfl,rfl⟩
  ·exact⟨y,bA,rfl⟩
 ·by_cases e:j=b
  ·subst e
   rw[k2] at aP
   cases aP
   obtain⟨j3,ty2,eS,fY,fg,sD⟩:=A.new
   obtain⟨s1,s2,lX⟩:=A.row iF eS
   refine .inr ⟨⟨g,ba.length,[dl]⟩,j3,ty2,by rw[List.getElem?_set,if_pos rfl,if_pos (List.getElem?_eq_some_iff.1 hb).1],dX,eS,by rw[fY,dX],q4,fun i row aJ=> ?_,fun i j row a aJ aP=> ?_⟩
   ·cases i with
    | zero=>cases aJ;rw[dX];exact s1
    | succ i=>cases aJ
   ·cases i with
    | zero=>
     cases aJ
     obtain⟨u,hu,gH⟩:=lX j a aP
     exact⟨u,by rw[Nat.zero_mul,Nat.zero_add];exact hu,gH⟩
    | succ i=>cases aJ
  ·refine .inl ⟨fun h=>e ?_,by rw[List.getElem?_set,if_neg (fun h=>e h.symm)]⟩
   subst h;exact aV.iq j b c aP k2
 ·rw[A.mL] at hu
  obtain⟨tg,j3,ty2,eS,fY,fg⟩:=bT u c hu
  exact⟨tg,j3,ty2,eS,by rw[A.ey c (aV.gu c ⟨u,hu⟩) (fun e=>by subst e;exact aV.g2 b u c k2 hu)];exact fY,fg.mono fun _ _ k=>k.le bd.le.b6⟩
theorem Pm {P:Program} {f:FuncId} {vs:List Value} {E:Env} {H:List Blk} {L:List (Nat×List AV)} {args dK ba dl:List AV} {t:AV} {x:Nat} (aV:SimH E H) (bT:SimL E L) (hx:ew L x=some ba) (hk:ba.all se=true) (iF:dl.all kV=true)
  (a6:av (V2 E) args vs) (hm:AV.e6 x 0∈args) (hs:av (rp (.e6 x 0) (.ptr 0 0 0 0)) args dK) (h:rr P f 0 dK ba dl t):
  Calls P f vs.toArray E.w fun e w'=> ∃v E',e= .returned v∧E'.w=w'∧Step E E'∧SimH E' H∧SimL E' (lA L x dl)∧V3 E' t v∧E'.mL=E.mL:=by
 have lQ: ∀v,V2 E (.e6 x 0) v→ ∃bl,E.mL x=some bl∧v= .pointer (some ⟨bl,0,none⟩):=fun v hv=>hv
 obtain⟨i,hi,he⟩:=List.mem_iff_getElem.1 hm
 have fz:i<vs.length:=a6.1▸hi
 have fA:=a6.2 i _ _ (List.getElem?_eq_getElem hi) (List.getElem?_eq_getElem fz)
 rw[he] at fA
 obtain⟨bl,k2,_⟩:=lQ _ fA
 obtain⟨tg,cells,ty,q1,q2,q3⟩:=bT x bl k2
 rw[hx] at q1
 cases q1
 have gZ:bl<E.w.heap.size:=aV.gu bl ⟨x,k2⟩
 have cH:cells.size=1*ba.length:=by rw[Nat.one_mul];exact q3.1.symm
 refine(GX (bl:=bl) (cp:=1) aV gZ (fun h=>aV.h8 bl h ⟨x,k2⟩) q2 cH (Nat.le_refl _) hk (fun j a aP=> ?_) a6 (fun v hv=> ?_) hs iF h).mono ?_
 ·obtain⟨u,hu,gH⟩:=q3.get aP
  exact⟨u,by rw[Array.getElem?_toList] at hu;exact hu,gH.up⟩
 ·obtain⟨OZ,h1,rfl⟩:=lQ v hv
  rw[k2] at h1;cases h1;rfl
 rintro e w' ⟨v,E',rfl,rfl,A⟩
 have pJ:E.gg bl∨E.jN bl:= .inr ⟨x,k2⟩
 have bd:=A.step aV pJ
 refine⟨v,E',rfl,rfl,bd,A.simH aV pJ rfl (fun j y bA=>⟨y,bA,rfl⟩) (fun j y bA=>⟨y,bA,rfl⟩) (fun j c aP=> .inl ⟨fun e=>by subst e;exact aV.g2 j x c aP k2,rfl⟩),fun u c hu=> ?_,A.m4,A.mL⟩
 rw[A.mL] at hu
 rw[ya]
 by_cases e:u=x
 ·subst e
  rw[k2] at hu
  cases hu
  obtain⟨j3,ty2,eS,fY,fg,sD⟩:=A.new
  obtain⟨s1,s2,lX⟩:=A.row iF eS
  rw[if_pos rfl,hx]
  refine⟨dl,j3,ty2,rfl,eS,by show dl.length=j3.size;rw[s1,s2,Nat.one_mul],fun j a v aP hv=> ?_⟩
  obtain⟨Z3,lS,gH⟩:=lX j a aP
  rw[Array.getElem?_toList,lS] at hv
  cases hv;exact gH
 ·rw[if_neg e]
  obtain⟨nK,j3,ty2,eS,fY,fg⟩:=bT u c hu
  exact⟨nK,j3,ty2,eS,by rw[A.ey c (aV.gu c ⟨u,hu⟩) (fun h=>by subst h;exact e (aV.iH u x c hu k2))];exact fY,fg.mono fun _ _ k=>k.le bd.le.b6⟩
def GW (P:Program) (f:FuncId) (args:List AV) (L:List (Nat×List AV)) (H:List Blk) (K:AV→List (Nat×List AV)→List Blk→Prop):Prop:=
 ∃dK ba dl t,ba.all se=true∧dl.all kV=true∧
  ((∃b g,H[b]?=some ⟨g,ba.length,[ba]⟩∧AV.ptr b g 0 0∈args∧av (rp (.ptr b g 0 0) (.ptr 0 g 0 0)) args dK∧rr P f g dK ba dl t∧K t L (H.set b ⟨g,ba.length,[dl]⟩))∨
   ∃x,ew L x=some ba∧AV.e6 x 0∈args∧av (rp (.e6 x 0) (.ptr 0 0 0 0)) args dK∧rr P f 0 dK ba dl t∧K t (lA L x dl) H)
theorem Pk {P:Program} {f:FuncId} {args:List AV} {L:List (Nat×List AV)} {H:List Blk} {E:Env} {vs:List Value} {K:AV→List (Nat×List AV)→List Blk→Prop} (aV:SimH E H) (bT:SimL E L) (a6:av (V2 E) args vs) (h:GW P f args L H K):
  sp P f=true∧Calls P f vs.toArray E.w fun e w'=> ∃v u L' H' E',e= .returned u∧K v L' H'∧E'.w=w'∧Step E E'∧SimH E' H'∧SimL E' L'∧V3 E' v u∧E'.mL=E.mL:=by
 obtain⟨dK,ba,dl,t,hk,iF,⟨b,g,hb,hm,hs,hf,hK⟩ | ⟨x,hx,hm,hs,hf,hK⟩⟩:=h
 ·refine⟨hf.1,(Pl aV bT hb hk iF a6 hm hs hf).mono ?_⟩
  rintro e w' ⟨v,E',rfl,rfl,h1,h2,aS,bt,cb⟩
  exact⟨t,v,L,_,E',rfl,hK,rfl,h1,h2,aS,bt,cb⟩
 ·refine⟨hf.1,(Pm aV bT hx hk iF a6 hm hs hf).mono ?_⟩
  rintro e w' ⟨v,E',rfl,rfl,h1,h2,aS,bt,cb⟩
  exact⟨t,v,_,H,E',rfl,hK,rfl,h1,h2,aS,bt,cb⟩
end Go.Proofs.Ytglpfccgmfhkdaa.Fw
/- The framework, part P: one operation; the operations of a region, in the text's order. -/
set_option linter.unusedVariables false
namespace Go.Proofs.Ytglpfccgmfhkdaa.Fw
open Go
def Pg (P:Program) (f:FuncId) (args:List AV) (L:List (Nat×List AV)) (H:List Blk) (K:AV→List (Nat×List AV)→List Blk→Prop):Prop:=
 args.all ed=true∧ ∃dK,av (ck L H) args dK∧dj P f dK [] fun r eI=>uz r=true∧qX eI=true∧K (lB H.length r) L (H++eI.map (kj H.length))
def Pe (P:Program) (f:FuncId) (args:List AV) (L:List (Nat×List AV)) (H:List Blk) (K:AV→List (Nat×List AV)→List Blk→Prop):Prop:=
 args.all ed=true∧args.all jq=true∧dj P f args H fun r H'=>us r=true∧K r L H'
def kq (P:Program) (f:FuncId) (args:List AV) (L:List (Nat×List AV)) (H:List Blk) (K:AV→List (Nat×List AV)→List Blk→Prop):Prop:=
 na P f args L H (fun r=>K r L H)∨Pg P f args L H K∨Pe P f args L H K∨(args.all ed=true∧GW P f args L H K)
def Hr (P:Program) (c:Call) (bJ:Operand→AV) (L:List (Nat×List AV)) (H:List Blk) (K:AV→List (Nat×List AV)→List Blk→Prop):Prop:=match c.callee with
 | .builtin .len=>AZ P c bJ L H fun r=>K r L H
 | .builtin .append=>(match c.args.toList,c.argTypes.toList with
  | [s,x],[t,t2]=>ed (bJ s)=true∧ed (bJ x)=true∧rB P t t2 (bJ s) (bJ x) L H K
  | _,_=>False)
 | .value f=>kW (bJ f) fun g caps=>kq P g (c.args.toList.map bJ++caps) L H K
 | _=>False
def jh (P:Program) (esc:List Nat) (o:Oper) (bJ:Operand→AV) (L:List (Nat×List AV)) (H:List Blk) (K:AV→List (Nat×List AV)→List Blk→Prop):Prop:=match o.op with
 | .store t a v=>ef (ed (bJ v)) (lf P t (bJ a) (bJ v) L H fun L' H'=>K (.tup []) L' H')
 | .alloc e=>cJ (l2 P e) fun z=>sn esc o.dst z L H K
 | .box e x=>ef (ed (bJ x)) (sn esc o.dst (eD (bJ x)) L H K)
 | .makeSlice t l c=>um P t (bJ l) (bJ c) L H K
 | .buildSlice t n ps=>ef (ps.toList.all fun p=>ed (bJ p.2)) (rE P (rN esc o.dst) (sH esc) t n (ps.toList.map fun p=>(p.1,bJ p.2)) L H K)
 | .call c=>Hr P c bJ L H K
 | _=>qw P o bJ L H fun r=>K r L H
theorem xi {E:Env} {a:AV} {v:Value} (h:ed a=true) (hv:V3 E a v):V2 E a v:=by
 rwa [nF (uu h)] at hv
theorem Ph {P:Program} {f:FuncId} {args:List AV} {L:List (Nat×List AV)} {H:List Blk} {E:Env} {vs:List Value} {K:AV→List (Nat×List AV)→List Blk→Prop} (aV:SimH E H) (bT:SimL E L)
  (a6:av (V2 E) args vs) (h:kq P f args L H K):
  sp P f=true∧Calls P f vs.toArray E.w fun e w'=> ∃v u L' H' E',e= .returned u∧K v L' H'∧E'.w=w'∧Step E E'∧SimH E' H'∧SimL E' L'∧V3 E' v u∧E'.mL=E.mL:=by
 rcases h with⟨aC,dK,t,hs,nX,hK⟩ | ⟨aC,dK,hs,nX⟩ | ⟨aC,aI,nX⟩ | ⟨aC,aF⟩
 ·refine⟨nX.1,(GY (Sub.refl L H) aV bT a6 hs nX).mono ?_⟩
  rintro e w' ⟨v,E',rfl,rfl,aj,hv⟩
  exact⟨t,v,L,H,E',rfl,hK,rfl,aj.step,aj.simH aV,aj.simL aV bT,hv,aj.mL⟩
 ·refine⟨nX.1,(Pj (Q:=fun r eI=>K (lB H.length r) L (H++eI.map (kj H.length))) aV bT a6 hs nX).mono ?_⟩
  rintro e w' ⟨r,v,eI,E',rfl,hK,rfl,bd,h1,h2,hv,hml⟩
  exact⟨_,v,L,_,E',rfl,hK,rfl,bd,h1,h2,hv,hml⟩
 ·refine⟨nX.1,(Pf (Q:=fun r H'=>K r L H') aV bT a6 aI nX).mono ?_⟩
  rintro e w' ⟨r,v,H',E',rfl,hK,rfl,bd,h1,h2,hv,hml⟩
  exact⟨_,v,L,_,E',rfl,hK,rfl,bd,h1,h2,hv,hml⟩
 ·exact Pk aV bT a6 aF
theorem Pd {P:Program} {f:FuncId} {args:List AV} {L:List (Nat×List AV)} {H:List Blk} {K:AV→List (Nat×List AV)→List Blk→Prop} (h:kq P f args L H K):args.all ed=true:=by
 rcases h with⟨aC,_⟩ | ⟨aC,_⟩ | ⟨aC,_⟩ | ⟨aC,_⟩<;>exact aC
set_option maxHeartbeats 1000000 in
theorem evOp_sound {P:Program} {esc:List Nat} {o:Oper} {a:Act} {T:List AV} {E:Env} {L:List (Nat×List AV)} {H:List Blk} {K:AV→List (Nat×List AV)→List Blk→Prop} {Q:Exit→Act→World→Prop}
  (cs: ∀t,V3 E (T.getD t .undef) (a.tmps.getD t undef)) (aV:SimH E H) (bT:SimL E L) (h:jh P esc o (cc T) L H K):o.wp P a E.w (zX E o a K) Q:=by
 have fin: ∀{s:Sem Value},(execOp a.eval o=(do pure (Next.value (←s))))→(∃v L' H' E' u,K v L' H'∧s.run P E.w= .ok u E'.w∧Step E E'∧SimH E' H'∧SimL E' L'∧V3 E' v u∧ ∀t,o.dst≠some t→E'.mL t=E.mL t)→o.wp P a E.w (zX E o a K) Q:=by
  rintro s hs ⟨v,L',H',E',u,hK,aJ,h1,h2,aS,bt,cb⟩
  unfold Oper.wp
  rw[hs]
  exact F_ aJ ⟨v,u,L',H',E',hK,rfl,h1,h2,aS,bt,rfl,cb⟩
 have LJ:qw P o (cc T) L H (fun r=>K r L H)→o.wp P a E.w (zX E o a K) Q:=fun h=>
  Oper.wp_mono (fun hp w' ⟨v,u,E',hK,hw,aj,hv,a6⟩=>⟨v,u,L,H,E',hK,hw,aj.step,aj.simH aV,aj.simL aV bT,hv,a6,fun t _=>by rw[aj.mL]⟩) (Hz cs (Sub.refl L H) aV bT h)
 obtain⟨dst,op,ty,pos,after,guard⟩:=o
 cases op with
 | store t x v=>
  obtain⟨aC,h⟩:=ob (show ef (ed (cc T v)) (lf P t (cc T x) (cc T v) L H fun L' H'=>K (.tup []) L' H') from h)
  obtain⟨L',H',E',hK,aJ,h1,h2,aS,hml⟩:=YQ aV bT (opv_rel cs x) (xi aC (opv_rel cs v)) h
  unfold Oper.wp
  have:(execOp a.eval ⟨dst,.store t x v,ty,pos,after,guard⟩).run P E.w= .ok .skip E'.w:=by
   simp only[execOp,Sem.run_bind,aJ,Sem.run_pure,Result.andThen_ok]
  rw[this]
  exact⟨.tup [],_,L',H',E',hK,rfl,h1,h2,aS,⟨[],rfl,av.nil⟩,rfl,fun t _=>by rw[hml]⟩
 | alloc e=>
  obtain⟨z,aQ,h⟩:=e3 (show cJ (l2 P e) fun z=>sn esc dst z L H K from h)
  obtain⟨i,v,q1,q2,q3,q4⟩:=s0 (E:=E) aQ
  obtain⟨r,L',H',E',hK,hw,h1,h2,aS,bt,hml⟩:=KV (ty:=e) aV bT q4 h
  refine fin (s:=Instr.alloc e true (.tuple #[])) rfl ⟨r,L',H',E',_,hK,?_,h1,h2,aS,bt,hml⟩
  rw[hw]
  simp[Instr.alloc,zeroValue,typeInfo,q1,q2,newVar,newRow]
 | box e x=>
  obtain⟨aC,h⟩:=ob (show ef (ed (cc T x)) (sn esc dst (eD (cc T x)) L H K) from h)
  have hs:(eD (cc T x)).all ie=true:=by
   unfold sn at h;split at h
   ·rename_i q;exact q
   ·exact h.elim
  obtain⟨r,L',H',E',hK,hw,h1,h2,aS,bt,hml⟩:=KV (ty:=e) aV bT (Am (xi aC (opv_rel cs x)) hs) h
  refine fin (s:=Instr.box e (a.eval x)) rfl ⟨r,L',H',E',_,hK,?_,h1,h2,aS,bt,hml⟩
  rw[hw]
  simp[Instr.box,newVar,newRow]
 | makeSlice t l c=>
  obtain⟨v,L',H',E',u,hK,aJ,h1,h2,aS,bt,hml⟩:=VB aV bT (opv_rel cs l) (opv_rel cs c) (show um P t (cc T l) (cc T c) L H K from h)
  exact fin (s:=Instr.makeSlice t (a.eval l) (a.eval c)) rfl ⟨v,L',H',E',u,hK,aJ,h1,h2,aS,bt,fun t _=>by rw[hml]⟩
 | buildSlice t n ps=>
  obtain⟨aC,h⟩:=ob (show ef (ps.toList.all fun p=>ed (cc T p.2)) (rE P (rN esc dst) (sH esc) t n (ps.toList.map fun p=>(p.1,cc T p.2)) L H K) from h)
  obtain⟨v,u,L',H',E',hK,aJ,h1,h2,aS,bt,hml⟩:=O1 aV bT (DU cs ps.toList fun p aF=>uu (List.all_eq_true.1 aC p aF)) h
  exact fin (s:=Instr.buildSlice t n (ps.toList.map fun p=>(p.1,a.eval p.2)).toArray) (by rw[parts_eq];rfl) ⟨v,L',H',E',u,hK,aJ,h1,h2,aS,bt,fun t _=>by rw[hml]⟩
 | call c=>
  have h:Hr P c (cc T) L H K:=h
  obtain⟨callee,args,argTypes⟩:=c
  cases callee with
  | builtin b=>
   cases b with
   | len=>exact LJ h
   | append=>
    have h:(match args.toList,argTypes.toList with
     | [s,x],[t,t2]=>ed (cc T s)=true∧ed (cc T x)=true∧rB P t t2 (cc T s) (cc T x) L H K
     | _,_=>False):=h
    split at h
    ·rename_i s x t t2 h1 h2
     obtain rfl:args= #[s,x]:=by rw[←Array.toArray_toList (xs:=args),h1]
     obtain rfl:argTypes= #[t,t2]:=by rw[←Array.toArray_toList (xs:=argTypes),h2]
     obtain⟨mY,n2,h⟩:=h
     obtain⟨r,u,H',E',hK,aJ,q1,q2,q3,q4,hml⟩:=OK (ty:=ty) aV bT (xi mY (opv_rel cs s)) (xi n2 (opv_rel cs x)) h
     unfold Oper.wp
     have:(execOp a.eval ⟨dst,.call ⟨.builtin .append,#[s,x],#[t,t2]⟩,ty,pos,after,guard⟩).run P E.w= .ok (.value u) E'.w:=by
      simp only[execOp,resolve,Sem.run_bind,Sem.run_pure,Result.andThen_ok,invoke,builtin]
      have e:Array.map a.eval #[s,x]= #[a.eval s,a.eval x]:=by simp
      rw[e,aJ];rfl
     rw[this]
     exact⟨r,u,L,H',E',hK,rfl,q1,q2,q3,q4,rfl,fun t _=>by rw[hml]⟩
    ·exact h.elim
   | _=>exact h.elim
  | value f=>
   have h:kW (cc T f) fun g caps=>kq P g (args.toList.map (cc T)++caps) L H K:=h
   cases hf:cc T f with
   | fn g caps=>
    rw[hf] at h
    have h:kq P g (args.toList.map (cc T)++caps) L H K:=h
    have aC:=Pd h
    obtain⟨vs,he,rW⟩:=GZ cs hf
    have Bt:av (V2 E) (args.toList.map (cc T)++caps) (args.toList.map a.eval++vs):=
     av.append (GG cs args.toList fun x hx=>uu (List.all_eq_true.1 aC _ (by simp;exact .inl ⟨x,by simpa using hx,rfl⟩))) rW
    obtain⟨fq,hc⟩:=Ph aV bT Bt h
    unfold Oper.wp
    rw[show execOp a.eval ⟨dst,.call ⟨.value f,args,argTypes⟩,ty,pos,after,guard⟩=(do let d ←resolve a.eval ⟨.value f,args,argTypes⟩ ty;invoke d.target d.args) from rfl]
    rw[LY (P:=P) (ty:=ty) (w:=E.w) (c:=⟨.value f,args,argTypes⟩) rfl he fq]
    refine hc.mono ?_
    rintro e w' ⟨v,u,L',H',E',rfl,hK,rfl,q1,q2,q3,q4,hml⟩
    exact⟨v,u,L',H',E',hK,rfl,q1,q2,q3,q4,rfl,fun t _=>by rw[hml]⟩
   | _=>rw[hf] at h;exact h.elim
  | _=>exact h.elim
 | _=>exact LJ h
def nJ (lit:Bool) (b:Bool) (x y:Prop):Prop:=match lit with
 | true=>(match b with
  | true=>x
  | false=>y)
 | false=>vn b x y
theorem xC {lit b:Bool} {x y:Prop} (h:nJ lit b x y):(b=true→x)∧(b=false→y):=by
 cases lit with
 | false=>exact h
 | true=>cases b<;>exact⟨fun e=>by cases e<;>exact h,fun e=>by cases e<;>exact h⟩
def putA (T:List AV) (dst:Option Nat) (v:AV):List AV:=match dst with
 | some d=>T.set d v
 | none=>T
def mM (ops:Array Oper) (lit:Bool) (o:Oper) (T:List AV) (x y:List AV→Prop):Prop:=match o.guard with
 | none=>x T
 | some (j,want)=>match(ops[j]?).bind (·.dst) with
  | none=>False
  | some t=>match T.getD t .undef with
   | .bool b=>nJ lit b (if want=true then x (T.set t (.bool true)) else y (T.set t (.bool true))) (if want=true then y (T.set t (.bool false)) else x (T.set t (.bool false)))
   | .tup []=>y T
   | _=>False
def sv (lit:Bool) (o:Oper) (T:List AV) (K:AV→Prop) (xQ:Prop):Prop:=match o.op with
 | .pick c x y=>m9 (cc T c) fun z=>nJ lit z (K (cc T x)) (K (cc T y))
 | _=>xQ
def evOps (P:Program) (esc:List Nat) (ops:Array Oper):List (Oper×Bool)→List AV→List (Nat×List AV)→List Blk→(List AV→List (Nat×List AV)→List Blk→Prop)→Prop
 | [],T,L,H,K=>K T L H
 | (o,lit)::rest,T,L,H,K=>mM ops lit o T
   (fun T=>sv lit o T (fun v=>evOps P esc ops rest (putA T o.dst v) L H K) (jh P esc o (cc T) L H fun v L' H'=>evOps P esc ops rest (putA T o.dst v) L' H' K))
   (fun T=>evOps P esc ops rest (putA T o.dst (.tup [])) L H K)
theorem qB {T:List AV} {d t:Nat} {v:AV}:(T.set d v).getD t .undef=if d=t∧d<T.length then v else T.getD t .undef:=by
 rw[List.getD_eq_getElem?_getD,List.getD_eq_getElem?_getD,List.getElem?_set]
 by_cases h:d=t
 ·subst h
  by_cases aI:d<T.length
  ·simp[aI]
  ·simp[aI]
 ·simp[h]
theorem Mo {E:Env} {T:List AV} {a:Act} (cs: ∀t,V3 E (T.getD t .undef) (a.tmps.getD t undef)) (hs:T.length=a.tmps.size) {dst:Option Nat} {v:AV} {u:Value} (hv:V3 E v u):
  (∀t,V3 E ((putA T dst v).getD t .undef) ((a.put dst u).tmps.getD t undef))∧(putA T dst v).length=(a.put dst u).tmps.size:=by
 cases dst with
 | none=>exact⟨cs,hs⟩
 | some d=>
  refine⟨fun t=> ?_,by simp[putA,Act.put,hs]⟩
  show V3 E ((T.set d v).getD t .undef) ((a.tmps.setIfInBounds d u).getD t undef)
  rw[qB,Array.getD_eq_getD_getElem?,Array.getElem?_setIfInBounds]
  by_cases h:d=t
  ·subst h
   by_cases aI:d<T.length
   ·have yo:d<a.tmps.size:=hs▸aI
    simp[aI,yo];exact hv
   ·have yo: ¬d<a.tmps.size:=hs▸aI
    have:=cs d
    rw[Array.getD_eq_getD_getElem?] at this
    simp[aI,yo] at this ⊢
    exact this
  ·have:=cs t
   rw[Array.getD_eq_getD_getElem?] at this
   simp[h];exact this
theorem Xg {E:Env} {T:List AV} {a:Act} (cs: ∀t,V3 E (T.getD t .undef) (a.tmps.getD t undef)) {t:Nat} {b:Bool} (h:T.getD t .undef= .bool b):
  ∀s,V3 E ((T.set t (.bool b)).getD s .undef) (a.tmps.getD s undef):=fun s=>by
 rw[qB]
 by_cases hs:t=s∧t<T.length
 ·rw[if_pos hs,←h,hs.1];exact cs s
 ·rw[if_neg hs];exact cs s
theorem Zn {ops:Array Oper} {a:Act} {T:List AV} {E:Env} (cs: ∀t,V3 E (T.getD t .undef) (a.tmps.getD t undef)) {j t:Nat} {b:Bool} (aP:(ops[j]?).bind (·.dst)=some t) (h:T.getD t .undef= .bool b) (hs:T.length=a.tmps.size):
  yielded ops a.tmps j=some b:=by
 have hv:=cs t
 rw[h] at hv
 have he:a.tmps.getD t undef= .bool b:=V3.pt hv
 unfold yielded
 rw[aP]
 rw[Array.getD_eq_getD_getElem?] at he
 cases aj:a.tmps[t]? with
 | none=>rw[aj] at he;cases he
 | some x=>rw[aj] at he;have:x= .bool b:=he;subst this;simp[aj]
theorem Zo {ops:Array Oper} {a:Act} {T:List AV} {E:Env} (cs: ∀t,V3 E (T.getD t .undef) (a.tmps.getD t undef)) {j t:Nat} (aP:(ops[j]?).bind (·.dst)=some t) (h:T.getD t .undef= .tup []):
  yielded ops a.tmps j=none:=by
 have hv:=cs t
 rw[h] at hv
 obtain⟨vs,he,aF⟩:=(show ∃vs:List Value,a.tmps.getD t undef= .tuple vs.toArray∧av (V2 E) [] vs from hv)
 obtain rfl:=aF.uq
 unfold yielded
 rw[aP]
 rw[Array.getD_eq_getD_getElem?] at he
 cases aj:a.tmps[t]? with
 | none=>simp[aj]
 | some x=>rw[aj] at he;have:x= .tuple #[]:=he;subst this;simp[aj]
theorem Rb {P:Program} {ops:Array Oper} {lit:Bool} {o:Oper} {a:Act} {T:List AV} {E:Env} {w:World} {x y:List AV→Prop} {R:Prop}
  (cs: ∀t,V3 E (T.getD t .undef) (a.tmps.getD t undef)) (hs:T.length=a.tmps.size) (h:mM ops lit o T x y)
  (pk: ∀T',Region.wanted o (yielded ops a.tmps)=true→(∀t,V3 E (T'.getD t .undef) (a.tmps.getD t undef))→T'.length=a.tmps.size→x T'→R)
  (no: ∀T',Region.wanted o (yielded ops a.tmps)=false→(∀t,V3 E (T'.getD t .undef) (a.tmps.getD t undef))→T'.length=a.tmps.size→y T'→R):R:=by
 unfold mM at h
 cases aO:o.guard with
 | none=>rw[aO] at h;exact pk T (by simp[Region.wanted,aO]) cs hs h
 | some g=>
  obtain⟨j,want⟩:=g
  rw[aO] at h
  simp only at h
  cases aP:(ops[j]?).bind (·.dst) with
  | none=>rw[aP] at h;exact h.elim
  | some t=>
   rw[aP] at h
   simp only at h
   split at h
   ·rename_i b hb
    have bA:=Zn (ops:=ops) cs aP hb hs
    have hk:=Xg cs hb
    obtain⟨h1,h2⟩:=xC h
    cases b with
    | true=>
     have h:=h1 rfl
     cases want with
     | true=>exact pk _ (by simp[Region.wanted,aO,bA]) hk (by simpa using hs) h
     | false=>exact no _ (by simp[Region.wanted,aO,bA]) hk (by simpa using hs) h
    | false=>
     have h:=h2 rfl
     cases want with
     | true=>exact no _ (by simp[Region.wanted,aO,bA]) hk (by simpa using hs) h
     | false=>exact pk _ (by simp[Region.wanted,aO,bA]) hk (by simpa using hs) h
   ·rename_i hb
    have bA:=Zo (ops:=ops) cs aP hb
    exact no T (by simp[Region.wanted,aO,bA]) cs hs h
   ·exact h.elim
theorem xZ {P:Program} {esc:List Nat} {ops:Array Oper} {Q:Exit→St→Prop} {cM:Env}: ∀(l:List (Oper×Bool)) (T:List AV) (L:List (Nat×List AV)) (H:List Blk) (E:Env) (a:Act),
  Good cM E→ry E ⟨T,L,H⟩ a.tmps→a.defers=[]→evOps P esc ops l T L H (fun T L H=>Q .normal ⟨T,L,H⟩)→wpList P ops (l6 cM Q) (l.map (·.1)) a E.w
 | [],T,L,H,E,a,aO,hs,bp,h=>⟨rfl,⟨T,L,H⟩,E,h,rfl,aO,hs,bp⟩
 | (o,lit)::rest,T,L,H,E,a,aO,hs,bp,h=>by
  have cs: ∀t,V3 E (T.getD t .undef) (a.tmps.getD t undef):=hs.iM
  show if Region.wanted o (yielded ops a.tmps) then o.wp P a E.w (wpList P ops (l6 cM Q) (rest.map (·.1))) (l6 cM Q)∨_ else wpList P ops (l6 cM Q) (rest.map (·.1)) (a.put o.dst undef) E.w
  refine Rb (P:=P) (w:=E.w) cs hs.size h (fun T' hw hT' k7 h'=> ?_) (fun T' hw hT' k7 h'=> ?_)
  ·rw[if_pos hw]
   refine .inl ?_
   have next: ∀(v:AV) (u:Value) (L':List (Nat×List AV)) (H':List Blk) (E':Env),Step E E'→SimH E' H'→SimL E' L'→V3 E' v u→evOps P esc ops rest (putA T' o.dst v) L' H' (fun T L H=>Q .normal ⟨T,L,H⟩)→
     wpList P ops (l6 cM Q) (rest.map (·.1)) (a.put o.dst u) E'.w:=fun v u L' H' E' q1 q2 q3 q4 hK=>by
    obtain⟨eS,fY⟩:=Mo (fun t=>(hT' t).le q1.le) k7 (dst:=o.dst) q4
    refine xZ rest _ _ _ E' (a.put o.dst u) (aO.step q1) ⟨q2,q3,eS,fY⟩ ?_ hK
    cases o.dst<;>exact bp
   have bI:(jh P esc o (cc T') L H fun v L' H'=>evOps P esc ops rest (putA T' o.dst v) L' H' (fun T L H=>Q .normal ⟨T,L,H⟩))→o.wp P a E.w (wpList P ops (l6 cM Q) (rest.map (·.1))) (l6 cM Q):=fun h'=>
    Oper.wp_mono (fun hp w' ⟨v,u,L',H',E',hK,eb,q1,q2,q3,q4,a6,_⟩=>by
     subst a6;subst eb
     exact next v u L' H' E' q1 q2 q3 q4 hK) (evOp_sound hT' hs.h hs.l h')
   unfold sv at h'
   split at h'
   ·rename_i c x y fc
    obtain⟨b,hb,bV⟩:=xr h'
    obtain⟨h1,h2⟩:=xC bV
    have hv:=opv_rel hT' c
    rw[hb] at hv
    have he:a.eval c= .bool b:=V3.pt hv
    unfold Oper.wp
    have hx: ∀z,(z=if b=true then a.eval x else a.eval y)→(execOp a.eval o).run P E.w= .ok (.value z) E.w:=fun z aQ=>by
     subst aQ
     simp only[execOp,fc,he,asBool,Sem.run_bind,Sem.run_pure,Result.andThen_ok]
    cases b with
    | true=>rw[hx (a.eval x) rfl];exact next _ _ L H E (Step.refl E) hs.h hs.l (opv_rel hT' x) (h1 rfl)
    | false=>rw[hx (a.eval y) rfl];exact next _ _ L H E (Step.refl E) hs.h hs.l (opv_rel hT' y) (h2 rfl)
   ·exact bI h'
  ·rw[hw]
   show wpList P ops (l6 cM Q) (rest.map (·.1)) (a.put o.dst undef) E.w
   obtain⟨eS,fY⟩:=Mo (a:=a) hT' k7 (dst:=o.dst) (v:= .tup []) (u:=undef) ⟨[],rfl,av.nil⟩
   refine xZ rest (putA T' o.dst (.tup [])) L H E (a.put o.dst undef) aO ⟨hs.h,hs.l,eS,fY⟩ ?_ h'
   cases o.dst<;>exact bp
def lits (ops:Array Oper) (pY:List Nat):List (Oper×Bool):=ops.toList.zipIdx.map fun p=>(p.1,pY.contains p.2)
theorem Vh (ops:Array Oper) (pY:List Nat):(lits ops pY).map (·.1)=ops.toList:=by
 unfold lits
 rw[List.map_map]
 apply List.ext_getElem?
 intro i
 simp only[List.getElem?_map,List.getElem?_zipIdx]
 cases ops.toList[i]?<;>rfl
theorem WpS.region {P:Program} {esc:List Nat} {pY:List Nat} {id:Nat} {ops:Array Oper} {Q:Exit→St→Prop} {aD:St} (h:evOps P esc ops (lits ops pY) aD.T aD.L aD.H (fun T L H=>Q .normal ⟨T,L,H⟩)):WpS P (.region id ops false) Q aD:=fun cM E a g s d=>by
 refine wp_region_list ?_
 have:=xZ (lits ops pY) aD.T aD.L aD.H E a g s d h
 rwa [Vh] at this
end Go.Proofs.Ytglpfccgmfhkdaa.Fw
/- The framework, part R: what is not wanted any more is forgotten; an empty slice becomes a block of its own. -/
set_option linter.unusedVariables false
namespace Go.Proofs.Ytglpfccgmfhkdaa.Fw
open Go
def sl (c5:List Nat):AV→Bool
 | .e6 t _=> !c5.contains t
 | _=>true
def qQ (c5:List Nat):AV→Bool
 | .fn _ caps=>caps.all (sl c5)
 | a=>sl c5 a
def qR (c5:List Nat):AV→Bool
 | .agg l=>l.all (qQ c5)
 | a=>qQ c5 a
def np (c5:List Nat):AV→Bool
 | .tup l=>l.all (qR c5)
 | a=>qR c5 a
def Env.drop (E:Env) (c5:List Nat):Env:={E with mL:=fun t=>if c5.contains t=true then none else E.mL t}
section
variable {E:Env} {c5:List Nat}
theorem fa.drop {a:AV} {v:Value} (h:sl c5 a=true) (hv:fa E a v):fa (E.drop c5) a v:=by
 cases a with
 | e6 t c=>
  obtain⟨bl,hm,e⟩:=hv
  have:c5.contains t=false:=by simpa[sl] using h
  exact⟨bl,by show(if c5.contains t=true then none else E.mL t)=_;rw[if_neg (by rw[this];simp)];exact hm,e⟩
 | _=>exact hv
theorem cG.drop {a:AV} {v:Value} (h:qQ c5 a=true) (hv:cG E a v):cG (E.drop c5) a v:=by
 by_cases hf: ∃f caps,a= .fn f caps
 ·obtain⟨f,caps,rfl⟩:=hf
  obtain⟨vs,e,aF⟩:=hv
  exact⟨vs,e,aF.1,fun i x y hx bA=>(aF.2 i x y hx bA).drop (List.all_eq_true.1 (show caps.all (sl c5)=true from h) x (List.mem_of_getElem? hx))⟩
 ·have a0:qQ c5 a=sl c5 a:=by cases a<;>first | rfl | exact absurd ⟨_,_,rfl⟩ hf
  rw[qg fun f c e=>hf ⟨f,c,e⟩] at hv ⊢
  exact hv.drop (a0▸h)
theorem V2.drop {a:AV} {v:Value} (h:qR c5 a=true) (hv:V2 E a v):V2 (E.drop c5) a v:=by
 by_cases hf: ∃l,a= .agg l
 ·obtain⟨l,rfl⟩:=hf
  obtain⟨vs,e,aF⟩:=hv
  exact⟨vs,e,aF.1,fun i x y hx bA=>(aF.2 i x y hx bA).drop (List.all_eq_true.1 (show l.all (qQ c5)=true from h) x (List.mem_of_getElem? hx))⟩
 ·have a0:qR c5 a=qQ c5 a:=by cases a<;>first | rfl | exact absurd ⟨_,rfl⟩ hf
  rw[om fun l e=>hf ⟨l,e⟩] at hv ⊢
  exact hv.drop (a0▸h)
theorem V3.drop {a:AV} {v:Value} (h:np c5 a=true) (hv:V3 E a v):V3 (E.drop c5) a v:=by
 by_cases hf: ∃l,a= .tup l
 ·obtain⟨l,rfl⟩:=hf
  obtain⟨vs,e,aF⟩:=hv
  exact⟨vs,e,aF.1,fun i x y hx bA=>(aF.2 i x y hx bA).drop (List.all_eq_true.1 (show l.all (qR c5)=true from h) x (List.mem_of_getElem? hx))⟩
 ·have a0:np c5 a=qR c5 a:=by cases a<;>first | rfl | exact absurd ⟨_,rfl⟩ hf
  rw[nF fun l e=>hf ⟨l,e⟩] at hv ⊢
  exact hv.drop (a0▸h)
end
def mH (c5:List Nat) (L:List (Nat×List AV)):List (Nat×List AV):=match L with
 | []=>[]
 | (k,c)::L=>match c5.contains k with
  | true=>mH c5 L
  | false=>(k,c)::mH c5 L
theorem xL {c5:List Nat}: ∀(L:List (Nat×List AV)) (t:Nat),c5.contains t=false→ew (mH c5 L) t=ew L t
 | [],t,h=>rfl
 | (k,c)::L,t,h=>by
  unfold mH
  split
  ·rename_i hk
   have:t≠k:=fun e=>by subst e;rw[h] at hk;cases hk
   rw[xL L t h];simp[ew,this]
  ·simp only[ew];rw[xL L t h]
theorem Weak.mH (c5:List Nat) {T:List AV} {L:List (Nat×List AV)} {H:List Blk} (h:T.all (np c5)=true):Weak ⟨T,L,H⟩ ⟨T,mH c5 L,H⟩:=fun cM E tmps g s=>by
 have hm: ∀t c,(E.drop c5).mL t=some c→c5.contains t=false∧E.mL t=some c:=by
  intro t c hc
  have hc:(if c5.contains t=true then none else E.mL t)=some c:=hc
  split at hc
  ·cases hc
  ·rename_i q;exact⟨by simpa using q,hc⟩
 have hi: ∀c,(E.drop c5).jN c→E.jN c:=fun c ⟨t,bu⟩=>⟨t,(hm t c bu).2⟩
 have jy:SimH E H:=s.h
 refine⟨E.drop c5,rfl,?_,?_,?_,fun t=> ?_,s.size⟩
 ·exact{g with
   le:={g.le with mL:=fun t c hc=>by rw[g.b6 t] at hc;cases hc}
   j9:=fun c hc=>g.j9 c (hi c hc)}
 ·exact{jy with
   heap:=jy.heap
   iH:=fun t iO c h1 h2=>jy.iH t iO c (hm t c h1).2 (hm iO c h2).2
   g2:=fun b t c h1 h2=>jy.g2 b t c h1 (hm t c h2).2
   h8:=fun c hc hx=>jy.h8 c hc (hi c hx)
   gu:=fun c hx=>jy.gu c (hi c hx)}
 ·intro t c hc
  obtain⟨h1,h2⟩:=hm t c hc
  obtain⟨cells,ba,ty,q1,q2,q3⟩:=s.l t c h2
  exact⟨cells,ba,ty,by show ew (Fw.mH c5 L) t=_;rw[xL L t h1];exact q1,q2,q3⟩
 ·show V3 (E.drop c5) (T.getD t .undef) _
  refine(s.iM t).drop ?_
  show np c5 (T.getD t .undef)=true
  rw[List.getD_eq_getElem?_getD]
  cases aj:T[t]? with
  | none=>rfl
  | some a=>exact List.all_eq_true.1 h a (List.mem_of_getElem? aj)
def pU:AV→Bool
 | .be [] true _=>true
 | _=>false
theorem P6 {E:Env} {a:AV} {v:Value} (h:pU a=true) (hv:fa E a v): ∃A,v= .slice A 0 0:=by
 have key: ∀rows full fr,a= .be rows full fr→rows=[]→full=true→ ∃A,v= .slice A 0 0:=by
  intro rows full fr e aJ hf
  subst e
  have hv:bD E.w E.PA E.PF (.be rows full fr) v:=hv
  cases hv with
  | @be _ _ PB _ _ _ A cap sz vs fV gD gQ cH eP dB=>
   refine⟨A,?_⟩
   rw[gQ hf,aJ];rfl
 unfold pU at h
 split at h
 ·exact key _ _ _ rfl rfl rfl
 ·cases h
theorem AR {E E':Env} {a:AV} {v:Value} {b:Nat} (h:pU a=true) (hv:cG E a v) (aO:E'.bI b=0) (hm:E'.m b=some none):cG E' (.ref b 0 0 0 false) v:=by
 have fA:fa E a v:=by
  rwa [qg] at hv
  rintro f c rfl;cases h
 obtain⟨A,rfl⟩:=P6 h fA
 exact .inr ⟨aO.symm,.inl ⟨hm,rfl,rfl,A,rfl⟩⟩
theorem Weak.OC (i sz:Nat) {T:List AV} {L:List (Nat×List AV)} {H:List Blk} (h:pU (T.getD i .undef)=true):Weak ⟨T,L,H⟩ ⟨T.set i (.ref H.length 0 0 0 false),L,H++[⟨0,sz,[]⟩]⟩:=fun cM E tmps g s=>by
 obtain⟨E',hw,bd,h1,h2,aS,bt,_⟩:=yX (blk:=⟨0,sz,[]⟩) s.h s.l rfl rfl
 refine⟨E',hw,g.step bd,h1,h2,fun t=> ?_,by simpa using s.size⟩
 show V3 E' ((T.set i _).getD t .undef) _
 rw[qB]
 split
 ·rename_i aj
  obtain⟨rfl,_⟩:=aj
  have hv:=s.iM i
  have lr:cG E (T.getD i .undef) (tmps.getD i undef):=by
   have hv:V3 E (T.getD i .undef) (tmps.getD i undef):=hv
   rw[nF,om] at hv
   ·exact hv
   ·intro l e;rw[e] at h;cases h
   ·intro l e;rw[e] at h;cases h
  exact oq (oo (AR h lr aS bt))
 ·exact(s.iM t).le bd.le
theorem Weak.nG (t i sz:Nat) {T:List AV} {L:List (Nat×List AV)} {H:List Blk} {cells:List AV} (hc:ew L t=some cells) (h:pU (cells.getD i .undef)=true):
  Weak ⟨T,L,H⟩ ⟨T,lA L t (cells.set i (.ref H.length 0 0 0 false)),H++[⟨0,sz,[]⟩]⟩:=fun cM E tmps g s=>by
 obtain⟨E',hw,bd,h1,h2,aS,bt,cb,cE⟩:=yX (blk:=⟨0,sz,[]⟩) s.h s.l rfl rfl
 refine⟨E',hw,g.step bd,h1,?_,fun t=>(s.iM t).le bd.le,s.size⟩
 intro u c hm
 obtain⟨gP,ba,ty,q1,q2,q3⟩:=h2 u c hm
 show ∃Pr ba ty,ew (lA L t _) u=some Pr∧_
 rw[ya]
 by_cases hu:u=t
 ·subst hu
  rw[if_pos rfl]
  have LC:ew L u=some gP:=q1
  rw[hc] at LC
  cases LC
  refine⟨_,ba,ty,by rw[hc];rfl,q2,by simpa using q3.1,fun j x v hx hv=> ?_⟩
  rw[List.getElem?_set] at hx
  split at hx
  ·rename_i nh
   subst nh
   split at hx
   ·rename_i bg
    cases hx
    have aO:=List.getElem?_eq_getElem bg
    have:cells.getD i .undef=cells[i]:=by rw[List.getD_eq_getElem?_getD,aO];rfl
    have lr:=q3.2 i _ v aO hv
    rw[this] at h
    exact AR (E:=E'.b6) h lr aS bt
   ·cases hx
  ·exact q3.2 j x v hx hv
 ·rw[if_neg hu]
  exact⟨gP,ba,ty,q1,q2,q3⟩
end Go.Proofs.Ytglpfccgmfhkdaa.Fw
/- The framework, part S: the steps of a walk that a program prints; the program's own kinds of values, and the cells that stand for them. -/
set_option linter.unusedVariables false
namespace Go.Proofs.Ytglpfccgmfhkdaa.Fw
open Go
structure ch where
 bb:Int
 bx:Int
 deriving Inhabited,DecidableEq
structure Way where
 ai:List Int
 aZ:List ch
 br:List ch
 cw:List Int
 ct:List Int
 deriving Inhabited,DecidableEq
structure aB where
 ai:Int
 bh:List Int
 ways:List Way
 bars:List (List Bool)
 hold:Int
 deriving Inhabited,DecidableEq
structure Event where
 op:Int
 ag:Int
 bx:Int
 deriving Inhabited,DecidableEq
structure aN where
 want:Int
 aZ:Int
 deriving Inhabited,DecidableEq
structure aa where
 state:Int
 gone:Int
 been:List Bool
 shown:Bool
 timer:Int
 deriving Inhabited,DecidableEq
structure Frame where
 ok:Bool
 al:List Bool
 ak:List aN
 ways:List aa
 deriving Inhabited,DecidableEq
structure cP where
 code:Int
 frame:Frame
 deriving Inhabited,DecidableEq
structure ij where
 code:Int
 pos:Int
 deriving Inhabited,DecidableEq
structure l7 where
 ways:List Int
 ai:List Int
 ak:List Int
 deriving Inhabited,DecidableEq
structure zW where
 code:List UInt8
 pos:Int
 L8:Int
 deriving Inhabited
def bW (n:Int):List AV:=[.int .i64 n]
def jg (n:UInt8):List AV:=[.int .u8 n.toNat]
def aH (b:Bool):List AV:=[.bool b]
def AP (s:ByteArray):List AV:=[.str s]
def eX {α:Type} (e:α→List AV) (fr:Bool) (xs:List α):List AV:=[.be (xs.map e) false fr]
def cD (x:ch):List AV:=[.int .i64 x.bb,.int .i64 x.bx]
def c9 (fr:Bool) (x:Way):List AV:=[.be (x.ai.map bW) false fr,.be (x.aZ.map cD) false fr,.be (x.br.map cD) false fr,.be (x.cw.map bW) false fr,.be (x.ct.map bW) false fr]
def a8 (fr:Bool) (x:aB):List AV:=[.int .i64 x.ai,.be (x.bh.map bW) false fr,.be (x.ways.map (c9 false)) false fr,.be (x.bars.map (eX aH false)) false fr,.int .i64 x.hold]
def eE (x:Event):List AV:=[.int .i64 x.op,.int .i64 x.ag,.int .i64 x.bx]
def a1 (x:aN):List AV:=[.int .i64 x.want,.int .i64 x.aZ]
def cd (fr:Bool) (x:aa):List AV:=[.int .i64 x.state,.int .i64 x.gone,.be (x.been.map aH) false fr,.bool x.shown,.int .i64 x.timer]
def bS (fr:Bool) (x:Frame):List AV:=[.bool x.ok,.be (x.al.map aH) false fr,.be (x.ak.map a1) false fr,.be (x.ways.map (cd false)) false fr]
def fT (fr:Bool) (x:cP):List AV:=[.int .i64 x.code,.bool x.frame.ok,.be (x.frame.al.map aH) false fr,.be (x.frame.ak.map a1) false fr,.be (x.frame.ways.map (cd false)) false fr]
def AM (x:ij):List AV:=[.int .i64 x.code,.int .i64 x.pos]
def P3 (fr:Bool) (x:zW):List AV:=[.be (x.code.map jg) false fr,.int .i64 x.pos,.int .u64 x.L8]
def AO (fr:Bool) (x:l7):List AV:=[.be (x.ways.map bW) false fr,.be (x.ai.map bW) false fr,.be (x.ak.map bW) false fr]
def nth {α:Type} [Inhabited α] (xs:List α) (i:Int):α:=xs.getD i.toNat default
theorem gv {α:Type} [Inhabited α] {xs:List α} {i:Int} (h:i.toNat<xs.length):xs[i.toNat]?=some (nth xs i):=by
 unfold nth
 rw[List.getD_eq_getElem?_getD,List.getElem?_eq_getElem h];rfl
def qT:Code→List Nat→Code
 | c,[]=>c
 | .seq x y,n::p=>match n with
  | 0=>qT x p
  | _=>qT y p
 | .cond _ x y,n::p=>match n with
  | 0=>qT x p
  | _=>qT y p
 | .block _ x,_::p=>qT x p
 | .loop x,_::p=>qT x p
 | .scope x,_::p=>qT x p
 | c,_=>c
def hM (f:Func):Code:=f.body.getD .skip
section
variable {P:Program} {esc:List Nat} {ops:Array Oper} {l eR:List (Oper×Bool)} {T T':List AV} {L L':List (Nat×List AV)} {H H':List Blk} {K:List AV→List (Nat×List AV)→List Blk→Prop}
end
theorem WpS.seq' {P:Program} {c x y:Code} {Q:Exit→St→Prop} {aD:St} (e:c= .seq x y) (h:WpS P x (c4 P y Q) aD):WpS P c Q aD:=e▸WpS.seq h
theorem WpS.Pz {P:Program} {c x y:Code} {o:Operand} {Q:Exit→St→Prop} {aD:St} {b:Bool} (e:c= .cond o x y) (hb:cc aD.T o= .bool b) (h1:b=true→WpS P x Q aD) (h2:b=false→WpS P y Q aD):WpS P c Q aD:=
 e▸WpS.cond (by rw[hb];exact⟨h1,h2⟩)
theorem WpS.GQ {P:Program} {c x:Code} {id:Nat} {Q:Exit→St→Prop} {aD:St} (e:c= .block id x) (h:WpS P x (bZ id Q) aD):WpS P c Q aD:=e▸WpS.block h
theorem WpS.WU {P:Program} {c:Code} {Q:Exit→St→Prop} {aD:St} (e:c= .skip) (h:Q .normal aD):WpS P c Q aD:=e▸WpS.skip h
theorem WpS.Wu {P:Program} {c:Code} {Q:Exit→St→Prop} {aD:St} (e:c= .ret) (h:Q .ret aD):WpS P c Q aD:=e▸WpS.ret h
theorem WpS.Qg {P:Program} {c:Code} {id:Nat} {Q:Exit→St→Prop} {aD:St} (e:c= .exit id) (h:Q (.exit id) aD):WpS P c Q aD:=e▸WpS.exit h
theorem WpS.Vo {P:Program} {c x:Code} {Q:Exit→St→Prop} {aD:St} {V:Type} (S:V→St) (I:V→Prop) (m:V→Nat) (e:c= .loop x) (g9:V) (hs:Weak aD (S g9)) (a0:I g9)
  (round: ∀v,I v→WpS P x (fun ex s=>match ex with
   | .normal=> ∃eg,I eg∧m eg<m v∧Weak s (S eg)
   | ex=>Q ex s) (S v)):WpS P c Q aD:=by
 subst e
 refine WpS.jd (WpS.loop (fun n s=> ∃v,I v∧s=S v∧n=m v) (m g9) ⟨g9,a0,rfl,rfl⟩ ?_) hs
 rintro n s ⟨v,hv,rfl,rfl⟩
 refine WpS.mono (round v hv) fun ex s aj=> ?_
 cases ex with
 | normal=>
  obtain⟨eg,h1,h2,aS⟩:=aj
  exact⟨m eg,S eg,h2,aS,eg,h1,rfl,rfl⟩
 | _=>exact aj
theorem c4.normal {P:Program} {y:Code} {Q:Exit→St→Prop} {s:St} (h:WpS P y Q s):c4 P y Q .normal s:=h
theorem c4.ret {P:Program} {y:Code} {Q:Exit→St→Prop} {s:St} (h:Q .ret s):c4 P y Q .ret s:=h
theorem c4.exit {P:Program} {y:Code} {Q:Exit→St→Prop} {s:St} {id:Nat} (h:Q (.exit id) s):c4 P y Q (.exit id) s:=h
theorem bZ.normal {id:Nat} {Q:Exit→St→Prop} {s:St} (h:Q .normal s):bZ id Q .normal s:=h
theorem bZ.ret {id:Nat} {Q:Exit→St→Prop} {s:St} (h:Q .ret s):bZ id Q .ret s:=h
theorem bZ.here {id:Nat} {Q:Exit→St→Prop} {s:St} (h:Q .normal s):bZ id Q (.exit id) s:=by
 show(if id=id then _ else _);rw[if_pos rfl];exact h
theorem bZ.there {id fO:Nat} {Q:Exit→St→Prop} {s:St} (cO:fO≠id) (h:Q (.exit fO) s):bZ id Q (.exit fO) s:=by
 show(if fO=id then _ else _);rw[if_neg cO];exact h
theorem ck.ee {L:List (Nat×List AV)} {H:List Blk} {a b:AV} (h:fo L H a b):ck L H a b:= .inr h
theorem ck.agg {L:List (Nat×List AV)} {H:List Blk} {l eR:List AV} (h:av (fo L H) l eR):ck L H (.agg l) (.agg eR):= .inl ⟨l,eR,rfl,rfl,h⟩
theorem gd.ee {H:List Blk} {a b:AV} (h:fp H a b):gd H a b:= .inr (.inr h)
theorem gd.agg {H:List Blk} {l eR:List AV} (h:av (fp H) l eR):gd H (.agg l) (.agg eR):= .inr (.inl ⟨l,eR,rfl,rfl,h⟩)
end Go.Proofs.Ytglpfccgmfhkdaa.Fw
/- The framework, part T: where ways meet again; leaves of a walk. -/
set_option linter.unusedVariables false
namespace Go.Proofs.Ytglpfccgmfhkdaa.Fw
open Go
theorem WpS.start {P:Program} {c:Code} {Q:Exit→St→Prop} {aD kk:St} (e:aD=kk) (h:WpS P c Q kk):WpS P c Q aD:=e▸h
def bR (S:St) (ψ:Prop) (Q:Exit→St→Prop) (ex:Exit) (s:St):Prop:=match ex with
 | .normal=>ψ∧Weak s S
 | ex=>Q ex s
theorem WpS.sI {P:Program} {c x y:Code} {Q:Exit→St→Prop} {aD:St} (S:St) {ψ:Prop} (e:c= .seq x y) (h:WpS P x (bR S ψ Q) aD) (aj:ψ→WpS P y Q S):WpS P c Q aD:=by
 subst e
 refine WpS.seq (WpS.mono h fun ex s hs=> ?_)
 cases ex with
 | normal=>exact WpS.jd (aj hs.1) hs.2
 | _=>exact hs
theorem bR.normal {S s:St} {ψ:Prop} {Q:Exit→St→Prop} (aF:ψ) (h:Weak s S):bR S ψ Q .normal s:=⟨aF,h⟩
theorem bR.ret {S s:St} {ψ:Prop} {Q:Exit→St→Prop} (h:Q .ret s):bR S ψ Q .ret s:=h
theorem bR.exit {S s:St} {ψ:Prop} {Q:Exit→St→Prop} {id:Nat} (h:Q (.exit id) s):bR S ψ Q (.exit id) s:=h
def cU {V:Type} (S:V→St) (I:V→Prop) (m:V→Nat) (v:V) (Q:Exit→St→Prop) (ex:Exit) (s:St):Prop:=match ex with
 | .normal=> ∃eg,I eg∧m eg<m v∧Weak s (S eg)
 | ex=>Q ex s
theorem WpS.KE {P:Program} {c x:Code} {Q:Exit→St→Prop} {aD:St} {V:Type} (S:V→St) (I:V→Prop) (m:V→Nat) (e:c= .loop x) (g9:V) (hs:Weak aD (S g9)) (a0:I g9)
  (round: ∀v,I v→WpS P x (cU S I m v Q) (S v)):WpS P c Q aD:=
 WpS.Vo S I m e g9 hs a0 fun v hv=>WpS.mono (round v hv) fun ex s h=>by
  cases ex<;>exact h
theorem cU.again {V:Type} {S:V→St} {I:V→Prop} {m:V→Nat} {v:V} {Q:Exit→St→Prop} {s:St} (eg:V) (h:I eg∧m eg<m v) (hw:Weak s (S eg)):cU S I m v Q .normal s:=⟨eg,h.1,h.2,hw⟩
theorem cU.ret {V:Type} {S:V→St} {I:V→Prop} {m:V→Nat} {v:V} {Q:Exit→St→Prop} {s:St} (h:Q .ret s):cU S I m v Q .ret s:=h
theorem cU.exit {V:Type} {S:V→St} {I:V→Prop} {m:V→Nat} {v:V} {Q:Exit→St→Prop} {s:St} {id:Nat} (h:Q (.exit id) s):cU S I m v Q (.exit id) s:=h
@[irreducible] def bK (c:Code) (n:Nat):Code:=qT c (((List.range (Nat.log2 n)).map fun i=>(n>>>i)%2).reverse)
def h9 (c:Code) (n:Nat):Array Oper:=match bK c n with
 | .region _ ops _=>ops
 | _=> #[]
theorem fK {s s' s'':St} (h:Weak s s') (e:s'=s''):Weak s s'':=e▸h
def j0 (H:List Blk) (c d:List AV):Prop:=c.length=d.length∧ ∀(j:Nat) (a b:AV),c[j]?=some a→d[j]?=some b→fp H a a∧b=m3 a
theorem Xh {H:List Blk} {α:Type} {eT eF:α→List AV} {b:Nat} {g sz:Nat} {full:Bool} {xs:List α} (hb:H[b]?=some ⟨g,sz,List.map eT xs⟩) (aC:xs.length≤4611686018427387904) (hc: ∀x,j0 H (eT x) (eF x)):
  fp H (.ref b g 0 xs.length full) (.be (List.map eF xs) false true):=by
 refine fp.ref (fun h=>by cases h) (fun i j=>((xs[i]?).bind fun x=>(eT x)[j]?).getD .undef) hb rfl (by rw[List.length_map]) aC (by simp) (fun i row row' h1 h2=> ?_) (fun i j row a hi h1 h2=> ?_) (fun i j row' c h1 h2=> ?_)
 ·have h1:(List.map eT xs)[0+i]?=some row:=h1
  rw[Nat.zero_add,List.getElem?_map] at h1
  rw[List.getElem?_map] at h2
  cases hx:xs[i]? with
  | none=>rw[hx] at h1;cases h1
  | some x=>rw[hx] at h1 h2;cases h1;cases h2;exact(hc x).1
 ·have h1:(List.map eT xs)[0+i]?=some row:=h1
  rw[Nat.zero_add,List.getElem?_map] at h1
  cases hx:xs[i]? with
  | none=>rw[hx] at h1;cases h1
  | some x=>
   rw[hx] at h1;cases h1
   show fp H a (((some x).bind fun x=>(eT x)[j]?).getD .undef)
   have aP:(eT x)[j]?=some a:=h2
   have he:((some x).bind fun x=>(eT x)[j]?).getD .undef=a:=by
    show((eT x)[j]?).getD .undef=a
    rw[aP];rfl
   rw[he]
   have bg:j<(eF x).length:=by rw[←(hc x).1];exact(List.getElem?_eq_some_iff.1 aP).1
   exact((hc x).2 j a _ aP (List.getElem?_eq_getElem bg)).1
 ·rw[List.getElem?_map] at h1
  cases hx:xs[i]? with
  | none=>rw[hx] at h1;cases h1
  | some x=>
   rw[hx] at h1;cases h1
   show c=m3 (((some x).bind fun x=>(eT x)[j]?).getD .undef)
   have bg:j<(eT x).length:=by rw[(hc x).1];exact(List.getElem?_eq_some_iff.1 h2).1
   have aP:=List.getElem?_eq_getElem bg
   have he:((some x).bind fun x=>(eT x)[j]?).getD .undef=(eT x)[j]:=by
    show((eT x)[j]?).getD .undef=_
    rw[aP];rfl
   rw[he]
   exact((hc x).2 j _ c aP h2).2
theorem j0.nil {H:List Blk}:j0 H [] []:=⟨rfl,fun j a b h=>by simp at h⟩
theorem j0.cons {H:List Blk} {a b:AV} {c d:List AV} (h1:fp H a a) (h2:b=m3 a) (h:j0 H c d):j0 H (a::c) (b::d):=
 ⟨by simp[h.1],fun j x y hx bA=>by
  cases j with
  | zero=>simp at hx bA;subst hx;subst bA;exact⟨h1,h2⟩
  | succ j=>exact h.2 j x y (by simpa using hx) (by simpa using bA)⟩
theorem Ah {H:List Blk} (n:Int):j0 H (bW n) (bW n):= .cons (.int _ _) rfl .nil
theorem Pb {H:List Blk} (n:UInt8):j0 H (jg n) (jg n):= .cons (.int _ _) rfl .nil
theorem rF {H:List Blk} (b:Bool):j0 H (aH b) (aH b):= .cons (.bool _) rfl .nil
theorem Pa {H:List Blk} (b:ByteArray):j0 H (AP b) (AP b):= .cons (.str _) rfl .nil
theorem jH {H:List Blk} (rows:List (List AV)):fp H (.be rows false true) (.be rows false true):= .be _ _ _ id
theorem Ai {H:List Blk} (x:ch):j0 H (cD x) (cD x):= .cons (.int _ _) rfl (.cons (.int _ _) rfl .nil)
theorem O8 {H:List Blk} (x:Event):j0 H (eE x) (eE x):= .cons (.int _ _) rfl (.cons (.int _ _) rfl (.cons (.int _ _) rfl .nil))
theorem tf {H:List Blk} (x:aN):j0 H (a1 x) (a1 x):= .cons (.int _ _) rfl (.cons (.int _ _) rfl .nil)
theorem Pc {H:List Blk} (x:Way):j0 H (c9 true x) (c9 false x):= .cons (jH _) rfl (.cons (jH _) rfl (.cons (jH _) rfl (.cons (jH _) rfl (.cons (jH _) rfl .nil))))
theorem O9 {H:List Blk} (x:aa):j0 H (cd true x) (cd false x):= .cons (.int _ _) rfl (.cons (.int _ _) rfl (.cons (jH _) rfl (.cons (.bool _) rfl (.cons (.int _ _) rfl .nil))))
theorem O7 {H:List Blk} (x:cP):j0 H (fT true x) (fT false x):= .cons (.int _ _) rfl (.cons (.bool _) rfl (.cons (jH _) rfl (.cons (jH _) rfl (.cons (jH _) rfl .nil))))
theorem NG {H:List Blk} {α:Type} {eT eF:α→List AV} {b g sz:Nat} {full:Bool} {xs ys:List α} (hb:H[b]?=some ⟨g,sz,List.map eT xs⟩) (hc: ∀x,j0 H (eT x) (eF x)) (h:xs.length≤4611686018427387904∧xs=ys):
  fp H (.ref b g 0 xs.length full) (.be (List.map eF ys) false true):=h.2▸Xh hb h.1 hc
theorem nA {H:List Blk} {α:Type} {e:α→List AV} {ys:List α} {full fr:Bool} (h:[]=ys):fp H (.be [] full fr) (.be (List.map e ys) false true):=h▸ .KG _ _ _ (fun h=>by cases h)
theorem p8 {H:List Blk} {α:Type} {e:α→List AV} {xs ys:List α} {full:Bool} (h:xs=ys):fp H (.be (List.map e xs) full true) (.be (List.map e ys) false true):=h▸ .be _ _ _ (fun h=>by cases h)
theorem rh {H:List Blk} {k:IntKind} {a b:Int} (h:a=b):fp H (.int k a) (.int k b):=h▸ .int k a
theorem iN {H:List Blk} {a b:Bool} (h:a=b):fp H (.bool a) (.bool b):=h▸ .bool a
theorem YO {H:List Blk} {a b:ByteArray} (h:a=b):fp H (.str a) (.str b):=h▸ .str a
theorem b7 {L:List (Nat×List AV)} {H:List Blk} {rows:List (List AV)} {full fr:Bool}:fo L H (.be rows full fr) (.be rows false false):= .be _ _ _ _ (fun h=>by cases h)
def mA (L:List (Nat×List AV)) (H:List Blk) (c d:List AV):Prop:=c.length=d.length∧ ∀(j:Nat) (a b:AV),c[j]?=some a→d[j]?=some b→fo L H a b
theorem L6 {L:List (Nat×List AV)} {H:List Blk} {α:Type} {eT eF:α→List AV} {b g sz:Nat} {full:Bool} {xs:List α} (hb:H[b]?=some ⟨g,sz,List.map eT xs⟩) (hc: ∀x,mA L H (eT x) (eF x)) (aC:xs.length≤4611686018427387904):
  fo L H (.ref b g 0 xs.length full) (.be (List.map eF xs) false false):=by
 refine fo.ref (fun h=>by cases h) hb rfl (by rw[List.length_map]) aC (by simp) (fun i row row' h1 h2=> ?_) (fun i j row row' a c h1 h2 aS bt=> ?_)
 ·have h1:(List.map eT xs)[0+i]?=some row:=h1
  rw[Nat.zero_add,List.getElem?_map] at h1
  rw[List.getElem?_map] at h2
  cases hx:xs[i]? with
  | none=>rw[hx] at h1;cases h1
  | some x=>rw[hx] at h1 h2;cases h1;cases h2;exact(hc x).1
 ·have h1:(List.map eT xs)[0+i]?=some row:=h1
  rw[Nat.zero_add,List.getElem?_map] at h1
  rw[List.getElem?_map] at h2
  cases hx:xs[i]? with
  | none=>rw[hx] at h1;cases h1
  | some x=>rw[hx] at h1 h2;cases h1;cases h2;exact(hc x).2 j a c aS bt
theorem mA.nil {L:List (Nat×List AV)} {H:List Blk}:mA L H [] []:=⟨rfl,fun j a b h=>by simp at h⟩
theorem mA.cons {L:List (Nat×List AV)} {H:List Blk} {a b:AV} {c d:List AV} (h1:fo L H a b) (h:mA L H c d):mA L H (a::c) (b::d):=
 ⟨by simp[h.1],fun j x y hx bA=>by
  cases j with
  | zero=>simp at hx bA;subst hx;subst bA;exact h1
  | succ j=>exact h.2 j x y (by simpa using hx) (by simpa using bA)⟩
section
variable {L:List (Nat×List AV)} {H:List Blk}
theorem qL (b:Bool):mA L H (aH b) (aH b):= .cons (.bool _) .nil
theorem B8 (x:Event):mA L H (eE x) (eE x):= .cons (.int _ _) (.cons (.int _ _) (.cons (.int _ _) .nil))
theorem sb (x:aN):mA L H (a1 x) (a1 x):= .cons (.int _ _) (.cons (.int _ _) .nil)
end
theorem YN {H:List Blk} {α:Type} {enc:Bool→α→List AV} {y:α} {ys:List α} {b g sz:Nat} {full:Bool} {row:List AV} (hb:H[b]?=some ⟨g,sz,[row]⟩) (hc:av (fp H) row (enc true y)) (hu:(enc true y).map m3=enc false y) (h:[y]=ys):
  fp H (.ref b g 0 1 full) (.be (List.map (enc false) ys) false true):=by
 subst h
 refine fp.ref (fun h=>by cases h) (fun i j=>((enc true y)[j]?).getD .undef) hb rfl rfl (by decide) (Nat.le_refl _) (fun i Eh row' h1 h2=> ?_) (fun i j Eh a hi h1 h2=> ?_) (fun i j row' c h1 h2=> ?_)
 ·have h1:[row][0+i]?=some Eh:=h1
  rw[Nat.zero_add] at h1
  cases i with
  | zero=>
   cases h1;cases h2
   rw[hc.1,←hu,List.length_map]
  | succ i=>cases h1
 ·have h1:[row][0+i]?=some Eh:=h1
  rw[Nat.zero_add] at h1
  cases i with
  | zero=>
   cases h1
   obtain⟨d,bp,aJ⟩:=hc.get h2
   rw[bp];exact aJ
  | succ i=>cases h1
 ·cases i with
  | zero=>
   cases h1
   rw[←hu,List.getElem?_map] at h2
   cases bp:(enc true y)[j]? with
   | none=>rw[bp] at h2;cases h2
   | some d=>rw[bp] at h2;cases h2;rfl
  | succ i=>cases h1
end Go.Proofs.Ytglpfccgmfhkdaa.Fw
/- The framework, part U: an operation that only reads has one value. -/
set_option linter.unusedVariables false
namespace Go.Proofs.Ytglpfccgmfhkdaa.Fw
open Go
def dS {α:Type} (F:(α→Prop)→Prop):Prop:= ∀K,F K→ ∃r,K r∧F (fun x=>x=r)
theorem dS.ret {α:Type} (r:α):dS fun K=>K r:=fun K h=>⟨r,h,rfl⟩
theorem dS.no {α:Type}:dS (α:=α) fun _=>False:=fun K h=>h.elim
theorem dS.and {α:Type} {φ:Prop} {F:(α→Prop)→Prop} (h:dS F):dS fun K=>φ∧F K:=fun K ⟨aF,hf⟩=>by
 obtain⟨r,h1,h2⟩:=h K hf
 exact⟨r,h1,aF,h2⟩
theorem dS.OG {α:Type} {φ:Prop} {F:(α→Prop)→Prop} (h:φ→dS F):dS fun K=>φ∧F K:=fun K ⟨aF,hf⟩=>by
 obtain⟨r,h1,h2⟩:=h aF K hf
 exact⟨r,h1,aF,h2⟩
theorem dS.bind {α β:Type} {o:Option β} {F:β→(α→Prop)→Prop} (h: ∀b,dS (F b)):dS fun K=>cJ o fun b=>F b K:=fun K hf=>by
 cases o with
 | none=>exact hf.elim
 | some b=>exact h b K hf
theorem dS.ite {α:Type} {c:Prop} [Decidable c] {F G:(α→Prop)→Prop} (h:dS F) (k:dS G):dS fun K=>if c then F K else G K:=by
 intro K hf
 by_cases hc:c
 ·rw[if_pos hc] at hf
  obtain⟨r,h1,h2⟩:=h K hf
  exact⟨r,h1,by show if c then _ else _;rw[if_pos hc];exact h2⟩
 ·rw[if_neg hc] at hf
  obtain⟨r,h1,h2⟩:=k K hf
  exact⟨r,h1,by show if c then _ else _;rw[if_neg hc];exact h2⟩
theorem dS.ef {α:Type} {b:Bool} {F:(α→Prop)→Prop} (h:dS F):dS fun K=>ef b (F K):=by
 cases b with
 | true=>exact h
 | false=>exact dS.no
theorem F1 {P:Program} {t:TypeId} {cells:List AV} {c:Nat}:dS (iB P t cells c):=by
 unfold iB
 exact .ite (.ite (.ite (.ret _) .no) (.bind fun _=> .ret _)) .no
theorem UZ {P:Program} {t:TypeId} {x:AV} {L:List (Nat×List AV)} {H:List Blk}:dS (nm P t x L H):=by
 cases x with
 | e6 s c=>exact .bind fun _=>F1
 | ptr b g r c=>exact .bind fun _=> .and (.bind fun _=>F1)
 | cZ cells c=>exact F1
 | _=>exact .no
theorem VC {x:AV}:dS (DL x):=by
 cases x<;>first | exact .no | exact .ret _
theorem OU {op:BinOp} {k:IntKind} {a b:Int}:dS (xx op k a b):=by
 cases op<;>first | exact .no | exact .ret _ | exact .and (.ret _)
theorem OT {op:BinOp} {k jO:IntKind} {a b:Int}:dS (xy op k a jO b):=by
 cases op<;>first | exact .and (.ret _) | exact .ite OU .no
def vo (x:AV):Bool:=match x with
 | .be _ _ _=>false
 | _=>true
theorem OV {P:Program} {op:BinOp} {t:TypeId} {x y:AV} {qd:Bool} (hx:vo x=true):dS (qm P op t x y qd):=by
 cases x with
 | int k a=>cases y<;>first | exact .no | exact OT
 | bool a=>
  cases y with
  | bool b=>exact .ite (by cases op<;>first | exact .no | exact .ret _) .no
  | _=>exact .no
 | str a=>
  cases y with
  | str b=>
   show dS (z_ op a b)
   cases op<;>first | exact .no | exact .ret _ | exact .and (.ret _)
  | _=>exact .no
 | agg l=>
  cases y with
  | agg m=>exact .ite (.bind fun p=> .bind fun q=>by
    show dS (Aa op p.1 p.2 q.1 q.2)
    cases op<;>first | exact .no | exact .ret _) .no
  | _=>exact .no
 | be rows ei fr=>cases hx
 | _=>exact .no
theorem Y_ {op:UnOp} {x:AV}:dS (zK op x):=by
 cases op<;>cases x<;>first | exact .no | exact .ret _
theorem PR {P:Program} {s d:TypeId} {x:AV}:dS (AE P s d x):=by
 cases x with
 | int k n=>exact .bind fun _=> .bind fun _=> .ret _
 | _=>exact .no
theorem Qm {P:Program} {t:TypeId} {x:AV} {f:Nat}:dS (A6 P t x f):=by
 refine .bind fun fd=> .ite ?_ .no
 cases x<;>first | exact .no | exact .ret _
theorem S8 {P:Program} {t:TypeId} {x i:AV} {H:List Blk}:dS (ua P t x i H):=by
 refine .bind fun e=> .ite ?_ .no
 cases i with
 | int k n=>
  cases x with
  | be rows ei fr=>exact .and (.bind fun _=> .and (.ret _))
  | ref b g off m ei=>exact .bind fun _=> .and (.and (.and (.and (.ret _))))
  | _=>exact .no
 | _=>exact .no
theorem Tf {P:Program} {t:TypeId} {x i:AV}:dS (B_ P t x i):=by
 cases x with
 | str s=>
  cases i with
  | int k n=>
   show dS fun K:AV→Prop=>(match P.underlying t with
   | some .string=>0≤n∧n<s.size∧K (.int .u8 ((s.data.getD n.toNat 0).toNat))
   | _=>False)
   split
   ·exact .and (.and (.ret _))
   ·exact .no
  | _=>exact .no
 | _=>exact .no
theorem tb {α:Type} {x:Option AV} {d:Nat} {F:Nat→(α→Prop)→Prop} (h: ∀n,dS (F n)):dS fun K=>lk x d fun n=>F n K:=by
 cases x with
 | none=>exact h d
 | some a=>
  cases a with
  | int k n=>exact .and (h _)
  | _=>exact .no
theorem WW {P:Program} {t:TypeId} {x:AV} {lo hi:Option AV} {H:List Blk}:dS (sM P t x lo hi H):=by
 cases x with
 | str s=>
  show dS fun K:AV→Prop=>(match P.underlying t with
   | some .string=>lk lo 0 fun l=>lk hi s.size fun h=>l≤h∧h≤s.size∧K (.str (s.extract l h))
   | _=>False)
  split
  ·exact tb fun l=>tb fun h=> .and (.and (.ret _))
  ·exact .no
 | be rows ei fr=>exact .bind fun e=> .ite (tb fun l=>tb fun h=> .and (.and (.and (.ret _)))) .no
 | ref b g off n ei=>
  refine .bind fun e=> .ite (.bind fun blk=> .and (.and (tb fun l=>tb fun h=> .OG fun hle=> .and ?_))) .no
  intro K ⟨h1,h2⟩
  rcases Nat.lt_trichotomy l h with bg | R6 | BE
  ·exact⟨_,h1 bg,fun _=>rfl,fun e=>absurd e (by omega)⟩
  ·exact⟨_,h2 R6,fun e=>absurd e (by omega),fun _=>rfl⟩
  ·omega
 | _=>exact .no
theorem Qh {x:AV} {i:Nat}:dS (A2 x i):=by
 cases x with
 | tup l=>exact .bind fun _=> .ret _
 | _=>exact .no
theorem Vz {fn:Fn} {first:Array Operand} {caps:List AV}:dS (wo fn first caps):=by
 cases fn with
 | func f=>exact .ite (.ret _) .no
 | _=>exact .no
theorem O5 {P:Program} {t:TypeId} {parts:List (Nat×AV)}:dS (Ad P t parts):= .bind fun _=> .bind fun _=> .bind fun _=> .ret _
theorem O3 {P:Program} {t:TypeId} {n:Nat} {parts:List (Nat×AV)}:dS (te P t n parts):= .bind fun _=> .bind fun _=> .ite (.bind fun _=> .ite (.ret _) .no) .no
def pW (x:AV) (K:AV→Prop):Prop:=match x with
 | .be rows _ _=>K (.int .i64 rows.length)
 | .str s=>K (.int .i64 s.size)
 | .ref _ _ _ n _=>K (.int .i64 n)
 | _=>False
theorem U4 {x:AV}:dS (pW x):=by
 cases x<;>first | exact .no | exact .ret _
theorem U5 {x:AV} {K:AV→Prop} (h:pW x K):pV x K:=by
 cases x<;>first | exact h | exact fun _=>h
theorem Po {P:Program} {f:FuncId} {args:List AV} {L:List (Nat×List AV)} {H:List Blk}:dS (na P f args L H):=fun K ⟨aC,dK,t,h1,h2,aS⟩=>⟨t,aS,aC,dK,t,h1,h2,rfl⟩
def Qc (P:Program) (c:Call) (bJ:Operand→AV) (L:List (Nat×List AV)) (H:List Blk) (K:AV→Prop):Prop:=match c.callee with
 | .builtin .len=>(match c.args.toList,c.argTypes.toList with
  | [x],[t]=>ef (iW P t (bJ x)) (pW (bJ x) K)
  | _,_=>False)
 | .value f=>kW (bJ f) fun g caps=>na P g (c.args.toList.map bJ++caps) L H K
 | _=>False
def iR (P:Program) (o:Oper) (bJ:Operand→AV) (L:List (Nat×List AV)) (H:List Blk) (K:AV→Prop):Prop:=match o.op with
 | .call c=>Qc P c bJ L H K
 | .pick c x y=>m9 (bJ c) fun z=>nJ true z (K (bJ x)) (K (bJ y))
 | .binOp op t x y _=>ef (vo (bJ x)) (qm P op t (bJ x) (bJ y) (oU y) K)
 | _=>qw P o bJ L H K
theorem x0 {P:Program} {o:Oper} {bJ:Operand→AV} {L:List (Nat×List AV)} {H:List Blk} {K:AV→Prop} (h:iR P o bJ L H K):qw P o bJ L H K:=by
 obtain⟨dst,op,ty,pos,after,guard⟩:=o
 cases op with
 | call c=>
  obtain⟨callee,args,argTypes⟩:=c
  cases callee with
  | builtin b=>
   cases b with
   | len=>
    have h:(match args.toList,argTypes.toList with
     | [x],[t]=>ef (iW P t (bJ x)) (pW (bJ x) K)
     | _,_=>False):=h
    show(match args.toList,argTypes.toList with
     | [x],[t]=>ef (iW P t (bJ x)) (pV (bJ x) K)
     | _,_=>False)
    split at h
    ·obtain⟨h1,h2⟩:=ob h
     simp only[h1];exact U5 h2
    ·exact h.elim
   | _=>exact h.elim
  | value f=>exact h
  | _=>exact h.elim
 | binOp op t x y ty2=>exact(ob (show ef (vo (bJ x)) (qm P op t (bJ x) (bJ y) (oU y) K) from h)).2
 | pick c x y=>
  obtain⟨b,hb,hw⟩:=xr (show m9 (bJ c) fun z=>nJ true z (K (bJ x)) (K (bJ y)) from h)
  show m9 (bJ c) fun z=>vn z (K (bJ x)) (K (bJ y))
  rw[hb];exact xC hw
 | _=>exact h
theorem OR {α:Type} {z:Bool} {x y:α}:dS fun K=>nJ true z (K x) (K y):=by
 cases z with
 | true=>exact .ret x
 | false=>exact .ret y
theorem ON {α:Type} {v:AV} {F:Bool→(α→Prop)→Prop} (h: ∀b,dS (F b)):dS fun K=>m9 v fun b=>F b K:=by
 cases v with
 | bool b=>exact h b
 | _=>exact .no
theorem Qf {P:Program} {o:Oper} {bJ:Operand→AV} {L:List (Nat×List AV)} {H:List Blk}:dS (iR P o bJ L H):=by
 obtain⟨dst,op,ty,pos,after,guard⟩:=o
 cases op with
 | move x=>exact .ret _
 | assign x=>exact .ret _
 | pick c x y=>exact ON fun z=>OR
 | build t ps=>exact .ef O5
 | buildSlice t n ps=>exact .ef O3
 | load t a=>exact UZ
 | nilCheck x=>exact VC
 | binOp op t x y ty2=>
  show dS fun K=>ef (vo (bJ x)) (qm P op t (bJ x) (bJ y) (oU y) K)
  cases hb:vo (bJ x) with
  | true=>exact OV hb
  | false=>exact .no
 | unOp op t x=>exact Y_
 | convert s d x=>exact PR
 | makeFunc fn first caps=>exact Vz
 | fieldAddr t x f=>exact Qm
 | indexAddr t x i=>exact S8
 | index t x i=>exact Tf
 | slice t x lo hi mx=>
  cases mx with
  | none=>exact WW
  | some m=>exact .no
 | extract x i=>exact Qh
 | call c=>
  obtain⟨callee,args,argTypes⟩:=c
  cases callee with
  | builtin b=>
   cases b with
   | len=>
    show dS fun K=>(match args.toList,argTypes.toList with
     | [x],[t]=>ef (iW P t (bJ x)) (pW (bJ x) K)
     | _,_=>False)
    split
    ·exact .ef U4
    ·exact .no
   | _=>exact .no
  | value f=>
   show dS fun K=>kW (bJ f) fun g caps=>na P g (args.toList.map bJ++caps) L H K
   cases bJ f with
   | fn g caps=>exact Po
   | _=>exact .no
  | _=>exact .no
 | _=>exact .no
end Go.Proofs.Ytglpfccgmfhkdaa.Fw
/- The framework, part V: a region whose order is left open: told once, in one order. -/
set_option linter.unusedVariables false
namespace Go.Proofs.Ytglpfccgmfhkdaa.Fw
open Go
structure Item where
 i:Nat
 lit:Bool
 q:Bool
 iE:List Nat
def Gl:AV→AV→Bool
 | .int k n,.int jO n8=>decide (k=jO)&&decide (n=n8)
 | .bool b,.bool ca=>b==ca
 | .be [] f g,.be [] x2 dy=>f==x2&&g==dy
 | .fu,.fu=>true
 | _,_=>false
def zR:List AV→List AV→Bool
 | [],[]=>true
 | a::l,b::m=>Gl a b&&zR l m
 | _,_=>false
theorem ZD {a b:AV} (h:Gl a b=true):a=b:=by
 unfold Gl at h
 split at h
 ·simp only[Bool.and_eq_true,decide_eq_true_eq] at h;rw[h.1,h.2]
 ·rw[eq_of_beq h]
 ·simp only[Bool.and_eq_true] at h;rw[eq_of_beq h.1,eq_of_beq h.2]
 ·rfl
 ·cases h
theorem Oq: ∀{l m:List AV},zR l m=true→l=m
 | [],[],_=>rfl
 | [],_::_,h=>by cases h
 | _::_,[],h=>by cases h
 | a::l,b::m,h=>by
  simp only[zR,Bool.and_eq_true] at h
  rw[ZD h.1,Oq h.2]
def n6 (o:Oper):Bool:=match o.op with
 | .alloc _=>true
 | _=>false
def Gv (P:Program) (e:TypeId) (dst:Option Nat) (L:List (Nat×List AV)) (K:AV→Prop):Prop:=cJ (l2 P e) fun z=>cJ dst fun t=>cJ (ew L t) fun c=>ef (z.all ie) (ef (zR c z) (K (.e6 t 0)))
def kr (P:Program) (o:Oper) (bJ:Operand→AV) (L:List (Nat×List AV)) (H:List Blk) (K:AV→Prop):Prop:=match o.op with
 | .alloc e=>Gv P e o.dst L K
 | _=>iR P o bJ L H K
theorem tp {P:Program} {o:Oper} {bJ:Operand→AV} {L:List (Nat×List AV)} {H:List Blk} {K:AV→Prop} (h:n6 o=false):kr P o bJ L H K=iR P o bJ L H K:=by
 obtain⟨dst,op,ty,pos,after,guard⟩:=o
 cases op<;>first | rfl | cases h
theorem Qe {P:Program} {o:Oper} {bJ:Operand→AV} {L:List (Nat×List AV)} {H:List Blk}:dS (kr P o bJ L H):=by
 cases h:n6 o with
 | false=>intro K hk;rw[tp h] at hk;obtain⟨r,h1,h2⟩:=Qf K hk;exact⟨r,h1,by rw[tp h];exact h2⟩
 | true=>
  obtain⟨dst,op,ty,pos,after,guard⟩:=o
  cases op
  case alloc e=>exact dS.bind fun _=> .bind fun _=> .bind fun _=> .ef (.ef (.ret _))
  all_goals cases h
def opI (ops:Array Oper) (i:Nat):Oper:=ops.getD i default
def qq (o:Oper) (T:List AV):AV:=match o.dst with
 | some d=>T.getD d .undef
 | none=> .undef
def pz (P:Program) (ops:Array Oper):List Nat→List AV→List (Nat×List AV)→List Blk→Prop
 | [],_,_,_=>True
 | i::r,T,L,H=>((opI ops i).guard.isNone=true∧(opI ops i).dst.isSome=true∧kr P (opI ops i) (cc T) L H (fun v=>v=qq (opI ops i) T))∧pz P ops r T L H
theorem HO {P:Program} {ops:Array Oper} {T:List AV} {L:List (Nat×List AV)} {H:List Blk}: ∀{iE:List Nat},pz P ops iE T L H→ ∀i∈iE,(opI ops i).guard.isNone=true∧(opI ops i).dst.isSome=true∧kr P (opI ops i) (cc T) L H (fun v=>v=qq (opI ops i) T)
 | [],_,i,hi=>by cases hi
 | j::r,h,i,hi=>by
  rcases List.mem_cons.1 hi with rfl | hi
  ·exact h.1
  ·exact HO h.2 i hi
def ji (P:Program) (esc:List Nat) (ops:Array Oper):List Item→List AV→List (Nat×List AV)→List Blk→(List AV→List (Nat×List AV)→List Blk→Prop)→Prop
 | [],T,L,H,K=>K T L H
 | x::rest,T,L,H,K=>mM ops x.lit (opI ops x.i) T
   (fun T=>match x.q with
    | true=>kr P (opI ops x.i) (cc T) L H fun v=>ji P esc ops rest (putA T (opI ops x.i).dst v) L H K
    | false=>jh P esc (opI ops x.i) (cc T) L H fun v L' H'=>pz P ops x.iE T L' H'∧ji P esc ops rest (putA T (opI ops x.i).dst v) L' H' K)
   (fun T=>ji P esc ops rest (putA T (opI ops x.i).dst (.tup [])) L H K)
theorem Hy {P:Program} {o:Oper} {bJ fk:Operand→AV} {L:List (Nat×List AV)} {H:List Blk} {K:AV→Prop} (h: ∀x∈o.op.operands,bJ x=fk x):qw P o bJ L H K=qw P o fk L H K:=by
 obtain⟨dst,op,ty,pos,after,guard⟩:=o
 have La: ∀ps:Array (Nat×Operand),(∀x∈ps.map (·.2),bJ x=fk x)→(ps.toList.map fun p=>(p.1,bJ p.2))=(ps.toList.map fun p=>(p.1,fk p.2)):=fun ps aF=>
  List.map_congr_left fun p hm=>by rw[aF p.2 (Array.mem_map.2 ⟨p,by simpa using hm,rfl⟩)]
 have GA: ∀ps:Array (Nat×Operand),(∀x∈ps.map (·.2),bJ x=fk x)→(ps.toList.all fun p=>ed (bJ p.2))=(ps.toList.all fun p=>ed (fk p.2)):=fun ps aF=>by
  rw[Bool.eq_iff_iff,List.all_eq_true,List.all_eq_true]
  constructor<;>intro q p hm
  ·rw[←aF p.2 (Array.mem_map.2 ⟨p,by simpa using hm,rfl⟩)];exact q p hm
  ·rw[aF p.2 (Array.mem_map.2 ⟨p,by simpa using hm,rfl⟩)];exact q p hm
 have be: ∀xs:Array Operand,(∀x∈xs,bJ x=fk x)→xs.toList.map bJ=xs.toList.map fk:=fun xs hx=>List.map_congr_left fun p hm=>hx p (by simpa using hm)
 cases op<;>simp only[Op.operands] at h
 case build t ps=>
  show ef _ _=ef _ _
  rw[La ps fun x hx=>h x (by simpa using hx),GA ps fun x hx=>h x (by simpa using hx)]
 case buildSlice t n ps=>
  show ef _ _=ef _ _
  rw[La ps fun x hx=>h x (by simpa using hx),GA ps fun x hx=>h x (by simpa using hx)]
 case makeFunc fn first caps=>
  show wo fn first (caps.toList.map bJ) K=wo fn first (caps.toList.map fk) K
  rw[be caps fun x hx=>h x (by simp[hx])]
 case slice t x lo hi mx=>
  cases mx with
  | some m=>rfl
  | none=>
   show sM P t (bJ x) (lo.map bJ) (hi.map bJ) H K=sM P t (fk x) (lo.map fk) (hi.map fk) H K
   cases lo<;>cases hi<;>simp_all
 case call c=>
  obtain⟨callee,args,argTypes⟩:=c
  have a6: ∀x∈args,bJ x=fk x:=fun x hx=>h x (by simp[Call.operands,hx])
  cases callee with
  | builtin b=>
   cases b with
   | len=>
    show(match args.toList,argTypes.toList with
     | [x],[t]=>ef (iW P t (bJ x)) (pV (bJ x) K)
     | _,_=>False)=(match args.toList,argTypes.toList with
     | [x],[t]=>ef (iW P t (fk x)) (pV (fk x) K)
     | _,_=>False)
    split
    ·rename_i x t h1 h2
     rw[a6 x (by rw[←Array.mem_toList_iff,h1];simp)]
    ·rfl
   | _=>rfl
  | value f=>
   have hf:bJ f=fk f:=h f (by simp[Call.operands])
   show kW (bJ f) _=kW (fk f) _
   rw[hf,be args a6]
  | invoke r m=>rfl
 all_goals (first | rfl | (simp only[qw];simp_all;done))
theorem Hx {P:Program} {o:Oper} {bJ fk:Operand→AV} {L:List (Nat×List AV)} {H:List Blk} {K:AV→Prop} (h: ∀x∈o.op.operands,bJ x=fk x):iR P o bJ L H K=iR P o fk L H K:=by
 have hv:=fun K=>Hy (P:=P) (L:=L) (H:=H) (K:=K) h
 obtain⟨dst,op,ty,pos,after,guard⟩:=o
 cases op
 case call c=>
  simp only[Op.operands] at h
  obtain⟨callee,args,argTypes⟩:=c
  have a6: ∀x∈args,bJ x=fk x:=fun x hx=>h x (by simp[Call.operands,hx])
  cases callee with
  | builtin b=>
   cases b with
   | len=>
    show(match args.toList,argTypes.toList with
     | [x],[t]=>ef (iW P t (bJ x)) (pW (bJ x) K)
     | _,_=>False)=(match args.toList,argTypes.toList with
     | [x],[t]=>ef (iW P t (fk x)) (pW (fk x) K)
     | _,_=>False)
    split
    ·rename_i x t h1 h2
     rw[a6 x (by rw[←Array.mem_toList_iff,h1];simp)]
    ·rfl
   | _=>rfl
  | value f=>exact hv K
  | invoke r m=>rfl
 case pick c x y=>simp only[Op.operands] at h;simp only[iR];simp_all
 case binOp op t x y ty2=>simp only[Op.operands] at h;simp only[iR];simp_all
 all_goals exact hv K
theorem Ht {P:Program} {o:Oper} {bJ fk:Operand→AV} {L:List (Nat×List AV)} {H:List Blk} {K:AV→Prop} (h: ∀x∈o.op.operands,bJ x=fk x):kr P o bJ L H K=kr P o fk L H K:=by
 cases a6:n6 o with
 | false=>rw[tp a6,tp a6];exact Hx h
 | true=>
  obtain⟨dst,op,ty,pos,after,guard⟩:=o
  cases op
  case alloc e=>rfl
  all_goals cases a6
theorem Qd {P:Program} {esc:List Nat} {o:Oper} {bJ fk:Operand→AV} {L:List (Nat×List AV)} {H:List Blk} {K:AV→List (Nat×List AV)→List Blk→Prop} (h: ∀x∈o.op.operands,bJ x=fk x):jh P esc o bJ L H K=jh P esc o fk L H K:=by
 have hv:=fun K=>Hy (P:=P) (L:=L) (H:=H) (K:=K) h
 obtain⟨dst,op,ty,pos,after,guard⟩:=o
 cases op
 case call c=>
  obtain⟨callee,args,argTypes⟩:=c
  have h':=h
  simp only[Op.operands] at h
  have a6: ∀x∈args,bJ x=fk x:=fun x hx=>h x (by simp[Call.operands,hx])
  cases callee with
  | builtin b=>
   cases b with
   | len=>exact hv fun r=>K r L H
   | append=>
    show(match args.toList,argTypes.toList with
     | [s,x],[t,t2]=>ed (bJ s)=true∧ed (bJ x)=true∧rB P t t2 (bJ s) (bJ x) L H K
     | _,_=>False)=(match args.toList,argTypes.toList with
     | [s,x],[t,t2]=>ed (fk s)=true∧ed (fk x)=true∧rB P t t2 (fk s) (fk x) L H K
     | _,_=>False)
    split
    ·rename_i s x t t2 h1 h2
     rw[a6 x (by rw[←Array.mem_toList_iff,h1];simp),a6 s (by rw[←Array.mem_toList_iff,h1];simp)]
    ·rfl
   | _=>rfl
  | value f=>
   have hf:bJ f=fk f:=h f (by simp[Call.operands])
   show kW (bJ f) _=kW (fk f) _
   rw[hf,List.map_congr_left fun p hm=>a6 p (by simpa using hm)]
  | invoke r m=>rfl
 case alloc e=>rfl
 case buildSlice t n ps=>
  simp only[Op.operands] at h
  have h: ∀x∈ps.map (·.2),bJ x=fk x:=fun x hx=>h x (by simpa using hx)
  have bF:(ps.toList.map fun p=>(p.1,bJ p.2))=(ps.toList.map fun p=>(p.1,fk p.2)):=
   List.map_congr_left fun p hm=>by rw[h p.2 (Array.mem_map.2 ⟨p,by simpa using hm,rfl⟩)]
  have e2:(ps.toList.all fun p=>ed (bJ p.2))=(ps.toList.all fun p=>ed (fk p.2)):=by
   rw[Bool.eq_iff_iff,List.all_eq_true,List.all_eq_true]
   constructor<;>intro q p hm
   ·rw[←h p.2 (Array.mem_map.2 ⟨p,by simpa using hm,rfl⟩)];exact q p hm
   ·rw[h p.2 (Array.mem_map.2 ⟨p,by simpa using hm,rfl⟩)];exact q p hm
  show ef _ (rE P (rN esc dst) (sH esc) t n _ L H K)=ef _ (rE P (rN esc dst) (sH esc) t n _ L H K)
  rw[bF,e2]
 case store t x y=>simp only[Op.operands] at h;simp only[jh];simp_all
 case box e x=>simp only[Op.operands] at h;simp only[jh];simp_all
 case makeSlice t l c=>simp only[Op.operands] at h;simp only[jh];simp_all
 all_goals exact hv fun r=>K r L H
end Go.Proofs.Ytglpfccgmfhkdaa.Fw
/- The framework, part W: the order left open, the theorem. -/
set_option linter.unusedVariables false
namespace Go.Proofs.Ytglpfccgmfhkdaa.Fw
open Go
structure s4 (P:Program) (ops:Array Oper) (L:List (Nat×List AV)) (H:List Blk) (T:List AV) (o:Oper) (v:AV) (run:Bool):Prop where
 want: ∀(E:Env) (a:Act),(∀t∈o.looksAt ops,V3 E (T.getD t .undef) (a.tmps.getD t undef))→T.length=a.tmps.size→Region.wanted o (yielded ops a.tmps)=run
 pk:run=true→kr P o (cc T) L H (fun r=>r=v)
 no:run=false→v= .tup []
 put: ∀d,o.dst=some d→d<T.length→T.getD d .undef=v
theorem Vn {ops:Array Oper} {o:Oper} {t:Nat} (h: .tmp t∈o.op.operands):t∈o.looksAt ops:=
 List.mem_append_left _ (List.mem_filterMap.2 ⟨.tmp t,by simpa using h,rfl⟩)
theorem Vm {ops:Array Oper} {o:Oper} {j t:Nat} {b:Bool} (aO:o.guard=some (j,b)) (bu:(ops[j]?).bind (·.dst)=some t):t∈o.looksAt ops:=by
 refine List.mem_append_right _ ?_
 rw[aO];simp[bu]
theorem y5 {ops:Array Oper} {o:Oper} {T T':List AV} (h: ∀t∈o.looksAt ops,T.getD t .undef=T'.getD t .undef): ∀x∈o.op.operands,cc T x=cc T' x:=fun x hx=>by
 cases x with
 | tmp t=>exact h t (Vn hx)
 | _=>rfl
theorem s4.mono {P:Program} {ops:Array Oper} {L:List (Nat×List AV)} {H:List Blk} {T T':List AV} {o:Oper} {v:AV} {run:Bool} (h:s4 P ops L H T o v run) (aI:T'.length=T.length)
  (a6: ∀t∈o.looksAt ops,T'.getD t .undef=T.getD t .undef) (bp: ∀d,o.dst=some d→T'.getD d .undef=T.getD d .undef):s4 P ops L H T' o v run where
 want:=fun E a hs aQ=>h.want E a (fun t bu=>by rw[←a6 t bu];exact hs t bu) (by rw[←aI];exact aQ)
 pk:=fun aJ=>by
  rw[Ht (y5 a6)]
  exact h.pk aJ
 no:=h.no
 put:=fun d nW bg=>by rw[bp d nW];exact h.put d nW (by rw[←aI];exact bg)
theorem H0 {P:Program} {ops:Array Oper} {lit:Bool} {o:Oper} {T:List AV} {x y:List AV→Prop} (h:mM ops lit o T x y):
  ∃T' run,T'.length=T.length∧(∀t,T'.getD t .undef=T.getD t .undef)∧(∀(E:Env) (a:Act),(∀t∈o.looksAt ops,V3 E (T.getD t .undef) (a.tmps.getD t undef))→T.length=a.tmps.size→Region.wanted o (yielded ops a.tmps)=run)∧(if run=true then x T' else y T'):=by
 unfold mM at h
 cases aO:o.guard with
 | none=>rw[aO] at h;exact⟨T,true,rfl,fun _=>rfl,fun E a _ _=>by simp[Region.wanted,aO],h⟩
 | some g=>
  obtain⟨j,want⟩:=g
  rw[aO] at h
  simp only at h
  cases aP:(ops[j]?).bind (·.dst) with
  | none=>rw[aP] at h;exact h.elim
  | some t=>
   rw[aP] at h
   simp only at h
   have yr:t∈o.looksAt ops:=Vm aO aP
   have pM: ∀b,T.getD t .undef= .bool b→ ∀s,(T.set t (.bool b)).getD s .undef=T.getD s .undef:=fun b hb s=>by
    rw[qB]
    by_cases hs:t=s∧t<T.length
    ·rw[if_pos hs,←hs.1,hb]
    ·rw[if_neg hs]
   split at h
   ·rename_i b hb
    obtain⟨h1,h2⟩:=xC h
    have hw: ∀(E:Env) (a:Act),(∀t∈o.looksAt ops,V3 E (T.getD t .undef) (a.tmps.getD t undef))→T.length=a.tmps.size→Region.wanted o (yielded ops a.tmps)=(b==want):=fun E a hs aQ=>by
     have hv:=hs t yr
     rw[hb] at hv
     have he:a.tmps.getD t undef= .bool b:=V3.pt hv
     have bA:yielded ops a.tmps j=some b:=by
      unfold yielded
      rw[aP]
      rw[Array.getD_eq_getD_getElem?] at he
      cases aj:a.tmps[t]? with
      | none=>rw[aj] at he;cases he
      | some x=>rw[aj] at he;have:x= .bool b:=he;subst this;simp[aj]
     simp[Region.wanted,aO,bA]
    cases b with
    | true=>refine⟨_,_,by simp,pM true hb,hw,?_⟩;have:=h1 rfl;cases want<;>exact this
    | false=>refine⟨_,_,by simp,pM false hb,hw,?_⟩;have:=h2 rfl;cases want<;>exact this
   ·rename_i hb
    refine⟨T,false,rfl,fun _=>rfl,fun E a hs aQ=> ?_,h⟩
    have hv:=hs t yr
    rw[hb] at hv
    obtain⟨vs,he,aF⟩:=(show ∃vs:List Value,a.tmps.getD t undef= .tuple vs.toArray∧av (V2 E) [] vs from hv)
    obtain rfl:=aF.uq
    have bA:yielded ops a.tmps j=none:=by
     unfold yielded
     rw[aP]
     rw[Array.getD_eq_getD_getElem?] at he
     cases aj:a.tmps[t]? with
     | none=>simp[aj]
     | some x=>rw[aj] at he;have:x= .tuple #[]:=he;subst this;simp[aj]
    simp[Region.wanted,aO,bA]
   ·exact h.elim
theorem uG (T:List AV) (d:Option Nat) (v:AV):(putA T d v).length=T.length:=by
 cases d<;>simp[putA]
theorem zf {T:List AV} {d:Option Nat} {v:AV} {t:Nat} (h:d≠some t):(putA T d v).getD t .undef=T.getD t .undef:=by
 cases d with
 | none=>rfl
 | some s=>
  show(T.set s v).getD t .undef=_
  rw[qB,if_neg]
  rintro⟨rfl,_⟩;exact h rfl
theorem Lu {T:List AV} {d:Nat} {v:AV} (h:d<T.length):(putA T (some d) v).getD d .undef=v:=by
 show(T.set d v).getD d .undef=v
 rw[qB,if_pos ⟨rfl,h⟩]
def kQ (ops:Array Oper):List Item→Prop
 | []=>True
 | x::r=>(∀t∈(opI ops x.i).looksAt ops,∀y∈x::r,(opI ops y.i).dst≠some t)∧(∀d,(opI ops x.i).dst=some d→ ∀y∈r,(opI ops y.i).dst≠some d)∧kQ ops r
theorem Es {P:Program} {esc:List Nat} {ops:Array Oper} {L:List (Nat×List AV)} {H:List Blk} {K:List AV→List (Nat×List AV)→List Blk→Prop}: ∀(l:List Item) (T:List AV),kQ ops l→ji P esc ops l T L H K→
  ∃pre post m8,l=pre++post∧(∀x∈pre,x.q=true)∧(∀x r,post=x::r→x.q=false)∧ji P esc ops post m8 L H K∧m8.length=T.length∧
   (∀t,(∀x∈pre,(opI ops x.i).dst≠some t)→m8.getD t .undef=T.getD t .undef)∧ ∀x∈pre,∃v run,s4 P ops L H m8 (opI ops x.i) v run
 | [],T,_,h=>⟨[],[],T,rfl,fun x hx=>(by cases hx),fun x r e=>(by cases e),h,rfl,fun _ _=>rfl,fun x hx=>(by cases hx)⟩
 | x::r,T,an,h=>by
  cases aj:x.q with
  | false=>exact⟨[],x::r,T,rfl,fun x hx=>(by cases hx),fun y zl e=>(by cases e;exact aj),h,rfl,fun _ _=>rfl,fun x hx=>(by cases hx)⟩
  | true=>
   obtain⟨lj,run,me,k3,hw,fe⟩:=H0 (P:=P) h
   obtain⟨GC,OH,OI⟩:=an
   have key: ∃v,ji P esc ops r (putA lj (opI ops x.i).dst v) L H K∧(run=true→kr P (opI ops x.i) (cc lj) L H (fun r=>r=v))∧(run=false→v= .tup []):=by
    cases run with
    | true=>
     have fe:(match x.q with
      | true=>kr P (opI ops x.i) (cc lj) L H fun v=>ji P esc ops r (putA lj (opI ops x.i).dst v) L H K
      | false=>_):=fe
     rw[aj] at fe
     obtain⟨v,h1,h2⟩:=Qe _ fe
     exact⟨v,h1,fun _=>h2,fun e=>by cases e⟩
    | false=>exact⟨.tup [],fe,fun e=>(by cases e),fun _=>rfl⟩
   obtain⟨v,hv,S4,k6⟩:=key
   obtain⟨pre,post,m8,rfl,r4,jn,pG,hlen,gR,vO⟩:=Es r _ OI hv
   have qH: ∀y∈pre,y∈pre++post:=fun y bA=>List.mem_append_left _ bA
   have vV: ∀t∈(opI ops x.i).looksAt ops,m8.getD t .undef=lj.getD t .undef:=fun t bu=>by
    rw[gR t fun y bA=>GC t bu y (List.mem_cons_of_mem _ (qH y bA)),zf (GC t bu x (List.mem_cons_self ..))]
   refine⟨x::pre,post,m8,rfl,fun y bA=> ?_,jn,pG,by rw[hlen,uG,me],fun t bu=> ?_,fun y bA=> ?_⟩
   ·rcases List.mem_cons.1 bA with rfl | bA
    ·exact aj
    ·exact r4 y bA
   ·rw[gR t fun y bA=>bu y (List.mem_cons_of_mem _ bA),zf (bu x (List.mem_cons_self ..)),k3]
   ·rcases List.mem_cons.1 bA with rfl | bA
    ·refine⟨v,run,⟨fun E a hs aQ=>hw E a (fun t bu=> ?_) ?_,fun aJ=> ?_,k6,fun d bp bg=> ?_⟩⟩
     ·rw[←k3 t,←vV t bu];exact hs t bu
     ·rw[←aQ,hlen,uG,me]
     ·rw[Ht (y5 vV)];exact S4 aJ
     ·rw[gR d fun y bA=>OH d bp y (qH y bA),bp]
      exact Lu (by rw[hlen,uG] at bg;exact bg)
    ·exact vO y bA
end Go.Proofs.Ytglpfccgmfhkdaa.Fw
/- The framework, part X: a region whose order is left open: whatever order is drawn, it ends as it is told. -/
set_option linter.unusedVariables false
namespace Go.Proofs.Ytglpfccgmfhkdaa.Fw
open Go
def rq (A:Nat→List Nat):List Item→List Item→Prop
 | _,[]=>True
 | p,h::r=>(h.q=false→(∀y∈r,h.i∈A y.i)∧ ∀x∈p,x.i∈A h.i∨x.i∈h.iE)∧rq A (p++[h]) r
theorem rq.at {A:Nat→List Nat}: ∀{pre p:List Item} {h:Item} {r:List Item},rq A p (pre++h::r)→h.q=false→(∀y∈r,h.i∈A y.i)∧ ∀x∈p++pre,x.i∈A h.i∨x.i∈h.iE
 | [],p,h,r,hb,aj=>by
  rw[List.append_nil];exact hb.1 aj
 | x::pre,p,h,r,hb,aj=>by
  have:=rq.at (pre:=pre) (p:=p++[x]) hb.2 aj
  simpa using this
structure xc (ops:Array Oper) (ord:List Item) (A:Nat→List Nat):Prop where
 back: ∀i o,ops[i]?=some o→ ∀e∈o.after,Region.binds .any e=true→e.on<i
 OE: ∀i o,ops[i]?=some o→ ∀a∈A i,∃e∈o.after,Region.binds .any e=true∧(a=e.on∨a∈A e.on)
 all: ∀i,i<ops.size→ ∃x∈ord,x.i=i
 lt: ∀x∈ord,x.i<ops.size
 nodup:(ord.map (·.i)).Nodup
 Zd: ∀x∈ord,∀t∈(opI ops x.i).looksAt ops,∀y∈ord,(opI ops y.i).dst=some t→y.i∈A x.i
 apart:kQ ops ord
 kp:rq A [] ord
theorem kQ.tail {ops:Array Oper}: ∀{p r:List Item},kQ ops (p++r)→kQ ops r
 | [],_,h=>h
 | _::p,_,h=>kQ.tail (p:=p) h.2.2
theorem kQ.Kj {ops:Array Oper}: ∀{p r:List Item},kQ ops (p++r)→ ∀x∈p,(∀t∈(opI ops x.i).looksAt ops,∀y∈r,(opI ops y.i).dst≠some t)∧ ∀d,(opI ops x.i).dst=some d→ ∀y∈r,(opI ops y.i).dst≠some d
 | [],_,_,x,hx=>by cases hx
 | z::p,r,h,x,hx=>by
  rcases List.mem_cons.1 hx with rfl | hx
  ·exact⟨fun t bu y bA=>h.1 t bu y (List.mem_cons_of_mem _ (List.mem_append_right _ bA)),fun d bp y bA=>h.2.1 d bp y (List.mem_append_right _ bA)⟩
  ·exact kQ.Kj (p:=p) h.2.2 x hx
theorem kQ.inj {ops:Array Oper}: ∀{l:List Item},kQ ops l→ ∀x∈l,∀y∈l,x.i≠y.i→ ∀d,(opI ops x.i).dst=some d→(opI ops y.i).dst≠some d
 | [],_,x,hx,_,_,_,_,_=>by cases hx
 | z::r,h,x,hx,y,bA,cO,d,bp=>by
  rcases List.mem_cons.1 hx with ex | Kg
  ·rcases List.mem_cons.1 bA with A3 | C5
   ·exact absurd (by rw[ex,A3]) cO
   ·exact h.2.1 d (by rw[←ex];exact bp) y C5
  ·rcases List.mem_cons.1 bA with A3 | C5
   ·exact fun e=>h.2.1 d (by rw[←A3];exact e) x Kg bp
   ·exact kQ.inj h.2.2 x Kg y C5 cO d bp
theorem pZ {ops:Array Oper} {i:Nat} (h:i<ops.size):ops[i]?=some (opI ops i):=by
 unfold opI
 rw[Array.getElem?_eq_getElem h,Array.getD_eq_getD_getElem?,Array.getElem?_eq_getElem h];rfl
def zV (ops:Array Oper) (S:Array Bool):Prop:= ∀i o,ops[i]?=some o→S.getD i false=true→ ∀e∈o.after,Region.binds .any e=true→S.getD e.on false=true
theorem OF {ops:Array Oper} {ord:List Item} {A:Nat→List Nat} (D:xc ops ord A) {S:Array Bool} (hs:S.size=ops.size) (hc:zV ops S): ∀(i:Nat) o,ops[i]?=some o→(∀e∈o.after,Region.binds .any e=true→S.getD e.on false=true)→ ∀a∈A i,S.getD a false=true:=by
 intro i
 induction i using Nat.strongRecOn with
 | _ i bO=>
  intro o ax aJ a a6
  obtain⟨e,he,hb,pJ⟩:=D.OE i o ax a a6
  have qI:=aJ e he hb
  rcases pJ with rfl | pJ
  ·exact qI
  ·have bg:=D.back i o ax e he hb
   have cH:e.on<ops.size:=by
    rcases Nat.lt_or_ge e.on ops.size with h | h
    ·exact h
    ·rw[Array.getD_eq_getD_getElem?,Array.getElem?_eq_none (by omega)] at qI;cases qI
   exact bO e.on bg _ (pZ cH) (fun dI R5 dA=>hc e.on _ (pZ cH) qI dI R5 dA) a pJ
theorem LN {ops:Array Oper} {S:Array Bool} (hs:S.size=ops.size) {i:Nat} (h:i∈Region.ready .any ops S):i<ops.size∧S.getD i false=false∧ ∀e∈(opI ops i).after,Region.binds .any e=true→S.getD e.on false=true:=by
 unfold Region.ready at h
 rw[List.mem_filter,List.mem_range] at h
 obtain⟨bg,h⟩:=h
 rw[pZ bg] at h
 simp only[Option.map_some,Option.getD_some,Bool.and_eq_true,Bool.not_eq_true',Array.all_eq_true_iff_forall_mem] at h
 obtain⟨h1,h2⟩:=h
 refine⟨bg,?_,fun e he hb=> ?_⟩
 ·rw[Array.getD_eq_getD_getElem?,Array.getElem?_eq_getElem (by omega)] at h1 ⊢;exact h1
 ·have:=h2 e he
  rw[hb] at this;simpa using this
theorem Wl {ops:Array Oper} {ord:List Item} {A:Nat→List Nat} (D:xc ops ord A) {S:Array Bool} (hs:S.size=ops.size) (h:Region.ready .any ops S=[]): ∀i,i<ops.size→S.getD i false=true:=by
 intro i
 induction i using Nat.strongRecOn with
 | _ i bO=>
  intro bg
  cases aj:S.getD i false with
  | true=>rfl
  | false=>
   exfalso
   have:i∈Region.ready .any ops S:=by
    unfold Region.ready
    rw[List.mem_filter,List.mem_range]
    refine⟨bg,?_⟩
    rw[pZ bg]
    simp only[Option.map_some,Option.getD_some,Bool.and_eq_true,Bool.not_eq_true',Array.all_eq_true_iff_forall_mem]
    refine⟨?_,fun e he=> ?_⟩
    ·rw[Array.getD_eq_getD_getElem?,Array.getElem?_eq_getElem (by omega)] at aj ⊢;exact aj
    ·cases hb:Region.binds .any e with
     | false=>rfl
     | true=>
      have aI:=D.back i _ (pZ bg) e he hb
      simpa using bO e.on aI (by omega)
   rw[h] at this;cases this
theorem G7 {α:Type} (p y8:α→Bool) (j:α) (aF:p j=true) (qJ:y8 j=false) (hk: ∀k,k≠j→p k=y8 k): ∀l:List α,l.Nodup→j∈l→l.countP p=l.countP y8+1
 | [],_,h=>by cases h
 | k::l,aC,h=>by
  rw[List.nodup_cons] at aC
  by_cases BK:k=j
  ·subst BK
   rw[List.countP_cons_of_pos aF,List.countP_cons_of_neg (by simp[qJ])]
   congr 1
   refine List.countP_congr fun x hx=> ?_
   rw[hk x (fun e=>aC.1 (e▸hx))]
  ·have aP:j∈l:=(List.mem_cons.1 h).resolve_left fun e=>BK e.symm
   have bO:=G7 p y8 j aF qJ hk l aC.2 aP
   rw[List.countP_cons,List.countP_cons,hk k BK,bO];omega
def left (n:Nat) (S:Array Bool):Nat:=(List.range n).countP fun j=> !S.getD j false
theorem vB {S:Array Bool} {i j:Nat}:(S.setIfInBounds i true).getD j false=if i=j∧i<S.size then true else S.getD j false:=by
 rw[Array.getD_eq_getD_getElem?,Array.getD_eq_getD_getElem?,Array.getElem?_setIfInBounds]
 by_cases h:i=j
 ·subst h
  by_cases aI:i<S.size
  ·simp[aI]
  ·simp[aI]
 ·simp[h]
theorem U2 {n:Nat} {S:Array Bool} {i:Nat} (hs:S.size=n) (hi:i<n) (h:S.getD i false=false):left n S=left n (S.setIfInBounds i true)+1:=by
 refine G7 _ _ i (by simp[h]) ?_ (fun k hk=> ?_) _ List.nodup_range (List.mem_range.2 hi)
 ·rw[vB,if_pos ⟨rfl,by omega⟩];rfl
 ·rw[vB,if_neg (fun e=>hk e.1.symm)]
theorem U3 {n:Nat} {S:Array Bool} (h:left n S=0): ∀i,i<n→S.getD i false=true:=fun i hi=>by
 have:=(List.countP_eq_zero.1 h) i (List.mem_range.2 hi)
 simpa using this
def rZ:List Nat→List AV→List AV
 | [],T=>T
 | d::ik,T=>rZ ik (T.set d .undef)
theorem yk: ∀(ik:List Nat) (T:List AV) (t:Nat),(t∈ik→(rZ ik T).getD t .undef= .undef)∧(t ∉ ik→(rZ ik T).getD t .undef=T.getD t .undef)
 | [],T,t=>⟨fun h=>(by cases h),fun _=>rfl⟩
 | d::ik,T,t=>by
  obtain⟨h1,h2⟩:=yk ik (T.set d .undef) t
  refine⟨fun h=> ?_,fun h=> ?_⟩
  ·by_cases bp:t∈ik
   ·exact h1 bp
   ·have e:t=d:=(List.mem_cons.1 h).resolve_right bp
    show(rZ ik (T.set d .undef)).getD t .undef= .undef
    rw[h2 bp,qB]
    by_cases aI:d=t∧d<T.length
    ·rw[if_pos aI]
    ·rw[if_neg aI,List.getD_eq_getElem?_getD,List.getElem?_eq_none (by rcases Nat.lt_or_ge d T.length with q | q;exact absurd ⟨e.symm,q⟩ aI;omega)];rfl
  ·show(rZ ik (T.set d .undef)).getD t .undef=_
   rw[h2 fun hm=>h (List.mem_cons_of_mem _ hm),qB,if_neg fun hm=>h (by rw[hm.1];exact List.mem_cons_self ..)]
section
variable {P:Program} {esc:List Nat} {ops:Array Oper} {ord:List Item} {A:Nat→List Nat} {Q:Exit→St→Prop} {cM:Env}
structure Gn (P:Program) (esc:List Nat) (ops:Array Oper) (ord:List Item) (Q:Exit→St→Prop) (cM:Env) (S:Array Bool) (a:Act) (w:World) (pre post:List Item) (E:Env) (T:List AV) (L:List (Nat×List AV)) (H:List Blk):Prop where
 oa:ord=pre++post
 w6: ∀x∈post,S.getD x.i false=false
 head: ∀x r,post=x::r→x.q=false
 AW:ji P esc ops post T L H (fun T L H=>Q .normal ⟨T,L,H⟩)
 facts: ∀x∈pre,S.getD x.i false=false→x.q=true∧ ∃v run,s4 P ops L H T (opI ops x.i) v run
 iM: ∀t,(∃x∈pre,S.getD x.i false=false∧(opI ops x.i).dst=some t)∨V3 E (T.getD t .undef) (a.tmps.getD t undef)
 size:T.length=a.tmps.size
 h:SimH E H
 l:SimL E L
 k1:Good cM E
 bo: ∀x∈ord,S.getD x.i false=false→n6 (opI ops x.i)=true→x.q=true→ ∀d,(opI ops x.i).dst=some d→E.mL d=none
 AF:a.defers=[]
 w:E.w=w
theorem Ly {a:Act} {d:Option Nat} {u:Value} {t:Nat} (h:d≠some t):(a.put d u).tmps.getD t undef=a.tmps.getD t undef:=by
 cases d with
 | none=>rfl
 | some s=>
  show(a.tmps.setIfInBounds s u).getD t undef=_
  rw[Array.getD_eq_getD_getElem?,Array.getD_eq_getD_getElem?,Array.getElem?_setIfInBounds_ne (fun e=>h (by rw[e]))]
theorem LA {a:Act} {d:Nat} {u:Value} (h:d<a.tmps.size):(a.put (some d) u).tmps.getD d undef=u:=by
 show(a.tmps.setIfInBounds d u).getD d undef=_
 rw[Array.getD_eq_getD_getElem?,Array.getElem?_setIfInBounds_self];simp[h]
theorem LB (a:Act) (d:Option Nat) (u:Value):(a.put d u).tmps.size=a.tmps.size:=by
 cases d<;>simp[Act.put]
theorem Lx {a:Act} (d:Option Nat) (u:Value) (h:a.defers=[]):(a.put d u).defers=[]:=by
 cases d<;>exact h
theorem OD {o:Oper} {a:Act} {T:List AV} {L:List (Nat×List AV)} {H:List Blk} {v:AV} {E:Env} (aV:SimH E H) (bT:SimL E L) (a6:n6 o=true) (aC: ∀d,o.dst=some d→E.mL d=none) (h:kr P o (cc T) L H (fun r=>r=v)):
  ∃t u E',V3 E' v u∧o.dst=some t∧Step E E'∧SimH E' H∧SimL E' L∧(∀s,s≠t→E'.mL s=E.mL s)∧True∧ ∀(next:Act→World→Prop) Q,next (a.put o.dst u) E'.w→o.wp P a E.w next Q:=by
 obtain⟨dst,op,ty,pos,after,guard⟩:=o
 cases op
 all_goals try (cases a6;done)
 rename_i e
 obtain⟨z,aQ,h⟩:=e3 (show Gv P e dst L (fun r=>r=v) from h)
 obtain⟨t,bu,h⟩:=e3 h
 obtain⟨c,hc,h⟩:=e3 h
 obtain⟨hs,h⟩:=ob h
 obtain⟨aj,cb⟩:=ob h
 have cb:AV.e6 t 0=v:=cb
 clear h
 subst cb
 have aj:=Oq aj
 subst aj
 obtain⟨i,s3,q1,q2,q3,q4⟩:=s0 (E:=E) aQ
 obtain⟨E',bF,e2,dN,h0,hy,_,lL⟩:=KU (ty:=e) aV bT (l4.alloc E.w (.cells s3.cells e (0,0))) hc (aC t bu) (FR hs q4)
 refine⟨t,_,E',hy,bu,e2,dN,h0,lL,trivial,fun next Q hk=> ?_⟩
 unfold Oper.wp
 rw[show execOp a.eval ⟨dst,.alloc e,ty,pos,after,guard⟩=(do pure (Next.value (←Instr.alloc e true (.tuple #[])))) from rfl]
 refine F_ (w':=E'.w) ?_ hk
 rw[bF]
 simp[Instr.alloc,zeroValue,typeInfo,q1,q2,newVar,newRow]
theorem PV (D:xc ops ord A): ∀(ma:Nat) (S:Array Bool) (a:Act) (w:World) (pre post:List Item) (E:Env) (T:List AV) (L:List (Nat×List AV)) (H:List Blk),
  S.size=ops.size→left ops.size S=ma→zV ops S→Gn P esc ops ord Q cM S a w pre post E T L H→wpAny P .any ops (l6 cM Q) ma S a w:=by
 have fin: ∀(S:Array Bool) (a:Act) (w:World) (pre post:List Item) (E:Env) (T:List AV) (L:List (Nat×List AV)) (H:List Blk),(∀i,i<ops.size→S.getD i false=true)→Gn P esc ops ord Q cM S a w pre post E T L H→l6 cM Q .normal a w:=by
  intro S a w pre post E T L H dZ I
  have aF:post=[]:=by
   cases post with
   | nil=>rfl
   | cons x r=>
    have h1:=I.w6 x (List.mem_cons_self ..)
    rw[dZ x.i (D.lt x (by rw[I.oa];simp))] at h1;cases h1
  subst aF
  refine⟨rfl,⟨T,L,H⟩,E,I.AW,I.w,I.k1,⟨I.h,I.l,fun t=> ?_,I.size⟩,I.AF⟩
  rcases I.iM t with⟨x,hx,hu,_⟩ | h
  ·rw[dZ x.i (D.lt x (by rw[I.oa];simp[hx]))] at hu;cases hu
  ·exact h
 intro ma
 induction ma with
 | zero=>
  intro S a w pre post E T L H hs hf hc I
  have dZ:=U3 hf
  refine⟨?_,fin S a w pre post E T L H dZ I⟩
  cases aJ:Region.ready .any ops S with
  | nil=>rfl
  | cons i l=>
   have:=LN hs (i:=i) (by rw[aJ];exact List.mem_cons_self ..)
   rw[dZ i this.1] at this;cases this.2.1
 | succ ma bO=>
  intro S a w pre post E T L H hs hf hc I
  refine⟨fun aJ=>fin S a w pre post E T L H (Wl D hs aJ) I,fun i hi=> ?_⟩
  obtain⟨bg,r9,qI⟩:=LN hs hi
  have Br:=OF D hs hc i _ (pZ bg) qI
  have Ih:(S.setIfInBounds i true).size=ops.size:=by simpa using hs
  have yh:left ops.size (S.setIfInBounds i true)=ma:=by have:=U2 hs bg r9;omega
  have oH:zV ops (S.setIfInBounds i true):=by
   intro j o ax aP e he hb
   rw[vB] at aP ⊢
   by_cases nh:i=j
   ·subst nh
    have:o=opI ops i:=by rw[pZ bg] at ax;exact(Option.some.inj ax).symm
    subst this
    split
    ·rfl
    ·exact qI e he hb
   ·rw[if_neg fun q=>nh q.1] at aP
    split
    ·rfl
    ·exact hc j o ax aP e he hb
  have Ex: ∀j,(S.setIfInBounds i true).getD j false=false→S.getD j false=false∧j≠i:=fun j aP=>by
   rw[vB] at aP
   split at aP
   ·cases aP
   ·rename_i q;exact⟨aP,fun e=>q ⟨e.symm,by omega⟩⟩
  have wT: ∀j,j≠i→S.getD j false=false→(S.setIfInBounds i true).getD j false=false:=fun j aP h=>by
   rw[vB,if_neg fun q=>aP q.1.symm];exact h
  obtain⟨y,bA,ls⟩:=D.all i bg
  subst ls
  have ls:y.i=y.i:=rfl
  let ik:List Nat:=(pre.filter fun x=> !S.getD x.i false).filterMap fun x=>(opI ops x.i).dst
  have BC: ∀t,t∈ik↔ ∃x∈pre,S.getD x.i false=false∧(opI ops x.i).dst=some t:=fun t=>by
   simp only[ik,List.mem_filterMap,List.mem_filter,Bool.not_eq_true']
   constructor
   ·rintro⟨x,⟨h1,h2⟩,aS⟩;exact⟨x,h1,h2,aS⟩
   ·rintro⟨x,h1,h2,aS⟩;exact⟨x,⟨h1,h2⟩,aS⟩
  have cs: ∀t,V3 E ((rZ ik T).getD t .undef) (a.tmps.getD t undef):=fun t=>by
   by_cases h:t∈ik
   ·rw[(yk ik T t).1 h];exact V3.undef _ _
   ·rw[(yk ik T t).2 h]
    exact(I.iM t).resolve_left fun q=>h ((BC t).2 q)
  have vV: ∀t∈(opI ops y.i).looksAt ops,t ∉ ik:=fun t bu hm=>by
   obtain⟨x,hx,hu,bp⟩:=(BC t).1 hm
   have:=Br x.i (by rw[←ls];rw[←ls] at bu;exact D.Zd y bA t bu x (by rw[I.oa];simp[hx]) bp)
   rw[this] at hu;cases hu
  have IW: ∀t∈(opI ops y.i).looksAt ops,V3 E (T.getD t .undef) (a.tmps.getD t undef):=fun t bu=>(I.iM t).resolve_left fun q=>vV t bu ((BC t).2 q)
  have Ik: ∀t∈(opI ops y.i).looksAt ops,(rZ ik T).getD t .undef=T.getD t .undef:=fun t bu=>(yk ik T t).2 (vV t bu)
  have Gu: ∀E':Env,(∀t,(opI ops y.i).dst≠some t→E'.mL t=E.mL t)→ ∀x∈ord,(S.setIfInBounds y.i true).getD x.i false=false→n6 (opI ops x.i)=true→x.q=true→ ∀d,(opI ops x.i).dst=some d→E'.mL d=none:=fun E' hml x hx hu a6 S2 d bp=>by
   obtain⟨tX,tY⟩:=Ex _ hu
   rw[hml d (D.apart.inj x hx y bA tY d bp)]
   exact I.bo x hx tX a6 S2 d bp
  unfold wpOp
  rw[pZ bg]
  simp only
  have qH:y∈pre∨y∈post:=by rw[I.oa] at bA;exact List.mem_append.1 bA
  rcases qH with r_ | r_
  ·-- one that only reads, ahead of what comes to be done
   obtain⟨aj,v,run,F⟩:=I.facts y r_ (by rw[ls];exact r9)
   rw[ls] at F
   have hw:=F.want E a IW I.size
   have next: ∀(u:Value) (E':Env),Step E E'→SimH E' H→SimL E' L→(∀t,(opI ops y.i).dst≠some t→E'.mL t=E.mL t)→V3 E' v u→wpAny P .any ops (l6 cM Q) ma (S.setIfInBounds y.i true) (a.put (opI ops y.i).dst u) E'.w:=fun u E' bd pK pL hml hv=>by
    refine bO _ _ _ pre post E' T L H Ih yh oH ⟨I.oa,fun x hx=>wT _ (fun e=> ?_) (I.w6 x hx),I.head,I.AW,fun x hx hu=>I.facts x hx (Ex _ hu).1,fun t=> ?_,by rw[LB];exact I.size,pK,pL,I.k1.step bd,Gu E' hml,Lx _ _ I.AF,rfl⟩
    ·have lP:=D.nodup
     rw[I.oa,List.map_append,List.nodup_append] at lP
     exact lP.2.2 y.i (List.mem_map_of_mem r_) x.i (List.mem_map_of_mem hx) (by rw[ls,e])
    ·by_cases bp:(opI ops y.i).dst=some t
     ·right
      rw[bp]
      by_cases aI:t<T.length
      ·rw[F.put t bp aI,LA (by rw[←I.size];exact aI)];exact hv
      ·rw[List.getD_eq_getElem?_getD,List.getElem?_eq_none (Nat.not_lt.1 aI)];exact V3.undef _ _
     ·rcases I.iM t with⟨x,hx,hu,wa⟩ | h
      ·exact .inl ⟨x,hx,wT _ (fun e=>bp (by rw[←e];exact wa)) hu,wa⟩
      ·right;rw[Ly bp];exact h.le bd.le
   cases run with
   | true=>
    rw[if_pos hw]
    refine .inl ?_
    have pG:=F.pk rfl
    cases Bq:n6 (opI ops y.i) with
    | true=>
     obtain⟨t,u,E',hv,R4,q1,q2,q3,q4,_,cT⟩:=OD (P:=P) (a:=a) I.h I.l Bq (fun t bu=>I.bo y bA (by rw[ls];exact r9) Bq aj t bu) pG
     rw[←I.w]
     exact cT _ _ (next u E' q1 q2 q3 (fun s hs=>q4 s fun e=>hs (by rw[R4,e])) hv)
    | false=>
    rw[tp Bq,←Hx (y5 Ik)] at pG
    rw[←I.w]
    refine Oper.wp_mono (fun hp w' ⟨eg,u,E',he,eb,hqt,hv,a6⟩=> ?_) (Hz cs (Sub.refl L H) I.h I.l (x0 pG))
    subst he;subst eb;subst a6
    exact next u E' hqt.step (hqt.simH I.h) (hqt.simL I.h I.l) (fun t _=>by rw[hqt.mL]) hv
   | false=>
    rw[if_neg (by rw[hw];simp)]
    have hv:=F.no rfl
    subst hv
    rw[←I.w]
    exact next undef E (Step.refl E) I.h I.l (fun _ _=>rfl) ⟨[],rfl,av.nil⟩
  ·-- the next that does more
   have jn: ∃r,post=y::r:=by
    cases aF:post with
    | nil=>rw[aF] at r_;cases r_
    | cons x r=>
     rw[aF] at r_
     rcases List.mem_cons.1 r_ with rfl | S5
     ·exact⟨r,rfl⟩
     ·have hb:=D.kp
      rw[I.oa,aF] at hb
      have:=(hb.at (I.head x r aF)).1 y S5
      rw[ls] at this
      have h1:=Br x.i this
      rw[I.w6 x (by rw[aF];exact List.mem_cons_self ..)] at h1;cases h1
   obtain⟨r,SK⟩:=jn
   subst SK
   have aj:=I.head y r rfl
   have pG:=I.AW
   obtain⟨lj,run,me,k3,hw,fe⟩:=H0 (P:=P) pG
   have hw:=hw E a IW I.size
   have Bs:=D.apart
   rw[I.oa] at Bs
   have IF:=kQ.Kj Bs
   have RS:=(show rq A [] (pre++y::r) from I.oa▸D.kp).at aj
   have lP:=D.nodup
   rw[I.oa,List.map_append,List.map_cons,List.nodup_append,List.nodup_cons] at lP
   have SH: ∀x∈pre,S.getD x.i false=false→x.i∈y.iE:=fun x hx hu=>by
    rcases RS.2 x (by simpa using hx) with h | h
    ·rw[ls] at h
     have:=Br x.i h
     rw[hu] at this;cases this
    ·exact h
   -- behind it
   have next: ∀(v:AV) (u:Value) (L':List (Nat×List AV)) (H':List Blk) (E':Env),Step E E'→SimH E' H'→SimL E' L'→(∀t,(opI ops y.i).dst≠some t→E'.mL t=E.mL t)→V3 E' v u→ji P esc ops r (putA lj (opI ops y.i).dst v) L' H' (fun T L H=>Q .normal ⟨T,L,H⟩)→
     (∀x∈pre,S.getD x.i false=false→ ∃v run,s4 P ops L' H' lj (opI ops x.i) v run)→
     wpAny P .any ops (l6 cM Q) ma (S.setIfInBounds y.i true) (a.put (opI ops y.i).dst u) E'.w:=by
    intro v u L' H' E' bd aV bT hml hv hK Sb
    obtain⟨DY,V8,m8,BT,SF,SJ,R7,hlen,gR,vO⟩:=Es r _ (kQ.tail (p:=[y]) (kQ.tail Bs)) hK
    have BU: ∀z∈DY,z∈r:=fun z aQ=>by rw[BT];exact List.mem_append_left _ aQ
    have Ii: ∀t,(∀z∈y::r,(opI ops z.i).dst≠some t)→m8.getD t .undef=lj.getD t .undef:=fun t bu=>by
     rw[gR t fun z aQ=>bu z (List.mem_cons_of_mem _ (BU z aQ)),zf (bu y (List.mem_cons_self ..))]
    refine bO _ _ _ (pre++y::DY) V8 E' m8 L' H' Ih yh oH ⟨by rw[I.oa,BT];simp,fun x hx=> ?_,SJ,R7,fun x hx hu=> ?_,fun t=> ?_,by rw[LB,hlen,uG,me];exact I.size,aV,bT,I.k1.step bd,Gu E' hml,Lx _ _ I.AF,rfl⟩
    ·have yE:x∈r:=by rw[BT];exact List.mem_append_right _ hx
     exact wT _ (fun e=>lP.2.1.1 (by rw[ls,←e];exact List.mem_map_of_mem yE)) (I.w6 x (List.mem_cons_of_mem _ yE))
    ·obtain⟨tX,tY⟩:=Ex _ hu
     rcases List.mem_append.1 hx with hx | hx
     ·refine⟨(I.facts x hx tX).1,?_⟩
      obtain⟨eg,run',F⟩:=Sb x hx tX
      refine⟨eg,run',F.mono (by rw[hlen,uG]) (fun t bu=>Ii t fun z aQ=>(IF x hx).1 t bu z aQ) fun d bp=>Ii d fun z aQ=>(IF x hx).2 d bp z aQ⟩
     ·rcases List.mem_cons.1 hx with rfl | hx
      ·exact absurd ls tY
      ·exact⟨SF x hx,vO x hx⟩
    ·by_cases rX: ∃z∈DY,(opI ops z.i).dst=some t
     ·obtain⟨z,aQ,n4⟩:=rX
      refine .inl ⟨z,by simp[aQ],wT _ (fun e=>lP.2.1.1 (by rw[ls,←e];exact List.mem_map_of_mem (BU z aQ))) (I.w6 z (List.mem_cons_of_mem _ (BU z aQ))),n4⟩
     ·have bF:=gR t fun z aQ q=>rX ⟨z,aQ,q⟩
      by_cases bp:(opI ops y.i).dst=some t
      ·right
       rw[ls] at bp bF
       rw[bF,bp]
       by_cases aI:t<lj.length
       ·rw[Lu aI,LA (by rw[←I.size,←me];exact aI)];exact hv
       ·rw[List.getD_eq_getElem?_getD,List.getElem?_eq_none (by rw[uG];exact Nat.not_lt.1 aI)];exact V3.undef _ _
      ·rw[zf bp,k3] at bF
       rcases I.iM t with⟨x,hx,hu,wa⟩ | h
       ·refine .inl ⟨x,by simp[hx],wT _ (fun e=>bp (by rw[ls,←e];exact wa)) hu,wa⟩
       ·right;rw[bF,Ly (by rw[←ls];exact bp)];exact h.le bd.le
   cases run with
   | true=>
    rw[if_pos hw]
    refine .inl ?_
    have fe:(match y.q with
     | true=>_
     | false=>jh P esc (opI ops y.i) (cc lj) L H fun v L' H'=>pz P ops y.iE lj L' H'∧ji P esc ops r (putA lj (opI ops y.i).dst v) L' H' (fun T L H=>Q .normal ⟨T,L,H⟩)):=fe
    rw[aj] at fe
    have fe:jh P esc (opI ops y.i) (cc lj) L H fun v L' H'=>pz P ops y.iE lj L' H'∧ji P esc ops r (putA lj (opI ops y.i).dst v) L' H' (fun T L H=>Q .normal ⟨T,L,H⟩):=fe
    rw[←Qd (y5 fun t bu=>(Ik t bu).trans (k3 t).symm)] at fe
    rw[←I.w]
    refine Oper.wp_mono (fun hp w' ⟨v,u,L',H',E',⟨oI,hK⟩,eb,q1,q2,q3,q4,a6,hml⟩=> ?_) (evOp_sound cs I.h I.l fe)
    subst eb;subst a6
    refine next v u L' H' E' q1 q2 q3 hml q4 hK fun x hx hu=> ?_
    obtain⟨f1,f2,f3⟩:=HO oI x.i (SH x hx hu)
    refine⟨_,true,⟨fun E a hs aQ=> ?_,fun _=>f3,fun e=>(by cases e),fun d bp bg=> ?_⟩⟩
    ·unfold Region.wanted
     cases vQ:(opI ops x.i).guard with
     | none=>rfl
     | some g=>rw[vQ] at f1;cases f1
    ·unfold qq;rw[bp]
   | false=>
    rw[if_neg (by rw[hw];simp)]
    rw[←I.w]
    refine next (.tup []) undef L H E (Step.refl E) I.h I.l (fun _ _=>rfl) ⟨[],rfl,av.nil⟩ fe fun x hx hu=> ?_
    obtain⟨_,eg,run',F⟩:=I.facts x hx hu
    exact⟨eg,run',F.mono me (fun t _=>k3 t) fun d _=>k3 d⟩
end
end Go.Proofs.Ytglpfccgmfhkdaa.Fw
/- The framework, part Y: the rule for a region whose order is left open; steps within it. -/
set_option linter.unusedVariables false
namespace Go.Proofs.Ytglpfccgmfhkdaa.Fw
open Go
def xq (ops:Array Oper):List Item→Bool
 | []=>true
 | x::r=>((opI ops x.i).looksAt ops).all (fun t=>(x::r).all fun y=>(opI ops y.i).dst !=some t)&&(match(opI ops x.i).dst with
  | some d=>r.all fun y=>(opI ops y.i).dst !=some d
  | none=>true)&&xq ops r
theorem GF {ops:Array Oper}: ∀{l:List Item},xq ops l=true→kQ ops l
 | [],_=>trivial
 | x::r,h=>by
  simp only[xq,Bool.and_eq_true] at h
  obtain⟨⟨h1,h2⟩,aS⟩:=h
  refine⟨fun t bu y bA=> ?_,fun d bp y bA=> ?_,GF aS⟩
  ·have:=List.all_eq_true.1 (List.all_eq_true.1 h1 t bu) y bA
   simpa using this
  ·rw[bp] at h2
   have:=List.all_eq_true.1 h2 y bA
   simpa using this
def xv (A:Nat→List Nat):List Item→List Item→Bool
 | _,[]=>true
 | p,h::r=>(h.q || (r.all (fun y=>(A y.i).contains h.i)&&p.all fun x=>(A h.i).contains x.i || h.iE.contains x.i))&&xv A (p++[h]) r
theorem GI {A:Nat→List Nat}: ∀{l p:List Item},xv A p l=true→rq A p l
 | [],_,_=>trivial
 | h::r,p,hb=>by
  simp only[xv,Bool.and_eq_true] at hb
  refine⟨fun aj=> ?_,GI hb.2⟩
  have h1:=hb.1
  rw[aj,Bool.false_or,Bool.and_eq_true] at h1
  refine⟨fun y bA=>by simpa using List.all_eq_true.1 h1.1 y bA,fun x hx=> ?_⟩
  have:=List.all_eq_true.1 h1.2 x hx
  simpa using this
def yZ:List Nat→Bool
 | []=>true
 | x::r=> !r.contains x&&yZ r
theorem KX: ∀{l:List Nat},yZ l=true→l.Nodup
 | [],_=>List.nodup_nil
 | x::r,h=>by
  simp only[yZ,Bool.and_eq_true] at h
  rw[List.nodup_cons]
  exact⟨by simpa using h.1,KX h.2⟩
def th (ops:Array Oper) (ord:List Item) (A:Nat→List Nat):Bool:=
 (List.range ops.size).all (fun i=>(opI ops i).after.toList.all (fun e=> !Region.binds .any e || decide (e.on<i))&&(A i).all fun a=>(opI ops i).after.toList.any fun e=>Region.binds .any e&&(a==e.on || (A e.on).contains a))&&
 (List.range ops.size).all (fun i=>ord.any fun x=>x.i==i)&&ord.all (fun x=>decide (x.i<ops.size))&&yZ (ord.map (·.i))&&
 ord.all (fun x=>((opI ops x.i).looksAt ops).all fun t=>ord.all fun y=>(opI ops y.i).dst !=some t || (A x.i).contains y.i)&&xq ops ord&&xv A [] ord
theorem PW {ops:Array Oper} {ord:List Item} {A:Nat→List Nat} (hB: ∀i,ops.size≤i→A i=[]) (h:th ops ord A=true):xc ops ord A:=by
 simp only[th,Bool.and_eq_true] at h
 obtain⟨⟨⟨⟨⟨⟨h1,h2⟩,aS⟩,bt⟩,cb⟩,cE⟩,gp⟩:=h
 have get: ∀i o,ops[i]?=some o→i<ops.size∧o=opI ops i:=fun i o ax=>by
  have bg:i<ops.size:=by
   rcases Nat.lt_or_ge i ops.size with h | h
   ·exact h
   ·rw[Array.getElem?_eq_none h] at ax;cases ax
  rw[pZ bg] at ax
  exact⟨bg,(Option.some.inj ax).symm⟩
 refine⟨fun i o ax e he hb=> ?_,fun i o ax a a6=> ?_,fun i hi=> ?_,fun x hx=> ?_,KX bt,fun x hx t bu y bA bp=> ?_,GF cE,GI gp⟩
 ·obtain⟨bg,rfl⟩:=get i o ax
  have:=List.all_eq_true.1 h1 i (List.mem_range.2 bg)
  rw[Bool.and_eq_true] at this
  have:=List.all_eq_true.1 this.1 e (by simpa using he)
  rw[hb] at this;simpa using this
 ·obtain⟨bg,rfl⟩:=get i o ax
  have:=List.all_eq_true.1 h1 i (List.mem_range.2 bg)
  rw[Bool.and_eq_true] at this
  have:=List.all_eq_true.1 this.2 a a6
  obtain⟨e,he,hc⟩:=List.any_eq_true.1 this
  rw[Bool.and_eq_true] at hc
  exact⟨e,by simpa using he,hc.1,by simpa using hc.2⟩
 ·obtain⟨x,hx,hc⟩:=List.any_eq_true.1 (List.all_eq_true.1 h2 i (List.mem_range.2 hi))
  exact⟨x,hx,by simpa using hc⟩
 ·simpa using List.all_eq_true.1 aS x hx
 ·have:=List.all_eq_true.1 (List.all_eq_true.1 (List.all_eq_true.1 cb x hx) t bu) y bA
  rw[Bool.or_eq_true] at this
  rcases this with h | h
  ·rw[bp] at h;simp at h
  ·simpa using h
def vl (je:List (List Nat)) (i:Nat):List Nat:=je.getD i []
theorem Env.He (E:Env):Step E {E with w:=E.w.drew}:=
 ⟨⟨fun _ h=>h,fun _ h=>h,fun _ _=>rfl,fun _ _=>rfl,fun _=>Nat.le_refl _,fun _ _ h _=>⟨h,rfl,rfl⟩,fun _ _ h=>h⟩,rfl,rfl,rfl,Nat.le_refl _,fun _ _ _ _=>rfl,fun _ h=> .inl h,fun _ h=> .inl h,fun _ h=> .inl h,fun _ h=> .inl h⟩
theorem PZ {E:Env} {H:List Blk} (h:SimH E H):SimH {E with w:=E.w.drew} H:=
 {h with
  heap:=fun b c hb=>by
   obtain⟨blk,ba,ty,q1,dX,q2,q3,q4,cx,cT⟩:=h.heap b c hb
   exact⟨blk,ba,ty,q1,dX,q2,q3,q4,cx,fun i j row a aJ aP=>by obtain⟨u,hu,hv⟩:=cT i j row a aJ aP;exact⟨u,hu,hv.le (Env.He E).le.b6⟩⟩}
theorem U1 (n:Nat):left n (Array.replicate n false)=n:=by
 unfold left
 have:(List.range n).countP (fun j=> !(Array.replicate n false).getD j false)=(List.range n).countP (fun _=>true):=by
  refine List.countP_congr fun x hx=> ?_
  rw[Array.getD_eq_getD_getElem?,Array.getElem?_replicate]
  split<;>simp
 rw[this,List.countP_true,List.length_range]
def rL:List (Nat×List AV)→List (Nat×List AV)→Bool
 | [],_=>true
 | (t,_)::r,L=>(ew L t).isNone&&rL r L
def rA (ops:Array Oper) (L:List (Nat×List AV)):List Item→Bool
 | []=>true
 | x::r=>(match x.q&&n6 (opI ops x.i) with
  | false=>true
  | true=>match(opI ops x.i).dst with
   | none=>true
   | some d=>(ew L d).isNone)&&rA ops L r
theorem HS {E:Env} {L:List (Nat×List AV)} (bT:SimL E L): ∀{hI:List (Nat×List AV)},rL hI L=true→SimL E (hI++L)
 | [],_=>bT
 | (t,c)::r,h=>by
  simp only[rL,Bool.and_eq_true,Option.isNone_iff_eq_none] at h
  exact(HS bT h.2).cons (bT.none h.1)
theorem Gw {ops:Array Oper} {E:Env} {L:List (Nat×List AV)} (bT:SimL E L): ∀{l:List Item},rA ops L l=true→ ∀x∈l,n6 (opI ops x.i)=true→x.q=true→ ∀d,(opI ops x.i).dst=some d→E.mL d=none
 | [],_,x,hx,_,_,_,_=>by cases hx
 | y::r,h,x,hx,a6,aj,d,bp=>by
  simp only[rA,Bool.and_eq_true] at h
  rcases List.mem_cons.1 hx with rfl | hx
  ·have h1:=h.1
   rw[aj,a6] at h1
   simp only[Bool.and_self] at h1
   rw[bp] at h1
   exact bT.none (by simpa using h1)
  ·exact Gw bT h.2 x hx a6 aj d bp
theorem WpS.LQ {P:Program} {esc:List Nat} {c:Code} {id:Nat} {ops:Array Oper} {Q:Exit→St→Prop} {T:List AV} {L:List (Nat×List AV)} {H:List Blk} (ord:List Item) (je:List (List Nat)) (hm:P.follows .mixedOrders=true)
  (aI:je.length=ops.size) (bp:th ops ord (vl je)=true) (e:c= .region id ops true) (hI:List (Nat×List AV)) (hf:rL hI L=true) (aQ:rA ops L ord=true) (h:ji P esc ops ord T (hI++L) H (fun T L H=>Q .normal ⟨T,L,H⟩)):WpS P c Q ⟨T,L,H⟩:=by
 subst e
 intro cM E a g s d
 have D:=PW (fun i hi=>by unfold vl;rw[List.getD_eq_getElem?_getD,List.getElem?_eq_none (by omega)];rfl) bp
 refine wp_region_any hm ?_
 obtain⟨pre,post,m8,aJ,aF,SI,pG,hlen,gR,vO⟩:=Es ord T D.apart h
 have r9: ∀j,(Array.replicate ops.size false).getD j false=false:=fun j=>by
  rw[Array.getD_eq_getD_getElem?,Array.getElem?_replicate];split<;>rfl
 have bd:=Env.He E
 have hw:(show World from{E.w with drawn:=E.w.drawn+1})=({E with w:=E.w.drew}:Env).w:=rfl
 refine PV D ops.size _ a _ pre post {E with w:=E.w.drew} m8 (hI++L) H (by simp) (U1 _) (fun i o ax aP=> ?_) ⟨aJ,fun x hx=>r9 _,SI,pG,fun x hx _=>⟨aF x hx,vO x hx⟩,fun t=> ?_,by rw[hlen];exact s.size,PZ s.h,HS ?_ hf,g.step bd,fun x hx _ a6 aj d bp=>Gw s.l aQ x hx a6 aj d bp,d,rfl⟩
 ·rw[r9] at aP;cases aP
 ·by_cases rX: ∃z∈pre,(opI ops z.i).dst=some t
  ·obtain⟨z,aQ,n4⟩:=rX
   exact .inl ⟨z,aQ,r9 _,n4⟩
  ·right
   rw[gR t fun z aQ q=>rX ⟨z,aQ,q⟩]
   exact(s.iM t).le bd.le
 ·intro t c hm
  obtain⟨cells,ba,ty,q1,q2,q3⟩:=s.l t c hm
  exact⟨cells,ba,ty,q1,q2,q3.mono fun _ _ k=>k.le bd.le.b6⟩
theorem qV {φ ψ:Prop} (e:φ=ψ) (h:ψ):φ:=e▸h
def wj (ops:Array Oper):List (Oper×Bool):=ops.toList.map fun o=>(o,true)
theorem WpS.LR {P:Program} {esc:List Nat} {c:Code} {id:Nat} {ops:Array Oper} {Q:Exit→St→Prop} {T:List AV} {L:List (Nat×List AV)} {H:List Blk} (e:c= .region id ops false)
  (h:evOps P esc ops (wj ops) T L H (fun T L H=>Q .normal ⟨T,L,H⟩)):WpS P c Q ⟨T,L,H⟩:=by
 subst e
 intro cM E a g s d
 refine wp_region_list ?_
 have:=xZ (wj ops) T L H E a g s d h
 have e2:(wj ops).map (·.1)=ops.toList:=by
  unfold wj;rw[List.map_map];exact List.map_id' _
 rwa [e2] at this
section
variable {P:Program} {esc:List Nat} {ops:Array Oper} {l eR:List Item} {T T':List AV} {L L':List (Nat×List AV)} {H H':List Blk} {K:List AV→List (Nat×List AV)→List Blk→Prop}
end
end Go.Proofs.Ytglpfccgmfhkdaa.Fw
/- The framework, part Z: slots told sparsely; steps of a walk over them. -/
set_option linter.unusedVariables false
namespace Go.Proofs.Ytglpfccgmfhkdaa.Fw
open Go
def fC:List (Nat×AV)→Nat→AV
 | [],_=> .undef
 | (k,v)::r,t=>match Nat.beq k t with
  | true=>v
  | false=>fC r t
def kY:List (Nat×AV)→Nat→List (Nat×AV)
 | [],_=>[]
 | (k,v)::r,t=>match Nat.beq k t with
  | true=>kY r t
  | false=>(k,v)::kY r t
def ec (n:Nat):List (Nat×AV)→Bool
 | []=>true
 | (k,_)::r=>match Nat.blt k n with
  | true=>ec n r
  | false=>false
@[irreducible] def a4 (n:Nat) (A:List (Nat×AV)):List AV:=(List.range n).map (fC A)
def mZ (n:Nat) (A:List (Nat×AV)) (dst:Option Nat) (v:AV):List (Nat×AV):=match dst with
 | none=>A
 | some d=>match Nat.blt d n with
  | true=>(d,v)::kY A d
  | false=>A
def oc (A:List (Nat×AV)):Operand→AV
 | .tmp t=>fC A t
 | .const v=>nc v
 | .func f=> .fn f []
 | .global _=> .undef
theorem Vl (A:List (Nat×AV)) (d t:Nat):fC (kY A d) t=if d=t then .undef else fC A t:=by
 induction A with
 | nil=>simp[kY,fC]
 | cons p r bO=>
  obtain⟨k,v⟩:=p
  have yr:fC ((k,v)::r) t=match Nat.beq k t with
   | true=>v
   | false=>fC r t:=rfl
  rw[yr]
  cases h1:Nat.beq k d with
  | true=>
   have bF:=Nat.eq_of_beq_eq_true h1
   rw[show kY ((k,v)::r) d=kY r d by simp[kY,h1],bO]
   subst bF
   cases h2:Nat.beq k t with
   | true=>have e2:=Nat.eq_of_beq_eq_true h2;simp[e2]
   | false=>rfl
  | false=>
   rw[show kY ((k,v)::r) d=(k,v)::kY r d by simp[kY,h1],show fC ((k,v)::kY r d) t=match Nat.beq k t with
    | true=>v
    | false=>fC (kY r d) t from rfl]
   cases h2:Nat.beq k t with
   | true=>
    have e2:=Nat.eq_of_beq_eq_true h2
    have: ¬d=t:=fun e=>by subst e;subst e2;rw[Nat.beq_refl] at h1;cases h1
    simp[this]
   | false=>simp only;rw[bO]
theorem KD {n:Nat}: ∀{A:List (Nat×AV)} {t:Nat},ec n A=true→n≤t→fC A t= .undef
 | [],t,_,_=>rfl
 | (k,v)::r,t,h,bu=>by
  unfold ec at h
  split at h
  ·rename_i hk
   have hk:k<n:=by rw[←Nat.blt_eq];exact hk
   unfold fC
   cases h2:Nat.beq k t with
   | true=>have:=Nat.eq_of_beq_eq_true h2;omega
   | false=>exact KD h bu
  ·cases h
theorem DE {n d:Nat}: ∀{A:List (Nat×AV)},ec n A=true→ec n (kY A d)=true
 | [],h=>rfl
 | (k,v)::r,h=>by
  unfold ec at h
  split at h
  ·rename_i hk
   unfold kY
   split
   ·exact DE h
   ·unfold ec;rw[hk];exact DE h
  ·cases h
theorem DF {n:Nat} {A:List (Nat×AV)} (h:ec n A=true) (dst:Option Nat) (v:AV):ec n (mZ n A dst v)=true:=by
 unfold mZ
 split
 ·exact h
 ·split
  ·rename_i bp;unfold ec;rw[bp];exact DE h
  ·exact h
theorem qS (n:Nat) (A:List (Nat×AV)):(a4 n A).length=n:=by unfold a4;simp
theorem oX {n:Nat} {A:List (Nat×AV)} (h:ec n A=true) (t:Nat):(a4 n A).getD t .undef=fC A t:=by
 unfold a4
 rw[List.getD_eq_getElem?_getD,List.getElem?_map]
 rcases Nat.lt_or_ge t n with bg | fN
 ·rw[List.getElem?_range bg];rfl
 ·rw[List.getElem?_eq_none (by simpa using fN),KD h fN];rfl
theorem DG {n:Nat} {A:List (Nat×AV)} (dst:Option Nat) (v:AV):putA (a4 n A) dst v=a4 n (mZ n A dst v):=by
 cases dst with
 | none=>rfl
 | some d=>
  show(a4 n A).set d v=a4 n (match Nat.blt d n with
   | true=>(d,v)::kY A d
   | false=>A)
  cases bp:Nat.blt d n with
  | true=>
   apply List.ext_getElem?
   intro t
   unfold a4
   rw[List.getElem?_set]
   simp only[List.length_map,List.length_range,List.getElem?_map]
   rcases Nat.lt_or_ge t n with bg | fN
   ·rw[List.getElem?_range bg]
    by_cases he:d=t
    ·subst he;simp[bg,fC]
    ·have hb:Nat.beq d t=false:=by
      cases aj:Nat.beq d t with
      | true=>exact absurd (Nat.eq_of_beq_eq_true aj) he
      | false=>rfl
     simp[he,fC,hb,Vl]
   ·rw[List.getElem?_eq_none (l:=List.range n) (by simpa using fN)]
    by_cases he:d=t
    ·subst he;simp[Nat.not_lt.2 fN]
    ·simp[he]
  | false=>
   have: ¬d<n:=fun h=>by rw[←Nat.blt_eq,bp] at h;cases h
   exact List.set_eq_of_length_le (by rw[qS];omega)
theorem yW {n:Nat} {A:List (Nat×AV)} (h:ec n A=true):cc (a4 n A)=oc A:=by
 funext o
 cases o with
 | tmp t=>exact oX h t
 | _=>rfl
theorem KM {n:Nat} {A:List (Nat×AV)} (h:ec n A=true) {t:Nat} {b:Bool} (hb:fC A t= .bool b):(a4 n A).set t (.bool b)=a4 n A:=by
 apply List.ext_getElem?
 intro s
 rw[List.getElem?_set]
 by_cases he:t=s
 ·subst he
  rw[if_pos rfl]
  rcases Nat.lt_or_ge t n with bg | fN
  ·rw[if_pos (by rw[qS];exact bg)]
   unfold a4
   rw[List.getElem?_map,List.getElem?_range bg]
   show _=some (fC A t)
   rw[hb]
  ·rw[if_neg (by rw[qS];omega),List.getElem?_eq_none (by rw[qS];omega)]
 ·rw[if_neg he]
def qA (ops:Array Oper) (o:Oper) (A:List (Nat×AV)) (x y:Prop):Prop:=match o.guard with
 | none=>x
 | some (j,want)=>match(ops[j]?).bind (·.dst) with
  | none=>False
  | some t=>match fC A t with
   | .bool b=>(match b with
    | true=>(match want with
     | true=>x
     | false=>y)
    | false=>(match want with
     | true=>y
     | false=>x))
   | .tup []=>y
   | _=>False
theorem HY {ops:Array Oper} {o:Oper} {n:Nat} {A:List (Nat×AV)} (h:ec n A=true) {x y:List AV→Prop}:mM ops true o (a4 n A) x y=qA ops o A (x (a4 n A)) (y (a4 n A)):=by
 unfold mM qA
 cases o.guard with
 | none=>rfl
 | some g=>
  obtain⟨j,want⟩:=g
  simp only
  cases(ops[j]?).bind (·.dst) with
  | none=>rfl
  | some t=>
   simp only
   rw[oX h t]
   cases hb:fC A t with
   | bool b=>
    cases b with
    | true=>simp only[nJ];rw[KM h hb];cases want<;>rfl
    | false=>simp only[nJ];rw[KM h hb];cases want<;>rfl
   | tup l=>cases l<;>rfl
   | _=>rfl
def evS (P:Program) (esc:List Nat) (ops:Array Oper) (n:Nat):List Oper→List (Nat×AV)→List (Nat×List AV)→List Blk→(List (Nat×AV)→List (Nat×List AV)→List Blk→Prop)→Prop
 | [],A,L,H,K=>K A L H
 | o::rest,A,L,H,K=>qA ops o A
   (match o.op with
    | .pick c x y=>m9 (oc A c) fun z=>(match z with
     | true=>evS P esc ops n rest (mZ n A o.dst (oc A x)) L H K
     | false=>evS P esc ops n rest (mZ n A o.dst (oc A y)) L H K)
    | _=>jh P esc o (oc A) L H fun v L' H'=>evS P esc ops n rest (mZ n A o.dst v) L' H' K)
   (evS P esc ops n rest (mZ n A o.dst (.tup [])) L H K)
theorem A0 {P:Program} {esc:List Nat} {ops:Array Oper} {n:Nat} {K:List AV→List (Nat×List AV)→List Blk→Prop}: ∀(l:List Oper) (A:List (Nat×AV)) (L:List (Nat×List AV)) (H:List Blk),ec n A=true→
  evOps P esc ops (l.map fun o=>(o,true)) (a4 n A) L H K=evS P esc ops n l A L H fun A L H=>K (a4 n A) L H
 | [],A,L,H,h=>rfl
 | o::rest,A,L,H,h=>by
  show mM ops true o (a4 n A) _ _=_
  rw[HY h]
  show qA ops o A _ _=qA ops o A _ _
  have e2:evOps P esc ops (rest.map fun o=>(o,true)) (putA (a4 n A) o.dst (.tup [])) L H K=evS P esc ops n rest (mZ n A o.dst (.tup [])) L H fun A L H=>K (a4 n A) L H:=by
   rw[DG,A0 rest _ _ _ (DF h _ _)]
  have tn: ∀v L H,evOps P esc ops (rest.map fun o=>(o,true)) (putA (a4 n A) o.dst v) L H K=evS P esc ops n rest (mZ n A o.dst v) L H fun A L H=>K (a4 n A) L H:=fun v L H=>by
   rw[DG,A0 rest _ _ _ (DF h _ _)]
  rw[e2]
  congr 1
  unfold sv
  rw[yW h]
  cases fc:o.op<;>simp only[tn]
  case pick c x y=>
   unfold m9
   cases oc A c<;>first | rfl | (rename_i z;cases z<;>rfl)
theorem WpS.zn {P:Program} {esc:List Nat} {c:Code} {id n:Nat} {ops:Array Oper} {Q:Exit→St→Prop} {A:List (Nat×AV)} {L:List (Nat×List AV)} {H:List Blk} (e:c= .region id ops false) (aC:ec n A=true)
  (h:evS P esc ops n (ops.toList.drop 0) A L H (fun A L H=>Q .normal ⟨a4 n A,L,H⟩)):WpS P c Q ⟨a4 n A,L,H⟩:=
 WpS.LR (esc:=esc) e (by unfold wj;rw[A0 _ _ _ _ aC];exact h)
def AL (o:Oper) (A:List (Nat×AV)):AV:=match o.dst with
 | some d=>fC A d
 | none=> .undef
def nP (P:Program) (ops:Array Oper):List Nat→List (Nat×AV)→List (Nat×List AV)→List Blk→Prop
 | [],_,_,_=>True
 | i::r,A,L,H=>((opI ops i).guard.isNone=true∧(opI ops i).dst.isSome=true∧kr P (opI ops i) (oc A) L H (fun v=>v=AL (opI ops i) A))∧nP P ops r A L H
def evSD (P:Program) (esc:List Nat) (ops:Array Oper) (n:Nat):List Item→List (Nat×AV)→List (Nat×List AV)→List Blk→(List (Nat×AV)→List (Nat×List AV)→List Blk→Prop)→Prop
 | [],A,L,H,K=>K A L H
 | x::rest,A,L,H,K=>qA ops (opI ops x.i) A
   (match x.q with
    | true=>kr P (opI ops x.i) (oc A) L H fun v=>evSD P esc ops n rest (mZ n A (opI ops x.i).dst v) L H K
    | false=>jh P esc (opI ops x.i) (oc A) L H fun v L' H'=>nP P ops x.iE A L' H'∧evSD P esc ops n rest (mZ n A (opI ops x.i).dst v) L' H' K)
   (evSD P esc ops n rest (mZ n A (opI ops x.i).dst (.tup [])) L H K)
theorem HP {P:Program} {ops:Array Oper} {n:Nat} {A:List (Nat×AV)} {L:List (Nat×List AV)} {H:List Blk} (h:ec n A=true): ∀l:List Nat,pz P ops l (a4 n A) L H=nP P ops l A L H
 | []=>rfl
 | i::r=>by
  show(_∧_)=(_∧_)
  rw[HP h r,yW h]
  have:qq (opI ops i) (a4 n A)=AL (opI ops i) A:=by
   unfold qq AL
   cases(opI ops i).dst with
   | none=>rfl
   | some d=>exact oX h d
  rw[this]
theorem Hv {P:Program} {esc:List Nat} {ops:Array Oper} {n:Nat} {K:List AV→List (Nat×List AV)→List Blk→Prop}: ∀(l:List Item) (A:List (Nat×AV)) (L:List (Nat×List AV)) (H:List Blk),l.all (·.lit)=true→ec n A=true→
  ji P esc ops l (a4 n A) L H K=evSD P esc ops n l A L H fun A L H=>K (a4 n A) L H
 | [],A,L,H,aI,h=>rfl
 | x::rest,A,L,H,aI,h=>by
  simp only[List.all_cons,Bool.and_eq_true] at aI
  show mM ops x.lit (opI ops x.i) (a4 n A) _ _=_
  rw[aI.1,HY h]
  show qA ops (opI ops x.i) A _ _=qA ops (opI ops x.i) A _ _
  have tn: ∀v L H,ji P esc ops rest (putA (a4 n A) (opI ops x.i).dst v) L H K=evSD P esc ops n rest (mZ n A (opI ops x.i).dst v) L H fun A L H=>K (a4 n A) L H:=fun v L H=>by
   rw[DG,Hv rest _ _ _ aI.2 (DF h _ _)]
  simp only[tn,yW h,HP h]
  first
  | done
  | (cases x.q<;>rfl)
theorem WpS.Wr {P:Program} {esc:List Nat} {c:Code} {id n:Nat} {ops:Array Oper} {Q:Exit→St→Prop} {A:List (Nat×AV)} {L:List (Nat×List AV)} {H:List Blk} (ord:List Item) (je:List (List Nat)) (hm:P.follows .mixedOrders=true)
  (aI:je.length=ops.size) (bp:th ops ord (vl je)=true) (BM:ord.all (·.lit)=true) (e:c= .region id ops true) (aC:ec n A=true) (hI:List (Nat×List AV)) (hf:rL hI L=true) (aQ:rA ops L ord=true) (h:evSD P esc ops n (ord.drop 0) A (hI++L) H (fun A L H=>Q .normal ⟨a4 n A,L,H⟩)):WpS P c Q ⟨a4 n A,L,H⟩:=
 WpS.LQ (esc:=esc) ord je hm aI bp e hI hf aQ (by rw[Hv _ _ _ _ BM aC];exact h)
theorem Weak.iM {T T':List AV} {L:List (Nat×List AV)} {H:List Blk} (aI:T'.length=T.length) (h: ∀t,T'.getD t .undef=T.getD t .undef∨T'.getD t .undef= .undef):Weak ⟨T,L,H⟩ ⟨T',L,H⟩:=fun cM E tmps g s=>
 ⟨E,rfl,g,s.h,s.l,fun t=>by
  show V3 E (T'.getD t .undef) _
  rcases h t with e | e<;>rw[e]
  ·exact s.iM t
  ·exact V3.undef _ _,by show T'.length=_;rw[aI];exact s.size⟩
def mo (A:List (Nat×AV)):List (Nat×AV)→List (Nat×AV)
 | []=>[]
 | (k,_)::r=>(k,fC A k)::mo A r
theorem DC {A:List (Nat×AV)}: ∀(B:List (Nat×AV)) (t:Nat),fC (mo A B) t=fC A t∨fC (mo A B) t= .undef
 | [],t=> .inr rfl
 | (k,v)::r,t=>by
  show(match Nat.beq k t with
   | true=>fC A k
   | false=>fC (mo A r) t)=fC A t∨_
  cases h:Nat.beq k t with
  | true=>have:=Nat.eq_of_beq_eq_true h;subst this;exact .inl rfl
  | false=>
   rcases DC r t with e | e
   ·exact .inl e
   ·right;show(match Nat.beq k t with
     | true=>fC A k
     | false=>fC (mo A r) t)=_
    rw[h];exact e
def wk (c5:List Nat):List (Nat×AV)→Bool
 | []=>true
 | (_,v)::r=>np c5 v&&wk c5 r
theorem KF {c5:List Nat}: ∀{A:List (Nat×AV)},wk c5 A=true→ ∀t,np c5 (fC A t)=true
 | [],h,t=>rfl
 | (k,v)::r,h,t=>by
  simp only[wk,Bool.and_eq_true] at h
  unfold fC
  cases Nat.beq k t with
  | true=>exact h.1
  | false=>exact KF h.2 t
theorem Zi {n:Nat} {A A':List (Nat×AV)} {L L':List (Nat×List AV)} {H:List Blk} (c5:List Nat) (hB:ec n A=true) (lM:ec n A'=true) (aF:wk c5 A'=true) (kZ:mo A A'=A') (eX:mH c5 L=L'):Weak ⟨a4 n A,L,H⟩ ⟨a4 n A',L',H⟩:=by
 subst eX
 refine(Weak.iM (T':=a4 n A') (by rw[qS,qS]) fun t=> ?_).trans (Weak.mH c5 ?_)
 ·rw[oX hB,oX lM,←kZ];exact DC A' t
 ·rw[List.all_eq_true]
  intro a a6
  obtain⟨t,bu⟩:=List.mem_iff_getElem?.1 a6
  have e:(a4 n A').getD t .undef=a:=by rw[List.getD_eq_getElem?_getD,bu];rfl
  rw[oX lM] at e
  rw[←e]
  exact KF aF t
theorem va {n:Nat} {A A':List (Nat×AV)} {L:List (Nat×List AV)} {H:List Blk} (hB:ec n A=true) (lM:ec n A'=true) (kZ:mo A A'=A'):Weak ⟨a4 n A,L,H⟩ ⟨a4 n A',L,H⟩:=
 Weak.iM (T':=a4 n A') (by rw[qS,qS]) fun t=>by rw[oX hB,oX lM,←kZ];exact DC A' t
theorem PC {n:Nat} {A:List (Nat×AV)} {o:Operand} {b:Bool} {L:List (Nat×List AV)} {H:List Blk} (aC:ec n A=true) (h:oc A o= .bool b):cc (St.mk (a4 n A) L H).T o= .bool b:=by
 show cc (a4 n A) o=_
 rw[yW aC,h]
def p6 (P:Program) (A:List (Nat×AV)) (L:List (Nat×List AV)) (H:List Blk):List ResultVar→(List AV→Prop)→Prop
 | [],K=>K []
 | .tmp t::rs,K=>p6 P A L H rs fun l=>K (fC A t::l)
 | .cell a t::rs,K=>nm P t (fC A a) L H fun x=>p6 P A L H rs fun l=>K (x::l)
theorem Eb {P:Program} {n:Nat} {A:List (Nat×AV)} {L:List (Nat×List AV)} {H:List Blk} (aC:ec n A=true): ∀(rs:List ResultVar) (K:List AV→Prop),q9 P ⟨a4 n A,L,H⟩ rs K=p6 P A L H rs K
 | [],K=>rfl
 | .tmp t::rs,K=>by
  show q9 P ⟨a4 n A,L,H⟩ rs (fun l=>K ((a4 n A).getD t .undef::l))=p6 P A L H rs fun l=>K (fC A t::l)
  rw[oX aC];exact Eb aC rs _
 | .cell a t::rs,K=>by
  show nm P t ((a4 n A).getD a .undef) L H _=nm P t (fC A a) L H _
  rw[oX aC]
  congr 1
  funext x
  exact Eb aC rs _
theorem Ee {P:Program} {fn:Func} {n:Nat} {A:List (Nat×AV)} {L:List (Nat×List AV)} {H:List Blk} {r:AV} {Q:AV→List Blk→Prop} (aC:ec n A=true) (l:List AV) (e: ∀K,p6 P A L H fn.results.toList K=K l) (aJ:l.all jq=true) (hw:rm l=r) (h:Q r H):rv P fn Q .ret ⟨a4 n A,L,H⟩:=by
 show uP P fn ⟨a4 n A,L,H⟩ Q
 unfold uP
 rw[Eb aC,e]
 exact⟨aJ,by rw[hw];exact h⟩
theorem P_ {P:Program} {fn:Func} {n:Nat} {A:List (Nat×AV)} {L:List (Nat×List AV)} {H:List Blk} {r:AV} {Q:AV→List Blk→Prop} (aC:ec n A=true) (l:List AV) (e: ∀K,p6 P A L H fn.results.toList K=K l) (aJ:l.all jq=true) (hw:rm l=r) (h:Q r H):rv P fn Q .normal ⟨a4 n A,L,H⟩:=
 Ee (fn:=fn) aC l e aJ hw h
end Go.Proofs.Ytglpfccgmfhkdaa.Fw
/- The framework, part Q: steps of a walk over sparse slots (printed by tools/fwq.py). -/
set_option linter.unusedVariables false
namespace Go.Proofs.Ytglpfccgmfhkdaa.Fw
open Go
theorem Hw {P:Program} {esc:List Nat} {ops:Array Oper} {n:Nat} {K:List (Nat×AV)→List (Nat×List AV)→List Blk→Prop}: ∀(sf lT:List Oper) (A:List (Nat×AV)) (L:List (Nat×List AV)) (H:List Blk),
  evS P esc ops n (sf++lT) A L H K=evS P esc ops n sf A L H fun A L H=>evS P esc ops n lT A L H K
 | [],lT,A,L,H=>rfl
 | o::r,lT,A,L,H=>by
  show evS P esc ops n (o::(r++lT)) A L H K=_
  simp only[evS,Hw r lT]
theorem iD {P:Program} {esc:List Nat} {ops:Array Oper} {n:Nat} {K:List (Nat×AV)→List (Nat×List AV)→List Blk→Prop} {A:List (Nat×AV)} {L:List (Nat×List AV)} {H:List Blk} (X:List Oper) (i k:Nat):
  evS P esc ops n (X.drop i) A L H K=evS P esc ops n ((X.drop i).take k) A L H fun A L H=>evS P esc ops n (X.drop (i+k)) A L H K:=by
 rw[←Hw,←List.drop_drop,List.take_append_drop]
theorem Hu {P:Program} {esc:List Nat} {ops:Array Oper} {n:Nat} {K:List (Nat×AV)→List (Nat×List AV)→List Blk→Prop}: ∀(sf lT:List Item) (A:List (Nat×AV)) (L:List (Nat×List AV)) (H:List Blk),
  evSD P esc ops n (sf++lT) A L H K=evSD P esc ops n sf A L H fun A L H=>evSD P esc ops n lT A L H K
 | [],lT,A,L,H=>rfl
 | o::r,lT,A,L,H=>by
  show evSD P esc ops n (o::(r++lT)) A L H K=_
  simp only[evSD,Hu r lT]
theorem ks {P:Program} {esc:List Nat} {ops:Array Oper} {n:Nat} {K:List (Nat×AV)→List (Nat×List AV)→List Blk→Prop} {A:List (Nat×AV)} {L:List (Nat×List AV)} {H:List Blk} (X:List Item) (i k:Nat):
  evSD P esc ops n (X.drop i) A L H K=evSD P esc ops n ((X.drop i).take k) A L H fun A L H=>evSD P esc ops n (X.drop (i+k)) A L H K:=by
 rw[←Hu,←List.drop_drop,List.take_append_drop]
theorem map_set {α β:Type} (f:α→β) (xs:List α) (i:Nat) (x:α):(List.map f xs).set i (f x)=List.map f (xs.set i x):=by
 rw[List.map_set]
theorem l0 {H:List Blk} {α:Type} {eT eF:α→List AV} {b g sz n:Nat} {full:Bool} {xs ys:List α} (aC:n=xs.length) (hb:H[b]?=some ⟨g,sz,List.map eT xs⟩) (hc: ∀x,j0 H (eT x) (eF x)) (h:xs.length≤4611686018427387904∧xs=ys):
  fp H (.ref b g 0 n full) (.be (List.map eF ys) false true):=aC▸NG hb hc h
theorem kJ {L:List (Nat×List AV)} {H:List Blk} {α:Type} {eT eF:α→List AV} {b g sz n:Nat} {full:Bool} {xs:List α} (a0:n=xs.length) (hb:H[b]?=some ⟨g,sz,List.map eT xs⟩) (hc: ∀x,mA L H (eT x) (eF x)) (aC:xs.length≤4611686018427387904):
  fo L H (.ref b g 0 n full) (.be (List.map eF xs) false false):=a0▸L6 hb hc aC
theorem zt {α:Type} {enc:α→List AV} {k:Nat} (h: ∀x,(enc x).length=k∧(enc x).all ie=true) (ys:List α):pa k (List.map enc ys):=fun row aJ=>by
 obtain⟨x,_,rfl⟩:=List.mem_map.1 aJ
 exact⟨(h x).1,fun a a6=>List.all_eq_true.1 (h x).2 a a6⟩
theorem wg {α:Type} {c:Bool} {x y:List α} {n:Nat} (hx:x.length=n) (bA:y.length=n):(bif c then x else y).length=n:=by cases c<;>assumption
def l8:List (Nat×AV)→List (Nat×AV)→List (Nat×AV)
 | [],R=>R
 | p::N,R=>p::l8 N R
def Hc:List (Nat×AV)→List (Nat×AV)→List (Nat×AV)
 | [],A=>A
 | p::N,A=>kY (Hc N A) p.1
def fW (N A:List (Nat×AV)):List (Nat×AV):=l8 N (Hc N A)
def cY (d:Option Nat) (v:AV) (N A:List (Nat×AV)):List (Nat×AV):=match d with
 | some d=>fW ((d,v)::N) A
 | none=>fW N A
def sJ:List (Nat×AV)→Nat→AV→List (Nat×AV)
 | [],_,_=>[]
 | (k,u)::r,t,v=>match Nat.beq k t with
  | true=>(k,v)::r
  | false=>(k,u)::sJ r t v
abbrev ac (n:Int):AV:= .int .i64 n
abbrev ah (b:Bool):AV:= .bool b
abbrev bo {α:Type} (e:α→List AV) (x:List α):AV:= .be (List.map e x) false false
abbrev ao:AV:= .be [] true true
abbrev eJ {α:Type} (e:α→List AV) (x:List α):AV:= .be (List.map e x) false true
abbrev ae (b g n:Nat):AV:= .ref b g 0 n false
abbrev an (t c:Nat):AV:= .e6 t c
abbrev t0:AV:= .tup []
def e4 (l:List Nat):List (Nat×AV):=l.map fun i=>(i,.tup [])
def KZ:Bool→List Nat→Bool×List Nat
 | b,0::m=>KZ (!b) m
 | b,m=>(b,m)
def jX {α:Type} (b:Bool) (m:List Nat):List α→List α
 | []=>[]
 | x::l=>match KZ b m with
  | (true,(n+1)::m)=>x::jX true (n::m) l
  | (false,(n+1)::m)=>jX false (n::m) l
  | _=>[]
theorem uV {α:Type} {n:Nat} {m:List Nat} {x:α} {l:List α}:jX true ((n+1)::m) (x::l)=x::jX true (n::m) l:=rfl
theorem uU {α:Type} {n:Nat} {m:List Nat} {x:α} {l:List α}:jX false ((n+1)::m) (x::l)=jX false (n::m) l:=rfl
theorem uW {α:Type} {m:List Nat} {l:List α}:jX true (0::m) l=jX false m l:=by cases l<;>rfl
theorem self {α:Type} {m:List Nat} {l:List α}:jX false (0::m) l=jX true m l:=by cases l<;>rfl
theorem uT {α:Type} {b:Bool} {l:List α}:jX b [] l=[]:=by cases b<;>cases l<;>rfl
def hh (j:Nat) (r:List (List AV)):List Blk→List Blk
 | []=>[]
 | b::H=>match j with
  | 0=>⟨b.bI,b.sz,r⟩::H
  | j+1=>b::hh j r H
def fM (i j:Nat) (a:AV):List (Nat×List AV)→List (Nat×List AV)
 | []=>[]
 | x::L=>match i with
  | 0=>(x.1,x.2.set j a)::L
  | i+1=>x::fM i j a L
def er (i:Nat) (a:List AV):List (Nat×List AV)→List (Nat×List AV)
 | []=>[]
 | x::L=>match i with
  | 0=>(x.1,a)::L
  | i+1=>x::er i a L
def dC (i:Nat) (b:Blk):List Blk→List Blk
 | []=>[]
 | x::H=>match i with
  | 0=>b::H
  | i+1=>x::dC i b H
section
variable {i j k:Nat} {a:AV} {c l:List AV} {L:List (Nat×List AV)} {x:Nat×List AV} {b y:Blk} {H:List Blk}
theorem Hg:fM 0 j a ((k,c)::L)=(k,c.set j a)::L:=rfl
theorem Hh:fM (i+1) j a (x::L)=x::fM i j a L:=rfl
theorem Ho:er 0 l ((k,c)::L)=(k,l)::L:=rfl
theorem Hp:er (i+1) l (x::L)=x::er i l L:=rfl
theorem GM:dC 0 b (y::H)=b::H:=rfl
theorem GN:dC (i+1) b (y::H)=y::dC i b H:=rfl
end
abbrev au (i:Nat):Item:=⟨i,true,true,[]⟩
abbrev rg (a b:Nat):List Nat:=List.range' a (b - a)
def fm {V:Type} (S:V→St) (kR:V→Prop) (Q:Exit→St→Prop) (ex:Exit) (s:St):Prop:=match ex with
 | .normal=> ∃v,kR v∧Weak s (S v)
 | ex=>Q ex s
theorem fm.normal {V:Type} {S:V→St} {kR:V→Prop} {Q:Exit→St→Prop} {s:St} (v:V) (h:kR v) (hw:Weak s (S v)):fm S kR Q .normal s:=⟨v,h,hw⟩
theorem fm.ret {V:Type} {S:V→St} {kR:V→Prop} {Q:Exit→St→Prop} {s:St} (h:Q .ret s):fm S kR Q .ret s:=h
theorem fm.exit {V:Type} {S:V→St} {kR:V→Prop} {Q:Exit→St→Prop} {s:St} {id:Nat} (h:Q (.exit id) s):fm S kR Q (.exit id) s:=h
section
variable {P:Program} {b:Code} {k n:Nat} {Q:Exit→St→Prop} {aD:St} {A A':List (Nat×AV)} {L L':List (Nat×List AV)} {H H':List Blk}
theorem gX (S:St) (ψ:Prop) (h:WpS P (bK b (2*k)) (bR S ψ Q) aD) (aj:ψ→WpS P (bK b (2*k+1)) Q S) (e:bK b k= .seq (bK b (2*k)) (bK b (2*k+1)):=by kernel_rfl):WpS P (bK b k) Q aD:=WpS.sI S e h aj
theorem b0 (N:List (Nat×AV)) (m:List Nat) (ψ:Prop) (h:WpS P (bK b (2*k)) (bR ⟨a4 n A',L,H⟩ ψ Q) ⟨a4 n A,L,H⟩) (aj:ψ→WpS P (bK b (2*k+1)) Q ⟨a4 n A',L,H⟩) (hB:l8 N (jX true m A)=A':=by simp only[l8,uV,uU,uW,self,uT];rfl) (e:bK b k= .seq (bK b (2*k)) (bK b (2*k+1)):=by kernel_rfl):WpS P (bK b k) Q ⟨a4 n A,L,H⟩:=WpS.sI _ e h aj
theorem O_ (N:List (Nat×AV)) (m:List Nat) (L':List (Nat×List AV)) (H':List Blk) (ψ:Prop) (h:WpS P (bK b (2*k)) (bR ⟨a4 n A',L',H'⟩ ψ Q) ⟨a4 n A,L,H⟩) (aj:ψ→WpS P (bK b (2*k+1)) Q ⟨a4 n A',L',H'⟩) (hB:l8 N (jX true m A)=A':=by simp only[l8,uV,uU,uW,self,uT];rfl) (e:bK b k= .seq (bK b (2*k)) (bK b (2*k+1)):=by kernel_rfl):WpS P (bK b k) Q ⟨a4 n A,L,H⟩:=WpS.sI _ e h aj
theorem dD (N:List (Nat×AV)) (m:List Nat) (A5:List (Nat×List AV)→List (Nat×List AV)) (A4:List Blk→List Blk) (ψ:Prop) (h:WpS P (bK b (2*k)) (bR ⟨a4 n A',L',H'⟩ ψ Q) ⟨a4 n A,L,H⟩) (aj:ψ→WpS P (bK b (2*k+1)) Q ⟨a4 n A',L',H'⟩) (bT:A5 L=L':=by first | (simp only[id,Hg,Hh,Ho,Hp,List.set_cons_zero,List.set_cons_succ];rfl) | (dsimp only;rfl) | rfl) (aV:A4 H=H':=by first | (simp only[id,GM,GN,List.cons_append,List.nil_append];rfl) | (dsimp only;rfl) | rfl) (hB:l8 N (jX true m A)=A':=by simp only[l8,uV,uU,uW,self,uT];rfl) (e:bK b k= .seq (bK b (2*k)) (bK b (2*k+1)):=by kernel_rfl):WpS P (bK b k) Q ⟨a4 n A,L,H⟩:=WpS.sI _ e h aj
theorem GV {V:Type} (S:V→St) (kR:V→Prop) (h:WpS P (bK b (2*k)) (fm S kR Q) aD) (aj: ∀v,kR v→WpS P (bK b (2*k+1)) Q (S v)) (e:bK b k= .seq (bK b (2*k)) (bK b (2*k+1)):=by kernel_rfl):WpS P (bK b k) Q aD:=
 WpS.seq' e (h.mono fun ex s hs=>by
  cases ex with
  | normal=>obtain⟨v,aP,hw⟩:=hs;exact(aj v aP).jd hw
  | _=>exact hs)
theorem GU {V:Type} {y:Code} (id:Nat) (S:V→St) (kR:V→Prop) (h:WpS P (bK b (2*k)) (bZ id (fm S kR Q)) aD) (aj: ∀v,kR v→WpS P y Q (S v)) (e:bK b k= .block id (bK b (2*k)):=by kernel_rfl):WpS P (bK b k) (c4 P y Q) aD:=
 WpS.GQ e (h.mono fun ex s hs=>by
  have key: ∀ex s,fm S kR Q ex s→c4 P y Q ex s:=fun ex s hs=>by
   cases ex with
   | normal=>obtain⟨v,aP,hw⟩:=hs;exact(aj v aP).jd hw
   | _=>exact hs
  cases ex with
  | exit q=>
   show if q=id then _ else _
   replace hs:if q=id then fm S kR Q .normal s else fm S kR Q (.exit q) s:=hs
   split at hs
   ·rename_i aj;rw[if_pos aj];exact key _ _ hs
   ·rename_i aj;rw[if_neg aj];exact key _ _ hs
  | normal=>exact key .normal s hs
  | goto l=>exact key (.goto l) s hs
  | ret=>exact key .ret s hs
  | panic c=>exact key (.panic c) s hs
  | outgrown=>exact key .outgrown s hs)
theorem fy (h:WpS P (bK b (2*k)) (c4 P (bK b (2*k+1)) Q) aD) (e:bK b k= .seq (bK b (2*k)) (bK b (2*k+1)):=by kernel_rfl):WpS P (bK b k) Q aD:=WpS.seq' e h
theorem pu (o:Operand) (z:Bool) (h1:z=true→WpS P (bK b (2*k)) Q ⟨a4 n A,L,H⟩) (h2:z=false→WpS P (bK b (2*k+1)) Q ⟨a4 n A,L,H⟩) (e:bK b k= .cond o (bK b (2*k)) (bK b (2*k+1)):=by kernel_rfl)
  (aC:ec n A=true:=by kernel_rfl) (ax:oc A o= .bool z:=by kernel_rfl):WpS P (bK b k) Q ⟨a4 n A,L,H⟩:=WpS.Pz e (PC aC ax) h1 h2
theorem dM (id:Nat) (h:WpS P (bK b (2*k)) (bZ id Q) aD) (e:bK b k= .block id (bK b (2*k)):=by kernel_rfl):WpS P (bK b k) Q aD:=WpS.GQ e h
theorem c6 (h:Q .normal aD) (e:bK b k= .skip:=by kernel_rfl):WpS P (bK b k) Q aD:=WpS.WU e h
theorem e8 (h:Q .ret aD) (e:bK b k= .ret:=by kernel_rfl):WpS P (bK b k) Q aD:=WpS.Wu e h
theorem gG (id:Nat) (h:Q (.exit id) aD) (e:bK b k= .exit id:=by kernel_rfl):WpS P (bK b k) Q aD:=WpS.Qg e h
theorem hr {V:Type} (S:V→St) (I:V→Prop) (m:V→Nat) (g9:V) (hs:Weak aD (S g9)) (a0:I g9) (round: ∀v,I v→WpS P (bK b (2*k)) (cU S I m v Q) (S v)) (e:bK b k= .loop (bK b (2*k)):=by kernel_rfl):WpS P (bK b k) Q aD:=
 WpS.KE S I m e g9 hs a0 round
theorem bm (esc:List Nat) (id:Nat) (h:evS P esc (h9 b k) n ((h9 b k).toList.drop 0) A L H (fun A L H=>Q .normal ⟨a4 n A,L,H⟩)) (e:bK b k= .region id (h9 b k) false:=by kernel_rfl) (aC:ec n A=true:=by kernel_rfl):WpS P (bK b k) Q ⟨a4 n A,L,H⟩:=
 WpS.zn (esc:=esc) e aC h
theorem lW (esc:List Nat) (id:Nat) (ord:List Item) (je:List (List Nat)) (hI:List (Nat×List AV)) (h:evSD P esc (h9 b k) n (ord.drop 0) A (hI++L) H (fun A L H=>Q .normal ⟨a4 n A,L,H⟩)) (hm:P.follows .mixedOrders=true:=by kernel_rfl) (aI:je.length=(h9 b k).size:=by kernel_rfl)
  (bp:th (h9 b k) ord (vl je)=true:=by kernel_rfl) (BM:ord.all (·.lit)=true:=by kernel_rfl) (e:bK b k= .region id (h9 b k) true:=by kernel_rfl) (aC:ec n A=true:=by kernel_rfl) (hf:rL hI L=true:=by kernel_rfl) (aQ:rA (h9 b k) L ord=true:=by kernel_rfl):WpS P (bK b k) Q ⟨a4 n A,L,H⟩:=
 WpS.Wr (esc:=esc) ord je hm aI bp BM e aC hI hf aQ h
theorem cQ (esc:List Nat) (id:Nat) (l5:List (Nat×AV)) (wm m:List Nat) (aj:WpS P (bK b (2*k+1)) Q ⟨a4 n A',L,H⟩) (hB:l8 (jX true wm l5) (jX true m A)=A':=by simp only[l8,uV,uU,uW,self,uT];rfl) (e:bK b k= .seq (bK b (2*k)) (bK b (2*k+1)):=by kernel_rfl)
  (e2:bK b (2*k)= .region id (h9 b (2*k)) false:=by kernel_rfl) (aC:ec n A=true:=by kernel_rfl) (dN: ∀K,evS P esc (h9 b (2*k)) n ((h9 b (2*k)).toList.drop 0) A L H K=K (fW l5 A) L H:=by intro K;kernel_rfl) (kZ:mo (fW l5 A) A'=A':=by kernel_rfl)
  (h1:ec n (fW l5 A)=true:=by kernel_rfl) (h2:ec n A'=true:=by kernel_rfl):WpS P (bK b k) Q ⟨a4 n A,L,H⟩:=
 WpS.sI ⟨a4 n A',L,H⟩ (ψ:=True) e (WpS.zn (esc:=esc) e2 aC (by rw[dN];exact⟨trivial,va h1 h2 kZ⟩)) fun _=>aj
theorem m_ (esc:List Nat) (id:Nat) (l5:List (Nat×AV)) (wm m:List Nat) (L':List (Nat×List AV)) (H':List Blk) (aj:WpS P (bK b (2*k+1)) Q ⟨a4 n A',L',H'⟩) (hB:l8 (jX true wm l5) (jX true m A)=A':=by simp only[l8,uV,uU,uW,self,uT];rfl) (e:bK b k= .seq (bK b (2*k)) (bK b (2*k+1)):=by kernel_rfl)
  (e2:bK b (2*k)= .region id (h9 b (2*k)) false:=by kernel_rfl) (aC:ec n A=true:=by kernel_rfl) (dN: ∀K,evS P esc (h9 b (2*k)) n ((h9 b (2*k)).toList.drop 0) A L H K=K (fW l5 A) L' H':=by intro K;kernel_rfl) (kZ:mo (fW l5 A) A'=A':=by kernel_rfl)
  (h1:ec n (fW l5 A)=true:=by kernel_rfl) (h2:ec n A'=true:=by kernel_rfl):WpS P (bK b k) Q ⟨a4 n A,L,H⟩:=
 WpS.sI ⟨a4 n A',L',H'⟩ (ψ:=True) e (WpS.zn (esc:=esc) e2 aC (by rw[dN];exact⟨trivial,va h1 h2 kZ⟩)) fun _=>aj
theorem l9 (esc:List Nat) (id:Nat) (l5:List (Nat×AV)) (wm m:List Nat) (A5:List (Nat×List AV)→List (Nat×List AV)) (A4:List Blk→List Blk) (aj:WpS P (bK b (2*k+1)) Q ⟨a4 n A',L',H'⟩) (bT:A5 L=L':=by first | (simp only[id,Hg,Hh,Ho,Hp,List.set_cons_zero,List.set_cons_succ];rfl) | (dsimp only;rfl) | rfl) (aV:A4 H=H':=by first | (simp only[id,GM,GN,List.cons_append,List.nil_append];rfl) | (dsimp only;rfl) | rfl) (hB:l8 (jX true wm l5) (jX true m A)=A':=by simp only[l8,uV,uU,uW,self,uT];rfl) (e:bK b k= .seq (bK b (2*k)) (bK b (2*k+1)):=by kernel_rfl)
  (e2:bK b (2*k)= .region id (h9 b (2*k)) false:=by kernel_rfl) (aC:ec n A=true:=by kernel_rfl) (dN: ∀K,evS P esc (h9 b (2*k)) n ((h9 b (2*k)).toList.drop 0) A L H K=K (fW l5 A) L' H':=by intro K;kernel_rfl) (kZ:mo (fW l5 A) A'=A':=by kernel_rfl)
  (h1:ec n (fW l5 A)=true:=by kernel_rfl) (h2:ec n A'=true:=by kernel_rfl):WpS P (bK b k) Q ⟨a4 n A,L,H⟩:=
 WpS.sI ⟨a4 n A',L',H'⟩ (ψ:=True) e (WpS.zn (esc:=esc) e2 aC (by rw[dN];exact⟨trivial,va h1 h2 kZ⟩)) fun _=>aj
theorem cN {t:Nat} {z:Bool} (h1:z=true→WpS P (bK b (2*k)) Q ⟨a4 n ((t,.bool z)::A),L,H⟩) (h2:z=false→WpS P (bK b (2*k+1)) Q ⟨a4 n ((t,.bool z)::A),L,H⟩) (e:bK b k= .cond (.tmp t) (bK b (2*k)) (bK b (2*k+1)):=by kernel_rfl)
  (aC:ec n ((t,.bool z)::A)=true:=by kernel_rfl):WpS P (bK b k) Q ⟨a4 n ((t,.bool z)::A),L,H⟩:=pu (.tmp t) z h1 h2 e aC (by show fC ((t,.bool z)::A) t=_;unfold fC;rw[show Nat.beq t t=true from Nat.beq_refl t])
theorem dj.go {f:FuncId} {fn:Func} {args:List AV} {H:List Blk} {R:AV→List Blk→Prop} (A:List (Nat×AV)) (hf:P.funcs[f]?=some fn) (h:WpS P (bK (hM fn) 1) (rv P fn R) ⟨a4 fn.ntmps A,[],H⟩) (hb:fn.body=some (bK (hM fn) 1):=by kernel_rfl) (aC:(fn.name== "runtime.NumGoroutine")=false:=by kernel_rfl)
  (hi:yM fn args H=⟨a4 fn.ntmps A,[],H⟩:=by kernel_rfl):dj P f args H R:=dj.K2 hf hb aC (hi▸h)
theorem iz {fn:Func} {R:AV→List Blk→Prop} (r:AV) (h:R r H) (aC:ec n A=true:=by kernel_rfl) (e: ∀K,p6 P A L H fn.results.toList K=K [r]:=by intro K;kernel_rfl) (aJ:[r].all jq=true:=by kernel_rfl):rv P fn R .ret ⟨a4 n A,L,H⟩:=Ee aC [r] e aJ rfl h
theorem cW (kZ:mo A A'=A':=by kernel_rfl) (hB:ec n A=true:=by kernel_rfl) (lM:ec n A'=true:=by kernel_rfl):Weak ⟨a4 n A,L,H⟩ ⟨a4 n A',L,H⟩:=va hB lM kZ
theorem cC (c5:List Nat) (hB:ec n A=true:=by kernel_rfl) (lM:ec n A'=true:=by kernel_rfl) (aF:wk c5 A'=true:=by kernel_rfl) (kZ:mo A A'=A':=by kernel_rfl) (eX:mH c5 L=L':=by kernel_rfl):Weak ⟨a4 n A,L,H⟩ ⟨a4 n A',L',H⟩:=Zi c5 hB lM aF kZ eX
theorem lz {fn:Func} {R:AV→List Blk→Prop} (r:AV) (l:List AV) (h:R r H) (aC:ec n A=true:=by kernel_rfl) (e: ∀K,p6 P A L H fn.results.toList K=K l:=by intro K;kernel_rfl) (aJ:l.all jq=true:=by kernel_rfl) (hw:rm l=r:=by kernel_rfl):rv P fn R .ret ⟨a4 n A,L,H⟩:=Ee aC l e aJ hw h
theorem xR {fn:Func} {R:AV→List Blk→Prop} (r:AV) (l:List AV) (h:R r H) (aC:ec n A=true:=by kernel_rfl) (e: ∀K,p6 P A L H fn.results.toList K=K l:=by intro K;kernel_rfl) (aJ:l.all jq=true:=by kernel_rfl) (hw:rm l=r:=by kernel_rfl):rv P fn R .normal ⟨a4 n A,L,H⟩:=P_ aC l e aJ hw h
end
section
variable {P:Program} {esc:List Nat} {ops:Array Oper} {n:Nat} {X:List Oper} {i0:Nat} {A:List (Nat×AV)} {L:List (Nat×List AV)} {H:List Blk} {K:List (Nat×AV)→List (Nat×List AV)→List Blk→Prop}
theorem bL {A':List (Nat×AV)} {L':List (Nat×List AV)} {H':List Blk} {ψ:Prop} {Q:Exit→St→Prop} (N:List (Nat×AV)) (aF:ψ) (kZ:mo (fW N A) A'=A':=by kernel_rfl) (e: ∀K,evS P esc ops n (X.drop i0) A L H K=K (fW N A) L' H':=by intro K;kernel_rfl)
  (hB:ec n (fW N A)=true:=by kernel_rfl) (lM:ec n A'=true:=by kernel_rfl):evS P esc ops n (X.drop i0) A L H (fun A L H=>bR ⟨a4 n A',L',H'⟩ ψ Q .normal ⟨a4 n A,L,H⟩):=by
 rw[e];exact⟨aF,va hB lM kZ⟩
theorem kI (bf t:Nat) (b:Bool) (N:List (Nat×AV)) (h1:b=true→evS P esc ops n (X.drop (i0+bf)) (sJ (fW ((t,.bool b)::N) A) t (.bool true)) L H K) (h2:b=false→evS P esc ops n (X.drop (i0+bf)) (sJ (fW ((t,.bool b)::N) A) t (.bool false)) L H K)
  (e: ∀K,evS P esc ops n ((X.drop i0).take bf) A L H K=K (sJ (fW ((t,.bool b)::N) A) t (.bool b)) L H:=by intro K;kernel_rfl):evS P esc ops n (X.drop i0) A L H K:=by
 rw[iD X i0 bf,e]
 cases b with
 | true=>exact h1 rfl
 | false=>exact h2 rfl
theorem df (N:List (Nat×AV)) (h:K (fW N A) L H) (e: ∀K,evS P esc ops n (X.drop i0) A L H K=K (fW N A) L H:=by intro K;kernel_rfl):evS P esc ops n (X.drop i0) A L H K:=by
 rw[e];exact h
theorem sG (N:List (Nat×AV)) (L':List (Nat×List AV)) (H':List Blk) (h:K (fW N A) L' H') (e: ∀K,evS P esc ops n (X.drop i0) A L H K=K (fW N A) L' H':=by intro K;kernel_rfl):evS P esc ops n (X.drop i0) A L H K:=by
 rw[e];exact h
theorem wS (bf:Nat) (N:List (Nat×AV)) (L':List (Nat×List AV)) (H':List Blk) (h:evS P esc ops n (X.drop (i0+bf)) (fW N A) L' H' K) (e: ∀K,evS P esc ops n ((X.drop i0).take bf) A L H K=K (fW N A) L' H':=by intro K;kernel_rfl):evS P esc ops n (X.drop i0) A L H K:=by
 rw[iD X i0 bf,e];exact h
theorem ld (bf:Nat) (d:Option Nat) (v:AV) (N:List (Nat×AV)) {φ:Prop} (h1:φ) (h:evS P esc ops n (X.drop (i0+bf)) (cY d v N A) L H K) (e: ∀K,evS P esc ops n ((X.drop i0).take bf) A L H K=(φ∧K (cY d v N A) L H):=by intro K;kernel_rfl):evS P esc ops n (X.drop i0) A L H K:=by
 rw[iD X i0 bf,e];exact⟨h1,h⟩
theorem hT (bf:Nat) (d:Option Nat) (N:List (Nat×AV)) {α:Type} [Inhabited α] (enc:α→List AV) (xs:List α) {i:Int} (m:Nat)
  (a0:0≤i∧i.toNat<xs.length) (h:evS P esc ops n (X.drop (i0+bf)) (cY d (.cZ (enc (nth xs i)) 0) N A) L H K) (aC: ∀x,(enc x).length=m:=by exact fun _=>rfl)
  (e: ∀K,evS P esc ops n ((X.drop i0).take bf) A L H K=(0≤i∧cJ (List.map enc xs)[i.toNat]? fun row=>row.length=m∧K (cY d (.cZ row 0) N A) L H):=by intro K;kernel_rfl):evS P esc ops n (X.drop i0) A L H K:=by
 rw[iD X i0 bf,e]
 refine⟨a0.1,dG (a:=enc (nth xs i)) ?_ ⟨aC _,h⟩⟩
 rw[List.getElem?_map,gv a0.2];rfl
theorem kH (bf:Nat) (d:Option Nat) (N:List (Nat×AV)) (b g z:Nat) {i:Int} {m:Nat} (a0:0≤i∧i.toNat<m) (h:evS P esc ops n (X.drop (i0+bf)) (cY d (.ptr b g (0+i.toNat) 0) N A) L H K)
  (e: ∀K,evS P esc ops n ((X.drop i0).take bf) A L H K=(g=g∧z=z∧0≤i∧i<m∧K (cY d (.ptr b g (0+i.toNat) 0) N A) L H):=by intro K;kernel_rfl):evS P esc ops n (X.drop i0) A L H K:=by
 rw[iD X i0 bf,e];exact⟨rfl,rfl,a0.1,by have:=a0.2;omega,h⟩
theorem L3 (bf:Nat) (d:Option Nat) (N:List (Nat×AV)) {α:Type} [Inhabited α] (enc:α→List AV) (xs:List α) (i:Int) (t:TypeId) (c g:Nat) (v:AV) (aJ:i.toNat<xs.length) (h:evS P esc ops n (X.drop (i0+bf)) (cY d v N A) L H K)
  (e2: ∀K,iB P t (enc (nth xs i)) c K=K v:=by intro K;kernel_rfl)
  (e: ∀K,evS P esc ops n ((X.drop i0).take bf) A L H K=(g=g∧cJ (List.map enc xs)[0+i.toNat]? fun row=>iB P t row c fun v=>K (cY d v N A) L H):=by intro K;kernel_rfl):evS P esc ops n (X.drop i0) A L H K:=by
 rw[iD X i0 bf,e]
 refine⟨rfl,dG (a:=enc (nth xs i)) ?_ (by rw[e2];exact h)⟩
 rw[Nat.zero_add,List.getElem?_map,gv aJ];rfl
theorem ic (bf:Nat) (d:Option Nat) (N:List (Nat×AV)) {g:FuncId} (args:List AV) {dK:List AV} {t:AV}
  (hf:b3 P g dK t) (hs:av (ck L H) args dK) (h:evS P esc ops n (X.drop (i0+bf)) (cY d t N A) L H K) (aC:args.all ed=true:=by kernel_rfl) (e: ∀K,evS P esc ops n ((X.drop i0).take bf) A L H K=kq P g args L H (fun v L' H'=>K (cY d v N A) L' H'):=by intro K;kernel_rfl):evS P esc ops n (X.drop i0) A L H K:=by
 rw[iD X i0 bf,e];exact .inl ⟨aC,dK,t,hs,hf,h⟩
theorem WH (bf:Nat) (d:Option Nat) (N:List (Nat×AV)) {α:Type} [Inhabited α] (enc:α→List AV) (xs:List α) (i:Int) (c k g:Nat) (cells:List AV) (H':List (List AV)→List Blk) (lH:α) (aJ:i.toNat<xs.length)
  (h:evS P esc ops n (X.drop (i0+bf)) (cY d (.tup []) N A) L (H' (List.map enc (xs.set i.toNat lH))) K) (hc:Nat.ble (c+k) (enc (nth xs i)).length=true:=by kernel_rfl) (hs:eK (enc (nth xs i)) c cells=enc lH:=by kernel_rfl)
  (e: ∀K,evS P esc ops n ((X.drop i0).take bf) A L H K=(g=g∧cJ (List.map enc xs)[0+i.toNat]? fun row=>c+k≤row.length∧K (cY d (.tup []) N A) L (H' ((List.map enc xs).set (0+i.toNat) (eK row c cells)))):=by intro K;kernel_rfl):evS P esc ops n (X.drop i0) A L H K:=by
 rw[iD X i0 bf,e]
 refine⟨rfl,dG (a:=enc (nth xs i)) ?_ ⟨Nat.le_of_ble_eq_true hc,?_⟩⟩
 ·rw[Nat.zero_add,List.getElem?_map,gv aJ];rfl
 ·rw[hs,Nat.zero_add,map_set];exact h
theorem re (bf:Nat) (d:Option Nat) (N:List (Nat×AV)) {α:Type} [Inhabited α] (enc:α→List AV) (xs:List α) (i:Int) (c k g:Nat) (cells:List AV) (j:Nat) (lH:α) (aJ:i.toNat<xs.length)
  (h:evS P esc ops n (X.drop (i0+bf)) (cY d (.tup []) N A) L (hh j (List.map enc (xs.set i.toNat lH)) H) K) (hc:Nat.ble (c+k) (enc (nth xs i)).length=true:=by kernel_rfl) (hs:eK (enc (nth xs i)) c cells=enc lH:=by kernel_rfl)
  (e: ∀K,evS P esc ops n ((X.drop i0).take bf) A L H K=(g=g∧cJ (List.map enc xs)[0+i.toNat]? fun row=>c+k≤row.length∧K (cY d (.tup []) N A) L (hh j ((List.map enc xs).set (0+i.toNat) (eK row c cells)) H)):=by intro K;kernel_rfl):evS P esc ops n (X.drop i0) A L H K:=WH bf d N enc xs i c k g cells (fun r=>hh j r H) lH aJ h hc hs e
theorem Ep (bf:Nat) (d:Option Nat) (N:List (Nat×AV)) {α:Type} (enc:α→List AV) {i:Int} (B:Int) (z:List AV) (b:Nat) (H':List (List AV)→List Blk) (aA:α) (a0:0≤i∧B*i≤140737488355328∧i≤4611686018427387904)
  (h:evS P esc ops n (X.drop (i0+bf)) (cY d (.ref b 0 0 (List.replicate i.toNat aA).length false) N A) L (H' (List.map enc (List.replicate i.toNat aA))) K) (aQ:z=enc aA:=by rfl)
  (e: ∀K,evS P esc ops n ((X.drop i0).take bf) A L H K=(0≤i∧i≤i∧B*i≤140737488355328∧i≤4611686018427387904∧K (cY d (.ref b 0 0 i.toNat false) N A) L (H' (List.replicate i.toNat z))):=by intro K;kernel_rfl):evS P esc ops n (X.drop i0) A L H K:=by
 rw[iD X i0 bf,e]
 refine⟨a0.1,Int.le_refl _,a0.2.1,a0.2.2,?_⟩
 ·rw[aQ,←List.map_replicate];rw[List.length_replicate] at h;exact h
theorem ra (bf:Nat) (d:Option Nat) (N:List (Nat×AV)) {α:Type} (enc:α→List AV) (xs ys:List α) (b9:List (List AV)) (b g s B:Nat) (H':List (List AV)→List Blk) (hx:b9=List.map enc ys) (a0:(xs.length+ys.length)*B≤140737488355328∧xs.length+ys.length≤4611686018427387904)
  (h:evS P esc ops n (X.drop (i0+bf)) (cY d (.ref b (g+1) 0 (xs++ys).length false) N A) L (H' (List.map enc (xs++ys))) K) (hk: ∀x,(enc x).length=s∧(enc x).all ie=true:=by exact fun _=>⟨rfl,rfl⟩)
  (e: ∀K,evS P esc ops n ((X.drop i0).take bf) A L H K=(true=true∧true=true∧pa s b9∧0=0∧g=g∧s=s∧(List.map enc xs).length=xs.length∧(xs.length+b9.length)*B≤140737488355328∧xs.length+b9.length≤4611686018427387904∧K (cY d (.ref b (g+1) 0 (xs.length+b9.length) false) N A) L (H' (List.map enc xs++b9))):=by intro K;kernel_rfl):evS P esc ops n (X.drop i0) A L H K:=by
 rw[iD X i0 bf,e]
 subst hx
 refine⟨rfl,rfl,zt hk ys,rfl,rfl,rfl,List.length_map ..,by rw[List.length_map];exact a0.1,by rw[List.length_map];exact a0.2,?_⟩
 ·rw[List.length_append] at h;rw[List.length_map,←List.map_append];exact h
theorem pc (bf:Nat) (d:Option Nat) (N:List (Nat×AV)) {α:Type} (enc:α→List AV) (ys:List α) (b9:List (List AV)) (b s B:Nat) (H':List (List AV)→List Blk) (hx:b9=List.map enc ys) (a0:ys.length*B≤140737488355328∧ys.length≤4611686018427387904)
  (h:evS P esc ops n (X.drop (i0+bf)) (cY d (.ref b 0 0 ys.length false) N A) L (H' (List.map enc ys)) K) (hk: ∀x,(enc x).length=s∧(enc x).all ie=true:=by exact fun _=>⟨rfl,rfl⟩)
  (e: ∀K,evS P esc ops n ((X.drop i0).take bf) A L H K=(true=true∧true=true∧pa s b9∧true=true∧(∀row∈([]:List (List AV)),row.length=s)∧(List.length (α:=List AV) []+b9.length)*B≤140737488355328∧List.length (α:=List AV) []+b9.length≤4611686018427387904∧(([]:List (List AV))≠[]→b9≠[])∧
   K (cY d (.ref b 0 0 (List.length (α:=List AV) []+b9.length) false) N A) L (H' ([]++b9))):=by intro K;kernel_rfl):evS P esc ops n (X.drop i0) A L H K:=by
 rw[iD X i0 bf,e]
 subst hx
 refine⟨rfl,rfl,zt hk ys,rfl,(fun row h=>by cases h),by simpa using a0.1,by simpa using a0.2,(fun h=>absurd rfl h),?_⟩
 ·simpa using h
theorem rc (bf:Nat) (d:Option Nat) (N:List (Nat×AV)) {g:FuncId} (args:List AV) {dK:List AV} {lV:AV} {dp:List Blk} (r:AV) (j1:List Blk)
  (hf:dj P g dK [] fun r H'=>r=lV∧H'=dp) (hs:av (ck L H) args dK) (vY:qX dp=true) (tj:H++dp.map (kj H.length)=j1)
  (h:evS P esc ops n (X.drop (i0+bf)) (cY d r N A) L j1 K) (aC:args.all ed=true:=by kernel_rfl) (ax:uz lV=true:=by kernel_rfl) (er:lB H.length lV=r:=by kernel_rfl) (e: ∀K,evS P esc ops n ((X.drop i0).take bf) A L H K=kq P g args L H (fun v L' H'=>K (cY d v N A) L' H'):=by intro K;kernel_rfl):evS P esc ops n (X.drop i0) A L H K:=by
 rw[iD X i0 bf,e]
 subst er;subst tj
 exact .inr (.inl ⟨aC,dK,hs,hf.mono fun eS H1 ⟨h1,h2⟩=>by subst h1;subst h2;exact⟨ax,vY,h⟩⟩)
theorem sLen (bf:Nat) (d:Option Nat) (N:List (Nat×AV)) {α:Type} (enc:α→List AV) (xs:List α) (h:xs.length≤4611686018427387904→evS P esc ops n (X.drop (i0+bf)) (cY d (.int .i64 (xs.length:Nat)) N A) L H K)
  (e: ∀K,evS P esc ops n ((X.drop i0).take bf) A L H K=((List.map enc xs).length≤4611686018427387904→K (cY d (.int .i64 ((List.map enc xs).length:Nat)) N A) L H):=by intro K;kernel_rfl):evS P esc ops n (X.drop i0) A L H K:=by
 rw[iD X i0 bf,e,List.length_map];exact h
theorem Er (bf:Nat) (d:Option Nat) (N:List (Nat×AV)) {α:Type} (enc:α→List AV) (xs:List α) (h1:xs≠[]→evS P esc ops n (X.drop (i0+bf)) (cY d (.bool false) N A) L H K) (h2:xs=[]→ ∀b,evS P esc ops n (X.drop (i0+bf)) (cY d (.bool b) N A) L H K)
  (e: ∀K,evS P esc ops n ((X.drop i0).take bf) A L H K=((List.map enc xs≠[]→K (cY d (.bool false) N A) L H)∧(List.map enc xs=[]→ ∀b,K (cY d (.bool b) N A) L H)):=by intro K;kernel_rfl):evS P esc ops n (X.drop i0) A L H K:=by
 rw[iD X i0 bf,e]
 exact⟨fun h=>h1 fun e=>h (by rw[e];rfl),fun h=>h2 (by simpa using h)⟩
end
section
variable {P:Program} {esc:List Nat} {ops:Array Oper} {n:Nat} {X:List Item} {i0:Nat} {A:List (Nat×AV)} {L:List (Nat×List AV)} {H:List Blk} {K:List (Nat×AV)→List (Nat×List AV)→List Blk→Prop}
theorem jY {A':List (Nat×AV)} {L':List (Nat×List AV)} {H':List Blk} {ψ:Prop} {Q:Exit→St→Prop} (N:List (Nat×AV)) (aF:ψ) (kZ:mo (fW N A) A'=A':=by kernel_rfl) (e: ∀K,evSD P esc ops n (X.drop i0) A L H K=K (fW N A) L' H':=by intro K;kernel_rfl)
  (hB:ec n (fW N A)=true:=by kernel_rfl) (lM:ec n A'=true:=by kernel_rfl):evSD P esc ops n (X.drop i0) A L H (fun A L H=>bR ⟨a4 n A',L',H'⟩ ψ Q .normal ⟨a4 n A,L,H⟩):=by
 rw[e];exact⟨aF,va hB lM kZ⟩
theorem og (bf t:Nat) (b:Bool) (N:List (Nat×AV)) (h1:b=true→evSD P esc ops n (X.drop (i0+bf)) (sJ (fW ((t,.bool b)::N) A) t (.bool true)) L H K) (h2:b=false→evSD P esc ops n (X.drop (i0+bf)) (sJ (fW ((t,.bool b)::N) A) t (.bool false)) L H K)
  (e: ∀K,evSD P esc ops n ((X.drop i0).take bf) A L H K=K (sJ (fW ((t,.bool b)::N) A) t (.bool b)) L H:=by intro K;kernel_rfl):evSD P esc ops n (X.drop i0) A L H K:=by
 rw[ks X i0 bf,e]
 cases b with
 | true=>exact h1 rfl
 | false=>exact h2 rfl
theorem u4 (N:List (Nat×AV)) (h:K (fW N A) L H) (e: ∀K,evSD P esc ops n (X.drop i0) A L H K=K (fW N A) L H:=by intro K;kernel_rfl):evSD P esc ops n (X.drop i0) A L H K:=by
 rw[e];exact h
theorem zE (bf:Nat) (d:Option Nat) (v:AV) (N:List (Nat×AV)) {φ:Prop} (h1:φ) (h:evSD P esc ops n (X.drop (i0+bf)) (cY d v N A) L H K) (e: ∀K,evSD P esc ops n ((X.drop i0).take bf) A L H K=(φ∧K (cY d v N A) L H):=by intro K;kernel_rfl):evSD P esc ops n (X.drop i0) A L H K:=by
 rw[ks X i0 bf,e];exact⟨h1,h⟩
theorem w2 (bf:Nat) (N:List (Nat×AV)) (L':List (Nat×List AV)) (H':List Blk) {φ:Prop} (h1:φ) (h:evSD P esc ops n (X.drop (i0+bf)) (fW N A) L' H' K) (e: ∀K,evSD P esc ops n ((X.drop i0).take bf) A L H K=(φ∧K (fW N A) L' H'):=by intro K;kernel_rfl):evSD P esc ops n (X.drop i0) A L H K:=by
 rw[ks X i0 bf,e];exact⟨h1,h⟩
theorem p_ (bf:Nat) (d:Option Nat) (N:List (Nat×AV)) {α:Type} [Inhabited α] (enc:α→List AV) (xs:List α) {i:Int} (m:Nat)
  (a0:0≤i∧i.toNat<xs.length) (h:evSD P esc ops n (X.drop (i0+bf)) (cY d (.cZ (enc (nth xs i)) 0) N A) L H K) (aC: ∀x,(enc x).length=m:=by exact fun _=>rfl)
  (e: ∀K,evSD P esc ops n ((X.drop i0).take bf) A L H K=(0≤i∧cJ (List.map enc xs)[i.toNat]? fun row=>row.length=m∧K (cY d (.cZ row 0) N A) L H):=by intro K;kernel_rfl):evSD P esc ops n (X.drop i0) A L H K:=by
 rw[ks X i0 bf,e]
 refine⟨a0.1,dG (a:=enc (nth xs i)) ?_ ⟨aC _,h⟩⟩
 rw[List.getElem?_map,gv a0.2];rfl
theorem sR (bf:Nat) (d:Option Nat) (N:List (Nat×AV)) (b g z:Nat) {i:Int} {m:Nat} (a0:0≤i∧i.toNat<m) (h:evSD P esc ops n (X.drop (i0+bf)) (cY d (.ptr b g (0+i.toNat) 0) N A) L H K)
  (e: ∀K,evSD P esc ops n ((X.drop i0).take bf) A L H K=(g=g∧z=z∧0≤i∧i<m∧K (cY d (.ptr b g (0+i.toNat) 0) N A) L H):=by intro K;kernel_rfl):evSD P esc ops n (X.drop i0) A L H K:=by
 rw[ks X i0 bf,e];exact⟨rfl,rfl,a0.1,by have:=a0.2;omega,h⟩
theorem u5 (bf:Nat) (d:Option Nat) (N:List (Nat×AV)) {α:Type} [Inhabited α] (enc:α→List AV) (xs:List α) (i:Int) (t:TypeId) (c g:Nat) (v:AV) (aJ:i.toNat<xs.length) (h:evSD P esc ops n (X.drop (i0+bf)) (cY d v N A) L H K)
  (e2: ∀K,iB P t (enc (nth xs i)) c K=K v:=by intro K;kernel_rfl)
  (e: ∀K,evSD P esc ops n ((X.drop i0).take bf) A L H K=(g=g∧cJ (List.map enc xs)[0+i.toNat]? fun row=>iB P t row c fun v=>K (cY d v N A) L H):=by intro K;kernel_rfl):evSD P esc ops n (X.drop i0) A L H K:=by
 rw[ks X i0 bf,e]
 refine⟨rfl,dG (a:=enc (nth xs i)) ?_ (by rw[e2];exact h)⟩
 rw[Nat.zero_add,List.getElem?_map,gv aJ];rfl
theorem NQ (bf:Nat) (d:Option Nat) (N:List (Nat×AV)) {g:FuncId} (args:List AV) {dK:List AV} {t:AV}
  (hf:b3 P g dK t) (hs:av (ck L H) args dK) (h:evSD P esc ops n (X.drop (i0+bf)) (cY d t N A) L H K) (aC:args.all ed=true:=by kernel_rfl) (e: ∀K,evSD P esc ops n ((X.drop i0).take bf) A L H K=na P g args L H (fun v=>K (cY d v N A) L H):=by intro K;kernel_rfl):evSD P esc ops n (X.drop i0) A L H K:=by
 rw[ks X i0 bf,e];exact⟨aC,dK,t,hs,hf,h⟩
theorem Y6 (bf:Nat) (d:Option Nat) (N:List (Nat×AV)) {α:Type} [Inhabited α] (enc:α→List AV) (xs:List α) (i:Int) (c k g:Nat) (cells:List AV) (F:List (List AV)→Prop) (H':List (List AV)→List Blk) (lH:α) (aJ:i.toNat<xs.length)
  (da:F ((List.map enc (xs.set i.toNat lH)))) (h:evSD P esc ops n (X.drop (i0+bf)) (cY d (.tup []) N A) L (H' (List.map enc (xs.set i.toNat lH))) K) (hc:Nat.ble (c+k) (enc (nth xs i)).length=true:=by kernel_rfl) (hs:eK (enc (nth xs i)) c cells=enc lH:=by kernel_rfl)
  (e: ∀K,evSD P esc ops n ((X.drop i0).take bf) A L H K=(g=g∧cJ (List.map enc xs)[0+i.toNat]? fun row=>c+k≤row.length∧F (((List.map enc xs).set (0+i.toNat) (eK row c cells)))∧K (cY d (.tup []) N A) L (H' ((List.map enc xs).set (0+i.toNat) (eK row c cells)))):=by intro K;kernel_rfl):evSD P esc ops n (X.drop i0) A L H K:=by
 rw[ks X i0 bf,e]
 refine⟨rfl,dG (a:=enc (nth xs i)) ?_ ⟨Nat.le_of_ble_eq_true hc,?_,?_⟩⟩
 ·rw[Nat.zero_add,List.getElem?_map,gv aJ];rfl
 ·rw[hs,Nat.zero_add,map_set];exact da
 ·rw[hs,Nat.zero_add,map_set];exact h
theorem Y4 (bf:Nat) (d:Option Nat) (N:List (Nat×AV)) {α:Type} (enc:α→List AV) (xs ys:List α) (b9:List (List AV)) (b g s B:Nat) (F:List (List AV)→Prop) (H':List (List AV)→List Blk) (hx:b9=List.map enc ys) (a0:(xs.length+ys.length)*B≤140737488355328∧xs.length+ys.length≤4611686018427387904)
  (da:F ((List.map enc (xs++ys)))) (h:evSD P esc ops n (X.drop (i0+bf)) (cY d (.ref b (g+1) 0 (xs++ys).length false) N A) L (H' (List.map enc (xs++ys))) K) (hk: ∀x,(enc x).length=s∧(enc x).all ie=true:=by exact fun _=>⟨rfl,rfl⟩)
  (e: ∀K,evSD P esc ops n ((X.drop i0).take bf) A L H K=(true=true∧true=true∧pa s b9∧0=0∧g=g∧s=s∧(List.map enc xs).length=xs.length∧(xs.length+b9.length)*B≤140737488355328∧xs.length+b9.length≤4611686018427387904∧F ((List.map enc xs++b9))∧K (cY d (.ref b (g+1) 0 (xs.length+b9.length) false) N A) L (H' (List.map enc xs++b9))):=by intro K;kernel_rfl):evSD P esc ops n (X.drop i0) A L H K:=by
 rw[ks X i0 bf,e]
 subst hx
 refine⟨rfl,rfl,zt hk ys,rfl,rfl,rfl,List.length_map ..,by rw[List.length_map];exact a0.1,by rw[List.length_map];exact a0.2,?_,?_⟩
 ·rw[←List.map_append];exact da
 ·rw[List.length_append] at h;rw[List.length_map,←List.map_append];exact h
theorem zF (bf:Nat) (d:Option Nat) (N:List (Nat×AV)) {g:FuncId} (args:List AV) {dK:List AV} {lV:AV} {dp:List Blk} (F:List (Nat×List AV)→List Blk→Prop) (r:AV) (j1:List Blk)
  (hf:dj P g dK [] fun r H'=>r=lV∧H'=dp) (hs:av (ck L H) args dK) (vY:qX dp=true) (tj:H++dp.map (kj H.length)=j1) (da:F L j1)
  (h:evSD P esc ops n (X.drop (i0+bf)) (cY d r N A) L j1 K) (aC:args.all ed=true:=by kernel_rfl) (ax:uz lV=true:=by kernel_rfl) (er:lB H.length lV=r:=by kernel_rfl) (e: ∀K,evSD P esc ops n ((X.drop i0).take bf) A L H K=kq P g args L H (fun v L' H'=>F L' H'∧K (cY d v N A) L' H'):=by intro K;kernel_rfl):evSD P esc ops n (X.drop i0) A L H K:=by
 rw[ks X i0 bf,e]
 subst er;subst tj
 exact .inr (.inl ⟨aC,dK,hs,hf.mono fun eS H1 ⟨h1,h2⟩=>by subst h1;subst h2;exact⟨ax,vY,da,h⟩⟩)
theorem F0 (bf:Nat) (d:Option Nat) (N:List (Nat×AV)) {α:Type} (enc:α→List AV) (xs:List α) (h:evSD P esc ops n (X.drop (i0+bf)) (cY d (.int .i64 (xs.length:Nat)) N A) L H K)
  (e: ∀K,evSD P esc ops n ((X.drop i0).take bf) A L H K=K (cY d (.int .i64 ((List.map enc xs).length:Nat)) N A) L H:=by intro K;kernel_rfl):evSD P esc ops n (X.drop i0) A L H K:=by
 rw[ks X i0 bf,e,List.length_map];exact h
end
end Go.Proofs.Ytglpfccgmfhkdaa.Fw
/- The framework, part OA: a call whose answer has blocks of its own: the blocks get the numbers that its summary tells. -/
set_option linter.unusedVariables false
namespace Go.Proofs.Ytglpfccgmfhkdaa.Fw
open Go
inductive iC (H:List Blk) (fD:Nat) (dg:Nat→Option Nat):AV→AV→Prop where
 | int (k:IntKind) (n:Int):iC H fD dg (.int k n) (.int k n)
 | bool (b:Bool):iC H fD dg (.bool b) (.bool b)
 | str (s:ByteArray):iC H fD dg (.str s) (.str s)
 | fu:iC H fD dg .fu .fu
 | fP:iC H fD dg .fP .fP
 | be (rows:List (List AV)) (full ei fr:Bool) (hw:ei=true→full=true):iC H fD dg (.be rows full fr) (.be rows ei fr)
 | ref {b g n j:Nat} {full:Bool} {blk:Blk} (aP:j<fD) (hs:dg j=some b) (hb:H[b]?=some blk) (aO:blk.bI=g):iC H fD dg (.ref b g 0 n full) (.ref j 0 0 n false)
 | nil {a:AV} {j:Nat} (aP:j<fD) (hs:dg j=none) (h:pU a=true):iC H fD dg a (.ref j 0 0 0 false)
def Gr (H:List Blk) (fD:Nat) (dg:Nat→Option Nat) (a b:AV):Prop:=(∃l eR,a= .agg l∧b= .agg eR∧av (iC H fD dg) l eR)∨iC H fD dg a b
structure ru (H dp:List Blk) (dg:Nat→Option Nat):Prop where
 inj: ∀i j b,i<dp.length→j<dp.length→dg i=some b→dg j=some b→i=j
 bI: ∀(j:Nat) (k:Blk),dp[j]?=some k→k.bI=0
 blk: ∀(j b:Nat) (k:Blk),dp[j]?=some k→dg j=some b→ ∃q,H[b]?=some q∧q.sz=k.sz∧av (av (iC H dp.length dg)) q.rows k.rows
def Env.own (E:Env) (dp:List Blk) (dg:Nat→Option Nat):Env:=
 {w:=E.w,PA:=E.PA,PF:=E.PF,mL:=fun _=>none,bI:=fun _=>0
  m:=fun j=>if j<dp.length then(match dg j with
   | some b=>E.m b
   | none=>some none) else none
  sz:=fun j=>(dp[j]?.map Blk.sz).getD 0
  cp:=fun j=>match dg j with
   | some b=>E.cp b
   | none=>0}
section
variable {E:Env} {H dp:List Blk} {dg:Nat→Option Nat}
theorem K_ {j b:Nat} (aP:j<dp.length) (hs:dg j=some b):(E.own dp dg).m j=E.m b:=by
 show(if j<dp.length then _ else _)=_
 rw[if_pos aP,hs]
theorem VN {j:Nat} (aP:j<dp.length) (hs:dg j=none):(E.own dp dg).m j=some none:=by
 show(if j<dp.length then _ else _)=_
 rw[if_pos aP,hs]
theorem ux {j:Nat} {x:Option Nat} (h:(E.own dp dg).m j=some x):j<dp.length∧((dg j=none∧x=none)∨ ∃b,dg j=some b∧E.m b=some x):=by
 have h:(if j<dp.length then(match dg j with
   | some b=>E.m b
   | none=>some none) else none)=some x:=h
 split at h
 ·rename_i aP
  refine⟨aP,?_⟩
  cases hs:dg j with
  | none=>rw[hs] at h;cases h;exact .inl ⟨rfl,rfl⟩
  | some b=>rw[hs] at h;exact .inr ⟨b,rfl,h⟩
 ·cases h
theorem iC.v1 (aV:SimH E H) (eO:ru H dp dg) {a b:AV} (h:iC H dp.length dg a b) {v:Value} (hv:cG E a v):cG (E.own dp dg) b v:=by
 cases h with
 | int k n=>exact hv
 | bool b=>exact hv
 | str s=>exact hv
 | fu=>exact hv
 | fP=>exact hv
 | be rows full ei fr hw=>
  have hv:bD E.w E.PA E.PF (.be rows full fr) v:=hv
  cases hv with
  | be fV gD gQ cH eP dB=>exact bD.be fV gD (fun h=>gQ (hw h)) cH eP dB
 | @ref b g n j full blk aP hs hb aO=>
  have jL:=aV.eZ b blk hb
  have hk:dp[j]?=some dp[j]:=List.getElem?_eq_getElem aP
  obtain⟨q,aj,cH,_⟩:=eO.blk j b _ hk hs
  rw[hb] at aj
  obtain rfl:=Option.some.inj aj
  rcases(show fa E (.ref b g 0 n full) v from hv) with⟨bg,_⟩ | ⟨fN,bV⟩
  ·omega
  ·refine .inr ⟨rfl,?_⟩
   rcases bV with⟨hm,_,aC,A,hB⟩ | ⟨c,cap,hm,e,h1,h2,aS⟩
   ·exact .inl ⟨by rw[K_ aP hs];exact hm,rfl,aC,A,hB⟩
   ·refine .inr ⟨c,cap,by rw[K_ aP hs];exact hm,by rw[e,Nat.zero_mul,Nat.zero_mul],h1,(fun h=>by cases h),?_⟩
    show 0+cap≤(match dg j with
     | some b=>E.cp b
     | none=>0)
    rw[hs];exact aS
 | nil aP hs h=>exact AR (E:=E) h hv rfl (VN aP hs)
theorem VO (aV:SimH E H) (bT: ∀t,E.mL t=none) (eO:ru H dp dg):SimH (E.own dp dg) dp:=by
 have hC:E.b6=E:=by
  have:E.mL=fun _=>none:=funext bT
  cases E;simp only[Env.b6] at*;subst this;rfl
 have nl: ∀c,(E.own dp dg).gg c→E.gg c:=fun c ⟨j,aP⟩=>by
  obtain⟨_,h | ⟨b,_,h⟩⟩:=ux aP
  ·cases h.2
  ·exact⟨b,h⟩
 exact{
  heap:=fun j c hm=>by
   obtain⟨aP,h | ⟨b,hs,hb⟩⟩:=ux hm
   ·cases h.2
   ·have hk:dp[j]?=some dp[j]:=List.getElem?_eq_getElem aP
    obtain⟨q,aj,cH,aJ⟩:=eO.blk j b _ hk hs
    obtain⟨blk,ba,ty,q1,dX,q2,q3,q4,cx,cT⟩:=aV.heap b c hb
    rw[aj] at q1
    obtain rfl:=Option.some.inj q1
    have bF:(E.own dp dg).sz j=E.sz b:=by
     show(dp[j]?.map Blk.sz).getD 0=_
     rw[hk,dX,cH];rfl
    have e2:(E.own dp dg).cp j=E.cp b:=by
     show(match dg j with
      | some b=>E.cp b
      | none=>0)=_
     rw[hs]
    refine⟨_,ba,ty,hk,by rw[bF,dX,cH],q2,by rw[bF,e2];exact q3,by rw[e2,←aJ.1];exact q4,fun i row ek=> ?_,fun i l row a ek a6=> ?_⟩
    ·have bg:=(List.getElem?_eq_some_iff.1 ek).1
     have h1:q.rows[i]?=some (q.rows[i]'(by rw[aJ.1];exact bg)):=List.getElem?_eq_getElem _
     rw[bF,←(aJ.2 i _ row h1 ek).1];exact cx i _ h1
    ·have bg:=(List.getElem?_eq_some_iff.1 ek).1
     have h1:q.rows[i]?=some (q.rows[i]'(by rw[aJ.1];exact bg)):=List.getElem?_eq_getElem _
     have aF:=aJ.2 i _ row h1 ek
     have Sl:=(List.getElem?_eq_some_iff.1 a6).1
     have h2:=List.getElem?_eq_getElem (l:=q.rows[i]'(by rw[aJ.1];exact bg)) (i:=l) (by rw[aF.1];exact Sl)
     obtain⟨u,hu,hv⟩:=cT i l _ _ h1 h2
     rw[hC] at hv
     exact⟨u,by rw[bF];exact hu,(aF.2 l _ a h2 a6).v1 aV eO hv⟩
  eZ:=fun j k hk=>(eO.bI j k hk).symm
  hE:=fun j hm=>by
   obtain⟨aP,_⟩:=ux hm
   have hk:dp[j]?=some dp[j]:=List.getElem?_eq_getElem aP
   exact⟨_,hk,by show(dp[j]?.map Blk.sz).getD 0=_;rw[hk];rfl⟩
  fresh:=fun j aP=>⟨by show(if j<dp.length then _ else _)=_;rw[if_neg (by omega)],rfl⟩
  iq:=fun i j c h1 h2=>by
   obtain⟨hi,h | ⟨b,hs,hb⟩⟩:=ux h1
   ·cases h.2
   ·obtain⟨aP,h | ⟨ca,k7,dA⟩⟩:=ux h2
    ·cases h.2
    ·have:=aV.iq b ca c hb dA
     subst this
     exact eO.inj i j b hi aP hs k7
  iH:=fun t iO c h=>by cases h
  g2:=fun b t c _ h=>by cases h
  h7:=fun c hc h=>aV.h7 c hc (nl c h)
  h8:=fun c hc ⟨t,h⟩=>by cases h
  ep:=aV.ep
  eG:=aV.eG
  gF:=fun c h=>aV.gF c (nl c h)
  gu:=fun c ⟨t,h⟩=>by cases h}
end
theorem dj.toOwn {P:Program} {f:FuncId} {args:List AV} {lV:AV} {dp:List Blk} (h:dj P f args [] fun r H=> ∃dg,ru H dp dg∧Gr H dp.length dg r lV):dj P f args [] fun r H=>r=lV∧H=dp:=by
 refine⟨h.1,fun E vs aC hs a6=>(h.2 E vs aC hs a6).mono ?_⟩
 rintro e w' ⟨r,v,H',E',rfl,⟨dg,eO,vH⟩,rfl,Sp,k7,hv,bd⟩
 refine⟨lV,v,dp,E'.own dp dg,rfl,⟨rfl,rfl⟩,rfl,fun _=>rfl,VO k7 Sp eO,?_,?_⟩
 ·rcases vH with⟨l,eR,rfl,rfl,aF⟩ | vH
  ·obtain⟨jz,rfl,aj⟩:=(show ∃jz:List Value,v= .agg jz.toArray∧av (cG E') l jz from hv)
   refine⟨jz,rfl,aF.1▸aj.1,fun i a u a6 hu=> ?_⟩
   have bg:i<l.length:=by rw[aF.1];exact(List.getElem?_eq_some_iff.1 a6).1
   have h1:=List.getElem?_eq_getElem bg
   exact(aF.2 i _ a h1 a6).v1 k7 eO (aj.2 i _ u h1 hu)
  ·have lr:cG E' r v:=by
    rw[nF,om] at hv
    ·exact hv
    ·rintro l rfl;cases vH with
     | nil aP hs hx=>exact absurd hx Bool.false_ne_true
    ·rintro l rfl;cases vH with
     | nil aP hs hx=>exact absurd hx Bool.false_ne_true
   exact oq (oo (vH.v1 k7 eO lr))
 ·have nl: ∀c,(E'.own dp dg).gg c→E'.gg c:=fun c ⟨j,aP⟩=>by
   obtain⟨_,h | ⟨b,_,h⟩⟩:=ux aP
   ·cases h.2
   ·exact⟨b,h⟩
  exact{
   le:=⟨bd.le.fE,bd.le.fF,bd.le.sY,bd.le.wf,fun b=>by rw[(hs.fresh b (Nat.zero_le _)).2];exact Nat.zero_le _,(fun b x hm _=>by rw[(hs.fresh b (Nat.zero_le _)).1] at hm;cases hm),(fun t c hm=>by rw[aC t] at hm;cases hm)⟩
   os:=bd.os,tape:=bd.tape,output:=bd.output,size:=bd.size,ey:=bd.ey
   hO:=fun c hc=>bd.hO c (nl c hc)
   j9:=fun c ⟨t,h⟩=>by cases h
   fE:=bd.fE,fF:=bd.fF}
theorem ru.nil {H:List Blk} {dg:Nat→Option Nat}:ru H [] dg:=⟨fun i j b h=>by simp at h,fun j k h=>by simp at h,fun j b k h=>by simp at h⟩
def nz (l:List (Option Nat)) (j:Nat):Option Nat:=(l[j]?).getD none
def z0 (H:List Blk) (fD:Nat) (dg:Nat→Option Nat) (k:Blk):Option Nat→Prop
 | none=>True
 | some b=> ∃q,H[b]?=some q∧q.sz=k.sz∧av (av (iC H fD dg)) q.rows k.rows
def vd (H:List Blk) (fD:Nat) (dg:Nat→Option Nat):List (Option Nat)→List Blk→Prop
 | [],[]=>True
 | o::l,k::dp=>k.bI=0∧z0 H fD dg k o∧vd H fD dg l dp
 | _,_=>False
theorem vd.get {H:List Blk} {fD:Nat} {dg:Nat→Option Nat}: ∀{l:List (Option Nat)} {dp:List Blk},vd H fD dg l dp→ ∀(j:Nat) (k:Blk),dp[j]?=some k→ ∃o,l[j]?=some o∧k.bI=0∧z0 H fD dg k o
 | [],[],_,j,k,h=>by simp at h
 | o::l,q::dp,a6,0,k,h=>by simp at h;subst h;exact⟨o,rfl,a6.1,a6.2.1⟩
 | o::l,q::dp,a6,j+1,k,h=>by
  obtain⟨x,hx,h2⟩:=vd.get a6.2.2 j k (by simpa using h)
  exact⟨x,by simpa using hx,h2⟩
theorem o0 {H dp:List Blk} (l:List (Option Nat)) (aI:l.length=dp.length) (bp:(l.filterMap id).Nodup) (h:vd H dp.length (nz l) l dp):ru H dp (nz l) where
 inj:=fun i j b hi aP h1 h2=>by
  have fz:i<l.length:=by omega
  have nZ:j<l.length:=by omega
  have bF:l[i]=some b:=by have:(l[i]?).getD none=some b:=h1;rwa [List.getElem?_eq_getElem fz] at this
  have e2:l[j]=some b:=by have:(l[j]?).getD none=some b:=h2;rwa [List.getElem?_eq_getElem nZ] at this
  rcases Nat.lt_trichotomy i j with bg | rfl | BE
  ·exfalso
   have aF:=List.pairwise_filterMap.1 bp
   exact(List.pairwise_iff_getElem.1 aF i j fz nZ bg) b (by simpa using bF) b (by simpa using e2) rfl
  ·rfl
  ·exfalso
   have aF:=List.pairwise_filterMap.1 bp
   exact(List.pairwise_iff_getElem.1 aF j i nZ fz BE) b (by simpa using e2) b (by simpa using bF) rfl
 bI:=fun j k hk=>by obtain⟨o,_,h1,_⟩:=h.get j k hk;exact h1
 blk:=fun j b k hk hs=>by
  obtain⟨o,ax,_,h2⟩:=h.get j k hk
  have:o=some b:=by have hs:(l[j]?).getD none=some b:=hs;rw[ax] at hs;exact hs
  subst this
  exact h2
theorem pb {H:List Blk} {fD:Nat} {dg:Nat→Option Nat} {α:Type} {enc:α→List AV} {b g sz:Nat} {xs ys:List α} (hb:H[b]?=some ⟨g,sz,List.map enc xs⟩) (hc: ∀x,av (iC H fD dg) (enc x) (enc x)) (e:xs=ys):
  z0 H fD dg ⟨0,sz,List.map enc ys⟩ (some b):=by
 subst e
 refine⟨_,hb,rfl,rfl,fun i r zl h1 h2=> ?_⟩
 rw[List.getElem?_map] at h1 h2
 cases hx:xs[i]? with
 | none=>rw[hx] at h1;cases h1
 | some x=>rw[hx] at h1 h2;cases h1;cases h2;exact hc x
section
variable {H:List Blk} {fD:Nat} {dg:Nat→Option Nat}
theorem ww (b:Bool):av (iC H fD dg) (aH b) (aH b):= .cons (.bool _) .nil
theorem K1 (x:ch):av (iC H fD dg) (cD x) (cD x):= .cons (.int _ _) (.cons (.int _ _) .nil)
theorem DO (x:aN):av (iC H fD dg) (a1 x) (a1 x):= .cons (.int _ _) (.cons (.int _ _) .nil)
theorem DR {k:IntKind} {a b:Int} (h:a=b):iC H fD dg (.int k a) (.int k b):=h▸ .int k a
theorem VL {a b:Bool} (h:a=b):iC H fD dg (.bool a) (.bool b):=h▸ .bool a
theorem sr {b g n m j sz:Nat} {full:Bool} {rows:List (List AV)} (aP:j<fD) (hs:dg j=some b) (hb:H[b]?=some ⟨g,sz,rows⟩) (aC:n=m):iC H fD dg (.ref b g 0 n full) (.ref j 0 0 m false):=aC▸ .ref aP hs hb rfl
theorem DS {a:AV} {j m:Nat} (aP:j<fD) (hs:dg j=none) (h:pU a=true) (hm:0=m):iC H fD dg a (.ref j 0 0 m false):=hm▸ .nil aP hs h
end
theorem oZ {α:Type} {enc:α→List AV} {g sz:Nat} {xs:List α} {H:List Blk} (h1: ∀x,(enc x).all od=true) (h2:qX H=true):qX (⟨g,sz,List.map enc xs⟩::H)=true:=by
 show(((List.map enc xs).all fun row=>row.all od)&&H.all fun b=>b.rows.all fun row=>row.all od)=true
 rw[Bool.and_eq_true]
 refine⟨?_,h2⟩
 rw[List.all_eq_true]
 intro row aJ
 obtain⟨x,_,rfl⟩:=List.mem_map.1 aJ
 exact h1 x
theorem pe {α:Type} {enc:α→List AV} {k g sz:Nat} {xs:List α} {H H':List Blk} (h1: ∀x,(enc x).map (hV k)=enc x) (h2:H.map (kj k)=H'):(Blk.mk g sz (List.map enc xs)::H).map (kj k)=⟨g,sz,List.map enc xs⟩::H':=by
 subst h2
 show(⟨g,sz,(List.map enc xs).map fun row=>row.map (hV k)⟩:Blk)::_=_
 rw[List.map_map]
 congr 2
 exact List.map_congr_left fun x _=>h1 x
theorem pf {k:Nat} {H dp H1 j1:List Blk} (h:dp.map (kj k)=H1) (e:H++H1=j1):H++dp.map (kj k)=j1:=by rw[h,e]
end Go.Proofs.Ytglpfccgmfhkdaa.Fw
/- What is handed to a law, opened: nested structs and slices are told by plain values; the law's call, told of the whole world. -/
set_option linter.unusedVariables false
namespace Go.Proofs.Ytglpfccgmfhkdaa.Fw
open Go
def Env.at (W:World):Env:={w:=W,PA:=fun c=>c<W.heap.size,PF:=fun _=>False,m:=fun _=>none,bI:=fun _=>0,sz:=fun _=>0,cp:=fun _=>0,mL:=fun _=>none}
theorem OO (W:World):SimH (Env.at W) [] where
 heap:=fun b c hb=>by cases hb
 eZ:=fun b blk hb=>by simp at hb
 hE:=fun b hb=>by cases hb
 fresh:=fun b _=>⟨rfl,rfl⟩
 iq:=fun b ca c hb=>by cases hb
 iH:=fun t iO c hb=>by cases hb
 g2:=fun b t c hb=>by cases hb
 h7:=fun c _ ⟨b,hb⟩=>by cases hb
 h8:=fun c _ ⟨b,hb⟩=>by cases hb
 ep:=fun c hc=>hc.elim
 eG:=fun c hc=>hc
 gF:=fun c ⟨b,hb⟩=>by cases hb
 gu:=fun c ⟨b,hb⟩=>by cases hb
theorem UH {P:Program} {f:FuncId} {dd:List AV} {W:World} {vs:List Value} (h:b3 P f dd (.bool true)) (a6:av (V2 (Env.at W)) dd vs):
  Calls P f vs.toArray W fun e Gt=>e= .returned (.bool true)∧RowKit.Below W.heap.size W Gt:=by
 refine(h.2 (Env.at W) vs (fun _=>rfl) (OO W) a6).mono ?_
 rintro e w' ⟨r,v,H',E',rfl,aJ,rfl,aC,hs,hv,bd⟩
 have hb:r= .bool true:=by
  rcases aJ with⟨l,eR,_,e,_⟩ | ⟨l,eR,_,e,_⟩ | aJ
  ·cases e
  ·cases e
  ·cases aJ;rfl
 subst hb
 refine⟨by rw[V3.pt hv],bd.os,bd.tape,bd.output,bd.size,fun k hk=>bd.ey k hk (fun⟨b,hb⟩=>by cases hb) (fun⟨b,hb⟩=>by cases hb)⟩
def zZ (W:World):AV→Value→Prop:=bD W (fun c=>c<W.heap.size) (fun _=>False)
def xg (P:Program) (W:World) (t:TypeId) {α:Type} (enc:α→List AV):Prop:=
 ∀{H:Type} (rI:TypeId×Value→H) (ma:Nat) (ba:List Value) (x:DataW H×List MemPlace),DataW.trod rI P W 0 (fun _=>true) true ma t ba=some x→(∀n∈x.1.weights P t,n≤reachBytes)→ ∃y:α,av (zZ W) (enc y) ba
section
variable {P:Program} {W:World}
theorem VK {t:TypeId} (hu:P.underlying t=some (.int .u8)):xg P W t jg:=fun rI ma ba x h _=>by
 obtain⟨n,rfl,_,hw⟩:=DataW.trod_int hu h
 unfold Lit.wf at hw
 rw[Bool.and_eq_true] at hw
 have a0:(0:Int)≤n:=of_decide_eq_true hw.1
 have h1:n≤255:=of_decide_eq_true hw.2
 have e:(((UInt8.ofNat n.toNat).toNat:Nat):Int)=n:=by rw[UInt8.toNat_ofNat'];omega
 exact⟨UInt8.ofNat n.toNat,by unfold jg;rw[e];exact .cons (.int _ _) .nil⟩
theorem Vf {α:Type} (n:Nat) (φ:Nat→α→Prop) (h: ∀i,i<n→ ∃y,φ i y): ∃ys:List α,ys.length=n∧ ∀(i:Nat) (y:α),ys[i]?=some y→φ i y:=by
 induction n with
 | zero=>exact⟨[],rfl,fun i y h=>by simp at h⟩
 | succ n bO=>
  obtain⟨ys,aI,bA⟩:=bO fun i hi=>h i (by omega)
  obtain⟨z,aQ⟩:=h n (by omega)
  refine⟨ys++[z],by simp[aI],fun i y hi=> ?_⟩
  rcases Nat.lt_or_ge i n with bg | fN
  ·rw[List.getElem?_append_left (by omega)] at hi
   exact bA i y hi
  ·rw[List.getElem?_append_right (by omega)] at hi
   rcases Nat.eq_or_lt_of_le fN with rfl | BE
   ·rw[aI,Nat.sub_self] at hi
    cases hi;exact aQ
   ·rw[List.getElem?_eq_none (by simp;omega)] at hi
    cases hi
theorem KI {α β:Type} {f:α→Option β}: ∀{l:List α} {r:List β},l.mapM f=some r→r.length=l.length∧ ∀(i:Nat) (a:α),l[i]?=some a→f a=r[i]?
 | [],r,h=>by simp at h;subst h;exact⟨rfl,fun i a h=>by simp at h⟩
 | x::l,r,h=>by
  rw[List.mapM_cons] at h
  simp only[bind,Option.bind_eq_some_iff,pure,Option.some.injEq] at h
  obtain⟨b,hb,zl,aJ,rfl⟩:=h
  obtain⟨h1,h2⟩:=KI aJ
  refine⟨by simp[h1],fun i a a6=> ?_⟩
  cases i with
  | zero=>simp at a6;subst a6;simpa using hb
  | succ i=>exact h2 i a (by simpa using a6)
theorem Pu {a:Addr} {n:Nat} {l:List Value} (h:W.cells? 0 a n=some l):l.length=n∧ ∀j,j<n→W.cell? (a.add j)=l[j]?:=by
 unfold World.cells? at h
 rw[if_pos (Nat.zero_le _)] at h
 obtain⟨aI,aO⟩:=KI h
 rw[List.length_range] at aI
 exact⟨aI,fun j aP=>aO j j (List.getElem?_range aP)⟩
theorem YM {a:Addr} {v:Value} (h:W.cell? a=some v):a.spot=none∧a.block<W.heap.size:=by
 unfold World.cell? at h
 split at h
 ·rename_i c _ _ hb
  split at h
  ·cases h
  ·rename_i hs
   refine⟨by cases aj:a.spot<;>simp_all,?_⟩
   rcases Nat.lt_or_ge a.block W.heap.size with h1 | h1
   ·exact h1
   ·rw[Array.getElem?_eq_none h1] at hb;cases hb
 ·cases h
theorem add_add (c o x y:Nat):((⟨c,o,none⟩:Addr).add x).add y=⟨c,o+(x+y),none⟩:=by
 rw[mE,mE,Nat.add_assoc]
theorem VJ {t e:TypeId} {α:Type} {enc:α→List AV} (hu:P.underlying t=some (.slice e)) (hb:1≤P.bytesOf e) (aQ:1≤P.cellsOf e) (hc: ∀x,(enc x).length=P.cellsOf e) (h:xg P W e enc):xg P W t (eX enc false):=by
 intro H rI ma ba x bu hw
 rcases DataW.trod_slice hu bu with⟨rfl,rfl⟩ | ⟨a,len,cap,tl,rest,n,_,rfl,rfl,_,aI,_,hlen,rY,_,_⟩
 ·refine⟨[],.cons ?_ .nil⟩
  exact bD.be (rows:=[]) (PB:=fun _=>False) (sz:=0) (vs:=fun _ _=>undef) (fun _ h=>h.elim) ⟨Nat.le_refl _,Nat.zero_le _⟩ (fun h=>by cases h) (fun i row h=>by simp at h) (fun h=>by simp at h) (fun i j row a h=>by simp at h)
 ·have oO:(tl.length+rest.length)*P.bytesOf e≤reachBytes:=by
   have:=hw ((tl.length+rest.length)*P.bytesOf e) (by simp[DataW.weights,hu])
   simpa using this
  have hA:len≤4611686018427387904:=by
   have h1:tl.length+rest.length≤(tl.length+rest.length)*P.bytesOf e:=Nat.le_mul_of_pos_right _ hb
   have h2:=reachBytes_lt
   have aS:(2:Nat) ^ 47=140737488355328:=rfl
   omega
  have dZ: ∀(l:List (DataW H)) (d:DataW H),d∈l→ ∀m∈d.weights P e,m∈DataW.weightsAll P e l:=by
   intro l
   induction l with
   | nil=>intro d bp;cases bp
   | cons q l bO=>
    intro d bp m hm
    simp only[DataW.weightsAll,List.mem_append]
    rcases List.mem_cons.1 bp with rfl | bp
    ·exact .inl hm
    ·exact .inr (bO d bp m hm)
  obtain⟨ys,yG,bA⟩:=Vf len (fun i y=> ∃l,W.cells? 0 (a.add (i*P.cellsOf e)) (P.cellsOf e)=some l∧av (zZ W) (enc y) l) fun i hi=>by
   have h1:=rY i hi
   have h2:tl[i]?=some (tl[i]'(by omega)):=List.getElem?_eq_getElem _
   rw[h2,Option.bind_eq_some_iff] at h1
   obtain⟨l,RY,SW⟩:=h1
   obtain⟨y,bA⟩:=h rI n l _ SW fun m hm=>hw m (by
    simp only[DataW.weights,hu,List.mem_cons,List.mem_append]
    exact .inr (.inl (dZ _ _ (List.mem_map.2 ⟨_,List.getElem_mem (by omega),rfl⟩) m hm)))
   exact⟨y,l,RY,bA⟩
  have gR: ∀i j,i<len→j<P.cellsOf e→ ∃l v,W.cells? 0 (a.add (i*P.cellsOf e)) (P.cellsOf e)=some l∧l[j]?=some v∧W.cell? ((a.add (i*P.cellsOf e)).add j)=some v:=fun i j hi aP=>by
   obtain⟨l,me,_⟩:=bA i _ (List.getElem?_eq_getElem (by omega))
   obtain⟨q1,q2⟩:=Pu me
   exact⟨l,l[j]'(by omega),me,List.getElem?_eq_getElem _,by rw[q2 j aP];exact List.getElem?_eq_getElem _⟩
  let vs:Nat→Nat→Value:=fun i j=>(((W.cells? 0 (a.add (i*P.cellsOf e)) (P.cellsOf e)).getD [])[j]?).getD undef
  refine⟨ys,.cons ?_ .nil⟩
  have key:=bD.be (w:=W) (PA:=fun c=>c<W.heap.size) (PF:=fun _=>False) (PB:=fun c=>c<W.heap.size) (rows:=List.map enc ys) (full:=false) (fresh:=false) (A:=some a) (cap:=cap) (sz:=P.cellsOf e) (vs:=vs)
   (fun c hc=>by simpa using hc) (by rw[List.length_map,yG];exact⟨aI,hA⟩) (fun h=>by cases h)
   (fun i row aJ=>by
    rw[List.getElem?_map] at aJ
    cases aj:ys[i]? with
    | none=>rw[aj] at aJ;cases aJ
    | some y=>rw[aj] at aJ;cases aJ;exact hc y)
   (fun ky=>by
    rw[List.length_map,yG] at ky
    obtain⟨l,v,_,_,hv⟩:=gR 0 0 ky aQ
    rw[Nat.zero_mul] at hv
    have a0:(a.add 0).add 0=a:=by simp[Addr.add]
    rw[a0] at hv
    obtain⟨hs,bg⟩:=YM hv
    obtain⟨c,o,s⟩:=a
    have hs:s=none:=hs
    subst hs
    refine⟨c,o,rfl,bg,fun i j hi aP=> ?_⟩
    rw[List.length_map,yG] at hi
    obtain⟨l,v,q1,q2,q3⟩:=gR i j hi aP
    rw[add_add] at q3
    rw[q3]
    show some v=some ((((W.cells? 0 _ _).getD [])[j]?).getD undef)
    rw[q1]
    show some v=some ((l[j]?).getD undef)
    rw[q2];rfl)
   (fun i j row b aJ aP=>by
    rw[List.getElem?_map] at aJ
    cases aj:ys[i]? with
    | none=>rw[aj] at aJ;cases aJ
    | some y=>
     rw[aj] at aJ;cases aJ
     obtain⟨l,me,aF⟩:=bA i y aj
     obtain⟨v,hv,mV⟩:=aF.get aP
     show bD W _ _ b ((((W.cells? 0 _ _).getD [])[j]?).getD undef)
     rw[me]
     show bD W _ _ b ((l[j]?).getD undef)
     rw[hv];exact mV)
  rw[List.length_map,yG] at key
  exact key
theorem xD {ba:List Value} (h:ba.length=2): ∃a b,ba=[a,b]:=by
 match ba,h with
 | [a,b],_=>exact⟨a,b,rfl⟩
theorem OL {t:TypeId} {α:Type} {enc:α→List AV} {f:α→AV} (h:xg P W t enc) (he: ∀y,enc y=[f y]) {H:Type} {rI:TypeId×Value→H} {v:Value} {d:DataW H} {ps:List MemPlace} (bu:DataW.Trod rI P W 0 (fun _=>true) true t v d ps)
  (hw: ∀n∈d.weights P t,n≤reachBytes) (hv:v.cells= #[v]): ∃y,V2 (Env.at W) (f y) v:=by
 obtain⟨ma,hf⟩:=bu
 rw[hv] at hf
 obtain⟨y,aF⟩:=h rI ma _ _ hf hw
 rw[he] at aF
 have aJ:zZ W (f y) v:=aF.head
 exact⟨y,oo (bD.v1 (E:=Env.at W) aJ)⟩
end
def Ke (P:Program) (fn:Func) (c:OpenClaim):Bool:=c.kinds==(if c.domain.isEmpty then[] else fn.params.toList.map fun t=>match P.underlying t with | some (.int k)=>some k | _=>none)
theorem UB {P:Program} {f:FuncId} {fn:Func} {s:ChangeSpec} {c:OpenClaim} (a0:(c.wf (OpenSpec.ofChange s))=true) (h1:laidOutB P=true) (h2:mapsRowed P=true) (aS:fn.params.all (P.readableRec ·)=true) (bt:namedTie P c.named s.vars=true) (cb:(c.stops==[])=true) (cE:(P.stops==[])=true) (gp:(c.knobs==[])=true) (pB:(P.stopKnobs==[])=true) (rP:(c.inPlace==P.inPlace f)=true) (vD:(c.unfollowed==P.unfollowed f)=true) (Ri:(c.recurses==P.recurses f)=true) (mN:(c.named==P.varsNamed f)=true) (Rj:(c.maps==(fn.params.toList++s.plain.varTypes P).any (P.mapsRec ·))=true) (Rk:(c.ifaces==(fn.params.toList++s.plain.varTypes P).any (P.ifacesRec ·))=true) (Rl:(c.mapsOut==P.mapsAmong fn.resultTypes.toList)=true) (Rm:(c.loops==(fn.params.toList++s.plain.varTypes P).any (P.loopsFrom ·))=true) (Rn:(c.wideKeys==(fn.params.toList++s.plain.varTypes P++fn.resultTypes.toList).any (P.wideKeysFrom ·))=true) (Ro:s.vars.all (P.varReadable ·)=true) (Rp:fn.resultTypes.all (fun t=>P.readableRec t&&decide (t<P.types.size))=true) (Rq:(c.ifacesOut==fn.resultTypes.toList.any (P.ifacesRec ·))=true) (Rr:(c.loopsOut==fn.resultTypes.toList.any (P.loopsFrom ·))=true) (Rs:(c.plainKeys==P.plainKeys)=true) (Rt:c.shortTexts.isNone=true) (Ru:P.stopsHeard=true) (Rv:P.mayEnter=true) (Rw:(c.lifted==P.liftsFinal)=true) (Rx:(P.make==some c.make)=true) (Ry:Ke P fn c=true) (Rz:(c.pinned==c.pinnedBy)=true) (nf:(c.veiled==(fn.params.toList++s.plain.varTypes P++fn.resultTypes.toList).any (P.veiledRec ·))=true) (RA:c.veiledFits P fn.params.toList (fn.params.toList++s.plain.varTypes P++fn.resultTypes.toList)=true):joinedFacts P f fn s c=true:=by
 unfold joinedFacts
 simp only[Bool.and_eq_true]
 exact⟨⟨⟨⟨⟨⟨⟨⟨⟨⟨⟨⟨⟨⟨⟨⟨⟨⟨⟨⟨⟨⟨⟨⟨⟨⟨⟨⟨⟨⟨⟨a0,h1⟩,h2⟩,aS⟩,bt⟩,cb⟩,cE⟩,gp⟩,pB⟩,rP⟩,vD⟩,Ri⟩,mN⟩,Rj⟩,Rk⟩,Rl⟩,Rm⟩,Rn⟩,Ro⟩,Rp⟩,Rq⟩,Rr⟩,Rs⟩,Rt⟩,Ru⟩,Rv⟩,Rw⟩,Rx⟩,Ry⟩,Rz⟩,nf⟩,RA⟩
end Go.Proofs.Ytglpfccgmfhkdaa.Fw
/- The framework, part Fam: the ways of a frame lie in one block; for each of them, in which of its sections a train has been, in a block of its own (printed by tools/fwfam.py). -/
set_option linter.unusedVariables false
namespace Go.Proofs.Ytglpfccgmfhkdaa.Fw
open Go
theorem VE {α:Type} [Inhabited α] {xs:List α} {i:Int} (h:i.toNat<xs.length):nth xs i=xs[i.toNat]:=by
 have:=gv h
 rw[List.getElem?_eq_getElem h] at this
 exact(Option.some.inj this).symm
def bc (b:List Bool):Blk:=⟨0,1,List.map aH b⟩
def jj (s:Nat) (h:aa) (id:Nat):List AV:=[.int .i64 h.state,.int .i64 h.gone,.ref (id+s) 0 0 h.been.length false,.bool h.shown,.int .i64 h.timer]
def aT (s:Nat) (ws:List aa) (ids:List Nat):List (List AV):=List.zipWith (jj s) ws ids
def view (ws:List aa) (ids:List Nat) (bs:List (List Bool)):List aa:=List.zipWith (fun h id=>{h with been:=bs.getD id []}) ws ids
structure iQ (ws:List aa) (ids:List Nat) (bs:List (List Bool)):Prop where
 len:ws.length=ids.length
 lt: ∀(i id:Nat),ids[i]?=some id→id<bs.length
 been: ∀(i id:Nat) (h:aa),ws[i]?=some h→ids[i]?=some id→h.been.length=(bs.getD id []).length
theorem dq {s:Nat} {ws:List aa} {ids:List Nat} {i:Int} (aI:ws.length=ids.length) (hi:i.toNat<ws.length):(aT s ws ids)[i.toNat]?=some (jj s (nth ws i) (nth ids i)):=by
 unfold aT
 rw[List.getElem?_zipWith,gv hi,gv (by omega)]
theorem tC {s:Nat} {ws:List aa} {ids:List Nat} (aI:ws.length=ids.length):(aT s ws ids).length=ws.length:=by
 unfold aT;rw[List.length_zipWith];omega
theorem tD {s:Nat} {ws:List aa} {ids:List Nat} {i:Nat} {h:aa} {id:Nat} (aI:ws.length=ids.length):(aT s ws ids).set i (jj s h id)=aT s (ws.set i h) (ids.set i id):=by
 apply List.ext_getElem?
 intro j
 unfold aT
 rw[List.getElem?_set,List.getElem?_zipWith,List.getElem?_zipWith,List.getElem?_set,List.getElem?_set]
 by_cases nh:i=j
 ·subst nh
  simp only[if_true,List.length_zipWith]
  by_cases hi:i<ws.length
  ·rw[if_pos (by omega),if_pos hi,if_pos (by omega)]
  ·rw[if_neg (by omega),if_neg hi]
 ·simp only[if_neg nh]
theorem jk {s:Nat} {ws:List aa} {ids:List Nat} {i:Int} {h:aa} (aI:ws.length=ids.length) (hi:i.toNat<ws.length):(aT s ws ids).set i.toNat (jj s h (nth ids i))=aT s (ws.set i.toNat h) ids:=by
 rw[tD aI]
 congr 1
 rw[VE (by omega)]
 exact List.set_getElem_self _
theorem Bp {s:Nat} {ws:List aa} {ids:List Nat} {h:aa} {id:Nat} (aI:ws.length=ids.length):aT s ws ids++[jj s h id]=aT s (ws++[h]) (ids++[id]):=by
 unfold aT
 rw[List.zipWith_append aI];rfl
theorem qx {bs:List (List Bool)} {id:Nat} (h:id<bs.length):(List.map bc bs)[id]?=some (bc (bs.getD id [])):=by
 rw[List.getElem?_map,List.getElem?_eq_getElem h,List.getD_eq_getElem?_getD,List.getElem?_eq_getElem h];rfl
theorem A8 {bs:List (List Bool)} {id:Nat} {b:List Bool}:(List.map bc bs).set id (bc b)=List.map bc (bs.set id b):=by rw[List.map_set]
theorem vt {b:List Bool} {i:Int} (h:i.toNat<b.length):(List.map aH b)[i.toNat]?=some (aH (nth b i)):=by rw[List.getElem?_map,gv h];rfl
theorem Ac {b:List Bool} {i:Nat} {x:Bool}:(List.map aH b).set i (aH x)=List.map aH (b.set i x):=by rw[List.map_set]
theorem ii {ws:List aa} {ids:List Nat} {bs:List (List Bool)} (h:iQ ws ids bs):(view ws ids bs).length=ws.length:=by
 unfold view;rw[List.length_zipWith];have:=h.len;omega
theorem u7 {ws:List aa} {ids:List Nat} {bs:List (List Bool)} {i:Nat} {h:aa} {id:Nat} (h1:ws[i]?=some h) (h2:ids[i]?=some id):(view ws ids bs)[i]?=some {h with been:=bs.getD id []}:=by
 unfold view;rw[List.getElem?_zipWith,h1,h2]
theorem sE {s:Nat} {ws:List aa} {ids:List Nat} {i:Nat} {row:List AV} (h:(aT s ws ids)[i]?=some row): ∃x id,ws[i]?=some x∧ids[i]?=some id∧row=jj s x id:=by
 unfold aT at h
 rw[List.getElem?_zipWith] at h
 cases hx:ws[i]? with
 | none=>rw[hx] at h;cases h
 | some x=>
  cases bp:ids[i]? with
  | none=>rw[hx,bp] at h;cases h
  | some id=>rw[hx,bp] at h;cases h;exact⟨x,id,rfl,rfl,rfl⟩
theorem rf {L:List (Nat×List AV)} {H:List Blk} {b s n:Nat} {full:Bool} {ws:List aa} {ids:List Nat} {bs:List (List Bool)} (aC:n=ws.length) (hb:H[b]?=some ⟨0,5,aT s ws ids⟩)
  (hf: ∀(id:Nat) (k:Blk),(List.map bc bs)[id]?=some k→H[id+s]?=some k) (ok:iQ ws ids bs) (hA:ws.length≤4611686018427387904) (yc: ∀x∈bs,x.length≤4611686018427387904):
  fo L H (.ref b 0 0 n full) (.be (List.map (cd false) (view ws ids bs)) false false):=by
 subst aC
 refine fo.ref (fun h=>by cases h) hb rfl (by rw[List.length_map,ii ok]) hA (by rw[Nat.zero_add,tC ok.len];exact Nat.le_refl _) (fun i row row' h1 h2=> ?_) (fun i j row row' a c h1 h2 aS bt=> ?_)
 ·rw[Nat.zero_add] at h1
  obtain⟨x,id,hx,bp,rfl⟩:=sE h1
  rw[List.getElem?_map,u7 hx bp] at h2
  cases h2;rfl
 ·rw[Nat.zero_add] at h1
  obtain⟨x,id,hx,bp,rfl⟩:=sE h1
  rw[List.getElem?_map,u7 hx bp] at h2
  cases h2
  have bg:=ok.lt i id bp
  have key:mA L H (jj s x id) (cd false {x with been:=bs.getD id []}):=by
   refine .cons (.int _ _) (.cons (.int _ _) (.cons ?_ (.cons (.bool _) (.cons (.int _ _) .nil))))
   have hm:bs.getD id []∈bs:=by rw[List.getD_eq_getElem?_getD,List.getElem?_eq_getElem bg];exact List.getElem_mem bg
   exact kJ (eT:=aH) (eF:=aH) (sz:=1) (ok.been i id x hx bp) (hf id _ (qx bg)) qL (yc _ hm)
  exact key.2 j a c aS bt
theorem wZ {H:List Blk} {b g s n:Nat} {full:Bool} {ws ys:List aa} {ids:List Nat} {bs:List (List Bool)} (aC:n=ws.length) (hb:H[b]?=some ⟨g,5,aT s ws ids⟩)
  (hf: ∀(id:Nat) (k:Blk),(List.map bc bs)[id]?=some k→H[id+s]?=some k) (h:iQ ws ids bs∧ws.length≤4611686018427387904∧(∀x∈bs,x.length≤4611686018427387904)∧view ws ids bs=ys):
  fp H (.ref b g 0 n full) (.be (List.map (cd false) ys) false true):=by
 obtain⟨ok,hA,yc,rfl⟩:=h
 subst aC
 refine fp.ref (fun h=>by cases h) (fun i j=>(((view ws ids bs)[i]?).bind fun x=>(cd true x)[j]?).getD .undef) hb rfl (by rw[List.length_map,ii ok]) hA (by rw[Nat.zero_add,tC ok.len];exact Nat.le_refl _) (fun i row row' h1 h2=> ?_) (fun i j row a hi h1 h2=> ?_) (fun i j row' c h1 h2=> ?_)
 ·rw[Nat.zero_add] at h1
  obtain⟨x,id,hx,bp,rfl⟩:=sE h1
  rw[List.getElem?_map,u7 hx bp] at h2
  cases h2;rfl
 ·rw[Nat.zero_add] at h1
  obtain⟨x,id,hx,bp,rfl⟩:=sE h1
  rw[u7 hx bp]
  have bg:=ok.lt i id bp
  have hm:bs.getD id []∈bs:=by rw[List.getD_eq_getElem?_getD,List.getElem?_eq_getElem bg];exact List.getElem_mem bg
  show fp H a (((some ({x with been:=bs.getD id []}:aa)).bind fun x=>(cd true x)[j]?).getD .undef)
  match j,h2 with
  | 0,h2=>cases h2;exact .int _ _
  | 1,h2=>cases h2;exact .int _ _
  | 2,h2=>
   cases h2
   exact l0 (eT:=aH) (eF:=aH) (sz:=1) (ok.been i id x hx bp) (hf id _ (qx bg)) rF ⟨yc _ hm,rfl⟩
  | 3,h2=>cases h2;exact .bool _
  | 4,h2=>cases h2;exact .int _ _
  | j+5,h2=>simp[jj] at h2
 ·rw[List.getElem?_map] at h1
  cases hv:(view ws ids bs)[i]? with
  | none=>rw[hv] at h1;cases h1
  | some x=>
   rw[hv] at h1;cases h1
   show c=m3 (((some x).bind fun x=>(cd true x)[j]?).getD .undef)
   match j,h2 with
   | 0,h2=>cases h2;rfl
   | 1,h2=>cases h2;rfl
   | 2,h2=>cases h2;rfl
   | 3,h2=>cases h2;rfl
   | 4,h2=>cases h2;rfl
   | j+5,h2=>simp[cd] at h2
theorem Weak.so (sz:Nat) {T:List AV} {L:List (Nat×List AV)} {H:List Blk}:Weak ⟨T,L,H⟩ ⟨T,L,H++[⟨0,sz,[]⟩]⟩:=fun cM E tmps g s=>by
 obtain⟨E',hw,bd,h1,h2,_⟩:=yX (blk:=⟨0,sz,[]⟩) s.h s.l rfl rfl
 exact⟨E',hw,g.step bd,h1,h2,fun t=>(s.iM t).le bd.le,s.size⟩
theorem Weak.clear (j:Nat) {g sz:Nat} {rows:List (List AV)} {T:List AV} {L:List (Nat×List AV)} {H:List Blk} (aP:H[j]?=some ⟨g,sz,rows⟩):Weak ⟨T,L,H⟩ ⟨T,L,H.set j ⟨g,sz,[]⟩⟩:=fun cM E tmps Ra s=>by
 have ni:=(List.getElem?_eq_some_iff.1 aP).1
 have get: ∀(b:Nat) (blk:Blk),(H.set j ⟨g,sz,[]⟩)[b]?=some blk→(b=j∧blk=⟨g,sz,[]⟩)∨(b≠j∧H[b]?=some blk):=fun b blk h=>by
  rw[List.getElem?_set] at h
  split at h
  ·rename_i e;subst e;exact .inl ⟨rfl,(Option.some.inj h).symm⟩
  ·rename_i e;exact .inr ⟨fun h=>e h.symm,h⟩
 have jy:SimH E H:=s.h
 refine⟨E,rfl,Ra,{jy with
  heap:=fun b c hb=> ?_,eZ:=fun b blk hb=> ?_,hE:=fun b hb=> ?_,fresh:=fun b hb=>jy.fresh b (by simpa using hb)},s.l,s.iM,s.size⟩
 ·obtain⟨blk,ba,ty,q1,dX,q2,q3,q4,cx⟩:=jy.heap b c hb
  by_cases e:b=j
  ·subst e
   rw[aP] at q1
   obtain rfl:=Option.some.inj q1
   exact⟨⟨g,sz,[]⟩,ba,ty,by rw[List.getElem?_set];simp[ni],dX,q2,q3,Nat.zero_le _,fun i row h=>by simp at h,fun i j row a h=>by simp at h⟩
  ·exact⟨blk,ba,ty,by rw[List.getElem?_set,if_neg (fun h=>e h.symm)];exact q1,dX,q2,q3,q4,cx⟩
 ·rcases get b blk hb with⟨rfl,rfl⟩ | ⟨_,hb⟩
  ·exact(jy.eZ b _ aP:)
  ·exact jy.eZ b blk hb
 ·obtain⟨blk,q1,dX⟩:=jy.hE b hb
  by_cases e:b=j
  ·subst e
   rw[aP] at q1
   obtain rfl:=Option.some.inj q1
   exact⟨⟨g,sz,[]⟩,by rw[List.getElem?_set];simp[ni],dX⟩
  ·exact⟨blk,by rw[List.getElem?_set,if_neg (fun h=>e h.symm)];exact q1,dX⟩
theorem Mf (H:List Blk):H.map (kj 0)=H:=by
 have a0: ∀a:AV,hV 0 a=a:=fun a=>by cases a<;>simp[hV]
 have:kj 0=id:=by
  funext b
  obtain⟨g,s,rows⟩:=b
  show(⟨g,s,rows.map fun row=>row.map (hV 0)⟩:Blk)=⟨g,s,rows⟩
  congr 1
  have:(fun row:List AV=>row.map (hV 0))=id:=by funext row;rw[show hV 0=id from funext a0];simp
  rw[this];simp
 rw[this];simp
theorem y7 {aR a3 aY s:Nat} {al:List Bool} {iw:List aN} {ws:List aa} {ids:List Nat} {bs:List (List Bool)}:qX (⟨aR,1,List.map aH al⟩::⟨a3,2,List.map a1 iw⟩::⟨aY,5,aT s ws ids⟩::List.map bc bs)=true:=by
 refine oZ (fun _=>rfl) (oZ (fun _=>rfl) ?_)
 unfold qX
 rw[List.all_eq_true]
 intro b hb
 rw[List.all_eq_true]
 intro row aJ
 rcases List.mem_cons.1 hb with rfl | hb
 ·obtain⟨i,hi⟩:=List.mem_iff_getElem?.1 aJ
  obtain⟨x,id,_,_,rfl⟩:=sE hi
  rfl
 ·obtain⟨b,_,rfl⟩:=List.mem_map.1 hb
  obtain⟨x,_,rfl⟩:=List.mem_map.1 aJ
  rfl
def sL (j:Nat):Option Nat:=if j<3 then some j else some (j+1)
theorem K9 {r:AV} {aR a3 aY bX fD mY n2:Nat} {f0 f1 f2:Bool} {R:Frame} {ok:Bool} {al:List Bool} {iw:List aN} {ws:List aa} {ids:List Nat} {bs:List (List Bool)} {rows:List (List AV)}
  (h:ok=R.ok∧al=R.al∧iw=R.ak∧ws=R.ways∧ids=List.range ws.length∧bs=ws.map aa.been) (a0:fD=al.length) (h1:mY=iw.length) (h2:n2=ws.length) (aJ:r= .agg [.bool ok,.ref 0 aR 0 fD f0,.ref 1 a3 0 mY f1,.ref 2 aY 0 n2 f2]):
  ∃dg,ru (⟨aR,1,List.map aH al⟩::⟨a3,2,List.map a1 iw⟩::⟨aY,5,aT 4 ws ids⟩::⟨bX,5,rows⟩::List.map bc bs)
   (⟨0,1,List.map aH R.al⟩::⟨0,2,List.map a1 R.ak⟩::⟨0,5,aT 3 R.ways (List.range R.ways.length)⟩::List.map bc (List.map aa.been R.ways)) dg∧
   Gr (⟨aR,1,List.map aH al⟩::⟨a3,2,List.map a1 iw⟩::⟨aY,5,aT 4 ws ids⟩::⟨bX,5,rows⟩::List.map bc bs)
    (⟨0,1,List.map aH R.al⟩::⟨0,2,List.map a1 R.ak⟩::⟨0,5,aT 3 R.ways (List.range R.ways.length)⟩::List.map bc (List.map aa.been R.ways)).length dg r
    (.agg [.bool R.ok,.ref 0 0 0 R.al.length false,.ref 1 0 0 R.ak.length false,.ref 2 0 0 R.ways.length false]):=by
 obtain⟨rfl,rfl,rfl,rfl,rfl,rfl⟩:=h
 subst a0;subst h1;subst h2;subst aJ
 have hlen:(⟨0,1,List.map aH R.al⟩::⟨0,2,List.map a1 R.ak⟩::⟨0,5,aT 3 R.ways (List.range R.ways.length)⟩::List.map bc (List.map aa.been R.ways):List Blk).length=R.ways.length+3:=by simp
 refine⟨sL,⟨fun i j b hi aP h1 h2=> ?_,fun j k hk=> ?_,fun j b k hk hs=> ?_⟩,.inl ⟨_,_,rfl,rfl,?_⟩⟩
 ·unfold sL at h1 h2
  split at h1<;>split at h2<;>simp at h1 h2<;>omega
 ·match j,hk with
  | 0,hk=>simp at hk;subst hk;rfl
  | 1,hk=>simp at hk;subst hk;rfl
  | 2,hk=>simp at hk;subst hk;rfl
  | j+3,hk=>simp at hk;obtain⟨x,_,rfl⟩:=hk;rfl
 ·rw[hlen]
  match j,hk,hs with
  | 0,hk,hs=>
   simp at hk;subst hk
   obtain rfl:0=b:=by simpa[sL] using hs
   exact pb (b:=0) rfl ww rfl
  | 1,hk,hs=>
   simp at hk;subst hk
   obtain rfl:1=b:=by simpa[sL] using hs
   exact pb (b:=1) rfl DO rfl
  | 2,hk,hs=>
   simp at hk;subst hk
   obtain rfl:2=b:=by simpa[sL] using hs
   refine⟨_,rfl,rfl,⟨by rw[tC (by simp),tC (by simp)],fun i Z0 i_ a6 hb=> ?_⟩⟩
   obtain⟨x,id,hx,bp,rfl⟩:=sE a6
   obtain⟨lH,fO,iG,nW,rfl⟩:=sE hb
   rw[hx] at iG;cases iG
   rw[bp] at nW;cases nW
   have tI:i<R.ways.length:=(List.getElem?_eq_some_iff.1 hx).1
   obtain rfl:i=id:=by rw[List.getElem?_range tI] at bp;exact Option.some.inj bp
   refine .cons (.int _ _) (.cons (.int _ _) (.cons ?_ (.cons (.bool _) (.cons (.int _ _) .nil))))
   refine iC.ref (blk:=bc x.been) (by omega) (by simp[sL]) ?_ rfl
   show(List.map bc (List.map aa.been R.ways))[i]?=_
   rw[List.getElem?_map,List.getElem?_map,hx];rfl
  | j+3,hk,hs=>
   obtain rfl:j+4=b:=by
    unfold sL at hs
    rw[if_neg (by omega)] at hs;exact Option.some.inj hs
   have hk:(List.map bc (List.map aa.been R.ways))[j]?=some k:=by simpa using hk
   have: ∃x,k=bc x:=by
    rw[List.getElem?_map] at hk
    cases aj:(List.map aa.been R.ways)[j]? with
    | none=>rw[aj] at hk;cases hk
    | some x=>rw[aj] at hk;cases hk;exact⟨x,rfl⟩
   obtain⟨x,rfl⟩:=this
   have hb:(⟨aR,1,List.map aH R.al⟩::⟨a3,2,List.map a1 R.ak⟩::⟨aY,5,aT 4 R.ways (List.range R.ways.length)⟩::⟨bX,5,rows⟩::List.map bc (List.map aa.been R.ways):List Blk)[j+4]?=some ⟨0,1,List.map aH x⟩:=hk
   exact pb (b:=j+4) hb ww rfl
 ·rw[hlen]
  exact .cons (.bool _) (.cons (.ref (by omega) rfl rfl rfl) (.cons (.ref (by omega) rfl rfl rfl) (.cons (.ref (by omega) rfl rfl rfl) .nil)))
theorem WT {k s:Nat} {ws:List aa} {ids:List Nat}:(aT s ws ids).map (fun row=>row.map (hV k))=aT (s+k) ws ids:=by
 apply List.ext_getElem?
 intro i
 unfold aT
 rw[List.getElem?_map,List.getElem?_zipWith,List.getElem?_zipWith]
 cases ws[i]? with
 | none=>rfl
 | some h=>
  cases ids[i]? with
  | none=>rfl
  | some id=>
   show some [_,_,AV.ref (k+(id+s)) 0 0 h.been.length false,_,_]=some [_,_,AV.ref (id+(s+k)) 0 0 h.been.length false,_,_]
   rw[show k+(id+s)=id+(s+k) by omega];rfl
theorem WS {k:Nat} {bs:List (List Bool)}:(List.map bc bs).map (kj k)=List.map bc bs:=by
 rw[List.map_map]
 refine List.map_congr_left fun b _=> ?_
 show(⟨0,1,(List.map aH b).map fun row=>row.map (hV k)⟩:Blk)=⟨0,1,_⟩
 rw[List.map_map]
 congr 1
theorem Mg {k aR a3 aY s:Nat} {al:List Bool} {iw:List aN} {ws:List aa} {ids:List Nat} {bs:List (List Bool)}:
  (⟨aR,1,List.map aH al⟩::⟨a3,2,List.map a1 iw⟩::⟨aY,5,aT s ws ids⟩::List.map bc bs:List Blk).map (kj k)=⟨aR,1,List.map aH al⟩::⟨a3,2,List.map a1 iw⟩::⟨aY,5,aT (s+k) ws ids⟩::List.map bc bs:=by
 refine pe (fun _=>rfl) (pe (fun _=>rfl) ?_)
 show(⟨aY,5,(aT s ws ids).map fun row=>row.map (hV k)⟩:Blk)::(List.map bc bs).map (kj k)=_
 rw[WT,WS]
structure fL (ws:List aa) (ids:List Nat) (bs:List (List Bool)):Prop where
 ok:iQ ws ids bs
 jR: ∀i j k:Nat,ids[i]?=some k→ids[j]?=some k→i=j
 len: ∀b∈bs,b.length≤1048576
theorem oA {bs:List (List Bool)} {b:List Bool}:List.map bc bs++[⟨0,1,List.map aH b⟩]=List.map bc (bs++[b]):=by rw[List.map_append];rfl
section
variable {P:Program} {esc:List Nat} {ops:Array Oper} {n:Nat} {X:List Oper} {i0:Nat} {A:List (Nat×AV)} {L:List (Nat×List AV)} {H:List Blk} {K:List (Nat×AV)→List (Nat×List AV)→List Blk→Prop}
theorem hU (bf:Nat) (d:Option Nat) (N:List (Nat×AV)) (rows:List (List AV)) {row:List AV} (i:Int) (t:TypeId) (c g:Nat) (v:AV) (ek:rows[i.toNat]?=some row) (h:evS P esc ops n (X.drop (i0+bf)) (cY d v N A) L H K)
  (e2: ∀K,iB P t row c K=K v:=by intro K;kernel_rfl)
  (e: ∀K,evS P esc ops n ((X.drop i0).take bf) A L H K=(g=g∧cJ rows[0+i.toNat]? fun row=>iB P t row c fun v=>K (cY d v N A) L H):=by intro K;kernel_rfl):evS P esc ops n (X.drop i0) A L H K:=by
 rw[iD X i0 bf,e]
 exact⟨rfl,dG (a:=row) (by rw[Nat.zero_add];exact ek) (by rw[e2];exact h)⟩
theorem WJ (bf:Nat) (d:Option Nat) (N:List (Nat×AV)) (rows:List (List AV)) {row row':List AV} (i:Int) (c k g:Nat) (cells:List AV) (H':List (List AV)→List Blk) (hS:List (List AV)) (ek:rows[i.toNat]?=some row) (j8:rows.set i.toNat row'=hS)
  (h:evS P esc ops n (X.drop (i0+bf)) (cY d (.tup []) N A) L (H' hS) K) (hc:Nat.ble (c+k) row.length=true:=by kernel_rfl) (hs:eK row c cells=row':=by kernel_rfl)
  (e: ∀K,evS P esc ops n ((X.drop i0).take bf) A L H K=(g=g∧cJ rows[0+i.toNat]? fun row=>c+k≤row.length∧K (cY d (.tup []) N A) L (H' (rows.set (0+i.toNat) (eK row c cells)))):=by intro K;kernel_rfl):evS P esc ops n (X.drop i0) A L H K:=by
 rw[iD X i0 bf,e]
 refine⟨rfl,dG (a:=row) (by rw[Nat.zero_add];exact ek) ⟨Nat.le_of_ble_eq_true hc,?_⟩⟩
 ·rw[hs,Nat.zero_add,j8];exact h
theorem jb (bf:Nat) (d:Option Nat) (N:List (Nat×AV)) (rows:List (List AV)) {row row':List AV} (i:Int) (c k g:Nat) (cells:List AV) (j:Nat) (hS:List (List AV)) (ek:rows[i.toNat]?=some row) (j8:rows.set i.toNat row'=hS)
  (h:evS P esc ops n (X.drop (i0+bf)) (cY d (.tup []) N A) L (hh j hS H) K) (hc:Nat.ble (c+k) row.length=true:=by kernel_rfl) (hs:eK row c cells=row':=by kernel_rfl)
  (e: ∀K,evS P esc ops n ((X.drop i0).take bf) A L H K=(g=g∧cJ rows[0+i.toNat]? fun row=>c+k≤row.length∧K (cY d (.tup []) N A) L (hh j (rows.set (0+i.toNat) (eK row c cells)) H)):=by intro K;kernel_rfl):evS P esc ops n (X.drop i0) A L H K:=WJ bf d N rows i c k g cells (fun r=>hh j r H) hS ek j8 h hc hs e
theorem WE (bf:Nat) (d:Option Nat) (N:List (Nat×AV)) (bs:List (List Bool)) (id s:Nat) {i:Int} {m:Nat} (gf:id<bs.length) (a0:0≤i∧i.toNat<m) (h:evS P esc ops n (X.drop (i0+bf)) (cY d (.ptr (id+s) 0 (0+i.toNat) 0) N A) L H K)
  (e: ∀K,evS P esc ops n ((X.drop i0).take bf) A L H K=(cJ (List.map bc bs)[id]? fun blk=>blk.bI=0∧blk.sz=1∧0≤i∧i<m∧K (cY d (.ptr (id+s) 0 (0+i.toNat) 0) N A) L H):=by intro K;kernel_rfl):evS P esc ops n (X.drop i0) A L H K:=by
 rw[iD X i0 bf,e]
 exact dG (qx gf) ⟨rfl,rfl,a0.1,by have:=a0.2;omega,h⟩
theorem WI (bf:Nat) (d:Option Nat) (N:List (Nat×AV)) (bs:List (List Bool)) (id:Nat) (i:Int) (x:Bool) (H':List Blk→List Blk) (gf:id<bs.length) (hi:i.toNat<(bs.getD id []).length)
  (h:evS P esc ops n (X.drop (i0+bf)) (cY d (.tup []) N A) L (H' (List.map bc (bs.set id ((bs.getD id []).set i.toNat x)))) K)
  (e: ∀K,evS P esc ops n ((X.drop i0).take bf) A L H K=(cJ (List.map bc bs)[id]? fun blk=>blk.bI=0∧cJ blk.rows[0+i.toNat]? fun row=>0+1≤row.length∧K (cY d (.tup []) N A) L (H' ((List.map bc bs).set id {blk with rows:=blk.rows.set (0+i.toNat) (eK row 0 [.bool x])}))):=by intro K;kernel_rfl):evS P esc ops n (X.drop i0) A L H K:=by
 rw[iD X i0 bf,e]
 have key:(List.map bc bs).set id {bc (bs.getD id []) with rows:=(bc (bs.getD id [])).rows.set (0+i.toNat) (eK (aH (nth (bs.getD id []) i)) 0 [.bool x])}=List.map bc (bs.set id ((bs.getD id []).set i.toNat x)):=by
  rw[←A8]
  congr 1
  show(⟨0,1,(List.map aH (bs.getD id [])).set (0+i.toNat) (aH x)⟩:Blk)=⟨0,1,_⟩
  rw[Nat.zero_add,Ac]
 refine dG (qx gf) ⟨rfl,dG (a:=aH (nth (bs.getD id []) i)) (by rw[Nat.zero_add];exact vt hi) ⟨Nat.le_refl _,?_⟩⟩
 ·rw[key];exact h
theorem L5 (bf:Nat) (N:List (Nat×AV)) (H':List Blk) {φ ψ:Prop} (h1:φ) (h2:ψ) (h:evS P esc ops n (X.drop (i0+bf)) (fW N A) L H' K) (e: ∀K,evS P esc ops n ((X.drop i0).take bf) A L H K=(φ∧ψ∧K (fW N A) L H'):=by intro K;kernel_rfl):evS P esc ops n (X.drop i0) A L H K:=by
 rw[iD X i0 bf,e];exact⟨h1,h2,h⟩
theorem L4 (H':List Blk) (aV:H=H') (h:evS P esc ops n (X.drop i0) A L H' K):evS P esc ops n (X.drop i0) A L H K:=by
 subst aV;exact h
theorem rb (bf:Nat) (d:Option Nat) (N:List (Nat×AV)) {g:FuncId} (args:List AV) (Q:AV→List Blk→Prop) (hf:dj P g args H Q) (aJ: ∀r H',Q r H'→us r=true) (h: ∀r H',Q r H'→evS P esc ops n (X.drop (i0+bf)) (cY d r N A) L H' K)
  (aC:args.all ed=true:=by kernel_rfl) (aI:args.all jq=true:=by kernel_rfl) (e: ∀K,evS P esc ops n ((X.drop i0).take bf) A L H K=(kq P g args L H (fun v L' H'=>K (cY d v N A) L' H')):=by intro K;kernel_rfl):evS P esc ops n (X.drop i0) A L H K:=by
 rw[iD X i0 bf,e]
 exact .inr (.inr (.inl ⟨aC,aI,hf.mono fun r H' aj=>⟨aJ r H' aj,h r H' aj⟩⟩))
theorem WG (bf:Nat) (d:Option Nat) (N:List (Nat×AV)) {i:Int} (B:Int) (z:List AV) (m:Nat) (j1:List Blk) (a0:0≤i∧B*i≤140737488355328∧i≤4611686018427387904) (aI:H.length=m) (hx:H++[⟨0,1,List.map aH (List.replicate i.toNat false)⟩]=j1)
  (h:evS P esc ops n (X.drop (i0+bf)) (cY d (.ref m 0 0 (List.replicate i.toNat false).length false) N A) L j1 K) (aQ:z=aH false:=by rfl)
  (e: ∀K,evS P esc ops n ((X.drop i0).take bf) A L H K=(0≤i∧i≤i∧B*i≤140737488355328∧i≤4611686018427387904∧K (cY d (.ref H.length 0 0 i.toNat false) N A) L (H++[⟨0,1,List.replicate i.toNat z⟩])):=by intro K;kernel_rfl):evS P esc ops n (X.drop i0) A L H K:=by
 rw[iD X i0 bf,e]
 subst aI;subst hx;subst aQ
 rw[List.length_replicate,List.map_replicate] at h
 exact⟨a0.1,Int.le_refl _,a0.2.1,a0.2.2,h⟩
theorem L2 (bf:Nat) (d:Option Nat) (N:List (Nat×AV)) (ys:List Bool) (B:Nat) (m:Nat) (j1:List Blk) (a0:ys.length*B≤140737488355328∧ys.length≤4611686018427387904) (aI:H.length=m) (hx:H++[⟨0,1,List.map aH ys⟩]=j1)
  (h:evS P esc ops n (X.drop (i0+bf)) (cY d (.ref m 0 0 ys.length false) N A) L j1 K)
  (e: ∀K,evS P esc ops n ((X.drop i0).take bf) A L H K=(true=true∧true=true∧pa 1 (List.map aH ys)∧true=true∧(∀row∈([]:List (List AV)),row.length=1)∧(List.length (α:=List AV) []+(List.map aH ys).length)*B≤140737488355328∧List.length (α:=List AV) []+(List.map aH ys).length≤4611686018427387904∧(([]:List (List AV))≠[]→(List.map aH ys)≠[])∧
   K (cY d (.ref H.length 0 0 (List.length (α:=List AV) []+(List.map aH ys).length) false) N A) L (H++[⟨0,1,[]++(List.map aH ys)⟩])):=by intro K;kernel_rfl):evS P esc ops n (X.drop i0) A L H K:=by
 rw[iD X i0 bf,e]
 subst aI;subst hx
 refine⟨rfl,rfl,zt (enc:=aH) (fun _=>⟨rfl,rfl⟩) ys,rfl,(fun row h=>by cases h),by simpa using a0.1,by simpa using a0.2,(fun h=>absurd rfl h),?_⟩
 simpa using h
theorem En (bf:Nat) (d:Option Nat) (N:List (Nat×AV)) (s b g q B:Nat) (ws:List aa) (ids:List Nat) (x:aa) (id:Nat) (H':List (List AV)→List Blk) (aI:ws.length=ids.length)
  (a0:(ws.length+1)*B≤140737488355328∧ws.length+1≤4611686018427387904) (h:evS P esc ops n (X.drop (i0+bf)) (cY d (.ref b (g+1) 0 (ws++[x]).length false) N A) L (H' (aT s (ws++[x]) (ids++[id]))) K)
  (e: ∀K,evS P esc ops n ((X.drop i0).take bf) A L H K=(true=true∧true=true∧(q=q∧0+1≤1∧(pa 5 [jj s x id]∧0=0∧g=g∧5=5∧(aT s ws ids).length=ws.length∧(ws.length+1)*B≤140737488355328∧ws.length+1≤4611686018427387904∧
   K (cY d (.ref b (g+1) 0 (ws.length+1) false) N A) L (H' (aT s ws ids++[jj s x id]))))):=by intro K;kernel_rfl):evS P esc ops n (X.drop i0) A L H K:=by
 rw[iD X i0 bf,e]
 refine⟨rfl,rfl,rfl,Nat.le_refl _,?_,rfl,rfl,rfl,tC aI,a0.1,a0.2,?_⟩
 ·intro row aJ
  rw[List.mem_singleton.1 aJ]
  exact⟨rfl,fun a a6=>List.all_eq_true.1 (show(jj s x id).all ie=true from rfl) a a6⟩
 ·rw[Bp aI];rw[List.length_append] at h;exact h
end
section
variable {P:Program} {esc:List Nat} {ops:Array Oper} {n:Nat} {X:List Item} {i0:Nat} {A:List (Nat×AV)} {L:List (Nat×List AV)} {H:List Blk} {K:List (Nat×AV)→List (Nat×List AV)→List Blk→Prop}
theorem mw (bf:Nat) (d:Option Nat) (N:List (Nat×AV)) (rows:List (List AV)) {row:List AV} (i:Int) (t:TypeId) (c g:Nat) (v:AV) (ek:rows[i.toNat]?=some row) (h:evSD P esc ops n (X.drop (i0+bf)) (cY d v N A) L H K)
  (e2: ∀K,iB P t row c K=K v:=by intro K;kernel_rfl)
  (e: ∀K,evSD P esc ops n ((X.drop i0).take bf) A L H K=(g=g∧cJ rows[0+i.toNat]? fun row=>iB P t row c fun v=>K (cY d v N A) L H):=by intro K;kernel_rfl):evSD P esc ops n (X.drop i0) A L H K:=by
 rw[ks X i0 bf,e]
 exact⟨rfl,dG (a:=row) (by rw[Nat.zero_add];exact ek) (by rw[e2];exact h)⟩
theorem NS (bf:Nat) (d:Option Nat) (N:List (Nat×AV)) (rows:List (List AV)) {row row':List AV} (i:Int) (c k g:Nat) (cells:List AV) (F:List (List AV)→Prop) (H':List (List AV)→List Blk) (hS:List (List AV)) (ek:rows[i.toNat]?=some row) (j8:rows.set i.toNat row'=hS)
  (da:F (hS)) (h:evSD P esc ops n (X.drop (i0+bf)) (cY d (.tup []) N A) L (H' hS) K) (hc:Nat.ble (c+k) row.length=true:=by kernel_rfl) (hs:eK row c cells=row':=by kernel_rfl)
  (e: ∀K,evSD P esc ops n ((X.drop i0).take bf) A L H K=(g=g∧cJ rows[0+i.toNat]? fun row=>c+k≤row.length∧F ((rows.set (0+i.toNat) (eK row c cells)))∧K (cY d (.tup []) N A) L (H' (rows.set (0+i.toNat) (eK row c cells)))):=by intro K;kernel_rfl):evSD P esc ops n (X.drop i0) A L H K:=by
 rw[ks X i0 bf,e]
 refine⟨rfl,dG (a:=row) (by rw[Nat.zero_add];exact ek) ⟨Nat.le_of_ble_eq_true hc,?_,?_⟩⟩
 ·rw[hs,Nat.zero_add,j8];exact da
 ·rw[hs,Nat.zero_add,j8];exact h
theorem sS (bf:Nat) (d:Option Nat) (N:List (Nat×AV)) (bs:List (List Bool)) (id s:Nat) {i:Int} {m:Nat} (gf:id<bs.length) (a0:0≤i∧i.toNat<m) (h:evSD P esc ops n (X.drop (i0+bf)) (cY d (.ptr (id+s) 0 (0+i.toNat) 0) N A) L H K)
  (e: ∀K,evSD P esc ops n ((X.drop i0).take bf) A L H K=(cJ (List.map bc bs)[id]? fun blk=>blk.bI=0∧blk.sz=1∧0≤i∧i<m∧K (cY d (.ptr (id+s) 0 (0+i.toNat) 0) N A) L H):=by intro K;kernel_rfl):evSD P esc ops n (X.drop i0) A L H K:=by
 rw[ks X i0 bf,e]
 exact dG (qx gf) ⟨rfl,rfl,a0.1,by have:=a0.2;omega,h⟩
theorem w3 (bf:Nat) (d:Option Nat) (N:List (Nat×AV)) (bs:List (List Bool)) (id:Nat) (i:Int) (t:TypeId) (gf:id<bs.length) (hi:i.toNat<(bs.getD id []).length) (h:evSD P esc ops n (X.drop (i0+bf)) (cY d (.bool (nth (bs.getD id []) i)) N A) L H K)
  (e2: ∀x K,iB P t (aH x) 0 K=K (.bool x):=by intro x K;kernel_rfl)
  (e: ∀K,evSD P esc ops n ((X.drop i0).take bf) A L H K=(cJ (List.map bc bs)[id]? fun blk=>blk.bI=0∧cJ blk.rows[0+i.toNat]? fun row=>iB P t row 0 fun v=>K (cY d v N A) L H):=by intro K;kernel_rfl):evSD P esc ops n (X.drop i0) A L H K:=by
 rw[ks X i0 bf,e]
 refine dG (qx gf) ⟨rfl,dG (a:=aH (nth (bs.getD id []) i)) (by rw[Nat.zero_add];exact vt hi) (by rw[e2];exact h)⟩
theorem NR (bf:Nat) (d:Option Nat) (N:List (Nat×AV)) (bs:List (List Bool)) (id:Nat) (i:Int) (x:Bool) (F:List Blk→Prop) (H':List Blk→List Blk) (gf:id<bs.length) (hi:i.toNat<(bs.getD id []).length)
  (da:F ((List.map bc (bs.set id ((bs.getD id []).set i.toNat x))))) (h:evSD P esc ops n (X.drop (i0+bf)) (cY d (.tup []) N A) L (H' (List.map bc (bs.set id ((bs.getD id []).set i.toNat x)))) K)
  (e: ∀K,evSD P esc ops n ((X.drop i0).take bf) A L H K=(cJ (List.map bc bs)[id]? fun blk=>blk.bI=0∧cJ blk.rows[0+i.toNat]? fun row=>0+1≤row.length∧F (((List.map bc bs).set id {blk with rows:=blk.rows.set (0+i.toNat) (eK row 0 [.bool x])}))∧K (cY d (.tup []) N A) L (H' ((List.map bc bs).set id {blk with rows:=blk.rows.set (0+i.toNat) (eK row 0 [.bool x])}))):=by intro K;kernel_rfl):evSD P esc ops n (X.drop i0) A L H K:=by
 rw[ks X i0 bf,e]
 have key:(List.map bc bs).set id {bc (bs.getD id []) with rows:=(bc (bs.getD id [])).rows.set (0+i.toNat) (eK (aH (nth (bs.getD id []) i)) 0 [.bool x])}=List.map bc (bs.set id ((bs.getD id []).set i.toNat x)):=by
  rw[←A8]
  congr 1
  show(⟨0,1,(List.map aH (bs.getD id [])).set (0+i.toNat) (aH x)⟩:Blk)=⟨0,1,_⟩
  rw[Nat.zero_add,Ac]
 refine dG (qx gf) ⟨rfl,dG (a:=aH (nth (bs.getD id []) i)) (by rw[Nat.zero_add];exact vt hi) ⟨Nat.le_refl _,?_,?_⟩⟩
 ·rw[key];exact da
 ·rw[key];exact h
theorem NP (bf:Nat) (d:Option Nat) (N:List (Nat×AV)) (s b g q B:Nat) (ws:List aa) (ids:List Nat) (x:aa) (id:Nat) (F:List (List AV)→Prop) (H':List (List AV)→List Blk) (aI:ws.length=ids.length)
  (a0:(ws.length+1)*B≤140737488355328∧ws.length+1≤4611686018427387904) (da:F ((aT s (ws++[x]) (ids++[id])))) (h:evSD P esc ops n (X.drop (i0+bf)) (cY d (.ref b (g+1) 0 (ws++[x]).length false) N A) L (H' (aT s (ws++[x]) (ids++[id]))) K)
  (e: ∀K,evSD P esc ops n ((X.drop i0).take bf) A L H K=(true=true∧true=true∧(q=q∧0+1≤1∧(pa 5 [jj s x id]∧0=0∧g=g∧5=5∧(aT s ws ids).length=ws.length∧(ws.length+1)*B≤140737488355328∧ws.length+1≤4611686018427387904∧
   F ((aT s ws ids++[jj s x id]))∧K (cY d (.ref b (g+1) 0 (ws.length+1) false) N A) L (H' (aT s ws ids++[jj s x id]))))):=by intro K;kernel_rfl):evSD P esc ops n (X.drop i0) A L H K:=by
 rw[ks X i0 bf,e]
 refine⟨rfl,rfl,rfl,Nat.le_refl _,?_,rfl,rfl,rfl,tC aI,a0.1,a0.2,?_,?_⟩
 ·intro row aJ
  rw[List.mem_singleton.1 aJ]
  exact⟨rfl,fun a a6=>List.all_eq_true.1 (show(jj s x id).all ie=true from rfl) a a6⟩
 ·rw[Bp aI];exact da
 ·rw[Bp aI];rw[List.length_append] at h;exact h
end
end Go.Proofs.Ytglpfccgmfhkdaa.Fw
