/- The framework, part OP: a call that is handed one struct in the memory (or a variable of the caller's) to write into, beside values that stay. -/
import Derived.Test.YtglpfccgmfhkdaaM1
set_option linter.unusedVariables false
namespace Go.Proofs.Ytglpfccgmfhkdaa.Fw
open Go
def uL:AV→Bool
 | .bC _ full fr=> !full&& !fr
 | a=>jM a
theorem ZX {a:AV} (h:uL a=true):jM a=true∧kD a=a:=by
 cases a with
 | bC rows full fr=>
  refine⟨rfl,?_⟩
  cases full<;>cases fr<;>first | rfl | cases h
 | _=>first | exact⟨h,rfl⟩
def iW (P:Program) (f:FuncId) (g:Nat) (args:List AV) (a_ dF:List AV) (t:AV):Prop:=
 dH P f args [⟨g,a_.length,[a_]⟩] fun r fg=> ∃B,fg=⟨g,a_.length,[dF]⟩::B∧ii (⟨g+1,a_.length,[dF]⟩::B) r t
def tJ (p q a J:AV):Prop:=(a=p∧J=q)∨dc [] [] a J
theorem QC {E:Env} (aI: ∀c,E.PF c→E.PA c) {a b:AV} (h:gd [] [] a b): ∀{v:Value},cM E a v→bH E.w E.PA (fun _=>False) b v:=by
 induction h with
 | undef a=>intro v _;exact .undef v
 | int k n=>intro v hv;have hv:bH E.w E.PA E.PF (.int k n) v:=hv;cases hv;exact .int _ _
 | bool k=>intro v hv;have hv:bH E.w E.PA E.PF (.bool k) v:=hv;cases hv;exact .bool _
 | str k=>intro v hv;have hv:bH E.w E.PA E.PF (.str k) v:=hv;cases hv;exact .str _
 | gj=>intro v hv;have hv:bH E.w E.PA E.PF .gj v:=hv;cases hv;exact .gj
 | gE=>intro v hv;have hv:bH E.w E.PA E.PF .gE v:=hv;cases hv;exact .gE
 | bC rows full fr eJ hw=>
  intro v hv
  have hv:bH E.w E.PA E.PF (.bC rows full fr) v:=hv
  cases hv with
  | bC gq gR ht cY fl ec=>
   exact .bC (fun c hc=>by
    have:=gq c hc
    simp only[Bool.false_eq_true,if_false]
    split at this
    ·exact aI c this
    ·exact this) gR (fun h=>ht (hw h)) cY fl ec
 | dA cells c=>
  intro v hv
  have hv:bH E.w E.PA E.PF (.dA cells c) v:=hv
  cases hv with
  | dA hc fl ec=>exact .dA hc fl ec
 | fH hg=>cases hg
 | ptr hb=>cases hb
 | ref _ hb=>cases hb
 | @fn f caps yj aL aK bQ=>
  intro v hv
  obtain⟨vs,rfl,ak⟩:=(show ∃vs:List Value,v= .func (.func f) #[] vs.toArray∧aD (fx E) caps vs from hv)
  exact .fn (aL▸ak.1) fun i b u hb hu=>by
   have bf:i<caps.length:=by have:=(List.getElem?_eq_some_iff.1 hb).1;omega
   exact bQ i _ b (List.getElem?_eq_getElem bf) hb (Dp (ak.2 i _ u (List.getElem?_eq_getElem bf) hu))
theorem acW {E E1:Env} (aI: ∀c,E.PF c→E.PA c) (hw:E1.w=E.w) (yE:E1.PA=E.PA) {a b:AV} (h:dc [] [] a b) {v:Value} (hv:V2 E a v):V2 E1 b v:=by
 have up: ∀{b:AV} {v:Value},bH E.w E.PA (fun _=>False) b v→cM E1 b v:=fun h=>bH.v1 (E:=E1) (h.mono (fun _ _=>by rw[hw]) (fun _ h=>h.elim) (fun c hc=>by rw[yE];exact hc) (fun _ h=>h.elim))
 rcases h with⟨l,fu,rfl,rfl,ak⟩ | h
 ·obtain⟨vs,rfl,aK⟩:=hv
  refine⟨vs,rfl,ak.1▸aK.1,fun i x u hx hu=> ?_⟩
  have bf:i<l.length:=by have:=(List.getElem?_eq_some_iff.1 hx).1;have:=ak.1;omega
  have aL:=List.getElem?_eq_getElem bf
  exact up (QC aI (ak.2 i _ x aL hx) (aK.2 i _ u aL hu))
 ·by_cases hf: ∃l,a= .agg l
  ·obtain⟨l,rfl⟩:=hf
   cases h with
   | undef=>exact bH.undef v
  ·rw[pr fun l e=>hf ⟨l,e⟩] at hv
   exact qe (up (QC aI h hv))
def Env.one (E:Env) (bl g sz cp:Nat):Env:=
 {w:=E.w,PA:=E.PA,PF:=fun _=>False,m:=fun j=>if j=0 then some (some bl) else none,bF:=fun j=>if j=0 then g else 0
  sz:=fun j=>if j=0 then sz else 0,cp:=fun j=>if j=0 then cp else 0,mL:=fun _=>none}
theorem uY {E:Env} {bl g sz cp j c:Nat} (h:(E.one bl g sz cp).m j=some (some c)):j=0∧c=bl:=by
 have h:(if j=0 then some (some bl) else none)=some (some c):=h
 split at h
 ·rename_i e;cases h;exact⟨e,rfl⟩
 ·cases h
theorem aaX {E:Env} {H:List Blk} (aS:SimH E H) {bl g cp:Nat} {a_:List AV} {cells:Array Value} {ty:TypeId} (hL:bl<E.w.heap.size) (yE: ¬E.PA bl) (hw:E.w.heap[bl]?=some (.cells cells ty (0,0))) (cY:cells.size=cp*a_.length) (h1:1≤cp)
  (hk:a_.all uL=true) (aK: ∀(j:Nat) (a:AV),a_[j]?=some a→ ∃u,cells[j]?=some u∧cM E a u):SimH (E.one bl g a_.length cp) [⟨g,a_.length,[a_]⟩] where
 heap:=fun b c hb=>by
  obtain⟨rfl,rfl⟩:=uY hb
  have e1: ∀{i:Nat} {row:List AV},([a_]:List (List AV))[i]?=some row→i=0∧row=a_:=fun{i row} h=>by
   cases i with
   | zero=>cases h;exact⟨rfl,rfl⟩
   | succ i=>cases h
  refine⟨⟨g,a_.length,[a_]⟩,cells,ty,rfl,rfl,hw,cY,h1,fun i row h=> ?_,fun i j row a h aN=> ?_⟩
  ·rw[(e1 h).2];rfl
  ·obtain⟨rfl,rfl⟩:=e1 h
   obtain⟨u,hu,hv⟩:=aK j a aN
   refine⟨u,by rw[Nat.zero_mul,Nat.zero_add];exact hu,?_⟩
   have E_:=ZX (List.all_eq_true.1 hk a (List.mem_of_getElem? aN))
   have:=Jk E_.1 (AG E_.1 hv) (fun c hc=>hc) aS.e3
   rw[E_.2] at this
   exact bH.v1 (E:=(E.one c g row.length cp).ca) this
 fh:=fun b blk hb=>by
  cases b with
  | zero=>cases hb;rfl
  | succ b=>cases hb
 hz:=fun b hb=>by
  have hb:(if b=0 then some (some bl) else none)=some none:=hb
  split at hb<;>cases hb
 fresh:=fun b hb=>by
  have hb:1≤b:=hb
  exact⟨if_neg (by omega),if_neg (by omega)⟩
 h0:=fun b cn c h1 h2=>by rw[(uY h1).1,(uY h2).1]
 jS:=fun t jZ c h=>by cases h
 gU:=fun b t c _ h=>by cases h
 h3:=fun c hc ⟨b,hb⟩=>by rw[(uY hb).2] at hc;exact yE hc
 iv:=fun c _ ⟨t,bq⟩=>by cases bq
 e3:=fun c hc=>hc.elim
 fe:=aS.fe
 gD:=fun c ⟨b,hb⟩=>by rw[(uY hb).2];exact hL
 g9:=fun c ⟨t,bq⟩=>by cases bq
structure tI (E:Env) (bl k n:Nat) (dF:List AV) (t:AV) (v:Value) (E':Env):Prop where
 m:E'.m=E.m
 mL:E'.mL=E.mL
 bF:E'.bF=E.bF
 sz:E'.sz=E.sz
 cp:E'.cp=E.cp
 fM: ∀c,E.PA c→E'.PA c
 fN: ∀c,E.PF c→E'.PF c
 e3: ∀c,E'.PF c→E'.PA c
 Cp: ∀c,E'.PA c→E.PA c∨(E.w.heap.size≤c∧c<E'.w.heap.size)
 aa8: ∀c,E'.PF c→E.PF c∨E.w.heap.size≤c
 os:E'.w.os=E.w.os
 tape:E'.w.tape=E.w.tape
 output:E'.w.output=E.w.output
 size:E.w.heap.size≤E'.w.heap.size
 fi: ∀c,c<E.w.heap.size→c≠bl→E'.w.heap[c]?=E.w.heap[c]?
 new: ∃cells ty,E'.w.heap[bl]?=some (.cells cells ty (0,0))∧cells.size=k∧dF.length=n∧ ∀(j:Nat) (a:AV),dF[j]?=some a→ ∃u,cells[j]?=some u∧bH E'.w E'.PA E'.PF a u
 nr:V3 E' t v
theorem acY {E1 E':Env} {H:List Blk} (hs:SimH E1 H) (hw:E'.w=E1.w) (hu: ∀c,E1.PF c∨E1.gT c→E'.PA c∧E'.PF c) {a b:AV} {u:Value} (h:ii H a b) (hv:V3 E1 a u):V3 E' b u:=by
 have fv: ∀{a b:AV} {u:Value},gI H a b→cM E1 a u→cM E' b u:=fun a3 nI=>bH.v1 (E:=E') ((QD hs a3 nI).mono (fun _ _=>by rw[hw]) (fun _ _=>by rw[hw]) (fun c hc=>(hu c hc).1) (fun c hc=>(hu c hc).2))
 have fZ: ∀{a b:AV} {u:Value},sB H a b→V2 E1 a u→V2 E' b u:=by
  rintro a b u (⟨l,fu,rfl,rfl,aI⟩ | h) hu
  ·obtain⟨kE,rfl,ak⟩:=hu
   refine⟨kE,rfl,aI.1▸ak.1,fun i x y hx bm=> ?_⟩
   have bf:i<l.length:=by have:=(List.getElem?_eq_some_iff.1 hx).1;have:=aI.1;omega
   have aL:=List.getElem?_eq_getElem bf
   exact fv (aI.2 i _ x aL hx) (ak.2 i _ y aL bm)
  ·have:cM E1 a u:=by cases h<;>exact hu
   exact qe (fv h this)
 rcases h with⟨l,fu,rfl,rfl,aI⟩ | h
 ·obtain⟨kE,rfl,ak⟩:=hv
  refine⟨kE,rfl,aI.1▸ak.1,fun i x y hx bm=> ?_⟩
  have bf:i<l.length:=by have:=(List.getElem?_eq_some_iff.1 hx).1;have:=aI.1;omega
  have aL:=List.getElem?_eq_getElem bf
  exact fZ (aI.2 i _ x aL hx) (ak.2 i _ y aL bm)
 ·have:V2 E1 a u:=by
   rcases h with⟨l,fu,rfl,rfl,aI⟩ | h
   ·exact hv
   ·cases h<;>exact hv
  exact qf (fZ h this)
theorem Ke {P:Program} {f:FuncId} {vs:List Value} {E:Env} {H:List Blk} {args ew a_ dF:List AV} {p t:AV} {bl g cp:Nat} {cells:Array Value} {ty:TypeId} (aS:SimH E H) (hL:bl<E.w.heap.size) (yE: ¬E.PA bl)
  (hw:E.w.heap[bl]?=some (.cells cells ty (0,0))) (cY:cells.size=cp*a_.length) (h1:1≤cp) (hk:a_.all uL=true) (aK: ∀(j:Nat) (a:AV),a_[j]?=some a→ ∃u,cells[j]?=some u∧cM E a u)
  (a3:aD (V2 E) args vs) (aI: ∀v,V2 E p v→v= .pointer (some ⟨bl,0,none⟩)) (hs:aD (tJ p (.ptr 0 g 0 0)) args ew) (jP:dF.all jM=true) (h:iW P f g ew a_ dF t):
  Calls P f vs.toArray E.w fun e w'=> ∃v E',e= .returned v∧E'.w=w'∧tI E bl (cp*a_.length) a_.length dF t v E':=by
 have ug:aD (V2 (E.one bl g a_.length cp)) ew vs:=⟨hs.1▸a3.1,fun i x u hx hu=>by
  have bf:i<args.length:=by have:=(List.getElem?_eq_some_iff.1 hx).1;have:=hs.1;omega
  have aL:=List.getElem?_eq_getElem bf
  rcases hs.2 i _ x aL hx with⟨br,rfl⟩ | h
  ·have hv:=a3.2 i _ u aL hu
   rw[br] at hv
   rw[aI u hv]
   exact .inr ⟨rfl,bl,rfl,by rw[Nat.zero_mul]⟩
  ·exact acW (E1:=E.one bl g a_.length cp) aS.e3 rfl rfl h (a3.2 i _ u aL hu)⟩
 refine(h.2 (E.one bl g a_.length cp) vs (fun _=>rfl) (aaX aS hL yE hw cY h1 hk aK) ug).mono ?_
 rintro e w' ⟨r,v,fg,E1,rfl,⟨B,rfl,BG⟩,rfl,aG,fL,hv,bk⟩
 have hg:E1.bF 0=g:=fL.fh 0 _ rfl
 obtain⟨hm,aP,hc⟩:=bk.le.m 0 (some bl) rfl hg
 have aP:E1.sz 0=a_.length:=aP
 have hc:E1.cp 0=cp:=hc
 obtain⟨blk,DS,ty2,q1,dX,q2,q3,q4,cR,c6⟩:=fL.heap 0 bl hm
 cases q1
 have wJ: ∀c,E1.PF c∨(∃j,j≠0∧E1.m j=some (some c))→E.w.heap.size≤c∧c<E1.w.heap.size:=by
  rintro c (hc | ⟨j,aN,Bu⟩)
  ·exact⟨(bk.fN c hc).elim (fun h=>h.elim) id,fL.fe c (fL.e3 c hc)⟩
  ·refine⟨(bk.qO c ⟨j,Bu⟩).elim (fun⟨b,hb⟩=> ?_) id,fL.gD c ⟨j,Bu⟩⟩
   rw[(uY hb).2] at Bu
   exact absurd (fL.h0 j 0 bl Bu hm) aN
 have oV: ∀c,c<E.w.heap.size→c≠bl→E1.w.heap[c]?=E.w.heap[c]?:=fun c hc cl=>bk.fi c hc (fun⟨b,hb⟩=>cl (uY hb).2) (fun⟨t,bq⟩=>by cases bq)
 have XK: ∀c,E1.PA c→E.PA c∨(E.w.heap.size≤c∧c<E1.w.heap.size):=fun c hc=>(bk.fM c hc).elim .inl fun h=> .inr ⟨h,fL.fe c hc⟩
 let E':Env:={E with w:=E1.w,PA:=fun c=>E.PA c∨E1.PA c∨(E1.PF c∨ ∃j,j≠0∧E1.m j=some (some c)),PF:=fun c=>E.PF c∨(E1.PF c∨ ∃j,j≠0∧E1.m j=some (some c))}
 let Aj:Env:={E1 with m:=fun j=>if j=0 then none else E1.m j,bF:=fun j=>if j=0 then g+1 else E1.bF j}
 have bh: ∀{j:Nat} {x:Option Nat},Aj.m j=some x→j≠0∧E1.m j=some x:=fun{j x} h=>by
  have h:(if j=0 then none else E1.m j)=some x:=h
  split at h
  ·cases h
  ·rename_i e;exact⟨e,h⟩
 have yQ: ∀{j:Nat},j≠0→Aj.bF j=E1.bF j:=fun{j} h=>if_neg h
 have hle:E1.gP Aj:=⟨fun _ h=>h,fun _ h=>h,fun _ _=>rfl,fun _ _=>rfl,fun b=>by
   by_cases e:b=0
   ·subst e;show E1.bF 0≤(if 0=0 then g+1 else E1.bF 0);rw[if_pos rfl,hg];omega
   ·rw[yQ e];exact Nat.le_refl _,fun b x hx qD=>by
   by_cases e:b=0
   ·subst e
    have qD:(if 0=0 then g+1 else E1.bF 0)=E1.bF 0:=qD
    rw[if_pos rfl,hg] at qD;omega
   ·exact⟨by show(if b=0 then none else E1.m b)=_;rw[if_neg e];exact hx,rfl,rfl⟩,fun _ _ h=>h⟩
 have pE: ∀{j:Nat} (x y:Blk),j≠0→(x::B)[j]?=(y::B)[j]?:=fun{j} x y aN=>by
  cases j with
  | zero=>exact absurd rfl aN
  | succ j=>rfl
 have XU:SimH Aj (⟨g+1,a_.length,[dF]⟩::B):=
  {heap:=fun b c hb=>by
    obtain⟨rT,hb⟩:=bh hb
    obtain⟨blk,vW,ty,fv,nk,fZ,fE,va,abA,abB⟩:=fL.heap b c hb
    refine⟨blk,vW,ty,by rw[pE _ ⟨g,a_.length,[dF]⟩ rT];exact fv,nk,fZ,fE,va,abA,fun i j row a h1 h2=> ?_⟩
    obtain⟨u,hu,g6⟩:=abB i j row a h1 h2
    exact⟨u,hu,g6.le hle.ca⟩
   fh:=fun b blk hb=>by
    by_cases e:b=0
    ·subst e;cases hb;rfl
    ·rw[yQ e];rw[pE _ ⟨g,a_.length,[dF]⟩ e] at hb;exact fL.fh b blk hb
   hz:=fun b hb=>by
    obtain⟨rT,hb⟩:=bh hb
    obtain⟨blk,fv,fZ⟩:=fL.hz b hb
    exact⟨blk,by rw[pE _ ⟨g,a_.length,[dF]⟩ rT];exact fv,fZ⟩
   fresh:=fun b hb=>by
    have hb:B.length+1≤b:=hb
    have:=fL.fresh b hb
    exact⟨by show(if b=0 then none else E1.m b)=none;rw[if_neg (by omega)];exact this.1,by rw[yQ (by omega)];exact this.2⟩
   h0:=fun b cn c h1 h2=>fL.h0 b cn c (bh h1).2 (bh h2).2
   jS:=fL.jS
   gU:=fun b t c h1 h2=>fL.gU b t c (bh h1).2 h2
   h3:=fun c hc ⟨b,hb⟩=>fL.h3 c hc ⟨b,(bh hb).2⟩
   iv:=fL.iv
   e3:=fL.e3
   fe:=fL.fe
   gD:=fun c ⟨b,hb⟩=>fL.gD c ⟨b,(bh hb).2⟩
   g9:=fL.g9}
 refine⟨v,E',rfl,rfl,rfl,rfl,rfl,rfl,rfl,fun c hc=> .inl hc,fun c hc=> .inl hc,fun c hc=>hc.elim (fun h=> .inl (aS.e3 c h)) (fun h=> .inr (.inr h)),fun c hc=> ?_,fun c hc=>hc.elim .inl (fun h=> .inr (wJ c h).1),
  bk.os,bk.tape,bk.output,bk.size,oV,⟨DS,ty2,q2,by rw[q3,aP,hc],?_,fun j a aN=> ?_⟩,?_⟩
 ·rcases hc with h | h | h
  ·exact .inl h
  ·exact XK c h
  ·exact .inr (wJ c h)
 ·have:=cR 0 dF rfl
  rw[aP] at this;exact this
 ·obtain⟨u,hu,g6⟩:=c6 0 j dF a rfl aN
  refine⟨u,by rw[Nat.zero_mul,Nat.zero_add] at hu;exact hu,?_⟩
  have hb:=List.all_eq_true.1 jP a (List.mem_of_getElem? aN)
  exact(AG hb g6).mono (fun _ _=>rfl) (fun _ _=>rfl) (fun c hc=> .inr (.inl hc)) (fun c hc=> .inr (.inl hc))
 ·refine acY (E':=E') XU rfl (fun c hc=> ?_) BG (hv.le hle)
  have:E1.PF c∨ ∃j,j≠0∧E1.m j=some (some c):=hc.elim .inl fun⟨j,aN⟩=> .inr ⟨j,bh aN⟩
  exact⟨.inr (.inr this),.inr this⟩
section
variable {E E':Env} {H:List Blk} {L:List (Nat×List AV)} {bl k n:Nat} {dF:List AV} {t:AV} {v:Value}
theorem tI.step (A:tI E bl k n dF t v E') (aS:SimH E H) (hL:E.gT bl∨E.kQ bl):Step E E':=
 {le:=⟨A.fM,A.fN,fun c hc=>A.fi c (aS.fe c hc) (fun e=>by subst e;exact hL.elim (aS.h3 c hc) (aS.iv c hc)),fun c hc=>A.fi c (aS.fe c (aS.e3 c hc)) (fun e=>by subst e;exact hL.elim (aS.h3 c (aS.e3 c hc)) (aS.iv c (aS.e3 c hc))),
   fun b=>by rw[A.bF];exact Nat.le_refl _,fun b x hx _=>by rw[A.m,A.sz,A.cp];exact⟨hx,rfl,rfl⟩,fun t c h=>by rw[A.mL];exact h⟩
  os:=A.os,tape:=A.tape,output:=A.output,size:=A.size
  fi:=fun c hc h1 h2=>A.fi c hc (fun e=>by subst e;exact hL.elim h1 h2)
  jx:=fun b c hb=> .inl (by rw[←A.m];exact hb)
  jR:=fun c ⟨t,bq⟩=> .inl ⟨t,by rw[←A.mL];exact bq⟩
  fM:=fun c hc=>(A.Cp c hc).elim .inl fun h=> .inr h.1
  fN:=A.aa8}
theorem tI.simH (A:tI E bl k n dF t v E') (aS:SimH E H) (hL:E.gT bl∨E.kQ bl) {H':List Blk} (hlen:H'.length=H.length) (hg: ∀(b:Nat) (x:Blk),H'[b]?=some x→ ∃y,H[b]?=some y∧x.bF=y.bF) (hs: ∀(b:Nat) (y:Blk),H[b]?=some y→ ∃x,H'[b]?=some x∧x.sz=y.sz)
  (hb: ∀b c,E.m b=some (some c)→(c≠bl∧H'[b]?=H[b]?)∨ ∃blk a_ ty,H'[b]?=some blk∧E.sz b=blk.sz∧E'.w.heap[c]?=some (.cells a_ ty (0,0))∧a_.size=E.cp b*E.sz b∧blk.rows.length≤E.cp b∧vJ E' (E.sz b) blk.rows a_):SimH E' H':=by
 have bk:=A.step aS hL
 have pQ: ∀c,E'.gT c→E.gT c:=fun c ⟨b,hb⟩=>⟨b,by rw[←A.m];exact hb⟩
 have FH: ∀c,E'.kQ c→E.kQ c:=fun c ⟨b,hb⟩=>⟨b,by rw[←A.mL];exact hb⟩
 have kt:=aS.gD
 have ku:=aS.g9
 exact{
  heap:=fun b c h=>by
   rw[A.m] at h
   rw[A.sz,A.cp]
   rcases hb b c h with⟨cl,he⟩ | h
   ·obtain⟨blk,a_,ty,q1,dX,q2,q3,q4,cR,c6⟩:=aS.heap b c h
    refine⟨blk,a_,ty,by rw[he];exact q1,dX,by rw[A.fi c (kt c ⟨b,h⟩) cl];exact q2,q3,q4,cR,fun i j row a h1 h2=> ?_⟩
    obtain⟨u,hu,g6⟩:=c6 i j row a h1 h2
    exact⟨u,hu,g6.le bk.le.ca⟩
   ·exact h
  fh:=fun b blk h=>by
   rw[A.bF]
   obtain⟨y,h1,h2⟩:=hg b blk h
   rw[h2];exact aS.fh b y h1
  hz:=fun b h=>by
   rw[A.m] at h
   obtain⟨y,h1,h2⟩:=aS.hz b h
   obtain⟨x,aO,bd⟩:=hs b y h1
   exact⟨x,aO,by rw[A.sz,bd];exact h2⟩
  fresh:=fun b h=>by rw[A.m,A.bF];exact aS.fresh b (by rw[←hlen];exact h)
  h0:=fun b cn c h1 h2=>by rw[A.m] at h1 h2;exact aS.h0 b cn c h1 h2
  jS:=fun t jZ c h1 h2=>by rw[A.mL] at h1 h2;exact aS.jS t jZ c h1 h2
  gU:=fun b t c h1 h2=>by rw[A.m] at h1;rw[A.mL] at h2;exact aS.gU b t c h1 h2
  h3:=fun c hc hi=>(A.Cp c hc).elim (fun h=>aS.h3 c h (pQ c hi)) (fun h=>absurd (kt c (pQ c hi)) (by omega))
  iv:=fun c hc hi=>(A.Cp c hc).elim (fun h=>aS.iv c h (FH c hi)) (fun h=>absurd (ku c (FH c hi)) (by omega))
  e3:=A.e3
  fe:=fun c hc=>(A.Cp c hc).elim (fun h=>Nat.lt_of_lt_of_le (aS.fe c h) A.size) (fun h=>h.2)
  gD:=fun c hc=>Nat.lt_of_lt_of_le (kt c (pQ c hc)) A.size
  g9:=fun c hc=>Nat.lt_of_lt_of_le (ku c (FH c hc)) A.size}
theorem tI.row (A:tI E bl k n dF t v E') (hk:dF.all jM=true) {cells:Array Value} {ty:TypeId} (hw:E'.w.heap[bl]?=some (.cells cells ty (0,0))):dF.length=n∧cells.size=k∧ ∀(j:Nat) (a:AV),dF[j]?=some a→ ∃u,cells[j]?=some u∧cM E'.ca a u:=by
 obtain⟨lW,ty2,q1,q2,q3,q4⟩:=A.new
 rw[hw] at q1
 cases q1
 refine⟨q3,q2,fun j a aN=> ?_⟩
 obtain⟨u,hu,aK⟩:=q4 j a aN
 exact⟨u,hu,bH.v1 (E:=E'.ca) aK⟩
end
theorem Ug {P:Program} {f:FuncId} {vs:List Value} {E:Env} {H:List Blk} {L:List (Nat×List AV)} {args ew a_ dF:List AV} {t:AV} {b g:Nat} (aS:SimH E H) (b1:SimL E L) (hb:H[b]?=some ⟨g,a_.length,[a_]⟩) (hk:a_.all uL=true) (jP:dF.all jM=true)
  (a3:aD (V2 E) args vs) (hm:AV.ptr b g 0 0∈args) (hs:aD (tJ (.ptr b g 0 0) (.ptr 0 g 0 0)) args ew) (h:iW P f g ew a_ dF t):
  Calls P f vs.toArray E.w fun e w'=> ∃v E',e= .returned v∧E'.w=w'∧Step E E'∧SimH E' (H.set b ⟨g,a_.length,[dF]⟩)∧SimL E' L∧V3 E' t v∧E'.mL=E.mL:=by
 have kr:=aS.fh b _ hb
 have k8: ∀v,V2 E (.ptr b g 0 0) v→ ∃bl,E.m b=some (some bl)∧v= .pointer (some ⟨bl,0,none⟩):=fun v hv=>by
  obtain⟨bl,hm,rfl⟩:=V3.Cu (E:=E) (v:=v) (show V3 E (.ptr b g 0 0) v from hv) kr
  exact⟨bl,hm,by rw[Nat.zero_mul]⟩
 obtain⟨i,hi,he⟩:=List.mem_iff_getElem.1 hm
 have gg:i<vs.length:=a3.1▸hi
 have hX:=a3.2 i _ _ (List.getElem?_eq_getElem hi) (List.getElem?_eq_getElem gg)
 rw[he] at hX
 obtain⟨bl,kN,_⟩:=k8 _ hX
 obtain⟨blk,cells,ty,q1,dX,q2,q3,q4,cR⟩:=aS.heap b bl kN
 rw[hb] at q1
 cases q1
 have dX:E.sz b=a_.length:=dX
 have hL:bl<E.w.heap.size:=aS.gD bl ⟨b,kN⟩
 refine(Ke (bl:=bl) (cp:=E.cp b) aS hL (fun h=>aS.h3 bl h ⟨b,kN⟩) q2 (by rw[q3,dX]) q4 hk (fun j a aN=> ?_) a3 (fun v hv=> ?_) hs jP h).mono ?_
 ·obtain⟨u,hu,g6⟩:=cR.2 0 j a_ a rfl aN
  exact⟨u,by rw[Nat.zero_mul,Nat.zero_add] at hu;exact hu,g6.up⟩
 ·obtain⟨TU,h1,rfl⟩:=k8 v hv
  rw[kN] at h1;cases h1;rfl
 rintro e w' ⟨v,E',rfl,rfl,A⟩
 have rZ:E.gT bl∨E.kQ bl:= .inl ⟨b,kN⟩
 have bk:=A.step aS rZ
 refine⟨v,E',rfl,rfl,bk,A.simH aS rZ (by rw[List.length_set]) (fun j x hx=> ?_) (fun j y bm=> ?_) (fun j c aN=> ?_),fun u c hu=> ?_,A.nr,A.mL⟩
 ·rw[List.getElem?_set] at hx
  split at hx
  ·rename_i e;subst e
   split at hx
   ·cases hx;exact⟨_,hb,rfl⟩
   ·cases hx
  ·exact⟨x,hx,rfl⟩
 ·rw[List.getElem?_set]
  split
  ·rename_i e;subst e
   rw[hb] at bm;cases bm
   rw[if_pos (List.getElem?_eq_some_iff.1 hb).1];exact⟨_,rfl,rfl⟩
  ·exact⟨y,bm,rfl⟩
 ·by_cases e:j=b
  ·subst e
   rw[kN] at aN
   cases aN
   obtain⟨lW,ty2,fv,fZ,fE,va⟩:=A.new
   obtain⟨s1,s2,lh⟩:=A.row jP fv
   refine .inr ⟨⟨g,a_.length,[dF]⟩,lW,ty2,by rw[List.getElem?_set,if_pos rfl,if_pos (List.getElem?_eq_some_iff.1 hb).1],dX,fv,by rw[fZ,dX],q4,fun i row aK=> ?_,fun i j row a aK aN=> ?_⟩
   ·cases i with
    | zero=>cases aK;rw[dX];exact s1
    | succ i=>cases aK
   ·cases i with
    | zero=>
     cases aK
     obtain⟨u,hu,g6⟩:=lh j a aN
     exact⟨u,by rw[Nat.zero_mul,Nat.zero_add];exact hu,g6⟩
    | succ i=>cases aK
  ·refine .inl ⟨fun h=>e ?_,by rw[List.getElem?_set,if_neg (fun h=>e h.symm)]⟩
   subst h;exact aS.h0 j b c aN kN
 ·rw[A.mL] at hu
  obtain⟨vW,lW,ty2,fv,fZ,fE⟩:=b1 u c hu
  exact⟨vW,lW,ty2,fv,by rw[A.fi c (aS.g9 c ⟨u,hu⟩) (fun e=>by subst e;exact aS.gU b u c kN hu)];exact fZ,fE.mono fun _ _ k=>k.le bk.le.ca⟩
theorem Uh {P:Program} {f:FuncId} {vs:List Value} {E:Env} {H:List Blk} {L:List (Nat×List AV)} {args ew a_ dF:List AV} {t:AV} {x:Nat} (aS:SimH E H) (b1:SimL E L) (hx:e0 L x=some a_) (hk:a_.all uL=true) (jP:dF.all jM=true)
  (a3:aD (V2 E) args vs) (hm:AV.fH x 0∈args) (hs:aD (tJ (.fH x 0) (.ptr 0 0 0 0)) args ew) (h:iW P f 0 ew a_ dF t):
  Calls P f vs.toArray E.w fun e w'=> ∃v E',e= .returned v∧E'.w=w'∧Step E E'∧SimH E' H∧SimL E' (lk L x dF)∧V3 E' t v∧E'.mL=E.mL:=by
 have k8: ∀v,V2 E (.fH x 0) v→ ∃bl,E.mL x=some bl∧v= .pointer (some ⟨bl,0,none⟩):=fun v hv=>hv
 obtain⟨i,hi,he⟩:=List.mem_iff_getElem.1 hm
 have gg:i<vs.length:=a3.1▸hi
 have hX:=a3.2 i _ _ (List.getElem?_eq_getElem hi) (List.getElem?_eq_getElem gg)
 rw[he] at hX
 obtain⟨bl,kN,_⟩:=k8 _ hX
 obtain⟨vW,cells,ty,q1,q2,q3⟩:=b1 x bl kN
 rw[hx] at q1
 cases q1
 have hL:bl<E.w.heap.size:=aS.g9 bl ⟨x,kN⟩
 have cY:cells.size=1*a_.length:=by rw[Nat.one_mul];exact q3.1.symm
 refine(Ke (bl:=bl) (cp:=1) aS hL (fun h=>aS.iv bl h ⟨x,kN⟩) q2 cY (Nat.le_refl _) hk (fun j a aN=> ?_) a3 (fun v hv=> ?_) hs jP h).mono ?_
 ·obtain⟨u,hu,g6⟩:=q3.get aN
  exact⟨u,by rw[Array.getElem?_toList] at hu;exact hu,g6.up⟩
 ·obtain⟨TU,h1,rfl⟩:=k8 v hv
  rw[kN] at h1;cases h1;rfl
 rintro e w' ⟨v,E',rfl,rfl,A⟩
 have rZ:E.gT bl∨E.kQ bl:= .inr ⟨x,kN⟩
 have bk:=A.step aS rZ
 refine⟨v,E',rfl,rfl,bk,A.simH aS rZ rfl (fun j y bm=>⟨y,bm,rfl⟩) (fun j y bm=>⟨y,bm,rfl⟩) (fun j c aN=> .inl ⟨fun e=>by subst e;exact aS.gU j x c aN kN,rfl⟩),fun u c hu=> ?_,A.nr,A.mL⟩
 rw[A.mL] at hu
 rw[yx]
 by_cases e:u=x
 ·subst e
  rw[kN] at hu
  cases hu
  obtain⟨lW,ty2,fv,fZ,fE,va⟩:=A.new
  obtain⟨s1,s2,lh⟩:=A.row jP fv
  rw[if_pos rfl,hx]
  refine⟨dF,lW,ty2,rfl,fv,by show dF.length=lW.size;rw[s1,s2,Nat.one_mul],fun j a v aN hv=> ?_⟩
  obtain⟨agt,nI,g6⟩:=lh j a aN
  rw[Array.getElem?_toList,nI] at hv
  cases hv;exact g6
 ·rw[if_neg e]
  obtain⟨nz,lW,ty2,fv,fZ,fE⟩:=b1 u c hu
  exact⟨nz,lW,ty2,fv,by rw[A.fi c (aS.g9 c ⟨u,hu⟩) (fun h=>by subst h;exact e (aS.jS u x c hu kN))];exact fZ,fE.mono fun _ _ k=>k.le bk.le.ca⟩
def Kd (P:Program) (f:FuncId) (args:List AV) (L:List (Nat×List AV)) (H:List Blk) (K:oF Prop):Prop:=
 ∃ew a_ dF t,a_.all uL=true∧dF.all jM=true∧
  ((∃b g,H[b]?=some ⟨g,a_.length,[a_]⟩∧AV.ptr b g 0 0∈args∧aD (tJ (.ptr b g 0 0) (.ptr 0 g 0 0)) args ew∧iW P f g ew a_ dF t∧K t L (H.set b ⟨g,a_.length,[dF]⟩))∨
   ∃x,e0 L x=some a_∧AV.fH x 0∈args∧aD (tJ (.fH x 0) (.ptr 0 0 0 0)) args ew∧iW P f 0 ew a_ dF t∧K t (lk L x dF) H)
theorem Uf {P:Program} {f:FuncId} {args:List AV} {L:List (Nat×List AV)} {H:List Blk} {E:Env} {vs:List Value} {K:AV→List (Nat×List AV)→List Blk→Prop} (aS:SimH E H) (b1:SimL E L) (a3:aD (V2 E) args vs) (h:Kd P f args L H K):
  uX P f=true∧Calls P f vs.toArray E.w fun e w'=> ∃v u L' H' E',e= .returned u∧K v L' H'∧E'.w=w'∧Step E E'∧SimH E' H'∧SimL E' L'∧V3 E' v u∧E'.mL=E.mL:=by
 obtain⟨ew,a_,dF,t,hk,jP,⟨b,g,hb,hm,hs,hf,hK⟩ | ⟨x,hx,hm,hs,hf,hK⟩⟩:=h
 ·refine⟨hf.1,(Ug aS b1 hb hk jP a3 hm hs hf).mono ?_⟩
  rintro e w' ⟨v,E',rfl,rfl,h1,h2,aO,bd,ch⟩
  exact⟨t,v,L,_,E',rfl,hK,rfl,h1,h2,aO,bd,ch⟩
 ·refine⟨hf.1,(Uh aS b1 hx hk jP a3 hm hs hf).mono ?_⟩
  rintro e w' ⟨v,E',rfl,rfl,h1,h2,aO,bd,ch⟩
  exact⟨t,v,_,H,E',rfl,hK,rfl,h1,h2,aO,bd,ch⟩
def Uc (P:Program) (f:FuncId) (args:List AV) (L:List (Nat×List AV)) (H:List Blk) (K:oF Prop):Prop:=
 args.all e7=true∧ ∃ew,aD (dc L H) args ew∧dH P f ew [] fun r fg=>xh r=true∧th fg=true∧K (mI H.length r) L (H++fg.map (ll H.length))
def Ua (P:Program) (f:FuncId) (args:List AV) (L:List (Nat×List AV)) (H:List Blk) (K:oF Prop):Prop:=
 args.all e7=true∧args.all kc=true∧dH P f args H fun r H'=>w9 r=true∧K r L H'
def lv (P:Program) (f:FuncId) (args:List AV) (L:List (Nat×List AV)) (H:List Blk) (K:oF Prop):Prop:=
 oP P f args L H (fun r=>K r L H)∨Uc P f args L H K∨Ua P f args L H K∨(args.all e7=true∧Kd P f args L H K)
def KK (P:Program) (c:Call) (bR:Operand→AV) (L:List (Nat×List AV)) (H:List Blk) (K:oF Prop):Prop:=match c.callee with
 | .builtin .len=>El P c bR L H fun r=>K r L H
 | .builtin .append=>(match c.args.toList,c.argTypes.toList with
  | [s,x],[t,t2]=>e7 (bR s)=true∧e7 (bR x)=true∧tR P t t2 (bR s) (bR x) L H K
  | _,_=>False)
 | .value f=>lX (bR f) fun g caps=>lv P g (c.args.toList.map bR++caps) L H K
 | _=>False
def kn (P:Program) (esc:List Nat) (o:Oper) (bR:Operand→AV) (L:List (Nat×List AV)) (H:List Blk) (K:oF Prop):Prop:=match o.op with
 | .store t a v=>e8 (e7 (bR v)) (mh P t (bR a) (bR v) L H fun L' H'=>K (.tup []) L' H')
 | .alloc e=>c5 (ns P e) fun z=>uT esc o.dst z L H K
 | .box e x=>e8 (e7 (bR x)) (uT esc o.dst (fj (bR x)) L H K)
 | .makeSlice t l c=>w4 P t (bR l) (bR c) L H K
 | .buildSlice t n ps=>e8 (ps.toList.all fun p=>e7 (bR p.2)) (tX P (ud esc o.dst) (ve esc) t n (ps.toList.map fun p=>(p.1,bR p.2)) L H K)
 | .call c=>KK P c bR L H K
 | _=>sN P o bR L H fun r=>K r L H
theorem Ao {E:Env} {a:AV} {v:Value} (h:e7 a=true) (hv:V3 E a v):V2 E a v:=by
 rwa [oL (w_ h)] at hv
theorem Ud {P:Program} {f:FuncId} {args:List AV} {L:List (Nat×List AV)} {H:List Blk} {E:Env} {vs:List Value} {K:AV→List (Nat×List AV)→List Blk→Prop} (aS:SimH E H) (b1:SimL E L)
  (a3:aD (V2 E) args vs) (h:lv P f args L H K):
  uX P f=true∧Calls P f vs.toArray E.w fun e w'=> ∃v u L' H' E',e= .returned u∧K v L' H'∧E'.w=w'∧Step E E'∧SimH E' H'∧SimL E' L'∧V3 E' v u∧E'.mL=E.mL:=by
 rcases h with⟨aG,ew,t,hs,pI,hK⟩ | ⟨aG,ew,hs,pI⟩ | ⟨aG,aL,pI⟩ | ⟨aG,aI⟩
 ·refine⟨pI.1,(Kf (Sub.refl L H) aS b1 a3 hs pI).mono ?_⟩
  rintro e w' ⟨v,E',rfl,rfl,ak,hv⟩
  exact⟨t,v,L,H,E',rfl,hK,rfl,ak.step,ak.simH aS,ak.simL aS b1,hv,ak.mL⟩
 ·refine⟨pI.1,(Ue (Q:=fun r fg=>K (mI H.length r) L (H++fg.map (ll H.length))) aS b1 a3 hs pI).mono ?_⟩
  rintro e w' ⟨r,v,fg,E',rfl,hK,rfl,bk,h1,h2,hv,hml⟩
  exact⟨_,v,L,_,E',rfl,hK,rfl,bk,h1,h2,hv,hml⟩
 ·refine⟨pI.1,(Ub (Q:=fun r H'=>K r L H') aS b1 a3 aL pI).mono ?_⟩
  rintro e w' ⟨r,v,H',E',rfl,hK,rfl,bk,h1,h2,hv,hml⟩
  exact⟨_,v,L,_,E',rfl,hK,rfl,bk,h1,h2,hv,hml⟩
 ·exact Uf aS b1 a3 aI
theorem T_ {P:Program} {f:FuncId} {args:List AV} {L:List (Nat×List AV)} {H:List Blk} {K:AV→List (Nat×List AV)→List Blk→Prop} (h:lv P f args L H K):args.all e7=true:=by
 rcases h with⟨aG,_⟩ | ⟨aG,_⟩ | ⟨aG,_⟩ | ⟨aG,_⟩<;>exact aG
set_option maxHeartbeats 1000000 in
theorem evOp_sound {P:Program} {esc:List Nat} {o:Oper} {a:Act} {T:List AV} {E:Env} {L:List (Nat×List AV)} {H:List Blk} {K:AV→List (Nat×List AV)→List Blk→Prop} {Q:Exit→Act→World→Prop}
  (cu: ∀t,V3 E (T.getD t .undef) (a.tmps.getD t undef)) (aS:SimH E H) (b1:SimL E L) (h:kn P esc o (cr T) L H K):o.wp P a E.w (Dk E o a K) Q:=by
 have fin: ∀{s:Sem Value},(execOp a.eval o=(do pure (Next.value (←s))))→(∃v L' H' E' u,K v L' H'∧s.run P E.w= .ok u E'.w∧Step E E'∧SimH E' H'∧SimL E' L'∧V3 E' v u∧ ∀t,o.dst≠some t→E'.mL t=E.mL t)→o.wp P a E.w (Dk E o a K) Q:=by
  rintro s hs ⟨v,L',H',E',u,hK,aK,h1,h2,aO,bd,ch⟩
  unfold Oper.wp
  rw[hs]
  exact Jm aK ⟨v,u,L',H',E',hK,rfl,h1,h2,aO,bd,rfl,ch⟩
 have PD:sN P o (cr T) L H (fun r=>K r L H)→o.wp P a E.w (Dk E o a K) Q:=fun h=>
  Oper.wp_mono (fun ij w' ⟨v,u,E',hK,hw,ak,hv,a3⟩=>⟨v,u,L,H,E',hK,hw,ak.step,ak.simH aS,ak.simL aS b1,hv,a3,fun t _=>by rw[ak.mL]⟩) (KS cu (Sub.refl L H) aS b1 h)
 obtain⟨dst,op,ty,pos,after,guard⟩:=o
 cases op with
 | store t x v=>
  obtain⟨aG,h⟩:=pY (show e8 (e7 (cr T v)) (mh P t (cr T x) (cr T v) L H fun L' H'=>K (.tup []) L' H') from h)
  obtain⟨L',H',E',hK,aK,h1,h2,aO,hml⟩:=ae0 aS b1 (opv_rel cu x) (Ao aG (opv_rel cu v)) h
  unfold Oper.wp
  have:(execOp a.eval ⟨dst,.store t x v,ty,pos,after,guard⟩).run P E.w= .ok .skip E'.w:=by
   simp only[execOp,Sem.run_bind,aK,Sem.run_pure,Result.andThen_ok]
  rw[this]
  exact⟨.tup [],_,L',H',E',hK,rfl,h1,h2,aO,⟨[],rfl,aD.nil⟩,rfl,fun t _=>by rw[hml]⟩
 | alloc e=>
  obtain⟨z,aP,h⟩:=fC (show c5 (ns P e) fun z=>uT esc dst z L H K from h)
  obtain⟨i,v,q1,q2,q3,q4⟩:=vD (E:=E) aP
  obtain⟨r,L',H',E',hK,hw,h1,h2,aO,bd,hml⟩:=OG (ty:=e) aS b1 q4 h
  refine fin (s:=Instr.alloc e true (.tuple #[])) rfl ⟨r,L',H',E',_,hK,?_,h1,h2,aO,bd,hml⟩
  rw[hw]
  simp[Instr.alloc,zeroValue,typeInfo,q1,q2,newVar,newRow]
 | box e x=>
  obtain⟨aG,h⟩:=pY (show e8 (e7 (cr T x)) (uT esc dst (fj (cr T x)) L H K) from h)
  have hs:(fj (cr T x)).all jk=true:=by
   unfold uT at h;split at h
   ·rename_i q;exact q
   ·exact h.elim
  obtain⟨r,L',H',E',hK,hw,h1,h2,aO,bd,hml⟩:=OG (ty:=e) aS b1 (DI (Ao aG (opv_rel cu x)) hs) h
  refine fin (s:=Instr.box e (a.eval x)) rfl ⟨r,L',H',E',_,hK,?_,h1,h2,aO,bd,hml⟩
  rw[hw]
  simp[Instr.box,newVar,newRow]
 | makeSlice t l c=>
  obtain⟨v,L',H',E',u,hK,aK,h1,h2,aO,bd,hml⟩:=aaL aS b1 (opv_rel cu l) (opv_rel cu c) (show w4 P t (cr T l) (cr T c) L H K from h)
  exact fin (s:=Instr.makeSlice t (a.eval l) (a.eval c)) rfl ⟨v,L',H',E',u,hK,aK,h1,h2,aO,bd,fun t _=>by rw[hml]⟩
 | buildSlice t n ps=>
  obtain⟨aG,h⟩:=pY (show e8 (ps.toList.all fun p=>e7 (cr T p.2)) (tX P (ud esc dst) (ve esc) t n (ps.toList.map fun p=>(p.1,cr T p.2)) L H K) from h)
  obtain⟨v,u,L',H',E',hK,aK,h1,h2,aO,bd,hml⟩:=TX aS b1 (G7 cu ps.toList fun p aI=>w_ (List.all_eq_true.1 aG p aI)) h
  exact fin (s:=Instr.buildSlice t n (ps.toList.map fun p=>(p.1,a.eval p.2)).toArray) (by rw[parts_eq];rfl) ⟨v,L',H',E',u,hK,aK,h1,h2,aO,bd,fun t _=>by rw[hml]⟩
 | call c=>
  have h:KK P c (cr T) L H K:=h
  obtain⟨callee,args,argTypes⟩:=c
  cases callee with
  | builtin b=>
   cases b with
   | len=>exact PD h
   | append=>
    have h:(match args.toList,argTypes.toList with
     | [s,x],[t,t2]=>e7 (cr T s)=true∧e7 (cr T x)=true∧tR P t t2 (cr T s) (cr T x) L H K
     | _,_=>False):=h
    split at h
    ·rename_i s x t t2 h1 h2
     obtain rfl:args= #[s,x]:=by rw[←Array.toArray_toList (xs:=args),h1]
     obtain rfl:argTypes= #[t,t2]:=by rw[←Array.toArray_toList (xs:=argTypes),h2]
     obtain⟨l9,n2,h⟩:=h
     obtain⟨r,u,H',E',hK,aK,q1,q2,q3,q4,hml⟩:=TE (ty:=ty) aS b1 (Ao l9 (opv_rel cu s)) (Ao n2 (opv_rel cu x)) h
     unfold Oper.wp
     have:(execOp a.eval ⟨dst,.call ⟨.builtin .append,#[s,x],#[t,t2]⟩,ty,pos,after,guard⟩).run P E.w= .ok (.value u) E'.w:=by
      simp only[execOp,resolve,Sem.run_bind,Sem.run_pure,Result.andThen_ok,invoke,builtin]
      have e:Array.map a.eval #[s,x]= #[a.eval s,a.eval x]:=by simp
      rw[e,aK];rfl
     rw[this]
     exact⟨r,u,L,H',E',hK,rfl,q1,q2,q3,q4,rfl,fun t _=>by rw[hml]⟩
    ·exact h.elim
   | _=>exact h.elim
  | value f=>
   have h:lX (cr T f) fun g caps=>lv P g (args.toList.map (cr T)++caps) L H K:=h
   cases hf:cr T f with
   | fn g caps=>
    rw[hf] at h
    have h:lv P g (args.toList.map (cr T)++caps) L H K:=h
    have aG:=T_ h
    obtain⟨vs,he,ul⟩:=Kg cu hf
    have ET:aD (V2 E) (args.toList.map (cr T)++caps) (args.toList.map a.eval++vs):=
     aD.append (JS cu args.toList fun x hx=>w_ (List.all_eq_true.1 aG _ (by simp;exact .inl ⟨x,by simpa using hx,rfl⟩))) ul
    obtain⟨fA,hc⟩:=Ud aS b1 ET h
    unfold Oper.wp
    rw[show execOp a.eval ⟨dst,.call ⟨.value f,args,argTypes⟩,ty,pos,after,guard⟩=(do let d ←resolve a.eval ⟨.value f,args,argTypes⟩ ty;invoke d.target d.args) from rfl]
    rw[PX (P:=P) (ty:=ty) (w:=E.w) (c:=⟨.value f,args,argTypes⟩) rfl he fA]
    refine hc.mono ?_
    rintro e w' ⟨v,u,L',H',E',rfl,hK,rfl,q1,q2,q3,q4,hml⟩
    exact⟨v,u,L',H',E',hK,rfl,q1,q2,q3,q4,rfl,fun t _=>by rw[hml]⟩
   | _=>rw[hf] at h;exact h.elim
  | _=>exact h.elim
 | _=>exact PD h
def pv (lit:Bool) (b:Bool) (x y:Prop):Prop:=match lit with
 | true=>(match b with
  | true=>x
  | false=>y)
 | false=>yd b x y
theorem AF {lit b:Bool} {x y:Prop} (h:pv lit b x y):(b=true→x)∧(b=false→y):=by
 cases lit with
 | false=>exact h
 | true=>cases b<;>exact⟨fun e=>by cases e<;>exact h,fun e=>by cases e<;>exact h⟩
def putA (T:List AV) (dst:Option Nat) (v:AV):List AV:=match dst with
 | some d=>T.set d v
 | none=>T
def og (ops:Array Oper) (lit:Bool) (o:Oper) (T:List AV) (x y:List AV→Prop):Prop:=match o.guard with
 | none=>x T
 | some (j,b5)=>match(ops[j]?).bind (·.dst) with
  | none=>False
  | some t=>match T.getD t .undef with
   | .bool b=>pv lit b (if b5=true then x (T.set t (.bool true)) else y (T.set t (.bool true))) (if b5=true then y (T.set t (.bool false)) else x (T.set t (.bool false)))
   | .tup []=>y T
   | _=>False
def u4 (lit:Bool) (o:Oper) (T:List AV) (K:AV→Prop) (AU:Prop):Prop:=match o.op with
 | .pick c x y=>oN (cr T c) fun z=>pv lit z (K (cr T x)) (K (cr T y))
 | _=>AU
def evOps (P:Program) (esc:List Nat) (ops:Array Oper):List (Oper×Bool)→List AV→List (Nat×List AV)→List Blk→(List AV→List (Nat×List AV)→List Blk→Prop)→Prop
 | [],T,L,H,K=>K T L H
 | (o,lit)::rest,T,L,H,K=>og ops lit o T
   (fun T=>u4 lit o T (fun v=>evOps P esc ops rest (putA T o.dst v) L H K) (kn P esc o (cr T) L H fun v L' H'=>evOps P esc ops rest (putA T o.dst v) L' H' K))
   (fun T=>evOps P esc ops rest (putA T o.dst (.tup [])) L H K)
theorem rQ {T:List AV} {d t:Nat} {v:AV}:(T.set d v).getD t .undef=if d=t∧d<T.length then v else T.getD t .undef:=by
 rw[List.getD_eq_getElem?_getD,List.getD_eq_getElem?_getD,List.getElem?_set]
 by_cases h:d=t
 ·subst h
  by_cases aL:d<T.length
  ·simp[aL]
  ·simp[aL]
 ·simp[h]
theorem Qy {E:Env} {T:List AV} {a:Act} (cu: ∀t,V3 E (T.getD t .undef) (a.tmps.getD t undef)) (hs:T.length=a.tmps.size) {dst:Option Nat} {v:AV} {u:Value} (hv:V3 E v u):
  (∀t,V3 E ((putA T dst v).getD t .undef) ((a.put dst u).tmps.getD t undef))∧(putA T dst v).length=(a.put dst u).tmps.size:=by
 cases dst with
 | none=>exact⟨cu,hs⟩
 | some d=>
  refine⟨fun t=> ?_,by simp[putA,Act.put,hs]⟩
  show V3 E ((T.set d v).getD t .undef) ((a.tmps.setIfInBounds d u).getD t undef)
  rw[rQ,Array.getD_eq_getD_getElem?,Array.getElem?_setIfInBounds]
  by_cases h:d=t
  ·subst h
   by_cases aL:d<T.length
   ·have qF:d<a.tmps.size:=hs▸aL
    simp[aL,qF];exact hv
   ·have qF: ¬d<a.tmps.size:=hs▸aL
    have:=cu d
    rw[Array.getD_eq_getD_getElem?] at this
    simp[aL,qF] at this ⊢
    exact this
  ·have:=cu t
   rw[Array.getD_eq_getD_getElem?] at this
   simp[h];exact this
theorem acT {E:Env} {T:List AV} {a:Act} (cu: ∀t,V3 E (T.getD t .undef) (a.tmps.getD t undef)) {t:Nat} {b:Bool} (h:T.getD t .undef= .bool b):
  ∀s,V3 E ((T.set t (.bool b)).getD s .undef) (a.tmps.getD s undef):=fun s=>by
 rw[rQ]
 by_cases hs:t=s∧t<T.length
 ·rw[if_pos hs,←h,hs.1];exact cu s
 ·rw[if_neg hs];exact cu s
theorem afH {ops:Array Oper} {a:Act} {T:List AV} {E:Env} (cu: ∀t,V3 E (T.getD t .undef) (a.tmps.getD t undef)) {j t:Nat} {b:Bool} (aN:(ops[j]?).bind (·.dst)=some t) (h:T.getD t .undef= .bool b) (hs:T.length=a.tmps.size):
  yielded ops a.tmps j=some b:=by
 have hv:=cu t
 rw[h] at hv
 have he:a.tmps.getD t undef= .bool b:=V3.rG hv
 unfold yielded
 rw[aN]
 rw[Array.getD_eq_getD_getElem?] at he
 cases ak:a.tmps[t]? with
 | none=>rw[ak] at he;cases he
 | some x=>rw[ak] at he;have:x= .bool b:=he;subst this;simp[ak]
theorem afI {ops:Array Oper} {a:Act} {T:List AV} {E:Env} (cu: ∀t,V3 E (T.getD t .undef) (a.tmps.getD t undef)) {j t:Nat} (aN:(ops[j]?).bind (·.dst)=some t) (h:T.getD t .undef= .tup []):
  yielded ops a.tmps j=none:=by
 have hv:=cu t
 rw[h] at hv
 obtain⟨vs,he,aI⟩:=(show ∃vs:List Value,a.tmps.getD t undef= .tuple vs.toArray∧aD (V2 E) [] vs from hv)
 obtain rfl:=aI.w7
 unfold yielded
 rw[aN]
 rw[Array.getD_eq_getD_getElem?] at he
 cases ak:a.tmps[t]? with
 | none=>simp[ak]
 | some x=>rw[ak] at he;have:x= .tuple #[]:=he;subst this;simp[ak]
theorem Wi {P:Program} {ops:Array Oper} {lit:Bool} {o:Oper} {a:Act} {T:List AV} {E:Env} {w:World} {x y:List AV→Prop} {R:Prop}
  (cu: ∀t,V3 E (T.getD t .undef) (a.tmps.getD t undef)) (hs:T.length=a.tmps.size) (h:og ops lit o T x y)
  (rz: ∀T',Region.wanted o (yielded ops a.tmps)=true→(∀t,V3 E (T'.getD t .undef) (a.tmps.getD t undef))→T'.length=a.tmps.size→x T'→R)
  (no: ∀T',Region.wanted o (yielded ops a.tmps)=false→(∀t,V3 E (T'.getD t .undef) (a.tmps.getD t undef))→T'.length=a.tmps.size→y T'→R):R:=by
 unfold og at h
 cases hg:o.guard with
 | none=>rw[hg] at h;exact rz T (by simp[Region.wanted,hg]) cu hs h
 | some g=>
  obtain⟨j,b5⟩:=g
  rw[hg] at h
  simp only at h
  cases aN:(ops[j]?).bind (·.dst) with
  | none=>rw[aN] at h;exact h.elim
  | some t=>
   rw[aN] at h
   simp only at h
   split at h
   ·rename_i b hb
    have bm:=afH (ops:=ops) cu aN hb hs
    have hk:=acT cu hb
    obtain⟨h1,h2⟩:=AF h
    cases b with
    | true=>
     have h:=h1 rfl
     cases b5 with
     | true=>exact rz _ (by simp[Region.wanted,hg,bm]) hk (by simpa using hs) h
     | false=>exact no _ (by simp[Region.wanted,hg,bm]) hk (by simpa using hs) h
    | false=>
     have h:=h2 rfl
     cases b5 with
     | true=>exact no _ (by simp[Region.wanted,hg,bm]) hk (by simpa using hs) h
     | false=>exact rz _ (by simp[Region.wanted,hg,bm]) hk (by simpa using hs) h
   ·rename_i hb
    have bm:=afI (ops:=ops) cu aN hb
    exact no T (by simp[Region.wanted,hg,bm]) cu hs h
   ·exact h.elim
theorem A1 [cL] {P:Program} {esc:List Nat} {ops:Array Oper} {Q:Exit→St→Prop} {cz:Env}: ∀(l:List (Oper×Bool)) (T:List AV) (L:List (Nat×List AV)) (H:List Blk) (E:Env) (a:Act),
  Good cz E→tO E ⟨T,L,H⟩ a.tmps→a.defers=[]→evOps P esc ops l T L H (fun T L H=>Q .normal ⟨T,L,H⟩)→wpList P ops (nx cz Q) (l.map (·.1)) a E.w
 | [],T,L,H,E,a,hg,hs,bh,h=>⟨rfl,⟨T,L,H⟩,E,h,rfl,hg,hs,bh⟩
 | (o,lit)::rest,T,L,H,E,a,hg,hs,bh,h=>by
  have cu: ∀t,V3 E (T.getD t .undef) (a.tmps.getD t undef):=hs.iA
  show if Region.wanted o (yielded ops a.tmps) then o.wp P a E.w (wpList P ops (nx cz Q) (rest.map (·.1))) (nx cz Q)∨_ else wpList P ops (nx cz Q) (rest.map (·.1)) (a.put o.dst undef) E.w
  refine Wi (P:=P) (w:=E.w) cu hs.size h (fun T' hw hT' l7 h'=> ?_) (fun T' hw hT' l7 h'=> ?_)
  ·rw[if_pos hw]
   refine .inl ?_
   have next: ∀(v:AV) (u:Value) (L':List (Nat×List AV)) (H':List Blk) (E':Env),Step E E'→SimH E' H'→SimL E' L'→V3 E' v u→evOps P esc ops rest (putA T' o.dst v) L' H' (fun T L H=>Q .normal ⟨T,L,H⟩)→
     wpList P ops (nx cz Q) (rest.map (·.1)) (a.put o.dst u) E'.w:=fun v u L' H' E' q1 q2 q3 q4 hK=>by
    obtain⟨fv,fZ⟩:=Qy (fun t=>(hT' t).le q1.le) l7 (dst:=o.dst) q4
    refine A1 rest _ _ _ E' (a.put o.dst u) (hg.step q1) ⟨q2,q3,fv,fZ⟩ ?_ hK
    cases o.dst<;>exact bh
   have bF:(kn P esc o (cr T') L H fun v L' H'=>evOps P esc ops rest (putA T' o.dst v) L' H' (fun T L H=>Q .normal ⟨T,L,H⟩))→o.wp P a E.w (wpList P ops (nx cz Q) (rest.map (·.1))) (nx cz Q):=fun h'=>
    Oper.wp_mono (fun ij w' ⟨v,u,L',H',E',hK,e4,q1,q2,q3,q4,a3,_⟩=>by
     subst a3;subst e4
     exact next v u L' H' E' q1 q2 q3 q4 hK) (evOp_sound hT' hs.h hs.l h')
   unfold u4 at h'
   split at h'
   ·rename_i c x y fW
    obtain⟨b,hb,b0⟩:=Av h'
    obtain⟨h1,h2⟩:=AF b0
    have hv:=opv_rel hT' c
    rw[hb] at hv
    have he:a.eval c= .bool b:=V3.rG hv
    unfold Oper.wp
    have hx: ∀z,(z=if b=true then a.eval x else a.eval y)→(execOp a.eval o).run P E.w= .ok (.value z) E.w:=fun z aP=>by
     subst aP
     simp only[execOp,fW,he,asBool,Sem.run_bind,Sem.run_pure,Result.andThen_ok]
    cases b with
    | true=>rw[hx (a.eval x) rfl];exact next _ _ L H E (Step.refl E) hs.h hs.l (opv_rel hT' x) (h1 rfl)
    | false=>rw[hx (a.eval y) rfl];exact next _ _ L H E (Step.refl E) hs.h hs.l (opv_rel hT' y) (h2 rfl)
   ·exact bF h'
  ·rw[hw]
   show wpList P ops (nx cz Q) (rest.map (·.1)) (a.put o.dst undef) E.w
   obtain⟨fv,fZ⟩:=Qy (a:=a) hT' l7 (dst:=o.dst) (v:= .tup []) (u:=undef) ⟨[],rfl,aD.nil⟩
   refine A1 rest (putA T' o.dst (.tup [])) L H E (a.put o.dst undef) hg ⟨hs.h,hs.l,fv,fZ⟩ ?_ h'
   cases o.dst<;>exact bh
def lits (ops:Array Oper) (sd:List Nat):List (Oper×Bool):=ops.toList.zipIdx.map fun p=>(p.1,sd.contains p.2)
theorem aap (ops:Array Oper) (sd:List Nat):(lits ops sd).map (·.1)=ops.toList:=by
 unfold lits
 rw[List.map_map]
 apply List.ext_getElem?
 intro i
 simp only[List.getElem?_map,List.getElem?_zipIdx]
 cases ops.toList[i]?<;>rfl
theorem WpS.region [cL] {P:Program} {esc:List Nat} {sd:List Nat} {id:Nat} {ops:Array Oper} {Q:Exit→St→Prop} {aJ:St} (h:evOps P esc ops (lits ops sd) aJ.T aJ.L aJ.H (fun T L H=>Q .normal ⟨T,L,H⟩)):WpS P (.region id ops false) Q aJ:=fun cz E a g s d=>by
 refine wp_region_list ?_
 have:=A1 (lits ops sd) aJ.T aJ.L aJ.H E a g s d h
 rwa [aap] at this
def uR (dq:List Nat):AV→Bool
 | .fH t _=> !dq.contains t
 | _=>true
def tb (dq:List Nat):AV→Bool
 | .fn _ caps=>caps.all (uR dq)
 | a=>uR dq a
def tc (dq:List Nat):AV→Bool
 | .agg l=>l.all (tb dq)
 | a=>tb dq a
def o2 (dq:List Nat):AV→Bool
 | .tup l=>l.all (tc dq)
 | a=>tc dq a
def Env.drop (E:Env) (dq:List Nat):Env:={E with mL:=fun t=>if dq.contains t=true then none else E.mL t}
section
variable {E:Env} {dq:List Nat}
theorem fx.drop {a:AV} {v:Value} (h:uR dq a=true) (hv:fx E a v):fx (E.drop dq) a v:=by
 cases a with
 | fH t c=>
  obtain⟨bl,hm,e⟩:=hv
  have:dq.contains t=false:=by simpa[uR] using h
  exact⟨bl,by show(if dq.contains t=true then none else E.mL t)=_;rw[if_neg (by rw[this];simp)];exact hm,e⟩
 | _=>exact hv
theorem cM.drop {a:AV} {v:Value} (h:tb dq a=true) (hv:cM E a v):cM (E.drop dq) a v:=by
 by_cases hf: ∃f caps,a= .fn f caps
 ·obtain⟨f,caps,rfl⟩:=hf
  obtain⟨vs,e,aI⟩:=hv
  exact⟨vs,e,aI.1,fun i x y hx bm=>(aI.2 i x y hx bm).drop (List.all_eq_true.1 (show caps.all (uR dq)=true from h) x (List.mem_of_getElem? hx))⟩
 ·have aT:tb dq a=uR dq a:=by cases a<;>first | rfl | exact absurd ⟨_,_,rfl⟩ hf
  rw[rD fun f c e=>hf ⟨f,c,e⟩] at hv ⊢
  exact hv.drop (aT▸h)
theorem V2.drop {a:AV} {v:Value} (h:tc dq a=true) (hv:V2 E a v):V2 (E.drop dq) a v:=by
 by_cases hf: ∃l,a= .agg l
 ·obtain⟨l,rfl⟩:=hf
  obtain⟨vs,e,aI⟩:=hv
  exact⟨vs,e,aI.1,fun i x y hx bm=>(aI.2 i x y hx bm).drop (List.all_eq_true.1 (show l.all (tb dq)=true from h) x (List.mem_of_getElem? hx))⟩
 ·have aT:tc dq a=tb dq a:=by cases a<;>first | rfl | exact absurd ⟨_,rfl⟩ hf
  rw[pr fun l e=>hf ⟨l,e⟩] at hv ⊢
  exact hv.drop (aT▸h)
theorem V3.drop {a:AV} {v:Value} (h:o2 dq a=true) (hv:V3 E a v):V3 (E.drop dq) a v:=by
 by_cases hf: ∃l,a= .tup l
 ·obtain⟨l,rfl⟩:=hf
  obtain⟨vs,e,aI⟩:=hv
  exact⟨vs,e,aI.1,fun i x y hx bm=>(aI.2 i x y hx bm).drop (List.all_eq_true.1 (show l.all (tc dq)=true from h) x (List.mem_of_getElem? hx))⟩
 ·have aT:o2 dq a=tc dq a:=by cases a<;>first | rfl | exact absurd ⟨_,rfl⟩ hf
  rw[oL fun l e=>hf ⟨l,e⟩] at hv ⊢
  exact hv.drop (aT▸h)
end
def ob (dq:List Nat) (L:List (Nat×List AV)):List (Nat×List AV):=match L with
 | []=>[]
 | (k,c)::L=>match dq.contains k with
  | true=>ob dq L
  | false=>(k,c)::ob dq L
theorem AQ {dq:List Nat}: ∀(L:List (Nat×List AV)) (t:Nat),dq.contains t=false→e0 (ob dq L) t=e0 L t
 | [],t,h=>rfl
 | (k,c)::L,t,h=>by
  unfold ob
  split
  ·rename_i hk
   have:t≠k:=fun e=>by subst e;rw[h] at hk;cases hk
   rw[AQ L t h];simp[e0,this]
  ·simp only[e0];rw[AQ L t h]
theorem Weak.ob [cL] (dq:List Nat) {T:List AV} {L:List (Nat×List AV)} {H:List Blk} (h:T.all (o2 dq)=true):Weak ⟨T,L,H⟩ ⟨T,ob dq L,H⟩:=fun cz E tmps g s=>by
 have hm: ∀t c,(E.drop dq).mL t=some c→dq.contains t=false∧E.mL t=some c:=by
  intro t c hc
  have hc:(if dq.contains t=true then none else E.mL t)=some c:=hc
  split at hc
  ·cases hc
  ·rename_i q;exact⟨by simpa using q,hc⟩
 have hi: ∀c,(E.drop dq).kQ c→E.kQ c:=fun c ⟨t,bq⟩=>⟨t,(hm t c bq).2⟩
 have hB:SimH E H:=s.h
 refine⟨E.drop dq,rfl,?_,?_,?_,fun t=> ?_,s.size⟩
 ·exact{g with
   le:={g.le with mL:=fun t c hc=>by rw[g.ca t] at hc;cases hc}
   jR:=fun c hc=>g.jR c (hi c hc)}
 ·exact{hB with
   heap:=hB.heap
   jS:=fun t jZ c h1 h2=>hB.jS t jZ c (hm t c h1).2 (hm jZ c h2).2
   gU:=fun b t c h1 h2=>hB.gU b t c h1 (hm t c h2).2
   iv:=fun c hc hx=>hB.iv c hc (hi c hx)
   g9:=fun c hx=>hB.g9 c (hi c hx)}
 ·intro t c hc
  obtain⟨h1,h2⟩:=hm t c hc
  obtain⟨cells,a_,ty,q1,q2,q3⟩:=s.l t c h2
  exact⟨cells,a_,ty,by show e0 (Fw.ob dq L) t=_;rw[AQ L t h1];exact q1,q2,q3⟩
 ·show V3 (E.drop dq) (T.getD t .undef) _
  refine(s.iA t).drop ?_
  show o2 dq (T.getD t .undef)=true
  rw[List.getD_eq_getElem?_getD]
  cases ak:T[t]? with
  | none=>rfl
  | some a=>exact List.all_eq_true.1 h a (List.mem_of_getElem? ak)
def r9:AV→Bool
 | .bC [] true _=>true
 | _=>false
theorem U2 {E:Env} {a:AV} {v:Value} (h:r9 a=true) (hv:fx E a v): ∃A,v= .slice A 0 0:=by
 have key: ∀rows full fr,a= .bC rows full fr→rows=[]→full=true→ ∃A,v= .slice A 0 0:=by
  intro rows full fr e aK hf
  subst e
  have hv:bH E.w E.PA E.PF (.bC rows full fr) v:=hv
  cases hv with
  | @bC _ _ PB _ _ _ A cap sz vs gq gR ht cY fl ec=>
   refine⟨A,?_⟩
   rw[ht hf,aK];rfl
 unfold r9 at h
 split at h
 ·exact key _ _ _ rfl rfl rfl
 ·cases h
theorem Ec {E E':Env} {a:AV} {v:Value} {b:Nat} (h:r9 a=true) (hv:cM E a v) (hg:E'.bF b=0) (hm:E'.m b=some none):cM E' (.ref b 0 0 0 false) v:=by
 have hX:fx E a v:=by
  rwa [rD] at hv
  rintro f c rfl;cases h
 obtain⟨A,rfl⟩:=U2 h hX
 exact .inr ⟨hg.symm,.inl ⟨hm,rfl,rfl,A,rfl⟩⟩
theorem Weak.Tw [cL] (i sz:Nat) {T:List AV} {L:List (Nat×List AV)} {H:List Blk} (h:r9 (T.getD i .undef)=true):Weak ⟨T,L,H⟩ ⟨T.set i (.ref H.length 0 0 0 false),L,H++[⟨0,sz,[]⟩]⟩:=fun cz E tmps g s=>by
 obtain⟨E',hw,bk,h1,h2,aO,bd,_⟩:=Cb (blk:=⟨0,sz,[]⟩) s.h s.l rfl rfl
 refine⟨E',hw,g.step bk,h1,h2,fun t=> ?_,by simpa using s.size⟩
 show V3 E' ((T.set i _).getD t .undef) _
 rw[rQ]
 split
 ·rename_i ak
  obtain⟨rfl,_⟩:=ak
  have hv:=s.iA i
  have k_:cM E (T.getD i .undef) (tmps.getD i undef):=by
   have hv:V3 E (T.getD i .undef) (tmps.getD i undef):=hv
   rw[oL,pr] at hv
   ·exact hv
   ·intro l e;rw[e] at h;cases h
   ·intro l e;rw[e] at h;cases h
  exact qf (qe (Ec h k_ aO bd))
 ·exact(s.iA t).le bk.le
theorem Weak.tP [cL] (t i sz:Nat) {T:List AV} {L:List (Nat×List AV)} {H:List Blk} {cells:List AV} (hc:e0 L t=some cells) (h:r9 (cells.getD i .undef)=true):
  Weak ⟨T,L,H⟩ ⟨T,lk L t (cells.set i (.ref H.length 0 0 0 false)),H++[⟨0,sz,[]⟩]⟩:=fun cz E tmps g s=>by
 obtain⟨E',hw,bk,h1,h2,aO,bd,ch,cD⟩:=Cb (blk:=⟨0,sz,[]⟩) s.h s.l rfl rfl
 refine⟨E',hw,g.step bk,h1,?_,fun t=>(s.iA t).le bk.le,s.size⟩
 intro u c hm
 obtain⟨g2,a_,ty,q1,q2,q3⟩:=h2 u c hm
 show ∃DG a_ ty,e0 (lk L t _) u=some DG∧_
 rw[yx]
 by_cases hu:u=t
 ·subst hu
  rw[if_pos rfl]
  have zB:e0 L u=some g2:=q1
  rw[hc] at zB
  cases zB
  refine⟨_,a_,ty,by rw[hc];rfl,q2,by simpa using q3.1,fun j x v hx hv=> ?_⟩
  rw[List.getElem?_set] at hx
  split at hx
  ·rename_i nD
   subst nD
   split at hx
   ·rename_i bf
    cases hx
    have hg:=List.getElem?_eq_getElem bf
    have:cells.getD i .undef=cells[i]:=by rw[List.getD_eq_getElem?_getD,hg];rfl
    have k_:=q3.2 i _ v hg hv
    rw[this] at h
    exact Ec (E:=E'.ca) h k_ aO bd
   ·cases hx
  ·exact q3.2 j x v hx hv
 ·rw[if_neg hu]
  exact⟨g2,a_,ty,q1,q2,q3⟩
structure cv where
 sw:Int
 bj:Int
 deriving Inhabited,DecidableEq
structure Way where
 ai:List Int
 aX:List cv
 bx:List cv
 cQ:List Int
 cK:List Int
 deriving Inhabited,DecidableEq
structure az where
 ai:Int
 a5:List Int
 O:List Way
 bW:List (List Bool)
 dx:Int
 deriving Inhabited,DecidableEq
structure Event where
 op:Int
 ah:Int
 bj:Int
 deriving Inhabited,DecidableEq
structure a8 where
 b5:Int
 aX:Int
 deriving Inhabited,DecidableEq
structure ad where
 aq:Int
 af:Int
 ac:List Bool
 ar:Bool
 au:Int
 deriving Inhabited,DecidableEq
structure Frame where
 ok:Bool
 aw:List Bool
 ap:List a8
 O:List ad
 deriving Inhabited,DecidableEq
structure fK where
 code:Int
 frame:Frame
 deriving Inhabited,DecidableEq
structure jp where
 code:Int
 pos:Int
 deriving Inhabited,DecidableEq
structure ny where
 O:List Int
 ai:List Int
 ap:List Int
 deriving Inhabited,DecidableEq
structure bc where
 code:List UInt8
 pos:Int
 tz:Int
 deriving Inhabited
def c_ (n:Int):List AV:=[.int .i64 n]
def qu (n:UInt8):List AV:=[.int .u8 n.toNat]
def aY (b:Bool):List AV:=[.bool b]
def Eb (s:ByteArray):List AV:=[.str s]
def ja {α:Type} (e:α→List AV) (fr:Bool) (xs:List α):List AV:=[.bC (xs.map e) false fr]
def dn (x:cv):List AV:=[.int .i64 x.sw,.int .i64 x.bj]
def dw (fr:Bool) (x:Way):List AV:=[.bC (x.ai.map c_) false fr,.bC (x.aX.map dn) false fr,.bC (x.bx.map dn) false fr,.bC (x.cQ.map c_) false fr,.bC (x.cK.map c_) false fr]
def bg (fr:Bool) (x:az):List AV:=[.int .i64 x.ai,.bC (x.a5.map c_) false fr,.bC (x.O.map (dw false)) false fr,.bC (x.bW.map (ja aY false)) false fr,.int .i64 x.dx]
def ju (x:Event):List AV:=[.int .i64 x.op,.int .i64 x.ah,.int .i64 x.bj]
def a7 (x:a8):List AV:=[.int .i64 x.b5,.int .i64 x.aX]
def dM (fr:Bool) (x:ad):List AV:=[.int .i64 x.aq,.int .i64 x.af,.bC (x.ac.map aY) false fr,.bool x.ar,.int .i64 x.au]
def bZ (fr:Bool) (x:Frame):List AV:=[.bool x.ok,.bC (x.aw.map aY) false fr,.bC (x.ap.map a7) false fr,.bC (x.O.map (dM false)) false fr]
def sL (fr:Bool) (x:fK):List AV:=[.int .i64 x.code,.bool x.frame.ok,.bC (x.frame.aw.map aY) false fr,.bC (x.frame.ap.map a7) false fr,.bC (x.frame.O.map (dM false)) false fr]
def D9 (x:jp):List AV:=[.int .i64 x.code,.int .i64 x.pos]
def UZ (fr:Bool) (x:bc):List AV:=[.bC (x.code.map qu) false fr,.int .i64 x.pos,.int .u64 x.tz]
def Ea (fr:Bool) (x:ny):List AV:=[.bC (x.O.map c_) false fr,.bC (x.ai.map c_) false fr,.bC (x.ap.map c_) false fr]
def nth {α:Type} [Inhabited α] (xs:List α) (i:Int):α:=xs.getD i.toNat default
theorem gV {α:Type} [Inhabited α] {xs:List α} {i:Int} (h:i.toNat<xs.length):xs[i.toNat]?=some (nth xs i):=by
 unfold nth
 rw[List.getD_eq_getElem?_getD,List.getElem?_eq_getElem h];rfl
def te:Code→List Nat→Code
 | c,[]=>c
 | .seq x y,n::p=>match n with
  | 0=>te x p
  | _=>te y p
 | .cond _ x y,n::p=>match n with
  | 0=>te x p
  | _=>te y p
 | .block _ x,_::p=>te x p
 | .loop x,_::p=>te x p
 | .scope x,_::p=>te x p
 | c,_=>c
def iE (f:Func):Code:=f.body.getD .skip
section
variable {P:Program} {esc:List Nat} {ops:Array Oper} {l fu:List (Oper×Bool)} {T T':List AV} {L L':List (Nat×List AV)} {H H':List Blk} {K:List AV→List (Nat×List AV)→List Blk→Prop}
end
theorem WpS.seq' [cL] {P:Program} {c x y:Code} {Q:Exit→St→Prop} {aJ:St} (e:c= .seq x y) (h:WpS P x (eb P y Q) aJ):WpS P c Q aJ:=e▸WpS.seq h
theorem WpS.Ut [cL] {P:Program} {c x y:Code} {o:Operand} {Q:Exit→St→Prop} {aJ:St} {b:Bool} (e:c= .cond o x y) (hb:cr aJ.T o= .bool b) (h1:b=true→WpS P x Q aJ) (h2:b=false→WpS P y Q aJ):WpS P c Q aJ:=
 e▸WpS.cond (by rw[hb];exact⟨h1,h2⟩)
theorem WpS.J6 [cL] {P:Program} {c x:Code} {id:Nat} {Q:Exit→St→Prop} {aJ:St} (e:c= .block id x) (h:WpS P x (cm id Q) aJ):WpS P c Q aJ:=e▸WpS.block h
theorem WpS.acg [cL] {P:Program} {c:Code} {Q:Exit→St→Prop} {aJ:St} (e:c= .skip) (h:Q .normal aJ):WpS P c Q aJ:=e▸WpS.skip h
theorem WpS.abP [cL] {P:Program} {c:Code} {Q:Exit→St→Prop} {aJ:St} (e:c= .ret) (h:Q .ret aJ):WpS P c Q aJ:=e▸WpS.ret h
theorem WpS.Ve [cL] {P:Program} {c:Code} {id:Nat} {Q:Exit→St→Prop} {aJ:St} (e:c= .exit id) (h:Q (.exit id) aJ):WpS P c Q aJ:=e▸WpS.exit h
theorem WpS.aaw [cL] {P:Program} {c x:Code} {Q:Exit→St→Prop} {aJ:St} {V:Type} (S:V→St) (I:V→Prop) (m:V→Nat) (e:c= .loop x) (h9:V) (hs:Weak aJ (S h9)) (aT:I h9)
  (round: ∀v,I v→WpS P x (fun ex s=>match ex with
   | .normal=> ∃e_,I e_∧m e_<m v∧Weak s (S e_)
   | ex=>Q ex s) (S v)):WpS P c Q aJ:=by
 subst e
 refine WpS.mn (WpS.loop (fun n s=> ∃v,I v∧s=S v∧n=m v) (m h9) ⟨h9,aT,rfl,rfl⟩ ?_) hs
 rintro n s ⟨v,hv,rfl,rfl⟩
 refine WpS.mono (round v hv) fun ex s ak=> ?_
 cases ex with
 | normal=>
  obtain⟨e_,h1,h2,aO⟩:=ak
  exact⟨m e_,S e_,h2,aO,e_,h1,rfl,rfl⟩
 | _=>exact ak
theorem eb.normal [cL] {P:Program} {y:Code} {Q:Exit→St→Prop} {s:St} (h:WpS P y Q s):eb P y Q .normal s:=h
theorem eb.ret [cL] {P:Program} {y:Code} {Q:Exit→St→Prop} {s:St} (h:Q .ret s):eb P y Q .ret s:=h
theorem eb.exit [cL] {P:Program} {y:Code} {Q:Exit→St→Prop} {s:St} {id:Nat} (h:Q (.exit id) s):eb P y Q (.exit id) s:=h
theorem cm.normal {id:Nat} {Q:Exit→St→Prop} {s:St} (h:Q .normal s):cm id Q .normal s:=h
theorem cm.ret {id:Nat} {Q:Exit→St→Prop} {s:St} (h:Q .ret s):cm id Q .ret s:=h
theorem cm.here {id:Nat} {Q:Exit→St→Prop} {s:St} (h:Q .normal s):cm id Q (.exit id) s:=by
 show(if id=id then _ else _);rw[if_pos rfl];exact h
theorem cm.there {id gC:Nat} {Q:Exit→St→Prop} {s:St} (cl:gC≠id) (h:Q (.exit gC) s):cm id Q (.exit gC) s:=by
 show(if gC=id then _ else _);rw[if_neg cl];exact h
theorem dc.h4 {L:List (Nat×List AV)} {H:List Blk} {a b:AV} (h:gd L H a b):dc L H a b:= .inr h
theorem dc.agg {L:List (Nat×List AV)} {H:List Blk} {l fu:List AV} (h:aD (gd L H) l fu):dc L H (.agg l) (.agg fu):= .inl ⟨l,fu,rfl,rfl,h⟩
theorem ii.h4 {H:List Blk} {a b:AV} (h:gI H a b):ii H a b:= .inr (.inr h)
theorem ii.agg {H:List Blk} {l fu:List AV} (h:aD (gI H) l fu):ii H (.agg l) (.agg fu):= .inr (.inl ⟨l,fu,rfl,rfl,h⟩)
theorem WpS.start [cL] {P:Program} {c:Code} {Q:Exit→St→Prop} {aJ lm:St} (e:aJ=lm) (h:WpS P c Q lm):WpS P c Q aJ:=e▸h
def ci [cL] (S:St) (ψ:Prop) (Q:Exit→St→Prop) (ex:Exit) (s:St):Prop:=match ex with
 | .normal=>ψ∧Weak s S
 | ex=>Q ex s
theorem WpS.xE [cL] {P:Program} {c x y:Code} {Q:Exit→St→Prop} {aJ:St} (S:St) {ψ:Prop} (e:c= .seq x y) (h:WpS P x (ci S ψ Q) aJ) (ak:ψ→WpS P y Q S):WpS P c Q aJ:=by
 subst e
 refine WpS.seq (WpS.mono h fun ex s hs=> ?_)
 cases ex with
 | normal=>exact WpS.mn (ak hs.1) hs.2
 | _=>exact hs
theorem ci.normal [cL] {S s:St} {ψ:Prop} {Q:Exit→St→Prop} (aI:ψ) (h:Weak s S):ci S ψ Q .normal s:=⟨aI,h⟩
theorem ci.ret [cL] {S s:St} {ψ:Prop} {Q:Exit→St→Prop} (h:Q .ret s):ci S ψ Q .ret s:=h
theorem ci.exit [cL] {S s:St} {ψ:Prop} {Q:Exit→St→Prop} {id:Nat} (h:Q (.exit id) s):ci S ψ Q (.exit id) s:=h
def d_ [cL] {V:Type} (S:V→St) (I:V→Prop) (m:V→Nat) (v:V) (Q:Exit→St→Prop) (ex:Exit) (s:St):Prop:=match ex with
 | .normal=> ∃e_,I e_∧m e_<m v∧Weak s (S e_)
 | ex=>Q ex s
theorem WpS.Oo [cL] {P:Program} {c x:Code} {Q:Exit→St→Prop} {aJ:St} {V:Type} (S:V→St) (I:V→Prop) (m:V→Nat) (e:c= .loop x) (h9:V) (hs:Weak aJ (S h9)) (aT:I h9)
  (round: ∀v,I v→WpS P x (d_ S I m v Q) (S v)):WpS P c Q aJ:=
 WpS.aaw S I m e h9 hs aT fun v hv=>WpS.mono (round v hv) fun ex s h=>by
  cases ex<;>exact h
theorem d_.again [cL] {V:Type} {S:V→St} {I:V→Prop} {m:V→Nat} {v:V} {Q:Exit→St→Prop} {s:St} (e_:V) (h:I e_∧m e_<m v) (hw:Weak s (S e_)):d_ S I m v Q .normal s:=⟨e_,h.1,h.2,hw⟩
theorem d_.ret [cL] {V:Type} {S:V→St} {I:V→Prop} {m:V→Nat} {v:V} {Q:Exit→St→Prop} {s:St} (h:Q .ret s):d_ S I m v Q .ret s:=h
theorem d_.exit [cL] {V:Type} {S:V→St} {I:V→Prop} {m:V→Nat} {v:V} {Q:Exit→St→Prop} {s:St} {id:Nat} (h:Q (.exit id) s):d_ S I m v Q (.exit id) s:=h
@[irreducible] def bT (c:Code) (n:Nat):Code:=te c ((List.range (Nat.log2 n)).map fun i=>(n>>>i)%2).reverse
def ji (c:Code) (n:Nat):Array Oper:=match bT c n with
 | .region _ ops _=>ops
 | _=> #[]
theorem hq [cL] {s s' s'':St} (h:Weak s s') (e:s'=s''):Weak s s'':=e▸h
def k1 (H:List Blk) (c d:List AV):Prop:=c.length=d.length∧ ∀(j:Nat) (a b:AV),c[j]?=some a→d[j]?=some b→gI H a a∧b=kD a
theorem acU {H:List Blk} {α:Type} {eT eF:α→List AV} {b:Nat} {g sz:Nat} {full:Bool} {xs:List α} (hb:H[b]?=some ⟨g,sz,List.map eT xs⟩) (aG:xs.length≤4611686018427387904) (hc: ∀x,k1 H (eT x) (eF x)):
  gI H (.ref b g 0 xs.length full) (.bC (List.map eF xs) false true):=by
 refine gI.ref (fun h=>by cases h) (fun i j=>((xs[i]?).bind fun x=>(eT x)[j]?).getD .undef) hb rfl (by rw[List.length_map]) aG (by simp) (fun i row row' h1 h2=> ?_) (fun i j row a hi h1 h2=> ?_) (fun i j row' c h1 h2=> ?_)
 ·have h1:(List.map eT xs)[0+i]?=some row:=h1
  rw[Nat.zero_add,List.getElem?_map] at h1
  rw[List.getElem?_map] at h2
  cases hx:xs[i]? with
  | none=>rw[hx] at h1;cases h1
  | some x=>rw[hx] at h1 h2;cases h1;cases h2;exact(hc x).1
 ·have h1:(List.map eT xs)[0+i]?=some row:=h1
  rw[Nat.zero_add,List.getElem?_map] at h1
  cases hx:xs[i]? with
  | none=>rw[hx] at h1;cases h1
  | some x=>
   rw[hx] at h1;cases h1
   show gI H a (((some x).bind fun x=>(eT x)[j]?).getD .undef)
   have aN:(eT x)[j]?=some a:=h2
   have he:((some x).bind fun x=>(eT x)[j]?).getD .undef=a:=by
    show((eT x)[j]?).getD .undef=a
    rw[aN];rfl
   rw[he]
   have bf:j<(eF x).length:=by rw[←(hc x).1];exact(List.getElem?_eq_some_iff.1 aN).1
   exact((hc x).2 j a _ aN (List.getElem?_eq_getElem bf)).1
 ·rw[List.getElem?_map] at h1
  cases hx:xs[i]? with
  | none=>rw[hx] at h1;cases h1
  | some x=>
   rw[hx] at h1;cases h1
   show c=kD (((some x).bind fun x=>(eT x)[j]?).getD .undef)
   have bf:j<(eT x).length:=by rw[(hc x).1];exact(List.getElem?_eq_some_iff.1 h2).1
   have aN:=List.getElem?_eq_getElem bf
   have he:((some x).bind fun x=>(eT x)[j]?).getD .undef=(eT x)[j]:=by
    show((eT x)[j]?).getD .undef=_
    rw[aN];rfl
   rw[he]
   exact((hc x).2 j _ c aN h2).2
theorem k1.nil {H:List Blk}:k1 H [] []:=⟨rfl,fun j a b h=>by simp at h⟩
theorem k1.cons {H:List Blk} {a b:AV} {c d:List AV} (h1:gI H a a) (h2:b=kD a) (h:k1 H c d):k1 H (a::c) (b::d):=
 ⟨by simp[h.1],fun j x y hx bm=>by
  cases j with
  | zero=>simp at hx bm;subst hx;subst bm;exact⟨h1,h2⟩
  | succ j=>exact h.2 j x y (by simpa using hx) (by simpa using bm)⟩
theorem T6 {H:List Blk} (n:Int):k1 H (c_ n) (c_ n):= .cons (.int _ _) rfl .nil
theorem T8 {H:List Blk} (n:UInt8):k1 H (qu n) (qu n):= .cons (.int _ _) rfl .nil
theorem vV {H:List Blk} (b:Bool):k1 H (aY b) (aY b):= .cons (.bool _) rfl .nil
theorem T7 {H:List Blk} (b:ByteArray):k1 H (Eb b) (Eb b):= .cons (.str _) rfl .nil
theorem kL {H:List Blk} (rows:List (List AV)):gI H (.bC rows false true) (.bC rows false true):= .bC _ _ _ id
theorem Kc {H:List Blk} (x:cv):k1 H (dn x) (dn x):= .cons (.int _ _) rfl (.cons (.int _ _) rfl .nil)
theorem T4 {H:List Blk} (x:Event):k1 H (ju x) (ju x):= .cons (.int _ _) rfl (.cons (.int _ _) rfl (.cons (.int _ _) rfl .nil))
theorem yi {H:List Blk} (x:a8):k1 H (a7 x) (a7 x):= .cons (.int _ _) rfl (.cons (.int _ _) rfl .nil)
theorem T9 {H:List Blk} (x:Way):k1 H (dw true x) (dw false x):= .cons (kL _) rfl (.cons (kL _) rfl (.cons (kL _) rfl (.cons (kL _) rfl (.cons (kL _) rfl .nil))))
theorem T5 {H:List Blk} (x:ad):k1 H (dM true x) (dM false x):= .cons (.int _ _) rfl (.cons (.int _ _) rfl (.cons (kL _) rfl (.cons (.bool _) rfl (.cons (.int _ _) rfl .nil))))
theorem T3 {H:List Blk} (x:fK):k1 H (sL true x) (sL false x):= .cons (.int _ _) rfl (.cons (.bool _) rfl (.cons (kL _) rfl (.cons (kL _) rfl (.cons (kL _) rfl .nil))))
theorem Su {H:List Blk} {α:Type} {eT eF:α→List AV} {b g sz:Nat} {full:Bool} {xs ys:List α} (hb:H[b]?=some ⟨g,sz,List.map eT xs⟩) (hc: ∀x,k1 H (eT x) (eF x)) (h:xs.length≤4611686018427387904∧xs=ys):
  gI H (.ref b g 0 xs.length full) (.bC (List.map eF ys) false true):=h.2▸acU hb h.1 hc
theorem rj {H:List Blk} {α:Type} {e:α→List AV} {ys:List α} {full fr:Bool} (h:[]=ys):gI H (.bC [] full fr) (.bC (List.map e ys) false true):=h▸ .Ot _ _ _ (fun h=>by cases h)
theorem vm {H:List Blk} {α:Type} {e:α→List AV} {xs ys:List α} {full:Bool} (h:xs=ys):gI H (.bC (List.map e xs) full true) (.bC (List.map e ys) false true):=h▸ .bC _ _ _ (fun h=>by cases h)
theorem xK {H:List Blk} {k:IntKind} {a b:Int} (h:a=b):gI H (.int k a) (.int k b):=h▸ .int k a
theorem np {H:List Blk} {a b:Bool} (h:a=b):gI H (.bool a) (.bool b):=h▸ .bool a
theorem aeY {H:List Blk} {a b:ByteArray} (h:a=b):gI H (.str a) (.str b):=h▸ .str a
theorem cH {L:List (Nat×List AV)} {H:List Blk} {rows:List (List AV)} {full fr:Bool}:gd L H (.bC rows full fr) (.bC rows false false):= .bC _ _ _ _ (fun h=>by cases h)
def oI (L:List (Nat×List AV)) (H:List Blk) (c d:List AV):Prop:=c.length=d.length∧ ∀(j:Nat) (a b:AV),c[j]?=some a→d[j]?=some b→gd L H a b
theorem P8 {L:List (Nat×List AV)} {H:List Blk} {α:Type} {eT eF:α→List AV} {b g sz:Nat} {full:Bool} {xs:List α} (hb:H[b]?=some ⟨g,sz,List.map eT xs⟩) (hc: ∀x,oI L H (eT x) (eF x)) (aG:xs.length≤4611686018427387904):
  gd L H (.ref b g 0 xs.length full) (.bC (List.map eF xs) false false):=by
 refine gd.ref (fun h=>by cases h) hb rfl (by rw[List.length_map]) aG (by simp) (fun i row row' h1 h2=> ?_) (fun i j row row' a c h1 h2 aO bd=> ?_)
 ·have h1:(List.map eT xs)[0+i]?=some row:=h1
  rw[Nat.zero_add,List.getElem?_map] at h1
  rw[List.getElem?_map] at h2
  cases hx:xs[i]? with
  | none=>rw[hx] at h1;cases h1
  | some x=>rw[hx] at h1 h2;cases h1;cases h2;exact(hc x).1
 ·have h1:(List.map eT xs)[0+i]?=some row:=h1
  rw[Nat.zero_add,List.getElem?_map] at h1
  rw[List.getElem?_map] at h2
  cases hx:xs[i]? with
  | none=>rw[hx] at h1;cases h1
  | some x=>rw[hx] at h1 h2;cases h1;cases h2;exact(hc x).2 j a c aO bd
theorem oI.nil {L:List (Nat×List AV)} {H:List Blk}:oI L H [] []:=⟨rfl,fun j a b h=>by simp at h⟩
theorem oI.cons {L:List (Nat×List AV)} {H:List Blk} {a b:AV} {c d:List AV} (h1:gd L H a b) (h:oI L H c d):oI L H (a::c) (b::d):=
 ⟨by simp[h.1],fun j x y hx bm=>by
  cases j with
  | zero=>simp at hx bm;subst hx;subst bm;exact h1
  | succ j=>exact h.2 j x y (by simpa using hx) (by simpa using bm)⟩
section
variable {L:List (Nat×List AV)} {H:List Blk}
theorem s6 (b:Bool):oI L H (aY b) (aY b):= .cons (.bool _) .nil
theorem uI (x:a8):oI L H (a7 x) (a7 x):= .cons (.int _ _) (.cons (.int _ _) .nil)
end
def eQ {α:Type} (F:(α→Prop)→Prop):Prop:= ∀K,F K→ ∃r,K r∧F (fun x=>x=r)
theorem eQ.ret {α:Type} (r:α):eQ fun K=>K r:=fun K h=>⟨r,h,rfl⟩
theorem eQ.no {α:Type}:eQ (α:=α) fun _=>False:=fun K h=>h.elim
theorem eQ.and {α:Type} {φ:Prop} {F:(α→Prop)→Prop} (h:eQ F):eQ fun K=>φ∧F K:=fun K ⟨aI,hf⟩=>by
 obtain⟨r,h1,h2⟩:=h K hf
 exact⟨r,h1,aI,h2⟩
theorem eQ.TA {α:Type} {φ:Prop} {F:(α→Prop)→Prop} (h:φ→eQ F):eQ fun K=>φ∧F K:=fun K ⟨aI,hf⟩=>by
 obtain⟨r,h1,h2⟩:=h aI K hf
 exact⟨r,h1,aI,h2⟩
theorem eQ.bind {α β:Type} {o:Option β} {F:β→(α→Prop)→Prop} (h: ∀b,eQ (F b)):eQ fun K=>c5 o fun b=>F b K:=fun K hf=>by
 cases o with
 | none=>exact hf.elim
 | some b=>exact h b K hf
theorem eQ.ite {α:Type} {c:Prop} [Decidable c] {F G:(α→Prop)→Prop} (h:eQ F) (k:eQ G):eQ fun K=>if c then F K else G K:=by
 intro K hf
 by_cases hc:c
 ·rw[if_pos hc] at hf
  obtain⟨r,h1,h2⟩:=h K hf
  exact⟨r,h1,by show if c then _ else _;rw[if_pos hc];exact h2⟩
 ·rw[if_neg hc] at hf
  obtain⟨r,h1,h2⟩:=k K hf
  exact⟨r,h1,by show if c then _ else _;rw[if_neg hc];exact h2⟩
theorem eQ.e8 {α:Type} {b:Bool} {F:(α→Prop)→Prop} (h:eQ F):eQ fun K=>e8 b (F K):=by
 cases b with
 | true=>exact h
 | false=>exact eQ.no
theorem Jb {P:Program} {t:TypeId} {cells:List AV} {c:Nat}:eQ (jI P t cells c):=by
 unfold jI
 exact .ite (.ite (.ite (.ret _) .no) (.bind fun _=> .ret _)) .no
theorem Z7 {P:Program} {t:TypeId} {x:AV} {L:List (Nat×List AV)} {H:List Blk}:eQ (oZ P t x L H):=by
 cases x with
 | fH s c=>exact .bind fun _=>Jb
 | ptr b g r c=>exact .bind fun _=> .and (.bind fun _=>Jb)
 | dA cells c=>exact Jb
 | _=>exact .no
theorem aaP {x:AV}:eQ (GX x):=by
 cases x<;>first | exact .no | exact .ret _
theorem TO {op:BinOp} {k:IntKind} {a b:Int}:eQ (AB op k a b):=by
 cases op<;>first | exact .no | exact .ret _ | exact .and (.ret _)
theorem TN {op:BinOp} {k kR:IntKind} {a b:Int}:eQ (AC op k a kR b):=by
 cases op<;>first | exact .and (.ret _) | exact .ite TO .no
def ye (x:AV):Bool:=match x with
 | .bC _ _ _=>false
 | _=>true
theorem TP {P:Program} {op:BinOp} {t:TypeId} {x y:AV} {sx:Bool} (hx:ye x=true):eQ (sG P op t x y sx):=by
 cases x with
 | int k a=>cases y<;>first | exact .no | exact TN
 | bool a=>
  cases y with
  | bool b=>exact .ite (by cases op<;>first | exact .no | exact .ret _) .no
  | _=>exact .no
 | str a=>
  cases y with
  | str b=>
   show eQ (Dx op a b)
   cases op<;>first | exact .no | exact .ret _ | exact .and (.ret _)
  | _=>exact .no
 | agg l=>
  cases y with
  | agg m=>exact .ite (.bind fun p=> .bind fun q=>by
    show eQ (Dy op p.1 p.2 q.1 q.2)
    cases op<;>first | exact .no | exact .ret _) .no
  | _=>exact .no
 | bC rows eJ fr=>cases hx
 | _=>exact .no
theorem afj {op:UnOp} {x:AV}:eQ (C9 op x):=by
 cases op<;>cases x<;>first | exact .no | exact .ret _
theorem UI {P:Program} {s d:TypeId} {x:AV}:eQ (D0 P s d x):=by
 cases x with
 | int k n=>exact .bind fun _=> .bind fun _=> .ret _
 | _=>exact .no
theorem Vk {P:Program} {t:TypeId} {x:AV} {f:Nat}:eQ (Et P t x f):=by
 refine .bind fun fd=> .ite ?_ .no
 cases x<;>first | exact .no | exact .ret _
theorem Yd {P:Program} {t:TypeId} {x i:AV} {H:List Blk}:eQ (wV P t x i H):=by
 refine .bind fun e=> .ite ?_ .no
 cases i with
 | int k n=>
  cases x with
  | bC rows eJ fr=>exact .and (.bind fun _=> .and (.ret _))
  | ref b g off m eJ=>exact .bind fun _=> .and (.and (.and (.and (.ret _))))
  | _=>exact .no
 | _=>exact .no
theorem Ym {P:Program} {t:TypeId} {x i:AV}:eQ (FD P t x i):=by
 cases x with
 | str s=>
  cases i with
  | int k n=>
   show eQ fun K:AV→Prop=>(match P.underlying t with
   | some .string=>0≤n∧n<s.size∧K (.int .u8 (s.data.getD n.toNat 0).toNat)
   | _=>False)
   split
   ·exact .and (.and (.ret _))
   ·exact .no
  | _=>exact .no
 | _=>exact .no
theorem vS {α:Type} {x:Option AV} {d:Nat} {F:Nat→(α→Prop)→Prop} (h: ∀n,eQ (F n)):eQ fun K=>mq x d fun n=>F n K:=by
 cases x with
 | none=>exact h d
 | some a=>
  cases a with
  | int k n=>exact .and (h _)
  | _=>exact .no
theorem aci {P:Program} {t:TypeId} {x:AV} {lo hi:Option AV} {H:List Blk}:eQ (vj P t x lo hi H):=by
 cases x with
 | str s=>
  show eQ fun K:AV→Prop=>(match P.underlying t with
   | some .string=>mq lo 0 fun l=>mq hi s.size fun h=>l≤h∧h≤s.size∧K (.str (s.extract l h))
   | _=>False)
  split
  ·exact vS fun l=>vS fun h=> .and (.and (.ret _))
  ·exact .no
 | bC rows eJ fr=>exact .bind fun e=> .ite (vS fun l=>vS fun h=> .and (.and (.and (.ret _)))) .no
 | ref b g off n eJ=>
  refine .bind fun e=> .ite (.bind fun blk=> .and (.and (vS fun l=>vS fun h=> .TA fun hle=> .and ?_))) .no
  intro K ⟨h1,h2⟩
  rcases Nat.lt_trichotomy l h with bf | yN | pL
  ·exact⟨_,h1 bf,fun _=>rfl,fun e=>absurd e (by omega)⟩
  ·exact⟨_,h2 yN,fun e=>absurd e (by omega),fun _=>rfl⟩
  ·omega
 | _=>exact .no
theorem Vf {x:AV} {i:Nat}:eQ (Ep x i):=by
 cases x with
 | tup l=>exact .bind fun _=> .ret _
 | _=>exact .no
theorem aaJ {fn:Fn} {first:Array Operand} {caps:List AV}:eQ (zl fn first caps):=by
 cases fn with
 | func f=>exact .ite (.ret _) .no
 | _=>exact .no
theorem T1 {P:Program} {t:TypeId} {parts:List (Nat×AV)}:eQ (DB P t parts):= .bind fun _=> .bind fun _=> .bind fun _=> .ret _
theorem TZ {P:Program} {t:TypeId} {n:Nat} {parts:List (Nat×AV)}:eQ (vU P t n parts):= .bind fun _=> .bind fun _=> .ite (.bind fun _=> .ite (.ret _) .no) .no
def sa (x:AV) (K:AV→Prop):Prop:=match x with
 | .bC rows _ _=>K (.int .i64 rows.length)
 | .str s=>K (.int .i64 s.size)
 | .ref _ _ _ n _=>K (.int .i64 n)
 | _=>False
theorem aab {x:AV}:eQ (sa x):=by
 cases x<;>first | exact .no | exact .ret _
theorem aac {x:AV} {K:AV→Prop} (h:sa x K):r_ x K:=by
 cases x<;>first | exact h | exact fun _=>h
theorem Uj {P:Program} {f:FuncId} {args:List AV} {L:List (Nat×List AV)} {H:List Blk}:eQ (oP P f args L H):=fun K ⟨aG,ew,t,h1,h2,aO⟩=>⟨t,aO,aG,ew,t,h1,h2,rfl⟩
def U_ (P:Program) (c:Call) (bR:Operand→AV) (L:List (Nat×List AV)) (H:List Blk) (K:AV→Prop):Prop:=match c.callee with
 | .builtin .len=>(match c.args.toList,c.argTypes.toList with
  | [x],[t]=>e8 (kb P t (bR x)) (sa (bR x) K)
  | _,_=>False)
 | .value f=>lX (bR f) fun g caps=>oP P g (c.args.toList.map bR++caps) L H K
 | _=>False
def j6 (P:Program) (o:Oper) (bR:Operand→AV) (L:List (Nat×List AV)) (H:List Blk) (K:AV→Prop):Prop:=match o.op with
 | .call c=>U_ P c bR L H K
 | .pick c x y=>oN (bR c) fun z=>pv true z (K (bR x)) (K (bR y))
 | .binOp op t x y _=>e8 (ye (bR x)) (sG P op t (bR x) (bR y) (qQ y) K)
 | _=>sN P o bR L H K
theorem A2 {P:Program} {o:Oper} {bR:Operand→AV} {L:List (Nat×List AV)} {H:List Blk} {K:AV→Prop} (h:j6 P o bR L H K):sN P o bR L H K:=by
 obtain⟨dst,op,ty,pos,after,guard⟩:=o
 cases op with
 | call c=>
  obtain⟨callee,args,argTypes⟩:=c
  cases callee with
  | builtin b=>
   cases b with
   | len=>
    have h:(match args.toList,argTypes.toList with
     | [x],[t]=>e8 (kb P t (bR x)) (sa (bR x) K)
     | _,_=>False):=h
    show(match args.toList,argTypes.toList with
     | [x],[t]=>e8 (kb P t (bR x)) (r_ (bR x) K)
     | _,_=>False)
    split at h
    ·obtain⟨h1,h2⟩:=pY h
     simp only[h1];exact aac h2
    ·exact h.elim
   | _=>exact h.elim
  | value f=>exact h
  | _=>exact h.elim
 | binOp op t x y ty2=>exact(pY (show e8 (ye (bR x)) (sG P op t (bR x) (bR y) (qQ y) K) from h)).2
 | pick c x y=>
  obtain⟨b,hb,hw⟩:=Av (show oN (bR c) fun z=>pv true z (K (bR x)) (K (bR y)) from h)
  show oN (bR c) fun z=>yd z (K (bR x)) (K (bR y))
  rw[hb];exact AF hw
 | _=>exact h
theorem TM {α:Type} {z:Bool} {x y:α}:eQ fun K=>pv true z (K x) (K y):=by
 cases z with
 | true=>exact .ret x
 | false=>exact .ret y
theorem TH {α:Type} {v:AV} {F:Bool→(α→Prop)→Prop} (h: ∀b,eQ (F b)):eQ fun K=>oN v fun b=>F b K:=by
 cases v with
 | bool b=>exact h b
 | _=>exact .no
theorem Vc {P:Program} {o:Oper} {bR:Operand→AV} {L:List (Nat×List AV)} {H:List Blk}:eQ (j6 P o bR L H):=by
 obtain⟨dst,op,ty,pos,after,guard⟩:=o
 cases op with
 | move x=>exact .ret _
 | assign x=>exact .ret _
 | pick c x y=>exact TH fun z=>TM
 | build t ps=>exact .e8 T1
 | buildSlice t n ps=>exact .e8 TZ
 | load t a=>exact Z7
 | nilCheck x=>exact aaP
 | binOp op t x y ty2=>
  show eQ fun K=>e8 (ye (bR x)) (sG P op t (bR x) (bR y) (qQ y) K)
  cases hb:ye (bR x) with
  | true=>exact TP hb
  | false=>exact .no
 | unOp op t x=>exact afj
 | convert s d x=>exact UI
 | makeFunc fn first caps=>exact aaJ
 | fieldAddr t x f=>exact Vk
 | indexAddr t x i=>exact Yd
 | index t x i=>exact Ym
 | slice t x lo hi mx=>
  cases mx with
  | none=>exact aci
  | some m=>exact .no
 | extract x i=>exact Vf
 | call c=>
  obtain⟨callee,args,argTypes⟩:=c
  cases callee with
  | builtin b=>
   cases b with
   | len=>
    show eQ fun K=>(match args.toList,argTypes.toList with
     | [x],[t]=>e8 (kb P t (bR x)) (sa (bR x) K)
     | _,_=>False)
    split
    ·exact .e8 aab
    ·exact .no
   | _=>exact .no
  | value f=>
   show eQ fun K=>lX (bR f) fun g caps=>oP P g (args.toList.map bR++caps) L H K
   cases bR f with
   | fn g caps=>exact Uj
   | _=>exact .no
  | _=>exact .no
 | _=>exact .no
structure Item where
 i:Nat
 lit:Bool
 q:Bool
 jO:List Nat
def Jx:AV→AV→Bool
 | .int k n,.int kR pV=>decide (k=kR)&&decide (n=pV)
 | .bool b,.bool cn=>b==cn
 | .bC [] f g,.bC [] A6 dJ=>f==A6&&g==dJ
 | .gj,.gj=>true
 | _,_=>false
def Df:List AV→List AV→Bool
 | [],[]=>true
 | a::l,b::m=>Jx a b&&Df l m
 | _,_=>false
theorem afX {a b:AV} (h:Jx a b=true):a=b:=by
 unfold Jx at h
 split at h
 ·simp only[Bool.and_eq_true,decide_eq_true_eq] at h;rw[h.1,h.2]
 ·rw[eq_of_beq h]
 ·simp only[Bool.and_eq_true] at h;rw[eq_of_beq h.1,eq_of_beq h.2]
 ·rfl
 ·cases h
theorem Tm: ∀{l m:List AV},Df l m=true→l=m
 | [],[],_=>rfl
 | [],_::_,h=>by cases h
 | _::_,[],h=>by cases h
 | a::l,b::m,h=>by
  simp only[Df,Bool.and_eq_true] at h
  rw[afX h.1,Tm h.2]
def pS (o:Oper):Bool:=match o.op with
 | .alloc _=>true
 | _=>false
def JI (P:Program) (e:TypeId) (dst:Option Nat) (L:List (Nat×List AV)) (K:AV→Prop):Prop:=c5 (ns P e) fun z=>c5 dst fun t=>c5 (e0 L t) fun c=>e8 (z.all jk) (e8 (Df c z) (K (.fH t 0)))
def lx (P:Program) (o:Oper) (bR:Operand→AV) (L:List (Nat×List AV)) (H:List Blk) (K:AV→Prop):Prop:=match o.op with
 | .alloc e=>JI P e o.dst L K
 | _=>j6 P o bR L H K
theorem wa {P:Program} {o:Oper} {bR:Operand→AV} {L:List (Nat×List AV)} {H:List Blk} {K:AV→Prop} (h:pS o=false):lx P o bR L H K=j6 P o bR L H K:=by
 obtain⟨dst,op,ty,pos,after,guard⟩:=o
 cases op<;>first | rfl | cases h
theorem Vb {P:Program} {o:Oper} {bR:Operand→AV} {L:List (Nat×List AV)} {H:List Blk}:eQ (lx P o bR L H):=by
 cases h:pS o with
 | false=>intro K hk;rw[wa h] at hk;obtain⟨r,h1,h2⟩:=Vc K hk;exact⟨r,h1,by rw[wa h];exact h2⟩
 | true=>
  obtain⟨dst,op,ty,pos,after,guard⟩:=o
  cases op
  case alloc e=>exact eQ.bind fun _=> .bind fun _=> .bind fun _=> .e8 (.e8 (.ret _))
  all_goals cases h
def opI (ops:Array Oper) (i:Nat):Oper:=ops.getD i default
def sK (o:Oper) (T:List AV):AV:=match o.dst with
 | some d=>T.getD d .undef
 | none=> .undef
def rO (P:Program) (ops:Array Oper):List Nat→List AV→List (Nat×List AV)→List Blk→Prop
 | [],_,_,_=>True
 | i::r,T,L,H=>((opI ops i).guard.isNone=true∧(opI ops i).dst.isSome=true∧lx P (opI ops i) (cr T) L H (fun v=>v=sK (opI ops i) T))∧rO P ops r T L H
theorem K_ {P:Program} {ops:Array Oper} {T:List AV} {L:List (Nat×List AV)} {H:List Blk}: ∀{jO:List Nat},rO P ops jO T L H→ ∀i∈jO,(opI ops i).guard.isNone=true∧(opI ops i).dst.isSome=true∧lx P (opI ops i) (cr T) L H (fun v=>v=sK (opI ops i) T)
 | [],_,i,hi=>by cases hi
 | j::r,h,i,hi=>by
  rcases List.mem_cons.1 hi with rfl | hi
  ·exact h.1
  ·exact K_ h.2 i hi
def ko (P:Program) (esc:List Nat) (ops:Array Oper):List Item→List AV→List (Nat×List AV)→List Blk→(List AV→List (Nat×List AV)→List Blk→Prop)→Prop
 | [],T,L,H,K=>K T L H
 | x::rest,T,L,H,K=>og ops x.lit (opI ops x.i) T
   (fun T=>match x.q with
    | true=>lx P (opI ops x.i) (cr T) L H fun v=>ko P esc ops rest (putA T (opI ops x.i).dst v) L H K
    | false=>kn P esc (opI ops x.i) (cr T) L H fun v L' H'=>rO P ops x.jO T L' H'∧ko P esc ops rest (putA T (opI ops x.i).dst v) L' H' K)
   (fun T=>ko P esc ops rest (putA T (opI ops x.i).dst (.tup [])) L H K)
theorem KR {P:Program} {o:Oper} {bR ga:Operand→AV} {L:List (Nat×List AV)} {H:List Blk} {K:AV→Prop} (h: ∀x∈o.op.operands,bR x=ga x):sN P o bR L H K=sN P o ga L H K:=by
 obtain⟨dst,op,ty,pos,after,guard⟩:=o
 have OY: ∀ps:Array (Nat×Operand),(∀x∈ps.map (·.2),bR x=ga x)→(ps.toList.map fun p=>(p.1,bR p.2))=(ps.toList.map fun p=>(p.1,ga p.2)):=fun ps aI=>
  List.map_congr_left fun p hm=>by rw[aI p.2 (Array.mem_map.2 ⟨p,by simpa using hm,rfl⟩)]
 have JN: ∀ps:Array (Nat×Operand),(∀x∈ps.map (·.2),bR x=ga x)→(ps.toList.all fun p=>e7 (bR p.2))=(ps.toList.all fun p=>e7 (ga p.2)):=fun ps aI=>by
  rw[Bool.eq_iff_iff,List.all_eq_true,List.all_eq_true]
  constructor<;>intro q p hm
  ·rw[←aI p.2 (Array.mem_map.2 ⟨p,by simpa using hm,rfl⟩)];exact q p hm
  ·rw[aI p.2 (Array.mem_map.2 ⟨p,by simpa using hm,rfl⟩)];exact q p hm
 have bC: ∀xs:Array Operand,(∀x∈xs,bR x=ga x)→xs.toList.map bR=xs.toList.map ga:=fun xs hx=>List.map_congr_left fun p hm=>hx p (by simpa using hm)
 cases op<;>simp only[Op.operands] at h
 case build t ps=>
  show e8 _ _=e8 _ _
  rw[OY ps fun x hx=>h x (by simpa using hx),JN ps fun x hx=>h x (by simpa using hx)]
 case buildSlice t n ps=>
  show e8 _ _=e8 _ _
  rw[OY ps fun x hx=>h x (by simpa using hx),JN ps fun x hx=>h x (by simpa using hx)]
 case makeFunc fn first caps=>
  show zl fn first (caps.toList.map bR) K=zl fn first (caps.toList.map ga) K
  rw[bC caps fun x hx=>h x (by simp[hx])]
 case slice t x lo hi mx=>
  cases mx with
  | some m=>rfl
  | none=>
   show vj P t (bR x) (lo.map bR) (hi.map bR) H K=vj P t (ga x) (lo.map ga) (hi.map ga) H K
   cases lo<;>cases hi<;>simp_all
 case call c=>
  obtain⟨callee,args,argTypes⟩:=c
  have a3: ∀x∈args,bR x=ga x:=fun x hx=>h x (by simp[Call.operands,hx])
  cases callee with
  | builtin b=>
   cases b with
   | len=>
    show(match args.toList,argTypes.toList with
     | [x],[t]=>e8 (kb P t (bR x)) (r_ (bR x) K)
     | _,_=>False)=(match args.toList,argTypes.toList with
     | [x],[t]=>e8 (kb P t (ga x)) (r_ (ga x) K)
     | _,_=>False)
    split
    ·rename_i x t h1 h2
     rw[a3 x (by rw[←Array.mem_toList_iff,h1];simp)]
    ·rfl
   | _=>rfl
  | value f=>
   have hf:bR f=ga f:=h f (by simp[Call.operands])
   show lX (bR f) _=lX (ga f) _
   rw[hf,bC args a3]
  | invoke r m=>rfl
 all_goals (first | rfl | (simp only[sN];simp_all;done))
theorem KQ {P:Program} {o:Oper} {bR ga:Operand→AV} {L:List (Nat×List AV)} {H:List Blk} {K:AV→Prop} (h: ∀x∈o.op.operands,bR x=ga x):j6 P o bR L H K=j6 P o ga L H K:=by
 have hv:=fun K=>KR (P:=P) (L:=L) (H:=H) (K:=K) h
 obtain⟨dst,op,ty,pos,after,guard⟩:=o
 cases op
 case call c=>
  simp only[Op.operands] at h
  obtain⟨callee,args,argTypes⟩:=c
  have a3: ∀x∈args,bR x=ga x:=fun x hx=>h x (by simp[Call.operands,hx])
  cases callee with
  | builtin b=>
   cases b with
   | len=>
    show(match args.toList,argTypes.toList with
     | [x],[t]=>e8 (kb P t (bR x)) (sa (bR x) K)
     | _,_=>False)=(match args.toList,argTypes.toList with
     | [x],[t]=>e8 (kb P t (ga x)) (sa (ga x) K)
     | _,_=>False)
    split
    ·rename_i x t h1 h2
     rw[a3 x (by rw[←Array.mem_toList_iff,h1];simp)]
    ·rfl
   | _=>rfl
  | value f=>exact hv K
  | invoke r m=>rfl
 case pick c x y=>simp only[Op.operands] at h;simp only[j6];simp_all
 case binOp op t x y ty2=>simp only[Op.operands] at h;simp only[j6];simp_all
 all_goals exact hv K
theorem KM {P:Program} {o:Oper} {bR ga:Operand→AV} {L:List (Nat×List AV)} {H:List Blk} {K:AV→Prop} (h: ∀x∈o.op.operands,bR x=ga x):lx P o bR L H K=lx P o ga L H K:=by
 cases a3:pS o with
 | false=>rw[wa a3,wa a3];exact KQ h
 | true=>
  obtain⟨dst,op,ty,pos,after,guard⟩:=o
  cases op
  case alloc e=>rfl
  all_goals cases a3
theorem Va {P:Program} {esc:List Nat} {o:Oper} {bR ga:Operand→AV} {L:List (Nat×List AV)} {H:List Blk} {K:AV→List (Nat×List AV)→List Blk→Prop} (h: ∀x∈o.op.operands,bR x=ga x):kn P esc o bR L H K=kn P esc o ga L H K:=by
 have hv:=fun K=>KR (P:=P) (L:=L) (H:=H) (K:=K) h
 obtain⟨dst,op,ty,pos,after,guard⟩:=o
 cases op
 case call c=>
  obtain⟨callee,args,argTypes⟩:=c
  have h':=h
  simp only[Op.operands] at h
  have a3: ∀x∈args,bR x=ga x:=fun x hx=>h x (by simp[Call.operands,hx])
  cases callee with
  | builtin b=>
   cases b with
   | len=>exact hv fun r=>K r L H
   | append=>
    show(match args.toList,argTypes.toList with
     | [s,x],[t,t2]=>e7 (bR s)=true∧e7 (bR x)=true∧tR P t t2 (bR s) (bR x) L H K
     | _,_=>False)=(match args.toList,argTypes.toList with
     | [s,x],[t,t2]=>e7 (ga s)=true∧e7 (ga x)=true∧tR P t t2 (ga s) (ga x) L H K
     | _,_=>False)
    split
    ·rename_i s x t t2 h1 h2
     rw[a3 x (by rw[←Array.mem_toList_iff,h1];simp),a3 s (by rw[←Array.mem_toList_iff,h1];simp)]
    ·rfl
   | _=>rfl
  | value f=>
   have hf:bR f=ga f:=h f (by simp[Call.operands])
   show lX (bR f) _=lX (ga f) _
   rw[hf,List.map_congr_left fun p hm=>a3 p (by simpa using hm)]
  | invoke r m=>rfl
 case alloc e=>rfl
 case buildSlice t n ps=>
  simp only[Op.operands] at h
  have h: ∀x∈ps.map (·.2),bR x=ga x:=fun x hx=>h x (by simpa using hx)
  have br:(ps.toList.map fun p=>(p.1,bR p.2))=(ps.toList.map fun p=>(p.1,ga p.2)):=
   List.map_congr_left fun p hm=>by rw[h p.2 (Array.mem_map.2 ⟨p,by simpa using hm,rfl⟩)]
  have e2:(ps.toList.all fun p=>e7 (bR p.2))=(ps.toList.all fun p=>e7 (ga p.2)):=by
   rw[Bool.eq_iff_iff,List.all_eq_true,List.all_eq_true]
   constructor<;>intro q p hm
   ·rw[←h p.2 (Array.mem_map.2 ⟨p,by simpa using hm,rfl⟩)];exact q p hm
   ·rw[h p.2 (Array.mem_map.2 ⟨p,by simpa using hm,rfl⟩)];exact q p hm
  show e8 _ (tX P (ud esc dst) (ve esc) t n _ L H K)=e8 _ (tX P (ud esc dst) (ve esc) t n _ L H K)
  rw[br,e2]
 case store t x y=>simp only[Op.operands] at h;simp only[kn];simp_all
 case box e x=>simp only[Op.operands] at h;simp only[kn];simp_all
 case makeSlice t l c=>simp only[Op.operands] at h;simp only[kn];simp_all
 all_goals exact hv fun r=>K r L H
structure vG (P:Program) (ops:Array Oper) (L:List (Nat×List AV)) (H:List Blk) (T:List AV) (o:Oper) (v:AV) (run:Bool):Prop where
 b5: ∀(E:Env) (a:Act),(∀t∈o.looksAt ops,V3 E (T.getD t .undef) (a.tmps.getD t undef))→T.length=a.tmps.size→Region.wanted o (yielded ops a.tmps)=run
 rz:run=true→lx P o (cr T) L H (fun r=>r=v)
 no:run=false→v= .tup []
 put: ∀d,o.dst=some d→d<T.length→T.getD d .undef=v
theorem aav {ops:Array Oper} {o:Oper} {t:Nat} (h: .tmp t∈o.op.operands):t∈o.looksAt ops:=
 List.mem_append_left _ (List.mem_filterMap.2 ⟨.tmp t,by simpa using h,rfl⟩)
theorem aau {ops:Array Oper} {o:Oper} {j t:Nat} {b:Bool} (hg:o.guard=some (j,b)) (bq:(ops[j]?).bind (·.dst)=some t):t∈o.looksAt ops:=by
 refine List.mem_append_right _ ?_
 rw[hg];simp[bq]
theorem Ck {ops:Array Oper} {o:Oper} {T T':List AV} (h: ∀t∈o.looksAt ops,T.getD t .undef=T'.getD t .undef): ∀x∈o.op.operands,cr T x=cr T' x:=fun x hx=>by
 cases x with
 | tmp t=>exact h t (aav hx)
 | _=>rfl
theorem vG.mono {P:Program} {ops:Array Oper} {L:List (Nat×List AV)} {H:List Blk} {T T':List AV} {o:Oper} {v:AV} {run:Bool} (h:vG P ops L H T o v run) (aL:T'.length=T.length)
  (a3: ∀t∈o.looksAt ops,T'.getD t .undef=T.getD t .undef) (bh: ∀d,o.dst=some d→T'.getD d .undef=T.getD d .undef):vG P ops L H T' o v run where
 b5:=fun E a hs aP=>h.b5 E a (fun t bq=>by rw[←a3 t bq];exact hs t bq) (by rw[←aL];exact aP)
 rz:=fun aK=>by
  rw[KM (Ck a3)]
  exact h.rz aK
 no:=h.no
 put:=fun d pG bf=>by rw[bh d pG];exact h.put d pG (by rw[←aL];exact bf)
theorem Lm {P:Program} {ops:Array Oper} {lit:Bool} {o:Oper} {T:List AV} {x y:List AV→Prop} (h:og ops lit o T x y):
  ∃T' run,T'.length=T.length∧(∀t,T'.getD t .undef=T.getD t .undef)∧(∀(E:Env) (a:Act),(∀t∈o.looksAt ops,V3 E (T.getD t .undef) (a.tmps.getD t undef))→T.length=a.tmps.size→Region.wanted o (yielded ops a.tmps)=run)∧(if run=true then x T' else y T'):=by
 unfold og at h
 cases hg:o.guard with
 | none=>rw[hg] at h;exact⟨T,true,rfl,fun _=>rfl,fun E a _ _=>by simp[Region.wanted,hg],h⟩
 | some g=>
  obtain⟨j,b5⟩:=g
  rw[hg] at h
  simp only at h
  cases aN:(ops[j]?).bind (·.dst) with
  | none=>rw[aN] at h;exact h.elim
  | some t=>
   rw[aN] at h
   simp only at h
   have Bz:t∈o.looksAt ops:=aau hg aN
   have r2: ∀b,T.getD t .undef= .bool b→ ∀s,(T.set t (.bool b)).getD s .undef=T.getD s .undef:=fun b hb s=>by
    rw[rQ]
    by_cases hs:t=s∧t<T.length
    ·rw[if_pos hs,←hs.1,hb]
    ·rw[if_neg hs]
   split at h
   ·rename_i b hb
    obtain⟨h1,h2⟩:=AF h
    have hw: ∀(E:Env) (a:Act),(∀t∈o.looksAt ops,V3 E (T.getD t .undef) (a.tmps.getD t undef))→T.length=a.tmps.size→Region.wanted o (yielded ops a.tmps)=(b==b5):=fun E a hs aP=>by
     have hv:=hs t Bz
     rw[hb] at hv
     have he:a.tmps.getD t undef= .bool b:=V3.rG hv
     have bm:yielded ops a.tmps j=some b:=by
      unfold yielded
      rw[aN]
      rw[Array.getD_eq_getD_getElem?] at he
      cases ak:a.tmps[t]? with
      | none=>rw[ak] at he;cases he
      | some x=>rw[ak] at he;have:x= .bool b:=he;subst this;simp[ak]
     simp[Region.wanted,hg,bm]
    cases b with
    | true=>refine⟨_,_,by simp,r2 true hb,hw,?_⟩;have:=h1 rfl;cases b5<;>exact this
    | false=>refine⟨_,_,by simp,r2 false hb,hw,?_⟩;have:=h2 rfl;cases b5<;>exact this
   ·rename_i hb
    refine⟨T,false,rfl,fun _=>rfl,fun E a hs aP=> ?_,h⟩
    have hv:=hs t Bz
    rw[hb] at hv
    obtain⟨vs,he,aI⟩:=(show ∃vs:List Value,a.tmps.getD t undef= .tuple vs.toArray∧aD (V2 E) [] vs from hv)
    obtain rfl:=aI.w7
    have bm:yielded ops a.tmps j=none:=by
     unfold yielded
     rw[aN]
     rw[Array.getD_eq_getD_getElem?] at he
     cases ak:a.tmps[t]? with
     | none=>simp[ak]
     | some x=>rw[ak] at he;have:x= .tuple #[]:=he;subst this;simp[ak]
    simp[Region.wanted,hg,bm]
   ·exact h.elim
theorem xp (T:List AV) (d:Option Nat) (v:AV):(putA T d v).length=T.length:=by
 cases d<;>simp[putA]
theorem Cv {T:List AV} {d:Option Nat} {v:AV} {t:Nat} (h:d≠some t):(putA T d v).getD t .undef=T.getD t .undef:=by
 cases d with
 | none=>rfl
 | some s=>
  show(T.set s v).getD t .undef=_
  rw[rQ,if_neg]
  rintro⟨rfl,_⟩;exact h rfl
theorem Pm {T:List AV} {d:Nat} {v:AV} (h:d<T.length):(putA T (some d) v).getD d .undef=v:=by
 show(T.set d v).getD d .undef=v
 rw[rQ,if_pos ⟨rfl,h⟩]
def lS (ops:Array Oper):List Item→Prop
 | []=>True
 | x::r=>(∀t∈(opI ops x.i).looksAt ops,∀y∈x::r,(opI ops y.i).dst≠some t)∧(∀d,(opI ops x.i).dst=some d→ ∀y∈r,(opI ops y.i).dst≠some d)∧lS ops r
theorem HQ {P:Program} {esc:List Nat} {ops:Array Oper} {L:List (Nat×List AV)} {H:List Blk} {K:List AV→List (Nat×List AV)→List Blk→Prop}: ∀(l:List Item) (T:List AV),lS ops l→ko P esc ops l T L H K→
  ∃pre post oK,l=pre++post∧(∀x∈pre,x.q=true)∧(∀x r,post=x::r→x.q=false)∧ko P esc ops post oK L H K∧oK.length=T.length∧
   (∀t,(∀x∈pre,(opI ops x.i).dst≠some t)→oK.getD t .undef=T.getD t .undef)∧ ∀x∈pre,∃v run,vG P ops L H oK (opI ops x.i) v run
 | [],T,_,h=>⟨[],[],T,rfl,fun x hx=>(by cases hx),fun x r e=>(by cases e),h,rfl,fun _ _=>rfl,fun x hx=>(by cases hx)⟩
 | x::r,T,aA,h=>by
  cases ak:x.q with
  | false=>exact⟨[],x::r,T,rfl,fun x hx=>(by cases hx),fun y CD e=>(by cases e;exact ak),h,rfl,fun _ _=>rfl,fun x hx=>(by cases hx)⟩
  | true=>
   obtain⟨mo,run,oW,l4,hw,fX⟩:=Lm (P:=P) h
   obtain⟨JP,TB,TC⟩:=aA
   have key: ∃v,ko P esc ops r (putA mo (opI ops x.i).dst v) L H K∧(run=true→lx P (opI ops x.i) (cr mo) L H (fun r=>r=v))∧(run=false→v= .tup []):=by
    cases run with
    | true=>
     have fX:(match x.q with
      | true=>lx P (opI ops x.i) (cr mo) L H fun v=>ko P esc ops r (putA mo (opI ops x.i).dst v) L H K
      | false=>_):=fX
     rw[ak] at fX
     obtain⟨v,h1,h2⟩:=Vb _ fX
     exact⟨v,h1,fun _=>h2,fun e=>by cases e⟩
    | false=>exact⟨.tup [],fX,fun e=>(by cases e),fun _=>rfl⟩
   obtain⟨v,hv,X9,l6⟩:=key
   obtain⟨pre,post,oK,rfl,uy,kv,rW,hlen,ho,yO⟩:=HQ r _ TC hv
   have s0: ∀y∈pre,y∈pre++post:=fun y bm=>List.mem_append_left _ bm
   have yV: ∀t∈(opI ops x.i).looksAt ops,oK.getD t .undef=mo.getD t .undef:=fun t bq=>by
    rw[ho t fun y bm=>JP t bq y (List.mem_cons_of_mem _ (s0 y bm)),Cv (JP t bq x (List.mem_cons_self ..))]
   refine⟨x::pre,post,oK,rfl,fun y bm=> ?_,kv,rW,by rw[hlen,xp,oW],fun t bq=> ?_,fun y bm=> ?_⟩
   ·rcases List.mem_cons.1 bm with rfl | bm
    ·exact ak
    ·exact uy y bm
   ·rw[ho t fun y bm=>bq y (List.mem_cons_of_mem _ bm),Cv (bq x (List.mem_cons_self ..)),l4]
   ·rcases List.mem_cons.1 bm with rfl | bm
    ·refine⟨v,run,⟨fun E a hs aP=>hw E a (fun t bq=> ?_) ?_,fun aK=> ?_,l6,fun d bh bf=> ?_⟩⟩
     ·rw[←l4 t,←yV t bq];exact hs t bq
     ·rw[←aP,hlen,xp,oW]
     ·rw[KM (Ck yV)];exact X9 aK
     ·rw[ho d fun y bm=>TB d bh y (s0 y bm),bh]
      exact Pm (by rw[hlen,xp] at bf;exact bf)
    ·exact yO y bm
def tK (A:Nat→List Nat):List Item→List Item→Prop
 | _,[]=>True
 | p,h::r=>(h.q=false→(∀y∈r,h.i∈A y.i)∧ ∀x∈p,x.i∈A h.i∨x.i∈h.jO)∧tK A (p++[h]) r
theorem tK.at {A:Nat→List Nat}: ∀{pre p:List Item} {h:Item} {r:List Item},tK A p (pre++h::r)→h.q=false→(∀y∈r,h.i∈A y.i)∧ ∀x∈p++pre,x.i∈A h.i∨x.i∈h.jO
 | [],p,h,r,hb,ak=>by
  rw[List.append_nil];exact hb.1 ak
 | x::pre,p,h,r,hb,ak=>by
  have:=tK.at (pre:=pre) (p:=p++[x]) hb.2 ak
  simpa using this
structure Ai (ops:Array Oper) (ord:List Item) (A:Nat→List Nat):Prop where
 back: ∀i o,ops[i]?=some o→ ∀e∈o.after,Region.binds .any e=true→e.on<i
 Ty: ∀i o,ops[i]?=some o→ ∀a∈A i,∃e∈o.after,Region.binds .any e=true∧(a=e.on∨a∈A e.on)
 all: ∀i,i<ops.size→ ∃x∈ord,x.i=i
 lt: ∀x∈ord,x.i<ops.size
 nodup:(ord.map (·.i)).Nodup
 afn: ∀x∈ord,∀t∈(opI ops x.i).looksAt ops,∀y∈ord,(opI ops y.i).dst=some t→y.i∈A x.i
 apart:lS ops ord
 k4:tK A [] ord
theorem lS.tail {ops:Array Oper}: ∀{p r:List Item},lS ops (p++r)→lS ops r
 | [],_,h=>h
 | _::p,_,h=>lS.tail (p:=p) h.2.2
theorem lS.N0 {ops:Array Oper}: ∀{p r:List Item},lS ops (p++r)→ ∀x∈p,(∀t∈(opI ops x.i).looksAt ops,∀y∈r,(opI ops y.i).dst≠some t)∧ ∀d,(opI ops x.i).dst=some d→ ∀y∈r,(opI ops y.i).dst≠some d
 | [],_,_,x,hx=>by cases hx
 | z::p,r,h,x,hx=>by
  rcases List.mem_cons.1 hx with rfl | hx
  ·exact⟨fun t bq y bm=>h.1 t bq y (List.mem_cons_of_mem _ (List.mem_append_right _ bm)),fun d bh y bm=>h.2.1 d bh y (List.mem_append_right _ bm)⟩
  ·exact lS.N0 (p:=p) h.2.2 x hx
theorem lS.inj {ops:Array Oper}: ∀{l:List Item},lS ops l→ ∀x∈l,∀y∈l,x.i≠y.i→ ∀d,(opI ops x.i).dst=some d→(opI ops y.i).dst≠some d
 | [],_,x,hx,_,_,_,_,_=>by cases hx
 | z::r,h,x,hx,y,bm,cl,d,bh=>by
  rcases List.mem_cons.1 hx with ex | NX
  ·rcases List.mem_cons.1 bm with A5 | GA
   ·exact absurd (by rw[ex,A5]) cl
   ·exact h.2.1 d (by rw[←ex];exact bh) y GA
  ·rcases List.mem_cons.1 bm with A5 | GA
   ·exact fun e=>h.2.1 d (by rw[←A5];exact e) x NX bh
   ·exact lS.inj h.2.2 x NX y GA cl d bh
theorem sf {ops:Array Oper} {i:Nat} (h:i<ops.size):ops[i]?=some (opI ops i):=by
 unfold opI
 rw[Array.getElem?_eq_getElem h,Array.getD_eq_getD_getElem?,Array.getElem?_eq_getElem h];rfl
def Dj (ops:Array Oper) (S:Array Bool):Prop:= ∀i o,ops[i]?=some o→S.getD i false=true→ ∀e∈o.after,Region.binds .any e=true→S.getD e.on false=true
theorem Tz {ops:Array Oper} {ord:List Item} {A:Nat→List Nat} (D:Ai ops ord A) {S:Array Bool} (hs:S.size=ops.size) (hc:Dj ops S): ∀(i:Nat) o,ops[i]?=some o→(∀e∈o.after,Region.binds .any e=true→S.getD e.on false=true)→ ∀a∈A i,S.getD a false=true:=by
 intro i
 induction i using Nat.strongRecOn with
 | _ i bQ=>
  intro o aC aK a a3
  obtain⟨e,he,hb,rZ⟩:=D.Ty i o aC a a3
  have s3:=aK e he hb
  rcases rZ with rfl | rZ
  ·exact s3
  ·have bf:=D.back i o aC e he hb
   have cY:e.on<ops.size:=by
    rcases Nat.lt_or_ge e.on ops.size with h | h
    ·exact h
    ·rw[Array.getD_eq_getD_getElem?,Array.getElem?_eq_none (by omega)] at s3;cases s3
   exact bQ e.on bf _ (sf cY) (fun dS Xb ek=>hc e.on _ (sf cY) s3 dS Xb ek) a rZ
theorem PK {ops:Array Oper} {S:Array Bool} (hs:S.size=ops.size) {i:Nat} (h:i∈Region.ready .any ops S):i<ops.size∧S.getD i false=false∧ ∀e∈(opI ops i).after,Region.binds .any e=true→S.getD e.on false=true:=by
 unfold Region.ready at h
 rw[List.mem_filter,List.mem_range] at h
 obtain⟨bf,h⟩:=h
 rw[sf bf] at h
 simp only[Option.map_some,Option.getD_some,Bool.and_eq_true,Bool.not_eq_true',Array.all_eq_true_iff_forall_mem] at h
 obtain⟨h1,h2⟩:=h
 refine⟨bf,?_,fun e he hb=> ?_⟩
 ·rw[Array.getD_eq_getD_getElem?,Array.getElem?_eq_getElem (by omega)] at h1 ⊢;exact h1
 ·have:=h2 e he
  rw[hb] at this;simpa using this
theorem abH {ops:Array Oper} {ord:List Item} {A:Nat→List Nat} (D:Ai ops ord A) {S:Array Bool} (hs:S.size=ops.size) (h:Region.ready .any ops S=[]): ∀i,i<ops.size→S.getD i false=true:=by
 intro i
 induction i using Nat.strongRecOn with
 | _ i bQ=>
  intro bf
  cases ak:S.getD i false with
  | true=>rfl
  | false=>
   exfalso
   have:i∈Region.ready .any ops S:=by
    unfold Region.ready
    rw[List.mem_filter,List.mem_range]
    refine⟨bf,?_⟩
    rw[sf bf]
    simp only[Option.map_some,Option.getD_some,Bool.and_eq_true,Bool.not_eq_true',Array.all_eq_true_iff_forall_mem]
    refine⟨?_,fun e he=> ?_⟩
    ·rw[Array.getD_eq_getD_getElem?,Array.getElem?_eq_getElem (by omega)] at ak ⊢;exact ak
    ·cases hb:Region.binds .any e with
     | false=>rfl
     | true=>
      have aL:=D.back i _ (sf bf) e he hb
      simpa using bQ e.on aL (by omega)
   rw[h] at this;cases this
theorem Kn {α:Type} (p Cn:α→Bool) (j:α) (aI:p j=true) (s4:Cn j=false) (hk: ∀k,k≠j→p k=Cn k): ∀l:List α,l.Nodup→j∈l→l.countP p=l.countP Cn+1
 | [],_,h=>by cases h
 | k::l,aG,h=>by
  rw[List.nodup_cons] at aG
  by_cases Fa:k=j
  ·subst Fa
   rw[List.countP_cons_of_pos aI,List.countP_cons_of_neg (by simp[s4])]
   congr 1
   refine List.countP_congr fun x hx=> ?_
   rw[hk x (fun e=>aG.1 (e▸hx))]
  ·have aN:j∈l:=(List.mem_cons.1 h).resolve_left fun e=>Fa e.symm
   have bQ:=Kn p Cn j aI s4 hk l aG.2 aN
   rw[List.countP_cons,List.countP_cons,hk k Fa,bQ];omega
def left (n:Nat) (S:Array Bool):Nat:=(List.range n).countP fun j=> !S.getD j false
theorem yw {S:Array Bool} {i j:Nat}:(S.setIfInBounds i true).getD j false=if i=j∧i<S.size then true else S.getD j false:=by
 rw[Array.getD_eq_getD_getElem?,Array.getD_eq_getD_getElem?,Array.getElem?_setIfInBounds]
 by_cases h:i=j
 ·subst h
  by_cases aL:i<S.size
  ·simp[aL]
  ·simp[aL]
 ·simp[h]
theorem Z_ {n:Nat} {S:Array Bool} {i:Nat} (hs:S.size=n) (hi:i<n) (h:S.getD i false=false):left n S=left n (S.setIfInBounds i true)+1:=by
 refine Kn _ _ i (by simp[h]) ?_ (fun k hk=> ?_) _ List.nodup_range (List.mem_range.2 hi)
 ·rw[yw,if_pos ⟨rfl,by omega⟩];rfl
 ·rw[yw,if_neg (fun e=>hk e.1.symm)]
theorem aaa {n:Nat} {S:Array Bool} (h:left n S=0): ∀i,i<n→S.getD i false=true:=fun i hi=>by
 have:=(List.countP_eq_zero.1 h) i (List.mem_range.2 hi)
 simpa using this
def uu:List Nat→List AV→List AV
 | [],T=>T
 | d::jt,T=>uu jt (T.set d .undef)
theorem Bs: ∀(jt:List Nat) (T:List AV) (t:Nat),(t∈jt→(uu jt T).getD t .undef= .undef)∧(t ∉ jt→(uu jt T).getD t .undef=T.getD t .undef)
 | [],T,t=>⟨fun h=>(by cases h),fun _=>rfl⟩
 | d::jt,T,t=>by
  obtain⟨h1,h2⟩:=Bs jt (T.set d .undef) t
  refine⟨fun h=> ?_,fun h=> ?_⟩
  ·by_cases bh:t∈jt
   ·exact h1 bh
   ·have e:t=d:=(List.mem_cons.1 h).resolve_right bh
    show(uu jt (T.set d .undef)).getD t .undef= .undef
    rw[h2 bh,rQ]
    by_cases aL:d=t∧d<T.length
    ·rw[if_pos aL]
    ·rw[if_neg aL,List.getD_eq_getElem?_getD,List.getElem?_eq_none (by rcases Nat.lt_or_ge d T.length with q | q;exact absurd ⟨e.symm,q⟩ aL;omega)];rfl
  ·show(uu jt (T.set d .undef)).getD t .undef=_
   rw[h2 fun hm=>h (List.mem_cons_of_mem _ hm),rQ,if_neg fun hm=>h (by rw[hm.1];exact List.mem_cons_self ..)]
section
variable {P:Program} {esc:List Nat} {ops:Array Oper} {ord:List Item} {A:Nat→List Nat} {Q:Exit→St→Prop} {cz:Env}
structure Jz [cL] (P:Program) (esc:List Nat) (ops:Array Oper) (ord:List Item) (Q:Exit→St→Prop) (cz:Env) (S:Array Bool) (a:Act) (w:World) (pre post:List Item) (E:Env) (T:List AV) (L:List (Nat×List AV)) (H:List Blk):Prop where
 pX:ord=pre++post
 z9: ∀x∈post,S.getD x.i false=false
 head: ∀x r,post=x::r→x.q=false
 Ei:ko P esc ops post T L H (fun T L H=>Q .normal ⟨T,L,H⟩)
 facts: ∀x∈pre,S.getD x.i false=false→x.q=true∧ ∃v run,vG P ops L H T (opI ops x.i) v run
 iA: ∀t,(∃x∈pre,S.getD x.i false=false∧(opI ops x.i).dst=some t)∨V3 E (T.getD t .undef) (a.tmps.getD t undef)
 size:T.length=a.tmps.size
 h:SimH E H
 l:SimL E L
 m2:Good cz E
 bL: ∀x∈ord,S.getD x.i false=false→pS (opI ops x.i)=true→x.q=true→ ∀d,(opI ops x.i).dst=some d→E.mL d=none
 D1:a.defers=[]
 w:E.w=w
theorem Pq {a:Act} {d:Option Nat} {u:Value} {t:Nat} (h:d≠some t):(a.put d u).tmps.getD t undef=a.tmps.getD t undef:=by
 cases d with
 | none=>rfl
 | some s=>
  show(a.tmps.setIfInBounds s u).getD t undef=_
  rw[Array.getD_eq_getD_getElem?,Array.getD_eq_getD_getElem?,Array.getElem?_setIfInBounds_ne (fun e=>h (by rw[e]))]
theorem Ps {a:Act} {d:Nat} {u:Value} (h:d<a.tmps.size):(a.put (some d) u).tmps.getD d undef=u:=by
 show(a.tmps.setIfInBounds d u).getD d undef=_
 rw[Array.getD_eq_getD_getElem?,Array.getElem?_setIfInBounds_self];simp[h]
theorem Pt (a:Act) (d:Option Nat) (u:Value):(a.put d u).tmps.size=a.tmps.size:=by
 cases d<;>simp[Act.put]
theorem Pp {a:Act} (d:Option Nat) (u:Value) (h:a.defers=[]):(a.put d u).defers=[]:=by
 cases d<;>exact h
theorem Tx {o:Oper} {a:Act} {T:List AV} {L:List (Nat×List AV)} {H:List Blk} {v:AV} {E:Env} (aS:SimH E H) (b1:SimL E L) (a3:pS o=true) (aG: ∀d,o.dst=some d→E.mL d=none) (h:lx P o (cr T) L H (fun r=>r=v)):
  ∃t u E',V3 E' v u∧o.dst=some t∧Step E E'∧SimH E' H∧SimL E' L∧(∀s,s≠t→E'.mL s=E.mL s)∧True∧ ∀(next:Act→World→Prop) Q,next (a.put o.dst u) E'.w→o.wp P a E.w next Q:=by
 obtain⟨dst,op,ty,pos,after,guard⟩:=o
 cases op
 all_goals try (cases a3;done)
 rename_i e
 obtain⟨z,aP,h⟩:=fC (show JI P e dst L (fun r=>r=v) from h)
 obtain⟨t,bq,h⟩:=fC h
 obtain⟨c,hc,h⟩:=fC h
 obtain⟨hs,h⟩:=pY h
 obtain⟨ak,ch⟩:=pY h
 have ch:AV.fH t 0=v:=ch
 clear h
 subst ch
 have ak:=Tm ak
 subst ak
 obtain⟨i,vE,q1,q2,q3,q4⟩:=vD (E:=E) aP
 obtain⟨E',br,e2,dW,i_,im,_,mX⟩:=OF (ty:=e) aS b1 (nv.alloc E.w (.cells vE.cells e (0,0))) hc (aG t bq) (I6 hs q4)
 refine⟨t,_,E',im,bq,e2,dW,i_,mX,trivial,fun next Q hk=> ?_⟩
 unfold Oper.wp
 rw[show execOp a.eval ⟨dst,.alloc e,ty,pos,after,guard⟩=(do pure (Next.value (←Instr.alloc e true (.tuple #[])))) from rfl]
 refine Jm (w':=E'.w) ?_ hk
 rw[br]
 simp[Instr.alloc,zeroValue,typeInfo,q1,q2,newVar,newRow]
theorem UM [cL] (D:Ai ops ord A): ∀(nB:Nat) (S:Array Bool) (a:Act) (w:World) (pre post:List Item) (E:Env) (T:List AV) (L:List (Nat×List AV)) (H:List Blk),
  S.size=ops.size→left ops.size S=nB→Dj ops S→Jz P esc ops ord Q cz S a w pre post E T L H→wpAny P .any ops (nx cz Q) nB S a w:=by
 have fin: ∀(S:Array Bool) (a:Act) (w:World) (pre post:List Item) (E:Env) (T:List AV) (L:List (Nat×List AV)) (H:List Blk),(∀i,i<ops.size→S.getD i false=true)→Jz P esc ops ord Q cz S a w pre post E T L H→nx cz Q .normal a w:=by
  intro S a w pre post E T L H eK I
  have aI:post=[]:=by
   cases post with
   | nil=>rfl
   | cons x r=>
    have h1:=I.z9 x (List.mem_cons_self ..)
    rw[eK x.i (D.lt x (by rw[I.pX];simp))] at h1;cases h1
  subst aI
  refine⟨rfl,⟨T,L,H⟩,E,I.Ei,I.w,I.m2,⟨I.h,I.l,fun t=> ?_,I.size⟩,I.D1⟩
  rcases I.iA t with⟨x,hx,hu,_⟩ | h
  ·rw[eK x.i (D.lt x (by rw[I.pX];simp[hx]))] at hu;cases hu
  ·exact h
 intro nB
 induction nB with
 | zero=>
  intro S a w pre post E T L H hs hf hc I
  have eK:=aaa hf
  refine⟨?_,fin S a w pre post E T L H eK I⟩
  cases aK:Region.ready .any ops S with
  | nil=>rfl
  | cons i l=>
   have:=PK hs (i:=i) (by rw[aK];exact List.mem_cons_self ..)
   rw[eK i this.1] at this;cases this.2.1
 | succ nB bQ=>
  intro S a w pre post E T L H hs hf hc I
  refine⟨fun aK=>fin S a w pre post E T L H (abH D hs aK) I,fun i hi=> ?_⟩
  obtain⟨bf,qI,s3⟩:=PK hs hi
  have ER:=Tz D hs hc i _ (sf bf) s3
  have LC:(S.setIfInBounds i true).size=ops.size:=by simpa using hs
  have Bp:left ops.size (S.setIfInBounds i true)=nB:=by have:=Z_ hs bf qI;omega
  have qB:Dj ops (S.setIfInBounds i true):=by
   intro j o aC aN e he hb
   rw[yw] at aN ⊢
   by_cases nD:i=j
   ·subst nD
    have:o=opI ops i:=by rw[sf bf] at aC;exact(Option.some.inj aC).symm
    subst this
    split
    ·rfl
    ·exact s3 e he hb
   ·rw[if_neg fun q=>nD q.1] at aN
    split
    ·rfl
    ·exact hc j o aC aN e he hb
  have HW: ∀j,(S.setIfInBounds i true).getD j false=false→S.getD j false=false∧j≠i:=fun j aN=>by
   rw[yw] at aN
   split at aN
   ·cases aN
   ·rename_i q;exact⟨aN,fun e=>q ⟨e.symm,by omega⟩⟩
  have zR: ∀j,j≠i→S.getD j false=false→(S.setIfInBounds i true).getD j false=false:=fun j aN h=>by
   rw[yw,if_neg fun q=>aN q.1.symm];exact h
  obtain⟨y,bm,mA⟩:=D.all i bf
  subst mA
  have mA:y.i=y.i:=rfl
  let jt:List Nat:=(pre.filter fun x=> !S.getD x.i false).filterMap fun x=>(opI ops x.i).dst
  have E4: ∀t,t∈jt↔ ∃x∈pre,S.getD x.i false=false∧(opI ops x.i).dst=some t:=fun t=>by
   simp only[jt,List.mem_filterMap,List.mem_filter,Bool.not_eq_true']
   constructor
   ·rintro⟨x,⟨h1,h2⟩,aO⟩;exact⟨x,h1,h2,aO⟩
   ·rintro⟨x,h1,h2,aO⟩;exact⟨x,⟨h1,h2⟩,aO⟩
  have cu: ∀t,V3 E ((uu jt T).getD t .undef) (a.tmps.getD t undef):=fun t=>by
   by_cases h:t∈jt
   ·rw[(Bs jt T t).1 h];exact V3.undef _ _
   ·rw[(Bs jt T t).2 h]
    exact(I.iA t).resolve_left fun q=>h ((E4 t).2 q)
  have yV: ∀t∈(opI ops y.i).looksAt ops,t ∉ jt:=fun t bq hm=>by
   obtain⟨x,hx,hu,bh⟩:=(E4 t).1 hm
   have:=ER x.i (by rw[←mA];rw[←mA] at bq;exact D.afn y bm t bq x (by rw[I.pX];simp[hx]) bh)
   rw[this] at hu;cases hu
  have Ml: ∀t∈(opI ops y.i).looksAt ops,V3 E (T.getD t .undef) (a.tmps.getD t undef):=fun t bq=>(I.iA t).resolve_left fun q=>yV t bq ((E4 t).2 q)
  have LH: ∀t∈(opI ops y.i).looksAt ops,(uu jt T).getD t .undef=T.getD t .undef:=fun t bq=>(Bs jt T t).2 (yV t bq)
  have JH: ∀E':Env,(∀t,(opI ops y.i).dst≠some t→E'.mL t=E.mL t)→ ∀x∈ord,(S.setIfInBounds y.i true).getD x.i false=false→pS (opI ops x.i)=true→x.q=true→ ∀d,(opI ops x.i).dst=some d→E'.mL d=none:=fun E' hml x hx hu a3 X7 d bh=>by
   obtain⟨wQ,wR⟩:=HW _ hu
   rw[hml d (D.apart.inj x hx y bm wR d bh)]
   exact I.bL x hx wQ a3 X7 d bh
  unfold wpOp
  rw[sf bf]
  simp only
  have s0:y∈pre∨y∈post:=by rw[I.pX] at bm;exact List.mem_append.1 bm
  rcases s0 with uE | uE
  ·
   obtain⟨ak,v,run,F⟩:=I.facts y uE (by rw[mA];exact qI)
   rw[mA] at F
   have hw:=F.b5 E a Ml I.size
   have next: ∀(u:Value) (E':Env),Step E E'→SimH E' H→SimL E' L→(∀t,(opI ops y.i).dst≠some t→E'.mL t=E.mL t)→V3 E' v u→wpAny P .any ops (nx cz Q) nB (S.setIfInBounds y.i true) (a.put (opI ops y.i).dst u) E'.w:=fun u E' bk r0 r1 hml hv=>by
    refine bQ _ _ _ pre post E' T L H LC Bp qB ⟨I.pX,fun x hx=>zR _ (fun e=> ?_) (I.z9 x hx),I.head,I.Ei,fun x hx hu=>I.facts x hx (HW _ hu).1,fun t=> ?_,by rw[Pt];exact I.size,r0,r1,I.m2.step bk,JH E' hml,Pp _ _ I.D1,rfl⟩
    ·have m9:=D.nodup
     rw[I.pX,List.map_append,List.nodup_append] at m9
     exact m9.2.2 y.i (List.mem_map_of_mem uE) x.i (List.mem_map_of_mem hx) (by rw[mA,e])
    ·by_cases bh:(opI ops y.i).dst=some t
     ·right
      rw[bh]
      by_cases aL:t<T.length
      ·rw[F.put t bh aL,Ps (by rw[←I.size];exact aL)];exact hv
      ·rw[List.getD_eq_getElem?_getD,List.getElem?_eq_none (Nat.not_lt.1 aL)];exact V3.undef _ _
     ·rcases I.iA t with⟨x,hx,hu,y_⟩ | h
      ·exact .inl ⟨x,hx,zR _ (fun e=>bh (by rw[←e];exact y_)) hu,y_⟩
      ·right;rw[Pq bh];exact h.le bk.le
   cases run with
   | true=>
    rw[if_pos hw]
    refine .inl ?_
    have rW:=F.rz rfl
    cases EQ:pS (opI ops y.i) with
    | true=>
     obtain⟨t,u,E',hv,Xa,q1,q2,q3,q4,_,c6⟩:=Tx (P:=P) (a:=a) I.h I.l EQ (fun t bq=>I.bL y bm (by rw[mA];exact qI) EQ ak t bq) rW
     rw[←I.w]
     exact c6 _ _ (next u E' q1 q2 q3 (fun s hs=>q4 s fun e=>hs (by rw[Xa,e])) hv)
    | false=>
    rw[wa EQ,←KQ (Ck LH)] at rW
    rw[←I.w]
    refine Oper.wp_mono (fun ij w' ⟨e_,u,E',he,e4,hqt,hv,a3⟩=> ?_) (KS cu (Sub.refl L H) I.h I.l (A2 rW))
    subst he;subst e4;subst a3
    exact next u E' hqt.step (hqt.simH I.h) (hqt.simL I.h I.l) (fun t _=>by rw[hqt.mL]) hv
   | false=>
    rw[if_neg (by rw[hw];simp)]
    have hv:=F.no rfl
    subst hv
    rw[←I.w]
    exact next undef E (Step.refl E) I.h I.l (fun _ _=>rfl) ⟨[],rfl,aD.nil⟩
  ·
   have kv: ∃r,post=y::r:=by
    cases aI:post with
    | nil=>rw[aI] at uE;cases uE
    | cons x r=>
     rw[aI] at uE
     rcases List.mem_cons.1 uE with rfl | X_
     ·exact⟨r,rfl⟩
     ·have hb:=D.k4
      rw[I.pX,aI] at hb
      have:=(hb.at (I.head x r aI)).1 y X_
      rw[mA] at this
      have h1:=ER x.i this
      rw[I.z9 x (by rw[aI];exact List.mem_cons_self ..)] at h1;cases h1
   obtain⟨r,XN⟩:=kv
   subst XN
   have ak:=I.head y r rfl
   have rW:=I.Ei
   obtain⟨mo,run,oW,l4,hw,fX⟩:=Lm (P:=P) rW
   have hw:=hw E a Ml I.size
   have ES:=D.apart
   rw[I.pX] at ES
   have L3:=lS.N0 ES
   have W0:=(show tK A [] (pre++y::r) from I.pX▸D.k4).at ak
   have m9:=D.nodup
   rw[I.pX,List.map_append,List.map_cons,List.nodup_append,List.nodup_cons] at m9
   have XL: ∀x∈pre,S.getD x.i false=false→x.i∈y.jO:=fun x hx hu=>by
    rcases W0.2 x (by simpa using hx) with h | h
    ·rw[mA] at h
     have:=ER x.i h
     rw[hu] at this;cases this
    ·exact h

   have next: ∀(v:AV) (u:Value) (L':List (Nat×List AV)) (H':List Blk) (E':Env),Step E E'→SimH E' H'→SimL E' L'→(∀t,(opI ops y.i).dst≠some t→E'.mL t=E.mL t)→V3 E' v u→ko P esc ops r (putA mo (opI ops y.i).dst v) L' H' (fun T L H=>Q .normal ⟨T,L,H⟩)→
     (∀x∈pre,S.getD x.i false=false→ ∃v run,vG P ops L' H' mo (opI ops x.i) v run)→
     wpAny P .any ops (nx cz Q) nB (S.setIfInBounds y.i true) (a.put (opI ops y.i).dst u) E'.w:=by
    intro v u L' H' E' bk aS b1 hml hv hK Xh
    obtain⟨Hd,abi,oK,BH,XJ,XM,Xc,hlen,ho,yO⟩:=HQ r _ (lS.tail (p:=[y]) (lS.tail ES)) hK
    have Fl: ∀z∈Hd,z∈r:=fun z aP=>by rw[BH];exact List.mem_append_left _ aP
    have LD: ∀t,(∀z∈y::r,(opI ops z.i).dst≠some t)→oK.getD t .undef=mo.getD t .undef:=fun t bq=>by
     rw[ho t fun z aP=>bq z (List.mem_cons_of_mem _ (Fl z aP)),Cv (bq y (List.mem_cons_self ..))]
    refine bQ _ _ _ (pre++y::Hd) abi E' oK L' H' LC Bp qB ⟨by rw[I.pX,BH];simp,fun x hx=> ?_,XM,Xc,fun x hx hu=> ?_,fun t=> ?_,by rw[Pt,hlen,xp,oW];exact I.size,aS,b1,I.m2.step bk,JH E' hml,Pp _ _ I.D1,rfl⟩
    ·have BR:x∈r:=by rw[BH];exact List.mem_append_right _ hx
     exact zR _ (fun e=>m9.2.1.1 (by rw[mA,←e];exact List.mem_map_of_mem BR)) (I.z9 x (List.mem_cons_of_mem _ BR))
    ·obtain⟨wQ,wR⟩:=HW _ hu
     rcases List.mem_append.1 hx with hx | hx
     ·refine⟨(I.facts x hx wQ).1,?_⟩
      obtain⟨e_,run',F⟩:=Xh x hx wQ
      refine⟨e_,run',F.mono (by rw[hlen,xp]) (fun t bq=>LD t fun z aP=>(L3 x hx).1 t bq z aP) fun d bh=>LD d fun z aP=>(L3 x hx).2 d bh z aP⟩
     ·rcases List.mem_cons.1 hx with rfl | hx
      ·exact absurd mA wR
      ·exact⟨XJ x hx,yO x hx⟩
    ·by_cases rV: ∃z∈Hd,(opI ops z.i).dst=some t
     ·obtain⟨z,aP,pP⟩:=rV
      refine .inl ⟨z,by simp[aP],zR _ (fun e=>m9.2.1.1 (by rw[mA,←e];exact List.mem_map_of_mem (Fl z aP))) (I.z9 z (List.mem_cons_of_mem _ (Fl z aP))),pP⟩
     ·have br:=ho t fun z aP q=>rV ⟨z,aP,q⟩
      by_cases bh:(opI ops y.i).dst=some t
      ·right
       rw[mA] at bh br
       rw[br,bh]
       by_cases aL:t<mo.length
       ·rw[Pm aL,Ps (by rw[←I.size,←oW];exact aL)];exact hv
       ·rw[List.getD_eq_getElem?_getD,List.getElem?_eq_none (by rw[xp];exact Nat.not_lt.1 aL)];exact V3.undef _ _
      ·rw[Cv bh,l4] at br
       rcases I.iA t with⟨x,hx,hu,y_⟩ | h
       ·refine .inl ⟨x,by simp[hx],zR _ (fun e=>bh (by rw[mA,←e];exact y_)) hu,y_⟩
       ·right;rw[br,Pq (by rw[←mA];exact bh)];exact h.le bk.le
   cases run with
   | true=>
    rw[if_pos hw]
    refine .inl ?_
    have fX:(match y.q with
     | true=>_
     | false=>kn P esc (opI ops y.i) (cr mo) L H fun v L' H'=>rO P ops y.jO mo L' H'∧ko P esc ops r (putA mo (opI ops y.i).dst v) L' H' (fun T L H=>Q .normal ⟨T,L,H⟩)):=fX
    rw[ak] at fX
    have fX:kn P esc (opI ops y.i) (cr mo) L H fun v L' H'=>rO P ops y.jO mo L' H'∧ko P esc ops r (putA mo (opI ops y.i).dst v) L' H' (fun T L H=>Q .normal ⟨T,L,H⟩):=fX
    rw[←Va (Ck fun t bq=>(LH t bq).trans (l4 t).symm)] at fX
    rw[←I.w]
    refine Oper.wp_mono (fun ij w' ⟨v,u,L',H',E',⟨oo,hK⟩,e4,q1,q2,q3,q4,a3,hml⟩=> ?_) (evOp_sound cu I.h I.l fX)
    subst e4;subst a3
    refine next v u L' H' E' q1 q2 q3 hml q4 hK fun x hx hu=> ?_
    obtain⟨f1,f2,f3⟩:=K_ oo x.i (XL x hx hu)
    refine⟨_,true,⟨fun E a hs aP=> ?_,fun _=>f3,fun e=>(by cases e),fun d bh bf=> ?_⟩⟩
    ·unfold Region.wanted
     cases yQ:(opI ops x.i).guard with
     | none=>rfl
     | some g=>rw[yQ] at f1;cases f1
    ·unfold sK;rw[bh]
   | false=>
    rw[if_neg (by rw[hw];simp)]
    rw[←I.w]
    refine next (.tup []) undef L H E (Step.refl E) I.h I.l (fun _ _=>rfl) ⟨[],rfl,aD.nil⟩ fX fun x hx hu=> ?_
    obtain⟨_,e_,run',F⟩:=I.facts x hx hu
    exact⟨e_,run',F.mono oW (fun t _=>l4 t) fun d _=>l4 d⟩
end
def Au (ops:Array Oper):List Item→Bool
 | []=>true
 | x::r=>((opI ops x.i).looksAt ops).all (fun t=>(x::r).all fun y=>(opI ops y.i).dst !=some t)&&(match(opI ops x.i).dst with
  | some d=>r.all fun y=>(opI ops y.i).dst !=some d
  | none=>true)&&Au ops r
theorem JR {ops:Array Oper}: ∀{l:List Item},Au ops l=true→lS ops l
 | [],_=>trivial
 | x::r,h=>by
  simp only[Au,Bool.and_eq_true] at h
  obtain⟨⟨h1,h2⟩,aO⟩:=h
  refine⟨fun t bq y bm=> ?_,fun d bh y bm=> ?_,JR aO⟩
  ·have:=List.all_eq_true.1 (List.all_eq_true.1 h1 t bq) y bm
   simpa using this
  ·rw[bh] at h2
   have:=List.all_eq_true.1 h2 y bm
   simpa using this
def Ay (A:Nat→List Nat):List Item→List Item→Bool
 | _,[]=>true
 | p,h::r=>(h.q || (r.all (fun y=>(A y.i).contains h.i)&&p.all fun x=>(A h.i).contains x.i || h.jO.contains x.i))&&Ay A (p++[h]) r
theorem JV {A:Nat→List Nat}: ∀{l p:List Item},Ay A p l=true→tK A p l
 | [],_,_=>trivial
 | h::r,p,hb=>by
  simp only[Ay,Bool.and_eq_true] at hb
  refine⟨fun ak=> ?_,JV hb.2⟩
  have h1:=hb.1
  rw[ak,Bool.false_or,Bool.and_eq_true] at h1
  refine⟨fun y bm=>by simpa using List.all_eq_true.1 h1.1 y bm,fun x hx=> ?_⟩
  have:=List.all_eq_true.1 h1.2 x hx
  simpa using this
def Ce:List Nat→Bool
 | []=>true
 | x::r=> !r.contains x&&Ce r
theorem OK: ∀{l:List Nat},Ce l=true→l.Nodup
 | [],_=>List.nodup_nil
 | x::r,h=>by
  simp only[Ce,Bool.and_eq_true] at h
  rw[List.nodup_cons]
  exact⟨by simpa using h.1,OK h.2⟩
def vZ (ops:Array Oper) (ord:List Item) (A:Nat→List Nat):Bool:=
 (List.range ops.size).all (fun i=>(opI ops i).after.toList.all (fun e=> !Region.binds .any e || decide (e.on<i))&&(A i).all fun a=>(opI ops i).after.toList.any fun e=>Region.binds .any e&&(a==e.on || (A e.on).contains a))&&
 (List.range ops.size).all (fun i=>ord.any fun x=>x.i==i)&&ord.all (fun x=>decide (x.i<ops.size))&&Ce (ord.map (·.i))&&
 ord.all (fun x=>((opI ops x.i).looksAt ops).all fun t=>ord.all fun y=>(opI ops y.i).dst !=some t || (A x.i).contains y.i)&&Au ops ord&&Ay A [] ord
theorem UN {ops:Array Oper} {ord:List Item} {A:Nat→List Nat} (iF: ∀i,ops.size≤i→A i=[]) (h:vZ ops ord A=true):Ai ops ord A:=by
 simp only[vZ,Bool.and_eq_true] at h
 obtain⟨⟨⟨⟨⟨⟨h1,h2⟩,aO⟩,bd⟩,ch⟩,cD⟩,gp⟩:=h
 have get: ∀i o,ops[i]?=some o→i<ops.size∧o=opI ops i:=fun i o aC=>by
  have bf:i<ops.size:=by
   rcases Nat.lt_or_ge i ops.size with h | h
   ·exact h
   ·rw[Array.getElem?_eq_none h] at aC;cases aC
  rw[sf bf] at aC
  exact⟨bf,(Option.some.inj aC).symm⟩
 refine⟨fun i o aC e he hb=> ?_,fun i o aC a a3=> ?_,fun i hi=> ?_,fun x hx=> ?_,OK bd,fun x hx t bq y bm bh=> ?_,JR cD,JV gp⟩
 ·obtain⟨bf,rfl⟩:=get i o aC
  have:=List.all_eq_true.1 h1 i (List.mem_range.2 bf)
  rw[Bool.and_eq_true] at this
  have:=List.all_eq_true.1 this.1 e (by simpa using he)
  rw[hb] at this;simpa using this
 ·obtain⟨bf,rfl⟩:=get i o aC
  have:=List.all_eq_true.1 h1 i (List.mem_range.2 bf)
  rw[Bool.and_eq_true] at this
  have:=List.all_eq_true.1 this.2 a a3
  obtain⟨e,he,hc⟩:=List.any_eq_true.1 this
  rw[Bool.and_eq_true] at hc
  exact⟨e,by simpa using he,hc.1,by simpa using hc.2⟩
 ·obtain⟨x,hx,hc⟩:=List.any_eq_true.1 (List.all_eq_true.1 h2 i (List.mem_range.2 hi))
  exact⟨x,hx,by simpa using hc⟩
 ·simpa using List.all_eq_true.1 aO x hx
 ·have:=List.all_eq_true.1 (List.all_eq_true.1 (List.all_eq_true.1 ch x hx) t bq) y bm
  rw[Bool.or_eq_true] at this
  rcases this with h | h
  ·rw[bh] at h;simp at h
  ·simpa using h
def ya (kk:List (List Nat)) (i:Nat):List Nat:=kk.getD i []
theorem Env.Ky (E:Env):Step E {E with w:=E.w.drew}:=
 ⟨⟨fun _ h=>h,fun _ h=>h,fun _ _=>rfl,fun _ _=>rfl,fun _=>Nat.le_refl _,fun _ _ h _=>⟨h,rfl,rfl⟩,fun _ _ h=>h⟩,rfl,rfl,rfl,Nat.le_refl _,fun _ _ _ _=>rfl,fun _ _ h=> .inl h,fun _ h=> .inl h,fun _ h=> .inl h,fun _ h=> .inl h⟩
theorem US {E:Env} {H:List Blk} (h:SimH E H):SimH {E with w:=E.w.drew} H:=
 {h with
  heap:=fun b c hb=>by
   obtain⟨blk,a_,ty,q1,dX,q2,q3,q4,cR,c6⟩:=h.heap b c hb
   exact⟨blk,a_,ty,q1,dX,q2,q3,q4,cR,fun i j row a aK aN=>by obtain⟨u,hu,hv⟩:=c6 i j row a aK aN;exact⟨u,hu,hv.le (Env.Ky E).le.ca⟩⟩}
theorem Z9 (n:Nat):left n (Array.replicate n false)=n:=by
 unfold left
 have:(List.range n).countP (fun j=> !(Array.replicate n false).getD j false)=(List.range n).countP (fun _=>true):=by
  refine List.countP_congr fun x hx=> ?_
  rw[Array.getD_eq_getD_getElem?,Array.getElem?_replicate]
  split<;>simp
 rw[this,List.countP_true,List.length_range]
def ub:List (Nat×List AV)→List (Nat×List AV)→Bool
 | [],_=>true
 | (t,_)::r,L=>(e0 L t).isNone&&ub r L
def tQ (ops:Array Oper) (L:List (Nat×List AV)):List Item→Bool
 | []=>true
 | x::r=>(match x.q&&pS (opI ops x.i) with
  | false=>true
  | true=>match(opI ops x.i).dst with
   | none=>true
   | some d=>(e0 L d).isNone)&&tQ ops L r
theorem Le {E:Env} {L:List (Nat×List AV)} (b1:SimL E L): ∀{iC:List (Nat×List AV)},ub iC L=true→SimL E (iC++L)
 | [],_=>b1
 | (t,c)::r,h=>by
  simp only[ub,Bool.and_eq_true,Option.isNone_iff_eq_none] at h
  exact(Le b1 h.2).cons (b1.none h.1)
theorem JJ {ops:Array Oper} {E:Env} {L:List (Nat×List AV)} (b1:SimL E L): ∀{l:List Item},tQ ops L l=true→ ∀x∈l,pS (opI ops x.i)=true→x.q=true→ ∀d,(opI ops x.i).dst=some d→E.mL d=none
 | [],_,x,hx,_,_,_,_=>by cases hx
 | y::r,h,x,hx,a3,ak,d,bh=>by
  simp only[tQ,Bool.and_eq_true] at h
  rcases List.mem_cons.1 hx with rfl | hx
  ·have h1:=h.1
   rw[ak,a3] at h1
   simp only[Bool.and_self] at h1
   rw[bh] at h1
   exact b1.none (by simpa using h1)
  ·exact JJ b1 h.2 x hx a3 ak d bh
theorem WpS.PN [cL] {P:Program} {esc:List Nat} {c:Code} {id:Nat} {ops:Array Oper} {Q:Exit→St→Prop} {T:List AV} {L:List (Nat×List AV)} {H:List Blk} (ord:List Item) (kk:List (List Nat)) (hm:P.follows .mixedOrders=true)
  (aL:kk.length=ops.size) (bh:vZ ops ord (ya kk)=true) (e:c= .region id ops true) (iC:List (Nat×List AV)) (hf:ub iC L=true) (aP:tQ ops L ord=true) (h:ko P esc ops ord T (iC++L) H (fun T L H=>Q .normal ⟨T,L,H⟩)):WpS P c Q ⟨T,L,H⟩:=by
 subst e
 intro cz E a g s d
 have D:=UN (fun i hi=>by unfold ya;rw[List.getD_eq_getElem?_getD,List.getElem?_eq_none (by omega)];rfl) bh
 refine wp_region_any hm ?_
 obtain⟨pre,post,oK,aK,aI,y2,rW,hlen,ho,yO⟩:=HQ ord T D.apart h
 have qI: ∀j,(Array.replicate ops.size false).getD j false=false:=fun j=>by
  rw[Array.getD_eq_getD_getElem?,Array.getElem?_replicate];split<;>rfl
 have bk:=Env.Ky E
 have hw:(show World from{E.w with drawn:=E.w.drawn+1})=({E with w:=E.w.drew}:Env).w:=rfl
 refine UM D ops.size _ a _ pre post {E with w:=E.w.drew} oK (iC++L) H (by simp) (Z9 _) (fun i o aC aN=> ?_) ⟨aK,fun x hx=>qI _,y2,rW,fun x hx _=>⟨aI x hx,yO x hx⟩,fun t=> ?_,by rw[hlen];exact s.size,US s.h,Le ?_ hf,g.step bk,fun x hx _ a3 ak d bh=>JJ s.l aP x hx a3 ak d bh,d,rfl⟩
 ·rw[qI] at aN;cases aN
 ·by_cases rV: ∃z∈pre,(opI ops z.i).dst=some t
  ·obtain⟨z,aP,pP⟩:=rV
   exact .inl ⟨z,aP,qI _,pP⟩
  ·right
   rw[ho t fun z aP q=>rV ⟨z,aP,q⟩]
   exact(s.iA t).le bk.le
 ·intro t c hm
  obtain⟨cells,a_,ty,q1,q2,q3⟩:=s.l t c hm
  exact⟨cells,a_,ty,q1,q2,q3.mono fun _ _ k=>k.le bk.le.ca⟩
theorem tg {φ ψ:Prop} (e:φ=ψ) (h:ψ):φ:=e▸h
def zh (ops:Array Oper):List (Oper×Bool):=ops.toList.map fun o=>(o,true)
theorem WpS.PO [cL] {P:Program} {esc:List Nat} {c:Code} {id:Nat} {ops:Array Oper} {Q:Exit→St→Prop} {T:List AV} {L:List (Nat×List AV)} {H:List Blk} (e:c= .region id ops false)
  (h:evOps P esc ops (zh ops) T L H (fun T L H=>Q .normal ⟨T,L,H⟩)):WpS P c Q ⟨T,L,H⟩:=by
 subst e
 intro cz E a g s d
 refine wp_region_list ?_
 have:=A1 (zh ops) T L H E a g s d h
 have e2:(zh ops).map (·.1)=ops.toList:=by
  unfold zh;rw[List.map_map];exact List.map_id' _
 rwa [e2] at this
section
variable {P:Program} {esc:List Nat} {ops:Array Oper} {l fu:List Item} {T T':List AV} {L L':List (Nat×List AV)} {H H':List Blk} {K:List AV→List (Nat×List AV)→List Blk→Prop}
end
def gu:List (Nat×AV)→Nat→AV
 | [],_=> .undef
 | (k,v)::r,t=>match Nat.beq k t with
  | true=>v
  | false=>gu r t
def lZ:List (Nat×AV)→Nat→List (Nat×AV)
 | [],_=>[]
 | (k,v)::r,t=>match Nat.beq k t with
  | true=>lZ r t
  | false=>(k,v)::lZ r t
def e5 (n:Nat):List (Nat×AV)→Bool
 | []=>true
 | (k,_)::r=>match Nat.blt k n with
  | true=>e5 n r
  | false=>false
@[irreducible] def bi (n:Nat) (A:List (Nat×AV)):List AV:=(List.range n).map (gu A)
def oA (n:Nat) (A:List (Nat×AV)) (dst:Option Nat) (v:AV):List (Nat×AV):=match dst with
 | none=>A
 | some d=>match Nat.blt d n with
  | true=>(d,v)::lZ A d
  | false=>A
def pZ (A:List (Nat×AV)):Operand→AV
 | .tmp t=>gu A t
 | .const v=>oQ v
 | .func f=> .fn f []
 | .global _=> .undef
theorem aas (A:List (Nat×AV)) (d t:Nat):gu (lZ A d) t=if d=t then .undef else gu A t:=by
 induction A with
 | nil=>simp[lZ,gu]
 | cons p r bQ=>
  obtain⟨k,v⟩:=p
  have Bz:gu ((k,v)::r) t=match Nat.beq k t with
   | true=>v
   | false=>gu r t:=rfl
  rw[Bz]
  cases h1:Nat.beq k d with
  | true=>
   have br:=Nat.eq_of_beq_eq_true h1
   rw[show lZ ((k,v)::r) d=lZ r d by simp[lZ,h1],bQ]
   subst br
   cases h2:Nat.beq k t with
   | true=>have e2:=Nat.eq_of_beq_eq_true h2;simp[e2]
   | false=>rfl
  | false=>
   rw[show lZ ((k,v)::r) d=(k,v)::lZ r d by simp[lZ,h1],show gu ((k,v)::lZ r d) t=match Nat.beq k t with
    | true=>v
    | false=>gu (lZ r d) t from rfl]
   cases h2:Nat.beq k t with
   | true=>
    have e2:=Nat.eq_of_beq_eq_true h2
    have: ¬d=t:=fun e=>by subst e;subst e2;rw[Nat.beq_refl] at h1;cases h1
    simp[this]
   | false=>simp only;rw[bQ]
theorem On {n:Nat}: ∀{A:List (Nat×AV)} {t:Nat},e5 n A=true→n≤t→gu A t= .undef
 | [],t,_,_=>rfl
 | (k,v)::r,t,h,bq=>by
  unfold e5 at h
  split at h
  ·rename_i hk
   have hk:k<n:=by rw[←Nat.blt_eq];exact hk
   unfold gu
   cases h2:Nat.beq k t with
   | true=>have:=Nat.eq_of_beq_eq_true h2;omega
   | false=>exact On h bq
  ·cases h
theorem GQ {n d:Nat}: ∀{A:List (Nat×AV)},e5 n A=true→e5 n (lZ A d)=true
 | [],h=>rfl
 | (k,v)::r,h=>by
  unfold e5 at h
  split at h
  ·rename_i hk
   unfold lZ
   split
   ·exact GQ h
   ·unfold e5;rw[hk];exact GQ h
  ·cases h
theorem GR {n:Nat} {A:List (Nat×AV)} (h:e5 n A=true) (dst:Option Nat) (v:AV):e5 n (oA n A dst v)=true:=by
 unfold oA
 split
 ·exact h
 ·split
  ·rename_i bh;unfold e5;rw[bh];exact GQ h
  ·exact h
theorem td (n:Nat) (A:List (Nat×AV)):(bi n A).length=n:=by unfold bi;simp
theorem qV {n:Nat} {A:List (Nat×AV)} (h:e5 n A=true) (t:Nat):(bi n A).getD t .undef=gu A t:=by
 unfold bi
 rw[List.getD_eq_getElem?_getD,List.getElem?_map]
 rcases Nat.lt_or_ge t n with bf | fV
 ·rw[List.getElem?_range bf];rfl
 ·rw[List.getElem?_eq_none (by simpa using fV),On h fV];rfl
theorem GS {n:Nat} {A:List (Nat×AV)} (dst:Option Nat) (v:AV):putA (bi n A) dst v=bi n (oA n A dst v):=by
 cases dst with
 | none=>rfl
 | some d=>
  show(bi n A).set d v=bi n (match Nat.blt d n with
   | true=>(d,v)::lZ A d
   | false=>A)
  cases bh:Nat.blt d n with
  | true=>
   apply List.ext_getElem?
   intro t
   unfold bi
   rw[List.getElem?_set]
   simp only[List.length_map,List.length_range,List.getElem?_map]
   rcases Nat.lt_or_ge t n with bf | fV
   ·rw[List.getElem?_range bf]
    by_cases he:d=t
    ·subst he;simp[bf,gu]
    ·have hb:Nat.beq d t=false:=by
      cases ak:Nat.beq d t with
      | true=>exact absurd (Nat.eq_of_beq_eq_true ak) he
      | false=>rfl
     simp[he,gu,hb,aas]
   ·rw[List.getElem?_eq_none (l:=List.range n) (by simpa using fV)]
    by_cases he:d=t
    ·subst he;simp[Nat.not_lt.2 fV]
    ·simp[he]
  | false=>
   have: ¬d<n:=fun h=>by rw[←Nat.blt_eq,bh] at h;cases h
   exact List.set_eq_of_length_le (by rw[td];omega)
theorem B9 {n:Nat} {A:List (Nat×AV)} (h:e5 n A=true):cr (bi n A)=pZ A:=by
 funext o
 cases o with
 | tmp t=>exact qV h t
 | _=>rfl
theorem Oz {n:Nat} {A:List (Nat×AV)} (h:e5 n A=true) {t:Nat} {b:Bool} (hb:gu A t= .bool b):(bi n A).set t (.bool b)=bi n A:=by
 apply List.ext_getElem?
 intro s
 rw[List.getElem?_set]
 by_cases he:t=s
 ·subst he
  rw[if_pos rfl]
  rcases Nat.lt_or_ge t n with bf | fV
  ·rw[if_pos (by rw[td];exact bf)]
   unfold bi
   rw[List.getElem?_map,List.getElem?_range bf]
   show _=some (gu A t)
   rw[hb]
  ·rw[if_neg (by rw[td];omega),List.getElem?_eq_none (by rw[td];omega)]
 ·rw[if_neg he]
def sR (ops:Array Oper) (o:Oper) (A:List (Nat×AV)) (x y:Prop):Prop:=match o.guard with
 | none=>x
 | some (j,b5)=>match(ops[j]?).bind (·.dst) with
  | none=>False
  | some t=>match gu A t with
   | .bool b=>(match b with
    | true=>(match b5 with
     | true=>x
     | false=>y)
    | false=>(match b5 with
     | true=>y
     | false=>x))
   | .tup []=>y
   | _=>False
theorem Lk {ops:Array Oper} {o:Oper} {n:Nat} {A:List (Nat×AV)} (h:e5 n A=true) {x y:List AV→Prop}:og ops true o (bi n A) x y=sR ops o A (x (bi n A)) (y (bi n A)):=by
 unfold og sR
 cases o.guard with
 | none=>rfl
 | some g=>
  obtain⟨j,b5⟩:=g
  simp only
  cases(ops[j]?).bind (·.dst) with
  | none=>rfl
  | some t=>
   simp only
   rw[qV h t]
   cases hb:gu A t with
   | bool b=>
    cases b with
    | true=>simp only[pv];rw[Oz h hb];cases b5<;>rfl
    | false=>simp only[pv];rw[Oz h hb];cases b5<;>rfl
   | tup l=>cases l<;>rfl
   | _=>rfl
def evS (P:Program) (esc:List Nat) (ops:Array Oper) (n:Nat):List Oper→List (Nat×AV)→List (Nat×List AV)→List Blk→(List (Nat×AV)→List (Nat×List AV)→List Blk→Prop)→Prop
 | [],A,L,H,K=>K A L H
 | o::rest,A,L,H,K=>sR ops o A
   (match o.op with
    | .pick c x y=>oN (pZ A c) fun z=>(match z with
     | true=>evS P esc ops n rest (oA n A o.dst (pZ A x)) L H K
     | false=>evS P esc ops n rest (oA n A o.dst (pZ A y)) L H K)
    | _=>kn P esc o (pZ A) L H fun v L' H'=>evS P esc ops n rest (oA n A o.dst v) L' H' K)
   (evS P esc ops n rest (oA n A o.dst (.tup [])) L H K)
theorem Em {P:Program} {esc:List Nat} {ops:Array Oper} {n:Nat} {K:List AV→List (Nat×List AV)→List Blk→Prop}: ∀(l:List Oper) (A:List (Nat×AV)) (L:List (Nat×List AV)) (H:List Blk),e5 n A=true→
  evOps P esc ops (l.map fun o=>(o,true)) (bi n A) L H K=evS P esc ops n l A L H fun A L H=>K (bi n A) L H
 | [],A,L,H,h=>rfl
 | o::rest,A,L,H,h=>by
  show og ops true o (bi n A) _ _=_
  rw[Lk h]
  show sR ops o A _ _=sR ops o A _ _
  have e2:evOps P esc ops (rest.map fun o=>(o,true)) (putA (bi n A) o.dst (.tup [])) L H K=evS P esc ops n rest (oA n A o.dst (.tup [])) L H fun A L H=>K (bi n A) L H:=by
   rw[GS,Em rest _ _ _ (GR h _ _)]
  have ua: ∀v L H,evOps P esc ops (rest.map fun o=>(o,true)) (putA (bi n A) o.dst v) L H K=evS P esc ops n rest (oA n A o.dst v) L H fun A L H=>K (bi n A) L H:=fun v L H=>by
   rw[GS,Em rest _ _ _ (GR h _ _)]
  rw[e2]
  congr 1
  unfold u4
  rw[B9 h]
  cases fW:o.op<;>simp only[ua]
  case pick c x y=>
   unfold oN
   cases pZ A c<;>first | rfl | (rename_i z;cases z<;>rfl)
theorem WpS.CG [cL] {P:Program} {esc:List Nat} {c:Code} {id n:Nat} {ops:Array Oper} {Q:Exit→St→Prop} {A:List (Nat×AV)} {L:List (Nat×List AV)} {H:List Blk} (e:c= .region id ops false) (aG:e5 n A=true)
  (h:evS P esc ops n (ops.toList.drop 0) A L H (fun A L H=>Q .normal ⟨bi n A,L,H⟩)):WpS P c Q ⟨bi n A,L,H⟩:=
 WpS.PO (esc:=esc) e (by unfold zh;rw[Em _ _ _ _ aG];exact h)
def D8 (o:Oper) (A:List (Nat×AV)):AV:=match o.dst with
 | some d=>gu A d
 | none=> .undef
def pz (P:Program) (ops:Array Oper):List Nat→List (Nat×AV)→List (Nat×List AV)→List Blk→Prop
 | [],_,_,_=>True
 | i::r,A,L,H=>((opI ops i).guard.isNone=true∧(opI ops i).dst.isSome=true∧lx P (opI ops i) (pZ A) L H (fun v=>v=D8 (opI ops i) A))∧pz P ops r A L H
def evSD (P:Program) (esc:List Nat) (ops:Array Oper) (n:Nat):List Item→List (Nat×AV)→List (Nat×List AV)→List Blk→(List (Nat×AV)→List (Nat×List AV)→List Blk→Prop)→Prop
 | [],A,L,H,K=>K A L H
 | x::rest,A,L,H,K=>sR ops (opI ops x.i) A
   (match x.q with
    | true=>lx P (opI ops x.i) (pZ A) L H fun v=>evSD P esc ops n rest (oA n A (opI ops x.i).dst v) L H K
    | false=>kn P esc (opI ops x.i) (pZ A) L H fun v L' H'=>pz P ops x.jO A L' H'∧evSD P esc ops n rest (oA n A (opI ops x.i).dst v) L' H' K)
   (evSD P esc ops n rest (oA n A (opI ops x.i).dst (.tup [])) L H K)
theorem La {P:Program} {ops:Array Oper} {n:Nat} {A:List (Nat×AV)} {L:List (Nat×List AV)} {H:List Blk} (h:e5 n A=true): ∀l:List Nat,rO P ops l (bi n A) L H=pz P ops l A L H
 | []=>rfl
 | i::r=>by
  show(_∧_)=(_∧_)
  rw[La h r,B9 h]
  have:sK (opI ops i) (bi n A)=D8 (opI ops i) A:=by
   unfold sK D8
   cases(opI ops i).dst with
   | none=>rfl
   | some d=>exact qV h d
  rw[this]
theorem KO {P:Program} {esc:List Nat} {ops:Array Oper} {n:Nat} {K:List AV→List (Nat×List AV)→List Blk→Prop}: ∀(l:List Item) (A:List (Nat×AV)) (L:List (Nat×List AV)) (H:List Blk),l.all (·.lit)=true→e5 n A=true→
  ko P esc ops l (bi n A) L H K=evSD P esc ops n l A L H fun A L H=>K (bi n A) L H
 | [],A,L,H,aL,h=>rfl
 | x::rest,A,L,H,aL,h=>by
  simp only[List.all_cons,Bool.and_eq_true] at aL
  show og ops x.lit (opI ops x.i) (bi n A) _ _=_
  rw[aL.1,Lk h]
  show sR ops (opI ops x.i) A _ _=sR ops (opI ops x.i) A _ _
  have ua: ∀v L H,ko P esc ops rest (putA (bi n A) (opI ops x.i).dst v) L H K=evSD P esc ops n rest (oA n A (opI ops x.i).dst v) L H fun A L H=>K (bi n A) L H:=fun v L H=>by
   rw[GS,KO rest _ _ _ aL.2 (GR h _ _)]
  simp only[ua,B9 h,La h]
  first
  | done
  | (cases x.q<;>rfl)
theorem WpS.abN [cL] {P:Program} {esc:List Nat} {c:Code} {id n:Nat} {ops:Array Oper} {Q:Exit→St→Prop} {A:List (Nat×AV)} {L:List (Nat×List AV)} {H:List Blk} (ord:List Item) (kk:List (List Nat)) (hm:P.follows .mixedOrders=true)
  (aL:kk.length=ops.size) (bh:vZ ops ord (ya kk)=true) (Fc:ord.all (·.lit)=true) (e:c= .region id ops true) (aG:e5 n A=true) (iC:List (Nat×List AV)) (hf:ub iC L=true) (aP:tQ ops L ord=true) (h:evSD P esc ops n (ord.drop 0) A (iC++L) H (fun A L H=>Q .normal ⟨bi n A,L,H⟩)):WpS P c Q ⟨bi n A,L,H⟩:=
 WpS.PN (esc:=esc) ord kk hm aL bh e iC hf aP (by rw[KO _ _ _ _ Fc aG];exact h)
theorem Weak.iA [cL] {T T':List AV} {L:List (Nat×List AV)} {H:List Blk} (aL:T'.length=T.length) (h: ∀t,T'.getD t .undef=T.getD t .undef∨T'.getD t .undef= .undef):Weak ⟨T,L,H⟩ ⟨T',L,H⟩:=fun cz E tmps g s=>
 ⟨E,rfl,g,s.h,s.l,fun t=>by
  show V3 E (T'.getD t .undef) _
  rcases h t with e | e<;>rw[e]
  ·exact s.iA t
  ·exact V3.undef _ _,by show T'.length=_;rw[aL];exact s.size⟩
def nO (A:List (Nat×AV)):List (Nat×AV)→List (Nat×AV)
 | []=>[]
 | (k,_)::r=>(k,gu A k)::nO A r
theorem GO {A:List (Nat×AV)}: ∀(B:List (Nat×AV)) (t:Nat),gu (nO A B) t=gu A t∨gu (nO A B) t= .undef
 | [],t=> .inr rfl
 | (k,v)::r,t=>by
  show(match Nat.beq k t with
   | true=>gu A k
   | false=>gu (nO A r) t)=gu A t∨_
  cases h:Nat.beq k t with
  | true=>have:=Nat.eq_of_beq_eq_true h;subst this;exact .inl rfl
  | false=>
   rcases GO r t with e | e
   ·exact .inl e
   ·right;show(match Nat.beq k t with
     | true=>gu A k
     | false=>gu (nO A r) t)=_
    rw[h];exact e
def zi (dq:List Nat):List (Nat×AV)→Bool
 | []=>true
 | (_,v)::r=>o2 dq v&&zi dq r
theorem Oq {dq:List Nat}: ∀{A:List (Nat×AV)},zi dq A=true→ ∀t,o2 dq (gu A t)=true
 | [],h,t=>rfl
 | (k,v)::r,h,t=>by
  simp only[zi,Bool.and_eq_true] at h
  unfold gu
  cases Nat.beq k t with
  | true=>exact h.1
  | false=>exact Oq h.2 t
theorem afu [cL] {n:Nat} {A A':List (Nat×AV)} {L L':List (Nat×List AV)} {H:List Blk} (dq:List Nat) (iF:e5 n A=true) (m3:e5 n A'=true) (aI:zi dq A'=true) (l0:nO A A'=A') (ja:ob dq L=L'):Weak ⟨bi n A,L,H⟩ ⟨bi n A',L',H⟩:=by
 subst ja
 refine(Weak.iA (T':=bi n A') (by rw[td,td]) fun t=> ?_).trans (Weak.ob dq ?_)
 ·rw[qV iF,qV m3,←l0];exact GO A' t
 ·rw[List.all_eq_true]
  intro a a3
  obtain⟨t,bq⟩:=List.mem_iff_getElem?.1 a3
  have e:(bi n A').getD t .undef=a:=by rw[List.getD_eq_getElem?_getD,bq];rfl
  rw[qV m3] at e
  rw[←e]
  exact Oq aI t
theorem xW [cL] {n:Nat} {A A':List (Nat×AV)} {L:List (Nat×List AV)} {H:List Blk} (iF:e5 n A=true) (m3:e5 n A'=true) (l0:nO A A'=A'):Weak ⟨bi n A,L,H⟩ ⟨bi n A',L,H⟩:=
 Weak.iA (T':=bi n A') (by rw[td,td]) fun t=>by rw[qV iF,qV m3,←l0];exact GO A' t
theorem Uu {n:Nat} {A:List (Nat×AV)} {o:Operand} {b:Bool} {L:List (Nat×List AV)} {H:List Blk} (aG:e5 n A=true) (h:pZ A o= .bool b):cr (St.mk (bi n A) L H).T o= .bool b:=by
 show cr (bi n A) o=_
 rw[B9 aG,h]
def so (P:Program) (A:List (Nat×AV)) (L:List (Nat×List AV)) (H:List Blk):List ResultVar→(List AV→Prop)→Prop
 | [],K=>K []
 | .tmp t::rs,K=>so P A L H rs fun l=>K (gu A t::l)
 | .cell a t::rs,K=>oZ P t (gu A a) L H fun x=>so P A L H rs fun l=>K (x::l)
theorem HC {P:Program} {n:Nat} {A:List (Nat×AV)} {L:List (Nat×List AV)} {H:List Blk} (aG:e5 n A=true): ∀(rs:List ResultVar) (K:List AV→Prop),q9 P ⟨bi n A,L,H⟩ rs K=so P A L H rs K
 | [],K=>rfl
 | .tmp t::rs,K=>by
  show q9 P ⟨bi n A,L,H⟩ rs (fun l=>K ((bi n A).getD t .undef::l))=so P A L H rs fun l=>K (gu A t::l)
  rw[qV aG];exact HC aG rs _
 | .cell a t::rs,K=>by
  show oZ P t ((bi n A).getD a .undef) L H _=oZ P t (gu A a) L H _
  rw[qV aG]
  congr 1
  funext x
  exact HC aG rs _
theorem HF {P:Program} {fn:Func} {n:Nat} {A:List (Nat×AV)} {L:List (Nat×List AV)} {H:List Blk} {r:AV} {Q:AV→List Blk→Prop} (aG:e5 n A=true) (l:List AV) (e: ∀K,so P A L H fn.results.toList K=K l) (aK:l.all kc=true) (hw:sv l=r) (h:Q r H):tM P fn Q .ret ⟨bi n A,L,H⟩:=by
 show tr P fn ⟨bi n A,L,H⟩ Q
 unfold tr
 rw[HC aG,e]
 exact⟨aK,by rw[hw];exact h⟩
theorem U8 {P:Program} {fn:Func} {n:Nat} {A:List (Nat×AV)} {L:List (Nat×List AV)} {H:List Blk} {r:AV} {Q:AV→List Blk→Prop} (aG:e5 n A=true) (l:List AV) (e: ∀K,so P A L H fn.results.toList K=K l) (aK:l.all kc=true) (hw:sv l=r) (h:Q r H):tM P fn Q .normal ⟨bi n A,L,H⟩:=
 HF (fn:=fn) aG l e aK hw h
theorem KP {P:Program} {esc:List Nat} {ops:Array Oper} {n:Nat} {K:List (Nat×AV)→List (Nat×List AV)→List Blk→Prop}: ∀(uM kS:List Oper) (A:List (Nat×AV)) (L:List (Nat×List AV)) (H:List Blk),
  evS P esc ops n (uM++kS) A L H K=evS P esc ops n uM A L H fun A L H=>evS P esc ops n kS A L H K
 | [],kS,A,L,H=>rfl
 | o::r,kS,A,L,H=>by
  show evS P esc ops n (o::(r++kS)) A L H K=_
  simp only[evS,KP r kS]
theorem jN {P:Program} {esc:List Nat} {ops:Array Oper} {n:Nat} {K:List (Nat×AV)→List (Nat×List AV)→List Blk→Prop} {A:List (Nat×AV)} {L:List (Nat×List AV)} {H:List Blk} (X:List Oper) (i k:Nat):
  evS P esc ops n (X.drop i) A L H K=evS P esc ops n ((X.drop i).take k) A L H fun A L H=>evS P esc ops n (X.drop (i+k)) A L H K:=by
 rw[←KP,←List.drop_drop,List.take_append_drop]
theorem KN {P:Program} {esc:List Nat} {ops:Array Oper} {n:Nat} {K:List (Nat×AV)→List (Nat×List AV)→List Blk→Prop}: ∀(uM kS:List Item) (A:List (Nat×AV)) (L:List (Nat×List AV)) (H:List Blk),
  evSD P esc ops n (uM++kS) A L H K=evSD P esc ops n uM A L H fun A L H=>evSD P esc ops n kS A L H K
 | [],kS,A,L,H=>rfl
 | o::r,kS,A,L,H=>by
  show evSD P esc ops n (o::(r++kS)) A L H K=_
  simp only[evSD,KN r kS]
theorem ly {P:Program} {esc:List Nat} {ops:Array Oper} {n:Nat} {K:List (Nat×AV)→List (Nat×List AV)→List Blk→Prop} {A:List (Nat×AV)} {L:List (Nat×List AV)} {H:List Blk} (X:List Item) (i k:Nat):
  evSD P esc ops n (X.drop i) A L H K=evSD P esc ops n ((X.drop i).take k) A L H fun A L H=>evSD P esc ops n (X.drop (i+k)) A L H K:=by
 rw[←KN,←List.drop_drop,List.take_append_drop]
theorem map_set {α β:Type} (f:α→β) (xs:List α) (i:Nat) (x:α):(List.map f xs).set i (f x)=List.map f (xs.set i x):=by
 rw[List.map_set]
theorem ri {H:List Blk} {α:Type} {eT eF:α→List AV} {b g sz n:Nat} {full:Bool} {xs ys:List α} (aG:n=xs.length) (hb:H[b]?=some ⟨g,sz,List.map eT xs⟩) (hc: ∀x,k1 H (eT x) (eF x)) (h:xs.length≤4611686018427387904∧xs=ys):
  gI H (.ref b g 0 n full) (.bC (List.map eF ys) false true):=aG▸Su hb hc h
theorem nn {L:List (Nat×List AV)} {H:List Blk} {α:Type} {eT eF:α→List AV} {b g sz n:Nat} {full:Bool} {xs:List α} (aT:n=xs.length) (hb:H[b]?=some ⟨g,sz,List.map eT xs⟩) (hc: ∀x,oI L H (eT x) (eF x)) (aG:xs.length≤4611686018427387904):
  gd L H (.ref b g 0 n full) (.bC (List.map eF xs) false false):=aT▸P8 hb hc aG
theorem CM {α:Type} {enc:α→List AV} {k:Nat} (h: ∀x,(enc x).length=k∧(enc x).all jk=true) (ys:List α):q_ k (List.map enc ys):=fun row aK=>by
 obtain⟨x,_,rfl⟩:=List.mem_map.1 aK
 exact⟨(h x).1,fun a a3=>List.all_eq_true.1 (h x).2 a a3⟩
theorem zd {α:Type} {c:Bool} {x y:List α} {n:Nat} (hx:x.length=n) (bm:y.length=n):(bif c then x else y).length=n:=by cases c<;>assumption
def oM:List (Nat×AV)→List (Nat×AV)→List (Nat×AV)
 | [],R=>R
 | p::N,R=>p::oM N R
def Kv:List (Nat×AV)→List (Nat×AV)→List (Nat×AV)
 | [],A=>A
 | p::N,A=>lZ (Kv N A) p.1
def gN (N A:List (Nat×AV)):List (Nat×AV):=oM N (Kv N A)
def dj (d:Option Nat) (v:AV) (N A:List (Nat×AV)):List (Nat×AV):=match d with
 | some d=>gN ((d,v)::N) A
 | none=>gN N A
def vf:List (Nat×AV)→Nat→AV→List (Nat×AV)
 | [],_,_=>[]
 | (k,u)::r,t,v=>match Nat.beq k t with
  | true=>(k,v)::r
  | false=>(k,u)::vf r t v
abbrev ag (n:Int):AV:= .int .i64 n
abbrev an (b:Bool):AV:= .bool b
abbrev bL {α:Type} (e:α→List AV) (x:List α):AV:= .bC (List.map e x) false false
abbrev aF:AV:= .bC [] true true
abbrev hl {α:Type} (e:α→List AV) (x:List α):AV:= .bC (List.map e x) false true
abbrev aj (b g n:Nat):AV:= .ref b g 0 n false
abbrev aA (t c:Nat):AV:= .fH t c
abbrev t0:AV:= .tup []
def gx (l:List Nat):List (Nat×AV):=l.map fun i=>(i,.tup [])
def OM:Bool→List Nat→Bool×List Nat
 | b,0::m=>OM (!b) m
 | b,m=>(b,m)
def lj {α:Type} (b:Bool) (m:List Nat):List α→List α
 | []=>[]
 | x::l=>match OM b m with
  | (true,(n+1)::m)=>x::lj true (n::m) l
  | (false,(n+1)::m)=>lj false (n::m) l
  | _=>[]
theorem zP {α:Type} {n:Nat} {m:List Nat} {x:α} {l:List α}:lj true ((n+1)::m) (x::l)=x::lj true (n::m) l:=rfl
theorem zO {α:Type} {n:Nat} {m:List Nat} {x:α} {l:List α}:lj false ((n+1)::m) (x::l)=lj false (n::m) l:=rfl
theorem zQ {α:Type} {m:List Nat} {l:List α}:lj true (0::m) l=lj false m l:=by cases l<;>rfl
theorem self {α:Type} {m:List Nat} {l:List α}:lj false (0::m) l=lj true m l:=by cases l<;>rfl
theorem zN {α:Type} {b:Bool} {l:List α}:lj b [] l=[]:=by cases b<;>cases l<;>rfl
def ib (j:Nat) (r:List (List AV)):List Blk→List Blk
 | []=>[]
 | b::H=>match j with
  | 0=>⟨b.bF,b.sz,r⟩::H
  | j+1=>b::ib j r H
def hV (i j:Nat) (a:AV):List (Nat×List AV)→List (Nat×List AV)
 | []=>[]
 | x::L=>match i with
  | 0=>(x.1,x.2.set j a)::L
  | i+1=>x::hV i j a L
def er (i:Nat) (a:List AV):List (Nat×List AV)→List (Nat×List AV)
 | []=>[]
 | x::L=>match i with
  | 0=>(x.1,a)::L
  | i+1=>x::er i a L
def en (i:Nat) (b:Blk):List Blk→List Blk
 | []=>[]
 | x::H=>match i with
  | 0=>b::H
  | i+1=>x::en i b H
section
variable {i j k:Nat} {a:AV} {c l:List AV} {L:List (Nat×List AV)} {x:Nat×List AV} {b y:Blk} {H:List Blk}
theorem KA:hV 0 j a ((k,c)::L)=(k,c.set j a)::L:=rfl
theorem KB:hV (i+1) j a (x::L)=x::hV i j a L:=rfl
theorem KH:er 0 l ((k,c)::L)=(k,l)::L:=rfl
theorem KI:er (i+1) l (x::L)=x::er i l L:=rfl
theorem J2:en 0 b (y::H)=b::H:=rfl
theorem J3:en (i+1) b (y::H)=y::en i b H:=rfl
end
abbrev ao (i:Nat):Item:=⟨i,true,true,[]⟩
abbrev rg (a b:Nat):List Nat:=List.range' a (b - a)
def g1 [cL] {V:Type} (S:V→St) (nu:V→Prop) (Q:Exit→St→Prop) (ex:Exit) (s:St):Prop:=match ex with
 | .normal=> ∃v,nu v∧Weak s (S v)
 | ex=>Q ex s
theorem g1.normal [cL] {V:Type} {S:V→St} {nu:V→Prop} {Q:Exit→St→Prop} {s:St} (v:V) (h:nu v) (hw:Weak s (S v)):g1 S nu Q .normal s:=⟨v,h,hw⟩
theorem g1.ret [cL] {V:Type} {S:V→St} {nu:V→Prop} {Q:Exit→St→Prop} {s:St} (h:Q .ret s):g1 S nu Q .ret s:=h
theorem g1.exit [cL] {V:Type} {S:V→St} {nu:V→Prop} {Q:Exit→St→Prop} {s:St} {id:Nat} (h:Q (.exit id) s):g1 S nu Q (.exit id) s:=h
section
variable {P:Program} {b:Code} {k n:Nat} {Q:Exit→St→Prop} {aJ:St} {A A':List (Nat×AV)} {L L':List (Nat×List AV)} {H H':List Blk}
theorem j4 [cL] (S:St) (ψ:Prop) (h:WpS P (bT b (2*k)) (ci S ψ Q) aJ) (ak:ψ→WpS P (bT b (2*k+1)) Q S) (e:bT b k= .seq (bT b (2*k)) (bT b (2*k+1)):=by kernel_rfl):WpS P (bT b k) Q aJ:=WpS.xE S e h ak
theorem cB [cL] (N:List (Nat×AV)) (m:List Nat) (ψ:Prop) (h:WpS P (bT b (2*k)) (ci ⟨bi n A',L,H⟩ ψ Q) ⟨bi n A,L,H⟩) (ak:ψ→WpS P (bT b (2*k+1)) Q ⟨bi n A',L,H⟩) (iF:oM N (lj true m A)=A':=by simp only[oM,zP,zO,zQ,self,zN];rfl) (e:bT b k= .seq (bT b (2*k)) (bT b (2*k+1)):=by kernel_rfl):WpS P (bT b k) Q ⟨bi n A,L,H⟩:=WpS.xE _ e h ak
theorem fa [cL] (N:List (Nat×AV)) (m:List Nat) (Es:List (Nat×List AV)→List (Nat×List AV)) (Er:List Blk→List Blk) (ψ:Prop) (h:WpS P (bT b (2*k)) (ci ⟨bi n A',L',H'⟩ ψ Q) ⟨bi n A,L,H⟩) (ak:ψ→WpS P (bT b (2*k+1)) Q ⟨bi n A',L',H'⟩) (b1:Es L=L':=by first | (simp only[id,KA,KB,KH,KI,List.set_cons_zero,List.set_cons_succ];rfl) | (dsimp only;rfl) | rfl) (aS:Er H=H':=by first | (simp only[id,J2,J3,List.cons_append,List.nil_append];rfl) | (dsimp only;rfl) | rfl) (iF:oM N (lj true m A)=A':=by simp only[oM,zP,zO,zQ,self,zN];rfl) (e:bT b k= .seq (bT b (2*k)) (bT b (2*k+1)):=by kernel_rfl):WpS P (bT b k) Q ⟨bi n A,L,H⟩:=WpS.xE _ e h ak
theorem Kb [cL] {V:Type} {y:Code} (id:Nat) (S:V→St) (nu:V→Prop) (h:WpS P (bT b (2*k)) (cm id (g1 S nu Q)) aJ) (ak: ∀v,nu v→WpS P y Q (S v)) (e:bT b k= .block id (bT b (2*k)):=by kernel_rfl):WpS P (bT b k) (eb P y Q) aJ:=
 WpS.J6 e (h.mono fun ex s hs=>by
  have key: ∀ex s,g1 S nu Q ex s→eb P y Q ex s:=fun ex s hs=>by
   cases ex with
   | normal=>obtain⟨v,aN,hw⟩:=hs;exact(ak v aN).mn hw
   | _=>exact hs
  cases ex with
  | exit q=>
   show if q=id then _ else _
   replace hs:if q=id then g1 S nu Q .normal s else g1 S nu Q (.exit q) s:=hs
   split at hs
   ·rename_i ak;rw[if_pos ak];exact key _ _ hs
   ·rename_i ak;rw[if_neg ak];exact key _ _ hs
  | normal=>exact key .normal s hs
  | goto l=>exact key (.goto l) s hs
  | ret=>exact key .ret s hs
  | panic c=>exact key (.panic c) s hs
  | outgrown=>exact key .outgrown s hs)
theorem hJ [cL] (h:WpS P (bT b (2*k)) (eb P (bT b (2*k+1)) Q) aJ) (e:bT b k= .seq (bT b (2*k)) (bT b (2*k+1)):=by kernel_rfl):WpS P (bT b k) Q aJ:=WpS.seq' e h
theorem sH [cL] (o:Operand) (z:Bool) (h1:z=true→WpS P (bT b (2*k)) Q ⟨bi n A,L,H⟩) (h2:z=false→WpS P (bT b (2*k+1)) Q ⟨bi n A,L,H⟩) (e:bT b k= .cond o (bT b (2*k)) (bT b (2*k+1)):=by kernel_rfl)
  (aG:e5 n A=true:=by kernel_rfl) (aC:pZ A o= .bool z:=by kernel_rfl):WpS P (bT b k) Q ⟨bi n A,L,H⟩:=WpS.Ut e (Uu aG aC) h1 h2
theorem fs [cL] (id:Nat) (h:WpS P (bT b (2*k)) (cm id Q) aJ) (e:bT b k= .block id (bT b (2*k)):=by kernel_rfl):WpS P (bT b k) Q aJ:=WpS.J6 e h
theorem eo [cL] (h:Q .normal aJ) (e:bT b k= .skip:=by kernel_rfl):WpS P (bT b k) Q aJ:=WpS.acg e h
theorem hr [cL] (h:Q .ret aJ) (e:bT b k= .ret:=by kernel_rfl):WpS P (bT b k) Q aJ:=WpS.abP e h
theorem iZ [cL] (id:Nat) (h:Q (.exit id) aJ) (e:bT b k= .exit id:=by kernel_rfl):WpS P (bT b k) Q aJ:=WpS.Ve e h
theorem km [cL] {V:Type} (S:V→St) (I:V→Prop) (m:V→Nat) (h9:V) (hs:Weak aJ (S h9)) (aT:I h9) (round: ∀v,I v→WpS P (bT b (2*k)) (d_ S I m v Q) (S v)) (e:bT b k= .loop (bT b (2*k)):=by kernel_rfl):WpS P (bT b k) Q aJ:=
 WpS.Oo S I m e h9 hs aT round
theorem bM [cL] (esc:List Nat) (id:Nat) (h:evS P esc (ji b k) n ((ji b k).toList.drop 0) A L H (fun A L H=>Q .normal ⟨bi n A,L,H⟩)) (e:bT b k= .region id (ji b k) false:=by kernel_rfl) (aG:e5 n A=true:=by kernel_rfl):WpS P (bT b k) Q ⟨bi n A,L,H⟩:=
 WpS.CG (esc:=esc) e aG h
theorem nl [cL] (esc:List Nat) (id:Nat) (ord:List Item) (kk:List (List Nat)) (iC:List (Nat×List AV)) (h:evSD P esc (ji b k) n (ord.drop 0) A (iC++L) H (fun A L H=>Q .normal ⟨bi n A,L,H⟩)) (hm:P.follows .mixedOrders=true:=by kernel_rfl) (aL:kk.length=(ji b k).size:=by kernel_rfl)
  (bh:vZ (ji b k) ord (ya kk)=true:=by kernel_rfl) (Fc:ord.all (·.lit)=true:=by kernel_rfl) (e:bT b k= .region id (ji b k) true:=by kernel_rfl) (aG:e5 n A=true:=by kernel_rfl) (hf:ub iC L=true:=by kernel_rfl) (aP:tQ (ji b k) L ord=true:=by kernel_rfl):WpS P (bT b k) Q ⟨bi n A,L,H⟩:=
 WpS.abN (esc:=esc) ord kk hm aL bh Fc e aG iC hf aP h
theorem ej [cL] (esc:List Nat) (id:Nat) (nw:List (Nat×AV)) (zk m:List Nat) (ak:WpS P (bT b (2*k+1)) Q ⟨bi n A',L,H⟩) (iF:oM (lj true zk nw) (lj true m A)=A':=by simp only[oM,zP,zO,zQ,self,zN];rfl) (e:bT b k= .seq (bT b (2*k)) (bT b (2*k+1)):=by kernel_rfl)
  (e2:bT b (2*k)= .region id (ji b (2*k)) false:=by kernel_rfl) (aG:e5 n A=true:=by kernel_rfl) (dW: ∀K,evS P esc (ji b (2*k)) n ((ji b (2*k)).toList.drop 0) A L H K=K (gN nw A) L H:=by intro K;kernel_rfl) (l0:nO (gN nw A) A'=A':=by kernel_rfl)
  (h1:e5 n (gN nw A)=true:=by kernel_rfl) (h2:e5 n A'=true:=by kernel_rfl):WpS P (bT b k) Q ⟨bi n A,L,H⟩:=
 WpS.xE ⟨bi n A',L,H⟩ (ψ:=True) e (WpS.CG (esc:=esc) e2 aG (by rw[dW];exact⟨trivial,xW h1 h2 l0⟩)) fun _=>ak
theorem qq [cL] (esc:List Nat) (id:Nat) (nw:List (Nat×AV)) (zk m:List Nat) (L':List (Nat×List AV)) (H':List Blk) (ak:WpS P (bT b (2*k+1)) Q ⟨bi n A',L',H'⟩) (iF:oM (lj true zk nw) (lj true m A)=A':=by simp only[oM,zP,zO,zQ,self,zN];rfl) (e:bT b k= .seq (bT b (2*k)) (bT b (2*k+1)):=by kernel_rfl)
  (e2:bT b (2*k)= .region id (ji b (2*k)) false:=by kernel_rfl) (aG:e5 n A=true:=by kernel_rfl) (dW: ∀K,evS P esc (ji b (2*k)) n ((ji b (2*k)).toList.drop 0) A L H K=K (gN nw A) L' H':=by intro K;kernel_rfl) (l0:nO (gN nw A) A'=A':=by kernel_rfl)
  (h1:e5 n (gN nw A)=true:=by kernel_rfl) (h2:e5 n A'=true:=by kernel_rfl):WpS P (bT b k) Q ⟨bi n A,L,H⟩:=
 WpS.xE ⟨bi n A',L',H'⟩ (ψ:=True) e (WpS.CG (esc:=esc) e2 aG (by rw[dW];exact⟨trivial,xW h1 h2 l0⟩)) fun _=>ak
theorem sI [cL] (esc:List Nat) (id:Nat) (nw:List (Nat×AV)) (zk m:List Nat) (Es:List (Nat×List AV)→List (Nat×List AV)) (Er:List Blk→List Blk) (ak:WpS P (bT b (2*k+1)) Q ⟨bi n A',L',H'⟩) (b1:Es L=L':=by first | (simp only[id,KA,KB,KH,KI,List.set_cons_zero,List.set_cons_succ];rfl) | (dsimp only;rfl) | rfl) (aS:Er H=H':=by first | (simp only[id,J2,J3,List.cons_append,List.nil_append];rfl) | (dsimp only;rfl) | rfl) (iF:oM (lj true zk nw) (lj true m A)=A':=by simp only[oM,zP,zO,zQ,self,zN];rfl) (e:bT b k= .seq (bT b (2*k)) (bT b (2*k+1)):=by kernel_rfl)
  (e2:bT b (2*k)= .region id (ji b (2*k)) false:=by kernel_rfl) (aG:e5 n A=true:=by kernel_rfl) (dW: ∀K,evS P esc (ji b (2*k)) n ((ji b (2*k)).toList.drop 0) A L H K=K (gN nw A) L' H':=by intro K;kernel_rfl) (l0:nO (gN nw A) A'=A':=by kernel_rfl)
  (h1:e5 n (gN nw A)=true:=by kernel_rfl) (h2:e5 n A'=true:=by kernel_rfl):WpS P (bT b k) Q ⟨bi n A,L,H⟩:=
 WpS.xE ⟨bi n A',L',H'⟩ (ψ:=True) e (WpS.CG (esc:=esc) e2 aG (by rw[dW];exact⟨trivial,xW h1 h2 l0⟩)) fun _=>ak
theorem dI [cL] {t:Nat} {z:Bool} (h1:z=true→WpS P (bT b (2*k)) Q ⟨bi n ((t,.bool z)::A),L,H⟩) (h2:z=false→WpS P (bT b (2*k+1)) Q ⟨bi n ((t,.bool z)::A),L,H⟩) (e:bT b k= .cond (.tmp t) (bT b (2*k)) (bT b (2*k+1)):=by kernel_rfl)
  (aG:e5 n ((t,.bool z)::A)=true:=by kernel_rfl):WpS P (bT b k) Q ⟨bi n ((t,.bool z)::A),L,H⟩:=sH (.tmp t) z h1 h2 e aG (by show gu ((t,.bool z)::A) t=_;unfold gu;rw[show Nat.beq t t=true from Nat.beq_refl t])
theorem dH.go {f:FuncId} {fn:Func} {args:List AV} {H:List Blk} {R:AV→List Blk→Prop} (A:List (Nat×AV)) (hf:P.funcs[f]?=some fn) (h: ∀iX:cL,iX.n=H.length→WpS P (bT (iE fn) 1) (tM P fn R) ⟨bi fn.ntmps A,[],H⟩) (hb:fn.body=some (bT (iE fn) 1):=by kernel_rfl) (aG:(fn.name== "runtime.NumGoroutine")=false:=by kernel_rfl)
  (hi:za fn args H=⟨bi fn.ntmps A,[],H⟩:=by kernel_rfl):dH P f args H R:=dH.G3 hf hb aG fun iX gr=>hi▸h iX gr
theorem nm {fn:Func} {R:AV→List Blk→Prop} (r:AV) (h:R r H) (aG:e5 n A=true:=by kernel_rfl) (e: ∀K,so P A L H fn.results.toList K=K [r]:=by intro K;kernel_rfl) (aK:[r].all kc=true:=by kernel_rfl):tM P fn R .ret ⟨bi n A,L,H⟩:=HF aG [r] e aK rfl h
theorem ed [cL] (l0:nO A A'=A':=by kernel_rfl) (iF:e5 n A=true:=by kernel_rfl) (m3:e5 n A'=true:=by kernel_rfl):Weak ⟨bi n A,L,H⟩ ⟨bi n A',L,H⟩:=xW iF m3 l0
theorem dC [cL] (dq:List Nat) (iF:e5 n A=true:=by kernel_rfl) (m3:e5 n A'=true:=by kernel_rfl) (aI:zi dq A'=true:=by kernel_rfl) (l0:nO A A'=A':=by kernel_rfl) (ja:ob dq L=L':=by kernel_rfl):Weak ⟨bi n A,L,H⟩ ⟨bi n A',L',H⟩:=afu dq iF m3 aI l0 ja
theorem mH {fn:Func} {R:AV→List Blk→Prop} (r:AV) (l:List AV) (h:R r H) (aG:e5 n A=true:=by kernel_rfl) (e: ∀K,so P A L H fn.results.toList K=K l:=by intro K;kernel_rfl) (aK:l.all kc=true:=by kernel_rfl) (hw:sv l=r:=by kernel_rfl):tM P fn R .ret ⟨bi n A,L,H⟩:=HF aG l e aK hw h
theorem AW {fn:Func} {R:AV→List Blk→Prop} (r:AV) (l:List AV) (h:R r H) (aG:e5 n A=true:=by kernel_rfl) (e: ∀K,so P A L H fn.results.toList K=K l:=by intro K;kernel_rfl) (aK:l.all kc=true:=by kernel_rfl) (hw:sv l=r:=by kernel_rfl):tM P fn R .normal ⟨bi n A,L,H⟩:=U8 aG l e aK hw h
end
section
variable {P:Program} {esc:List Nat} {ops:Array Oper} {n:Nat} {X:List Oper} {i0:Nat} {A:List (Nat×AV)} {L:List (Nat×List AV)} {H:List Blk} {K:List (Nat×AV)→List (Nat×List AV)→List Blk→Prop}
theorem b6 [cL] {A':List (Nat×AV)} {L':List (Nat×List AV)} {H':List Blk} {ψ:Prop} {Q:Exit→St→Prop} (N:List (Nat×AV)) (aI:ψ) (l0:nO (gN N A) A'=A':=by kernel_rfl) (e: ∀K,evS P esc ops n (X.drop i0) A L H K=K (gN N A) L' H':=by intro K;kernel_rfl)
  (iF:e5 n (gN N A)=true:=by kernel_rfl) (m3:e5 n A'=true:=by kernel_rfl):evS P esc ops n (X.drop i0) A L H (fun A L H=>ci ⟨bi n A',L',H'⟩ ψ Q .normal ⟨bi n A,L,H⟩):=by
 rw[e];exact⟨aI,xW iF m3 l0⟩
theorem nT (a4 t:Nat) (b:Bool) (N:List (Nat×AV)) (h1:b=true→evS P esc ops n (X.drop (i0+a4)) (vf (gN ((t,.bool b)::N) A) t (.bool true)) L H K) (h2:b=false→evS P esc ops n (X.drop (i0+a4)) (vf (gN ((t,.bool b)::N) A) t (.bool false)) L H K)
  (e: ∀K,evS P esc ops n ((X.drop i0).take a4) A L H K=K (vf (gN ((t,.bool b)::N) A) t (.bool b)) L H:=by intro K;kernel_rfl):evS P esc ops n (X.drop i0) A L H K:=by
 rw[jN X i0 a4,e]
 cases b with
 | true=>exact h1 rfl
 | false=>exact h2 rfl
theorem dY (N:List (Nat×AV)) (h:K (gN N A) L H) (e: ∀K,evS P esc ops n (X.drop i0) A L H K=K (gN N A) L H:=by intro K;kernel_rfl):evS P esc ops n (X.drop i0) A L H K:=by
 rw[e];exact h
theorem CP (N:List (Nat×AV)) (L':List (Nat×List AV)) (H':List Blk) (h:K (gN N A) L' H') (e: ∀K,evS P esc ops n (X.drop i0) A L H K=K (gN N A) L' H':=by intro K;kernel_rfl):evS P esc ops n (X.drop i0) A L H K:=by
 rw[e];exact h
theorem CQ (a4:Nat) (N:List (Nat×AV)) (L':List (Nat×List AV)) (H':List Blk) (h:evS P esc ops n (X.drop (i0+a4)) (gN N A) L' H' K) (e: ∀K,evS P esc ops n ((X.drop i0).take a4) A L H K=K (gN N A) L' H':=by intro K;kernel_rfl):evS P esc ops n (X.drop i0) A L H K:=by
 rw[jN X i0 a4,e];exact h
theorem nS (a4:Nat) (d:Option Nat) (v:AV) (N:List (Nat×AV)) {φ:Prop} (h1:φ) (h:evS P esc ops n (X.drop (i0+a4)) (dj d v N A) L H K) (e: ∀K,evS P esc ops n ((X.drop i0).take a4) A L H K=(φ∧K (dj d v N A) L H):=by intro K;kernel_rfl):evS P esc ops n (X.drop i0) A L H K:=by
 rw[jN X i0 a4,e];exact⟨h1,h⟩
theorem li (a4:Nat) (d:Option Nat) (N:List (Nat×AV)) {α:Type} [Inhabited α] (enc:α→List AV) (xs:List α) {i:Int} (m:Nat)
  (aT:0≤i∧i.toNat<xs.length) (h:evS P esc ops n (X.drop (i0+a4)) (dj d (.dA (enc (nth xs i)) 0) N A) L H K) (aG: ∀x,(enc x).length=m:=by exact fun _=>rfl)
  (e: ∀K,evS P esc ops n ((X.drop i0).take a4) A L H K=(0≤i∧c5 (List.map enc xs)[i.toNat]? fun row=>row.length=m∧K (dj d (.dA row 0) N A) L H):=by intro K;kernel_rfl):evS P esc ops n (X.drop i0) A L H K:=by
 rw[jN X i0 a4,e]
 refine⟨aT.1,et (a:=enc (nth xs i)) ?_ ⟨aG _,h⟩⟩
 rw[List.getElem?_map,gV aT.2];rfl
theorem lK (a4:Nat) (d:Option Nat) (N:List (Nat×AV)) (b g z:Nat) {i:Int} {m:Nat} (aT:0≤i∧i.toNat<m) (h:evS P esc ops n (X.drop (i0+a4)) (dj d (.ptr b g (0+i.toNat) 0) N A) L H K)
  (e: ∀K,evS P esc ops n ((X.drop i0).take a4) A L H K=(g=g∧z=z∧0≤i∧i<m∧K (dj d (.ptr b g (0+i.toNat) 0) N A) L H):=by intro K;kernel_rfl):evS P esc ops n (X.drop i0) A L H K:=by
 rw[jN X i0 a4,e];exact⟨rfl,rfl,aT.1,by have:=aT.2;omega,h⟩
theorem P5 (a4:Nat) (d:Option Nat) (N:List (Nat×AV)) {α:Type} [Inhabited α] (enc:α→List AV) (xs:List α) (i:Int) (t:TypeId) (c g:Nat) (v:AV) (aK:i.toNat<xs.length) (h:evS P esc ops n (X.drop (i0+a4)) (dj d v N A) L H K)
  (e2: ∀K,jI P t (enc (nth xs i)) c K=K v:=by intro K;kernel_rfl)
  (e: ∀K,evS P esc ops n ((X.drop i0).take a4) A L H K=(g=g∧c5 (List.map enc xs)[0+i.toNat]? fun row=>jI P t row c fun v=>K (dj d v N A) L H):=by intro K;kernel_rfl):evS P esc ops n (X.drop i0) A L H K:=by
 rw[jN X i0 a4,e]
 refine⟨rfl,et (a:=enc (nth xs i)) ?_ (by rw[e2];exact h)⟩
 rw[Nat.zero_add,List.getElem?_map,gV aK];rfl
theorem mg (a4:Nat) (d:Option Nat) (N:List (Nat×AV)) {g:FuncId} (args:List AV) {ew:List AV} {t:AV}
  (hf:b2 P g ew t) (hs:aD (dc L H) args ew) (h:evS P esc ops n (X.drop (i0+a4)) (dj d t N A) L H K) (aG:args.all e7=true:=by kernel_rfl) (e: ∀K,evS P esc ops n ((X.drop i0).take a4) A L H K=lv P g args L H (fun v L' H'=>K (dj d v N A) L' H'):=by intro K;kernel_rfl):evS P esc ops n (X.drop i0) A L H K:=by
 rw[jN X i0 a4,e];exact .inl ⟨aG,ew,t,hs,hf,h⟩
theorem ab3 (a4:Nat) (d:Option Nat) (N:List (Nat×AV)) {α:Type} [Inhabited α] (enc:α→List AV) (xs:List α) (i:Int) (c k g:Nat) (cells:List AV) (H':List (List AV)→List Blk) (lq:α) (aK:i.toNat<xs.length)
  (h:evS P esc ops n (X.drop (i0+a4)) (dj d (.tup []) N A) L (H' (List.map enc (xs.set i.toNat lq))) K) (hc:Nat.ble (c+k) (enc (nth xs i)).length=true:=by kernel_rfl) (hs:fp (enc (nth xs i)) c cells=enc lq:=by kernel_rfl)
  (e: ∀K,evS P esc ops n ((X.drop i0).take a4) A L H K=(g=g∧c5 (List.map enc xs)[0+i.toNat]? fun row=>c+k≤row.length∧K (dj d (.tup []) N A) L (H' ((List.map enc xs).set (0+i.toNat) (fp row c cells)))):=by intro K;kernel_rfl):evS P esc ops n (X.drop i0) A L H K:=by
 rw[jN X i0 a4,e]
 refine⟨rfl,et (a:=enc (nth xs i)) ?_ ⟨Nat.le_of_ble_eq_true hc,?_⟩⟩
 ·rw[Nat.zero_add,List.getElem?_map,gV aK];rfl
 ·rw[hs,Nat.zero_add,map_set];exact h
theorem tw (a4:Nat) (d:Option Nat) (N:List (Nat×AV)) {α:Type} [Inhabited α] (enc:α→List AV) (xs:List α) (i:Int) (c k g:Nat) (cells:List AV) (j:Nat) (lq:α) (aK:i.toNat<xs.length)
  (h:evS P esc ops n (X.drop (i0+a4)) (dj d (.tup []) N A) L (ib j (List.map enc (xs.set i.toNat lq)) H) K) (hc:Nat.ble (c+k) (enc (nth xs i)).length=true:=by kernel_rfl) (hs:fp (enc (nth xs i)) c cells=enc lq:=by kernel_rfl)
  (e: ∀K,evS P esc ops n ((X.drop i0).take a4) A L H K=(g=g∧c5 (List.map enc xs)[0+i.toNat]? fun row=>c+k≤row.length∧K (dj d (.tup []) N A) L (ib j ((List.map enc xs).set (0+i.toNat) (fp row c cells)) H)):=by intro K;kernel_rfl):evS P esc ops n (X.drop i0) A L H K:=ab3 a4 d N enc xs i c k g cells (fun r=>ib j r H) lq aK h hc hs e
theorem HN (a4:Nat) (d:Option Nat) (N:List (Nat×AV)) {α:Type} (enc:α→List AV) {i:Int} (B:Int) (z:List AV) (b:Nat) (H':List (List AV)→List Blk) (ba:α) (aT:0≤i∧B*i≤140737488355328∧i≤4611686018427387904)
  (h:evS P esc ops n (X.drop (i0+a4)) (dj d (.ref b 0 0 (List.replicate i.toNat ba).length false) N A) L (H' (List.map enc (List.replicate i.toNat ba))) K) (aP:z=enc ba:=by rfl)
  (e: ∀K,evS P esc ops n ((X.drop i0).take a4) A L H K=(0≤i∧i≤i∧B*i≤140737488355328∧i≤4611686018427387904∧K (dj d (.ref b 0 0 i.toNat false) N A) L (H' (List.replicate i.toNat z))):=by intro K;kernel_rfl):evS P esc ops n (X.drop i0) A L H K:=by
 rw[jN X i0 a4,e]
 refine⟨aT.1,Int.le_refl _,aT.2.1,aT.2.2,?_⟩
 ·rw[aP,←List.map_replicate];rw[List.length_replicate] at h;exact h
theorem P3 (a4:Nat) (d:Option Nat) (N:List (Nat×AV)) {α:Type} (enc:α→List AV) (xs ys:List α) (ck:List (List AV)) (b g s B:Nat) (H':List (List AV)→List Blk) (hx:ck=List.map enc ys) (aT:(xs.length+ys.length)*B≤140737488355328∧xs.length+ys.length≤4611686018427387904)
  (h:evS P esc ops n (X.drop (i0+a4)) (dj d (.ref b (g+1) 0 (xs++ys).length false) N A) L (H' (List.map enc (xs++ys))) K) (hk: ∀x,(enc x).length=s∧(enc x).all jk=true:=by exact fun _=>⟨rfl,rfl⟩)
  (e: ∀K,evS P esc ops n ((X.drop i0).take a4) A L H K=(true=true∧true=true∧q_ s ck∧0=0∧g=g∧s=s∧(List.map enc xs).length=xs.length∧(xs.length+ck.length)*B≤140737488355328∧xs.length+ck.length≤4611686018427387904∧K (dj d (.ref b (g+1) 0 (xs.length+ck.length) false) N A) L (H' (List.map enc xs++ck))):=by intro K;kernel_rfl):evS P esc ops n (X.drop i0) A L H K:=by
 rw[jN X i0 a4,e]
 subst hx
 refine⟨rfl,rfl,CM hk ys,rfl,rfl,rfl,List.length_map ..,by rw[List.length_map];exact aT.1,by rw[List.length_map];exact aT.2,?_⟩
 ·rw[List.length_append] at h;rw[List.length_map,←List.map_append];exact h
theorem tt (a4:Nat) (d:Option Nat) (N:List (Nat×AV)) {α:Type} (enc:α→List AV) (ys:List α) (ck:List (List AV)) (b s B:Nat) (H':List (List AV)→List Blk) (hx:ck=List.map enc ys) (aT:ys.length*B≤140737488355328∧ys.length≤4611686018427387904)
  (h:evS P esc ops n (X.drop (i0+a4)) (dj d (.ref b 0 0 ys.length false) N A) L (H' (List.map enc ys)) K) (hk: ∀x,(enc x).length=s∧(enc x).all jk=true:=by exact fun _=>⟨rfl,rfl⟩)
  (e: ∀K,evS P esc ops n ((X.drop i0).take a4) A L H K=(true=true∧true=true∧q_ s ck∧true=true∧(∀row∈([]:List (List AV)),row.length=s)∧(List.length (α:=List AV) []+ck.length)*B≤140737488355328∧List.length (α:=List AV) []+ck.length≤4611686018427387904∧(([]:List (List AV))≠[]→ck≠[])∧
   K (dj d (.ref b 0 0 (List.length (α:=List AV) []+ck.length) false) N A) L (H' ([]++ck))):=by intro K;kernel_rfl):evS P esc ops n (X.drop i0) A L H K:=by
 rw[jN X i0 a4,e]
 subst hx
 refine⟨rfl,rfl,CM hk ys,rfl,(fun row h=>by cases h),by simpa using aT.1,by simpa using aT.2,(fun h=>absurd rfl h),?_⟩
 ·simpa using h
theorem tv (a4:Nat) (d:Option Nat) (N:List (Nat×AV)) {g:FuncId} (args:List AV) {ew:List AV} {nk:AV} {dN:List Blk} (r:AV) (k2:List Blk)
  (hf:dH P g ew [] fun r H'=>r=nk∧H'=dN) (hs:aD (dc L H) args ew) (yZ:th dN=true) (v7:H++dN.map (ll H.length)=k2)
  (h:evS P esc ops n (X.drop (i0+a4)) (dj d r N A) L k2 K) (aG:args.all e7=true:=by kernel_rfl) (aC:xh nk=true:=by kernel_rfl) (er:mI H.length nk=r:=by kernel_rfl) (e: ∀K,evS P esc ops n ((X.drop i0).take a4) A L H K=lv P g args L H (fun v L' H'=>K (dj d v N A) L' H'):=by intro K;kernel_rfl):evS P esc ops n (X.drop i0) A L H K:=by
 rw[jN X i0 a4,e]
 subst er;subst v7
 exact .inr (.inl ⟨aG,ew,hs,hf.mono fun fv H1 ⟨h1,h2⟩=>by subst h1;subst h2;exact⟨aC,yZ,h⟩⟩)
theorem sLen (a4:Nat) (d:Option Nat) (N:List (Nat×AV)) {α:Type} (enc:α→List AV) (xs:List α) (h:xs.length≤4611686018427387904→evS P esc ops n (X.drop (i0+a4)) (dj d (.int .i64 (xs.length:Nat)) N A) L H K)
  (e: ∀K,evS P esc ops n ((X.drop i0).take a4) A L H K=((List.map enc xs).length≤4611686018427387904→K (dj d (.int .i64 ((List.map enc xs).length:Nat)) N A) L H):=by intro K;kernel_rfl):evS P esc ops n (X.drop i0) A L H K:=by
 rw[jN X i0 a4,e,List.length_map];exact h
theorem HO (a4:Nat) (d:Option Nat) (N:List (Nat×AV)) {α:Type} (enc:α→List AV) (xs:List α) (h1:xs≠[]→evS P esc ops n (X.drop (i0+a4)) (dj d (.bool false) N A) L H K) (h2:xs=[]→ ∀b,evS P esc ops n (X.drop (i0+a4)) (dj d (.bool b) N A) L H K)
  (e: ∀K,evS P esc ops n ((X.drop i0).take a4) A L H K=((List.map enc xs≠[]→K (dj d (.bool false) N A) L H)∧(List.map enc xs=[]→ ∀b,K (dj d (.bool b) N A) L H)):=by intro K;kernel_rfl):evS P esc ops n (X.drop i0) A L H K:=by
 rw[jN X i0 a4,e]
 exact⟨fun h=>h1 fun e=>h (by rw[e];rfl),fun h=>h2 (by simpa using h)⟩
end
section
variable {P:Program} {esc:List Nat} {ops:Array Oper} {n:Nat} {X:List Item} {i0:Nat} {A:List (Nat×AV)} {L:List (Nat×List AV)} {H:List Blk} {K:List (Nat×AV)→List (Nat×List AV)→List Blk→Prop}
theorem kY [cL] {A':List (Nat×AV)} {L':List (Nat×List AV)} {H':List Blk} {ψ:Prop} {Q:Exit→St→Prop} (N:List (Nat×AV)) (aI:ψ) (l0:nO (gN N A) A'=A':=by kernel_rfl) (e: ∀K,evSD P esc ops n (X.drop i0) A L H K=K (gN N A) L' H':=by intro K;kernel_rfl)
  (iF:e5 n (gN N A)=true:=by kernel_rfl) (m3:e5 n A'=true:=by kernel_rfl):evSD P esc ops n (X.drop i0) A L H (fun A L H=>ci ⟨bi n A',L',H'⟩ ψ Q .normal ⟨bi n A,L,H⟩):=by
 rw[e];exact⟨aI,xW iF m3 l0⟩
theorem p7 (a4 t:Nat) (b:Bool) (N:List (Nat×AV)) (h1:b=true→evSD P esc ops n (X.drop (i0+a4)) (vf (gN ((t,.bool b)::N) A) t (.bool true)) L H K) (h2:b=false→evSD P esc ops n (X.drop (i0+a4)) (vf (gN ((t,.bool b)::N) A) t (.bool false)) L H K)
  (e: ∀K,evSD P esc ops n ((X.drop i0).take a4) A L H K=K (vf (gN ((t,.bool b)::N) A) t (.bool b)) L H:=by intro K;kernel_rfl):evSD P esc ops n (X.drop i0) A L H K:=by
 rw[ly X i0 a4,e]
 cases b with
 | true=>exact h1 rfl
 | false=>exact h2 rfl
theorem xO (N:List (Nat×AV)) (h:K (gN N A) L H) (e: ∀K,evSD P esc ops n (X.drop i0) A L H K=K (gN N A) L H:=by intro K;kernel_rfl):evSD P esc ops n (X.drop i0) A L H K:=by
 rw[e];exact h
theorem C4 (a4:Nat) (d:Option Nat) (v:AV) (N:List (Nat×AV)) {φ:Prop} (h1:φ) (h:evSD P esc ops n (X.drop (i0+a4)) (dj d v N A) L H K) (e: ∀K,evSD P esc ops n ((X.drop i0).take a4) A L H K=(φ∧K (dj d v N A) L H):=by intro K;kernel_rfl):evSD P esc ops n (X.drop i0) A L H K:=by
 rw[ly X i0 a4,e];exact⟨h1,h⟩
theorem z4 (a4:Nat) (N:List (Nat×AV)) (L':List (Nat×List AV)) (H':List Blk) {φ:Prop} (h1:φ) (h:evSD P esc ops n (X.drop (i0+a4)) (gN N A) L' H' K) (e: ∀K,evSD P esc ops n ((X.drop i0).take a4) A L H K=(φ∧K (gN N A) L' H'):=by intro K;kernel_rfl):evSD P esc ops n (X.drop i0) A L H K:=by
 rw[ly X i0 a4,e];exact⟨h1,h⟩
theorem sr (a4:Nat) (d:Option Nat) (N:List (Nat×AV)) {α:Type} [Inhabited α] (enc:α→List AV) (xs:List α) {i:Int} (m:Nat)
  (aT:0≤i∧i.toNat<xs.length) (h:evSD P esc ops n (X.drop (i0+a4)) (dj d (.dA (enc (nth xs i)) 0) N A) L H K) (aG: ∀x,(enc x).length=m:=by exact fun _=>rfl)
  (e: ∀K,evSD P esc ops n ((X.drop i0).take a4) A L H K=(0≤i∧c5 (List.map enc xs)[i.toNat]? fun row=>row.length=m∧K (dj d (.dA row 0) N A) L H):=by intro K;kernel_rfl):evSD P esc ops n (X.drop i0) A L H K:=by
 rw[ly X i0 a4,e]
 refine⟨aT.1,et (a:=enc (nth xs i)) ?_ ⟨aG _,h⟩⟩
 rw[List.getElem?_map,gV aT.2];rfl
theorem vq (a4:Nat) (d:Option Nat) (N:List (Nat×AV)) (b g z:Nat) {i:Int} {m:Nat} (aT:0≤i∧i.toNat<m) (h:evSD P esc ops n (X.drop (i0+a4)) (dj d (.ptr b g (0+i.toNat) 0) N A) L H K)
  (e: ∀K,evSD P esc ops n ((X.drop i0).take a4) A L H K=(g=g∧z=z∧0≤i∧i<m∧K (dj d (.ptr b g (0+i.toNat) 0) N A) L H):=by intro K;kernel_rfl):evSD P esc ops n (X.drop i0) A L H K:=by
 rw[ly X i0 a4,e];exact⟨rfl,rfl,aT.1,by have:=aT.2;omega,h⟩
theorem xP (a4:Nat) (d:Option Nat) (N:List (Nat×AV)) {α:Type} [Inhabited α] (enc:α→List AV) (xs:List α) (i:Int) (t:TypeId) (c g:Nat) (v:AV) (aK:i.toNat<xs.length) (h:evSD P esc ops n (X.drop (i0+a4)) (dj d v N A) L H K)
  (e2: ∀K,jI P t (enc (nth xs i)) c K=K v:=by intro K;kernel_rfl)
  (e: ∀K,evSD P esc ops n ((X.drop i0).take a4) A L H K=(g=g∧c5 (List.map enc xs)[0+i.toNat]? fun row=>jI P t row c fun v=>K (dj d v N A) L H):=by intro K;kernel_rfl):evSD P esc ops n (X.drop i0) A L H K:=by
 rw[ly X i0 a4,e]
 refine⟨rfl,et (a:=enc (nth xs i)) ?_ (by rw[e2];exact h)⟩
 rw[Nat.zero_add,List.getElem?_map,gV aK];rfl
theorem SH (a4:Nat) (d:Option Nat) (N:List (Nat×AV)) {g:FuncId} (args:List AV) {ew:List AV} {t:AV}
  (hf:b2 P g ew t) (hs:aD (dc L H) args ew) (h:evSD P esc ops n (X.drop (i0+a4)) (dj d t N A) L H K) (aG:args.all e7=true:=by kernel_rfl) (e: ∀K,evSD P esc ops n ((X.drop i0).take a4) A L H K=oP P g args L H (fun v=>K (dj d v N A) L H):=by intro K;kernel_rfl):evSD P esc ops n (X.drop i0) A L H K:=by
 rw[ly X i0 a4,e];exact⟨aG,ew,t,hs,hf,h⟩
theorem afe (a4:Nat) (d:Option Nat) (N:List (Nat×AV)) {α:Type} [Inhabited α] (enc:α→List AV) (xs:List α) (i:Int) (c k g:Nat) (cells:List AV) (F:List (List AV)→Prop) (H':List (List AV)→List Blk) (lq:α) (aK:i.toNat<xs.length)
  (cZ:F ((List.map enc (xs.set i.toNat lq)))) (h:evSD P esc ops n (X.drop (i0+a4)) (dj d (.tup []) N A) L (H' (List.map enc (xs.set i.toNat lq))) K) (hc:Nat.ble (c+k) (enc (nth xs i)).length=true:=by kernel_rfl) (hs:fp (enc (nth xs i)) c cells=enc lq:=by kernel_rfl)
  (e: ∀K,evSD P esc ops n ((X.drop i0).take a4) A L H K=(g=g∧c5 (List.map enc xs)[0+i.toNat]? fun row=>c+k≤row.length∧F (((List.map enc xs).set (0+i.toNat) (fp row c cells)))∧K (dj d (.tup []) N A) L (H' ((List.map enc xs).set (0+i.toNat) (fp row c cells)))):=by intro K;kernel_rfl):evSD P esc ops n (X.drop i0) A L H K:=by
 rw[ly X i0 a4,e]
 refine⟨rfl,et (a:=enc (nth xs i)) ?_ ⟨Nat.le_of_ble_eq_true hc,?_,?_⟩⟩
 ·rw[Nat.zero_add,List.getElem?_map,gV aK];rfl
 ·rw[hs,Nat.zero_add,map_set];exact cZ
 ·rw[hs,Nat.zero_add,map_set];exact h
theorem afc (a4:Nat) (d:Option Nat) (N:List (Nat×AV)) {α:Type} (enc:α→List AV) (xs ys:List α) (ck:List (List AV)) (b g s B:Nat) (F:List (List AV)→Prop) (H':List (List AV)→List Blk) (hx:ck=List.map enc ys) (aT:(xs.length+ys.length)*B≤140737488355328∧xs.length+ys.length≤4611686018427387904)
  (cZ:F ((List.map enc (xs++ys)))) (h:evSD P esc ops n (X.drop (i0+a4)) (dj d (.ref b (g+1) 0 (xs++ys).length false) N A) L (H' (List.map enc (xs++ys))) K) (hk: ∀x,(enc x).length=s∧(enc x).all jk=true:=by exact fun _=>⟨rfl,rfl⟩)
  (e: ∀K,evSD P esc ops n ((X.drop i0).take a4) A L H K=(true=true∧true=true∧q_ s ck∧0=0∧g=g∧s=s∧(List.map enc xs).length=xs.length∧(xs.length+ck.length)*B≤140737488355328∧xs.length+ck.length≤4611686018427387904∧F ((List.map enc xs++ck))∧K (dj d (.ref b (g+1) 0 (xs.length+ck.length) false) N A) L (H' (List.map enc xs++ck))):=by intro K;kernel_rfl):evSD P esc ops n (X.drop i0) A L H K:=by
 rw[ly X i0 a4,e]
 subst hx
 refine⟨rfl,rfl,CM hk ys,rfl,rfl,rfl,List.length_map ..,by rw[List.length_map];exact aT.1,by rw[List.length_map];exact aT.2,?_,?_⟩
 ·rw[←List.map_append];exact cZ
 ·rw[List.length_append] at h;rw[List.length_map,←List.map_append];exact h
theorem C5 (a4:Nat) (d:Option Nat) (N:List (Nat×AV)) {g:FuncId} (args:List AV) {ew:List AV} {nk:AV} {dN:List Blk} (F:List (Nat×List AV)→List Blk→Prop) (r:AV) (k2:List Blk)
  (hf:dH P g ew [] fun r H'=>r=nk∧H'=dN) (hs:aD (dc L H) args ew) (yZ:th dN=true) (v7:H++dN.map (ll H.length)=k2) (cZ:F L k2)
  (h:evSD P esc ops n (X.drop (i0+a4)) (dj d r N A) L k2 K) (aG:args.all e7=true:=by kernel_rfl) (aC:xh nk=true:=by kernel_rfl) (er:mI H.length nk=r:=by kernel_rfl) (e: ∀K,evSD P esc ops n ((X.drop i0).take a4) A L H K=lv P g args L H (fun v L' H'=>F L' H'∧K (dj d v N A) L' H'):=by intro K;kernel_rfl):evSD P esc ops n (X.drop i0) A L H K:=by
 rw[ly X i0 a4,e]
 subst er;subst v7
 exact .inr (.inl ⟨aG,ew,hs,hf.mono fun fv H1 ⟨h1,h2⟩=>by subst h1;subst h2;exact⟨aC,yZ,cZ,h⟩⟩)
theorem Ja (a4:Nat) (d:Option Nat) (N:List (Nat×AV)) {α:Type} (enc:α→List AV) (xs:List α) (h:evSD P esc ops n (X.drop (i0+a4)) (dj d (.int .i64 (xs.length:Nat)) N A) L H K)
  (e: ∀K,evSD P esc ops n ((X.drop i0).take a4) A L H K=K (dj d (.int .i64 ((List.map enc xs).length:Nat)) N A) L H:=by intro K;kernel_rfl):evSD P esc ops n (X.drop i0) A L H K:=by
 rw[ly X i0 a4,e,List.length_map];exact h
end
inductive jq (H:List Blk) (gi:Nat) (dv:Nat→Option Nat):AV→AV→Prop where
 | int (k:IntKind) (n:Int):jq H gi dv (.int k n) (.int k n)
 | bool (b:Bool):jq H gi dv (.bool b) (.bool b)
 | str (s:ByteArray):jq H gi dv (.str s) (.str s)
 | gj:jq H gi dv .gj .gj
 | gE:jq H gi dv .gE .gE
 | bC (rows:List (List AV)) (full eJ fr:Bool) (hw:eJ=true→full=true):jq H gi dv (.bC rows full fr) (.bC rows eJ fr)
 | ref {b g n j:Nat} {full:Bool} {blk:Blk} (aN:j<gi) (hs:dv j=some b) (hb:H[b]?=some blk) (hg:blk.bF=g):jq H gi dv (.ref b g 0 n full) (.ref j 0 0 n false)
 | nil {a:AV} {j:Nat} (aN:j<gi) (hs:dv j=none) (h:r9 a=true):jq H gi dv a (.ref j 0 0 0 false)
def JC (H:List Blk) (gi:Nat) (dv:Nat→Option Nat) (a b:AV):Prop:=(∃l fu,a= .agg l∧b= .agg fu∧aD (jq H gi dv) l fu)∨jq H gi dv a b
structure tL (H dN:List Blk) (dv:Nat→Option Nat):Prop where
 inj: ∀i j b,i<dN.length→j<dN.length→dv i=some b→dv j=some b→i=j
 bF: ∀(j:Nat) (k:Blk),dN[j]?=some k→k.bF=0
 blk: ∀(j b:Nat) (k:Blk),dN[j]?=some k→dv j=some b→ ∃q,H[b]?=some q∧q.sz=k.sz∧aD (aD (jq H dN.length dv)) q.rows k.rows
def Env.own (E:Env) (dN:List Blk) (dv:Nat→Option Nat):Env:=
 {w:=E.w,PA:=E.PA,PF:=E.PF,mL:=fun _=>none,bF:=fun _=>0
  m:=fun j=>if j<dN.length then(match dv j with
   | some b=>E.m b
   | none=>some none) else none
  sz:=fun j=>(dN[j]?.map Blk.sz).getD 0
  cp:=fun j=>match dv j with
   | some b=>E.cp b
   | none=>0}
section
variable {E:Env} {H dN:List Blk} {dv:Nat→Option Nat}
theorem OW {j b:Nat} (aN:j<dN.length) (hs:dv j=some b):(E.own dN dv).m j=E.m b:=by
 show(if j<dN.length then _ else _)=_
 rw[if_pos aN,hs]
theorem aa2 {j:Nat} (aN:j<dN.length) (hs:dv j=none):(E.own dN dv).m j=some none:=by
 show(if j<dN.length then _ else _)=_
 rw[if_pos aN,hs]
theorem xf {j:Nat} {x:Option Nat} (h:(E.own dN dv).m j=some x):j<dN.length∧((dv j=none∧x=none)∨ ∃b,dv j=some b∧E.m b=some x):=by
 have h:(if j<dN.length then(match dv j with
   | some b=>E.m b
   | none=>some none) else none)=some x:=h
 split at h
 ·rename_i aN
  refine⟨aN,?_⟩
  cases hs:dv j with
  | none=>rw[hs] at h;cases h;exact .inl ⟨rfl,rfl⟩
  | some b=>rw[hs] at h;exact .inr ⟨b,rfl,h⟩
 ·cases h
theorem jq.v1 (aS:SimH E H) (eg:tL H dN dv) {a b:AV} (h:jq H dN.length dv a b) {v:Value} (hv:cM E a v):cM (E.own dN dv) b v:=by
 cases h with
 | int k n=>exact hv
 | bool b=>exact hv
 | str s=>exact hv
 | gj=>exact hv
 | gE=>exact hv
 | bC rows full eJ fr hw=>
  have hv:bH E.w E.PA E.PF (.bC rows full fr) v:=hv
  cases hv with
  | bC gq gR ht cY fl ec=>exact bH.bC gq gR (fun h=>ht (hw h)) cY fl ec
 | @ref b g n j full blk aN hs hb hg=>
  have kr:=aS.fh b blk hb
  have hk:dN[j]?=some dN[j]:=List.getElem?_eq_getElem aN
  obtain⟨q,ak,cY,_⟩:=eg.blk j b _ hk hs
  rw[hb] at ak
  obtain rfl:=Option.some.inj ak
  rcases(show fx E (.ref b g 0 n full) v from hv) with⟨bf,_⟩ | ⟨fV,b0⟩
  ·omega
  ·refine .inr ⟨rfl,?_⟩
   rcases b0 with⟨hm,_,aG,A,iF⟩ | ⟨c,cap,hm,e,h1,h2,aO⟩
   ·exact .inl ⟨by rw[OW aN hs];exact hm,rfl,aG,A,iF⟩
   ·refine .inr ⟨c,cap,by rw[OW aN hs];exact hm,by rw[e,Nat.zero_mul,Nat.zero_mul],h1,(fun h=>by cases h),?_⟩
    show 0+cap≤(match dv j with
     | some b=>E.cp b
     | none=>0)
    rw[hs];exact aO
 | nil aN hs h=>exact Ec (E:=E) h hv rfl (aa2 aN hs)
theorem aa3 (aS:SimH E H) (b1: ∀t,E.mL t=none) (eg:tL H dN dv):SimH (E.own dN dv) dN:=by
 have hW:E.ca=E:=by
  have:E.mL=fun _=>none:=funext b1
  cases E;simp only[Env.ca] at*;subst this;rfl
 have pQ: ∀c,(E.own dN dv).gT c→E.gT c:=fun c ⟨j,aN⟩=>by
  obtain⟨_,h | ⟨b,_,h⟩⟩:=xf aN
  ·cases h.2
  ·exact⟨b,h⟩
 exact{
  heap:=fun j c hm=>by
   obtain⟨aN,h | ⟨b,hs,hb⟩⟩:=xf hm
   ·cases h.2
   ·have hk:dN[j]?=some dN[j]:=List.getElem?_eq_getElem aN
    obtain⟨q,ak,cY,aK⟩:=eg.blk j b _ hk hs
    obtain⟨blk,a_,ty,q1,dX,q2,q3,q4,cR,c6⟩:=aS.heap b c hb
    rw[ak] at q1
    obtain rfl:=Option.some.inj q1
    have br:(E.own dN dv).sz j=E.sz b:=by
     show(dN[j]?.map Blk.sz).getD 0=_
     rw[hk,dX,cY];rfl
    have e2:(E.own dN dv).cp j=E.cp b:=by
     show(match dv j with
      | some b=>E.cp b
      | none=>0)=_
     rw[hs]
    refine⟨_,a_,ty,hk,by rw[br,dX,cY],q2,by rw[br,e2];exact q3,by rw[e2,←aK.1];exact q4,fun i row e1=> ?_,fun i l row a e1 a3=> ?_⟩
    ·have bf:=(List.getElem?_eq_some_iff.1 e1).1
     have h1:q.rows[i]?=some (q.rows[i]'(by rw[aK.1];exact bf)):=List.getElem?_eq_getElem _
     rw[br,←(aK.2 i _ row h1 e1).1];exact cR i _ h1
    ·have bf:=(List.getElem?_eq_some_iff.1 e1).1
     have h1:q.rows[i]?=some (q.rows[i]'(by rw[aK.1];exact bf)):=List.getElem?_eq_getElem _
     have aI:=aK.2 i _ row h1 e1
     have Xr:=(List.getElem?_eq_some_iff.1 a3).1
     have h2:=List.getElem?_eq_getElem (l:=q.rows[i]'(by rw[aK.1];exact bf)) (i:=l) (by rw[aI.1];exact Xr)
     obtain⟨u,hu,hv⟩:=c6 i l _ _ h1 h2
     rw[hW] at hv
     exact⟨u,by rw[br];exact hu,(aI.2 l _ a h2 a3).v1 aS eg hv⟩
  fh:=fun j k hk=>(eg.bF j k hk).symm
  hz:=fun j hm=>by
   obtain⟨aN,_⟩:=xf hm
   have hk:dN[j]?=some dN[j]:=List.getElem?_eq_getElem aN
   exact⟨_,hk,by show(dN[j]?.map Blk.sz).getD 0=_;rw[hk];rfl⟩
  fresh:=fun j aN=>⟨by show(if j<dN.length then _ else _)=_;rw[if_neg (by omega)],rfl⟩
  h0:=fun i j c h1 h2=>by
   obtain⟨hi,h | ⟨b,hs,hb⟩⟩:=xf h1
   ·cases h.2
   ·obtain⟨aN,h | ⟨cn,l7,ek⟩⟩:=xf h2
    ·cases h.2
    ·have:=aS.h0 b cn c hb ek
     subst this
     exact eg.inj i j b hi aN hs l7
  jS:=fun t jZ c h=>by cases h
  gU:=fun b t c _ h=>by cases h
  h3:=fun c hc h=>aS.h3 c hc (pQ c h)
  iv:=fun c hc ⟨t,h⟩=>by cases h
  e3:=aS.e3
  fe:=aS.fe
  gD:=fun c h=>aS.gD c (pQ c h)
  g9:=fun c ⟨t,h⟩=>by cases h}
end
theorem dH.toOwn {P:Program} {f:FuncId} {args:List AV} {nk:AV} {dN:List Blk} (h:dH P f args [] fun r H=> ∃dv,tL H dN dv∧JC H dN.length dv r nk):dH P f args [] fun r H=>r=nk∧H=dN:=by
 refine⟨h.1,fun E vs aG hs a3=>(h.2 E vs aG hs a3).mono ?_⟩
 rintro e w' ⟨r,v,H',E',rfl,⟨dv,eg,yD⟩,rfl,Xu,l7,hv,bk⟩
 refine⟨nk,v,dN,E'.own dN dv,rfl,⟨rfl,rfl⟩,rfl,fun _=>rfl,aa3 l7 Xu eg,?_,?_⟩
 ·rcases yD with⟨l,fu,rfl,rfl,aI⟩ | yD
  ·obtain⟨kE,rfl,ak⟩:=(show ∃kE:List Value,v= .agg kE.toArray∧aD (cM E') l kE from hv)
   refine⟨kE,rfl,aI.1▸ak.1,fun i a u a3 hu=> ?_⟩
   have bf:i<l.length:=by rw[aI.1];exact(List.getElem?_eq_some_iff.1 a3).1
   have h1:=List.getElem?_eq_getElem bf
   exact(aI.2 i _ a h1 a3).v1 l7 eg (ak.2 i _ u h1 hu)
  ·have k_:cM E' r v:=by
    rw[oL,pr] at hv
    ·exact hv
    ·rintro l rfl;cases yD with
     | nil aN hs hx=>exact absurd hx Bool.false_ne_true
    ·rintro l rfl;cases yD with
     | nil aN hs hx=>exact absurd hx Bool.false_ne_true
   exact qf (qe (yD.v1 l7 eg k_))
 ·have pQ: ∀c,(E'.own dN dv).gT c→E'.gT c:=fun c ⟨j,aN⟩=>by
   obtain⟨_,h | ⟨b,_,h⟩⟩:=xf aN
   ·cases h.2
   ·exact⟨b,h⟩
  exact{
   le:=⟨bk.le.fM,bk.le.fN,bk.le.tG,bk.le.wf,fun b=>by rw[(hs.fresh b (Nat.zero_le _)).2];exact Nat.zero_le _,(fun b x hm _=>by rw[(hs.fresh b (Nat.zero_le _)).1] at hm;cases hm),(fun t c hm=>by rw[aG t] at hm;cases hm)⟩
   os:=bk.os,tape:=bk.tape,output:=bk.output,size:=bk.size,fi:=bk.fi
   jx:=fun b c hb=>(bk.qO c (pQ c ⟨b,hb⟩)).elim (fun⟨j,aN⟩=>by rw[(hs.fresh j (Nat.zero_le _)).1] at aN;cases aN) .inr
   jR:=fun c ⟨t,h⟩=>by cases h
   fM:=bk.fM,fN:=bk.fN}
theorem tL.nil {H:List Blk} {dv:Nat→Option Nat}:tL H [] dv:=⟨fun i j b h=>by simp at h,fun j k h=>by simp at h,fun j b k h=>by simp at h⟩
def pd (l:List (Option Nat)) (j:Nat):Option Nat:=(l[j]?).getD none
def Dn (H:List Blk) (gi:Nat) (dv:Nat→Option Nat) (k:Blk):Option Nat→Prop
 | none=>True
 | some b=> ∃q,H[b]?=some q∧q.sz=k.sz∧aD (aD (jq H gi dv)) q.rows k.rows
def x2 (H:List Blk) (gi:Nat) (dv:Nat→Option Nat):List (Option Nat)→List Blk→Prop
 | [],[]=>True
 | o::l,k::dN=>k.bF=0∧Dn H gi dv k o∧x2 H gi dv l dN
 | _,_=>False
theorem x2.get {H:List Blk} {gi:Nat} {dv:Nat→Option Nat}: ∀{l:List (Option Nat)} {dN:List Blk},x2 H gi dv l dN→ ∀(j:Nat) (k:Blk),dN[j]?=some k→ ∃o,l[j]?=some o∧k.bF=0∧Dn H gi dv k o
 | [],[],_,j,k,h=>by simp at h
 | o::l,q::dN,a3,0,k,h=>by simp at h;subst h;exact⟨o,rfl,a3.1,a3.2.1⟩
 | o::l,q::dN,a3,j+1,k,h=>by
  obtain⟨x,hx,h2⟩:=x2.get a3.2.2 j k (by simpa using h)
  exact⟨x,by simpa using hx,h2⟩
theorem qX {H dN:List Blk} (l:List (Option Nat)) (aL:l.length=dN.length) (bh:(l.filterMap id).Nodup) (h:x2 H dN.length (pd l) l dN):tL H dN (pd l) where
 inj:=fun i j b hi aN h1 h2=>by
  have gg:i<l.length:=by omega
  have ot:j<l.length:=by omega
  have br:l[i]=some b:=by have:(l[i]?).getD none=some b:=h1;rwa [List.getElem?_eq_getElem gg] at this
  have e2:l[j]=some b:=by have:(l[j]?).getD none=some b:=h2;rwa [List.getElem?_eq_getElem ot] at this
  rcases Nat.lt_trichotomy i j with bf | rfl | pL
  ·exfalso
   have aI:=List.pairwise_filterMap.1 bh
   exact(List.pairwise_iff_getElem.1 aI i j gg ot bf) b (by simpa using br) b (by simpa using e2) rfl
  ·rfl
  ·exfalso
   have aI:=List.pairwise_filterMap.1 bh
   exact(List.pairwise_iff_getElem.1 aI j i ot gg pL) b (by simpa using e2) b (by simpa using br) rfl
 bF:=fun j k hk=>by obtain⟨o,_,h1,_⟩:=h.get j k hk;exact h1
 blk:=fun j b k hk hs=>by
  obtain⟨o,aC,_,h2⟩:=h.get j k hk
  have:o=some b:=by have hs:(l[j]?).getD none=some b:=hs;rw[aC] at hs;exact hs
  subst this
  exact h2
theorem ra {H:List Blk} {gi:Nat} {dv:Nat→Option Nat} {α:Type} {enc:α→List AV} {b g sz:Nat} {xs ys:List α} (hb:H[b]?=some ⟨g,sz,List.map enc xs⟩) (hc: ∀x,aD (jq H gi dv) (enc x) (enc x)) (e:xs=ys):
  Dn H gi dv ⟨0,sz,List.map enc ys⟩ (some b):=by
 subst e
 refine⟨_,hb,rfl,rfl,fun i r CD h1 h2=> ?_⟩
 rw[List.getElem?_map] at h1 h2
 cases hx:xs[i]? with
 | none=>rw[hx] at h1;cases h1
 | some x=>rw[hx] at h1 h2;cases h1;cases h2;exact hc x
section
variable {H:List Blk} {gi:Nat} {dv:Nat→Option Nat}
theorem zq (b:Bool):aD (jq H gi dv) (aY b) (aY b):= .cons (.bool _) .nil
theorem OQ (rows:List (List AV)) (fr:Bool):jq H gi dv (.bC rows false fr) (.bC rows false fr):= .bC _ _ _ _ id
theorem OO (x:cv):aD (jq H gi dv) (dn x) (dn x):= .cons (.int _ _) (.cons (.int _ _) .nil)
theorem G1 (x:a8):aD (jq H gi dv) (a7 x) (a7 x):= .cons (.int _ _) (.cons (.int _ _) .nil)
theorem G5 {k:IntKind} {a b:Int} (h:a=b):jq H gi dv (.int k a) (.int k b):=h▸ .int k a
theorem aa0 {a b:Bool} (h:a=b):jq H gi dv (.bool a) (.bool b):=h▸ .bool a
theorem uZ {b g n m j sz:Nat} {full:Bool} {rows:List (List AV)} (aN:j<gi) (hs:dv j=some b) (hb:H[b]?=some ⟨g,sz,rows⟩) (aG:n=m):jq H gi dv (.ref b g 0 n full) (.ref j 0 0 m false):=aG▸ .ref aN hs hb rfl
theorem G6 {a:AV} {j m:Nat} (aN:j<gi) (hs:dv j=none) (h:r9 a=true) (hm:0=m):jq H gi dv a (.ref j 0 0 m false):=hm▸ .nil aN hs h
end
theorem qW {α:Type} {enc:α→List AV} {g sz:Nat} {xs:List α} {H:List Blk} (h1: ∀x,(enc x).all p0=true) (h2:th H=true):th (⟨g,sz,List.map enc xs⟩::H)=true:=by
 show(((List.map enc xs).all fun row=>row.all p0)&&H.all fun b=>b.rows.all fun row=>row.all p0)=true
 rw[Bool.and_eq_true]
 refine⟨?_,h2⟩
 rw[List.all_eq_true]
 intro row aK
 obtain⟨x,_,rfl⟩:=List.mem_map.1 aK
 exact h1 x
theorem rf {α:Type} {enc:α→List AV} {k g sz:Nat} {xs:List α} {H H':List Blk} (h1: ∀x,(enc x).map (iM k)=enc x) (h2:H.map (ll k)=H'):(Blk.mk g sz (List.map enc xs)::H).map (ll k)=⟨g,sz,List.map enc xs⟩::H':=by
 subst h2
 show(⟨g,sz,(List.map enc xs).map fun row=>row.map (iM k)⟩:Blk)::_=_
 rw[List.map_map]
 congr 2
 exact List.map_congr_left fun x _=>h1 x
theorem rh {k:Nat} {H dN H1 k2:List Blk} (h:dN.map (ll k)=H1) (e:H++H1=k2):H++dN.map (ll k)=k2:=by rw[h,e]
def Env.at (W:World):Env:={w:=W,PA:=fun c=>c<W.heap.size,PF:=fun _=>False,m:=fun _=>none,bF:=fun _=>0,sz:=fun _=>0,cp:=fun _=>0,mL:=fun _=>none}
theorem TI (W:World):SimH (Env.at W) [] where
 heap:=fun b c hb=>by cases hb
 fh:=fun b blk hb=>by simp at hb
 hz:=fun b hb=>by cases hb
 fresh:=fun b _=>⟨rfl,rfl⟩
 h0:=fun b cn c hb=>by cases hb
 jS:=fun t jZ c hb=>by cases hb
 gU:=fun b t c hb=>by cases hb
 h3:=fun c _ ⟨b,hb⟩=>by cases hb
 iv:=fun c _ ⟨b,hb⟩=>by cases hb
 e3:=fun c hc=>hc.elim
 fe:=fun c hc=>hc
 gD:=fun c ⟨b,hb⟩=>by cases hb
 g9:=fun c ⟨b,hb⟩=>by cases hb
theorem Z0 {P:Program} {f:FuncId} {cS:List AV} {W:World} {vs:List Value} (h:b2 P f cS (.bool true)) (a3:aD (V2 (Env.at W)) cS vs):
  Calls P f vs.toArray W fun e JG=>e= .returned (.bool true)∧RowKit.Below W.heap.size W JG:=by
 refine(h.2 (Env.at W) vs (fun _=>rfl) (TI W) a3).mono ?_
 rintro e w' ⟨r,v,H',E',rfl,aK,rfl,aG,hs,hv,bk⟩
 have hb:r= .bool true:=by
  rcases aK with⟨l,fu,_,e,_⟩ | ⟨l,fu,_,e,_⟩ | aK
  ·cases e
  ·cases e
  ·cases aK;rfl
 subst hb
 refine⟨by rw[V3.rG hv],bk.os,bk.tape,bk.output,bk.size,fun k hk=>bk.fi k hk (fun⟨b,hb⟩=>by cases hb) (fun⟨b,hb⟩=>by cases hb)⟩
def Dm (W:World):AV→Value→Prop:=bH W (fun c=>c<W.heap.size) (fun _=>False)
def Am (P:Program) (W:World) (t:TypeId) {α:Type} (enc:α→List AV):Prop:=
 ∀{H:Type} (t_:TypeId×Value→H) (nB:Nat) (a_:List Value) (x:DataW H×List MemPlace),DataW.trod t_ P W 0 (fun _=>true) true nB t a_=some x→(∀n∈x.1.weights P t,n≤reachBytes)→ ∃y:α,aD (Dm W) (enc y) a_
section
variable {P:Program} {W:World}
theorem aaZ {t:TypeId} (hu:P.underlying t=some (.int .u8)):Am P W t qu:=fun t_ nB a_ x h _=>by
 obtain⟨n,rfl,_,hw⟩:=DataW.trod_int hu h
 unfold Lit.wf at hw
 rw[Bool.and_eq_true] at hw
 have aT:(0:Int)≤n:=of_decide_eq_true hw.1
 have h1:n≤255:=of_decide_eq_true hw.2
 have e:(((UInt8.ofNat n.toNat).toNat:Nat):Int)=n:=by rw[UInt8.toNat_ofNat'];omega
 exact⟨UInt8.ofNat n.toNat,by unfold qu;rw[e];exact .cons (.int _ _) .nil⟩
theorem aan {α:Type} (n:Nat) (φ:Nat→α→Prop) (h: ∀i,i<n→ ∃y,φ i y): ∃ys:List α,ys.length=n∧ ∀(i:Nat) (y:α),ys[i]?=some y→φ i y:=by
 induction n with
 | zero=>exact⟨[],rfl,fun i y h=>by simp at h⟩
 | succ n bQ=>
  obtain⟨ys,aL,bm⟩:=bQ fun i hi=>h i (by omega)
  obtain⟨z,aP⟩:=h n (by omega)
  refine⟨ys++[z],by simp[aL],fun i y hi=> ?_⟩
  rcases Nat.lt_or_ge i n with bf | fV
  ·rw[List.getElem?_append_left (by omega)] at hi
   exact bm i y hi
  ·rw[List.getElem?_append_right (by omega)] at hi
   rcases Nat.eq_or_lt_of_le fV with rfl | pL
   ·rw[aL,Nat.sub_self] at hi
    cases hi;exact aP
   ·rw[List.getElem?_eq_none (by simp;omega)] at hi
    cases hi
theorem Ou {α β:Type} {f:α→Option β}: ∀{l:List α} {r:List β},l.mapM f=some r→r.length=l.length∧ ∀(i:Nat) (a:α),l[i]?=some a→f a=r[i]?
 | [],r,h=>by simp at h;subst h;exact⟨rfl,fun i a h=>by simp at h⟩
 | x::l,r,h=>by
  rw[List.mapM_cons] at h
  simp only[bind,Option.bind_eq_some_iff,pure,Option.some.injEq] at h
  obtain⟨b,hb,CD,aK,rfl⟩:=h
  obtain⟨h1,h2⟩:=Ou aK
  refine⟨by simp[h1],fun i a a3=> ?_⟩
  cases i with
  | zero=>simp at a3;subst a3;simpa using hb
  | succ i=>exact h2 i a (by simpa using a3)
theorem Uo {a:Addr} {n:Nat} {l:List Value} (h:W.cells? 0 a n=some l):l.length=n∧ ∀j,j<n→W.cell? (a.add j)=l[j]?:=by
 unfold World.cells? at h
 rw[if_pos (Nat.zero_le _)] at h
 obtain⟨aL,hg⟩:=Ou h
 rw[List.length_range] at aL
 exact⟨aL,fun j aN=>hg j j (List.getElem?_range aN)⟩
theorem aeX {a:Addr} {v:Value} (h:W.cell? a=some v):a.spot=none∧a.block<W.heap.size:=by
 unfold World.cell? at h
 split at h
 ·rename_i c _ _ hb
  split at h
  ·cases h
  ·rename_i hs
   refine⟨by cases ak:a.spot<;>simp_all,?_⟩
   rcases Nat.lt_or_ge a.block W.heap.size with h1 | h1
   ·exact h1
   ·rw[Array.getElem?_eq_none h1] at hb;cases hb
 ·cases h
theorem add_add (c o x y:Nat):((⟨c,o,none⟩:Addr).add x).add y=⟨c,o+(x+y),none⟩:=by
 rw[n6,n6,Nat.add_assoc]
theorem aaY {t e:TypeId} {α:Type} {enc:α→List AV} (hu:P.underlying t=some (.slice e)) (hb:1≤P.bytesOf e) (aP:1≤P.cellsOf e) (hc: ∀x,(enc x).length=P.cellsOf e) (h:Am P W e enc):Am P W t (ja enc false):=by
 intro H t_ nB a_ x bq hw
 rcases DataW.trod_slice hu bq with⟨rfl,rfl⟩ | ⟨a,len,cap,v8,rest,n,_,rfl,rfl,_,aL,_,hlen,uo,_,_⟩
 ·refine⟨[],.cons ?_ .nil⟩
  exact bH.bC (rows:=[]) (PB:=fun _=>False) (sz:=0) (vs:=fun _ _=>undef) (fun _ h=>h.elim) ⟨Nat.le_refl _,Nat.zero_le _⟩ (fun h=>by cases h) (fun i row h=>by simp at h) (fun h=>by simp at h) (fun i j row a h=>by simp at h)
 ·have qJ:(v8.length+rest.length)*P.bytesOf e≤reachBytes:=by
   have:=hw ((v8.length+rest.length)*P.bytesOf e) (by simp[DataW.weights,hu])
   simpa using this
  have g5:len≤4611686018427387904:=by
   have h1:v8.length+rest.length≤(v8.length+rest.length)*P.bytesOf e:=Nat.le_mul_of_pos_right _ hb
   have h2:=reachBytes_lt
   have aO:(2:Nat) ^ 47=140737488355328:=rfl
   omega
  have eK: ∀(l:List (DataW H)) (d:DataW H),d∈l→ ∀m∈d.weights P e,m∈DataW.weightsAll P e l:=by
   intro l
   induction l with
   | nil=>intro d bh;cases bh
   | cons q l bQ=>
    intro d bh m hm
    simp only[DataW.weightsAll,List.mem_append]
    rcases List.mem_cons.1 bh with rfl | bh
    ·exact .inl hm
    ·exact .inr (bQ d bh m hm)
  obtain⟨ys,r5,bm⟩:=aan len (fun i y=> ∃l,W.cells? 0 (a.add (i*P.cellsOf e)) (P.cellsOf e)=some l∧aD (Dm W) (enc y) l) fun i hi=>by
   have h1:=uo i hi
   have h2:v8[i]?=some (v8[i]'(by omega)):=List.getElem?_eq_getElem _
   rw[h2,Option.bind_eq_some_iff] at h1
   obtain⟨l,W5,X0⟩:=h1
   obtain⟨y,bm⟩:=h t_ n l _ X0 fun m hm=>hw m (by
    simp only[DataW.weights,hu,List.mem_cons,List.mem_append]
    exact .inr (.inl (eK _ _ (List.mem_map.2 ⟨_,List.getElem_mem (by omega),rfl⟩) m hm)))
   exact⟨y,l,W5,bm⟩
  have ho: ∀i j,i<len→j<P.cellsOf e→ ∃l v,W.cells? 0 (a.add (i*P.cellsOf e)) (P.cellsOf e)=some l∧l[j]?=some v∧W.cell? ((a.add (i*P.cellsOf e)).add j)=some v:=fun i j hi aN=>by
   obtain⟨l,oW,_⟩:=bm i _ (List.getElem?_eq_getElem (by omega))
   obtain⟨q1,q2⟩:=Uo oW
   exact⟨l,l[j]'(by omega),oW,List.getElem?_eq_getElem _,by rw[q2 j aN];exact List.getElem?_eq_getElem _⟩
  let vs:Nat→Nat→Value:=fun i j=>(((W.cells? 0 (a.add (i*P.cellsOf e)) (P.cellsOf e)).getD [])[j]?).getD undef
  refine⟨ys,.cons ?_ .nil⟩
  have key:=bH.bC (w:=W) (PA:=fun c=>c<W.heap.size) (PF:=fun _=>False) (PB:=fun c=>c<W.heap.size) (rows:=List.map enc ys) (full:=false) (fresh:=false) (A:=some a) (cap:=cap) (sz:=P.cellsOf e) (vs:=vs)
   (fun c hc=>by simpa using hc) (by rw[List.length_map,r5];exact⟨aL,g5⟩) (fun h=>by cases h)
   (fun i row aK=>by
    rw[List.getElem?_map] at aK
    cases ak:ys[i]? with
    | none=>rw[ak] at aK;cases aK
    | some y=>rw[ak] at aK;cases aK;exact hc y)
   (fun lB=>by
    rw[List.length_map,r5] at lB
    obtain⟨l,v,_,_,hv⟩:=ho 0 0 lB aP
    rw[Nat.zero_mul] at hv
    have aT:(a.add 0).add 0=a:=by simp[Addr.add]
    rw[aT] at hv
    obtain⟨hs,bf⟩:=aeX hv
    obtain⟨c,o,s⟩:=a
    have hs:s=none:=hs
    subst hs
    refine⟨c,o,rfl,bf,fun i j hi aN=> ?_⟩
    rw[List.length_map,r5] at hi
    obtain⟨l,v,q1,q2,q3⟩:=ho i j hi aN
    rw[add_add] at q3
    rw[q3]
    show some v=some ((((W.cells? 0 _ _).getD [])[j]?).getD undef)
    rw[q1]
    show some v=some ((l[j]?).getD undef)
    rw[q2];rfl)
   (fun i j row b aK aN=>by
    rw[List.getElem?_map] at aK
    cases ak:ys[i]? with
    | none=>rw[ak] at aK;cases aK
    | some y=>
     rw[ak] at aK;cases aK
     obtain⟨l,oW,aI⟩:=bm i y ak
     obtain⟨v,hv,ov⟩:=aI.get aN
     show bH W _ _ b ((((W.cells? 0 _ _).getD [])[j]?).getD undef)
     rw[oW]
     show bH W _ _ b ((l[j]?).getD undef)
     rw[hv];exact ov)
  rw[List.length_map,r5] at key
  exact key
theorem AH {a_:List Value} (h:a_.length=2): ∃a b,a_=[a,b]:=by
 match a_,h with
 | [a,b],_=>exact⟨a,b,rfl⟩
theorem TF {t:TypeId} {α:Type} {enc:α→List AV} {f:α→AV} (h:Am P W t enc) (he: ∀y,enc y=[f y]) {H:Type} {t_:TypeId×Value→H} {v:Value} {d:DataW H} {ps:List MemPlace} (bq:DataW.Trod t_ P W 0 (fun _=>true) true t v d ps)
  (hw: ∀n∈d.weights P t,n≤reachBytes) (hv:v.cells= #[v]): ∃y,V2 (Env.at W) (f y) v:=by
 obtain⟨nB,hf⟩:=bq
 rw[hv] at hf
 obtain⟨y,aI⟩:=h t_ nB _ _ hf hw
 rw[he] at aI
 have aK:Dm W (f y) v:=aI.head
 exact⟨y,qe (bH.v1 (E:=Env.at W) aK)⟩
end
def NV (P:Program) (fn:Func) (c:OpenClaim):Bool:=c.kinds==(if c.domain.isEmpty then[] else fn.params.toList.map fun t=>match P.underlying t with | some (.int k)=>some k | _=>none)
theorem ZT {P:Program} {f:FuncId} {fn:Func} {s:ChangeSpec} {c:OpenClaim} (aT:(c.wf (OpenSpec.ofChange s))=true) (h1:laidOutB P=true) (h2:mapsRowed P=true) (aO:fn.params.all (P.readableRec ·)=true) (bd:namedTie P c.named s.vars=true) (ch:(c.stops==[])=true) (cD:(P.stops==[])=true) (gp:(c.knobs==[])=true) (oh:(P.stopKnobs==[])=true) (ue:(c.inPlace==P.inPlace f)=true) (yz:(c.unfollowed==P.unfollowed f)=true) (Wp:(c.recurses==P.recurses f)=true) (mu:(c.named==P.varsNamed f)=true) (Wq:(c.maps==(fn.params.toList++s.plain.varTypes P).any (P.mapsRec ·))=true) (Wr:(c.ifaces==(fn.params.toList++s.plain.varTypes P).any (P.ifacesRec ·))=true) (Ws:(c.mapsOut==P.mapsAmong fn.resultTypes.toList)=true) (Wt:(c.loops==(fn.params.toList++s.plain.varTypes P).any (P.loopsFrom ·))=true) (Wu:(c.wideKeys==(fn.params.toList++s.plain.varTypes P++fn.resultTypes.toList).any (P.wideKeysFrom ·))=true) (Wv:s.vars.all (P.varReadable ·)=true) (Ww:fn.resultTypes.all (fun t=>P.readableRec t&&decide (t<P.types.size))=true) (Wx:(c.ifacesOut==fn.resultTypes.toList.any (P.ifacesRec ·))=true) (Wy:(c.loopsOut==fn.resultTypes.toList.any (P.loopsFrom ·))=true) (Wz:(c.plainKeys==P.plainKeys)=true) (WA:c.shortTexts.isNone=true) (WB:P.stopsHeard=true) (WC:P.mayEnter=true) (WD:(c.lifted==P.liftsFinal)=true) (WE:(P.make==some c.make)=true) (WG:NV P fn c=true) (WH:(c.pinned==c.pinnedBy)=true) (oT:(c.veiled==(fn.params.toList++s.plain.varTypes P++fn.resultTypes.toList).any (P.veiledRec ·))=true) (WI:c.veiledFits P fn.params.toList (fn.params.toList++s.plain.varTypes P++fn.resultTypes.toList)=true):joinedFacts P f fn s c=true:=by
 unfold joinedFacts
 simp only[Bool.and_eq_true]
 exact⟨⟨⟨⟨⟨⟨⟨⟨⟨⟨⟨⟨⟨⟨⟨⟨⟨⟨⟨⟨⟨⟨⟨⟨⟨⟨⟨⟨⟨⟨⟨aT,h1⟩,h2⟩,aO⟩,bd⟩,ch⟩,cD⟩,gp⟩,oh⟩,ue⟩,yz⟩,Wp⟩,mu⟩,Wq⟩,Wr⟩,Ws⟩,Wt⟩,Wu⟩,Wv⟩,Ww⟩,Wx⟩,Wy⟩,Wz⟩,WA⟩,WB⟩,WC⟩,WD⟩,WE⟩,WG⟩,WH⟩,oT⟩,WI⟩
theorem aaS {α:Type} [Inhabited α] {xs:List α} {i:Int} (h:i.toNat<xs.length):nth xs i=xs[i.toNat]:=by
 have:=gV h
 rw[List.getElem?_eq_getElem h] at this
 exact(Option.some.inj this).symm
def bo (b:List Bool):Blk:=⟨0,1,List.map aY b⟩
def kp (s:Nat) (h:ad) (id:Nat):List AV:=[.int .i64 h.aq,.int .i64 h.af,.ref (id+s) 0 0 h.ac.length false,.bool h.ar,.int .i64 h.au]
def a1 (s:Nat) (ws:List ad) (ids:List Nat):List (List AV):=List.zipWith (kp s) ws ids
def view (ws:List ad) (ids:List Nat) (bs:List (List Bool)):List ad:=List.zipWith (fun h id=>{h with ac:=bs.getD id []}) ws ids
structure kl (ws:List ad) (ids:List Nat) (bs:List (List Bool)):Prop where
 len:ws.length=ids.length
 lt: ∀(i id:Nat),ids[i]?=some id→id<bs.length
 ac: ∀(i id:Nat) (h:ad),ws[i]?=some h→ids[i]?=some id→h.ac.length=(bs.getD id []).length
theorem dO {s:Nat} {ws:List ad} {ids:List Nat} {i:Int} (aL:ws.length=ids.length) (hi:i.toNat<ws.length):(a1 s ws ids)[i.toNat]?=some (kp s (nth ws i) (nth ids i)):=by
 unfold a1
 rw[List.getElem?_zipWith,gV hi,gV (by omega)]
theorem wu {s:Nat} {ws:List ad} {ids:List Nat} (aL:ws.length=ids.length):(a1 s ws ids).length=ws.length:=by
 unfold a1;rw[List.length_zipWith];omega
theorem wv {s:Nat} {ws:List ad} {ids:List Nat} {i:Nat} {h:ad} {id:Nat} (aL:ws.length=ids.length):(a1 s ws ids).set i (kp s h id)=a1 s (ws.set i h) (ids.set i id):=by
 apply List.ext_getElem?
 intro j
 unfold a1
 rw[List.getElem?_set,List.getElem?_zipWith,List.getElem?_zipWith,List.getElem?_set,List.getElem?_set]
 by_cases nD:i=j
 ·subst nD
  simp only[if_true,List.length_zipWith]
  by_cases hi:i<ws.length
  ·rw[if_pos (by omega),if_pos hi,if_pos (by omega)]
  ·rw[if_neg (by omega),if_neg hi]
 ·simp only[if_neg nD]
theorem kq {s:Nat} {ws:List ad} {ids:List Nat} {i:Int} {h:ad} (aL:ws.length=ids.length) (hi:i.toNat<ws.length):(a1 s ws ids).set i.toNat (kp s h (nth ids i))=a1 s (ws.set i.toNat h) ids:=by
 rw[wv aL]
 congr 1
 rw[aaS (by omega)]
 exact List.set_getElem_self _
theorem EP {s:Nat} {ws:List ad} {ids:List Nat} {h:ad} {id:Nat} (aL:ws.length=ids.length):a1 s ws ids++[kp s h id]=a1 s (ws++[h]) (ids++[id]):=by
 unfold a1
 rw[List.zipWith_append aL];rfl
theorem sO {bs:List (List Bool)} {id:Nat} (h:id<bs.length):(List.map bo bs)[id]?=some (bo (bs.getD id [])):=by
 rw[List.getElem?_map,List.getElem?_eq_getElem h,List.getD_eq_getElem?_getD,List.getElem?_eq_getElem h];rfl
theorem Ev {bs:List (List Bool)} {id:Nat} {b:List Bool}:(List.map bo bs).set id (bo b)=List.map bo (bs.set id b):=by rw[List.map_set]
theorem yh {b:List Bool} {i:Int} (h:i.toNat<b.length):(List.map aY b)[i.toNat]?=some (aY (nth b i)):=by rw[List.getElem?_map,gV h];rfl
theorem DA {b:List Bool} {i:Nat} {x:Bool}:(List.map aY b).set i (aY x)=List.map aY (b.set i x):=by rw[List.map_set]
theorem jo {ws:List ad} {ids:List Nat} {bs:List (List Bool)} (h:kl ws ids bs):(view ws ids bs).length=ws.length:=by
 unfold view;rw[List.length_zipWith];have:=h.len;omega
theorem xT {ws:List ad} {ids:List Nat} {bs:List (List Bool)} {i:Nat} {h:ad} {id:Nat} (h1:ws[i]?=some h) (h2:ids[i]?=some id):(view ws ids bs)[i]?=some {h with ac:=bs.getD id []}:=by
 unfold view;rw[List.getElem?_zipWith,h1,h2]
theorem vc {s:Nat} {ws:List ad} {ids:List Nat} {i:Nat} {row:List AV} (h:(a1 s ws ids)[i]?=some row): ∃x id,ws[i]?=some x∧ids[i]?=some id∧row=kp s x id:=by
 unfold a1 at h
 rw[List.getElem?_zipWith] at h
 cases hx:ws[i]? with
 | none=>rw[hx] at h;cases h
 | some x=>
  cases bh:ids[i]? with
  | none=>rw[hx,bh] at h;cases h
  | some id=>rw[hx,bh] at h;cases h;exact⟨x,id,rfl,rfl,rfl⟩
theorem tx {L:List (Nat×List AV)} {H:List Blk} {b s n:Nat} {full:Bool} {ws:List ad} {ids:List Nat} {bs:List (List Bool)} (aG:n=ws.length) (hb:H[b]?=some ⟨0,5,a1 s ws ids⟩)
  (hf: ∀(id:Nat) (k:Blk),(List.map bo bs)[id]?=some k→H[id+s]?=some k) (ok:kl ws ids bs) (g5:ws.length≤4611686018427387904) (Bi: ∀x∈bs,x.length≤4611686018427387904):
  gd L H (.ref b 0 0 n full) (.bC (List.map (dM false) (view ws ids bs)) false false):=by
 subst aG
 refine gd.ref (fun h=>by cases h) hb rfl (by rw[List.length_map,jo ok]) g5 (by rw[Nat.zero_add,wu ok.len];exact Nat.le_refl _) (fun i row row' h1 h2=> ?_) (fun i j row row' a c h1 h2 aO bd=> ?_)
 ·rw[Nat.zero_add] at h1
  obtain⟨x,id,hx,bh,rfl⟩:=vc h1
  rw[List.getElem?_map,xT hx bh] at h2
  cases h2;rfl
 ·rw[Nat.zero_add] at h1
  obtain⟨x,id,hx,bh,rfl⟩:=vc h1
  rw[List.getElem?_map,xT hx bh] at h2
  cases h2
  have bf:=ok.lt i id bh
  have key:oI L H (kp s x id) (dM false {x with ac:=bs.getD id []}):=by
   refine .cons (.int _ _) (.cons (.int _ _) (.cons ?_ (.cons (.bool _) (.cons (.int _ _) .nil))))
   have hm:bs.getD id []∈bs:=by rw[List.getD_eq_getElem?_getD,List.getElem?_eq_getElem bf];exact List.getElem_mem bf
   exact nn (eT:=aY) (eF:=aY) (sz:=1) (ok.ac i id x hx bh) (hf id _ (sO bf)) s6 (Bi _ hm)
  exact key.2 j a c aO bd
theorem CV {H:List Blk} {b g s n:Nat} {full:Bool} {ws ys:List ad} {ids:List Nat} {bs:List (List Bool)} (aG:n=ws.length) (hb:H[b]?=some ⟨g,5,a1 s ws ids⟩)
  (hf: ∀(id:Nat) (k:Blk),(List.map bo bs)[id]?=some k→H[id+s]?=some k) (h:kl ws ids bs∧ws.length≤4611686018427387904∧(∀x∈bs,x.length≤4611686018427387904)∧view ws ids bs=ys):
  gI H (.ref b g 0 n full) (.bC (List.map (dM false) ys) false true):=by
 obtain⟨ok,g5,Bi,rfl⟩:=h
 subst aG
 refine gI.ref (fun h=>by cases h) (fun i j=>(((view ws ids bs)[i]?).bind fun x=>(dM true x)[j]?).getD .undef) hb rfl (by rw[List.length_map,jo ok]) g5 (by rw[Nat.zero_add,wu ok.len];exact Nat.le_refl _) (fun i row row' h1 h2=> ?_) (fun i j row a hi h1 h2=> ?_) (fun i j row' c h1 h2=> ?_)
 ·rw[Nat.zero_add] at h1
  obtain⟨x,id,hx,bh,rfl⟩:=vc h1
  rw[List.getElem?_map,xT hx bh] at h2
  cases h2;rfl
 ·rw[Nat.zero_add] at h1
  obtain⟨x,id,hx,bh,rfl⟩:=vc h1
  rw[xT hx bh]
  have bf:=ok.lt i id bh
  have hm:bs.getD id []∈bs:=by rw[List.getD_eq_getElem?_getD,List.getElem?_eq_getElem bf];exact List.getElem_mem bf
  show gI H a (((some ({x with ac:=bs.getD id []}:ad)).bind fun x=>(dM true x)[j]?).getD .undef)
  match j,h2 with
  | 0,h2=>cases h2;exact .int _ _
  | 1,h2=>cases h2;exact .int _ _
  | 2,h2=>
   cases h2
   exact ri (eT:=aY) (eF:=aY) (sz:=1) (ok.ac i id x hx bh) (hf id _ (sO bf)) vV ⟨Bi _ hm,rfl⟩
  | 3,h2=>cases h2;exact .bool _
  | 4,h2=>cases h2;exact .int _ _
  | j+5,h2=>simp[kp] at h2
 ·rw[List.getElem?_map] at h1
  cases hv:(view ws ids bs)[i]? with
  | none=>rw[hv] at h1;cases h1
  | some x=>
   rw[hv] at h1;cases h1
   show c=kD (((some x).bind fun x=>(dM true x)[j]?).getD .undef)
   match j,h2 with
   | 0,h2=>cases h2;rfl
   | 1,h2=>cases h2;rfl
   | 2,h2=>cases h2;rfl
   | 3,h2=>cases h2;rfl
   | 4,h2=>cases h2;rfl
   | j+5,h2=>simp[dM] at h2
theorem Weak.w5 [cL] (sz:Nat) {T:List AV} {L:List (Nat×List AV)} {H:List Blk}:Weak ⟨T,L,H⟩ ⟨T,L,H++[⟨0,sz,[]⟩]⟩:=fun cz E tmps g s=>by
 obtain⟨E',hw,bk,h1,h2,_⟩:=Cb (blk:=⟨0,sz,[]⟩) s.h s.l rfl rfl
 exact⟨E',hw,g.step bk,h1,h2,fun t=>(s.iA t).le bk.le,s.size⟩
theorem Weak.clear [cL] (j:Nat) {g sz:Nat} {rows:List (List AV)} {T:List AV} {L:List (Nat×List AV)} {H:List Blk} (aN:H[j]?=some ⟨g,sz,rows⟩):Weak ⟨T,L,H⟩ ⟨T,L,H.set j ⟨g,sz,[]⟩⟩:=fun cz E tmps Wh s=>by
 have l5:=(List.getElem?_eq_some_iff.1 aN).1
 have get: ∀(b:Nat) (blk:Blk),(H.set j ⟨g,sz,[]⟩)[b]?=some blk→(b=j∧blk=⟨g,sz,[]⟩)∨(b≠j∧H[b]?=some blk):=fun b blk h=>by
  rw[List.getElem?_set] at h
  split at h
  ·rename_i e;subst e;exact .inl ⟨rfl,(Option.some.inj h).symm⟩
  ·rename_i e;exact .inr ⟨fun h=>e h.symm,h⟩
 have hB:SimH E H:=s.h
 refine⟨E,rfl,Wh,{hB with
  heap:=fun b c hb=> ?_,fh:=fun b blk hb=> ?_,hz:=fun b hb=> ?_,fresh:=fun b hb=>hB.fresh b (by simpa using hb)},s.l,s.iA,s.size⟩
 ·obtain⟨blk,a_,ty,q1,dX,q2,q3,q4,cR⟩:=hB.heap b c hb
  by_cases e:b=j
  ·subst e
   rw[aN] at q1
   obtain rfl:=Option.some.inj q1
   exact⟨⟨g,sz,[]⟩,a_,ty,by rw[List.getElem?_set];simp[l5],dX,q2,q3,Nat.zero_le _,fun i row h=>by simp at h,fun i j row a h=>by simp at h⟩
  ·exact⟨blk,a_,ty,by rw[List.getElem?_set,if_neg (fun h=>e h.symm)];exact q1,dX,q2,q3,q4,cR⟩
 ·rcases get b blk hb with⟨rfl,rfl⟩ | ⟨_,hb⟩
  ·exact(hB.fh b _ aN:)
  ·exact hB.fh b blk hb
 ·obtain⟨blk,q1,dX⟩:=hB.hz b hb
  by_cases e:b=j
  ·subst e
   rw[aN] at q1
   obtain rfl:=Option.some.inj q1
   exact⟨⟨g,sz,[]⟩,by rw[List.getElem?_set];simp[l5],dX⟩
  ·exact⟨blk,by rw[List.getElem?_set,if_neg (fun h=>e h.symm)];exact q1,dX⟩
theorem Qg (H:List Blk):H.map (ll 0)=H:=by
 have aT: ∀a:AV,iM 0 a=a:=fun a=>by cases a<;>simp[iM]
 have:ll 0=id:=by
  funext b
  obtain⟨g,s,rows⟩:=b
  show(⟨g,s,rows.map fun row=>row.map (iM 0)⟩:Blk)=⟨g,s,rows⟩
  congr 1
  have:(fun row:List AV=>row.map (iM 0))=id:=by funext row;rw[show iM 0=id from funext aT];simp
  rw[this];simp
 rw[this];simp
theorem Cm {bB aR a2 s:Nat} {aw:List Bool} {jB:List a8} {ws:List ad} {ids:List Nat} {bs:List (List Bool)}:th (⟨bB,1,List.map aY aw⟩::⟨aR,2,List.map a7 jB⟩::⟨a2,5,a1 s ws ids⟩::List.map bo bs)=true:=by
 refine qW (fun _=>rfl) (qW (fun _=>rfl) ?_)
 unfold th
 rw[List.all_eq_true]
 intro b hb
 rw[List.all_eq_true]
 intro row aK
 rcases List.mem_cons.1 hb with rfl | hb
 ·obtain⟨i,hi⟩:=List.mem_iff_getElem?.1 aK
  obtain⟨x,id,_,_,rfl⟩:=vc hi
  rfl
 ·obtain⟨b,_,rfl⟩:=List.mem_map.1 hb
  obtain⟨x,_,rfl⟩:=List.mem_map.1 aK
  rfl
def vh (j:Nat):Option Nat:=if j<3 then some j else some (j+1)
theorem OV {r:AV} {bB aR a2 bS gi l9 n2:Nat} {f0 f1 f2:Bool} {R:Frame} {ok:Bool} {aw:List Bool} {jB:List a8} {ws:List ad} {ids:List Nat} {bs:List (List Bool)} {rows:List (List AV)}
  (h:ok=R.ok∧aw=R.aw∧jB=R.ap∧ws=R.O∧ids=List.range ws.length∧bs=ws.map ad.ac) (aT:gi=aw.length) (h1:l9=jB.length) (h2:n2=ws.length) (aK:r= .agg [.bool ok,.ref 0 bB 0 gi f0,.ref 1 aR 0 l9 f1,.ref 2 a2 0 n2 f2]):
  ∃dv,tL (⟨bB,1,List.map aY aw⟩::⟨aR,2,List.map a7 jB⟩::⟨a2,5,a1 4 ws ids⟩::⟨bS,5,rows⟩::List.map bo bs)
   (⟨0,1,List.map aY R.aw⟩::⟨0,2,List.map a7 R.ap⟩::⟨0,5,a1 3 R.O (List.range R.O.length)⟩::List.map bo (List.map ad.ac R.O)) dv∧
   JC (⟨bB,1,List.map aY aw⟩::⟨aR,2,List.map a7 jB⟩::⟨a2,5,a1 4 ws ids⟩::⟨bS,5,rows⟩::List.map bo bs)
    (⟨0,1,List.map aY R.aw⟩::⟨0,2,List.map a7 R.ap⟩::⟨0,5,a1 3 R.O (List.range R.O.length)⟩::List.map bo (List.map ad.ac R.O)).length dv r
    (.agg [.bool R.ok,.ref 0 0 0 R.aw.length false,.ref 1 0 0 R.ap.length false,.ref 2 0 0 R.O.length false]):=by
 obtain⟨rfl,rfl,rfl,rfl,rfl,rfl⟩:=h
 subst aT;subst h1;subst h2;subst aK
 have hlen:(⟨0,1,List.map aY R.aw⟩::⟨0,2,List.map a7 R.ap⟩::⟨0,5,a1 3 R.O (List.range R.O.length)⟩::List.map bo (List.map ad.ac R.O):List Blk).length=R.O.length+3:=by simp
 refine⟨vh,⟨fun i j b hi aN h1 h2=> ?_,fun j k hk=> ?_,fun j b k hk hs=> ?_⟩,.inl ⟨_,_,rfl,rfl,?_⟩⟩
 ·unfold vh at h1 h2
  split at h1<;>split at h2<;>simp at h1 h2<;>omega
 ·match j,hk with
  | 0,hk=>simp at hk;subst hk;rfl
  | 1,hk=>simp at hk;subst hk;rfl
  | 2,hk=>simp at hk;subst hk;rfl
  | j+3,hk=>simp at hk;obtain⟨x,_,rfl⟩:=hk;rfl
 ·rw[hlen]
  match j,hk,hs with
  | 0,hk,hs=>
   simp at hk;subst hk
   obtain rfl:0=b:=by simpa[vh] using hs
   exact ra (b:=0) rfl zq rfl
  | 1,hk,hs=>
   simp at hk;subst hk
   obtain rfl:1=b:=by simpa[vh] using hs
   exact ra (b:=1) rfl G1 rfl
  | 2,hk,hs=>
   simp at hk;subst hk
   obtain rfl:2=b:=by simpa[vh] using hs
   refine⟨_,rfl,rfl,⟨by rw[wu (by simp),wu (by simp)],fun i agr eN a3 hb=> ?_⟩⟩
   obtain⟨x,id,hx,bh,rfl⟩:=vc a3
   obtain⟨lq,gC,jQ,pG,rfl⟩:=vc hb
   rw[hx] at jQ;cases jQ
   rw[bh] at pG;cases pG
   have wD:i<R.O.length:=(List.getElem?_eq_some_iff.1 hx).1
   obtain rfl:i=id:=by rw[List.getElem?_range wD] at bh;exact Option.some.inj bh
   refine .cons (.int _ _) (.cons (.int _ _) (.cons ?_ (.cons (.bool _) (.cons (.int _ _) .nil))))
   refine jq.ref (blk:=bo x.ac) (by omega) (by simp[vh]) ?_ rfl
   show(List.map bo (List.map ad.ac R.O))[i]?=_
   rw[List.getElem?_map,List.getElem?_map,hx];rfl
  | j+3,hk,hs=>
   obtain rfl:j+4=b:=by
    unfold vh at hs
    rw[if_neg (by omega)] at hs;exact Option.some.inj hs
   have hk:(List.map bo (List.map ad.ac R.O))[j]?=some k:=by simpa using hk
   have: ∃x,k=bo x:=by
    rw[List.getElem?_map] at hk
    cases ak:(List.map ad.ac R.O)[j]? with
    | none=>rw[ak] at hk;cases hk
    | some x=>rw[ak] at hk;cases hk;exact⟨x,rfl⟩
   obtain⟨x,rfl⟩:=this
   have hb:(⟨bB,1,List.map aY R.aw⟩::⟨aR,2,List.map a7 R.ap⟩::⟨a2,5,a1 4 R.O (List.range R.O.length)⟩::⟨bS,5,rows⟩::List.map bo (List.map ad.ac R.O):List Blk)[j+4]?=some ⟨0,1,List.map aY x⟩:=hk
   exact ra (b:=j+4) hb zq rfl
 ·rw[hlen]
  exact .cons (.bool _) (.cons (.ref (by omega) rfl rfl rfl) (.cons (.ref (by omega) rfl rfl rfl) (.cons (.ref (by omega) rfl rfl rfl) .nil)))
theorem acf {k s:Nat} {ws:List ad} {ids:List Nat}:(a1 s ws ids).map (fun row=>row.map (iM k))=a1 (s+k) ws ids:=by
 apply List.ext_getElem?
 intro i
 unfold a1
 rw[List.getElem?_map,List.getElem?_zipWith,List.getElem?_zipWith]
 cases ws[i]? with
 | none=>rfl
 | some h=>
  cases ids[i]? with
  | none=>rfl
  | some id=>
   show some [_,_,AV.ref (k+(id+s)) 0 0 h.ac.length false,_,_]=some [_,_,AV.ref (id+(s+k)) 0 0 h.ac.length false,_,_]
   rw[show k+(id+s)=id+(s+k) by omega];rfl
theorem ace {k:Nat} {bs:List (List Bool)}:(List.map bo bs).map (ll k)=List.map bo bs:=by
 rw[List.map_map]
 refine List.map_congr_left fun b _=> ?_
 show(⟨0,1,(List.map aY b).map fun row=>row.map (iM k)⟩:Blk)=⟨0,1,_⟩
 rw[List.map_map]
 congr 1
theorem Qh {k bB aR a2 s:Nat} {aw:List Bool} {jB:List a8} {ws:List ad} {ids:List Nat} {bs:List (List Bool)}:
  (⟨bB,1,List.map aY aw⟩::⟨aR,2,List.map a7 jB⟩::⟨a2,5,a1 s ws ids⟩::List.map bo bs:List Blk).map (ll k)=⟨bB,1,List.map aY aw⟩::⟨aR,2,List.map a7 jB⟩::⟨a2,5,a1 (s+k) ws ids⟩::List.map bo bs:=by
 refine rf (fun _=>rfl) (rf (fun _=>rfl) ?_)
 show(⟨a2,5,(a1 s ws ids).map fun row=>row.map (iM k)⟩:Blk)::(List.map bo bs).map (ll k)=_
 rw[acf,ace]
structure gA (ws:List ad) (ids:List Nat) (bs:List (List Bool)):Prop where
 ok:kl ws ids bs
 kV: ∀i j k:Nat,ids[i]?=some k→ids[j]?=some k→i=j
 len: ∀b∈bs,b.length≤1048576
theorem rL {bs:List (List Bool)} {b:List Bool}:List.map bo bs++[⟨0,1,List.map aY b⟩]=List.map bo (bs++[b]):=by rw[List.map_append];rfl
section
variable {P:Program} {esc:List Nat} {ops:Array Oper} {n:Nat} {X:List Oper} {i0:Nat} {A:List (Nat×AV)} {L:List (Nat×List AV)} {H:List Blk} {K:List (Nat×AV)→List (Nat×List AV)→List Blk→Prop}
theorem iL (a4:Nat) (d:Option Nat) (N:List (Nat×AV)) (rows:List (List AV)) {row:List AV} (i:Int) (t:TypeId) (c g:Nat) (v:AV) (e1:rows[i.toNat]?=some row) (h:evS P esc ops n (X.drop (i0+a4)) (dj d v N A) L H K)
  (e2: ∀K,jI P t row c K=K v:=by intro K;kernel_rfl)
  (e: ∀K,evS P esc ops n ((X.drop i0).take a4) A L H K=(g=g∧c5 rows[0+i.toNat]? fun row=>jI P t row c fun v=>K (dj d v N A) L H):=by intro K;kernel_rfl):evS P esc ops n (X.drop i0) A L H K:=by
 rw[jN X i0 a4,e]
 exact⟨rfl,et (a:=row) (by rw[Nat.zero_add];exact e1) (by rw[e2];exact h)⟩
theorem ab5 (a4:Nat) (d:Option Nat) (N:List (Nat×AV)) (rows:List (List AV)) {row row':List AV} (i:Int) (c k g:Nat) (cells:List AV) (H':List (List AV)→List Blk) (iK:List (List AV)) (e1:rows[i.toNat]?=some row) (k9:rows.set i.toNat row'=iK)
  (h:evS P esc ops n (X.drop (i0+a4)) (dj d (.tup []) N A) L (H' iK) K) (hc:Nat.ble (c+k) row.length=true:=by kernel_rfl) (hs:fp row c cells=row':=by kernel_rfl)
  (e: ∀K,evS P esc ops n ((X.drop i0).take a4) A L H K=(g=g∧c5 rows[0+i.toNat]? fun row=>c+k≤row.length∧K (dj d (.tup []) N A) L (H' (rows.set (0+i.toNat) (fp row c cells)))):=by intro K;kernel_rfl):evS P esc ops n (X.drop i0) A L H K:=by
 rw[jN X i0 a4,e]
 refine⟨rfl,et (a:=row) (by rw[Nat.zero_add];exact e1) ⟨Nat.le_of_ble_eq_true hc,?_⟩⟩
 ·rw[hs,Nat.zero_add,k9];exact h
theorem kf (a4:Nat) (d:Option Nat) (N:List (Nat×AV)) (rows:List (List AV)) {row row':List AV} (i:Int) (c k g:Nat) (cells:List AV) (j:Nat) (iK:List (List AV)) (e1:rows[i.toNat]?=some row) (k9:rows.set i.toNat row'=iK)
  (h:evS P esc ops n (X.drop (i0+a4)) (dj d (.tup []) N A) L (ib j iK H) K) (hc:Nat.ble (c+k) row.length=true:=by kernel_rfl) (hs:fp row c cells=row':=by kernel_rfl)
  (e: ∀K,evS P esc ops n ((X.drop i0).take a4) A L H K=(g=g∧c5 rows[0+i.toNat]? fun row=>c+k≤row.length∧K (dj d (.tup []) N A) L (ib j (rows.set (0+i.toNat) (fp row c cells)) H)):=by intro K;kernel_rfl):evS P esc ops n (X.drop i0) A L H K:=ab5 a4 d N rows i c k g cells (fun r=>ib j r H) iK e1 k9 h hc hs e
theorem ab0 (a4:Nat) (d:Option Nat) (N:List (Nat×AV)) (bs:List (List Bool)) (id s:Nat) {i:Int} {m:Nat} (gS:id<bs.length) (aT:0≤i∧i.toNat<m) (h:evS P esc ops n (X.drop (i0+a4)) (dj d (.ptr (id+s) 0 (0+i.toNat) 0) N A) L H K)
  (e: ∀K,evS P esc ops n ((X.drop i0).take a4) A L H K=(c5 (List.map bo bs)[id]? fun blk=>blk.bF=0∧blk.sz=1∧0≤i∧i<m∧K (dj d (.ptr (id+s) 0 (0+i.toNat) 0) N A) L H):=by intro K;kernel_rfl):evS P esc ops n (X.drop i0) A L H K:=by
 rw[jN X i0 a4,e]
 exact et (sO gS) ⟨rfl,rfl,aT.1,by have:=aT.2;omega,h⟩
theorem ab4 (a4:Nat) (d:Option Nat) (N:List (Nat×AV)) (bs:List (List Bool)) (id:Nat) (i:Int) (x:Bool) (H':List Blk→List Blk) (gS:id<bs.length) (hi:i.toNat<(bs.getD id []).length)
  (h:evS P esc ops n (X.drop (i0+a4)) (dj d (.tup []) N A) L (H' (List.map bo (bs.set id ((bs.getD id []).set i.toNat x)))) K)
  (e: ∀K,evS P esc ops n ((X.drop i0).take a4) A L H K=(c5 (List.map bo bs)[id]? fun blk=>blk.bF=0∧c5 blk.rows[0+i.toNat]? fun row=>0+1≤row.length∧K (dj d (.tup []) N A) L (H' ((List.map bo bs).set id {blk with rows:=blk.rows.set (0+i.toNat) (fp row 0 [.bool x])}))):=by intro K;kernel_rfl):evS P esc ops n (X.drop i0) A L H K:=by
 rw[jN X i0 a4,e]
 have key:(List.map bo bs).set id {bo (bs.getD id []) with rows:=(bo (bs.getD id [])).rows.set (0+i.toNat) (fp (aY (nth (bs.getD id []) i)) 0 [.bool x])}=List.map bo (bs.set id ((bs.getD id []).set i.toNat x)):=by
  rw[←Ev]
  congr 1
  show(⟨0,1,(List.map aY (bs.getD id [])).set (0+i.toNat) (aY x)⟩:Blk)=⟨0,1,_⟩
  rw[Nat.zero_add,DA]
 refine et (sO gS) ⟨rfl,et (a:=aY (nth (bs.getD id []) i)) (by rw[Nat.zero_add];exact yh hi) ⟨Nat.le_refl _,?_⟩⟩
 ·rw[key];exact h
theorem P7 (a4:Nat) (N:List (Nat×AV)) (H':List Blk) {φ ψ:Prop} (h1:φ) (h2:ψ) (h:evS P esc ops n (X.drop (i0+a4)) (gN N A) L H' K) (e: ∀K,evS P esc ops n ((X.drop i0).take a4) A L H K=(φ∧ψ∧K (gN N A) L H'):=by intro K;kernel_rfl):evS P esc ops n (X.drop i0) A L H K:=by
 rw[jN X i0 a4,e];exact⟨h1,h2,h⟩
theorem P6 (H':List Blk) (aS:H=H') (h:evS P esc ops n (X.drop i0) A L H' K):evS P esc ops n (X.drop i0) A L H K:=by
 subst aS;exact h
theorem tu (a4:Nat) (d:Option Nat) (N:List (Nat×AV)) {g:FuncId} (args:List AV) (Q:AV→List Blk→Prop) (hf:dH P g args H Q) (aK: ∀r H',Q r H'→w9 r=true) (h: ∀r H',Q r H'→evS P esc ops n (X.drop (i0+a4)) (dj d r N A) L H' K)
  (aG:args.all e7=true:=by kernel_rfl) (aL:args.all kc=true:=by kernel_rfl) (e: ∀K,evS P esc ops n ((X.drop i0).take a4) A L H K=(lv P g args L H (fun v L' H'=>K (dj d v N A) L' H')):=by intro K;kernel_rfl):evS P esc ops n (X.drop i0) A L H K:=by
 rw[jN X i0 a4,e]
 exact .inr (.inr (.inl ⟨aG,aL,hf.mono fun r H' ak=>⟨aK r H' ak,h r H' ak⟩⟩))
theorem ab2 (a4:Nat) (d:Option Nat) (N:List (Nat×AV)) {i:Int} (B:Int) (z:List AV) (m:Nat) (k2:List Blk) (aT:0≤i∧B*i≤140737488355328∧i≤4611686018427387904) (aL:H.length=m) (hx:H++[⟨0,1,List.map aY (List.replicate i.toNat false)⟩]=k2)
  (h:evS P esc ops n (X.drop (i0+a4)) (dj d (.ref m 0 0 (List.replicate i.toNat false).length false) N A) L k2 K) (aP:z=aY false:=by rfl)
  (e: ∀K,evS P esc ops n ((X.drop i0).take a4) A L H K=(0≤i∧i≤i∧B*i≤140737488355328∧i≤4611686018427387904∧K (dj d (.ref H.length 0 0 i.toNat false) N A) L (H++[⟨0,1,List.replicate i.toNat z⟩])):=by intro K;kernel_rfl):evS P esc ops n (X.drop i0) A L H K:=by
 rw[jN X i0 a4,e]
 subst aL;subst hx;subst aP
 rw[List.length_replicate,List.map_replicate] at h
 exact⟨aT.1,Int.le_refl _,aT.2.1,aT.2.2,h⟩
theorem ab1 (a4:Nat) (d:Option Nat) (N:List (Nat×AV)) (ys:List Bool) (B:Nat) (m:Nat) (k2:List Blk) (aT:ys.length*B≤140737488355328∧ys.length≤4611686018427387904) (aL:H.length=m) (hx:H++[⟨0,1,List.map aY ys⟩]=k2)
  (h:evS P esc ops n (X.drop (i0+a4)) (dj d (.ref m 0 0 ys.length false) N A) L k2 K)
  (e: ∀K,evS P esc ops n ((X.drop i0).take a4) A L H K=(true=true∧true=true∧q_ 1 (List.map aY ys)∧true=true∧(∀row∈([]:List (List AV)),row.length=1)∧(List.length (α:=List AV) []+(List.map aY ys).length)*B≤140737488355328∧List.length (α:=List AV) []+(List.map aY ys).length≤4611686018427387904∧(([]:List (List AV))≠[]→(List.map aY ys)≠[])∧
   K (dj d (.ref H.length 0 0 (List.length (α:=List AV) []+(List.map aY ys).length) false) N A) L (H++[⟨0,1,[]++(List.map aY ys)⟩])):=by intro K;kernel_rfl):evS P esc ops n (X.drop i0) A L H K:=by
 rw[jN X i0 a4,e]
 subst aL;subst hx
 refine⟨rfl,rfl,CM (enc:=aY) (fun _=>⟨rfl,rfl⟩) ys,rfl,(fun row h=>by cases h),by simpa using aT.1,by simpa using aT.2,(fun h=>absurd rfl h),?_⟩
 simpa using h
theorem P4 (a4:Nat) (d:Option Nat) (N:List (Nat×AV)) (s b g q B:Nat) (ws:List ad) (ids:List Nat) (x:ad) (id:Nat) (H':List (List AV)→List Blk) (aL:ws.length=ids.length)
  (aT:(ws.length+1)*B≤140737488355328∧ws.length+1≤4611686018427387904) (h:evS P esc ops n (X.drop (i0+a4)) (dj d (.ref b (g+1) 0 (ws++[x]).length false) N A) L (H' (a1 s (ws++[x]) (ids++[id]))) K)
  (e: ∀K,evS P esc ops n ((X.drop i0).take a4) A L H K=(true=true∧true=true∧(q=q∧0+1≤1∧(q_ 5 [kp s x id]∧0=0∧g=g∧5=5∧(a1 s ws ids).length=ws.length∧(ws.length+1)*B≤140737488355328∧ws.length+1≤4611686018427387904∧
   K (dj d (.ref b (g+1) 0 (ws.length+1) false) N A) L (H' (a1 s ws ids++[kp s x id]))))):=by intro K;kernel_rfl):evS P esc ops n (X.drop i0) A L H K:=by
 rw[jN X i0 a4,e]
 refine⟨rfl,rfl,rfl,Nat.le_refl _,?_,rfl,rfl,rfl,wu aL,aT.1,aT.2,?_⟩
 ·intro row aK
  rw[List.mem_singleton.1 aK]
  exact⟨rfl,fun a a3=>List.all_eq_true.1 (show(kp s x id).all jk=true from rfl) a a3⟩
 ·rw[EP aL];rw[List.length_append] at h;exact h
end
section
variable {P:Program} {esc:List Nat} {ops:Array Oper} {n:Nat} {X:List Item} {i0:Nat} {A:List (Nat×AV)} {L:List (Nat×List AV)} {H:List Blk} {K:List (Nat×AV)→List (Nat×List AV)→List Blk→Prop}
theorem nV (a4:Nat) (d:Option Nat) (N:List (Nat×AV)) (rows:List (List AV)) {row:List AV} (i:Int) (t:TypeId) (c g:Nat) (v:AV) (e1:rows[i.toNat]?=some row) (h:evSD P esc ops n (X.drop (i0+a4)) (dj d v N A) L H K)
  (e2: ∀K,jI P t row c K=K v:=by intro K;kernel_rfl)
  (e: ∀K,evSD P esc ops n ((X.drop i0).take a4) A L H K=(g=g∧c5 rows[0+i.toNat]? fun row=>jI P t row c fun v=>K (dj d v N A) L H):=by intro K;kernel_rfl):evSD P esc ops n (X.drop i0) A L H K:=by
 rw[ly X i0 a4,e]
 exact⟨rfl,et (a:=row) (by rw[Nat.zero_add];exact e1) (by rw[e2];exact h)⟩
theorem SJ (a4:Nat) (d:Option Nat) (N:List (Nat×AV)) (rows:List (List AV)) {row row':List AV} (i:Int) (c k g:Nat) (cells:List AV) (F:List (List AV)→Prop) (H':List (List AV)→List Blk) (iK:List (List AV)) (e1:rows[i.toNat]?=some row) (k9:rows.set i.toNat row'=iK)
  (cZ:F (iK)) (h:evSD P esc ops n (X.drop (i0+a4)) (dj d (.tup []) N A) L (H' iK) K) (hc:Nat.ble (c+k) row.length=true:=by kernel_rfl) (hs:fp row c cells=row':=by kernel_rfl)
  (e: ∀K,evSD P esc ops n ((X.drop i0).take a4) A L H K=(g=g∧c5 rows[0+i.toNat]? fun row=>c+k≤row.length∧F ((rows.set (0+i.toNat) (fp row c cells)))∧K (dj d (.tup []) N A) L (H' (rows.set (0+i.toNat) (fp row c cells)))):=by intro K;kernel_rfl):evSD P esc ops n (X.drop i0) A L H K:=by
 rw[ly X i0 a4,e]
 refine⟨rfl,et (a:=row) (by rw[Nat.zero_add];exact e1) ⟨Nat.le_of_ble_eq_true hc,?_,?_⟩⟩
 ·rw[hs,Nat.zero_add,k9];exact cZ
 ·rw[hs,Nat.zero_add,k9];exact h
theorem vr (a4:Nat) (d:Option Nat) (N:List (Nat×AV)) (bs:List (List Bool)) (id s:Nat) {i:Int} {m:Nat} (gS:id<bs.length) (aT:0≤i∧i.toNat<m) (h:evSD P esc ops n (X.drop (i0+a4)) (dj d (.ptr (id+s) 0 (0+i.toNat) 0) N A) L H K)
  (e: ∀K,evSD P esc ops n ((X.drop i0).take a4) A L H K=(c5 (List.map bo bs)[id]? fun blk=>blk.bF=0∧blk.sz=1∧0≤i∧i<m∧K (dj d (.ptr (id+s) 0 (0+i.toNat) 0) N A) L H):=by intro K;kernel_rfl):evSD P esc ops n (X.drop i0) A L H K:=by
 rw[ly X i0 a4,e]
 exact et (sO gS) ⟨rfl,rfl,aT.1,by have:=aT.2;omega,h⟩
theorem z5 (a4:Nat) (d:Option Nat) (N:List (Nat×AV)) (bs:List (List Bool)) (id:Nat) (i:Int) (t:TypeId) (gS:id<bs.length) (hi:i.toNat<(bs.getD id []).length) (h:evSD P esc ops n (X.drop (i0+a4)) (dj d (.bool (nth (bs.getD id []) i)) N A) L H K)
  (e2: ∀x K,jI P t (aY x) 0 K=K (.bool x):=by intro x K;kernel_rfl)
  (e: ∀K,evSD P esc ops n ((X.drop i0).take a4) A L H K=(c5 (List.map bo bs)[id]? fun blk=>blk.bF=0∧c5 blk.rows[0+i.toNat]? fun row=>jI P t row 0 fun v=>K (dj d v N A) L H):=by intro K;kernel_rfl):evSD P esc ops n (X.drop i0) A L H K:=by
 rw[ly X i0 a4,e]
 refine et (sO gS) ⟨rfl,et (a:=aY (nth (bs.getD id []) i)) (by rw[Nat.zero_add];exact yh hi) (by rw[e2];exact h)⟩
theorem SI (a4:Nat) (d:Option Nat) (N:List (Nat×AV)) (bs:List (List Bool)) (id:Nat) (i:Int) (x:Bool) (F:List Blk→Prop) (H':List Blk→List Blk) (gS:id<bs.length) (hi:i.toNat<(bs.getD id []).length)
  (cZ:F ((List.map bo (bs.set id ((bs.getD id []).set i.toNat x))))) (h:evSD P esc ops n (X.drop (i0+a4)) (dj d (.tup []) N A) L (H' (List.map bo (bs.set id ((bs.getD id []).set i.toNat x)))) K)
  (e: ∀K,evSD P esc ops n ((X.drop i0).take a4) A L H K=(c5 (List.map bo bs)[id]? fun blk=>blk.bF=0∧c5 blk.rows[0+i.toNat]? fun row=>0+1≤row.length∧F (((List.map bo bs).set id {blk with rows:=blk.rows.set (0+i.toNat) (fp row 0 [.bool x])}))∧K (dj d (.tup []) N A) L (H' ((List.map bo bs).set id {blk with rows:=blk.rows.set (0+i.toNat) (fp row 0 [.bool x])}))):=by intro K;kernel_rfl):evSD P esc ops n (X.drop i0) A L H K:=by
 rw[ly X i0 a4,e]
 have key:(List.map bo bs).set id {bo (bs.getD id []) with rows:=(bo (bs.getD id [])).rows.set (0+i.toNat) (fp (aY (nth (bs.getD id []) i)) 0 [.bool x])}=List.map bo (bs.set id ((bs.getD id []).set i.toNat x)):=by
  rw[←Ev]
  congr 1
  show(⟨0,1,(List.map aY (bs.getD id [])).set (0+i.toNat) (aY x)⟩:Blk)=⟨0,1,_⟩
  rw[Nat.zero_add,DA]
 refine et (sO gS) ⟨rfl,et (a:=aY (nth (bs.getD id []) i)) (by rw[Nat.zero_add];exact yh hi) ⟨Nat.le_refl _,?_,?_⟩⟩
 ·rw[key];exact cZ
 ·rw[key];exact h
theorem SG (a4:Nat) (d:Option Nat) (N:List (Nat×AV)) (s b g q B:Nat) (ws:List ad) (ids:List Nat) (x:ad) (id:Nat) (F:List (List AV)→Prop) (H':List (List AV)→List Blk) (aL:ws.length=ids.length)
  (aT:(ws.length+1)*B≤140737488355328∧ws.length+1≤4611686018427387904) (cZ:F ((a1 s (ws++[x]) (ids++[id])))) (h:evSD P esc ops n (X.drop (i0+a4)) (dj d (.ref b (g+1) 0 (ws++[x]).length false) N A) L (H' (a1 s (ws++[x]) (ids++[id]))) K)
  (e: ∀K,evSD P esc ops n ((X.drop i0).take a4) A L H K=(true=true∧true=true∧(q=q∧0+1≤1∧(q_ 5 [kp s x id]∧0=0∧g=g∧5=5∧(a1 s ws ids).length=ws.length∧(ws.length+1)*B≤140737488355328∧ws.length+1≤4611686018427387904∧
   F ((a1 s ws ids++[kp s x id]))∧K (dj d (.ref b (g+1) 0 (ws.length+1) false) N A) L (H' (a1 s ws ids++[kp s x id]))))):=by intro K;kernel_rfl):evSD P esc ops n (X.drop i0) A L H K:=by
 rw[ly X i0 a4,e]
 refine⟨rfl,rfl,rfl,Nat.le_refl _,?_,rfl,rfl,rfl,wu aL,aT.1,aT.2,?_,?_⟩
 ·intro row aK
  rw[List.mem_singleton.1 aK]
  exact⟨rfl,fun a a3=>List.all_eq_true.1 (show(kp s x id).all jk=true from rfl) a a3⟩
 ·rw[EP aL];exact cZ
 ·rw[EP aL];rw[List.length_append] at h;exact h
end
theorem aca {H:List Blk} {b j:Nat} {x y:Blk} (h:(H.set b x)[j]?=some y):(j=b∧y=x)∨(j≠b∧H[j]?=some y):=by
 rw[List.getElem?_set] at h
 split at h
 ·rename_i e;subst e
  split at h
  ·cases h;exact .inl ⟨rfl,rfl⟩
  ·cases h
 ·rename_i e;exact .inr ⟨fun h=>e h.symm,h⟩
theorem Lh [iX:cL] {cz E:Env} {H:List Blk} {L:List (Nat×List AV)} (g:Good cz E) (aS:SimH E H) (b1:SimL E L) {b m1 sz:Nat} {rows:List (List AV)} (hb:H[b]?=some ⟨m1,sz,rows⟩) (gr:iX.n≤b)
  (hk: ∀row∈rows,∀a∈row,jM a=true∧oe a=true) (g5:rows.length≤4611686018427387904):
  ∃E',E'.w=E.w∧Good cz E'∧SimH E' (H.set b ⟨m1+1,sz,[]⟩)∧SimL E' L∧E.gP E'∧E'.mL=E.mL∧ ∀v full,fx E (.ref b m1 0 rows.length full) v→bH E'.w E'.PA E'.PF (.bC (rows.map fun row=>row.map kD) false true) v:=by
 have kr:E.bF b=m1:=aS.fh b _ hb
 have qA:=(List.getElem?_eq_some_iff.1 hb).1
 let E':Env:={E with PA:=fun c=>E.PA c∨E.m b=some (some c),PF:=fun c=>E.PF c∨E.m b=some (some c),m:=fun j=>if j=b then none else E.m j,bF:=fun j=>if j=b then m1+1 else E.bF j}
 have hm: ∀{j:Nat} {x:Option Nat},E'.m j=some x→j≠b∧E.m j=some x:=fun{j x} h=>by
  have h:(if j=b then none else E.m j)=some x:=h
  split at h
  ·cases h
  ·rename_i e;exact⟨e,h⟩
 have hg: ∀{j:Nat},j≠b→E'.bF j=E.bF j:=fun{j} h=>if_neg h
 have hle:E.gP E':=⟨fun _ h=> .inl h,fun _ h=> .inl h,fun _ _=>rfl,fun _ _=>rfl,fun j=>by
   show E.bF j≤(if j=b then m1+1 else E.bF j)
   split
   ·rename_i e;subst e;omega
   ·exact Nat.le_refl _,fun j x hx qD=>by
   have qD:(if j=b then m1+1 else E.bF j)=E.bF j:=qD
   have cl:j≠b:=fun e=>by subst e;rw[if_pos rfl] at qD;omega
   exact⟨by show(if j=b then none else E.m j)=_;rw[if_neg cl];exact hx,rfl,rfl⟩,fun _ _ h=>h⟩
 have dx: ∀c,E.m b=some (some c)→cz.w.heap.size≤c:=fun c hc=>(g.jx b c hc).elim (fun h=>by rw[(g.zn b gr).1] at h;cases h) id
 have kt:=aS.gD
 refine⟨E',rfl,?_,?_,?_,hle,rfl,?_⟩
 ·exact{g with
   le:=g.le.trans hle
   jx:=fun j c h=>g.jx j c (hm h).2
   jR:=g.jR
   fM:=fun c hc=>hc.elim (g.fM c) fun h=> .inr (dx c h)
   fN:=fun c hc=>hc.elim (g.fN c) fun h=> .inr (dx c h)}
 ·exact{aS with
   heap:=fun j c h=>by
    obtain⟨cl,h⟩:=hm h
    obtain⟨blk,a_,ty,q1,dX,q2,q3,q4,cR,c6⟩:=aS.heap j c h
    refine⟨blk,a_,ty,by rw[List.getElem?_set,if_neg (fun e=>cl e.symm)];exact q1,dX,q2,q3,q4,cR,fun i k row a h1 h2=> ?_⟩
    obtain⟨u,hu,aK⟩:=c6 i k row a h1 h2
    exact⟨u,hu,aK.le hle.ca⟩
   fh:=fun j blk h=>by
    rcases aca h with⟨rfl,rfl⟩ | ⟨cl,h⟩
    ·exact if_pos rfl
    ·rw[hg cl];exact aS.fh j blk h
   hz:=fun j h=>by
    obtain⟨cl,h⟩:=hm h
    obtain⟨blk,q1,q2⟩:=aS.hz j h
    exact⟨blk,by rw[List.getElem?_set,if_neg (fun e=>cl e.symm)];exact q1,q2⟩
   fresh:=fun j h=>by
    rw[List.length_set] at h
    have:=aS.fresh j h
    have cl:j≠b:=by omega
    exact⟨by show(if j=b then none else E.m j)=none;rw[if_neg cl];exact this.1,by rw[hg cl];exact this.2⟩
   h0:=fun j k c h1 h2=>aS.h0 j k c (hm h1).2 (hm h2).2
   gU:=fun j t c h1 h2=>aS.gU j t c (hm h1).2 h2
   h3:=fun c hc ⟨j,aN⟩=>by
    obtain⟨cl,aN⟩:=hm aN
    rcases hc with hc | hc
    ·exact aS.h3 c hc ⟨j,aN⟩
    ·exact cl (aS.h0 j b c aN hc)
   iv:=fun c hc ⟨t,bq⟩=>by
    rcases hc with hc | hc
    ·exact aS.iv c hc ⟨t,bq⟩
    ·exact aS.gU b t c hc bq
   e3:=fun c hc=>hc.elim (fun h=> .inl (aS.e3 c h)) .inr
   fe:=fun c hc=>hc.elim (aS.fe c) fun h=>kt c ⟨b,h⟩
   gD:=fun c ⟨j,aN⟩=>kt c ⟨j,(hm aN).2⟩}
 ·intro t c bq
  obtain⟨cells,a_,ty,q1,q2,q3⟩:=b1 t c bq
  exact⟨cells,a_,ty,q1,q2,q3.mono fun _ _ k=>k.le hle.ca⟩
 ·intro v full hv
  rcases hv with⟨b0,_⟩ | ⟨fV,b0⟩
  ·omega
  ·rcases b0 with⟨_,_,my,A,rfl⟩ | ⟨c,cap,kN,rfl,oX,oo,qC⟩
   ·obtain rfl:rows=[]:=List.eq_nil_of_length_eq_zero my
    exact bH.bC (rows:=[]) (PB:=fun _=>False) (sz:=0) (vs:=fun _ _=>undef) (fun _ h=>h.elim) ⟨Nat.le_refl _,Nat.zero_le _⟩ (fun _=>rfl) (fun i row h=>by simp at h) (fun h=>by simp at h) (fun i j row a h=>by simp at h)
   ·obtain⟨blk,a_,ty,q1,dX,q2,q3,q4,cR,c6⟩:=aS.heap b c kN
    rw[hb] at q1
    cases q1
    have key:=bH.bC (w:=E.w) (PA:=E'.PA) (PF:=E'.PF) (PB:=E'.PF) (rows:=rows.map fun row=>row.map kD) (full:=false) (fresh:=true) (A:=some ⟨c,0,none⟩) (cap:=cap) (sz:=E.sz b) (vs:=fun i j=>(a_[i*E.sz b+j]?).getD undef)
     (fun c hc=>by simpa using hc) (by rw[List.length_map];exact⟨oX,g5⟩) (fun h=>by cases h) (fun i row' aK=> ?_) (fun lB=>⟨c,0,rfl,.inr kN,fun i j hi aN=> ?_⟩) (fun i j row' ij aK aN=> ?_)
    ·rw[List.length_map] at key
     show bH E.w E'.PA E'.PF _ (.slice (some ⟨c,0*E.sz b,none⟩) rows.length cap)
     rw[Nat.zero_mul];exact key
    ·rw[List.getElem?_map] at aK
     cases ak:rows[i]? with
     | none=>simp[ak] at aK
     | some row=>simp[ak] at aK;subst aK;rw[List.length_map];exact cR i row ak
    ·rw[List.length_map] at hi
     have aK:=List.getElem?_eq_getElem hi
     have aL:=cR i _ aK
     obtain⟨u,hu,_⟩:=c6 i j _ _ aK (List.getElem?_eq_getElem (by rw[aL];exact aN))
     rw[Nat.zero_add,cell_of q2 hu,hu];rfl
    ·rw[List.getElem?_map] at aK
     cases ak:rows[i]? with
     | none=>simp[ak] at aK
     | some row=>
      simp[ak] at aK;subst aK
      rw[List.getElem?_map] at aN
      cases kw:row[j]? with
      | none=>simp[kw] at aN
      | some a=>
       simp[kw] at aN;subst aN
       obtain⟨u,hu,g6⟩:=c6 i j row a ak kw
       obtain⟨da,ir⟩:=hk row (List.mem_of_getElem? ak) a (List.mem_of_getElem? kw)
       rw[hu]
       exact(SQ da ir (AG da g6)).mono (fun _ _=>rfl) (fun _ h=>h.elim) (fun c hc=> .inl hc) (fun _ h=>h)
theorem Weak.Wc [iX:cL] (i:Nat) {T:List AV} {L:List (Nat×List AV)} {H:List Blk} {b m1 sz n:Nat} {full:Bool} {rows:List (List AV)} (cu:T.getD i .undef= .ref b m1 0 n full) (aG:n=rows.length) (hb:H[b]?=some ⟨m1,sz,rows⟩) (gr:iX.n≤b)
  (hk: ∀row∈rows,∀a∈row,jM a=true∧oe a=true) (g5:rows.length≤4611686018427387904):Weak ⟨T,L,H⟩ ⟨T.set i (.bC (rows.map fun row=>row.map kD) false true),L,H.set b ⟨m1+1,sz,[]⟩⟩:=fun cz E tmps g s=>by
 subst aG
 obtain⟨E',hw,hg,h1,h2,hle,L9,hv⟩:=Lh g s.h s.l hb gr hk g5
 refine⟨E',hw,hg,h1,h2,fun t=> ?_,by simpa using s.size⟩
 show V3 E' ((T.set i _).getD t .undef) _
 rw[rQ]
 split
 ·rename_i ak
  obtain⟨rfl,_⟩:=ak
  have aT:V3 E (T.getD i .undef) (tmps.getD i undef):=s.iA i
  rw[cu] at aT
  exact hv _ full aT
 ·exact(s.iA t).le hle
theorem Weak.Wb [iX:cL] (t i:Nat) {T:List AV} {L:List (Nat×List AV)} {H:List Blk} {cells:List AV} {b m1 sz n:Nat} {full:Bool} {rows:List (List AV)} (hc:e0 L t=some cells) (cu:cells.getD i .undef= .ref b m1 0 n full) (aG:n=rows.length) (hb:H[b]?=some ⟨m1,sz,rows⟩) (gr:iX.n≤b)
  (hk: ∀row∈rows,∀a∈row,jM a=true∧oe a=true) (g5:rows.length≤4611686018427387904):Weak ⟨T,L,H⟩ ⟨T,lk L t (cells.set i (.bC (rows.map fun row=>row.map kD) false true)),H.set b ⟨m1+1,sz,[]⟩⟩:=fun cz E tmps g s=>by
 subst aG
 obtain⟨E',hw,hg,h1,h2,hle,L9,hv⟩:=Lh g s.h s.l hb gr hk g5
 refine⟨E',hw,hg,h1,fun u c hm=> ?_,fun t=>(s.iA t).le hle,s.size⟩
 rw[L9] at hm
 obtain⟨g2,a_,ty,q1,q2,q3⟩:=s.l u c hm
 show ∃DG a_ ty,e0 (lk L t _) u=some DG∧_
 rw[yx]
 by_cases hu:u=t
 ·subst hu
  rw[if_pos rfl]
  have zB:e0 L u=some g2:=q1
  rw[hc] at zB
  cases zB
  refine⟨_,a_,ty,by rw[hc];rfl,by rw[hw];exact q2,by simpa using q3.1,fun j x v hx kx=> ?_⟩
  rw[List.getElem?_set] at hx
  split at hx
  ·rename_i nD
   subst nD
   split at hx
   ·rename_i bf
    cases hx
    have LR:=List.getElem?_eq_getElem bf
    have he:cells.getD i .undef=cells[i]:=by rw[List.getD_eq_getElem?_getD,LR];rfl
    have k_:=q3.2 i _ v LR kx
    rw[←he,cu] at k_
    exact bH.v1 (E:=E'.ca) (hv v full k_)
   ·cases hx
  ·exact(q3.2 j x v hx kx).le hle.ca
 ·rw[if_neg hu]
  exact⟨g2,a_,ty,q1,by rw[hw];exact q2,q3.mono fun _ _ k=>k.le hle.ca⟩
def zJ (n:Nat):AV→Bool
 | .ref b _ _ _ _=>Nat.blt b n
 | .ptr b _ _ _=>Nat.blt b n
 | _=>true
def p5 (n:Nat):AV→Bool
 | .fn _ caps=>caps.all (zJ n)
 | a=>zJ n a
def xy (n:Nat):AV→Bool
 | .agg l=>l.all (p5 n)
 | a=>p5 n a
def xz (n:Nat):AV→Bool
 | .tup l=>l.all (xy n)
 | a=>xy n a
def Env.cut (E:Env) (n:Nat):Env:={E with m:=fun j=>if j<n then E.m j else none,bF:=fun j=>if j<n then E.bF j else 0}
section
variable {E:Env} {n:Nat}
theorem yl {j:Nat} (h:j<n):(E.cut n).m j=E.m j∧(E.cut n).bF j=E.bF j:=⟨if_pos h,if_pos h⟩
theorem fx.cut {a:AV} {v:Value} (h:zJ n a=true) (hv:fx E a v):fx (E.cut n) a v:=by
 cases a with
 | ref b g o m f=>
  have hb:b<n:=by rw[←Nat.blt_eq];exact h
  obtain⟨br,e2⟩:=yl (E:=E) hb
  have hv:(g<E.bF b∧_)∨(g=E.bF b∧_):=hv
  show(g<(E.cut n).bF b∧_)∨(g=(E.cut n).bF b∧_)
  rw[br,e2];exact hv
 | ptr b g r c=>
  have hb:b<n:=by rw[←Nat.blt_eq];exact h
  obtain⟨br,e2⟩:=yl (E:=E) hb
  have hv:(g<E.bF b∧_)∨(g=E.bF b∧_):=hv
  show(g<(E.cut n).bF b∧_)∨(g=(E.cut n).bF b∧_)
  rw[br,e2];exact hv
 | _=>exact hv
theorem cM.cut {a:AV} {v:Value} (h:p5 n a=true) (hv:cM E a v):cM (E.cut n) a v:=by
 by_cases hf: ∃f caps,a= .fn f caps
 ·obtain⟨f,caps,rfl⟩:=hf
  obtain⟨vs,e,aI⟩:=hv
  exact⟨vs,e,aI.1,fun i x y hx bm=>(aI.2 i x y hx bm).cut (List.all_eq_true.1 (show caps.all (zJ n)=true from h) x (List.mem_of_getElem? hx))⟩
 ·have aT:p5 n a=zJ n a:=by cases a<;>first | rfl | exact absurd ⟨_,_,rfl⟩ hf
  rw[rD fun f c e=>hf ⟨f,c,e⟩] at hv ⊢
  exact hv.cut (aT▸h)
theorem V2.cut {a:AV} {v:Value} (h:xy n a=true) (hv:V2 E a v):V2 (E.cut n) a v:=by
 by_cases hf: ∃l,a= .agg l
 ·obtain⟨l,rfl⟩:=hf
  obtain⟨vs,e,aI⟩:=hv
  exact⟨vs,e,aI.1,fun i x y hx bm=>(aI.2 i x y hx bm).cut (List.all_eq_true.1 (show l.all (p5 n)=true from h) x (List.mem_of_getElem? hx))⟩
 ·have aT:xy n a=p5 n a:=by cases a<;>first | rfl | exact absurd ⟨_,rfl⟩ hf
  rw[pr fun l e=>hf ⟨l,e⟩] at hv ⊢
  exact hv.cut (aT▸h)
theorem V3.cut {a:AV} {v:Value} (h:xz n a=true) (hv:V3 E a v):V3 (E.cut n) a v:=by
 by_cases hf: ∃l,a= .tup l
 ·obtain⟨l,rfl⟩:=hf
  obtain⟨vs,e,aI⟩:=hv
  exact⟨vs,e,aI.1,fun i x y hx bm=>(aI.2 i x y hx bm).cut (List.all_eq_true.1 (show l.all (xy n)=true from h) x (List.mem_of_getElem? hx))⟩
 ·have aT:xz n a=xy n a:=by cases a<;>first | rfl | exact absurd ⟨_,rfl⟩ hf
  rw[oL fun l e=>hf ⟨l,e⟩] at hv ⊢
  exact hv.cut (aT▸h)
end
theorem Weak.cut [iX:cL] (n:Nat) {T:List AV} {L:List (Nat×List AV)} {H:List Blk} (gr:iX.n≤n) (cu: ∀t,xz n (T.getD t .undef)=true) (b1: ∀t cells,e0 L t=some cells→cells.all (p5 n)=true) (aS: ∀(b:Nat) (blk:Blk),b<n→H[b]?=some blk→ ∀row∈blk.rows,row.all (p5 n)=true):
  Weak ⟨T,L,H⟩ ⟨T,L,H.take n⟩:=fun cz E tmps g s=>by
 have hB:SimH E H:=s.h
 have hm: ∀{j:Nat} {x:Option Nat},(E.cut n).m j=some x→j<n∧E.m j=some x:=fun{j x} h=>by
  have h:(if j<n then E.m j else none)=some x:=h
  split at h
  ·rename_i e;exact⟨e,h⟩
  ·cases h
 have get: ∀{j:Nat},j<n→(H.take n)[j]?=H[j]?:=fun{j} h=>by rw[List.getElem?_take,if_pos h]
 refine⟨E.cut n,rfl,?_,?_,?_,fun t=>(s.iA t).cut (cu t),s.size⟩
 ·exact{g with
   le:=⟨g.le.fM,g.le.fN,g.le.tG,g.le.wf,fun b=>by
     show cz.bF b≤(if b<n then E.bF b else 0)
     split
     ·exact g.le.bF b
     ·rw[(g.zn b (by omega)).2];exact Nat.le_refl _,fun b x hx qD=>by
     have hb:b<n:=by
      rcases Nat.lt_or_ge b n with h | h
      ·exact h
      ·rw[(g.zn b (by omega)).1] at hx;cases hx
     obtain⟨br,e2⟩:=yl (E:=E) hb
     rw[e2] at qD
     rw[br]
     exact g.le.m b x hx qD,g.le.mL⟩
   jx:=fun b c h=>g.jx b c (hm h).2
   jR:=g.jR}
 ·exact{hB with
   heap:=fun j c h=>by
    obtain⟨aN,h⟩:=hm h
    obtain⟨blk,a_,ty,q1,dX,q2,q3,q4,cR,c6⟩:=hB.heap j c h
    refine⟨blk,a_,ty,by rw[get aN];exact q1,dX,q2,q3,q4,cR,fun i k row a h1 h2=> ?_⟩
    obtain⟨u,hu,aK⟩:=c6 i k row a h1 h2
    exact⟨u,hu,aK.cut (List.all_eq_true.1 (aS j blk aN q1 row (List.mem_of_getElem? h1)) a (List.mem_of_getElem? h2))⟩
   fh:=fun j blk h=>by
    have aN:j<n:=by
     rcases Nat.lt_or_ge j n with q | q
     ·exact q
     ·rw[List.getElem?_take,if_neg (by omega)] at h;cases h
    rw[(yl (E:=E) aN).2]
    rw[get aN] at h;exact hB.fh j blk h
   hz:=fun j h=>by
    obtain⟨aN,h⟩:=hm h
    obtain⟨blk,q1,q2⟩:=hB.hz j h
    exact⟨blk,by rw[get aN];exact q1,q2⟩
   fresh:=fun j h=>by
    rw[List.length_take] at h
    rcases Nat.lt_or_ge j n with q | q
    ·obtain⟨br,e2⟩:=yl (E:=E) q
     rw[br,e2];exact hB.fresh j (by omega)
    ·exact⟨if_neg (by omega),if_neg (by omega)⟩
   h0:=fun j k c h1 h2=>hB.h0 j k c (hm h1).2 (hm h2).2
   gU:=fun j t c h1 h2=>hB.gU j t c (hm h1).2 h2
   h3:=fun c hc ⟨j,aN⟩=>hB.h3 c hc ⟨j,(hm aN).2⟩
   gD:=fun c ⟨j,aN⟩=>hB.gD c ⟨j,(hm aN).2⟩}
 ·intro t c bq
  obtain⟨cells,a_,ty,q1,q2,q3⟩:=s.l t c bq
  exact⟨cells,a_,ty,q1,q2,q3.1,fun i a u hx hu=>(q3.2 i a u hx hu).cut (List.all_eq_true.1 (b1 t cells q1) a (List.mem_of_getElem? hx))⟩
end Go.Proofs.Ytglpfccgmfhkdaa.Fw
