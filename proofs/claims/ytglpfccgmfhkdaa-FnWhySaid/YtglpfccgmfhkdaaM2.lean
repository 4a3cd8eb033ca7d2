/- The framework, part OP: a call that is handed one struct in the memory (or a variable of the caller's) to write into, beside values that stay. -/
import Derived.Test.YtglpfccgmfhkdaaM1
set_option linter.unusedVariables false
namespace Go.Proofs.Ytglpfccgmfhkdaa.Fw
open Go
def uB:AV→Bool
 | .bz _ full fr=> !full&& !fr
 | a=>jv a
theorem ZB {a:AV} (h:uB a=true):jv a=true∧kq a=a:=by
 cases a with
 | bz rows full fr=>
  refine⟨rfl,?_⟩
  cases full<;>cases fr<;>first | rfl | cases h
 | _=>first | exact⟨h,rfl⟩
def iJ (P:Program) (f:FuncId) (g:Nat) (args:List AV) (a7 dB:List AV) (t:AV):Prop:=
 dF P f args [⟨g,a7.length,[a7]⟩] fun r fa=> ∃B,fa=⟨g,a7.length,[dB]⟩::B∧iy (⟨g+1,a7.length,[dB]⟩::B) r t
def tB (p q a J:AV):Prop:=(a=p∧J=q)∨dc [] [] a J
theorem P8 {E:Env} (aG: ∀c,E.PF c→E.PA c) {a b:AV} (h:fZ [] [] a b): ∀{v:Value},cI E a v→bF E.w E.PA (fun _=>False) b v:=by
 induction h with
 | undef a=>intro v _;exact .undef v
 | int k n=>intro v hv;have hv:bF E.w E.PA E.PF (.int k n) v:=hv;cases hv;exact .int _ _
 | bool k=>intro v hv;have hv:bF E.w E.PA E.PF (.bool k) v:=hv;cases hv;exact .bool _
 | str k=>intro v hv;have hv:bF E.w E.PA E.PF (.str k) v:=hv;cases hv;exact .str _
 | gd=>intro v hv;have hv:bF E.w E.PA E.PF .gd v:=hv;cases hv;exact .gd
 | gx=>intro v hv;have hv:bF E.w E.PA E.PF .gx v:=hv;cases hv;exact .gx
 | bz rows full fr eB hw=>
  intro v hv
  have hv:bF E.w E.PA E.PF (.bz rows full fr) v:=hv
  cases hv with
  | bz gj gO hn cV fh d_=>
   exact .bz (fun c hc=>by
    have:=gj c hc
    simp only[Bool.false_eq_true,if_false]
    split at this
    ·exact aG c this
    ·exact this) gO (fun h=>hn (hw h)) cV fh d_
 | dv cells c=>
  intro v hv
  have hv:bF E.w E.PA E.PF (.dv cells c) v:=hv
  cases hv with
  | dv hc fh d_=>exact .dv hc fh d_
 | fF hg=>cases hg
 | ptr hb=>cases hb
 | ref _ hb=>cases hb
 | @fn f caps yb aL aJ bR=>
  intro v hv
  obtain⟨vs,rfl,aj⟩:=(show ∃vs:List Value,v= .func (.func f) #[] vs.toArray∧aE (ft E) caps vs from hv)
  exact .fn (aL▸aj.1) fun i b u hb hu=>by
   have bc:i<caps.length:=by have:=(List.getElem?_eq_some_iff.1 hb).1;omega
   exact bR i _ b (List.getElem?_eq_getElem bc) hb (C8 (aj.2 i _ u (List.getElem?_eq_getElem bc) hu))
theorem acw {E E1:Env} (aG: ∀c,E.PF c→E.PA c) (hw:E1.w=E.w) (yt:E1.PA=E.PA) {a b:AV} (h:dc [] [] a b) {v:Value} (hv:V2 E a v):V2 E1 b v:=by
 have up: ∀{b:AV} {v:Value},bF E.w E.PA (fun _=>False) b v→cI E1 b v:=fun h=>bF.v1 (E:=E1) (h.mono (fun _ _=>by rw[hw]) (fun _ h=>h.elim) (fun c hc=>by rw[yt];exact hc) (fun _ h=>h.elim))
 rcases h with⟨l,fp,rfl,rfl,aj⟩ | h
 ·obtain⟨vs,rfl,aJ⟩:=hv
  refine⟨vs,rfl,aj.1▸aJ.1,fun i x u hx hu=> ?_⟩
  have bc:i<l.length:=by have:=(List.getElem?_eq_some_iff.1 hx).1;have:=aj.1;omega
  have aL:=List.getElem?_eq_getElem bc
  exact up (P8 aG (aj.2 i _ x aL hx) (aJ.2 i _ u aL hu))
 ·by_cases hf: ∃l,a= .agg l
  ·obtain⟨l,rfl⟩:=hf
   cases h with
   | undef=>exact bF.undef v
  ·rw[pd fun l e=>hf ⟨l,e⟩] at hv
   exact p4 (up (P8 aG h hv))
def Env.one (E:Env) (bl g sz cp:Nat):Env:=
 {w:=E.w,PA:=E.PA,PF:=fun _=>False,m:=fun j=>if j=0 then some (some bl) else none,bC:=fun j=>if j=0 then g else 0
  sz:=fun j=>if j=0 then sz else 0,cp:=fun j=>if j=0 then cp else 0,mL:=fun _=>none}
theorem uP {E:Env} {bl g sz cp j c:Nat} (h:(E.one bl g sz cp).m j=some (some c)):j=0∧c=bl:=by
 have h:(if j=0 then some (some bl) else none)=some (some c):=h
 split at h
 ·rename_i e;cases h;exact⟨e,rfl⟩
 ·cases h
theorem aau {E:Env} {H:List Blk} (aR:SimH E H) {bl g cp:Nat} {a7:List AV} {cells:Array Value} {ty:TypeId} (hE:bl<E.w.heap.size) (yt: ¬E.PA bl) (hw:E.w.heap[bl]?=some (.cells cells ty (0,0))) (cV:cells.size=cp*a7.length) (h1:1≤cp)
  (hk:a7.all uB=true) (aJ: ∀(j:Nat) (a:AV),a7[j]?=some a→ ∃u,cells[j]?=some u∧cI E a u):SimH (E.one bl g a7.length cp) [⟨g,a7.length,[a7]⟩] where
 heap:=fun b c hb=>by
  obtain⟨rfl,rfl⟩:=uP hb
  have eV: ∀{i:Nat} {row:List AV},([a7]:List (List AV))[i]?=some row→i=0∧row=a7:=fun{i row} h=>by
   cases i with
   | zero=>cases h;exact⟨rfl,rfl⟩
   | succ i=>cases h
  refine⟨⟨g,a7.length,[a7]⟩,cells,ty,rfl,rfl,hw,cV,h1,fun i row h=> ?_,fun i j row a h aM=> ?_⟩
  ·rw[(eV h).2];rfl
  ·obtain⟨rfl,rfl⟩:=eV h
   obtain⟨u,hu,hv⟩:=aJ j a aM
   refine⟨u,by rw[Nat.zero_mul,Nat.zero_add];exact hu,?_⟩
   have EY:=ZB (List.all_eq_true.1 hk a (List.mem_of_getElem? aM))
   have:=Jd EY.1 (Ax EY.1 hv) (fun c hc=>hc) aR.eW
   rw[EY.2] at this
   exact bF.v1 (E:=(E.one c g row.length cp).b6) this
 fb:=fun b blk hb=>by
  cases b with
  | zero=>cases hb;rfl
  | succ b=>cases hb
 hp:=fun b hb=>by
  have hb:(if b=0 then some (some bl) else none)=some none:=hb
  split at hb<;>cases hb
 fresh:=fun b hb=>by
  have hb:1≤b:=hb
  exact⟨if_neg (by omega),if_neg (by omega)⟩
 hV:=fun b cl c h1 h2=>by rw[(uP h1).1,(uP h2).1]
 jC:=fun t jJ c h=>by cases h
 gR:=fun b t c _ h=>by cases h
 hW:=fun c hc ⟨b,hb⟩=>by rw[(uP hb).2] at hc;exact yt hc
 im:=fun c _ ⟨t,bp⟩=>by cases bp
 eW:=fun c hc=>hc.elim
 e9:=aR.e9
 gw:=fun c ⟨b,hb⟩=>by rw[(uP hb).2];exact hE
 g4:=fun c ⟨t,bp⟩=>by cases bp
structure tA (E:Env) (bl k n:Nat) (dB:List AV) (t:AV) (v:Value) (E':Env):Prop where
 m:E'.m=E.m
 mL:E'.mL=E.mL
 bC:E'.bC=E.bC
 sz:E'.sz=E.sz
 cp:E'.cp=E.cp
 fI: ∀c,E.PA c→E'.PA c
 fJ: ∀c,E.PF c→E'.PF c
 eW: ∀c,E'.PF c→E'.PA c
 Cc: ∀c,E'.PA c→E.PA c∨(E.w.heap.size≤c∧c<E'.w.heap.size)
 aaF: ∀c,E'.PF c→E.PF c∨E.w.heap.size≤c
 os:E'.w.os=E.w.os
 tape:E'.w.tape=E.w.tape
 output:E'.w.output=E.w.output
 size:E.w.heap.size≤E'.w.heap.size
 fe: ∀c,c<E.w.heap.size→c≠bl→E'.w.heap[c]?=E.w.heap[c]?
 new: ∃cells ty,E'.w.heap[bl]?=some (.cells cells ty (0,0))∧cells.size=k∧dB.length=n∧ ∀(j:Nat) (a:AV),dB[j]?=some a→ ∃u,cells[j]?=some u∧bF E'.w E'.PA E'.PF a u
 m8:V3 E' t v
theorem acy {E1 E':Env} {H:List Blk} (hs:SimH E1 H) (hw:E'.w=E1.w) (hu: ∀c,E1.PF c∨E1.gQ c→E'.PA c∧E'.PF c) {a b:AV} {u:Value} (h:iy H a b) (hv:V3 E1 a u):V3 E' b u:=by
 have fq: ∀{a b:AV} {u:Value},gD H a b→cI E1 a u→cI E' b u:=fun a4 np=>bF.v1 (E:=E') ((P9 hs a4 np).mono (fun _ _=>by rw[hw]) (fun _ _=>by rw[hw]) (fun c hc=>(hu c hc).1) (fun c hc=>(hu c hc).2))
 have fV: ∀{a b:AV} {u:Value},so H a b→V2 E1 a u→V2 E' b u:=by
  rintro a b u (⟨l,fp,rfl,rfl,aG⟩ | h) hu
  ·obtain⟨kr,rfl,aj⟩:=hu
   refine⟨kr,rfl,aG.1▸aj.1,fun i x y hx br=> ?_⟩
   have bc:i<l.length:=by have:=(List.getElem?_eq_some_iff.1 hx).1;have:=aG.1;omega
   have aL:=List.getElem?_eq_getElem bc
   exact fq (aG.2 i _ x aL hx) (aj.2 i _ y aL br)
  ·have:cI E1 a u:=by cases h<;>exact hu
   exact p4 (fq h this)
 rcases h with⟨l,fp,rfl,rfl,aG⟩ | h
 ·obtain⟨kr,rfl,aj⟩:=hv
  refine⟨kr,rfl,aG.1▸aj.1,fun i x y hx br=> ?_⟩
  have bc:i<l.length:=by have:=(List.getElem?_eq_some_iff.1 hx).1;have:=aG.1;omega
  have aL:=List.getElem?_eq_getElem bc
  exact fV (aG.2 i _ x aL hx) (aj.2 i _ y aL br)
 ·have:V2 E1 a u:=by
   rcases h with⟨l,fp,rfl,rfl,aG⟩ | h
   ·exact hv
   ·cases h<;>exact hv
  exact p5 (fV h this)
theorem J4 {P:Program} {f:FuncId} {vs:List Value} {E:Env} {H:List Blk} {args eu a7 dB:List AV} {p t:AV} {bl g cp:Nat} {cells:Array Value} {ty:TypeId} (aR:SimH E H) (hE:bl<E.w.heap.size) (yt: ¬E.PA bl)
  (hw:E.w.heap[bl]?=some (.cells cells ty (0,0))) (cV:cells.size=cp*a7.length) (h1:1≤cp) (hk:a7.all uB=true) (aJ: ∀(j:Nat) (a:AV),a7[j]?=some a→ ∃u,cells[j]?=some u∧cI E a u)
  (a4:aE (V2 E) args vs) (aG: ∀v,V2 E p v→v= .pointer (some ⟨bl,0,none⟩)) (hs:aE (tB p (.ptr 0 g 0 0)) args eu) (jz:dB.all jv=true) (h:iJ P f g eu a7 dB t):
  Calls P f vs.toArray E.w fun e w'=> ∃v E',e= .returned v∧E'.w=w'∧tA E bl (cp*a7.length) a7.length dB t v E':=by
 have tX:aE (V2 (E.one bl g a7.length cp)) eu vs:=⟨hs.1▸a4.1,fun i x u hx hu=>by
  have bc:i<args.length:=by have:=(List.getElem?_eq_some_iff.1 hx).1;have:=hs.1;omega
  have aL:=List.getElem?_eq_getElem bc
  rcases hs.2 i _ x aL hx with⟨bx,rfl⟩ | h
  ·have hv:=a4.2 i _ u aL hu
   rw[bx] at hv
   rw[aG u hv]
   exact .inr ⟨rfl,bl,rfl,by rw[Nat.zero_mul]⟩
  ·exact acw (E1:=E.one bl g a7.length cp) aR.eW rfl rfl h (a4.2 i _ u aL hu)⟩
 refine(h.2 (E.one bl g a7.length cp) vs (fun _=>rfl) (aau aR hE yt hw cV h1 hk aJ) tX).mono ?_
 rintro e w' ⟨r,v,fa,E1,rfl,⟨B,rfl,Bw⟩,rfl,aF,fH,hv,bj⟩
 have hg:E1.bC 0=g:=fH.fb 0 _ rfl
 obtain⟨hm,aN,hc⟩:=bj.le.m 0 (some bl) rfl hg
 have aN:E1.sz 0=a7.length:=aN
 have hc:E1.cp 0=cp:=hc
 obtain⟨blk,DD,ty2,q1,dU,q2,q3,q4,cL,cY⟩:=fH.heap 0 bl hm
 cases q1
 have wE: ∀c,E1.PF c∨(∃j,j≠0∧E1.m j=some (some c))→E.w.heap.size≤c∧c<E1.w.heap.size:=by
  rintro c (hc | ⟨j,aM,Bl⟩)
  ·exact⟨(bj.fJ c hc).elim (fun h=>h.elim) id,fH.e9 c (fH.eW c hc)⟩
  ·refine⟨(bj.qD c ⟨j,Bl⟩).elim (fun⟨b,hb⟩=> ?_) id,fH.gw c ⟨j,Bl⟩⟩
   rw[(uP hb).2] at Bl
   exact absurd (fH.hV j 0 bl Bl hm) aM
 have oM: ∀c,c<E.w.heap.size→c≠bl→E1.w.heap[c]?=E.w.heap[c]?:=fun c hc cm=>bj.fe c hc (fun⟨b,hb⟩=>cm (uP hb).2) (fun⟨t,bp⟩=>by cases bp)
 have Xn: ∀c,E1.PA c→E.PA c∨(E.w.heap.size≤c∧c<E1.w.heap.size):=fun c hc=>(bj.fI c hc).elim .inl fun h=> .inr ⟨h,fH.e9 c hc⟩
 let E':Env:={E with w:=E1.w,PA:=fun c=>E.PA c∨E1.PA c∨(E1.PF c∨ ∃j,j≠0∧E1.m j=some (some c)),PF:=fun c=>E.PF c∨(E1.PF c∨ ∃j,j≠0∧E1.m j=some (some c))}
 let Ac:Env:={E1 with m:=fun j=>if j=0 then none else E1.m j,bC:=fun j=>if j=0 then g+1 else E1.bC j}
 have bg: ∀{j:Nat} {x:Option Nat},Ac.m j=some x→j≠0∧E1.m j=some x:=fun{j x} h=>by
  have h:(if j=0 then none else E1.m j)=some x:=h
  split at h
  ·cases h
  ·rename_i e;exact⟨e,h⟩
 have yE: ∀{j:Nat},j≠0→Ac.bC j=E1.bC j:=fun{j} h=>if_neg h
 have hle:E1.gM Ac:=⟨fun _ h=>h,fun _ h=>h,fun _ _=>rfl,fun _ _=>rfl,fun b=>by
   by_cases e:b=0
   ·subst e;show E1.bC 0≤(if 0=0 then g+1 else E1.bC 0);rw[if_pos rfl,hg];omega
   ·rw[yE e];exact Nat.le_refl _,fun b x hx qs=>by
   by_cases e:b=0
   ·subst e
    have qs:(if 0=0 then g+1 else E1.bC 0)=E1.bC 0:=qs
    rw[if_pos rfl,hg] at qs;omega
   ·exact⟨by show(if b=0 then none else E1.m b)=_;rw[if_neg e];exact hx,rfl,rfl⟩,fun _ _ h=>h⟩
 have pt: ∀{j:Nat} (x y:Blk),j≠0→(x::B)[j]?=(y::B)[j]?:=fun{j} x y aM=>by
  cases j with
  | zero=>exact absurd rfl aM
  | succ j=>rfl
 have Xz:SimH Ac (⟨g+1,a7.length,[dB]⟩::B):=
  {heap:=fun b c hb=>by
    obtain⟨rH,hb⟩:=bg hb
    obtain⟨blk,vQ,ty,fq,m4,fV,fC,u2,aa8,aa9⟩:=fH.heap b c hb
    refine⟨blk,vQ,ty,by rw[pt _ ⟨g,a7.length,[dB]⟩ rH];exact fq,m4,fV,fC,u2,aa8,fun i j row a h1 h2=> ?_⟩
    obtain⟨u,hu,g2⟩:=aa9 i j row a h1 h2
    exact⟨u,hu,g2.le hle.b6⟩
   fb:=fun b blk hb=>by
    by_cases e:b=0
    ·subst e;cases hb;rfl
    ·rw[yE e];rw[pt _ ⟨g,a7.length,[dB]⟩ e] at hb;exact fH.fb b blk hb
   hp:=fun b hb=>by
    obtain⟨rH,hb⟩:=bg hb
    obtain⟨blk,fq,fV⟩:=fH.hp b hb
    exact⟨blk,by rw[pt _ ⟨g,a7.length,[dB]⟩ rH];exact fq,fV⟩
   fresh:=fun b hb=>by
    have hb:B.length+1≤b:=hb
    have:=fH.fresh b hb
    exact⟨by show(if b=0 then none else E1.m b)=none;rw[if_neg (by omega)];exact this.1,by rw[yE (by omega)];exact this.2⟩
   hV:=fun b cl c h1 h2=>fH.hV b cl c (bg h1).2 (bg h2).2
   jC:=fH.jC
   gR:=fun b t c h1 h2=>fH.gR b t c (bg h1).2 h2
   hW:=fun c hc ⟨b,hb⟩=>fH.hW c hc ⟨b,(bg hb).2⟩
   im:=fH.im
   eW:=fH.eW
   e9:=fH.e9
   gw:=fun c ⟨b,hb⟩=>fH.gw c ⟨b,(bg hb).2⟩
   g4:=fH.g4}
 refine⟨v,E',rfl,rfl,rfl,rfl,rfl,rfl,rfl,fun c hc=> .inl hc,fun c hc=> .inl hc,fun c hc=>hc.elim (fun h=> .inl (aR.eW c h)) (fun h=> .inr (.inr h)),fun c hc=> ?_,fun c hc=>hc.elim .inl (fun h=> .inr (wE c h).1),
  bj.os,bj.tape,bj.output,bj.size,oM,⟨DD,ty2,q2,by rw[q3,aN,hc],?_,fun j a aM=> ?_⟩,?_⟩
 ·rcases hc with h | h | h
  ·exact .inl h
  ·exact Xn c h
  ·exact .inr (wE c h)
 ·have:=cL 0 dB rfl
  rw[aN] at this;exact this
 ·obtain⟨u,hu,g2⟩:=cY 0 j dB a rfl aM
  refine⟨u,by rw[Nat.zero_mul,Nat.zero_add] at hu;exact hu,?_⟩
  have hb:=List.all_eq_true.1 jz a (List.mem_of_getElem? aM)
  exact(Ax hb g2).mono (fun _ _=>rfl) (fun _ _=>rfl) (fun c hc=> .inr (.inl hc)) (fun c hc=> .inr (.inl hc))
 ·refine acy (E':=E') Xz rfl (fun c hc=> ?_) Bw (hv.le hle)
  have:E1.PF c∨ ∃j,j≠0∧E1.m j=some (some c):=hc.elim .inl fun⟨j,aM⟩=> .inr ⟨j,bg aM⟩
  exact⟨.inr (.inr this),.inr this⟩
section
variable {E E':Env} {H:List Blk} {L:List (Nat×List AV)} {bl k n:Nat} {dB:List AV} {t:AV} {v:Value}
theorem tA.step (A:tA E bl k n dB t v E') (aR:SimH E H) (hE:E.gQ bl∨E.kG bl):Step E E':=
 {le:=⟨A.fI,A.fJ,fun c hc=>A.fe c (aR.e9 c hc) (fun e=>by subst e;exact hE.elim (aR.hW c hc) (aR.im c hc)),fun c hc=>A.fe c (aR.e9 c (aR.eW c hc)) (fun e=>by subst e;exact hE.elim (aR.hW c (aR.eW c hc)) (aR.im c (aR.eW c hc))),
   fun b=>by rw[A.bC];exact Nat.le_refl _,fun b x hx _=>by rw[A.m,A.sz,A.cp];exact⟨hx,rfl,rfl⟩,fun t c h=>by rw[A.mL];exact h⟩
  os:=A.os,tape:=A.tape,output:=A.output,size:=A.size
  fe:=fun c hc h1 h2=>A.fe c hc (fun e=>by subst e;exact hE.elim h1 h2)
  jj:=fun b c hb=> .inl (by rw[←A.m];exact hb)
  jB:=fun c ⟨t,bp⟩=> .inl ⟨t,by rw[←A.mL];exact bp⟩
  fI:=fun c hc=>(A.Cc c hc).elim .inl fun h=> .inr h.1
  fJ:=A.aaF}
theorem tA.simH (A:tA E bl k n dB t v E') (aR:SimH E H) (hE:E.gQ bl∨E.kG bl) {H':List Blk} (hlen:H'.length=H.length) (hg: ∀(b:Nat) (x:Blk),H'[b]?=some x→ ∃y,H[b]?=some y∧x.bC=y.bC) (hs: ∀(b:Nat) (y:Blk),H[b]?=some y→ ∃x,H'[b]?=some x∧x.sz=y.sz)
  (hb: ∀b c,E.m b=some (some c)→(c≠bl∧H'[b]?=H[b]?)∨ ∃blk a7 ty,H'[b]?=some blk∧E.sz b=blk.sz∧E'.w.heap[c]?=some (.cells a7 ty (0,0))∧a7.size=E.cp b*E.sz b∧blk.rows.length≤E.cp b∧vC E' (E.sz b) blk.rows a7):SimH E' H':=by
 have bj:=A.step aR hE
 have pF: ∀c,E'.gQ c→E.gQ c:=fun c ⟨b,hb⟩=>⟨b,by rw[←A.m];exact hb⟩
 have Fv: ∀c,E'.kG c→E.kG c:=fun c ⟨b,hb⟩=>⟨b,by rw[←A.mL];exact hb⟩
 have kh:=aR.gw
 have ki:=aR.g4
 exact{
  heap:=fun b c h=>by
   rw[A.m] at h
   rw[A.sz,A.cp]
   rcases hb b c h with⟨cm,he⟩ | h
   ·obtain⟨blk,a7,ty,q1,dU,q2,q3,q4,cL,cY⟩:=aR.heap b c h
    refine⟨blk,a7,ty,by rw[he];exact q1,dU,by rw[A.fe c (kh c ⟨b,h⟩) cm];exact q2,q3,q4,cL,fun i j row a h1 h2=> ?_⟩
    obtain⟨u,hu,g2⟩:=cY i j row a h1 h2
    exact⟨u,hu,g2.le bj.le.b6⟩
   ·exact h
  fb:=fun b blk h=>by
   rw[A.bC]
   obtain⟨y,h1,h2⟩:=hg b blk h
   rw[h2];exact aR.fb b y h1
  hp:=fun b h=>by
   rw[A.m] at h
   obtain⟨y,h1,h2⟩:=aR.hp b h
   obtain⟨x,aO,bb⟩:=hs b y h1
   exact⟨x,aO,by rw[A.sz,bb];exact h2⟩
  fresh:=fun b h=>by rw[A.m,A.bC];exact aR.fresh b (by rw[←hlen];exact h)
  hV:=fun b cl c h1 h2=>by rw[A.m] at h1 h2;exact aR.hV b cl c h1 h2
  jC:=fun t jJ c h1 h2=>by rw[A.mL] at h1 h2;exact aR.jC t jJ c h1 h2
  gR:=fun b t c h1 h2=>by rw[A.m] at h1;rw[A.mL] at h2;exact aR.gR b t c h1 h2
  hW:=fun c hc hi=>(A.Cc c hc).elim (fun h=>aR.hW c h (pF c hi)) (fun h=>absurd (kh c (pF c hi)) (by omega))
  im:=fun c hc hi=>(A.Cc c hc).elim (fun h=>aR.im c h (Fv c hi)) (fun h=>absurd (ki c (Fv c hi)) (by omega))
  eW:=A.eW
  e9:=fun c hc=>(A.Cc c hc).elim (fun h=>Nat.lt_of_lt_of_le (aR.e9 c h) A.size) (fun h=>h.2)
  gw:=fun c hc=>Nat.lt_of_lt_of_le (kh c (pF c hc)) A.size
  g4:=fun c hc=>Nat.lt_of_lt_of_le (ki c (Fv c hc)) A.size}
theorem tA.row (A:tA E bl k n dB t v E') (hk:dB.all jv=true) {cells:Array Value} {ty:TypeId} (hw:E'.w.heap[bl]?=some (.cells cells ty (0,0))):dB.length=n∧cells.size=k∧ ∀(j:Nat) (a:AV),dB[j]?=some a→ ∃u,cells[j]?=some u∧cI E'.b6 a u:=by
 obtain⟨lP,ty2,q1,q2,q3,q4⟩:=A.new
 rw[hw] at q1
 cases q1
 refine⟨q3,q2,fun j a aM=> ?_⟩
 obtain⟨u,hu,aJ⟩:=q4 j a aM
 exact⟨u,hu,bF.v1 (E:=E'.b6) aJ⟩
end
theorem TT {P:Program} {f:FuncId} {vs:List Value} {E:Env} {H:List Blk} {L:List (Nat×List AV)} {args eu a7 dB:List AV} {t:AV} {b g:Nat} (aR:SimH E H) (b0:SimL E L) (hb:H[b]?=some ⟨g,a7.length,[a7]⟩) (hk:a7.all uB=true) (jz:dB.all jv=true)
  (a4:aE (V2 E) args vs) (hm:AV.ptr b g 0 0∈args) (hs:aE (tB (.ptr b g 0 0) (.ptr 0 g 0 0)) args eu) (h:iJ P f g eu a7 dB t):
  Calls P f vs.toArray E.w fun e w'=> ∃v E',e= .returned v∧E'.w=w'∧Step E E'∧SimH E' (H.set b ⟨g,a7.length,[dB]⟩)∧SimL E' L∧V3 E' t v∧E'.mL=E.mL:=by
 have kf:=aR.fb b _ hb
 have kZ: ∀v,V2 E (.ptr b g 0 0) v→ ∃bl,E.m b=some (some bl)∧v= .pointer (some ⟨bl,0,none⟩):=fun v hv=>by
  obtain⟨bl,hm,rfl⟩:=V3.Ch (E:=E) (v:=v) (show V3 E (.ptr b g 0 0) v from hv) kf
  exact⟨bl,hm,by rw[Nat.zero_mul]⟩
 obtain⟨i,hi,he⟩:=List.mem_iff_getElem.1 hm
 have ga:i<vs.length:=a4.1▸hi
 have hS:=a4.2 i _ _ (List.getElem?_eq_getElem hi) (List.getElem?_eq_getElem ga)
 rw[he] at hS
 obtain⟨bl,kC,_⟩:=kZ _ hS
 obtain⟨blk,cells,ty,q1,dU,q2,q3,q4,cL⟩:=aR.heap b bl kC
 rw[hb] at q1
 cases q1
 have dU:E.sz b=a7.length:=dU
 have hE:bl<E.w.heap.size:=aR.gw bl ⟨b,kC⟩
 refine(J4 (bl:=bl) (cp:=E.cp b) aR hE (fun h=>aR.hW bl h ⟨b,kC⟩) q2 (by rw[q3,dU]) q4 hk (fun j a aM=> ?_) a4 (fun v hv=> ?_) hs jz h).mono ?_
 ·obtain⟨u,hu,g2⟩:=cL.2 0 j a7 a rfl aM
  exact⟨u,by rw[Nat.zero_mul,Nat.zero_add] at hu;exact hu,g2.up⟩
 ·obtain⟨Tw,h1,rfl⟩:=kZ v hv
  rw[kC] at h1;cases h1;rfl
 rintro e w' ⟨v,E',rfl,rfl,A⟩
 have rN:E.gQ bl∨E.kG bl:= .inl ⟨b,kC⟩
 have bj:=A.step aR rN
 refine⟨v,E',rfl,rfl,bj,A.simH aR rN (by rw[List.length_set]) (fun j x hx=> ?_) (fun j y br=> ?_) (fun j c aM=> ?_),fun u c hu=> ?_,A.m8,A.mL⟩
 ·rw[List.getElem?_set] at hx
  split at hx
  ·rename_i e;subst e
   split at hx
   ·cases hx;exact⟨_,hb,rfl⟩
   ·cases hx
  ·exact⟨x,hx,rfl⟩
 ·rw[List.getElem?_set]
  split
  ·rename_i e;subst e
   rw[hb] at br;cases br
   rw[if_pos (List.getElem?_eq_some_iff.1 hb).1];exact⟨_,rfl,rfl⟩
  ·exact⟨y,br,rfl⟩
 ·by_cases e:j=b
  ·subst e
   rw[kC] at aM
   cases aM
   obtain⟨lP,ty2,fq,fV,fC,u2⟩:=A.new
   obtain⟨s1,s2,l6⟩:=A.row jz fq
   refine .inr ⟨⟨g,a7.length,[dB]⟩,lP,ty2,by rw[List.getElem?_set,if_pos rfl,if_pos (List.getElem?_eq_some_iff.1 hb).1],dU,fq,by rw[fV,dU],q4,fun i row aJ=> ?_,fun i j row a aJ aM=> ?_⟩
   ·cases i with
    | zero=>cases aJ;rw[dU];exact s1
    | succ i=>cases aJ
   ·cases i with
    | zero=>
     cases aJ
     obtain⟨u,hu,g2⟩:=l6 j a aM
     exact⟨u,by rw[Nat.zero_mul,Nat.zero_add];exact hu,g2⟩
    | succ i=>cases aJ
  ·refine .inl ⟨fun h=>e ?_,by rw[List.getElem?_set,if_neg (fun h=>e h.symm)]⟩
   subst h;exact aR.hV j b c aM kC
 ·rw[A.mL] at hu
  obtain⟨vQ,lP,ty2,fq,fV,fC⟩:=b0 u c hu
  exact⟨vQ,lP,ty2,fq,by rw[A.fe c (aR.g4 c ⟨u,hu⟩) (fun e=>by subst e;exact aR.gR b u c kC hu)];exact fV,fC.mono fun _ _ k=>k.le bj.le.b6⟩
theorem TU {P:Program} {f:FuncId} {vs:List Value} {E:Env} {H:List Blk} {L:List (Nat×List AV)} {args eu a7 dB:List AV} {t:AV} {x:Nat} (aR:SimH E H) (b0:SimL E L) (hx:eU L x=some a7) (hk:a7.all uB=true) (jz:dB.all jv=true)
  (a4:aE (V2 E) args vs) (hm:AV.fF x 0∈args) (hs:aE (tB (.fF x 0) (.ptr 0 0 0 0)) args eu) (h:iJ P f 0 eu a7 dB t):
  Calls P f vs.toArray E.w fun e w'=> ∃v E',e= .returned v∧E'.w=w'∧Step E E'∧SimH E' H∧SimL E' (k_ L x dB)∧V3 E' t v∧E'.mL=E.mL:=by
 have kZ: ∀v,V2 E (.fF x 0) v→ ∃bl,E.mL x=some bl∧v= .pointer (some ⟨bl,0,none⟩):=fun v hv=>hv
 obtain⟨i,hi,he⟩:=List.mem_iff_getElem.1 hm
 have ga:i<vs.length:=a4.1▸hi
 have hS:=a4.2 i _ _ (List.getElem?_eq_getElem hi) (List.getElem?_eq_getElem ga)
 rw[he] at hS
 obtain⟨bl,kC,_⟩:=kZ _ hS
 obtain⟨vQ,cells,ty,q1,q2,q3⟩:=b0 x bl kC
 rw[hx] at q1
 cases q1
 have hE:bl<E.w.heap.size:=aR.g4 bl ⟨x,kC⟩
 have cV:cells.size=1*a7.length:=by rw[Nat.one_mul];exact q3.1.symm
 refine(J4 (bl:=bl) (cp:=1) aR hE (fun h=>aR.im bl h ⟨x,kC⟩) q2 cV (Nat.le_refl _) hk (fun j a aM=> ?_) a4 (fun v hv=> ?_) hs jz h).mono ?_
 ·obtain⟨u,hu,g2⟩:=q3.get aM
  exact⟨u,by rw[Array.getElem?_toList] at hu;exact hu,g2.up⟩
 ·obtain⟨Tw,h1,rfl⟩:=kZ v hv
  rw[kC] at h1;cases h1;rfl
 rintro e w' ⟨v,E',rfl,rfl,A⟩
 have rN:E.gQ bl∨E.kG bl:= .inr ⟨x,kC⟩
 have bj:=A.step aR rN
 refine⟨v,E',rfl,rfl,bj,A.simH aR rN rfl (fun j y br=>⟨y,br,rfl⟩) (fun j y br=>⟨y,br,rfl⟩) (fun j c aM=> .inl ⟨fun e=>by subst e;exact aR.gR j x c aM kC,rfl⟩),fun u c hu=> ?_,A.m8,A.mL⟩
 rw[A.mL] at hu
 rw[yl]
 by_cases e:u=x
 ·subst e
  rw[kC] at hu
  cases hu
  obtain⟨lP,ty2,fq,fV,fC,u2⟩:=A.new
  obtain⟨s1,s2,l6⟩:=A.row jz fq
  rw[if_pos rfl,hx]
  refine⟨dB,lP,ty2,rfl,fq,by show dB.length=lP.size;rw[s1,s2,Nat.one_mul],fun j a v aM hv=> ?_⟩
  obtain⟨agd,np,g2⟩:=l6 j a aM
  rw[Array.getElem?_toList,np] at hv
  cases hv;exact g2
 ·rw[if_neg e]
  obtain⟨ng,lP,ty2,fq,fV,fC⟩:=b0 u c hu
  exact⟨ng,lP,ty2,fq,by rw[A.fe c (aR.g4 c ⟨u,hu⟩) (fun h=>by subst h;exact e (aR.jC u x c hu kC))];exact fV,fC.mono fun _ _ k=>k.le bj.le.b6⟩
def J3 (P:Program) (f:FuncId) (args:List AV) (L:List (Nat×List AV)) (H:List Blk) (K:ou Prop):Prop:=
 ∃eu a7 dB t,a7.all uB=true∧dB.all jv=true∧
  ((∃b g,H[b]?=some ⟨g,a7.length,[a7]⟩∧AV.ptr b g 0 0∈args∧aE (tB (.ptr b g 0 0) (.ptr 0 g 0 0)) args eu∧iJ P f g eu a7 dB t∧K t L (H.set b ⟨g,a7.length,[dB]⟩))∨
   ∃x,eU L x=some a7∧AV.fF x 0∈args∧aE (tB (.fF x 0) (.ptr 0 0 0 0)) args eu∧iJ P f 0 eu a7 dB t∧K t (k_ L x dB) H)
theorem TR {P:Program} {f:FuncId} {args:List AV} {L:List (Nat×List AV)} {H:List Blk} {E:Env} {vs:List Value} {K:AV→List (Nat×List AV)→List Blk→Prop} (aR:SimH E H) (b0:SimL E L) (a4:aE (V2 E) args vs) (h:J3 P f args L H K):
  uO P f=true∧Calls P f vs.toArray E.w fun e w'=> ∃v u L' H' E',e= .returned u∧K v L' H'∧E'.w=w'∧Step E E'∧SimH E' H'∧SimL E' L'∧V3 E' v u∧E'.mL=E.mL:=by
 obtain⟨eu,a7,dB,t,hk,jz,⟨b,g,hb,hm,hs,hf,hK⟩ | ⟨x,hx,hm,hs,hf,hK⟩⟩:=h
 ·refine⟨hf.1,(TT aR b0 hb hk jz a4 hm hs hf).mono ?_⟩
  rintro e w' ⟨v,E',rfl,rfl,h1,h2,aO,bb,cb⟩
  exact⟨t,v,L,_,E',rfl,hK,rfl,h1,h2,aO,bb,cb⟩
 ·refine⟨hf.1,(TU aR b0 hx hk jz a4 hm hs hf).mono ?_⟩
  rintro e w' ⟨v,E',rfl,rfl,h1,h2,aO,bb,cb⟩
  exact⟨t,v,_,H,E',rfl,hK,rfl,h1,h2,aO,bb,cb⟩
def TO (P:Program) (f:FuncId) (args:List AV) (L:List (Nat×List AV)) (H:List Blk) (K:ou Prop):Prop:=
 args.all e1=true∧ ∃eu,aE (dc L H) args eu∧dF P f eu [] fun r fa=>xb r=true∧s6 fa=true∧K (m6 H.length r) L (H++fa.map (la H.length))
def TM (P:Program) (f:FuncId) (args:List AV) (L:List (Nat×List AV)) (H:List Blk) (K:ou Prop):Prop:=
 args.all e1=true∧args.all jZ=true∧dF P f args H fun r H'=>w2 r=true∧K r L H'
def li (P:Program) (f:FuncId) (args:List AV) (L:List (Nat×List AV)) (H:List Blk) (K:ou Prop):Prop:=
 oF P f args L H (fun r=>K r L H)∨TO P f args L H K∨TM P f args L H K∨(args.all e1=true∧J3 P f args L H K)
def Kz (P:Program) (c:Call) (bO:Operand→AV) (L:List (Nat×List AV)) (H:List Blk) (K:ou Prop):Prop:=match c.callee with
 | .builtin .len=>D9 P c bO L H fun r=>K r L H
 | .builtin .append=>(match c.args.toList,c.argTypes.toList with
  | [s,x],[t,t2]=>e1 (bO s)=true∧e1 (bO x)=true∧tI P t t2 (bO s) (bO x) L H K
  | _,_=>False)
 | .value f=>lQ (bO f) fun g caps=>li P g (c.args.toList.map bO++caps) L H K
 | _=>False
def kb (P:Program) (esc:List Nat) (o:Oper) (bO:Operand→AV) (L:List (Nat×List AV)) (H:List Blk) (K:ou Prop):Prop:=match o.op with
 | .store t a v=>e3 (e1 (bO v)) (l7 P t (bO a) (bO v) L H fun L' H'=>K (.tup []) L' H')
 | .alloc e=>c3 (m_ P e) fun z=>uJ esc o.dst z L H K
 | .box e x=>e3 (e1 (bO x)) (uJ esc o.dst (ff (bO x)) L H K)
 | .makeSlice t l c=>wX P t (bO l) (bO c) L H K
 | .buildSlice t n ps=>e3 (ps.toList.all fun p=>e1 (bO p.2)) (tN P (tU esc o.dst) (u6 esc) t n (ps.toList.map fun p=>(p.1,bO p.2)) L H K)
 | .call c=>Kz P c bO L H K
 | _=>sC P o bO L H fun r=>K r L H
theorem Ag {E:Env} {a:AV} {v:Value} (h:e1 a=true) (hv:V3 E a v):V2 E a v:=by
 rwa [oB (w3 h)] at hv
theorem TP {P:Program} {f:FuncId} {args:List AV} {L:List (Nat×List AV)} {H:List Blk} {E:Env} {vs:List Value} {K:AV→List (Nat×List AV)→List Blk→Prop} (aR:SimH E H) (b0:SimL E L)
  (a4:aE (V2 E) args vs) (h:li P f args L H K):
  uO P f=true∧Calls P f vs.toArray E.w fun e w'=> ∃v u L' H' E',e= .returned u∧K v L' H'∧E'.w=w'∧Step E E'∧SimH E' H'∧SimL E' L'∧V3 E' v u∧E'.mL=E.mL:=by
 rcases h with⟨aF,eu,t,hs,px,hK⟩ | ⟨aF,eu,hs,px⟩ | ⟨aF,aL,px⟩ | ⟨aF,aG⟩
 ·refine⟨px.1,(J5 (Sub.refl L H) aR b0 a4 hs px).mono ?_⟩
  rintro e w' ⟨v,E',rfl,rfl,aj,hv⟩
  exact⟨t,v,L,H,E',rfl,hK,rfl,aj.step,aj.simH aR,aj.simL aR b0,hv,aj.mL⟩
 ·refine⟨px.1,(TQ (Q:=fun r fa=>K (m6 H.length r) L (H++fa.map (la H.length))) aR b0 a4 hs px).mono ?_⟩
  rintro e w' ⟨r,v,fa,E',rfl,hK,rfl,bj,h1,h2,hv,hml⟩
  exact⟨_,v,L,_,E',rfl,hK,rfl,bj,h1,h2,hv,hml⟩
 ·refine⟨px.1,(TN (Q:=fun r H'=>K r L H') aR b0 a4 aL px).mono ?_⟩
  rintro e w' ⟨r,v,H',E',rfl,hK,rfl,bj,h1,h2,hv,hml⟩
  exact⟨_,v,L,_,E',rfl,hK,rfl,bj,h1,h2,hv,hml⟩
 ·exact TR aR b0 a4 aG
theorem TL {P:Program} {f:FuncId} {args:List AV} {L:List (Nat×List AV)} {H:List Blk} {K:AV→List (Nat×List AV)→List Blk→Prop} (h:li P f args L H K):args.all e1=true:=by
 rcases h with⟨aF,_⟩ | ⟨aF,_⟩ | ⟨aF,_⟩ | ⟨aF,_⟩<;>exact aF
set_option maxHeartbeats 1000000 in
theorem evOp_sound {P:Program} {esc:List Nat} {o:Oper} {a:Act} {T:List AV} {E:Env} {L:List (Nat×List AV)} {H:List Blk} {K:AV→List (Nat×List AV)→List Blk→Prop} {Q:Exit→Act→World→Prop}
  (ct: ∀t,V3 E (T.getD t .undef) (a.tmps.getD t undef)) (aR:SimH E H) (b0:SimL E L) (h:kb P esc o (cr T) L H K):o.wp P a E.w (C4 E o a K) Q:=by
 have fin: ∀{s:Sem Value},(execOp a.eval o=(do pure (Next.value (←s))))→(∃v L' H' E' u,K v L' H'∧s.run P E.w= .ok u E'.w∧Step E E'∧SimH E' H'∧SimL E' L'∧V3 E' v u∧ ∀t,o.dst≠some t→E'.mL t=E.mL t)→o.wp P a E.w (C4 E o a K) Q:=by
  rintro s hs ⟨v,L',H',E',u,hK,aJ,h1,h2,aO,bb,cb⟩
  unfold Oper.wp
  rw[hs]
  exact Jf aJ ⟨v,u,L',H',E',hK,rfl,h1,h2,aO,bb,rfl,cb⟩
 have O7:sC P o (cr T) L H (fun r=>K r L H)→o.wp P a E.w (C4 E o a K) Q:=fun h=>
  Oper.wp_mono (fun ih w' ⟨v,u,E',hK,hw,aj,hv,a4⟩=>⟨v,u,L,H,E',hK,hw,aj.step,aj.simH aR,aj.simL aR b0,hv,a4,fun t _=>by rw[aj.mL]⟩) (KH ct (Sub.refl L H) aR b0 h)
 obtain⟨dst,op,ty,pos,after,guard⟩:=o
 cases op with
 | store t x v=>
  obtain⟨aF,h⟩:=pM (show e3 (e1 (cr T v)) (l7 P t (cr T x) (cr T v) L H fun L' H'=>K (.tup []) L' H') from h)
  obtain⟨L',H',E',hK,aJ,h1,h2,aO,hml⟩:=aeK aR b0 (opv_rel ct x) (Ag aF (opv_rel ct v)) h
  unfold Oper.wp
  have:(execOp a.eval ⟨dst,.store t x v,ty,pos,after,guard⟩).run P E.w= .ok .skip E'.w:=by
   simp only[execOp,Sem.run_bind,aJ,Sem.run_pure,Result.andThen_ok]
  rw[this]
  exact⟨.tup [],_,L',H',E',hK,rfl,h1,h2,aO,⟨[],rfl,aE.nil⟩,rfl,fun t _=>by rw[hml]⟩
 | alloc e=>
  obtain⟨z,aN,h⟩:=fA (show c3 (m_ P e) fun z=>uJ esc dst z L H K from h)
  obtain⟨i,v,q1,q2,q3,q4⟩:=vw (E:=E) aN
  obtain⟨r,L',H',E',hK,hw,h1,h2,aO,bb,hml⟩:=Oc (ty:=e) aR b0 q4 h
  refine fin (s:=Instr.alloc e true (.tuple #[])) rfl ⟨r,L',H',E',_,hK,?_,h1,h2,aO,bb,hml⟩
  rw[hw]
  simp[Instr.alloc,zeroValue,typeInfo,q1,q2,newVar,newRow]
 | box e x=>
  obtain⟨aF,h⟩:=pM (show e3 (e1 (cr T x)) (uJ esc dst (ff (cr T x)) L H K) from h)
  have hs:(ff (cr T x)).all iY=true:=by
   unfold uJ at h;split at h
   ·rename_i q;exact q
   ·exact h.elim
  obtain⟨r,L',H',E',hK,hw,h1,h2,aO,bb,hml⟩:=Oc (ty:=e) aR b0 (Dt (Ag aF (opv_rel ct x)) hs) h
  refine fin (s:=Instr.box e (a.eval x)) rfl ⟨r,L',H',E',_,hK,?_,h1,h2,aO,bb,hml⟩
  rw[hw]
  simp[Instr.box,newVar,newRow]
 | makeSlice t l c=>
  obtain⟨v,L',H',E',u,hK,aJ,h1,h2,aO,bb,hml⟩:=aaj aR b0 (opv_rel ct l) (opv_rel ct c) (show wX P t (cr T l) (cr T c) L H K from h)
  exact fin (s:=Instr.makeSlice t (a.eval l) (a.eval c)) rfl ⟨v,L',H',E',u,hK,aJ,h1,h2,aO,bb,fun t _=>by rw[hml]⟩
 | buildSlice t n ps=>
  obtain⟨aF,h⟩:=pM (show e3 (ps.toList.all fun p=>e1 (cr T p.2)) (tN P (tU esc dst) (u6 esc) t n (ps.toList.map fun p=>(p.1,cr T p.2)) L H K) from h)
  obtain⟨v,u,L',H',E',hK,aJ,h1,h2,aO,bb,hml⟩:=Ty aR b0 (GQ ct ps.toList fun p aG=>w3 (List.all_eq_true.1 aF p aG)) h
  exact fin (s:=Instr.buildSlice t n (ps.toList.map fun p=>(p.1,a.eval p.2)).toArray) (by rw[parts_eq];rfl) ⟨v,L',H',E',u,hK,aJ,h1,h2,aO,bb,fun t _=>by rw[hml]⟩
 | call c=>
  have h:Kz P c (cr T) L H K:=h
  obtain⟨callee,args,argTypes⟩:=c
  cases callee with
  | builtin b=>
   cases b with
   | len=>exact O7 h
   | append=>
    have h:(match args.toList,argTypes.toList with
     | [s,x],[t,t2]=>e1 (cr T s)=true∧e1 (cr T x)=true∧tI P t t2 (cr T s) (cr T x) L H K
     | _,_=>False):=h
    split at h
    ·rename_i s x t t2 h1 h2
     obtain rfl:args= #[s,x]:=by rw[←Array.toArray_toList (xs:=args),h1]
     obtain rfl:argTypes= #[t,t2]:=by rw[←Array.toArray_toList (xs:=argTypes),h2]
     obtain⟨mW,n2,h⟩:=h
     obtain⟨r,u,H',E',hK,aJ,q1,q2,q3,q4,hml⟩:=Te (ty:=ty) aR b0 (Ag mW (opv_rel ct s)) (Ag n2 (opv_rel ct x)) h
     unfold Oper.wp
     have:(execOp a.eval ⟨dst,.call ⟨.builtin .append,#[s,x],#[t,t2]⟩,ty,pos,after,guard⟩).run P E.w= .ok (.value u) E'.w:=by
      simp only[execOp,resolve,Sem.run_bind,Sem.run_pure,Result.andThen_ok,invoke,builtin]
      have e:Array.map a.eval #[s,x]= #[a.eval s,a.eval x]:=by simp
      rw[e,aJ];rfl
     rw[this]
     exact⟨r,u,L,H',E',hK,rfl,q1,q2,q3,q4,rfl,fun t _=>by rw[hml]⟩
    ·exact h.elim
   | _=>exact h.elim
  | value f=>
   have h:lQ (cr T f) fun g caps=>li P g (args.toList.map (cr T)++caps) L H K:=h
   cases hf:cr T f with
   | fn g caps=>
    rw[hf] at h
    have h:li P g (args.toList.map (cr T)++caps) L H K:=h
    have aF:=TL h
    obtain⟨vs,he,ub⟩:=J6 ct hf
    have EI:aE (V2 E) (args.toList.map (cr T)++caps) (args.toList.map a.eval++vs):=
     aE.append (JI ct args.toList fun x hx=>w3 (List.all_eq_true.1 aF _ (by simp;exact .inl ⟨x,by simpa using hx,rfl⟩))) ub
    obtain⟨fi,hc⟩:=TP aR b0 EI h
    unfold Oper.wp
    rw[show execOp a.eval ⟨dst,.call ⟨.value f,args,argTypes⟩,ty,pos,after,guard⟩=(do let d ←resolve a.eval ⟨.value f,args,argTypes⟩ ty;invoke d.target d.args) from rfl]
    rw[Pp (P:=P) (ty:=ty) (w:=E.w) (c:=⟨.value f,args,argTypes⟩) rfl he fi]
    refine hc.mono ?_
    rintro e w' ⟨v,u,L',H',E',rfl,hK,rfl,q1,q2,q3,q4,hml⟩
    exact⟨v,u,L',H',E',hK,rfl,q1,q2,q3,q4,rfl,fun t _=>by rw[hml]⟩
   | _=>rw[hf] at h;exact h.elim
  | _=>exact h.elim
 | _=>exact O7 h
def pg (lit:Bool) (b:Bool) (x y:Prop):Prop:=match lit with
 | true=>(match b with
  | true=>x
  | false=>y)
 | false=>x5 b x y
theorem Aw {lit b:Bool} {x y:Prop} (h:pg lit b x y):(b=true→x)∧(b=false→y):=by
 cases lit with
 | false=>exact h
 | true=>cases b<;>exact⟨fun e=>by cases e<;>exact h,fun e=>by cases e<;>exact h⟩
def putA (T:List AV) (dst:Option Nat) (v:AV):List AV:=match dst with
 | some d=>T.set d v
 | none=>T
def nY (ops:Array Oper) (lit:Bool) (o:Oper) (T:List AV) (x y:List AV→Prop):Prop:=match o.guard with
 | none=>x T
 | some (j,cC)=>match(ops[j]?).bind (·.dst) with
  | none=>False
  | some t=>match T.getD t .undef with
   | .bool b=>pg lit b (if cC=true then x (T.set t (.bool true)) else y (T.set t (.bool true))) (if cC=true then y (T.set t (.bool false)) else x (T.set t (.bool false)))
   | .tup []=>y T
   | _=>False
def uW (lit:Bool) (o:Oper) (T:List AV) (K:AV→Prop) (AN:Prop):Prop:=match o.op with
 | .pick c x y=>oD (cr T c) fun z=>pg lit z (K (cr T x)) (K (cr T y))
 | _=>AN
def evOps (P:Program) (esc:List Nat) (ops:Array Oper):List (Oper×Bool)→List AV→List (Nat×List AV)→List Blk→(List AV→List (Nat×List AV)→List Blk→Prop)→Prop
 | [],T,L,H,K=>K T L H
 | (o,lit)::rest,T,L,H,K=>nY ops lit o T
   (fun T=>uW lit o T (fun v=>evOps P esc ops rest (putA T o.dst v) L H K) (kb P esc o (cr T) L H fun v L' H'=>evOps P esc ops rest (putA T o.dst v) L' H' K))
   (fun T=>evOps P esc ops rest (putA T o.dst (.tup [])) L H K)
theorem rE {T:List AV} {d t:Nat} {v:AV}:(T.set d v).getD t .undef=if d=t∧d<T.length then v else T.getD t .undef:=by
 rw[List.getD_eq_getElem?_getD,List.getD_eq_getElem?_getD,List.getElem?_set]
 by_cases h:d=t
 ·subst h
  by_cases aL:d<T.length
  ·simp[aL]
  ·simp[aL]
 ·simp[h]
theorem P4 {E:Env} {T:List AV} {a:Act} (ct: ∀t,V3 E (T.getD t .undef) (a.tmps.getD t undef)) (hs:T.length=a.tmps.size) {dst:Option Nat} {v:AV} {u:Value} (hv:V3 E v u):
  (∀t,V3 E ((putA T dst v).getD t .undef) ((a.put dst u).tmps.getD t undef))∧(putA T dst v).length=(a.put dst u).tmps.size:=by
 cases dst with
 | none=>exact⟨ct,hs⟩
 | some d=>
  refine⟨fun t=> ?_,by simp[putA,Act.put,hs]⟩
  show V3 E ((T.set d v).getD t .undef) ((a.tmps.setIfInBounds d u).getD t undef)
  rw[rE,Array.getD_eq_getD_getElem?,Array.getElem?_setIfInBounds]
  by_cases h:d=t
  ·subst h
   by_cases aL:d<T.length
   ·have qt:d<a.tmps.size:=hs▸aL
    simp[aL,qt];exact hv
   ·have qt: ¬d<a.tmps.size:=hs▸aL
    have:=ct d
    rw[Array.getD_eq_getD_getElem?] at this
    simp[aL,qt] at this ⊢
    exact this
  ·have:=ct t
   rw[Array.getD_eq_getD_getElem?] at this
   simp[h];exact this
theorem acs {E:Env} {T:List AV} {a:Act} (ct: ∀t,V3 E (T.getD t .undef) (a.tmps.getD t undef)) {t:Nat} {b:Bool} (h:T.getD t .undef= .bool b):
  ∀s,V3 E ((T.set t (.bool b)).getD s .undef) (a.tmps.getD s undef):=fun s=>by
 rw[rE]
 by_cases hs:t=s∧t<T.length
 ·rw[if_pos hs,←h,hs.1];exact ct s
 ·rw[if_neg hs];exact ct s
theorem aft {ops:Array Oper} {a:Act} {T:List AV} {E:Env} (ct: ∀t,V3 E (T.getD t .undef) (a.tmps.getD t undef)) {j t:Nat} {b:Bool} (aM:(ops[j]?).bind (·.dst)=some t) (h:T.getD t .undef= .bool b) (hs:T.length=a.tmps.size):
  yielded ops a.tmps j=some b:=by
 have hv:=ct t
 rw[h] at hv
 have he:a.tmps.getD t undef= .bool b:=V3.rm hv
 unfold yielded
 rw[aM]
 rw[Array.getD_eq_getD_getElem?] at he
 cases aj:a.tmps[t]? with
 | none=>rw[aj] at he;cases he
 | some x=>rw[aj] at he;have:x= .bool b:=he;subst this;simp[aj]
theorem afu {ops:Array Oper} {a:Act} {T:List AV} {E:Env} (ct: ∀t,V3 E (T.getD t .undef) (a.tmps.getD t undef)) {j t:Nat} (aM:(ops[j]?).bind (·.dst)=some t) (h:T.getD t .undef= .tup []):
  yielded ops a.tmps j=none:=by
 have hv:=ct t
 rw[h] at hv
 obtain⟨vs,he,aG⟩:=(show ∃vs:List Value,a.tmps.getD t undef= .tuple vs.toArray∧aE (V2 E) [] vs from hv)
 obtain rfl:=aG.w0
 unfold yielded
 rw[aM]
 rw[Array.getD_eq_getD_getElem?] at he
 cases aj:a.tmps[t]? with
 | none=>simp[aj]
 | some x=>rw[aj] at he;have:x= .tuple #[]:=he;subst this;simp[aj]
theorem VO {P:Program} {ops:Array Oper} {lit:Bool} {o:Oper} {a:Act} {T:List AV} {E:Env} {w:World} {x y:List AV→Prop} {R:Prop}
  (ct: ∀t,V3 E (T.getD t .undef) (a.tmps.getD t undef)) (hs:T.length=a.tmps.size) (h:nY ops lit o T x y)
  (rf: ∀T',Region.wanted o (yielded ops a.tmps)=true→(∀t,V3 E (T'.getD t .undef) (a.tmps.getD t undef))→T'.length=a.tmps.size→x T'→R)
  (no: ∀T',Region.wanted o (yielded ops a.tmps)=false→(∀t,V3 E (T'.getD t .undef) (a.tmps.getD t undef))→T'.length=a.tmps.size→y T'→R):R:=by
 unfold nY at h
 cases hg:o.guard with
 | none=>rw[hg] at h;exact rf T (by simp[Region.wanted,hg]) ct hs h
 | some g=>
  obtain⟨j,cC⟩:=g
  rw[hg] at h
  simp only at h
  cases aM:(ops[j]?).bind (·.dst) with
  | none=>rw[aM] at h;exact h.elim
  | some t=>
   rw[aM] at h
   simp only at h
   split at h
   ·rename_i b hb
    have br:=aft (ops:=ops) ct aM hb hs
    have hk:=acs ct hb
    obtain⟨h1,h2⟩:=Aw h
    cases b with
    | true=>
     have h:=h1 rfl
     cases cC with
     | true=>exact rf _ (by simp[Region.wanted,hg,br]) hk (by simpa using hs) h
     | false=>exact no _ (by simp[Region.wanted,hg,br]) hk (by simpa using hs) h
    | false=>
     have h:=h2 rfl
     cases cC with
     | true=>exact no _ (by simp[Region.wanted,hg,br]) hk (by simpa using hs) h
     | false=>exact rf _ (by simp[Region.wanted,hg,br]) hk (by simpa using hs) h
   ·rename_i hb
    have br:=afu (ops:=ops) ct aM hb
    exact no T (by simp[Region.wanted,hg,br]) ct hs h
   ·exact h.elim
theorem AT [cH] {P:Program} {esc:List Nat} {ops:Array Oper} {Q:Exit→St→Prop} {cw:Env}: ∀(l:List (Oper×Bool)) (T:List AV) (L:List (Nat×List AV)) (H:List Blk) (E:Env) (a:Act),
  Good cw E→tG E ⟨T,L,H⟩ a.tmps→a.defers=[]→evOps P esc ops l T L H (fun T L H=>Q .normal ⟨T,L,H⟩)→wpList P ops (nf cw Q) (l.map (·.1)) a E.w
 | [],T,L,H,E,a,hg,hs,bg,h=>⟨rfl,⟨T,L,H⟩,E,h,rfl,hg,hs,bg⟩
 | (o,lit)::rest,T,L,H,E,a,hg,hs,bg,h=>by
  have ct: ∀t,V3 E (T.getD t .undef) (a.tmps.getD t undef):=hs.iv
  show if Region.wanted o (yielded ops a.tmps) then o.wp P a E.w (wpList P ops (nf cw Q) (rest.map (·.1))) (nf cw Q)∨_ else wpList P ops (nf cw Q) (rest.map (·.1)) (a.put o.dst undef) E.w
  refine VO (P:=P) (w:=E.w) ct hs.size h (fun T' hw hT' lZ h'=> ?_) (fun T' hw hT' lZ h'=> ?_)
  ·rw[if_pos hw]
   refine .inl ?_
   have next: ∀(v:AV) (u:Value) (L':List (Nat×List AV)) (H':List Blk) (E':Env),Step E E'→SimH E' H'→SimL E' L'→V3 E' v u→evOps P esc ops rest (putA T' o.dst v) L' H' (fun T L H=>Q .normal ⟨T,L,H⟩)→
     wpList P ops (nf cw Q) (rest.map (·.1)) (a.put o.dst u) E'.w:=fun v u L' H' E' q1 q2 q3 q4 hK=>by
    obtain⟨fq,fV⟩:=P4 (fun t=>(hT' t).le q1.le) lZ (dst:=o.dst) q4
    refine AT rest _ _ _ E' (a.put o.dst u) (hg.step q1) ⟨q2,q3,fq,fV⟩ ?_ hK
    cases o.dst<;>exact bg
   have bC:(kb P esc o (cr T') L H fun v L' H'=>evOps P esc ops rest (putA T' o.dst v) L' H' (fun T L H=>Q .normal ⟨T,L,H⟩))→o.wp P a E.w (wpList P ops (nf cw Q) (rest.map (·.1))) (nf cw Q):=fun h'=>
    Oper.wp_mono (fun ih w' ⟨v,u,L',H',E',hK,eY,q1,q2,q3,q4,a4,_⟩=>by
     subst a4;subst eY
     exact next v u L' H' E' q1 q2 q3 q4 hK) (evOp_sound hT' hs.h hs.l h')
   unfold uW at h'
   split at h'
   ·rename_i c x y fS
    obtain⟨b,hb,bV⟩:=An h'
    obtain⟨h1,h2⟩:=Aw bV
    have hv:=opv_rel hT' c
    rw[hb] at hv
    have he:a.eval c= .bool b:=V3.rm hv
    unfold Oper.wp
    have hx: ∀z,(z=if b=true then a.eval x else a.eval y)→(execOp a.eval o).run P E.w= .ok (.value z) E.w:=fun z aN=>by
     subst aN
     simp only[execOp,fS,he,asBool,Sem.run_bind,Sem.run_pure,Result.andThen_ok]
    cases b with
    | true=>rw[hx (a.eval x) rfl];exact next _ _ L H E (Step.refl E) hs.h hs.l (opv_rel hT' x) (h1 rfl)
    | false=>rw[hx (a.eval y) rfl];exact next _ _ L H E (Step.refl E) hs.h hs.l (opv_rel hT' y) (h2 rfl)
   ·exact bC h'
  ·rw[hw]
   show wpList P ops (nf cw Q) (rest.map (·.1)) (a.put o.dst undef) E.w
   obtain⟨fq,fV⟩:=P4 (a:=a) hT' lZ (dst:=o.dst) (v:= .tup []) (u:=undef) ⟨[],rfl,aE.nil⟩
   refine AT rest (putA T' o.dst (.tup [])) L H E (a.put o.dst undef) hg ⟨hs.h,hs.l,fq,fV⟩ ?_ h'
   cases o.dst<;>exact bg
def lits (ops:Array Oper) (r2:List Nat):List (Oper×Bool):=ops.toList.zipIdx.map fun p=>(p.1,r2.contains p.2)
theorem Z1 (ops:Array Oper) (r2:List Nat):(lits ops r2).map (·.1)=ops.toList:=by
 unfold lits
 rw[List.map_map]
 apply List.ext_getElem?
 intro i
 simp only[List.getElem?_map,List.getElem?_zipIdx]
 cases ops.toList[i]?<;>rfl
theorem WpS.region [cH] {P:Program} {esc:List Nat} {r2:List Nat} {id:Nat} {ops:Array Oper} {Q:Exit→St→Prop} {aI:St} (h:evOps P esc ops (lits ops r2) aI.T aI.L aI.H (fun T L H=>Q .normal ⟨T,L,H⟩)):WpS P (.region id ops false) Q aI:=fun cw E a g s d=>by
 refine wp_region_list ?_
 have:=AT (lits ops r2) aI.T aI.L aI.H E a g s d h
 rwa [Z1] at this
def uH (dk:List Nat):AV→Bool
 | .fF t _=> !dk.contains t
 | _=>true
def sZ (dk:List Nat):AV→Bool
 | .fn _ caps=>caps.all (uH dk)
 | a=>uH dk a
def s0 (dk:List Nat):AV→Bool
 | .agg l=>l.all (sZ dk)
 | a=>sZ dk a
def oU (dk:List Nat):AV→Bool
 | .tup l=>l.all (s0 dk)
 | a=>s0 dk a
def Env.drop (E:Env) (dk:List Nat):Env:={E with mL:=fun t=>if dk.contains t=true then none else E.mL t}
section
variable {E:Env} {dk:List Nat}
theorem ft.drop {a:AV} {v:Value} (h:uH dk a=true) (hv:ft E a v):ft (E.drop dk) a v:=by
 cases a with
 | fF t c=>
  obtain⟨bl,hm,e⟩:=hv
  have:dk.contains t=false:=by simpa[uH] using h
  exact⟨bl,by show(if dk.contains t=true then none else E.mL t)=_;rw[if_neg (by rw[this];simp)];exact hm,e⟩
 | _=>exact hv
theorem cI.drop {a:AV} {v:Value} (h:sZ dk a=true) (hv:cI E a v):cI (E.drop dk) a v:=by
 by_cases hf: ∃f caps,a= .fn f caps
 ·obtain⟨f,caps,rfl⟩:=hf
  obtain⟨vs,e,aG⟩:=hv
  exact⟨vs,e,aG.1,fun i x y hx br=>(aG.2 i x y hx br).drop (List.all_eq_true.1 (show caps.all (uH dk)=true from h) x (List.mem_of_getElem? hx))⟩
 ·have aT:sZ dk a=uH dk a:=by cases a<;>first | rfl | exact absurd ⟨_,_,rfl⟩ hf
  rw[rj fun f c e=>hf ⟨f,c,e⟩] at hv ⊢
  exact hv.drop (aT▸h)
theorem V2.drop {a:AV} {v:Value} (h:s0 dk a=true) (hv:V2 E a v):V2 (E.drop dk) a v:=by
 by_cases hf: ∃l,a= .agg l
 ·obtain⟨l,rfl⟩:=hf
  obtain⟨vs,e,aG⟩:=hv
  exact⟨vs,e,aG.1,fun i x y hx br=>(aG.2 i x y hx br).drop (List.all_eq_true.1 (show l.all (sZ dk)=true from h) x (List.mem_of_getElem? hx))⟩
 ·have aT:s0 dk a=sZ dk a:=by cases a<;>first | rfl | exact absurd ⟨_,rfl⟩ hf
  rw[pd fun l e=>hf ⟨l,e⟩] at hv ⊢
  exact hv.drop (aT▸h)
theorem V3.drop {a:AV} {v:Value} (h:oU dk a=true) (hv:V3 E a v):V3 (E.drop dk) a v:=by
 by_cases hf: ∃l,a= .tup l
 ·obtain⟨l,rfl⟩:=hf
  obtain⟨vs,e,aG⟩:=hv
  exact⟨vs,e,aG.1,fun i x y hx br=>(aG.2 i x y hx br).drop (List.all_eq_true.1 (show l.all (s0 dk)=true from h) x (List.mem_of_getElem? hx))⟩
 ·have aT:oU dk a=s0 dk a:=by cases a<;>first | rfl | exact absurd ⟨_,rfl⟩ hf
  rw[oB fun l e=>hf ⟨l,e⟩] at hv ⊢
  exact hv.drop (aT▸h)
end
def nU (dk:List Nat) (L:List (Nat×List AV)):List (Nat×List AV):=match L with
 | []=>[]
 | (k,c)::L=>match dk.contains k with
  | true=>nU dk L
  | false=>(k,c)::nU dk L
theorem AG {dk:List Nat}: ∀(L:List (Nat×List AV)) (t:Nat),dk.contains t=false→eU (nU dk L) t=eU L t
 | [],t,h=>rfl
 | (k,c)::L,t,h=>by
  unfold nU
  split
  ·rename_i hk
   have:t≠k:=fun e=>by subst e;rw[h] at hk;cases hk
   rw[AG L t h];simp[eU,this]
  ·simp only[eU];rw[AG L t h]
theorem Weak.nU [cH] (dk:List Nat) {T:List AV} {L:List (Nat×List AV)} {H:List Blk} (h:T.all (oU dk)=true):Weak ⟨T,L,H⟩ ⟨T,nU dk L,H⟩:=fun cw E tmps g s=>by
 have hm: ∀t c,(E.drop dk).mL t=some c→dk.contains t=false∧E.mL t=some c:=by
  intro t c hc
  have hc:(if dk.contains t=true then none else E.mL t)=some c:=hc
  split at hc
  ·cases hc
  ·rename_i q;exact⟨by simpa using q,hc⟩
 have hi: ∀c,(E.drop dk).kG c→E.kG c:=fun c ⟨t,bp⟩=>⟨t,(hm t c bp).2⟩
 have hq:SimH E H:=s.h
 refine⟨E.drop dk,rfl,?_,?_,?_,fun t=> ?_,s.size⟩
 ·exact{g with
   le:={g.le with mL:=fun t c hc=>by rw[g.b6 t] at hc;cases hc}
   jB:=fun c hc=>g.jB c (hi c hc)}
 ·exact{hq with
   heap:=hq.heap
   jC:=fun t jJ c h1 h2=>hq.jC t jJ c (hm t c h1).2 (hm jJ c h2).2
   gR:=fun b t c h1 h2=>hq.gR b t c h1 (hm t c h2).2
   im:=fun c hc hx=>hq.im c hc (hi c hx)
   g4:=fun c hx=>hq.g4 c (hi c hx)}
 ·intro t c hc
  obtain⟨h1,h2⟩:=hm t c hc
  obtain⟨cells,a7,ty,q1,q2,q3⟩:=s.l t c h2
  exact⟨cells,a7,ty,by show eU (Fw.nU dk L) t=_;rw[AG L t h1];exact q1,q2,q3⟩
 ·show V3 (E.drop dk) (T.getD t .undef) _
  refine(s.iv t).drop ?_
  show oU dk (T.getD t .undef)=true
  rw[List.getD_eq_getElem?_getD]
  cases aj:T[t]? with
  | none=>rfl
  | some a=>exact List.all_eq_true.1 h a (List.mem_of_getElem? aj)
def rX:AV→Bool
 | .bz [] true _=>true
 | _=>false
theorem UD {E:Env} {a:AV} {v:Value} (h:rX a=true) (hv:ft E a v): ∃A,v= .slice A 0 0:=by
 have key: ∀rows full fr,a= .bz rows full fr→rows=[]→full=true→ ∃A,v= .slice A 0 0:=by
  intro rows full fr e aJ hf
  subst e
  have hv:bF E.w E.PA E.PF (.bz rows full fr) v:=hv
  cases hv with
  | @bz _ _ PB _ _ _ A cap sz vs gj gO hn cV fh d_=>
   refine⟨A,?_⟩
   rw[hn hf,aJ];rfl
 unfold rX at h
 split at h
 ·exact key _ _ _ rfl rfl rfl
 ·cases h
theorem DZ {E E':Env} {a:AV} {v:Value} {b:Nat} (h:rX a=true) (hv:cI E a v) (hg:E'.bC b=0) (hm:E'.m b=some none):cI E' (.ref b 0 0 0 false) v:=by
 have hS:ft E a v:=by
  rwa [rj] at hv
  rintro f c rfl;cases h
 obtain⟨A,rfl⟩:=UD h hS
 exact .inr ⟨hg.symm,.inl ⟨hm,rfl,rfl,A,rfl⟩⟩
theorem Weak.S7 [cH] (i sz:Nat) {T:List AV} {L:List (Nat×List AV)} {H:List Blk} (h:rX (T.getD i .undef)=true):Weak ⟨T,L,H⟩ ⟨T.set i (.ref H.length 0 0 0 false),L,H++[⟨0,sz,[]⟩]⟩:=fun cw E tmps g s=>by
 obtain⟨E',hw,bj,h1,h2,aO,bb,_⟩:=B0 (blk:=⟨0,sz,[]⟩) s.h s.l rfl rfl
 refine⟨E',hw,g.step bj,h1,h2,fun t=> ?_,by simpa using s.size⟩
 show V3 E' ((T.set i _).getD t .undef) _
 rw[rE]
 split
 ·rename_i aj
  obtain⟨rfl,_⟩:=aj
  have hv:=s.iv i
  have k1:cI E (T.getD i .undef) (tmps.getD i undef):=by
   have hv:V3 E (T.getD i .undef) (tmps.getD i undef):=hv
   rw[oB,pd] at hv
   ·exact hv
   ·intro l e;rw[e] at h;cases h
   ·intro l e;rw[e] at h;cases h
  exact p5 (p4 (DZ h k1 aO bb))
 ·exact(s.iv t).le bj.le
theorem Weak.vG [cH] (t i sz:Nat) {T:List AV} {L:List (Nat×List AV)} {H:List Blk} {cells:List AV} (hc:eU L t=some cells) (h:rX (cells.getD i .undef)=true):
  Weak ⟨T,L,H⟩ ⟨T,k_ L t (cells.set i (.ref H.length 0 0 0 false)),H++[⟨0,sz,[]⟩]⟩:=fun cw E tmps g s=>by
 obtain⟨E',hw,bj,h1,h2,aO,bb,cb,cE⟩:=B0 (blk:=⟨0,sz,[]⟩) s.h s.l rfl rfl
 refine⟨E',hw,g.step bj,h1,?_,fun t=>(s.iv t).le bj.le,s.size⟩
 intro u c hm
 obtain⟨gY,a7,ty,q1,q2,q3⟩:=h2 u c hm
 show ∃Dr a7 ty,eU (k_ L t _) u=some Dr∧_
 rw[yl]
 by_cases hu:u=t
 ·subst hu
  rw[if_pos rfl]
  have zt:eU L u=some gY:=q1
  rw[hc] at zt
  cases zt
  refine⟨_,a7,ty,by rw[hc];rfl,q2,by simpa using q3.1,fun j x v hx hv=> ?_⟩
  rw[List.getElem?_set] at hx
  split at hx
  ·rename_i nl
   subst nl
   split at hx
   ·rename_i bc
    cases hx
    have hg:=List.getElem?_eq_getElem bc
    have:cells.getD i .undef=cells[i]:=by rw[List.getD_eq_getElem?_getD,hg];rfl
    have k1:=q3.2 i _ v hg hv
    rw[this] at h
    exact DZ (E:=E'.b6) h k1 aO bb
   ·cases hx
  ·exact q3.2 j x v hx hv
 ·rw[if_neg hu]
  exact⟨gY,a7,ty,q1,q2,q3⟩
structure cx where
 sw:Int
 bk:Int
 deriving Inhabited,DecidableEq
structure Way where
 ai:List Int
 a2:List cx
 bw:List cx
 cO:List Int
 cJ:List Int
 deriving Inhabited,DecidableEq
structure az where
 ai:Int
 be:List Int
 O:List Way
 bU:List (List Bool)
 dn:Int
 deriving Inhabited,DecidableEq
structure Event where
 op:Int
 ah:Int
 bk:Int
 deriving Inhabited,DecidableEq
structure bd where
 cC:Int
 a2:Int
 deriving Inhabited,DecidableEq
structure ad where
 aq:Int
 af:Int
 ac:List Bool
 ap:Bool
 ar:Int
 deriving Inhabited,DecidableEq
structure Frame where
 ok:Bool
 au:List Bool
 an:List bd
 O:List ad
 deriving Inhabited,DecidableEq
structure fv where
 code:Int
 frame:Frame
 deriving Inhabited,DecidableEq
structure jb where
 code:Int
 pos:Int
 deriving Inhabited,DecidableEq
structure ma where
 O:List Int
 ai:List Int
 an:List Int
 deriving Inhabited,DecidableEq
structure ba where
 code:List UInt8
 pos:Int
 tp:Int
 deriving Inhabited
def db (n:Int):List AV:=[.int .i64 n]
def qi (n:UInt8):List AV:=[.int .u8 n.toNat]
def aW (b:Bool):List AV:=[.bool b]
def DX (s:ByteArray):List AV:=[.str s]
def iO {α:Type} (e:α→List AV) (fr:Bool) (xs:List α):List AV:=[.bz (xs.map e) false fr]
def dj (x:cx):List AV:=[.int .i64 x.sw,.int .i64 x.bk]
def dx (fr:Bool) (x:Way):List AV:=[.bz (x.ai.map db) false fr,.bz (x.a2.map dj) false fr,.bz (x.bw.map dj) false fr,.bz (x.cO.map db) false fr,.bz (x.cJ.map db) false fr]
def bq (fr:Bool) (x:az):List AV:=[.int .i64 x.ai,.bz (x.be.map db) false fr,.bz (x.O.map (dx false)) false fr,.bz (x.bU.map (iO aW false)) false fr,.int .i64 x.dn]
def iN (x:Event):List AV:=[.int .i64 x.op,.int .i64 x.ah,.int .i64 x.bk]
def a5 (x:bd):List AV:=[.int .i64 x.cC,.int .i64 x.a2]
def cX (fr:Bool) (x:ad):List AV:=[.int .i64 x.aq,.int .i64 x.af,.bz (x.ac.map aW) false fr,.bool x.ap,.int .i64 x.ar]
def bS (fr:Bool) (x:Frame):List AV:=[.bool x.ok,.bz (x.au.map aW) false fr,.bz (x.an.map a5) false fr,.bz (x.O.map (cX false)) false fr]
def rp (fr:Bool) (x:fv):List AV:=[.int .i64 x.code,.bool x.frame.ok,.bz (x.frame.au.map aW) false fr,.bz (x.frame.an.map a5) false fr,.bz (x.frame.O.map (cX false)) false fr]
def DV (x:jb):List AV:=[.int .i64 x.code,.int .i64 x.pos]
def UB (fr:Bool) (x:ba):List AV:=[.bz (x.code.map qi) false fr,.int .i64 x.pos,.int .u64 x.tp]
def AK (fr:Bool) (x:ma):List AV:=[.bz (x.O.map db) false fr,.bz (x.ai.map db) false fr,.bz (x.an.map db) false fr]
def nth {α:Type} [Inhabited α] (xs:List α) (i:Int):α:=xs.getD i.toNat default
theorem gS {α:Type} [Inhabited α] {xs:List α} {i:Int} (h:i.toNat<xs.length):xs[i.toNat]?=some (nth xs i):=by
 unfold nth
 rw[List.getD_eq_getElem?_getD,List.getElem?_eq_getElem h];rfl
def s4:Code→List Nat→Code
 | c,[]=>c
 | .seq x y,n::p=>match n with
  | 0=>s4 x p
  | _=>s4 y p
 | .cond _ x y,n::p=>match n with
  | 0=>s4 x p
  | _=>s4 y p
 | .block _ x,_::p=>s4 x p
 | .loop x,_::p=>s4 x p
 | .scope x,_::p=>s4 x p
 | c,_=>c
def iz (f:Func):Code:=f.body.getD .skip
section
variable {P:Program} {esc:List Nat} {ops:Array Oper} {l fp:List (Oper×Bool)} {T T':List AV} {L L':List (Nat×List AV)} {H H':List Blk} {K:List AV→List (Nat×List AV)→List Blk→Prop}
end
theorem WpS.seq' [cH] {P:Program} {c x y:Code} {Q:Exit→St→Prop} {aI:St} (e:c= .seq x y) (h:WpS P x (ec P y Q) aI):WpS P c Q aI:=e▸WpS.seq h
theorem WpS.T7 [cH] {P:Program} {c x y:Code} {o:Operand} {Q:Exit→St→Prop} {aI:St} {b:Bool} (e:c= .cond o x y) (hb:cr aI.T o= .bool b) (h1:b=true→WpS P x Q aI) (h2:b=false→WpS P y Q aI):WpS P c Q aI:=
 e▸WpS.cond (by rw[hb];exact⟨h1,h2⟩)
theorem WpS.JW [cH] {P:Program} {c x:Code} {id:Nat} {Q:Exit→St→Prop} {aI:St} (e:c= .block id x) (h:WpS P x (cn id Q) aI):WpS P c Q aI:=e▸WpS.block h
theorem WpS.abQ [cH] {P:Program} {c:Code} {Q:Exit→St→Prop} {aI:St} (e:c= .skip) (h:Q .normal aI):WpS P c Q aI:=e▸WpS.skip h
theorem WpS.abn [cH] {P:Program} {c:Code} {Q:Exit→St→Prop} {aI:St} (e:c= .ret) (h:Q .ret aI):WpS P c Q aI:=e▸WpS.ret h
theorem WpS.UQ [cH] {P:Program} {c:Code} {id:Nat} {Q:Exit→St→Prop} {aI:St} (e:c= .exit id) (h:Q (.exit id) aI):WpS P c Q aI:=e▸WpS.exit h
theorem WpS.Z8 [cH] {P:Program} {c x:Code} {Q:Exit→St→Prop} {aI:St} {V:Type} (S:V→St) (I:V→Prop) (m:V→Nat) (e:c= .loop x) (h5:V) (hs:Weak aI (S h5)) (aT:I h5)
  (round: ∀v,I v→WpS P x (fun ex s=>match ex with
   | .normal=> ∃e4,I e4∧m e4<m v∧Weak s (S e4)
   | ex=>Q ex s) (S v)):WpS P c Q aI:=by
 subst e
 refine WpS.mF (WpS.loop (fun n s=> ∃v,I v∧s=S v∧n=m v) (m h5) ⟨h5,aT,rfl,rfl⟩ ?_) hs
 rintro n s ⟨v,hv,rfl,rfl⟩
 refine WpS.mono (round v hv) fun ex s aj=> ?_
 cases ex with
 | normal=>
  obtain⟨e4,h1,h2,aO⟩:=aj
  exact⟨m e4,S e4,h2,aO,e4,h1,rfl,rfl⟩
 | _=>exact aj
theorem ec.normal [cH] {P:Program} {y:Code} {Q:Exit→St→Prop} {s:St} (h:WpS P y Q s):ec P y Q .normal s:=h
theorem ec.ret [cH] {P:Program} {y:Code} {Q:Exit→St→Prop} {s:St} (h:Q .ret s):ec P y Q .ret s:=h
theorem ec.exit [cH] {P:Program} {y:Code} {Q:Exit→St→Prop} {s:St} {id:Nat} (h:Q (.exit id) s):ec P y Q (.exit id) s:=h
theorem cn.normal {id:Nat} {Q:Exit→St→Prop} {s:St} (h:Q .normal s):cn id Q .normal s:=h
theorem cn.ret {id:Nat} {Q:Exit→St→Prop} {s:St} (h:Q .ret s):cn id Q .ret s:=h
theorem cn.here {id:Nat} {Q:Exit→St→Prop} {s:St} (h:Q .normal s):cn id Q (.exit id) s:=by
 show(if id=id then _ else _);rw[if_pos rfl];exact h
theorem cn.there {id gv:Nat} {Q:Exit→St→Prop} {s:St} (cm:gv≠id) (h:Q (.exit gv) s):cn id Q (.exit gv) s:=by
 show(if gv=id then _ else _);rw[if_neg cm];exact h
theorem dc.ia {L:List (Nat×List AV)} {H:List Blk} {a b:AV} (h:fZ L H a b):dc L H a b:= .inr h
theorem dc.agg {L:List (Nat×List AV)} {H:List Blk} {l fp:List AV} (h:aE (fZ L H) l fp):dc L H (.agg l) (.agg fp):= .inl ⟨l,fp,rfl,rfl,h⟩
theorem iy.ia {H:List Blk} {a b:AV} (h:gD H a b):iy H a b:= .inr (.inr h)
theorem iy.agg {H:List Blk} {l fp:List AV} (h:aE (gD H) l fp):iy H (.agg l) (.agg fp):= .inr (.inl ⟨l,fp,rfl,rfl,h⟩)
theorem WpS.start [cH] {P:Program} {c:Code} {Q:Exit→St→Prop} {aI lb:St} (e:aI=lb) (h:WpS P c Q lb):WpS P c Q aI:=e▸h
def ck [cH] (S:St) (ψ:Prop) (Q:Exit→St→Prop) (ex:Exit) (s:St):Prop:=match ex with
 | .normal=>ψ∧Weak s S
 | ex=>Q ex s
theorem WpS.xx [cH] {P:Program} {c x y:Code} {Q:Exit→St→Prop} {aI:St} (S:St) {ψ:Prop} (e:c= .seq x y) (h:WpS P x (ck S ψ Q) aI) (aj:ψ→WpS P y Q S):WpS P c Q aI:=by
 subst e
 refine WpS.seq (WpS.mono h fun ex s hs=> ?_)
 cases ex with
 | normal=>exact WpS.mF (aj hs.1) hs.2
 | _=>exact hs
theorem ck.normal [cH] {S s:St} {ψ:Prop} {Q:Exit→St→Prop} (aG:ψ) (h:Weak s S):ck S ψ Q .normal s:=⟨aG,h⟩
theorem ck.ret [cH] {S s:St} {ψ:Prop} {Q:Exit→St→Prop} (h:Q .ret s):ck S ψ Q .ret s:=h
theorem ck.exit [cH] {S s:St} {ψ:Prop} {Q:Exit→St→Prop} {id:Nat} (h:Q (.exit id) s):ck S ψ Q (.exit id) s:=h
def eb [cH] {V:Type} (S:V→St) (I:V→Prop) (m:V→Nat) (v:V) (Q:Exit→St→Prop) (ex:Exit) (s:St):Prop:=match ex with
 | .normal=> ∃e4,I e4∧m e4<m v∧Weak s (S e4)
 | ex=>Q ex s
theorem WpS.NZ [cH] {P:Program} {c x:Code} {Q:Exit→St→Prop} {aI:St} {V:Type} (S:V→St) (I:V→Prop) (m:V→Nat) (e:c= .loop x) (h5:V) (hs:Weak aI (S h5)) (aT:I h5)
  (round: ∀v,I v→WpS P x (eb S I m v Q) (S v)):WpS P c Q aI:=
 WpS.Z8 S I m e h5 hs aT fun v hv=>WpS.mono (round v hv) fun ex s h=>by
  cases ex<;>exact h
theorem eb.again [cH] {V:Type} {S:V→St} {I:V→Prop} {m:V→Nat} {v:V} {Q:Exit→St→Prop} {s:St} (e4:V) (h:I e4∧m e4<m v) (hw:Weak s (S e4)):eb S I m v Q .normal s:=⟨e4,h.1,h.2,hw⟩
theorem eb.ret [cH] {V:Type} {S:V→St} {I:V→Prop} {m:V→Nat} {v:V} {Q:Exit→St→Prop} {s:St} (h:Q .ret s):eb S I m v Q .ret s:=h
theorem eb.exit [cH] {V:Type} {S:V→St} {I:V→Prop} {m:V→Nat} {v:V} {Q:Exit→St→Prop} {s:St} {id:Nat} (h:Q (.exit id) s):eb S I m v Q (.exit id) s:=h
@[irreducible] def bT (c:Code) (n:Nat):Code:=s4 c ((List.range (Nat.log2 n)).map fun i=>(n>>>i)%2).reverse
def jF (c:Code) (n:Nat):Array Oper:=match bT c n with
 | .region _ ops _=>ops
 | _=> #[]
theorem hB [cH] {s s' s'':St} (h:Weak s s') (e:s'=s''):Weak s s'':=e▸h
def kT (H:List Blk) (c d:List AV):Prop:=c.length=d.length∧ ∀(j:Nat) (a b:AV),c[j]?=some a→d[j]?=some b→gD H a a∧b=kq a
theorem acu {H:List Blk} {α:Type} {eT eF:α→List AV} {b:Nat} {g sz:Nat} {full:Bool} {xs:List α} (hb:H[b]?=some ⟨g,sz,List.map eT xs⟩) (aF:xs.length≤4611686018427387904) (hc: ∀x,kT H (eT x) (eF x)):
  gD H (.ref b g 0 xs.length full) (.bz (List.map eF xs) false true):=by
 refine gD.ref (fun h=>by cases h) (fun i j=>((xs[i]?).bind fun x=>(eT x)[j]?).getD .undef) hb rfl (by rw[List.length_map]) aF (by simp) (fun i row row' h1 h2=> ?_) (fun i j row a hi h1 h2=> ?_) (fun i j row' c h1 h2=> ?_)
 ·have h1:(List.map eT xs)[0+i]?=some row:=h1
  rw[Nat.zero_add,List.getElem?_map] at h1
  rw[List.getElem?_map] at h2
  cases hx:xs[i]? with
  | none=>rw[hx] at h1;cases h1
  | some x=>rw[hx] at h1 h2;cases h1;cases h2;exact(hc x).1
 ·have h1:(List.map eT xs)[0+i]?=some row:=h1
  rw[Nat.zero_add,List.getElem?_map] at h1
  cases hx:xs[i]? with
  | none=>rw[hx] at h1;cases h1
  | some x=>
   rw[hx] at h1;cases h1
   show gD H a (((some x).bind fun x=>(eT x)[j]?).getD .undef)
   have aM:(eT x)[j]?=some a:=h2
   have he:((some x).bind fun x=>(eT x)[j]?).getD .undef=a:=by
    show((eT x)[j]?).getD .undef=a
    rw[aM];rfl
   rw[he]
   have bc:j<(eF x).length:=by rw[←(hc x).1];exact(List.getElem?_eq_some_iff.1 aM).1
   exact((hc x).2 j a _ aM (List.getElem?_eq_getElem bc)).1
 ·rw[List.getElem?_map] at h1
  cases hx:xs[i]? with
  | none=>rw[hx] at h1;cases h1
  | some x=>
   rw[hx] at h1;cases h1
   show c=kq (((some x).bind fun x=>(eT x)[j]?).getD .undef)
   have bc:j<(eT x).length:=by rw[(hc x).1];exact(List.getElem?_eq_some_iff.1 h2).1
   have aM:=List.getElem?_eq_getElem bc
   have he:((some x).bind fun x=>(eT x)[j]?).getD .undef=(eT x)[j]:=by
    show((eT x)[j]?).getD .undef=_
    rw[aM];rfl
   rw[he]
   exact((hc x).2 j _ c aM h2).2
theorem kT.nil {H:List Blk}:kT H [] []:=⟨rfl,fun j a b h=>by simp at h⟩
theorem kT.cons {H:List Blk} {a b:AV} {c d:List AV} (h1:gD H a a) (h2:b=kq a) (h:kT H c d):kT H (a::c) (b::d):=
 ⟨by simp[h.1],fun j x y hx br=>by
  cases j with
  | zero=>simp at hx br;subst hx;subst br;exact⟨h1,h2⟩
  | succ j=>exact h.2 j x y (by simpa using hx) (by simpa using br)⟩
theorem TH {H:List Blk} (n:Int):kT H (db n) (db n):= .cons (.int _ _) rfl .nil
theorem TJ {H:List Blk} (n:UInt8):kT H (qi n) (qi n):= .cons (.int _ _) rfl .nil
theorem vP {H:List Blk} (b:Bool):kT H (aW b) (aW b):= .cons (.bool _) rfl .nil
theorem TI {H:List Blk} (b:ByteArray):kT H (DX b) (DX b):= .cons (.str _) rfl .nil
theorem kA {H:List Blk} (rows:List (List AV)):gD H (.bz rows false true) (.bz rows false true):= .bz _ _ _ id
theorem J2 {H:List Blk} (x:cx):kT H (dj x) (dj x):= .cons (.int _ _) rfl (.cons (.int _ _) rfl .nil)
theorem TF {H:List Blk} (x:Event):kT H (iN x) (iN x):= .cons (.int _ _) rfl (.cons (.int _ _) rfl (.cons (.int _ _) rfl .nil))
theorem ya {H:List Blk} (x:bd):kT H (a5 x) (a5 x):= .cons (.int _ _) rfl (.cons (.int _ _) rfl .nil)
theorem TK {H:List Blk} (x:Way):kT H (dx true x) (dx false x):= .cons (kA _) rfl (.cons (kA _) rfl (.cons (kA _) rfl (.cons (kA _) rfl (.cons (kA _) rfl .nil))))
theorem TG {H:List Blk} (x:ad):kT H (cX true x) (cX false x):= .cons (.int _ _) rfl (.cons (.int _ _) rfl (.cons (kA _) rfl (.cons (.bool _) rfl (.cons (.int _ _) rfl .nil))))
theorem TE {H:List Blk} (x:fv):kT H (rp true x) (rp false x):= .cons (.int _ _) rfl (.cons (.bool _) rfl (.cons (kA _) rfl (.cons (kA _) rfl (.cons (kA _) rfl .nil))))
theorem R9 {H:List Blk} {α:Type} {eT eF:α→List AV} {b g sz:Nat} {full:Bool} {xs ys:List α} (hb:H[b]?=some ⟨g,sz,List.map eT xs⟩) (hc: ∀x,kT H (eT x) (eF x)) (h:xs.length≤4611686018427387904∧xs=ys):
  gD H (.ref b g 0 xs.length full) (.bz (List.map eF ys) false true):=h.2▸acu hb h.1 hc
theorem vf {H:List Blk} {α:Type} {e:α→List AV} {ys:List α} {full fr:Bool} (h:[]=ys):gD H (.bz [] full fr) (.bz (List.map e ys) false true):=h▸ .N1 _ _ _ (fun h=>by cases h)
theorem ve {H:List Blk} {α:Type} {e:α→List AV} {xs ys:List α} {full:Bool} (h:xs=ys):gD H (.bz (List.map e xs) full true) (.bz (List.map e ys) false true):=h▸ .bz _ _ _ (fun h=>by cases h)
theorem xD {H:List Blk} {k:IntKind} {a b:Int} (h:a=b):gD H (.int k a) (.int k b):=h▸ .int k a
theorem nD {H:List Blk} {a b:Bool} (h:a=b):gD H (.bool a) (.bool b):=h▸ .bool a
theorem aeI {H:List Blk} {a b:ByteArray} (h:a=b):gD H (.str a) (.str b):=h▸ .str a
theorem cW {L:List (Nat×List AV)} {H:List Blk} {rows:List (List AV)} {full fr:Bool}:fZ L H (.bz rows full fr) (.bz rows false false):= .bz _ _ _ _ (fun h=>by cases h)
def oy (L:List (Nat×List AV)) (H:List Blk) (c d:List AV):Prop:=c.length=d.length∧ ∀(j:Nat) (a b:AV),c[j]?=some a→d[j]?=some b→fZ L H a b
theorem PC {L:List (Nat×List AV)} {H:List Blk} {α:Type} {eT eF:α→List AV} {b g sz:Nat} {full:Bool} {xs:List α} (hb:H[b]?=some ⟨g,sz,List.map eT xs⟩) (hc: ∀x,oy L H (eT x) (eF x)) (aF:xs.length≤4611686018427387904):
  fZ L H (.ref b g 0 xs.length full) (.bz (List.map eF xs) false false):=by
 refine fZ.ref (fun h=>by cases h) hb rfl (by rw[List.length_map]) aF (by simp) (fun i row row' h1 h2=> ?_) (fun i j row row' a c h1 h2 aO bb=> ?_)
 ·have h1:(List.map eT xs)[0+i]?=some row:=h1
  rw[Nat.zero_add,List.getElem?_map] at h1
  rw[List.getElem?_map] at h2
  cases hx:xs[i]? with
  | none=>rw[hx] at h1;cases h1
  | some x=>rw[hx] at h1 h2;cases h1;cases h2;exact(hc x).1
 ·have h1:(List.map eT xs)[0+i]?=some row:=h1
  rw[Nat.zero_add,List.getElem?_map] at h1
  rw[List.getElem?_map] at h2
  cases hx:xs[i]? with
  | none=>rw[hx] at h1;cases h1
  | some x=>rw[hx] at h1 h2;cases h1;cases h2;exact(hc x).2 j a c aO bb
theorem oy.nil {L:List (Nat×List AV)} {H:List Blk}:oy L H [] []:=⟨rfl,fun j a b h=>by simp at h⟩
theorem oy.cons {L:List (Nat×List AV)} {H:List Blk} {a b:AV} {c d:List AV} (h1:fZ L H a b) (h:oy L H c d):oy L H (a::c) (b::d):=
 ⟨by simp[h.1],fun j x y hx br=>by
  cases j with
  | zero=>simp at hx br;subst hx;subst br;exact h1
  | succ j=>exact h.2 j x y (by simpa using hx) (by simpa using br)⟩
section
variable {L:List (Nat×List AV)} {H:List Blk}
theorem sT (b:Bool):oy L H (aW b) (aW b):= .cons (.bool _) .nil
theorem uy (x:bd):oy L H (a5 x) (a5 x):= .cons (.int _ _) (.cons (.int _ _) .nil)
end
def eJ {α:Type} (F:(α→Prop)→Prop):Prop:= ∀K,F K→ ∃r,K r∧F (fun x=>x=r)
theorem eJ.ret {α:Type} (r:α):eJ fun K=>K r:=fun K h=>⟨r,h,rfl⟩
theorem eJ.no {α:Type}:eJ (α:=α) fun _=>False:=fun K h=>h.elim
theorem eJ.and {α:Type} {φ:Prop} {F:(α→Prop)→Prop} (h:eJ F):eJ fun K=>φ∧F K:=fun K ⟨aG,hf⟩=>by
 obtain⟨r,h1,h2⟩:=h K hf
 exact⟨r,h1,aG,h2⟩
theorem eJ.Ta {α:Type} {φ:Prop} {F:(α→Prop)→Prop} (h:φ→eJ F):eJ fun K=>φ∧F K:=fun K ⟨aG,hf⟩=>by
 obtain⟨r,h1,h2⟩:=h aG K hf
 exact⟨r,h1,aG,h2⟩
theorem eJ.bind {α β:Type} {o:Option β} {F:β→(α→Prop)→Prop} (h: ∀b,eJ (F b)):eJ fun K=>c3 o fun b=>F b K:=fun K hf=>by
 cases o with
 | none=>exact hf.elim
 | some b=>exact h b K hf
theorem eJ.ite {α:Type} {c:Prop} [Decidable c] {F G:(α→Prop)→Prop} (h:eJ F) (k:eJ G):eJ fun K=>if c then F K else G K:=by
 intro K hf
 by_cases hc:c
 ·rw[if_pos hc] at hf
  obtain⟨r,h1,h2⟩:=h K hf
  exact⟨r,h1,by show if c then _ else _;rw[if_pos hc];exact h2⟩
 ·rw[if_neg hc] at hf
  obtain⟨r,h1,h2⟩:=k K hf
  exact⟨r,h1,by show if c then _ else _;rw[if_neg hc];exact h2⟩
theorem eJ.e3 {α:Type} {b:Bool} {F:(α→Prop)→Prop} (h:eJ F):eJ fun K=>e3 b (F K):=by
 cases b with
 | true=>exact h
 | false=>exact eJ.no
theorem I5 {P:Program} {t:TypeId} {cells:List AV} {c:Nat}:eJ (js P t cells c):=by
 unfold js
 exact .ite (.ite (.ite (.ret _) .no) (.bind fun _=> .ret _)) .no
theorem ZI {P:Program} {t:TypeId} {x:AV} {L:List (Nat×List AV)} {H:List Blk}:eJ (oR P t x L H):=by
 cases x with
 | fF s c=>exact .bind fun _=>I5
 | ptr b g r c=>exact .bind fun _=> .and (.bind fun _=>I5)
 | dv cells c=>exact I5
 | _=>exact .no
theorem aam {x:AV}:eJ (GD x):=by
 cases x<;>first | exact .no | exact .ret _
theorem Tr {op:BinOp} {k:IntKind} {a b:Int}:eJ (As op k a b):=by
 cases op<;>first | exact .no | exact .ret _ | exact .and (.ret _)
theorem Tq {op:BinOp} {k kH:IntKind} {a b:Int}:eJ (At op k a kH b):=by
 cases op<;>first | exact .and (.ret _) | exact .ite Tr .no
def x7 (x:AV):Bool:=match x with
 | .bz _ _ _=>false
 | _=>true
theorem Ts {P:Program} {op:BinOp} {t:TypeId} {x y:AV} {sl:Bool} (hx:x7 x=true):eJ (su P op t x y sl):=by
 cases x with
 | int k a=>cases y<;>first | exact .no | exact Tq
 | bool a=>
  cases y with
  | bool b=>exact .ite (by cases op<;>first | exact .no | exact .ret _) .no
  | _=>exact .no
 | str a=>
  cases y with
  | str b=>
   show eJ (Dh op a b)
   cases op<;>first | exact .no | exact .ret _ | exact .and (.ret _)
  | _=>exact .no
 | agg l=>
  cases y with
  | agg m=>exact .ite (.bind fun p=> .bind fun q=>by
    show eJ (Di op p.1 p.2 q.1 q.2)
    cases op<;>first | exact .no | exact .ret _) .no
  | _=>exact .no
 | bz rows eB fr=>cases hx
 | _=>exact .no
theorem ae6 {op:UnOp} {x:AV}:eJ (CS op x):=by
 cases op<;>cases x<;>first | exact .no | exact .ret _
theorem Ul {P:Program} {s d:TypeId} {x:AV}:eJ (DL P s d x):=by
 cases x with
 | int k n=>exact .bind fun _=> .bind fun _=> .ret _
 | _=>exact .no
theorem UX {P:Program} {t:TypeId} {x:AV} {f:Nat}:eJ (Eg P t x f):=by
 refine .bind fun fd=> .ite ?_ .no
 cases x<;>first | exact .no | exact .ret _
theorem XT {P:Program} {t:TypeId} {x i:AV} {H:List Blk}:eJ (wP P t x i H):=by
 refine .bind fun e=> .ite ?_ .no
 cases i with
 | int k n=>
  cases x with
  | bz rows eB fr=>exact .and (.bind fun _=> .and (.ret _))
  | ref b g off m eB=>exact .bind fun _=> .and (.and (.and (.and (.ret _))))
  | _=>exact .no
 | _=>exact .no
theorem X2 {P:Program} {t:TypeId} {x i:AV}:eJ (Fq P t x i):=by
 cases x with
 | str s=>
  cases i with
  | int k n=>
   show eJ fun K:AV→Prop=>(match P.underlying t with
   | some .string=>0≤n∧n<s.size∧K (.int .u8 (s.data.getD n.toNat 0).toNat)
   | _=>False)
   split
   ·exact .and (.and (.ret _))
   ·exact .no
  | _=>exact .no
 | _=>exact .no
theorem vM {α:Type} {x:Option AV} {d:Nat} {F:Nat→(α→Prop)→Prop} (h: ∀n,eJ (F n)):eJ fun K=>mc x d fun n=>F n K:=by
 cases x with
 | none=>exact h d
 | some a=>
  cases a with
  | int k n=>exact .and (h _)
  | _=>exact .no
theorem abS {P:Program} {t:TypeId} {x:AV} {lo hi:Option AV} {H:List Blk}:eJ (vb P t x lo hi H):=by
 cases x with
 | str s=>
  show eJ fun K:AV→Prop=>(match P.underlying t with
   | some .string=>mc lo 0 fun l=>mc hi s.size fun h=>l≤h∧h≤s.size∧K (.str (s.extract l h))
   | _=>False)
  split
  ·exact vM fun l=>vM fun h=> .and (.and (.ret _))
  ·exact .no
 | bz rows eB fr=>exact .bind fun e=> .ite (vM fun l=>vM fun h=> .and (.and (.and (.ret _)))) .no
 | ref b g off n eB=>
  refine .bind fun e=> .ite (.bind fun blk=> .and (.and (vM fun l=>vM fun h=> .Ta fun hle=> .and ?_))) .no
  intro K ⟨h1,h2⟩
  rcases Nat.lt_trichotomy l h with bc | yB | pA
  ·exact⟨_,h1 bc,fun _=>rfl,fun e=>absurd e (by omega)⟩
  ·exact⟨_,h2 yB,fun e=>absurd e (by omega),fun _=>rfl⟩
  ·omega
 | _=>exact .no
theorem UR {x:AV} {i:Nat}:eJ (Ec x i):=by
 cases x with
 | tup l=>exact .bind fun _=> .ret _
 | _=>exact .no
theorem aah {fn:Fn} {first:Array Operand} {caps:List AV}:eJ (zc fn first caps):=by
 cases fn with
 | func f=>exact .ite (.ret _) .no
 | _=>exact .no
theorem TC {P:Program} {t:TypeId} {parts:List (Nat×AV)}:eJ (Dl P t parts):= .bind fun _=> .bind fun _=> .bind fun _=> .ret _
theorem TA {P:Program} {t:TypeId} {n:Nat} {parts:List (Nat×AV)}:eJ (vO P t n parts):= .bind fun _=> .bind fun _=> .ite (.bind fun _=> .ite (.ret _) .no) .no
def r0 (x:AV) (K:AV→Prop):Prop:=match x with
 | .bz rows _ _=>K (.int .i64 rows.length)
 | .str s=>K (.int .i64 s.size)
 | .ref _ _ _ n _=>K (.int .i64 n)
 | _=>False
theorem ZN {x:AV}:eJ (r0 x):=by
 cases x<;>first | exact .no | exact .ret _
theorem ZO {x:AV} {K:AV→Prop} (h:r0 x K):rZ x K:=by
 cases x<;>first | exact h | exact fun _=>h
theorem TX {P:Program} {f:FuncId} {args:List AV} {L:List (Nat×List AV)} {H:List Blk}:eJ (oF P f args L H):=fun K ⟨aF,eu,t,h1,h2,aO⟩=>⟨t,aO,aF,eu,t,h1,h2,rfl⟩
def UL (P:Program) (c:Call) (bO:Operand→AV) (L:List (Nat×List AV)) (H:List Blk) (K:AV→Prop):Prop:=match c.callee with
 | .builtin .len=>(match c.args.toList,c.argTypes.toList with
  | [x],[t]=>e3 (jY P t (bO x)) (r0 (bO x) K)
  | _,_=>False)
 | .value f=>lQ (bO f) fun g caps=>oF P g (c.args.toList.map bO++caps) L H K
 | _=>False
def jR (P:Program) (o:Oper) (bO:Operand→AV) (L:List (Nat×List AV)) (H:List Blk) (K:AV→Prop):Prop:=match o.op with
 | .call c=>UL P c bO L H K
 | .pick c x y=>oD (bO c) fun z=>pg true z (K (bO x)) (K (bO y))
 | .binOp op t x y _=>e3 (x7 (bO x)) (su P op t (bO x) (bO y) (qF y) K)
 | _=>sC P o bO L H K
theorem AU {P:Program} {o:Oper} {bO:Operand→AV} {L:List (Nat×List AV)} {H:List Blk} {K:AV→Prop} (h:jR P o bO L H K):sC P o bO L H K:=by
 obtain⟨dst,op,ty,pos,after,guard⟩:=o
 cases op with
 | call c=>
  obtain⟨callee,args,argTypes⟩:=c
  cases callee with
  | builtin b=>
   cases b with
   | len=>
    have h:(match args.toList,argTypes.toList with
     | [x],[t]=>e3 (jY P t (bO x)) (r0 (bO x) K)
     | _,_=>False):=h
    show(match args.toList,argTypes.toList with
     | [x],[t]=>e3 (jY P t (bO x)) (rZ (bO x) K)
     | _,_=>False)
    split at h
    ·obtain⟨h1,h2⟩:=pM h
     simp only[h1];exact ZO h2
    ·exact h.elim
   | _=>exact h.elim
  | value f=>exact h
  | _=>exact h.elim
 | binOp op t x y ty2=>exact(pM (show e3 (x7 (bO x)) (su P op t (bO x) (bO y) (qF y) K) from h)).2
 | pick c x y=>
  obtain⟨b,hb,hw⟩:=An (show oD (bO c) fun z=>pg true z (K (bO x)) (K (bO y)) from h)
  show oD (bO c) fun z=>x5 z (K (bO x)) (K (bO y))
  rw[hb];exact Aw hw
 | _=>exact h
theorem Tp {α:Type} {z:Bool} {x y:α}:eJ fun K=>pg true z (K x) (K y):=by
 cases z with
 | true=>exact .ret x
 | false=>exact .ret y
theorem Th {α:Type} {v:AV} {F:Bool→(α→Prop)→Prop} (h: ∀b,eJ (F b)):eJ fun K=>oD v fun b=>F b K:=by
 cases v with
 | bool b=>exact h b
 | _=>exact .no
theorem UO {P:Program} {o:Oper} {bO:Operand→AV} {L:List (Nat×List AV)} {H:List Blk}:eJ (jR P o bO L H):=by
 obtain⟨dst,op,ty,pos,after,guard⟩:=o
 cases op with
 | move x=>exact .ret _
 | assign x=>exact .ret _
 | pick c x y=>exact Th fun z=>Tp
 | build t ps=>exact .e3 TC
 | buildSlice t n ps=>exact .e3 TA
 | load t a=>exact ZI
 | nilCheck x=>exact aam
 | binOp op t x y ty2=>
  show eJ fun K=>e3 (x7 (bO x)) (su P op t (bO x) (bO y) (qF y) K)
  cases hb:x7 (bO x) with
  | true=>exact Ts hb
  | false=>exact .no
 | unOp op t x=>exact ae6
 | convert s d x=>exact Ul
 | makeFunc fn first caps=>exact aah
 | fieldAddr t x f=>exact UX
 | indexAddr t x i=>exact XT
 | index t x i=>exact X2
 | slice t x lo hi mx=>
  cases mx with
  | none=>exact abS
  | some m=>exact .no
 | extract x i=>exact UR
 | call c=>
  obtain⟨callee,args,argTypes⟩:=c
  cases callee with
  | builtin b=>
   cases b with
   | len=>
    show eJ fun K=>(match args.toList,argTypes.toList with
     | [x],[t]=>e3 (jY P t (bO x)) (r0 (bO x) K)
     | _,_=>False)
    split
    ·exact .e3 ZN
    ·exact .no
   | _=>exact .no
  | value f=>
   show eJ fun K=>lQ (bO f) fun g caps=>oF P g (args.toList.map bO++caps) L H K
   cases bO f with
   | fn g caps=>exact TX
   | _=>exact .no
  | _=>exact .no
 | _=>exact .no
structure Item where
 i:Nat
 lit:Bool
 q:Bool
 jx:List Nat
def Jn:AV→AV→Bool
 | .int k n,.int kH pJ=>decide (k=kH)&&decide (n=pJ)
 | .bool b,.bool cl=>b==cl
 | .bz [] f g,.bz [] AY dG=>f==AY&&g==dG
 | .gd,.gd=>true
 | _,_=>false
def CZ:List AV→List AV→Bool
 | [],[]=>true
 | a::l,b::m=>Jn a b&&CZ l m
 | _,_=>false
theorem afJ {a b:AV} (h:Jn a b=true):a=b:=by
 unfold Jn at h
 split at h
 ·simp only[Bool.and_eq_true,decide_eq_true_eq] at h;rw[h.1,h.2]
 ·rw[eq_of_beq h]
 ·simp only[Bool.and_eq_true] at h;rw[eq_of_beq h.1,eq_of_beq h.2]
 ·rfl
 ·cases h
theorem SX: ∀{l m:List AV},CZ l m=true→l=m
 | [],[],_=>rfl
 | [],_::_,h=>by cases h
 | _::_,[],h=>by cases h
 | a::l,b::m,h=>by
  simp only[CZ,Bool.and_eq_true] at h
  rw[afJ h.1,SX h.2]
def pH (o:Oper):Bool:=match o.op with
 | .alloc _=>true
 | _=>false
def Jy (P:Program) (e:TypeId) (dst:Option Nat) (L:List (Nat×List AV)) (K:AV→Prop):Prop:=c3 (m_ P e) fun z=>c3 dst fun t=>c3 (eU L t) fun c=>e3 (z.all iY) (e3 (CZ c z) (K (.fF t 0)))
def lj (P:Program) (o:Oper) (bO:Operand→AV) (L:List (Nat×List AV)) (H:List Blk) (K:AV→Prop):Prop:=match o.op with
 | .alloc e=>Jy P e o.dst L K
 | _=>jR P o bO L H K
theorem v5 {P:Program} {o:Oper} {bO:Operand→AV} {L:List (Nat×List AV)} {H:List Blk} {K:AV→Prop} (h:pH o=false):lj P o bO L H K=jR P o bO L H K:=by
 obtain⟨dst,op,ty,pos,after,guard⟩:=o
 cases op<;>first | rfl | cases h
theorem UN {P:Program} {o:Oper} {bO:Operand→AV} {L:List (Nat×List AV)} {H:List Blk}:eJ (lj P o bO L H):=by
 cases h:pH o with
 | false=>intro K hk;rw[v5 h] at hk;obtain⟨r,h1,h2⟩:=UO K hk;exact⟨r,h1,by rw[v5 h];exact h2⟩
 | true=>
  obtain⟨dst,op,ty,pos,after,guard⟩:=o
  cases op
  case alloc e=>exact eJ.bind fun _=> .bind fun _=> .bind fun _=> .e3 (.e3 (.ret _))
  all_goals cases h
def opI (ops:Array Oper) (i:Nat):Oper:=ops.getD i default
def sy (o:Oper) (T:List AV):AV:=match o.dst with
 | some d=>T.getD d .undef
 | none=> .undef
def rz (P:Program) (ops:Array Oper):List Nat→List AV→List (Nat×List AV)→List Blk→Prop
 | [],_,_,_=>True
 | i::r,T,L,H=>((opI ops i).guard.isNone=true∧(opI ops i).dst.isSome=true∧lj P (opI ops i) (cr T) L H (fun v=>v=sy (opI ops i) T))∧rz P ops r T L H
theorem KY {P:Program} {ops:Array Oper} {T:List AV} {L:List (Nat×List AV)} {H:List Blk}: ∀{jx:List Nat},rz P ops jx T L H→ ∀i∈jx,(opI ops i).guard.isNone=true∧(opI ops i).dst.isSome=true∧lj P (opI ops i) (cr T) L H (fun v=>v=sy (opI ops i) T)
 | [],_,i,hi=>by cases hi
 | j::r,h,i,hi=>by
  rcases List.mem_cons.1 hi with rfl | hi
  ·exact h.1
  ·exact KY h.2 i hi
def kc (P:Program) (esc:List Nat) (ops:Array Oper):List Item→List AV→List (Nat×List AV)→List Blk→(List AV→List (Nat×List AV)→List Blk→Prop)→Prop
 | [],T,L,H,K=>K T L H
 | x::rest,T,L,H,K=>nY ops x.lit (opI ops x.i) T
   (fun T=>match x.q with
    | true=>lj P (opI ops x.i) (cr T) L H fun v=>kc P esc ops rest (putA T (opI ops x.i).dst v) L H K
    | false=>kb P esc (opI ops x.i) (cr T) L H fun v L' H'=>rz P ops x.jx T L' H'∧kc P esc ops rest (putA T (opI ops x.i).dst v) L' H' K)
   (fun T=>kc P esc ops rest (putA T (opI ops x.i).dst (.tup [])) L H K)
theorem KG {P:Program} {o:Oper} {bO fX:Operand→AV} {L:List (Nat×List AV)} {H:List Blk} {K:AV→Prop} (h: ∀x∈o.op.operands,bO x=fX x):sC P o bO L H K=sC P o fX L H K:=by
 obtain⟨dst,op,ty,pos,after,guard⟩:=o
 have Ou: ∀ps:Array (Nat×Operand),(∀x∈ps.map (·.2),bO x=fX x)→(ps.toList.map fun p=>(p.1,bO p.2))=(ps.toList.map fun p=>(p.1,fX p.2)):=fun ps aG=>
  List.map_congr_left fun p hm=>by rw[aG p.2 (Array.mem_map.2 ⟨p,by simpa using hm,rfl⟩)]
 have JD: ∀ps:Array (Nat×Operand),(∀x∈ps.map (·.2),bO x=fX x)→(ps.toList.all fun p=>e1 (bO p.2))=(ps.toList.all fun p=>e1 (fX p.2)):=fun ps aG=>by
  rw[Bool.eq_iff_iff,List.all_eq_true,List.all_eq_true]
  constructor<;>intro q p hm
  ·rw[←aG p.2 (Array.mem_map.2 ⟨p,by simpa using hm,rfl⟩)];exact q p hm
  ·rw[aG p.2 (Array.mem_map.2 ⟨p,by simpa using hm,rfl⟩)];exact q p hm
 have bz: ∀xs:Array Operand,(∀x∈xs,bO x=fX x)→xs.toList.map bO=xs.toList.map fX:=fun xs hx=>List.map_congr_left fun p hm=>hx p (by simpa using hm)
 cases op<;>simp only[Op.operands] at h
 case build t ps=>
  show e3 _ _=e3 _ _
  rw[Ou ps fun x hx=>h x (by simpa using hx),JD ps fun x hx=>h x (by simpa using hx)]
 case buildSlice t n ps=>
  show e3 _ _=e3 _ _
  rw[Ou ps fun x hx=>h x (by simpa using hx),JD ps fun x hx=>h x (by simpa using hx)]
 case makeFunc fn first caps=>
  show zc fn first (caps.toList.map bO) K=zc fn first (caps.toList.map fX) K
  rw[bz caps fun x hx=>h x (by simp[hx])]
 case slice t x lo hi mx=>
  cases mx with
  | some m=>rfl
  | none=>
   show vb P t (bO x) (lo.map bO) (hi.map bO) H K=vb P t (fX x) (lo.map fX) (hi.map fX) H K
   cases lo<;>cases hi<;>simp_all
 case call c=>
  obtain⟨callee,args,argTypes⟩:=c
  have a4: ∀x∈args,bO x=fX x:=fun x hx=>h x (by simp[Call.operands,hx])
  cases callee with
  | builtin b=>
   cases b with
   | len=>
    show(match args.toList,argTypes.toList with
     | [x],[t]=>e3 (jY P t (bO x)) (rZ (bO x) K)
     | _,_=>False)=(match args.toList,argTypes.toList with
     | [x],[t]=>e3 (jY P t (fX x)) (rZ (fX x) K)
     | _,_=>False)
    split
    ·rename_i x t h1 h2
     rw[a4 x (by rw[←Array.mem_toList_iff,h1];simp)]
    ·rfl
   | _=>rfl
  | value f=>
   have hf:bO f=fX f:=h f (by simp[Call.operands])
   show lQ (bO f) _=lQ (fX f) _
   rw[hf,bz args a4]
  | invoke r m=>rfl
 all_goals (first | rfl | (simp only[sC];simp_all;done))
theorem KF {P:Program} {o:Oper} {bO fX:Operand→AV} {L:List (Nat×List AV)} {H:List Blk} {K:AV→Prop} (h: ∀x∈o.op.operands,bO x=fX x):jR P o bO L H K=jR P o fX L H K:=by
 have hv:=fun K=>KG (P:=P) (L:=L) (H:=H) (K:=K) h
 obtain⟨dst,op,ty,pos,after,guard⟩:=o
 cases op
 case call c=>
  simp only[Op.operands] at h
  obtain⟨callee,args,argTypes⟩:=c
  have a4: ∀x∈args,bO x=fX x:=fun x hx=>h x (by simp[Call.operands,hx])
  cases callee with
  | builtin b=>
   cases b with
   | len=>
    show(match args.toList,argTypes.toList with
     | [x],[t]=>e3 (jY P t (bO x)) (r0 (bO x) K)
     | _,_=>False)=(match args.toList,argTypes.toList with
     | [x],[t]=>e3 (jY P t (fX x)) (r0 (fX x) K)
     | _,_=>False)
    split
    ·rename_i x t h1 h2
     rw[a4 x (by rw[←Array.mem_toList_iff,h1];simp)]
    ·rfl
   | _=>rfl
  | value f=>exact hv K
  | invoke r m=>rfl
 case pick c x y=>simp only[Op.operands] at h;simp only[jR];simp_all
 case binOp op t x y ty2=>simp only[Op.operands] at h;simp only[jR];simp_all
 all_goals exact hv K
theorem KB {P:Program} {o:Oper} {bO fX:Operand→AV} {L:List (Nat×List AV)} {H:List Blk} {K:AV→Prop} (h: ∀x∈o.op.operands,bO x=fX x):lj P o bO L H K=lj P o fX L H K:=by
 cases a4:pH o with
 | false=>rw[v5 a4,v5 a4];exact KF h
 | true=>
  obtain⟨dst,op,ty,pos,after,guard⟩:=o
  cases op
  case alloc e=>rfl
  all_goals cases a4
theorem UM {P:Program} {esc:List Nat} {o:Oper} {bO fX:Operand→AV} {L:List (Nat×List AV)} {H:List Blk} {K:AV→List (Nat×List AV)→List Blk→Prop} (h: ∀x∈o.op.operands,bO x=fX x):kb P esc o bO L H K=kb P esc o fX L H K:=by
 have hv:=fun K=>KG (P:=P) (L:=L) (H:=H) (K:=K) h
 obtain⟨dst,op,ty,pos,after,guard⟩:=o
 cases op
 case call c=>
  obtain⟨callee,args,argTypes⟩:=c
  have h':=h
  simp only[Op.operands] at h
  have a4: ∀x∈args,bO x=fX x:=fun x hx=>h x (by simp[Call.operands,hx])
  cases callee with
  | builtin b=>
   cases b with
   | len=>exact hv fun r=>K r L H
   | append=>
    show(match args.toList,argTypes.toList with
     | [s,x],[t,t2]=>e1 (bO s)=true∧e1 (bO x)=true∧tI P t t2 (bO s) (bO x) L H K
     | _,_=>False)=(match args.toList,argTypes.toList with
     | [s,x],[t,t2]=>e1 (fX s)=true∧e1 (fX x)=true∧tI P t t2 (fX s) (fX x) L H K
     | _,_=>False)
    split
    ·rename_i s x t t2 h1 h2
     rw[a4 x (by rw[←Array.mem_toList_iff,h1];simp),a4 s (by rw[←Array.mem_toList_iff,h1];simp)]
    ·rfl
   | _=>rfl
  | value f=>
   have hf:bO f=fX f:=h f (by simp[Call.operands])
   show lQ (bO f) _=lQ (fX f) _
   rw[hf,List.map_congr_left fun p hm=>a4 p (by simpa using hm)]
  | invoke r m=>rfl
 case alloc e=>rfl
 case buildSlice t n ps=>
  simp only[Op.operands] at h
  have h: ∀x∈ps.map (·.2),bO x=fX x:=fun x hx=>h x (by simpa using hx)
  have bx:(ps.toList.map fun p=>(p.1,bO p.2))=(ps.toList.map fun p=>(p.1,fX p.2)):=
   List.map_congr_left fun p hm=>by rw[h p.2 (Array.mem_map.2 ⟨p,by simpa using hm,rfl⟩)]
  have e2:(ps.toList.all fun p=>e1 (bO p.2))=(ps.toList.all fun p=>e1 (fX p.2)):=by
   rw[Bool.eq_iff_iff,List.all_eq_true,List.all_eq_true]
   constructor<;>intro q p hm
   ·rw[←h p.2 (Array.mem_map.2 ⟨p,by simpa using hm,rfl⟩)];exact q p hm
   ·rw[h p.2 (Array.mem_map.2 ⟨p,by simpa using hm,rfl⟩)];exact q p hm
  show e3 _ (tN P (tU esc dst) (u6 esc) t n _ L H K)=e3 _ (tN P (tU esc dst) (u6 esc) t n _ L H K)
  rw[bx,e2]
 case store t x y=>simp only[Op.operands] at h;simp only[kb];simp_all
 case box e x=>simp only[Op.operands] at h;simp only[kb];simp_all
 case makeSlice t l c=>simp only[Op.operands] at h;simp only[kb];simp_all
 all_goals exact hv fun r=>K r L H
structure vz (P:Program) (ops:Array Oper) (L:List (Nat×List AV)) (H:List Blk) (T:List AV) (o:Oper) (v:AV) (run:Bool):Prop where
 cC: ∀(E:Env) (a:Act),(∀t∈o.looksAt ops,V3 E (T.getD t .undef) (a.tmps.getD t undef))→T.length=a.tmps.size→Region.wanted o (yielded ops a.tmps)=run
 rf:run=true→lj P o (cr T) L H (fun r=>r=v)
 no:run=false→v= .tup []
 put: ∀d,o.dst=some d→d<T.length→T.getD d .undef=v
theorem Z7 {ops:Array Oper} {o:Oper} {t:Nat} (h: .tmp t∈o.op.operands):t∈o.looksAt ops:=
 List.mem_append_left _ (List.mem_filterMap.2 ⟨.tmp t,by simpa using h,rfl⟩)
theorem Z6 {ops:Array Oper} {o:Oper} {j t:Nat} {b:Bool} (hg:o.guard=some (j,b)) (bp:(ops[j]?).bind (·.dst)=some t):t∈o.looksAt ops:=by
 refine List.mem_append_right _ ?_
 rw[hg];simp[bp]
theorem B8 {ops:Array Oper} {o:Oper} {T T':List AV} (h: ∀t∈o.looksAt ops,T.getD t .undef=T'.getD t .undef): ∀x∈o.op.operands,cr T x=cr T' x:=fun x hx=>by
 cases x with
 | tmp t=>exact h t (Z7 hx)
 | _=>rfl
theorem vz.mono {P:Program} {ops:Array Oper} {L:List (Nat×List AV)} {H:List Blk} {T T':List AV} {o:Oper} {v:AV} {run:Bool} (h:vz P ops L H T o v run) (aL:T'.length=T.length)
  (a4: ∀t∈o.looksAt ops,T'.getD t .undef=T.getD t .undef) (bg: ∀d,o.dst=some d→T'.getD d .undef=T.getD d .undef):vz P ops L H T' o v run where
 cC:=fun E a hs aN=>h.cC E a (fun t bp=>by rw[←a4 t bp];exact hs t bp) (by rw[←aL];exact aN)
 rf:=fun aJ=>by
  rw[KB (B8 a4)]
  exact h.rf aJ
 no:=h.no
 put:=fun d pv bc=>by rw[bg d pv];exact h.put d pv (by rw[←aL];exact bc)
theorem La {P:Program} {ops:Array Oper} {lit:Bool} {o:Oper} {T:List AV} {x y:List AV→Prop} (h:nY ops lit o T x y):
  ∃T' run,T'.length=T.length∧(∀t,T'.getD t .undef=T.getD t .undef)∧(∀(E:Env) (a:Act),(∀t∈o.looksAt ops,V3 E (T.getD t .undef) (a.tmps.getD t undef))→T.length=a.tmps.size→Region.wanted o (yielded ops a.tmps)=run)∧(if run=true then x T' else y T'):=by
 unfold nY at h
 cases hg:o.guard with
 | none=>rw[hg] at h;exact⟨T,true,rfl,fun _=>rfl,fun E a _ _=>by simp[Region.wanted,hg],h⟩
 | some g=>
  obtain⟨j,cC⟩:=g
  rw[hg] at h
  simp only at h
  cases aM:(ops[j]?).bind (·.dst) with
  | none=>rw[aM] at h;exact h.elim
  | some t=>
   rw[aM] at h
   simp only at h
   have Bq:t∈o.looksAt ops:=Z6 hg aM
   have rQ: ∀b,T.getD t .undef= .bool b→ ∀s,(T.set t (.bool b)).getD s .undef=T.getD s .undef:=fun b hb s=>by
    rw[rE]
    by_cases hs:t=s∧t<T.length
    ·rw[if_pos hs,←hs.1,hb]
    ·rw[if_neg hs]
   split at h
   ·rename_i b hb
    obtain⟨h1,h2⟩:=Aw h
    have hw: ∀(E:Env) (a:Act),(∀t∈o.looksAt ops,V3 E (T.getD t .undef) (a.tmps.getD t undef))→T.length=a.tmps.size→Region.wanted o (yielded ops a.tmps)=(b==cC):=fun E a hs aN=>by
     have hv:=hs t Bq
     rw[hb] at hv
     have he:a.tmps.getD t undef= .bool b:=V3.rm hv
     have br:yielded ops a.tmps j=some b:=by
      unfold yielded
      rw[aM]
      rw[Array.getD_eq_getD_getElem?] at he
      cases aj:a.tmps[t]? with
      | none=>rw[aj] at he;cases he
      | some x=>rw[aj] at he;have:x= .bool b:=he;subst this;simp[aj]
     simp[Region.wanted,hg,br]
    cases b with
    | true=>refine⟨_,_,by simp,rQ true hb,hw,?_⟩;have:=h1 rfl;cases cC<;>exact this
    | false=>refine⟨_,_,by simp,rQ false hb,hw,?_⟩;have:=h2 rfl;cases cC<;>exact this
   ·rename_i hb
    refine⟨T,false,rfl,fun _=>rfl,fun E a hs aN=> ?_,h⟩
    have hv:=hs t Bq
    rw[hb] at hv
    obtain⟨vs,he,aG⟩:=(show ∃vs:List Value,a.tmps.getD t undef= .tuple vs.toArray∧aE (V2 E) [] vs from hv)
    obtain rfl:=aG.w0
    have br:yielded ops a.tmps j=none:=by
     unfold yielded
     rw[aM]
     rw[Array.getD_eq_getD_getElem?] at he
     cases aj:a.tmps[t]? with
     | none=>simp[aj]
     | some x=>rw[aj] at he;have:x= .tuple #[]:=he;subst this;simp[aj]
    simp[Region.wanted,hg,br]
   ·exact h.elim
theorem xi (T:List AV) (d:Option Nat) (v:AV):(putA T d v).length=T.length:=by
 cases d<;>simp[putA]
theorem Ci {T:List AV} {d:Option Nat} {v:AV} {t:Nat} (h:d≠some t):(putA T d v).getD t .undef=T.getD t .undef:=by
 cases d with
 | none=>rfl
 | some s=>
  show(T.set s v).getD t .undef=_
  rw[rE,if_neg]
  rintro⟨rfl,_⟩;exact h rfl
theorem OS {T:List AV} {d:Nat} {v:AV} (h:d<T.length):(putA T (some d) v).getD d .undef=v:=by
 show(T.set d v).getD d .undef=v
 rw[rE,if_pos ⟨rfl,h⟩]
def lL (ops:Array Oper):List Item→Prop
 | []=>True
 | x::r=>(∀t∈(opI ops x.i).looksAt ops,∀y∈x::r,(opI ops y.i).dst≠some t)∧(∀d,(opI ops x.i).dst=some d→ ∀y∈r,(opI ops y.i).dst≠some d)∧lL ops r
theorem Hz {P:Program} {esc:List Nat} {ops:Array Oper} {L:List (Nat×List AV)} {H:List Blk} {K:List AV→List (Nat×List AV)→List Blk→Prop}: ∀(l:List Item) (T:List AV),lL ops l→kc P esc ops l T L H K→
  ∃pre post oA,l=pre++post∧(∀x∈pre,x.q=true)∧(∀x r,post=x::r→x.q=false)∧kc P esc ops post oA L H K∧oA.length=T.length∧
   (∀t,(∀x∈pre,(opI ops x.i).dst≠some t)→oA.getD t .undef=T.getD t .undef)∧ ∀x∈pre,∃v run,vz P ops L H oA (opI ops x.i) v run
 | [],T,_,h=>⟨[],[],T,rfl,fun x hx=>(by cases hx),fun x r e=>(by cases e),h,rfl,fun _ _=>rfl,fun x hx=>(by cases hx)⟩
 | x::r,T,aB,h=>by
  cases aj:x.q with
  | false=>exact⟨[],x::r,T,rfl,fun x hx=>(by cases hx),fun y Cq e=>(by cases e;exact aj),h,rfl,fun _ _=>rfl,fun x hx=>(by cases hx)⟩
  | true=>
   obtain⟨mb,run,oN,lX,hw,fT⟩:=La (P:=P) h
   obtain⟨JF,Tb,Tc⟩:=aB
   have key: ∃v,kc P esc ops r (putA mb (opI ops x.i).dst v) L H K∧(run=true→lj P (opI ops x.i) (cr mb) L H (fun r=>r=v))∧(run=false→v= .tup []):=by
    cases run with
    | true=>
     have fT:(match x.q with
      | true=>lj P (opI ops x.i) (cr mb) L H fun v=>kc P esc ops r (putA mb (opI ops x.i).dst v) L H K
      | false=>_):=fT
     rw[aj] at fT
     obtain⟨v,h1,h2⟩:=UN _ fT
     exact⟨v,h1,fun _=>h2,fun e=>by cases e⟩
    | false=>exact⟨.tup [],fT,fun e=>(by cases e),fun _=>rfl⟩
   obtain⟨v,hv,XO,lY⟩:=key
   obtain⟨pre,post,oA,rfl,ul,kj,rK,hlen,hd,yC⟩:=Hz r _ Tc hv
   have sP: ∀y∈pre,y∈pre++post:=fun y br=>List.mem_append_left _ br
   have yJ: ∀t∈(opI ops x.i).looksAt ops,oA.getD t .undef=mb.getD t .undef:=fun t bp=>by
    rw[hd t fun y br=>JF t bp y (List.mem_cons_of_mem _ (sP y br)),Ci (JF t bp x (List.mem_cons_self ..))]
   refine⟨x::pre,post,oA,rfl,fun y br=> ?_,kj,rK,by rw[hlen,xi,oN],fun t bp=> ?_,fun y br=> ?_⟩
   ·rcases List.mem_cons.1 br with rfl | br
    ·exact aj
    ·exact ul y br
   ·rw[hd t fun y br=>bp y (List.mem_cons_of_mem _ br),Ci (bp x (List.mem_cons_self ..)),lX]
   ·rcases List.mem_cons.1 br with rfl | br
    ·refine⟨v,run,⟨fun E a hs aN=>hw E a (fun t bp=> ?_) ?_,fun aJ=> ?_,lY,fun d bg bc=> ?_⟩⟩
     ·rw[←lX t,←yJ t bp];exact hs t bp
     ·rw[←aN,hlen,xi,oN]
     ·rw[KB (B8 yJ)];exact XO aJ
     ·rw[hd d fun y br=>Tb d bg y (sP y br),bg]
      exact OS (by rw[hlen,xi] at bc;exact bc)
    ·exact yC y br
def tC (A:Nat→List Nat):List Item→List Item→Prop
 | _,[]=>True
 | p,h::r=>(h.q=false→(∀y∈r,h.i∈A y.i)∧ ∀x∈p,x.i∈A h.i∨x.i∈h.jx)∧tC A (p++[h]) r
theorem tC.at {A:Nat→List Nat}: ∀{pre p:List Item} {h:Item} {r:List Item},tC A p (pre++h::r)→h.q=false→(∀y∈r,h.i∈A y.i)∧ ∀x∈p++pre,x.i∈A h.i∨x.i∈h.jx
 | [],p,h,r,hb,aj=>by
  rw[List.append_nil];exact hb.1 aj
 | x::pre,p,h,r,hb,aj=>by
  have:=tC.at (pre:=pre) (p:=p++[x]) hb.2 aj
  simpa using this
structure Ab (ops:Array Oper) (ord:List Item) (A:Nat→List Nat):Prop where
 back: ∀i o,ops[i]?=some o→ ∀e∈o.after,Region.binds .any e=true→e.on<i
 S9: ∀i o,ops[i]?=some o→ ∀a∈A i,∃e∈o.after,Region.binds .any e=true∧(a=e.on∨a∈A e.on)
 all: ∀i,i<ops.size→ ∃x∈ord,x.i=i
 lt: ∀x∈ord,x.i<ops.size
 nodup:(ord.map (·.i)).Nodup
 ae_: ∀x∈ord,∀t∈(opI ops x.i).looksAt ops,∀y∈ord,(opI ops y.i).dst=some t→y.i∈A x.i
 apart:lL ops ord
 kW:tC A [] ord
theorem lL.tail {ops:Array Oper}: ∀{p r:List Item},lL ops (p++r)→lL ops r
 | [],_,h=>h
 | _::p,_,h=>lL.tail (p:=p) h.2.2
theorem lL.NG {ops:Array Oper}: ∀{p r:List Item},lL ops (p++r)→ ∀x∈p,(∀t∈(opI ops x.i).looksAt ops,∀y∈r,(opI ops y.i).dst≠some t)∧ ∀d,(opI ops x.i).dst=some d→ ∀y∈r,(opI ops y.i).dst≠some d
 | [],_,_,x,hx=>by cases hx
 | z::p,r,h,x,hx=>by
  rcases List.mem_cons.1 hx with rfl | hx
  ·exact⟨fun t bp y br=>h.1 t bp y (List.mem_cons_of_mem _ (List.mem_append_right _ br)),fun d bg y br=>h.2.1 d bg y (List.mem_append_right _ br)⟩
  ·exact lL.NG (p:=p) h.2.2 x hx
theorem lL.inj {ops:Array Oper}: ∀{l:List Item},lL ops l→ ∀x∈l,∀y∈l,x.i≠y.i→ ∀d,(opI ops x.i).dst=some d→(opI ops y.i).dst≠some d
 | [],_,x,hx,_,_,_,_,_=>by cases hx
 | z::r,h,x,hx,y,br,cm,d,bg=>by
  rcases List.mem_cons.1 hx with ex | ND
  ·rcases List.mem_cons.1 br with Ed | Gj
   ·exact absurd (by rw[ex,Ed]) cm
   ·exact h.2.1 d (by rw[←ex];exact bg) y Gj
  ·rcases List.mem_cons.1 br with Ed | Gj
   ·exact fun e=>h.2.1 d (by rw[←Ed];exact e) x ND bg
   ·exact lL.inj h.2.2 x ND y Gj cm d bg
theorem r4 {ops:Array Oper} {i:Nat} (h:i<ops.size):ops[i]?=some (opI ops i):=by
 unfold opI
 rw[Array.getElem?_eq_getElem h,Array.getD_eq_getD_getElem?,Array.getElem?_eq_getElem h];rfl
def C3 (ops:Array Oper) (S:Array Bool):Prop:= ∀i o,ops[i]?=some o→S.getD i false=true→ ∀e∈o.after,Region.binds .any e=true→S.getD e.on false=true
theorem S_ {ops:Array Oper} {ord:List Item} {A:Nat→List Nat} (D:Ab ops ord A) {S:Array Bool} (hs:S.size=ops.size) (hc:C3 ops S): ∀(i:Nat) o,ops[i]?=some o→(∀e∈o.after,Region.binds .any e=true→S.getD e.on false=true)→ ∀a∈A i,S.getD a false=true:=by
 intro i
 induction i using Nat.strongRecOn with
 | _ i bR=>
  intro o aC aJ a a4
  obtain⟨e,he,hb,rN⟩:=D.S9 i o aC a a4
  have sQ:=aJ e he hb
  rcases rN with rfl | rN
  ·exact sQ
  ·have bc:=D.back i o aC e he hb
   have cV:e.on<ops.size:=by
    rcases Nat.lt_or_ge e.on ops.size with h | h
    ·exact h
    ·rw[Array.getD_eq_getD_getElem?,Array.getElem?_eq_none (by omega)] at sQ;cases sQ
   exact bR e.on bc _ (r4 cV) (fun dW WL eh=>hc e.on _ (r4 cV) sQ dW WL eh) a rN
theorem Pc {ops:Array Oper} {S:Array Bool} (hs:S.size=ops.size) {i:Nat} (h:i∈Region.ready .any ops S):i<ops.size∧S.getD i false=false∧ ∀e∈(opI ops i).after,Region.binds .any e=true→S.getD e.on false=true:=by
 unfold Region.ready at h
 rw[List.mem_filter,List.mem_range] at h
 obtain⟨bc,h⟩:=h
 rw[r4 bc] at h
 simp only[Option.map_some,Option.getD_some,Bool.and_eq_true,Bool.not_eq_true',Array.all_eq_true_iff_forall_mem] at h
 obtain⟨h1,h2⟩:=h
 refine⟨bc,?_,fun e he hb=> ?_⟩
 ·rw[Array.getD_eq_getD_getElem?,Array.getElem?_eq_getElem (by omega)] at h1 ⊢;exact h1
 ·have:=h2 e he
  rw[hb] at this;simpa using this
theorem abf {ops:Array Oper} {ord:List Item} {A:Nat→List Nat} (D:Ab ops ord A) {S:Array Bool} (hs:S.size=ops.size) (h:Region.ready .any ops S=[]): ∀i,i<ops.size→S.getD i false=true:=by
 intro i
 induction i using Nat.strongRecOn with
 | _ i bR=>
  intro bc
  cases aj:S.getD i false with
  | true=>rfl
  | false=>
   exfalso
   have:i∈Region.ready .any ops S:=by
    unfold Region.ready
    rw[List.mem_filter,List.mem_range]
    refine⟨bc,?_⟩
    rw[r4 bc]
    simp only[Option.map_some,Option.getD_some,Bool.and_eq_true,Bool.not_eq_true',Array.all_eq_true_iff_forall_mem]
    refine⟨?_,fun e he=> ?_⟩
    ·rw[Array.getD_eq_getD_getElem?,Array.getElem?_eq_getElem (by omega)] at aj ⊢;exact aj
    ·cases hb:Region.binds .any e with
     | false=>rfl
     | true=>
      have aL:=D.back i _ (r4 bc) e he hb
      simpa using bR e.on aL (by omega)
   rw[h] at this;cases this
theorem Kc {α:Type} (p Ca:α→Bool) (j:α) (aG:p j=true) (sR:Ca j=false) (hk: ∀k,k≠j→p k=Ca k): ∀l:List α,l.Nodup→j∈l→l.countP p=l.countP Ca+1
 | [],_,h=>by cases h
 | k::l,aF,h=>by
  rw[List.nodup_cons] at aF
  by_cases EZ:k=j
  ·subst EZ
   rw[List.countP_cons_of_pos aG,List.countP_cons_of_neg (by simp[sR])]
   congr 1
   refine List.countP_congr fun x hx=> ?_
   rw[hk x (fun e=>aF.1 (e▸hx))]
  ·have aM:j∈l:=(List.mem_cons.1 h).resolve_left fun e=>EZ e.symm
   have bR:=Kc p Ca j aG sR hk l aF.2 aM
   rw[List.countP_cons,List.countP_cons,hk k EZ,bR];omega
def left (n:Nat) (S:Array Bool):Nat:=(List.range n).countP fun j=> !S.getD j false
theorem yk {S:Array Bool} {i j:Nat}:(S.setIfInBounds i true).getD j false=if i=j∧i<S.size then true else S.getD j false:=by
 rw[Array.getD_eq_getD_getElem?,Array.getD_eq_getD_getElem?,Array.getElem?_setIfInBounds]
 by_cases h:i=j
 ·subst h
  by_cases aL:i<S.size
  ·simp[aL]
  ·simp[aL]
 ·simp[h]
theorem ZL {n:Nat} {S:Array Bool} {i:Nat} (hs:S.size=n) (hi:i<n) (h:S.getD i false=false):left n S=left n (S.setIfInBounds i true)+1:=by
 refine Kc _ _ i (by simp[h]) ?_ (fun k hk=> ?_) _ List.nodup_range (List.mem_range.2 hi)
 ·rw[yk,if_pos ⟨rfl,by omega⟩];rfl
 ·rw[yk,if_neg (fun e=>hk e.1.symm)]
theorem ZM {n:Nat} {S:Array Bool} (h:left n S=0): ∀i,i<n→S.getD i false=true:=fun i hi=>by
 have:=(List.countP_eq_zero.1 h) i (List.mem_range.2 hi)
 simpa using this
def uh:List Nat→List AV→List AV
 | [],T=>T
 | d::jf,T=>uh jf (T.set d .undef)
theorem Bj: ∀(jf:List Nat) (T:List AV) (t:Nat),(t∈jf→(uh jf T).getD t .undef= .undef)∧(t ∉ jf→(uh jf T).getD t .undef=T.getD t .undef)
 | [],T,t=>⟨fun h=>(by cases h),fun _=>rfl⟩
 | d::jf,T,t=>by
  obtain⟨h1,h2⟩:=Bj jf (T.set d .undef) t
  refine⟨fun h=> ?_,fun h=> ?_⟩
  ·by_cases bg:t∈jf
   ·exact h1 bg
   ·have e:t=d:=(List.mem_cons.1 h).resolve_right bg
    show(uh jf (T.set d .undef)).getD t .undef= .undef
    rw[h2 bg,rE]
    by_cases aL:d=t∧d<T.length
    ·rw[if_pos aL]
    ·rw[if_neg aL,List.getD_eq_getElem?_getD,List.getElem?_eq_none (by rcases Nat.lt_or_ge d T.length with q | q;exact absurd ⟨e.symm,q⟩ aL;omega)];rfl
  ·show(uh jf (T.set d .undef)).getD t .undef=_
   rw[h2 fun hm=>h (List.mem_cons_of_mem _ hm),rE,if_neg fun hm=>h (by rw[hm.1];exact List.mem_cons_self ..)]
section
variable {P:Program} {esc:List Nat} {ops:Array Oper} {ord:List Item} {A:Nat→List Nat} {Q:Exit→St→Prop} {cw:Env}
structure Jp [cH] (P:Program) (esc:List Nat) (ops:Array Oper) (ord:List Item) (Q:Exit→St→Prop) (cw:Env) (S:Array Bool) (a:Act) (w:World) (pre post:List Item) (E:Env) (T:List AV) (L:List (Nat×List AV)) (H:List Blk):Prop where
 pL:ord=pre++post
 z2: ∀x∈post,S.getD x.i false=false
 head: ∀x r,post=x::r→x.q=false
 D6:kc P esc ops post T L H (fun T L H=>Q .normal ⟨T,L,H⟩)
 facts: ∀x∈pre,S.getD x.i false=false→x.q=true∧ ∃v run,vz P ops L H T (opI ops x.i) v run
 iv: ∀t,(∃x∈pre,S.getD x.i false=false∧(opI ops x.i).dst=some t)∨V3 E (T.getD t .undef) (a.tmps.getD t undef)
 size:T.length=a.tmps.size
 h:SimH E H
 l:SimL E L
 nk:Good cw E
 bE: ∀x∈ord,S.getD x.i false=false→pH (opI ops x.i)=true→x.q=true→ ∀d,(opI ops x.i).dst=some d→E.mL d=none
 DM:a.defers=[]
 w:E.w=w
theorem OW {a:Act} {d:Option Nat} {u:Value} {t:Nat} (h:d≠some t):(a.put d u).tmps.getD t undef=a.tmps.getD t undef:=by
 cases d with
 | none=>rfl
 | some s=>
  show(a.tmps.setIfInBounds s u).getD t undef=_
  rw[Array.getD_eq_getD_getElem?,Array.getD_eq_getD_getElem?,Array.getElem?_setIfInBounds_ne (fun e=>h (by rw[e]))]
theorem OY {a:Act} {d:Nat} {u:Value} (h:d<a.tmps.size):(a.put (some d) u).tmps.getD d undef=u:=by
 show(a.tmps.setIfInBounds d u).getD d undef=_
 rw[Array.getD_eq_getD_getElem?,Array.getElem?_setIfInBounds_self];simp[h]
theorem OZ (a:Act) (d:Option Nat) (u:Value):(a.put d u).tmps.size=a.tmps.size:=by
 cases d<;>simp[Act.put]
theorem OV {a:Act} (d:Option Nat) (u:Value) (h:a.defers=[]):(a.put d u).defers=[]:=by
 cases d<;>exact h
theorem S8 {o:Oper} {a:Act} {T:List AV} {L:List (Nat×List AV)} {H:List Blk} {v:AV} {E:Env} (aR:SimH E H) (b0:SimL E L) (a4:pH o=true) (aF: ∀d,o.dst=some d→E.mL d=none) (h:lj P o (cr T) L H (fun r=>r=v)):
  ∃t u E',V3 E' v u∧o.dst=some t∧Step E E'∧SimH E' H∧SimL E' L∧(∀s,s≠t→E'.mL s=E.mL s)∧True∧ ∀(next:Act→World→Prop) Q,next (a.put o.dst u) E'.w→o.wp P a E.w next Q:=by
 obtain⟨dst,op,ty,pos,after,guard⟩:=o
 cases op
 all_goals try (cases a4;done)
 rename_i e
 obtain⟨z,aN,h⟩:=fA (show Jy P e dst L (fun r=>r=v) from h)
 obtain⟨t,bp,h⟩:=fA h
 obtain⟨c,hc,h⟩:=fA h
 obtain⟨hs,h⟩:=pM h
 obtain⟨aj,cb⟩:=pM h
 have cb:AV.fF t 0=v:=cb
 clear h
 subst cb
 have aj:=SX aj
 subst aj
 obtain⟨i,vx,q1,q2,q3,q4⟩:=vw (E:=E) aN
 obtain⟨E',bx,e2,dS,iM,ij,_,mI⟩:=Ob (ty:=e) aR b0 (nc.alloc E.w (.cells vx.cells e (0,0))) hc (aF t bp) (IW hs q4)
 refine⟨t,_,E',ij,bp,e2,dS,iM,mI,trivial,fun next Q hk=> ?_⟩
 unfold Oper.wp
 rw[show execOp a.eval ⟨dst,.alloc e,ty,pos,after,guard⟩=(do pure (Next.value (←Instr.alloc e true (.tuple #[])))) from rfl]
 refine Jf (w':=E'.w) ?_ hk
 rw[bx]
 simp[Instr.alloc,zeroValue,typeInfo,q1,q2,newVar,newRow]
theorem Up [cH] (D:Ab ops ord A): ∀(ni:Nat) (S:Array Bool) (a:Act) (w:World) (pre post:List Item) (E:Env) (T:List AV) (L:List (Nat×List AV)) (H:List Blk),
  S.size=ops.size→left ops.size S=ni→C3 ops S→Jp P esc ops ord Q cw S a w pre post E T L H→wpAny P .any ops (nf cw Q) ni S a w:=by
 have fin: ∀(S:Array Bool) (a:Act) (w:World) (pre post:List Item) (E:Env) (T:List AV) (L:List (Nat×List AV)) (H:List Blk),(∀i,i<ops.size→S.getD i false=true)→Jp P esc ops ord Q cw S a w pre post E T L H→nf cw Q .normal a w:=by
  intro S a w pre post E T L H eC I
  have aG:post=[]:=by
   cases post with
   | nil=>rfl
   | cons x r=>
    have h1:=I.z2 x (List.mem_cons_self ..)
    rw[eC x.i (D.lt x (by rw[I.pL];simp))] at h1;cases h1
  subst aG
  refine⟨rfl,⟨T,L,H⟩,E,I.D6,I.w,I.nk,⟨I.h,I.l,fun t=> ?_,I.size⟩,I.DM⟩
  rcases I.iv t with⟨x,hx,hu,_⟩ | h
  ·rw[eC x.i (D.lt x (by rw[I.pL];simp[hx]))] at hu;cases hu
  ·exact h
 intro ni
 induction ni with
 | zero=>
  intro S a w pre post E T L H hs hf hc I
  have eC:=ZM hf
  refine⟨?_,fin S a w pre post E T L H eC I⟩
  cases aJ:Region.ready .any ops S with
  | nil=>rfl
  | cons i l=>
   have:=Pc hs (i:=i) (by rw[aJ];exact List.mem_cons_self ..)
   rw[eC i this.1] at this;cases this.2.1
 | succ ni bR=>
  intro S a w pre post E T L H hs hf hc I
  refine⟨fun aJ=>fin S a w pre post E T L H (abf D hs aJ) I,fun i hi=> ?_⟩
  obtain⟨bc,qx,sQ⟩:=Pc hs hi
  have EG:=S_ D hs hc i _ (r4 bc) sQ
  have Lp:(S.setIfInBounds i true).size=ops.size:=by simpa using hs
  have Bg:left ops.size (S.setIfInBounds i true)=ni:=by have:=ZL hs bc qx;omega
  have qp:C3 ops (S.setIfInBounds i true):=by
   intro j o aC aM e he hb
   rw[yk] at aM ⊢
   by_cases nl:i=j
   ·subst nl
    have:o=opI ops i:=by rw[r4 bc] at aC;exact(Option.some.inj aC).symm
    subst this
    split
    ·rfl
    ·exact sQ e he hb
   ·rw[if_neg fun q=>nl q.1] at aM
    split
    ·rfl
    ·exact hc j o aC aM e he hb
  have HE: ∀j,(S.setIfInBounds i true).getD j false=false→S.getD j false=false∧j≠i:=fun j aM=>by
   rw[yk] at aM
   split at aM
   ·cases aM
   ·rename_i q;exact⟨aM,fun e=>q ⟨e.symm,by omega⟩⟩
  have zL: ∀j,j≠i→S.getD j false=false→(S.setIfInBounds i true).getD j false=false:=fun j aM h=>by
   rw[yk,if_neg fun q=>aM q.1.symm];exact h
  obtain⟨y,br,ml⟩:=D.all i bc
  subst ml
  have ml:y.i=y.i:=rfl
  let jf:List Nat:=(pre.filter fun x=> !S.getD x.i false).filterMap fun x=>(opI ops x.i).dst
  have ES: ∀t,t∈jf↔ ∃x∈pre,S.getD x.i false=false∧(opI ops x.i).dst=some t:=fun t=>by
   simp only[jf,List.mem_filterMap,List.mem_filter,Bool.not_eq_true']
   constructor
   ·rintro⟨x,⟨h1,h2⟩,aO⟩;exact⟨x,h1,h2,aO⟩
   ·rintro⟨x,h1,h2,aO⟩;exact⟨x,⟨h1,h2⟩,aO⟩
  have ct: ∀t,V3 E ((uh jf T).getD t .undef) (a.tmps.getD t undef):=fun t=>by
   by_cases h:t∈jf
   ·rw[(Bj jf T t).1 h];exact V3.undef _ _
   ·rw[(Bj jf T t).2 h]
    exact(I.iv t).resolve_left fun q=>h ((ES t).2 q)
  have yJ: ∀t∈(opI ops y.i).looksAt ops,t ∉ jf:=fun t bp hm=>by
   obtain⟨x,hx,hu,bg⟩:=(ES t).1 hm
   have:=EG x.i (by rw[←ml];rw[←ml] at bp;exact D.ae_ y br t bp x (by rw[I.pL];simp[hx]) bg)
   rw[this] at hu;cases hu
  have L7: ∀t∈(opI ops y.i).looksAt ops,V3 E (T.getD t .undef) (a.tmps.getD t undef):=fun t bp=>(I.iv t).resolve_left fun q=>yJ t bp ((ES t).2 q)
  have Lt: ∀t∈(opI ops y.i).looksAt ops,(uh jf T).getD t .undef=T.getD t .undef:=fun t bp=>(Bj jf T t).2 (yJ t bp)
  have Jx: ∀E':Env,(∀t,(opI ops y.i).dst≠some t→E'.mL t=E.mL t)→ ∀x∈ord,(S.setIfInBounds y.i true).getD x.i false=false→pH (opI ops x.i)=true→x.q=true→ ∀d,(opI ops x.i).dst=some d→E'.mL d=none:=fun E' hml x hx hu a4 XM d bg=>by
   obtain⟨wL,wM⟩:=HE _ hu
   rw[hml d (D.apart.inj x hx y br wM d bg)]
   exact I.bE x hx wL a4 XM d bg
  unfold wpOp
  rw[r4 bc]
  simp only
  have sP:y∈pre∨y∈post:=by rw[I.pL] at br;exact List.mem_append.1 br
  rcases sP with uu | uu
  ·
   obtain⟨aj,v,run,F⟩:=I.facts y uu (by rw[ml];exact qx)
   rw[ml] at F
   have hw:=F.cC E a L7 I.size
   have next: ∀(u:Value) (E':Env),Step E E'→SimH E' H→SimL E' L→(∀t,(opI ops y.i).dst≠some t→E'.mL t=E.mL t)→V3 E' v u→wpAny P .any ops (nf cw Q) ni (S.setIfInBounds y.i true) (a.put (opI ops y.i).dst u) E'.w:=fun u E' bj rO rP hml hv=>by
    refine bR _ _ _ pre post E' T L H Lp Bg qp ⟨I.pL,fun x hx=>zL _ (fun e=> ?_) (I.z2 x hx),I.head,I.D6,fun x hx hu=>I.facts x hx (HE _ hu).1,fun t=> ?_,by rw[OZ];exact I.size,rO,rP,I.nk.step bj,Jx E' hml,OV _ _ I.DM,rfl⟩
    ·have mT:=D.nodup
     rw[I.pL,List.map_append,List.nodup_append] at mT
     exact mT.2.2 y.i (List.mem_map_of_mem uu) x.i (List.mem_map_of_mem hx) (by rw[ml,e])
    ·by_cases bg:(opI ops y.i).dst=some t
     ·right
      rw[bg]
      by_cases aL:t<T.length
      ·rw[F.put t bg aL,OY (by rw[←I.size];exact aL)];exact hv
      ·rw[List.getD_eq_getElem?_getD,List.getElem?_eq_none (Nat.not_lt.1 aL)];exact V3.undef _ _
     ·rcases I.iv t with⟨x,hx,hu,yY⟩ | h
      ·exact .inl ⟨x,hx,zL _ (fun e=>bg (by rw[←e];exact yY)) hu,yY⟩
      ·right;rw[OW bg];exact h.le bj.le
   cases run with
   | true=>
    rw[if_pos hw]
    refine .inl ?_
    have rK:=F.rf rfl
    cases EF:pH (opI ops y.i) with
    | true=>
     obtain⟨t,u,E',hv,WK,q1,q2,q3,q4,_,cY⟩:=S8 (P:=P) (a:=a) I.h I.l EF (fun t bp=>I.bE y br (by rw[ml];exact qx) EF aj t bp) rK
     rw[←I.w]
     exact cY _ _ (next u E' q1 q2 q3 (fun s hs=>q4 s fun e=>hs (by rw[WK,e])) hv)
    | false=>
    rw[v5 EF,←KF (B8 Lt)] at rK
    rw[←I.w]
    refine Oper.wp_mono (fun ih w' ⟨e4,u,E',he,eY,hqt,hv,a4⟩=> ?_) (KH ct (Sub.refl L H) I.h I.l (AU rK))
    subst he;subst eY;subst a4
    exact next u E' hqt.step (hqt.simH I.h) (hqt.simL I.h I.l) (fun t _=>by rw[hqt.mL]) hv
   | false=>
    rw[if_neg (by rw[hw];simp)]
    have hv:=F.no rfl
    subst hv
    rw[←I.w]
    exact next undef E (Step.refl E) I.h I.l (fun _ _=>rfl) ⟨[],rfl,aE.nil⟩
  ·
   have kj: ∃r,post=y::r:=by
    cases aG:post with
    | nil=>rw[aG] at uu;cases uu
    | cons x r=>
     rw[aG] at uu
     rcases List.mem_cons.1 uu with rfl | XP
     ·exact⟨r,rfl⟩
     ·have hb:=D.kW
      rw[I.pL,aG] at hb
      have:=(hb.at (I.head x r aG)).1 y XP
      rw[ml] at this
      have h1:=EG x.i this
      rw[I.z2 x (by rw[aG];exact List.mem_cons_self ..)] at h1;cases h1
   obtain⟨r,Xr⟩:=kj
   subst Xr
   have aj:=I.head y r rfl
   have rK:=I.D6
   obtain⟨mb,run,oN,lX,hw,fT⟩:=La (P:=P) rK
   have hw:=hw E a L7 I.size
   have EH:=D.apart
   rw[I.pL] at EH
   have LO:=lL.NG EH
   have Wx:=(show tC A [] (pre++y::r) from I.pL▸D.kW).at aj
   have mT:=D.nodup
   rw[I.pL,List.map_append,List.map_cons,List.nodup_append,List.nodup_cons] at mT
   have Xo: ∀x∈pre,S.getD x.i false=false→x.i∈y.jx:=fun x hx hu=>by
    rcases Wx.2 x (by simpa using hx) with h | h
    ·rw[ml] at h
     have:=EG x.i h
     rw[hu] at this;cases this
    ·exact h

   have next: ∀(v:AV) (u:Value) (L':List (Nat×List AV)) (H':List Blk) (E':Env),Step E E'→SimH E' H'→SimL E' L'→(∀t,(opI ops y.i).dst≠some t→E'.mL t=E.mL t)→V3 E' v u→kc P esc ops r (putA mb (opI ops y.i).dst v) L' H' (fun T L H=>Q .normal ⟨T,L,H⟩)→
     (∀x∈pre,S.getD x.i false=false→ ∃v run,vz P ops L' H' mb (opI ops x.i) v run)→
     wpAny P .any ops (nf cw Q) ni (S.setIfInBounds y.i true) (a.put (opI ops y.i).dst u) E'.w:=by
    intro v u L' H' E' bj aR b0 hml hv hK WS
    obtain⟨GY,aaQ,oA,Bx,Xm,Xq,WM,hlen,hd,yC⟩:=Hz r _ (lL.tail (p:=[y]) (lL.tail EH)) hK
    have E_: ∀z∈GY,z∈r:=fun z aN=>by rw[Bx];exact List.mem_append_left _ aN
    have Lq: ∀t,(∀z∈y::r,(opI ops z.i).dst≠some t)→oA.getD t .undef=mb.getD t .undef:=fun t bp=>by
     rw[hd t fun z aN=>bp z (List.mem_cons_of_mem _ (E_ z aN)),Ci (bp y (List.mem_cons_self ..))]
    refine bR _ _ _ (pre++y::GY) aaQ E' oA L' H' Lp Bg qp ⟨by rw[I.pL,Bx];simp,fun x hx=> ?_,Xq,WM,fun x hx hu=> ?_,fun t=> ?_,by rw[OZ,hlen,xi,oN];exact I.size,aR,b0,I.nk.step bj,Jx E' hml,OV _ _ I.DM,rfl⟩
    ·have BF:x∈r:=by rw[Bx];exact List.mem_append_right _ hx
     exact zL _ (fun e=>mT.2.1.1 (by rw[ml,←e];exact List.mem_map_of_mem BF)) (I.z2 x (List.mem_cons_of_mem _ BF))
    ·obtain⟨wL,wM⟩:=HE _ hu
     rcases List.mem_append.1 hx with hx | hx
     ·refine⟨(I.facts x hx wL).1,?_⟩
      obtain⟨e4,run',F⟩:=WS x hx wL
      refine⟨e4,run',F.mono (by rw[hlen,xi]) (fun t bp=>Lq t fun z aN=>(LO x hx).1 t bp z aN) fun d bg=>Lq d fun z aN=>(LO x hx).2 d bg z aN⟩
     ·rcases List.mem_cons.1 hx with rfl | hx
      ·exact absurd ml wM
      ·exact⟨Xm x hx,yC x hx⟩
    ·by_cases rJ: ∃z∈GY,(opI ops z.i).dst=some t
     ·obtain⟨z,aN,pE⟩:=rJ
      refine .inl ⟨z,by simp[aN],zL _ (fun e=>mT.2.1.1 (by rw[ml,←e];exact List.mem_map_of_mem (E_ z aN))) (I.z2 z (List.mem_cons_of_mem _ (E_ z aN))),pE⟩
     ·have bx:=hd t fun z aN q=>rJ ⟨z,aN,q⟩
      by_cases bg:(opI ops y.i).dst=some t
      ·right
       rw[ml] at bg bx
       rw[bx,bg]
       by_cases aL:t<mb.length
       ·rw[OS aL,OY (by rw[←I.size,←oN];exact aL)];exact hv
       ·rw[List.getD_eq_getElem?_getD,List.getElem?_eq_none (by rw[xi];exact Nat.not_lt.1 aL)];exact V3.undef _ _
      ·rw[Ci bg,lX] at bx
       rcases I.iv t with⟨x,hx,hu,yY⟩ | h
       ·refine .inl ⟨x,by simp[hx],zL _ (fun e=>bg (by rw[ml,←e];exact yY)) hu,yY⟩
       ·right;rw[bx,OW (by rw[←ml];exact bg)];exact h.le bj.le
   cases run with
   | true=>
    rw[if_pos hw]
    refine .inl ?_
    have fT:(match y.q with
     | true=>_
     | false=>kb P esc (opI ops y.i) (cr mb) L H fun v L' H'=>rz P ops y.jx mb L' H'∧kc P esc ops r (putA mb (opI ops y.i).dst v) L' H' (fun T L H=>Q .normal ⟨T,L,H⟩)):=fT
    rw[aj] at fT
    have fT:kb P esc (opI ops y.i) (cr mb) L H fun v L' H'=>rz P ops y.jx mb L' H'∧kc P esc ops r (putA mb (opI ops y.i).dst v) L' H' (fun T L H=>Q .normal ⟨T,L,H⟩):=fT
    rw[←UM (B8 fun t bp=>(Lt t bp).trans (lX t).symm)] at fT
    rw[←I.w]
    refine Oper.wp_mono (fun ih w' ⟨v,u,L',H',E',⟨n6,hK⟩,eY,q1,q2,q3,q4,a4,hml⟩=> ?_) (evOp_sound ct I.h I.l fT)
    subst eY;subst a4
    refine next v u L' H' E' q1 q2 q3 hml q4 hK fun x hx hu=> ?_
    obtain⟨f1,f2,f3⟩:=KY n6 x.i (Xo x hx hu)
    refine⟨_,true,⟨fun E a hs aN=> ?_,fun _=>f3,fun e=>(by cases e),fun d bg bc=> ?_⟩⟩
    ·unfold Region.wanted
     cases yE:(opI ops x.i).guard with
     | none=>rfl
     | some g=>rw[yE] at f1;cases f1
    ·unfold sy;rw[bg]
   | false=>
    rw[if_neg (by rw[hw];simp)]
    rw[←I.w]
    refine next (.tup []) undef L H E (Step.refl E) I.h I.l (fun _ _=>rfl) ⟨[],rfl,aE.nil⟩ fT fun x hx hu=> ?_
    obtain⟨_,e4,run',F⟩:=I.facts x hx hu
    exact⟨e4,run',F.mono oN (fun t _=>lX t) fun d _=>lX d⟩
end
def Am (ops:Array Oper):List Item→Bool
 | []=>true
 | x::r=>((opI ops x.i).looksAt ops).all (fun t=>(x::r).all fun y=>(opI ops y.i).dst !=some t)&&(match(opI ops x.i).dst with
  | some d=>r.all fun y=>(opI ops y.i).dst !=some d
  | none=>true)&&Am ops r
theorem JH {ops:Array Oper}: ∀{l:List Item},Am ops l=true→lL ops l
 | [],_=>trivial
 | x::r,h=>by
  simp only[Am,Bool.and_eq_true] at h
  obtain⟨⟨h1,h2⟩,aO⟩:=h
  refine⟨fun t bp y br=> ?_,fun d bg y br=> ?_,JH aO⟩
  ·have:=List.all_eq_true.1 (List.all_eq_true.1 h1 t bp) y br
   simpa using this
  ·rw[bg] at h2
   have:=List.all_eq_true.1 h2 y br
   simpa using this
def Aq (A:Nat→List Nat):List Item→List Item→Bool
 | _,[]=>true
 | p,h::r=>(h.q || (r.all (fun y=>(A y.i).contains h.i)&&p.all fun x=>(A h.i).contains x.i || h.jx.contains x.i))&&Aq A (p++[h]) r
theorem JL {A:Nat→List Nat}: ∀{l p:List Item},Aq A p l=true→tC A p l
 | [],_,_=>trivial
 | h::r,p,hb=>by
  simp only[Aq,Bool.and_eq_true] at hb
  refine⟨fun aj=> ?_,JL hb.2⟩
  have h1:=hb.1
  rw[aj,Bool.false_or,Bool.and_eq_true] at h1
  refine⟨fun y br=>by simpa using List.all_eq_true.1 h1.1 y br,fun x hx=> ?_⟩
  have:=List.all_eq_true.1 h1.2 x hx
  simpa using this
def B3:List Nat→Bool
 | []=>true
 | x::r=> !r.contains x&&B3 r
theorem Og: ∀{l:List Nat},B3 l=true→l.Nodup
 | [],_=>List.nodup_nil
 | x::r,h=>by
  simp only[B3,Bool.and_eq_true] at h
  rw[List.nodup_cons]
  exact⟨by simpa using h.1,Og h.2⟩
def vT (ops:Array Oper) (ord:List Item) (A:Nat→List Nat):Bool:=
 (List.range ops.size).all (fun i=>(opI ops i).after.toList.all (fun e=> !Region.binds .any e || decide (e.on<i))&&(A i).all fun a=>(opI ops i).after.toList.any fun e=>Region.binds .any e&&(a==e.on || (A e.on).contains a))&&
 (List.range ops.size).all (fun i=>ord.any fun x=>x.i==i)&&ord.all (fun x=>decide (x.i<ops.size))&&B3 (ord.map (·.i))&&
 ord.all (fun x=>((opI ops x.i).looksAt ops).all fun t=>ord.all fun y=>(opI ops y.i).dst !=some t || (A x.i).contains y.i)&&Am ops ord&&Aq A [] ord
theorem Uq {ops:Array Oper} {ord:List Item} {A:Nat→List Nat} (iA: ∀i,ops.size≤i→A i=[]) (h:vT ops ord A=true):Ab ops ord A:=by
 simp only[vT,Bool.and_eq_true] at h
 obtain⟨⟨⟨⟨⟨⟨h1,h2⟩,aO⟩,bb⟩,cb⟩,cE⟩,gF⟩:=h
 have get: ∀i o,ops[i]?=some o→i<ops.size∧o=opI ops i:=fun i o aC=>by
  have bc:i<ops.size:=by
   rcases Nat.lt_or_ge i ops.size with h | h
   ·exact h
   ·rw[Array.getElem?_eq_none h] at aC;cases aC
  rw[r4 bc] at aC
  exact⟨bc,(Option.some.inj aC).symm⟩
 refine⟨fun i o aC e he hb=> ?_,fun i o aC a a4=> ?_,fun i hi=> ?_,fun x hx=> ?_,Og bb,fun x hx t bp y br bg=> ?_,JH cE,JL gF⟩
 ·obtain⟨bc,rfl⟩:=get i o aC
  have:=List.all_eq_true.1 h1 i (List.mem_range.2 bc)
  rw[Bool.and_eq_true] at this
  have:=List.all_eq_true.1 this.1 e (by simpa using he)
  rw[hb] at this;simpa using this
 ·obtain⟨bc,rfl⟩:=get i o aC
  have:=List.all_eq_true.1 h1 i (List.mem_range.2 bc)
  rw[Bool.and_eq_true] at this
  have:=List.all_eq_true.1 this.2 a a4
  obtain⟨e,he,hc⟩:=List.any_eq_true.1 this
  rw[Bool.and_eq_true] at hc
  exact⟨e,by simpa using he,hc.1,by simpa using hc.2⟩
 ·obtain⟨x,hx,hc⟩:=List.any_eq_true.1 (List.all_eq_true.1 h2 i (List.mem_range.2 hi))
  exact⟨x,hx,by simpa using hc⟩
 ·simpa using List.all_eq_true.1 aO x hx
 ·have:=List.all_eq_true.1 (List.all_eq_true.1 (List.all_eq_true.1 cb x hx) t bp) y br
  rw[Bool.or_eq_true] at this
  rcases this with h | h
  ·rw[bg] at h;simp at h
  ·simpa using h
def x2 (j9:List (List Nat)) (i:Nat):List Nat:=j9.getD i []
theorem Env.Kl (E:Env):Step E {E with w:=E.w.drew}:=
 ⟨⟨fun _ h=>h,fun _ h=>h,fun _ _=>rfl,fun _ _=>rfl,fun _=>Nat.le_refl _,fun _ _ h _=>⟨h,rfl,rfl⟩,fun _ _ h=>h⟩,rfl,rfl,rfl,Nat.le_refl _,fun _ _ _ _=>rfl,fun _ _ h=> .inl h,fun _ h=> .inl h,fun _ h=> .inl h,fun _ h=> .inl h⟩
theorem Uv {E:Env} {H:List Blk} (h:SimH E H):SimH {E with w:=E.w.drew} H:=
 {h with
  heap:=fun b c hb=>by
   obtain⟨blk,a7,ty,q1,dU,q2,q3,q4,cL,cY⟩:=h.heap b c hb
   exact⟨blk,a7,ty,q1,dU,q2,q3,q4,cL,fun i j row a aJ aM=>by obtain⟨u,hu,hv⟩:=cY i j row a aJ aM;exact⟨u,hu,hv.le (Env.Kl E).le.b6⟩⟩}
theorem ZK (n:Nat):left n (Array.replicate n false)=n:=by
 unfold left
 have:(List.range n).countP (fun j=> !(Array.replicate n false).getD j false)=(List.range n).countP (fun _=>true):=by
  refine List.countP_congr fun x hx=> ?_
  rw[Array.getD_eq_getD_getElem?,Array.getElem?_replicate]
  split<;>simp
 rw[this,List.countP_true,List.length_range]
def tR:List (Nat×List AV)→List (Nat×List AV)→Bool
 | [],_=>true
 | (t,_)::r,L=>(eU L t).isNone&&tR r L
def tH (ops:Array Oper) (L:List (Nat×List AV)):List Item→Bool
 | []=>true
 | x::r=>(match x.q&&pH (opI ops x.i) with
  | false=>true
  | true=>match(opI ops x.i).dst with
   | none=>true
   | some d=>(eU L d).isNone)&&tH ops L r
theorem K3 {E:Env} {L:List (Nat×List AV)} (b0:SimL E L): ∀{ix:List (Nat×List AV)},tR ix L=true→SimL E (ix++L)
 | [],_=>b0
 | (t,c)::r,h=>by
  simp only[tR,Bool.and_eq_true,Option.isNone_iff_eq_none] at h
  exact(K3 b0 h.2).cons (b0.none h.1)
theorem Jz {ops:Array Oper} {E:Env} {L:List (Nat×List AV)} (b0:SimL E L): ∀{l:List Item},tH ops L l=true→ ∀x∈l,pH (opI ops x.i)=true→x.q=true→ ∀d,(opI ops x.i).dst=some d→E.mL d=none
 | [],_,x,hx,_,_,_,_=>by cases hx
 | y::r,h,x,hx,a4,aj,d,bg=>by
  simp only[tH,Bool.and_eq_true] at h
  rcases List.mem_cons.1 hx with rfl | hx
  ·have h1:=h.1
   rw[aj,a4] at h1
   simp only[Bool.and_self] at h1
   rw[bg] at h1
   exact b0.none (by simpa using h1)
  ·exact Jz b0 h.2 x hx a4 aj d bg
theorem WpS.Pf [cH] {P:Program} {esc:List Nat} {c:Code} {id:Nat} {ops:Array Oper} {Q:Exit→St→Prop} {T:List AV} {L:List (Nat×List AV)} {H:List Blk} (ord:List Item) (j9:List (List Nat)) (hm:P.follows .mixedOrders=true)
  (aL:j9.length=ops.size) (bg:vT ops ord (x2 j9)=true) (e:c= .region id ops true) (ix:List (Nat×List AV)) (hf:tR ix L=true) (aN:tH ops L ord=true) (h:kc P esc ops ord T (ix++L) H (fun T L H=>Q .normal ⟨T,L,H⟩)):WpS P c Q ⟨T,L,H⟩:=by
 subst e
 intro cw E a g s d
 have D:=Uq (fun i hi=>by unfold x2;rw[List.getD_eq_getElem?_getD,List.getElem?_eq_none (by omega)];rfl) bg
 refine wp_region_any hm ?_
 obtain⟨pre,post,oA,aJ,aG,Xp,rK,hlen,hd,yC⟩:=Hz ord T D.apart h
 have qx: ∀j,(Array.replicate ops.size false).getD j false=false:=fun j=>by
  rw[Array.getD_eq_getD_getElem?,Array.getElem?_replicate];split<;>rfl
 have bj:=Env.Kl E
 have hw:(show World from{E.w with drawn:=E.w.drawn+1})=({E with w:=E.w.drew}:Env).w:=rfl
 refine Up D ops.size _ a _ pre post {E with w:=E.w.drew} oA (ix++L) H (by simp) (ZK _) (fun i o aC aM=> ?_) ⟨aJ,fun x hx=>qx _,Xp,rK,fun x hx _=>⟨aG x hx,yC x hx⟩,fun t=> ?_,by rw[hlen];exact s.size,Uv s.h,K3 ?_ hf,g.step bj,fun x hx _ a4 aj d bg=>Jz s.l aN x hx a4 aj d bg,d,rfl⟩
 ·rw[qx] at aM;cases aM
 ·by_cases rJ: ∃z∈pre,(opI ops z.i).dst=some t
  ·obtain⟨z,aN,pE⟩:=rJ
   exact .inl ⟨z,aN,qx _,pE⟩
  ·right
   rw[hd t fun z aN q=>rJ ⟨z,aN,q⟩]
   exact(s.iv t).le bj.le
 ·intro t c hm
  obtain⟨cells,a7,ty,q1,q2,q3⟩:=s.l t c hm
  exact⟨cells,a7,ty,q1,q2,q3.mono fun _ _ k=>k.le bj.le.b6⟩
theorem w8 {φ ψ:Prop} (e:φ=ψ) (h:ψ):φ:=e▸h
def y9 (ops:Array Oper):List (Oper×Bool):=ops.toList.map fun o=>(o,true)
theorem WpS.Pg [cH] {P:Program} {esc:List Nat} {c:Code} {id:Nat} {ops:Array Oper} {Q:Exit→St→Prop} {T:List AV} {L:List (Nat×List AV)} {H:List Blk} (e:c= .region id ops false)
  (h:evOps P esc ops (y9 ops) T L H (fun T L H=>Q .normal ⟨T,L,H⟩)):WpS P c Q ⟨T,L,H⟩:=by
 subst e
 intro cw E a g s d
 refine wp_region_list ?_
 have:=AT (y9 ops) T L H E a g s d h
 have e2:(y9 ops).map (·.1)=ops.toList:=by
  unfold y9;rw[List.map_map];exact List.map_id' _
 rwa [e2] at this
section
variable {P:Program} {esc:List Nat} {ops:Array Oper} {l fp:List Item} {T T':List AV} {L L':List (Nat×List AV)} {H H':List Blk} {K:List AV→List (Nat×List AV)→List Blk→Prop}
end
def gl:List (Nat×AV)→Nat→AV
 | [],_=> .undef
 | (k,v)::r,t=>match Nat.beq k t with
  | true=>v
  | false=>gl r t
def lS:List (Nat×AV)→Nat→List (Nat×AV)
 | [],_=>[]
 | (k,v)::r,t=>match Nat.beq k t with
  | true=>lS r t
  | false=>(k,v)::lS r t
def eZ (n:Nat):List (Nat×AV)→Bool
 | []=>true
 | (k,_)::r=>match Nat.blt k n with
  | true=>eZ n r
  | false=>false
@[irreducible] def bf (n:Nat) (A:List (Nat×AV)):List AV:=(List.range n).map (gl A)
def oh (n:Nat) (A:List (Nat×AV)) (dst:Option Nat) (v:AV):List (Nat×AV):=match dst with
 | none=>A
 | some d=>match Nat.blt d n with
  | true=>(d,v)::lS A d
  | false=>A
def pN (A:List (Nat×AV)):Operand→AV
 | .tmp t=>gl A t
 | .const v=>oG v
 | .func f=> .fn f []
 | .global _=> .undef
theorem Z5 (A:List (Nat×AV)) (d t:Nat):gl (lS A d) t=if d=t then .undef else gl A t:=by
 induction A with
 | nil=>simp[lS,gl]
 | cons p r bR=>
  obtain⟨k,v⟩:=p
  have Bq:gl ((k,v)::r) t=match Nat.beq k t with
   | true=>v
   | false=>gl r t:=rfl
  rw[Bq]
  cases h1:Nat.beq k d with
  | true=>
   have bx:=Nat.eq_of_beq_eq_true h1
   rw[show lS ((k,v)::r) d=lS r d by simp[lS,h1],bR]
   subst bx
   cases h2:Nat.beq k t with
   | true=>have e2:=Nat.eq_of_beq_eq_true h2;simp[e2]
   | false=>rfl
  | false=>
   rw[show lS ((k,v)::r) d=(k,v)::lS r d by simp[lS,h1],show gl ((k,v)::lS r d) t=match Nat.beq k t with
    | true=>v
    | false=>gl (lS r d) t from rfl]
   cases h2:Nat.beq k t with
   | true=>
    have e2:=Nat.eq_of_beq_eq_true h2
    have: ¬d=t:=fun e=>by subst e;subst e2;rw[Nat.beq_refl] at h1;cases h1
    simp[this]
   | false=>simp only;rw[bR]
theorem NY {n:Nat}: ∀{A:List (Nat×AV)} {t:Nat},eZ n A=true→n≤t→gl A t= .undef
 | [],t,_,_=>rfl
 | (k,v)::r,t,h,bp=>by
  unfold eZ at h
  split at h
  ·rename_i hk
   have hk:k<n:=by rw[←Nat.blt_eq];exact hk
   unfold gl
   cases h2:Nat.beq k t with
   | true=>have:=Nat.eq_of_beq_eq_true h2;omega
   | false=>exact NY h bp
  ·cases h
theorem Gx {n d:Nat}: ∀{A:List (Nat×AV)},eZ n A=true→eZ n (lS A d)=true
 | [],h=>rfl
 | (k,v)::r,h=>by
  unfold eZ at h
  split at h
  ·rename_i hk
   unfold lS
   split
   ·exact Gx h
   ·unfold eZ;rw[hk];exact Gx h
  ·cases h
theorem Gy {n:Nat} {A:List (Nat×AV)} (h:eZ n A=true) (dst:Option Nat) (v:AV):eZ n (oh n A dst v)=true:=by
 unfold oh
 split
 ·exact h
 ·split
  ·rename_i bg;unfold eZ;rw[bg];exact Gx h
  ·exact h
theorem s3 (n:Nat) (A:List (Nat×AV)):(bf n A).length=n:=by unfold bf;simp
theorem qK {n:Nat} {A:List (Nat×AV)} (h:eZ n A=true) (t:Nat):(bf n A).getD t .undef=gl A t:=by
 unfold bf
 rw[List.getD_eq_getElem?_getD,List.getElem?_map]
 rcases Nat.lt_or_ge t n with bc | fR
 ·rw[List.getElem?_range bc];rfl
 ·rw[List.getElem?_eq_none (by simpa using fR),NY h fR];rfl
theorem Gz {n:Nat} {A:List (Nat×AV)} (dst:Option Nat) (v:AV):putA (bf n A) dst v=bf n (oh n A dst v):=by
 cases dst with
 | none=>rfl
 | some d=>
  show(bf n A).set d v=bf n (match Nat.blt d n with
   | true=>(d,v)::lS A d
   | false=>A)
  cases bg:Nat.blt d n with
  | true=>
   apply List.ext_getElem?
   intro t
   unfold bf
   rw[List.getElem?_set]
   simp only[List.length_map,List.length_range,List.getElem?_map]
   rcases Nat.lt_or_ge t n with bc | fR
   ·rw[List.getElem?_range bc]
    by_cases he:d=t
    ·subst he;simp[bc,gl]
    ·have hb:Nat.beq d t=false:=by
      cases aj:Nat.beq d t with
      | true=>exact absurd (Nat.eq_of_beq_eq_true aj) he
      | false=>rfl
     simp[he,gl,hb,Z5]
   ·rw[List.getElem?_eq_none (l:=List.range n) (by simpa using fR)]
    by_cases he:d=t
    ·subst he;simp[Nat.not_lt.2 fR]
    ·simp[he]
  | false=>
   have: ¬d<n:=fun h=>by rw[←Nat.blt_eq,bg] at h;cases h
   exact List.set_eq_of_length_le (by rw[s3];omega)
theorem BX {n:Nat} {A:List (Nat×AV)} (h:eZ n A=true):cr (bf n A)=pN A:=by
 funext o
 cases o with
 | tmp t=>exact qK h t
 | _=>rfl
theorem N7 {n:Nat} {A:List (Nat×AV)} (h:eZ n A=true) {t:Nat} {b:Bool} (hb:gl A t= .bool b):(bf n A).set t (.bool b)=bf n A:=by
 apply List.ext_getElem?
 intro s
 rw[List.getElem?_set]
 by_cases he:t=s
 ·subst he
  rw[if_pos rfl]
  rcases Nat.lt_or_ge t n with bc | fR
  ·rw[if_pos (by rw[s3];exact bc)]
   unfold bf
   rw[List.getElem?_map,List.getElem?_range bc]
   show _=some (gl A t)
   rw[hb]
  ·rw[if_neg (by rw[s3];omega),List.getElem?_eq_none (by rw[s3];omega)]
 ·rw[if_neg he]
def sF (ops:Array Oper) (o:Oper) (A:List (Nat×AV)) (x y:Prop):Prop:=match o.guard with
 | none=>x
 | some (j,cC)=>match(ops[j]?).bind (·.dst) with
  | none=>False
  | some t=>match gl A t with
   | .bool b=>(match b with
    | true=>(match cC with
     | true=>x
     | false=>y)
    | false=>(match cC with
     | true=>y
     | false=>x))
   | .tup []=>y
   | _=>False
theorem K9 {ops:Array Oper} {o:Oper} {n:Nat} {A:List (Nat×AV)} (h:eZ n A=true) {x y:List AV→Prop}:nY ops true o (bf n A) x y=sF ops o A (x (bf n A)) (y (bf n A)):=by
 unfold nY sF
 cases o.guard with
 | none=>rfl
 | some g=>
  obtain⟨j,cC⟩:=g
  simp only
  cases(ops[j]?).bind (·.dst) with
  | none=>rfl
  | some t=>
   simp only
   rw[qK h t]
   cases hb:gl A t with
   | bool b=>
    cases b with
    | true=>simp only[pg];rw[N7 h hb];cases cC<;>rfl
    | false=>simp only[pg];rw[N7 h hb];cases cC<;>rfl
   | tup l=>cases l<;>rfl
   | _=>rfl
def evS (P:Program) (esc:List Nat) (ops:Array Oper) (n:Nat):List Oper→List (Nat×AV)→List (Nat×List AV)→List Blk→(List (Nat×AV)→List (Nat×List AV)→List Blk→Prop)→Prop
 | [],A,L,H,K=>K A L H
 | o::rest,A,L,H,K=>sF ops o A
   (match o.op with
    | .pick c x y=>oD (pN A c) fun z=>(match z with
     | true=>evS P esc ops n rest (oh n A o.dst (pN A x)) L H K
     | false=>evS P esc ops n rest (oh n A o.dst (pN A y)) L H K)
    | _=>kb P esc o (pN A) L H fun v L' H'=>evS P esc ops n rest (oh n A o.dst v) L' H' K)
   (evS P esc ops n rest (oh n A o.dst (.tup [])) L H K)
theorem D_ {P:Program} {esc:List Nat} {ops:Array Oper} {n:Nat} {K:List AV→List (Nat×List AV)→List Blk→Prop}: ∀(l:List Oper) (A:List (Nat×AV)) (L:List (Nat×List AV)) (H:List Blk),eZ n A=true→
  evOps P esc ops (l.map fun o=>(o,true)) (bf n A) L H K=evS P esc ops n l A L H fun A L H=>K (bf n A) L H
 | [],A,L,H,h=>rfl
 | o::rest,A,L,H,h=>by
  show nY ops true o (bf n A) _ _=_
  rw[K9 h]
  show sF ops o A _ _=sF ops o A _ _
  have e2:evOps P esc ops (rest.map fun o=>(o,true)) (putA (bf n A) o.dst (.tup [])) L H K=evS P esc ops n rest (oh n A o.dst (.tup [])) L H fun A L H=>K (bf n A) L H:=by
   rw[Gz,D_ rest _ _ _ (Gy h _ _)]
  have D1: ∀v L H,evOps P esc ops (rest.map fun o=>(o,true)) (putA (bf n A) o.dst v) L H K=evS P esc ops n rest (oh n A o.dst v) L H fun A L H=>K (bf n A) L H:=fun v L H=>by
   rw[Gz,D_ rest _ _ _ (Gy h _ _)]
  rw[e2]
  congr 1
  unfold uW
  rw[BX h]
  cases fS:o.op<;>simp only[D1]
  case pick c x y=>
   unfold oD
   cases pN A c<;>first | rfl | (rename_i z;cases z<;>rfl)
theorem WpS.Ct [cH] {P:Program} {esc:List Nat} {c:Code} {id n:Nat} {ops:Array Oper} {Q:Exit→St→Prop} {A:List (Nat×AV)} {L:List (Nat×List AV)} {H:List Blk} (e:c= .region id ops false) (aF:eZ n A=true)
  (h:evS P esc ops n (ops.toList.drop 0) A L H (fun A L H=>Q .normal ⟨bf n A,L,H⟩)):WpS P c Q ⟨bf n A,L,H⟩:=
 WpS.Pg (esc:=esc) e (by unfold y9;rw[D_ _ _ _ _ aF];exact h)
def DU (o:Oper) (A:List (Nat×AV)):AV:=match o.dst with
 | some d=>gl A d
 | none=> .undef
def rA (P:Program) (ops:Array Oper):List Nat→List (Nat×AV)→List (Nat×List AV)→List Blk→Prop
 | [],_,_,_=>True
 | i::r,A,L,H=>((opI ops i).guard.isNone=true∧(opI ops i).dst.isSome=true∧lj P (opI ops i) (pN A) L H (fun v=>v=DU (opI ops i) A))∧rA P ops r A L H
def evSD (P:Program) (esc:List Nat) (ops:Array Oper) (n:Nat):List Item→List (Nat×AV)→List (Nat×List AV)→List Blk→(List (Nat×AV)→List (Nat×List AV)→List Blk→Prop)→Prop
 | [],A,L,H,K=>K A L H
 | x::rest,A,L,H,K=>sF ops (opI ops x.i) A
   (match x.q with
    | true=>lj P (opI ops x.i) (pN A) L H fun v=>evSD P esc ops n rest (oh n A (opI ops x.i).dst v) L H K
    | false=>kb P esc (opI ops x.i) (pN A) L H fun v L' H'=>rA P ops x.jx A L' H'∧evSD P esc ops n rest (oh n A (opI ops x.i).dst v) L' H' K)
   (evSD P esc ops n rest (oh n A (opI ops x.i).dst (.tup [])) L H K)
theorem KZ {P:Program} {ops:Array Oper} {n:Nat} {A:List (Nat×AV)} {L:List (Nat×List AV)} {H:List Blk} (h:eZ n A=true): ∀l:List Nat,rz P ops l (bf n A) L H=rA P ops l A L H
 | []=>rfl
 | i::r=>by
  show(_∧_)=(_∧_)
  rw[KZ h r,BX h]
  have:sy (opI ops i) (bf n A)=DU (opI ops i) A:=by
   unfold sy DU
   cases(opI ops i).dst with
   | none=>rfl
   | some d=>exact qK h d
  rw[this]
theorem KD {P:Program} {esc:List Nat} {ops:Array Oper} {n:Nat} {K:List AV→List (Nat×List AV)→List Blk→Prop}: ∀(l:List Item) (A:List (Nat×AV)) (L:List (Nat×List AV)) (H:List Blk),l.all (·.lit)=true→eZ n A=true→
  kc P esc ops l (bf n A) L H K=evSD P esc ops n l A L H fun A L H=>K (bf n A) L H
 | [],A,L,H,aL,h=>rfl
 | x::rest,A,L,H,aL,h=>by
  simp only[List.all_cons,Bool.and_eq_true] at aL
  show nY ops x.lit (opI ops x.i) (bf n A) _ _=_
  rw[aL.1,K9 h]
  show sF ops (opI ops x.i) A _ _=sF ops (opI ops x.i) A _ _
  have D1: ∀v L H,kc P esc ops rest (putA (bf n A) (opI ops x.i).dst v) L H K=evSD P esc ops n rest (oh n A (opI ops x.i).dst v) L H fun A L H=>K (bf n A) L H:=fun v L H=>by
   rw[Gz,KD rest _ _ _ aL.2 (Gy h _ _)]
  simp only[D1,BX h,KZ h]
  first
  | done
  | (cases x.q<;>rfl)
theorem WpS.abl [cH] {P:Program} {esc:List Nat} {c:Code} {id n:Nat} {ops:Array Oper} {Q:Exit→St→Prop} {A:List (Nat×AV)} {L:List (Nat×List AV)} {H:List Blk} (ord:List Item) (j9:List (List Nat)) (hm:P.follows .mixedOrders=true)
  (aL:j9.length=ops.size) (bg:vT ops ord (x2 j9)=true) (E2:ord.all (·.lit)=true) (e:c= .region id ops true) (aF:eZ n A=true) (ix:List (Nat×List AV)) (hf:tR ix L=true) (aN:tH ops L ord=true) (h:evSD P esc ops n (ord.drop 0) A (ix++L) H (fun A L H=>Q .normal ⟨bf n A,L,H⟩)):WpS P c Q ⟨bf n A,L,H⟩:=
 WpS.Pf (esc:=esc) ord j9 hm aL bg e ix hf aN (by rw[KD _ _ _ _ E2 aF];exact h)
theorem Weak.iv [cH] {T T':List AV} {L:List (Nat×List AV)} {H:List Blk} (aL:T'.length=T.length) (h: ∀t,T'.getD t .undef=T.getD t .undef∨T'.getD t .undef= .undef):Weak ⟨T,L,H⟩ ⟨T',L,H⟩:=fun cw E tmps g s=>
 ⟨E,rfl,g,s.h,s.l,fun t=>by
  show V3 E (T'.getD t .undef) _
  rcases h t with e | e<;>rw[e]
  ·exact s.iv t
  ·exact V3.undef _ _,by show T'.length=_;rw[aL];exact s.size⟩
def nu (A:List (Nat×AV)):List (Nat×AV)→List (Nat×AV)
 | []=>[]
 | (k,_)::r=>(k,gl A k)::nu A r
theorem Gv {A:List (Nat×AV)}: ∀(B:List (Nat×AV)) (t:Nat),gl (nu A B) t=gl A t∨gl (nu A B) t= .undef
 | [],t=> .inr rfl
 | (k,v)::r,t=>by
  show(match Nat.beq k t with
   | true=>gl A k
   | false=>gl (nu A r) t)=gl A t∨_
  cases h:Nat.beq k t with
  | true=>have:=Nat.eq_of_beq_eq_true h;subst this;exact .inl rfl
  | false=>
   rcases Gv r t with e | e
   ·exact .inl e
   ·right;show(match Nat.beq k t with
     | true=>gl A k
     | false=>gl (nu A r) t)=_
    rw[h];exact e
def y_ (dk:List Nat):List (Nat×AV)→Bool
 | []=>true
 | (_,v)::r=>oU dk v&&y_ dk r
theorem N0 {dk:List Nat}: ∀{A:List (Nat×AV)},y_ dk A=true→ ∀t,oU dk (gl A t)=true
 | [],h,t=>rfl
 | (k,v)::r,h,t=>by
  simp only[y_,Bool.and_eq_true] at h
  unfold gl
  cases Nat.beq k t with
  | true=>exact h.1
  | false=>exact N0 h.2 t
theorem aff [cH] {n:Nat} {A A':List (Nat×AV)} {L L':List (Nat×List AV)} {H:List Blk} (dk:List Nat) (iA:eZ n A=true) (mN:eZ n A'=true) (aG:y_ dk A'=true) (lT:nu A A'=A') (iO:nU dk L=L'):Weak ⟨bf n A,L,H⟩ ⟨bf n A',L',H⟩:=by
 subst iO
 refine(Weak.iv (T':=bf n A') (by rw[s3,s3]) fun t=> ?_).trans (Weak.nU dk ?_)
 ·rw[qK iA,qK mN,←lT];exact Gv A' t
 ·rw[List.all_eq_true]
  intro a a4
  obtain⟨t,bp⟩:=List.mem_iff_getElem?.1 a4
  have e:(bf n A').getD t .undef=a:=by rw[List.getD_eq_getElem?_getD,bp];rfl
  rw[qK mN] at e
  rw[←e]
  exact N0 aG t
theorem xN [cH] {n:Nat} {A A':List (Nat×AV)} {L:List (Nat×List AV)} {H:List Blk} (iA:eZ n A=true) (mN:eZ n A'=true) (lT:nu A A'=A'):Weak ⟨bf n A,L,H⟩ ⟨bf n A',L,H⟩:=
 Weak.iv (T':=bf n A') (by rw[s3,s3]) fun t=>by rw[qK iA,qK mN,←lT];exact Gv A' t
theorem T8 {n:Nat} {A:List (Nat×AV)} {o:Operand} {b:Bool} {L:List (Nat×List AV)} {H:List Blk} (aF:eZ n A=true) (h:pN A o= .bool b):cr (St.mk (bf n A) L H).T o= .bool b:=by
 show cr (bf n A) o=_
 rw[BX aF,h]
def sc (P:Program) (A:List (Nat×AV)) (L:List (Nat×List AV)) (H:List Blk):List ResultVar→(List AV→Prop)→Prop
 | [],K=>K []
 | .tmp t::rs,K=>sc P A L H rs fun l=>K (gl A t::l)
 | .cell a t::rs,K=>oR P t (gl A a) L H fun x=>sc P A L H rs fun l=>K (x::l)
theorem Hj {P:Program} {n:Nat} {A:List (Nat×AV)} {L:List (Nat×List AV)} {H:List Blk} (aF:eZ n A=true): ∀(rs:List ResultVar) (K:List AV→Prop),qR P ⟨bf n A,L,H⟩ rs K=sc P A L H rs K
 | [],K=>rfl
 | .tmp t::rs,K=>by
  show qR P ⟨bf n A,L,H⟩ rs (fun l=>K ((bf n A).getD t .undef::l))=sc P A L H rs fun l=>K (gl A t::l)
  rw[qK aF];exact Hj aF rs _
 | .cell a t::rs,K=>by
  show oR P t ((bf n A).getD a .undef) L H _=oR P t (gl A a) L H _
  rw[qK aF]
  congr 1
  funext x
  exact Hj aF rs _
theorem Hm {P:Program} {fn:Func} {n:Nat} {A:List (Nat×AV)} {L:List (Nat×List AV)} {H:List Blk} {r:AV} {Q:AV→List Blk→Prop} (aF:eZ n A=true) (l:List AV) (e: ∀K,sc P A L H fn.results.toList K=K l) (aJ:l.all jZ=true) (hw:sk l=r) (h:Q r H):tE P fn Q .ret ⟨bf n A,L,H⟩:=by
 show th P fn ⟨bf n A,L,H⟩ Q
 unfold th
 rw[Hj aF,e]
 exact⟨aJ,by rw[hw];exact h⟩
theorem UJ {P:Program} {fn:Func} {n:Nat} {A:List (Nat×AV)} {L:List (Nat×List AV)} {H:List Blk} {r:AV} {Q:AV→List Blk→Prop} (aF:eZ n A=true) (l:List AV) (e: ∀K,sc P A L H fn.results.toList K=K l) (aJ:l.all jZ=true) (hw:sk l=r) (h:Q r H):tE P fn Q .normal ⟨bf n A,L,H⟩:=
 Hm (fn:=fn) aF l e aJ hw h
theorem KE {P:Program} {esc:List Nat} {ops:Array Oper} {n:Nat} {K:List (Nat×AV)→List (Nat×List AV)→List Blk→Prop}: ∀(rY jX:List Oper) (A:List (Nat×AV)) (L:List (Nat×List AV)) (H:List Blk),
  evS P esc ops n (rY++jX) A L H K=evS P esc ops n rY A L H fun A L H=>evS P esc ops n jX A L H K
 | [],jX,A,L,H=>rfl
 | o::r,jX,A,L,H=>by
  show evS P esc ops n (o::(r++jX)) A L H K=_
  simp only[evS,KE r jX]
theorem jw {P:Program} {esc:List Nat} {ops:Array Oper} {n:Nat} {K:List (Nat×AV)→List (Nat×List AV)→List Blk→Prop} {A:List (Nat×AV)} {L:List (Nat×List AV)} {H:List Blk} (X:List Oper) (i k:Nat):
  evS P esc ops n (X.drop i) A L H K=evS P esc ops n ((X.drop i).take k) A L H fun A L H=>evS P esc ops n (X.drop (i+k)) A L H K:=by
 rw[←KE,←List.drop_drop,List.take_append_drop]
theorem KC {P:Program} {esc:List Nat} {ops:Array Oper} {n:Nat} {K:List (Nat×AV)→List (Nat×List AV)→List Blk→Prop}: ∀(rY jX:List Item) (A:List (Nat×AV)) (L:List (Nat×List AV)) (H:List Blk),
  evSD P esc ops n (rY++jX) A L H K=evSD P esc ops n rY A L H fun A L H=>evSD P esc ops n jX A L H K
 | [],jX,A,L,H=>rfl
 | o::r,jX,A,L,H=>by
  show evSD P esc ops n (o::(r++jX)) A L H K=_
  simp only[evSD,KC r jX]
theorem lk {P:Program} {esc:List Nat} {ops:Array Oper} {n:Nat} {K:List (Nat×AV)→List (Nat×List AV)→List Blk→Prop} {A:List (Nat×AV)} {L:List (Nat×List AV)} {H:List Blk} (X:List Item) (i k:Nat):
  evSD P esc ops n (X.drop i) A L H K=evSD P esc ops n ((X.drop i).take k) A L H fun A L H=>evSD P esc ops n (X.drop (i+k)) A L H K:=by
 rw[←KC,←List.drop_drop,List.take_append_drop]
theorem map_set {α β:Type} (f:α→β) (xs:List α) (i:Nat) (x:α):(List.map f xs).set i (f x)=List.map f (xs.set i x):=by
 rw[List.map_set]
theorem q0 {H:List Blk} {α:Type} {eT eF:α→List AV} {b g sz n:Nat} {full:Bool} {xs ys:List α} (aF:n=xs.length) (hb:H[b]?=some ⟨g,sz,List.map eT xs⟩) (hc: ∀x,kT H (eT x) (eF x)) (h:xs.length≤4611686018427387904∧xs=ys):
  gD H (.ref b g 0 n full) (.bz (List.map eF ys) false true):=aF▸R9 hb hc h
theorem m5 {L:List (Nat×List AV)} {H:List Blk} {α:Type} {eT eF:α→List AV} {b g sz n:Nat} {full:Bool} {xs:List α} (aT:n=xs.length) (hb:H[b]?=some ⟨g,sz,List.map eT xs⟩) (hc: ∀x,oy L H (eT x) (eF x)) (aF:xs.length≤4611686018427387904):
  fZ L H (.ref b g 0 n full) (.bz (List.map eF xs) false false):=aT▸PC hb hc aF
theorem Cz {α:Type} {enc:α→List AV} {k:Nat} (h: ∀x,(enc x).length=k∧(enc x).all iY=true) (ys:List α):qS k (List.map enc ys):=fun row aJ=>by
 obtain⟨x,_,rfl⟩:=List.mem_map.1 aJ
 exact⟨(h x).1,fun a a4=>List.all_eq_true.1 (h x).2 a a4⟩
theorem y5 {α:Type} {c:Bool} {x y:List α} {n:Nat} (hx:x.length=n) (br:y.length=n):(bif c then x else y).length=n:=by cases c<;>assumption
def oC:List (Nat×AV)→List (Nat×AV)→List (Nat×AV)
 | [],R=>R
 | p::N,R=>p::oC N R
def Kj:List (Nat×AV)→List (Nat×AV)→List (Nat×AV)
 | [],A=>A
 | p::N,A=>lS (Kj N A) p.1
def gJ (N A:List (Nat×AV)):List (Nat×AV):=oC N (Kj N A)
def de (d:Option Nat) (v:AV) (N A:List (Nat×AV)):List (Nat×AV):=match d with
 | some d=>gJ ((d,v)::N) A
 | none=>gJ N A
def u7:List (Nat×AV)→Nat→AV→List (Nat×AV)
 | [],_,_=>[]
 | (k,u)::r,t,v=>match Nat.beq k t with
  | true=>(k,v)::r
  | false=>(k,u)::u7 r t v
abbrev ag (n:Int):AV:= .int .i64 n
abbrev ao (b:Bool):AV:= .bool b
abbrev bE {α:Type} (e:α→List AV) (x:List α):AV:= .bz (List.map e x) false false
abbrev aH:AV:= .bz [] true true
abbrev hh {α:Type} (e:α→List AV) (x:List α):AV:= .bz (List.map e x) false true
abbrev ak (b g n:Nat):AV:= .ref b g 0 n false
abbrev aB (t c:Nat):AV:= .fF t c
abbrev t0:AV:= .tup []
def gp (l:List Nat):List (Nat×AV):=l.map fun i=>(i,.tup [])
def Oi:Bool→List Nat→Bool×List Nat
 | b,0::m=>Oi (!b) m
 | b,m=>(b,m)
def k9 {α:Type} (b:Bool) (m:List Nat):List α→List α
 | []=>[]
 | x::l=>match Oi b m with
  | (true,(n+1)::m)=>x::k9 true (n::m) l
  | (false,(n+1)::m)=>k9 false (n::m) l
  | _=>[]
theorem zJ {α:Type} {n:Nat} {m:List Nat} {x:α} {l:List α}:k9 true ((n+1)::m) (x::l)=x::k9 true (n::m) l:=rfl
theorem zI {α:Type} {n:Nat} {m:List Nat} {x:α} {l:List α}:k9 false ((n+1)::m) (x::l)=k9 false (n::m) l:=rfl
theorem zK {α:Type} {m:List Nat} {l:List α}:k9 true (0::m) l=k9 false m l:=by cases l<;>rfl
theorem self {α:Type} {m:List Nat} {l:List α}:k9 false (0::m) l=k9 true m l:=by cases l<;>rfl
theorem zH {α:Type} {b:Bool} {l:List α}:k9 b [] l=[]:=by cases b<;>cases l<;>rfl
def h9 (j:Nat) (r:List (List AV)):List Blk→List Blk
 | []=>[]
 | b::H=>match j with
  | 0=>⟨b.bC,b.sz,r⟩::H
  | j+1=>b::h9 j r H
def hD (i j:Nat) (a:AV):List (Nat×List AV)→List (Nat×List AV)
 | []=>[]
 | x::L=>match i with
  | 0=>(x.1,x.2.set j a)::L
  | i+1=>x::hD i j a L
def er (i:Nat) (a:List AV):List (Nat×List AV)→List (Nat×List AV)
 | []=>[]
 | x::L=>match i with
  | 0=>(x.1,a)::L
  | i+1=>x::er i a L
def ep (i:Nat) (b:Blk):List Blk→List Blk
 | []=>[]
 | x::H=>match i with
  | 0=>b::H
  | i+1=>x::ep i b H
section
variable {i j k:Nat} {a:AV} {c l:List AV} {L:List (Nat×List AV)} {x:Nat×List AV} {b y:Blk} {H:List Blk}
theorem Ko:hD 0 j a ((k,c)::L)=(k,c.set j a)::L:=rfl
theorem Kq:hD (i+1) j a (x::L)=x::hD i j a L:=rfl
theorem Kw:er 0 l ((k,c)::L)=(k,l)::L:=rfl
theorem Kx:er (i+1) l (x::L)=x::er i l L:=rfl
theorem JS:ep 0 b (y::H)=b::H:=rfl
theorem JT:ep (i+1) b (y::H)=y::ep i b H:=rfl
end
abbrev av (i:Nat):Item:=⟨i,true,true,[]⟩
abbrev rg (a b:Nat):List Nat:=List.range' a (b - a)
def gX [cH] {V:Type} (S:V→St) (nb:V→Prop) (Q:Exit→St→Prop) (ex:Exit) (s:St):Prop:=match ex with
 | .normal=> ∃v,nb v∧Weak s (S v)
 | ex=>Q ex s
theorem gX.normal [cH] {V:Type} {S:V→St} {nb:V→Prop} {Q:Exit→St→Prop} {s:St} (v:V) (h:nb v) (hw:Weak s (S v)):gX S nb Q .normal s:=⟨v,h,hw⟩
theorem gX.ret [cH] {V:Type} {S:V→St} {nb:V→Prop} {Q:Exit→St→Prop} {s:St} (h:Q .ret s):gX S nb Q .ret s:=h
theorem gX.exit [cH] {V:Type} {S:V→St} {nb:V→Prop} {Q:Exit→St→Prop} {s:St} {id:Nat} (h:Q (.exit id) s):gX S nb Q (.exit id) s:=h
section
variable {P:Program} {b:Code} {k n:Nat} {Q:Exit→St→Prop} {aI:St} {A A':List (Nat×AV)} {L L':List (Nat×List AV)} {H H':List Blk}
theorem ka [cH] (S:St) (ψ:Prop) (h:WpS P (bT b (2*k)) (ck S ψ Q) aI) (aj:ψ→WpS P (bT b (2*k+1)) Q S) (e:bT b k= .seq (bT b (2*k)) (bT b (2*k+1)):=by kernel_rfl):WpS P (bT b k) Q aI:=WpS.xx S e h aj
theorem cB [cH] (N:List (Nat×AV)) (m:List Nat) (ψ:Prop) (h:WpS P (bT b (2*k)) (ck ⟨bf n A',L,H⟩ ψ Q) ⟨bf n A,L,H⟩) (aj:ψ→WpS P (bT b (2*k+1)) Q ⟨bf n A',L,H⟩) (iA:oC N (k9 true m A)=A':=by simp only[oC,zJ,zI,zK,self,zH];rfl) (e:bT b k= .seq (bT b (2*k)) (bT b (2*k+1)):=by kernel_rfl):WpS P (bT b k) Q ⟨bf n A,L,H⟩:=WpS.xx _ e h aj
theorem e0 [cH] (N:List (Nat×AV)) (m:List Nat) (Ef:List (Nat×List AV)→List (Nat×List AV)) (Ee:List Blk→List Blk) (ψ:Prop) (h:WpS P (bT b (2*k)) (ck ⟨bf n A',L',H'⟩ ψ Q) ⟨bf n A,L,H⟩) (aj:ψ→WpS P (bT b (2*k+1)) Q ⟨bf n A',L',H'⟩) (b0:Ef L=L':=by first | (simp only[id,Ko,Kq,Kw,Kx,List.set_cons_zero,List.set_cons_succ];rfl) | (dsimp only;rfl) | rfl) (aR:Ee H=H':=by first | (simp only[id,JS,JT,List.cons_append,List.nil_append];rfl) | (dsimp only;rfl) | rfl) (iA:oC N (k9 true m A)=A':=by simp only[oC,zJ,zI,zK,self,zH];rfl) (e:bT b k= .seq (bT b (2*k)) (bT b (2*k+1)):=by kernel_rfl):WpS P (bT b k) Q ⟨bf n A,L,H⟩:=WpS.xx _ e h aj
theorem J1 [cH] {V:Type} {y:Code} (id:Nat) (S:V→St) (nb:V→Prop) (h:WpS P (bT b (2*k)) (cn id (gX S nb Q)) aI) (aj: ∀v,nb v→WpS P y Q (S v)) (e:bT b k= .block id (bT b (2*k)):=by kernel_rfl):WpS P (bT b k) (ec P y Q) aI:=
 WpS.JW e (h.mono fun ex s hs=>by
  have key: ∀ex s,gX S nb Q ex s→ec P y Q ex s:=fun ex s hs=>by
   cases ex with
   | normal=>obtain⟨v,aM,hw⟩:=hs;exact(aj v aM).mF hw
   | _=>exact hs
  cases ex with
  | exit q=>
   show if q=id then _ else _
   replace hs:if q=id then gX S nb Q .normal s else gX S nb Q (.exit q) s:=hs
   split at hs
   ·rename_i aj;rw[if_pos aj];exact key _ _ hs
   ·rename_i aj;rw[if_neg aj];exact key _ _ hs
  | normal=>exact key .normal s hs
  | goto l=>exact key (.goto l) s hs
  | ret=>exact key .ret s hs
  | panic c=>exact key (.panic c) s hs
  | outgrown=>exact key .outgrown s hs)
theorem hP [cH] (h:WpS P (bT b (2*k)) (ec P (bT b (2*k+1)) Q) aI) (e:bT b k= .seq (bT b (2*k)) (bT b (2*k+1)):=by kernel_rfl):WpS P (bT b k) Q aI:=WpS.seq' e h
theorem sv [cH] (o:Operand) (z:Bool) (h1:z=true→WpS P (bT b (2*k)) Q ⟨bf n A,L,H⟩) (h2:z=false→WpS P (bT b (2*k+1)) Q ⟨bf n A,L,H⟩) (e:bT b k= .cond o (bT b (2*k)) (bT b (2*k+1)):=by kernel_rfl)
  (aF:eZ n A=true:=by kernel_rfl) (aC:pN A o= .bool z:=by kernel_rfl):WpS P (bT b k) Q ⟨bf n A,L,H⟩:=WpS.T7 e (T8 aF aC) h1 h2
theorem fw [cH] (id:Nat) (h:WpS P (bT b (2*k)) (cn id Q) aI) (e:bT b k= .block id (bT b (2*k)):=by kernel_rfl):WpS P (bT b k) Q aI:=WpS.JW e h
theorem ew [cH] (h:Q .normal aI) (e:bT b k= .skip:=by kernel_rfl):WpS P (bT b k) Q aI:=WpS.abQ e h
theorem hC [cH] (h:Q .ret aI) (e:bT b k= .ret:=by kernel_rfl):WpS P (bT b k) Q aI:=WpS.abn e h
theorem je [cH] (id:Nat) (h:Q (.exit id) aI) (e:bT b k= .exit id:=by kernel_rfl):WpS P (bT b k) Q aI:=WpS.UQ e h
theorem kz [cH] {V:Type} (S:V→St) (I:V→Prop) (m:V→Nat) (h5:V) (hs:Weak aI (S h5)) (aT:I h5) (round: ∀v,I v→WpS P (bT b (2*k)) (eb S I m v Q) (S v)) (e:bT b k= .loop (bT b (2*k)):=by kernel_rfl):WpS P (bT b k) Q aI:=
 WpS.NZ S I m e h5 hs aT round
theorem bJ [cH] (esc:List Nat) (id:Nat) (h:evS P esc (jF b k) n ((jF b k).toList.drop 0) A L H (fun A L H=>Q .normal ⟨bf n A,L,H⟩)) (e:bT b k= .region id (jF b k) false:=by kernel_rfl) (aF:eZ n A=true:=by kernel_rfl):WpS P (bT b k) Q ⟨bf n A,L,H⟩:=
 WpS.Ct (esc:=esc) e aF h
theorem ny [cH] (esc:List Nat) (id:Nat) (ord:List Item) (j9:List (List Nat)) (ix:List (Nat×List AV)) (h:evSD P esc (jF b k) n (ord.drop 0) A (ix++L) H (fun A L H=>Q .normal ⟨bf n A,L,H⟩)) (hm:P.follows .mixedOrders=true:=by kernel_rfl) (aL:j9.length=(jF b k).size:=by kernel_rfl)
  (bg:vT (jF b k) ord (x2 j9)=true:=by kernel_rfl) (E2:ord.all (·.lit)=true:=by kernel_rfl) (e:bT b k= .region id (jF b k) true:=by kernel_rfl) (aF:eZ n A=true:=by kernel_rfl) (hf:tR ix L=true:=by kernel_rfl) (aN:tH (jF b k) L ord=true:=by kernel_rfl):WpS P (bT b k) Q ⟨bf n A,L,H⟩:=
 WpS.abl (esc:=esc) ord j9 hm aL bg E2 e aF ix hf aN h
theorem ev [cH] (esc:List Nat) (id:Nat) (nd:List (Nat×AV)) (zb m:List Nat) (aj:WpS P (bT b (2*k+1)) Q ⟨bf n A',L,H⟩) (iA:oC (k9 true zb nd) (k9 true m A)=A':=by simp only[oC,zJ,zI,zK,self,zH];rfl) (e:bT b k= .seq (bT b (2*k)) (bT b (2*k+1)):=by kernel_rfl)
  (e2:bT b (2*k)= .region id (jF b (2*k)) false:=by kernel_rfl) (aF:eZ n A=true:=by kernel_rfl) (dS: ∀K,evS P esc (jF b (2*k)) n ((jF b (2*k)).toList.drop 0) A L H K=K (gJ nd A) L H:=by intro K;kernel_rfl) (lT:nu (gJ nd A) A'=A':=by kernel_rfl)
  (h1:eZ n (gJ nd A)=true:=by kernel_rfl) (h2:eZ n A'=true:=by kernel_rfl):WpS P (bT b k) Q ⟨bf n A,L,H⟩:=
 WpS.xx ⟨bf n A',L,H⟩ (ψ:=True) e (WpS.Ct (esc:=esc) e2 aF (by rw[dS];exact⟨trivial,xN h1 h2 lT⟩)) fun _=>aj
theorem qf [cH] (esc:List Nat) (id:Nat) (nd:List (Nat×AV)) (zb m:List Nat) (L':List (Nat×List AV)) (H':List Blk) (aj:WpS P (bT b (2*k+1)) Q ⟨bf n A',L',H'⟩) (iA:oC (k9 true zb nd) (k9 true m A)=A':=by simp only[oC,zJ,zI,zK,self,zH];rfl) (e:bT b k= .seq (bT b (2*k)) (bT b (2*k+1)):=by kernel_rfl)
  (e2:bT b (2*k)= .region id (jF b (2*k)) false:=by kernel_rfl) (aF:eZ n A=true:=by kernel_rfl) (dS: ∀K,evS P esc (jF b (2*k)) n ((jF b (2*k)).toList.drop 0) A L H K=K (gJ nd A) L' H':=by intro K;kernel_rfl) (lT:nu (gJ nd A) A'=A':=by kernel_rfl)
  (h1:eZ n (gJ nd A)=true:=by kernel_rfl) (h2:eZ n A'=true:=by kernel_rfl):WpS P (bT b k) Q ⟨bf n A,L,H⟩:=
 WpS.xx ⟨bf n A',L',H'⟩ (ψ:=True) e (WpS.Ct (esc:=esc) e2 aF (by rw[dS];exact⟨trivial,xN h1 h2 lT⟩)) fun _=>aj
theorem qe [cH] (esc:List Nat) (id:Nat) (nd:List (Nat×AV)) (zb m:List Nat) (Ef:List (Nat×List AV)→List (Nat×List AV)) (Ee:List Blk→List Blk) (aj:WpS P (bT b (2*k+1)) Q ⟨bf n A',L',H'⟩) (b0:Ef L=L':=by first | (simp only[id,Ko,Kq,Kw,Kx,List.set_cons_zero,List.set_cons_succ];rfl) | (dsimp only;rfl) | rfl) (aR:Ee H=H':=by first | (simp only[id,JS,JT,List.cons_append,List.nil_append];rfl) | (dsimp only;rfl) | rfl) (iA:oC (k9 true zb nd) (k9 true m A)=A':=by simp only[oC,zJ,zI,zK,self,zH];rfl) (e:bT b k= .seq (bT b (2*k)) (bT b (2*k+1)):=by kernel_rfl)
  (e2:bT b (2*k)= .region id (jF b (2*k)) false:=by kernel_rfl) (aF:eZ n A=true:=by kernel_rfl) (dS: ∀K,evS P esc (jF b (2*k)) n ((jF b (2*k)).toList.drop 0) A L H K=K (gJ nd A) L' H':=by intro K;kernel_rfl) (lT:nu (gJ nd A) A'=A':=by kernel_rfl)
  (h1:eZ n (gJ nd A)=true:=by kernel_rfl) (h2:eZ n A'=true:=by kernel_rfl):WpS P (bT b k) Q ⟨bf n A,L,H⟩:=
 WpS.xx ⟨bf n A',L',H'⟩ (ψ:=True) e (WpS.Ct (esc:=esc) e2 aF (by rw[dS];exact⟨trivial,xN h1 h2 lT⟩)) fun _=>aj
theorem dJ [cH] {t:Nat} {z:Bool} (h1:z=true→WpS P (bT b (2*k)) Q ⟨bf n ((t,.bool z)::A),L,H⟩) (h2:z=false→WpS P (bT b (2*k+1)) Q ⟨bf n ((t,.bool z)::A),L,H⟩) (e:bT b k= .cond (.tmp t) (bT b (2*k)) (bT b (2*k+1)):=by kernel_rfl)
  (aF:eZ n ((t,.bool z)::A)=true:=by kernel_rfl):WpS P (bT b k) Q ⟨bf n ((t,.bool z)::A),L,H⟩:=sv (.tmp t) z h1 h2 e aF (by show gl ((t,.bool z)::A) t=_;unfold gl;rw[show Nat.beq t t=true from Nat.beq_refl t])
theorem dF.go {f:FuncId} {fn:Func} {args:List AV} {H:List Blk} {R:AV→List Blk→Prop} (A:List (Nat×AV)) (hf:P.funcs[f]?=some fn) (h: ∀iK:cH,iK.n=H.length→WpS P (bT (iz fn) 1) (tE P fn R) ⟨bf fn.ntmps A,[],H⟩) (hb:fn.body=some (bT (iz fn) 1):=by kernel_rfl) (aF:(fn.name== "runtime.NumGoroutine")=false:=by kernel_rfl)
  (hi:y1 fn args H=⟨bf fn.ntmps A,[],H⟩:=by kernel_rfl):dF P f args H R:=dF.GK hf hb aF fun iK gk=>hi▸h iK gk
theorem nz {fn:Func} {R:AV→List Blk→Prop} (r:AV) (h:R r H) (aF:eZ n A=true:=by kernel_rfl) (e: ∀K,sc P A L H fn.results.toList K=K [r]:=by intro K;kernel_rfl) (aJ:[r].all jZ=true:=by kernel_rfl):tE P fn R .ret ⟨bf n A,L,H⟩:=Hm aF [r] e aJ rfl h
theorem eo [cH] (lT:nu A A'=A':=by kernel_rfl) (iA:eZ n A=true:=by kernel_rfl) (mN:eZ n A'=true:=by kernel_rfl):Weak ⟨bf n A,L,H⟩ ⟨bf n A',L,H⟩:=xN iA mN lT
theorem dE [cH] (dk:List Nat) (iA:eZ n A=true:=by kernel_rfl) (mN:eZ n A'=true:=by kernel_rfl) (aG:y_ dk A'=true:=by kernel_rfl) (lT:nu A A'=A':=by kernel_rfl) (iO:nU dk L=L':=by kernel_rfl):Weak ⟨bf n A,L,H⟩ ⟨bf n A',L',H⟩:=aff dk iA mN aG lT iO
theorem ms {fn:Func} {R:AV→List Blk→Prop} (r:AV) (l:List AV) (h:R r H) (aF:eZ n A=true:=by kernel_rfl) (e: ∀K,sc P A L H fn.results.toList K=K l:=by intro K;kernel_rfl) (aJ:l.all jZ=true:=by kernel_rfl) (hw:sk l=r:=by kernel_rfl):tE P fn R .ret ⟨bf n A,L,H⟩:=Hm aF l e aJ hw h
theorem AO {fn:Func} {R:AV→List Blk→Prop} (r:AV) (l:List AV) (h:R r H) (aF:eZ n A=true:=by kernel_rfl) (e: ∀K,sc P A L H fn.results.toList K=K l:=by intro K;kernel_rfl) (aJ:l.all jZ=true:=by kernel_rfl) (hw:sk l=r:=by kernel_rfl):tE P fn R .normal ⟨bf n A,L,H⟩:=UJ aF l e aJ hw h
end
section
variable {P:Program} {esc:List Nat} {ops:Array Oper} {n:Nat} {X:List Oper} {i0:Nat} {A:List (Nat×AV)} {L:List (Nat×List AV)} {H:List Blk} {K:List (Nat×AV)→List (Nat×List AV)→List Blk→Prop}
theorem b1 [cH] {A':List (Nat×AV)} {L':List (Nat×List AV)} {H':List Blk} {ψ:Prop} {Q:Exit→St→Prop} (N:List (Nat×AV)) (aG:ψ) (lT:nu (gJ N A) A'=A':=by kernel_rfl) (e: ∀K,evS P esc ops n (X.drop i0) A L H K=K (gJ N A) L' H':=by intro K;kernel_rfl)
  (iA:eZ n (gJ N A)=true:=by kernel_rfl) (mN:eZ n A'=true:=by kernel_rfl):evS P esc ops n (X.drop i0) A L H (fun A L H=>ck ⟨bf n A',L',H'⟩ ψ Q .normal ⟨bf n A,L,H⟩):=by
 rw[e];exact⟨aG,xN iA mN lT⟩
theorem nB (a_ t:Nat) (b:Bool) (N:List (Nat×AV)) (h1:b=true→evS P esc ops n (X.drop (i0+a_)) (u7 (gJ ((t,.bool b)::N) A) t (.bool true)) L H K) (h2:b=false→evS P esc ops n (X.drop (i0+a_)) (u7 (gJ ((t,.bool b)::N) A) t (.bool false)) L H K)
  (e: ∀K,evS P esc ops n ((X.drop i0).take a_) A L H K=K (u7 (gJ ((t,.bool b)::N) A) t (.bool b)) L H:=by intro K;kernel_rfl):evS P esc ops n (X.drop i0) A L H K:=by
 rw[jw X i0 a_,e]
 cases b with
 | true=>exact h1 rfl
 | false=>exact h2 rfl
theorem dX (N:List (Nat×AV)) (h:K (gJ N A) L H) (e: ∀K,evS P esc ops n (X.drop i0) A L H K=K (gJ N A) L H:=by intro K;kernel_rfl):evS P esc ops n (X.drop i0) A L H K:=by
 rw[e];exact h
theorem CB (N:List (Nat×AV)) (L':List (Nat×List AV)) (H':List Blk) (h:K (gJ N A) L' H') (e: ∀K,evS P esc ops n (X.drop i0) A L H K=K (gJ N A) L' H':=by intro K;kernel_rfl):evS P esc ops n (X.drop i0) A L H K:=by
 rw[e];exact h
theorem zF (a_:Nat) (N:List (Nat×AV)) (L':List (Nat×List AV)) (H':List Blk) (h:evS P esc ops n (X.drop (i0+a_)) (gJ N A) L' H' K) (e: ∀K,evS P esc ops n ((X.drop i0).take a_) A L H K=K (gJ N A) L' H':=by intro K;kernel_rfl):evS P esc ops n (X.drop i0) A L H K:=by
 rw[jw X i0 a_,e];exact h
theorem nA (a_:Nat) (d:Option Nat) (v:AV) (N:List (Nat×AV)) {φ:Prop} (h1:φ) (h:evS P esc ops n (X.drop (i0+a_)) (de d v N A) L H K) (e: ∀K,evS P esc ops n ((X.drop i0).take a_) A L H K=(φ∧K (de d v N A) L H):=by intro K;kernel_rfl):evS P esc ops n (X.drop i0) A L H K:=by
 rw[jw X i0 a_,e];exact⟨h1,h⟩
theorem kQ (a_:Nat) (d:Option Nat) (N:List (Nat×AV)) {α:Type} [Inhabited α] (enc:α→List AV) (xs:List α) {i:Int} (m:Nat)
  (aT:0≤i∧i.toNat<xs.length) (h:evS P esc ops n (X.drop (i0+a_)) (de d (.dv (enc (nth xs i)) 0) N A) L H K) (aF: ∀x,(enc x).length=m:=by exact fun _=>rfl)
  (e: ∀K,evS P esc ops n ((X.drop i0).take a_) A L H K=(0≤i∧c3 (List.map enc xs)[i.toNat]? fun row=>row.length=m∧K (de d (.dv row 0) N A) L H):=by intro K;kernel_rfl):evS P esc ops n (X.drop i0) A L H K:=by
 rw[jw X i0 a_,e]
 refine⟨aT.1,ej (a:=enc (nth xs i)) ?_ ⟨aF _,h⟩⟩
 rw[List.getElem?_map,gS aT.2];rfl
theorem lB (a_:Nat) (d:Option Nat) (N:List (Nat×AV)) (b g z:Nat) {i:Int} {m:Nat} (aT:0≤i∧i.toNat<m) (h:evS P esc ops n (X.drop (i0+a_)) (de d (.ptr b g (0+i.toNat) 0) N A) L H K)
  (e: ∀K,evS P esc ops n ((X.drop i0).take a_) A L H K=(g=g∧z=z∧0≤i∧i<m∧K (de d (.ptr b g (0+i.toNat) 0) N A) L H):=by intro K;kernel_rfl):evS P esc ops n (X.drop i0) A L H K:=by
 rw[jw X i0 a_,e];exact⟨rfl,rfl,aT.1,by have:=aT.2;omega,h⟩
theorem Pw (a_:Nat) (d:Option Nat) (N:List (Nat×AV)) {α:Type} [Inhabited α] (enc:α→List AV) (xs:List α) (i:Int) (t:TypeId) (c g:Nat) (v:AV) (aJ:i.toNat<xs.length) (h:evS P esc ops n (X.drop (i0+a_)) (de d v N A) L H K)
  (e2: ∀K,js P t (enc (nth xs i)) c K=K v:=by intro K;kernel_rfl)
  (e: ∀K,evS P esc ops n ((X.drop i0).take a_) A L H K=(g=g∧c3 (List.map enc xs)[0+i.toNat]? fun row=>js P t row c fun v=>K (de d v N A) L H):=by intro K;kernel_rfl):evS P esc ops n (X.drop i0) A L H K:=by
 rw[jw X i0 a_,e]
 refine⟨rfl,ej (a:=enc (nth xs i)) ?_ (by rw[e2];exact h)⟩
 rw[Nat.zero_add,List.getElem?_map,gS aJ];rfl
theorem mu (a_:Nat) (d:Option Nat) (N:List (Nat×AV)) {g:FuncId} (args:List AV) {eu:List AV} {t:AV}
  (hf:bX P g eu t) (hs:aE (dc L H) args eu) (h:evS P esc ops n (X.drop (i0+a_)) (de d t N A) L H K) (aF:args.all e1=true:=by kernel_rfl) (e: ∀K,evS P esc ops n ((X.drop i0).take a_) A L H K=li P g args L H (fun v L' H'=>K (de d v N A) L' H'):=by intro K;kernel_rfl):evS P esc ops n (X.drop i0) A L H K:=by
 rw[jw X i0 a_,e];exact .inl ⟨aF,eu,t,hs,hf,h⟩
theorem abD (a_:Nat) (d:Option Nat) (N:List (Nat×AV)) {α:Type} [Inhabited α] (enc:α→List AV) (xs:List α) (i:Int) (c k g:Nat) (cells:List AV) (H':List (List AV)→List Blk) (ld:α) (aJ:i.toNat<xs.length)
  (h:evS P esc ops n (X.drop (i0+a_)) (de d (.tup []) N A) L (H' (List.map enc (xs.set i.toNat ld))) K) (hc:Nat.ble (c+k) (enc (nth xs i)).length=true:=by kernel_rfl) (hs:fk (enc (nth xs i)) c cells=enc ld:=by kernel_rfl)
  (e: ∀K,evS P esc ops n ((X.drop i0).take a_) A L H K=(g=g∧c3 (List.map enc xs)[0+i.toNat]? fun row=>c+k≤row.length∧K (de d (.tup []) N A) L (H' ((List.map enc xs).set (0+i.toNat) (fk row c cells)))):=by intro K;kernel_rfl):evS P esc ops n (X.drop i0) A L H K:=by
 rw[jw X i0 a_,e]
 refine⟨rfl,ej (a:=enc (nth xs i)) ?_ ⟨Nat.le_of_ble_eq_true hc,?_⟩⟩
 ·rw[Nat.zero_add,List.getElem?_map,gS aJ];rfl
 ·rw[hs,Nat.zero_add,map_set];exact h
theorem tm (a_:Nat) (d:Option Nat) (N:List (Nat×AV)) {α:Type} [Inhabited α] (enc:α→List AV) (xs:List α) (i:Int) (c k g:Nat) (cells:List AV) (j:Nat) (ld:α) (aJ:i.toNat<xs.length)
  (h:evS P esc ops n (X.drop (i0+a_)) (de d (.tup []) N A) L (h9 j (List.map enc (xs.set i.toNat ld)) H) K) (hc:Nat.ble (c+k) (enc (nth xs i)).length=true:=by kernel_rfl) (hs:fk (enc (nth xs i)) c cells=enc ld:=by kernel_rfl)
  (e: ∀K,evS P esc ops n ((X.drop i0).take a_) A L H K=(g=g∧c3 (List.map enc xs)[0+i.toNat]? fun row=>c+k≤row.length∧K (de d (.tup []) N A) L (h9 j ((List.map enc xs).set (0+i.toNat) (fk row c cells)) H)):=by intro K;kernel_rfl):evS P esc ops n (X.drop i0) A L H K:=abD a_ d N enc xs i c k g cells (fun r=>h9 j r H) ld aJ h hc hs e
theorem Px (a_:Nat) (d:Option Nat) (N:List (Nat×AV)) {α:Type} (enc:α→List AV) {i:Int} (B:Int) (z:List AV) (b:Nat) (H':List (List AV)→List Blk) (a8:α) (aT:0≤i∧B*i≤140737488355328∧i≤4611686018427387904)
  (h:evS P esc ops n (X.drop (i0+a_)) (de d (.ref b 0 0 (List.replicate i.toNat a8).length false) N A) L (H' (List.map enc (List.replicate i.toNat a8))) K) (aN:z=enc a8:=by rfl)
  (e: ∀K,evS P esc ops n ((X.drop i0).take a_) A L H K=(0≤i∧i≤i∧B*i≤140737488355328∧i≤4611686018427387904∧K (de d (.ref b 0 0 i.toNat false) N A) L (H' (List.replicate i.toNat z))):=by intro K;kernel_rfl):evS P esc ops n (X.drop i0) A L H K:=by
 rw[jw X i0 a_,e]
 refine⟨aT.1,Int.le_refl _,aT.2.1,aT.2.2,?_⟩
 ·rw[aN,←List.map_replicate];rw[List.length_replicate] at h;exact h
theorem abB (a_:Nat) (d:Option Nat) (N:List (Nat×AV)) {α:Type} (enc:α→List AV) (xs ys:List α) (ci:List (List AV)) (b g s B:Nat) (H':List (List AV)→List Blk) (hx:ci=List.map enc ys) (aT:(xs.length+ys.length)*B≤140737488355328∧xs.length+ys.length≤4611686018427387904)
  (h:evS P esc ops n (X.drop (i0+a_)) (de d (.ref b (g+1) 0 (xs++ys).length false) N A) L (H' (List.map enc (xs++ys))) K) (hk: ∀x,(enc x).length=s∧(enc x).all iY=true:=by exact fun _=>⟨rfl,rfl⟩)
  (e: ∀K,evS P esc ops n ((X.drop i0).take a_) A L H K=(true=true∧true=true∧qS s ci∧0=0∧g=g∧s=s∧(List.map enc xs).length=xs.length∧(xs.length+ci.length)*B≤140737488355328∧xs.length+ci.length≤4611686018427387904∧K (de d (.ref b (g+1) 0 (xs.length+ci.length) false) N A) L (H' (List.map enc xs++ci))):=by intro K;kernel_rfl):evS P esc ops n (X.drop i0) A L H K:=by
 rw[jw X i0 a_,e]
 subst hx
 refine⟨rfl,rfl,Cz hk ys,rfl,rfl,rfl,List.length_map ..,by rw[List.length_map];exact aT.1,by rw[List.length_map];exact aT.2,?_⟩
 ·rw[List.length_append] at h;rw[List.length_map,←List.map_append];exact h
theorem qW (a_:Nat) (d:Option Nat) (N:List (Nat×AV)) {α:Type} (enc:α→List AV) (ys:List α) (ci:List (List AV)) (b s B:Nat) (H':List (List AV)→List Blk) (hx:ci=List.map enc ys) (aT:ys.length*B≤140737488355328∧ys.length≤4611686018427387904)
  (h:evS P esc ops n (X.drop (i0+a_)) (de d (.ref b 0 0 ys.length false) N A) L (H' (List.map enc ys)) K) (hk: ∀x,(enc x).length=s∧(enc x).all iY=true:=by exact fun _=>⟨rfl,rfl⟩)
  (e: ∀K,evS P esc ops n ((X.drop i0).take a_) A L H K=(true=true∧true=true∧qS s ci∧true=true∧(∀row∈([]:List (List AV)),row.length=s)∧(List.length (α:=List AV) []+ci.length)*B≤140737488355328∧List.length (α:=List AV) []+ci.length≤4611686018427387904∧(([]:List (List AV))≠[]→ci≠[])∧
   K (de d (.ref b 0 0 (List.length (α:=List AV) []+ci.length) false) N A) L (H' ([]++ci))):=by intro K;kernel_rfl):evS P esc ops n (X.drop i0) A L H K:=by
 rw[jw X i0 a_,e]
 subst hx
 refine⟨rfl,rfl,Cz hk ys,rfl,(fun row h=>by cases h),by simpa using aT.1,by simpa using aT.2,(fun h=>absurd rfl h),?_⟩
 ·simpa using h
theorem tk (a_:Nat) (d:Option Nat) (N:List (Nat×AV)) {g:FuncId} (args:List AV) {eu:List AV} {m4:AV} {dK:List Blk} (r:AV) (kU:List Blk)
  (hf:dF P g eu [] fun r H'=>r=m4∧H'=dK) (hs:aE (dc L H) args eu) (yM:s6 dK=true) (vW:H++dK.map (la H.length)=kU)
  (h:evS P esc ops n (X.drop (i0+a_)) (de d r N A) L kU K) (aF:args.all e1=true:=by kernel_rfl) (aC:xb m4=true:=by kernel_rfl) (er:m6 H.length m4=r:=by kernel_rfl) (e: ∀K,evS P esc ops n ((X.drop i0).take a_) A L H K=li P g args L H (fun v L' H'=>K (de d v N A) L' H'):=by intro K;kernel_rfl):evS P esc ops n (X.drop i0) A L H K:=by
 rw[jw X i0 a_,e]
 subst er;subst vW
 exact .inr (.inl ⟨aF,eu,hs,hf.mono fun fq H1 ⟨h1,h2⟩=>by subst h1;subst h2;exact⟨aC,yM,h⟩⟩)
theorem sLen (a_:Nat) (d:Option Nat) (N:List (Nat×AV)) {α:Type} (enc:α→List AV) (xs:List α) (h:xs.length≤4611686018427387904→evS P esc ops n (X.drop (i0+a_)) (de d (.int .i64 (xs.length:Nat)) N A) L H K)
  (e: ∀K,evS P esc ops n ((X.drop i0).take a_) A L H K=((List.map enc xs).length≤4611686018427387904→K (de d (.int .i64 ((List.map enc xs).length:Nat)) N A) L H):=by intro K;kernel_rfl):evS P esc ops n (X.drop i0) A L H K:=by
 rw[jw X i0 a_,e,List.length_map];exact h
theorem Hx (a_:Nat) (d:Option Nat) (N:List (Nat×AV)) {α:Type} (enc:α→List AV) (xs:List α) (h1:xs≠[]→evS P esc ops n (X.drop (i0+a_)) (de d (.bool false) N A) L H K) (h2:xs=[]→ ∀b,evS P esc ops n (X.drop (i0+a_)) (de d (.bool b) N A) L H K)
  (e: ∀K,evS P esc ops n ((X.drop i0).take a_) A L H K=((List.map enc xs≠[]→K (de d (.bool false) N A) L H)∧(List.map enc xs=[]→ ∀b,K (de d (.bool b) N A) L H)):=by intro K;kernel_rfl):evS P esc ops n (X.drop i0) A L H K:=by
 rw[jw X i0 a_,e]
 exact⟨fun h=>h1 fun e=>h (by rw[e];rfl),fun h=>h2 (by simpa using h)⟩
end
section
variable {P:Program} {esc:List Nat} {ops:Array Oper} {n:Nat} {X:List Item} {i0:Nat} {A:List (Nat×AV)} {L:List (Nat×List AV)} {H:List Blk} {K:List (Nat×AV)→List (Nat×List AV)→List Blk→Prop}
theorem kR [cH] {A':List (Nat×AV)} {L':List (Nat×List AV)} {H':List Blk} {ψ:Prop} {Q:Exit→St→Prop} (N:List (Nat×AV)) (aG:ψ) (lT:nu (gJ N A) A'=A':=by kernel_rfl) (e: ∀K,evSD P esc ops n (X.drop i0) A L H K=K (gJ N A) L' H':=by intro K;kernel_rfl)
  (iA:eZ n (gJ N A)=true:=by kernel_rfl) (mN:eZ n A'=true:=by kernel_rfl):evSD P esc ops n (X.drop i0) A L H (fun A L H=>ck ⟨bf n A',L',H'⟩ ψ Q .normal ⟨bf n A,L,H⟩):=by
 rw[e];exact⟨aG,xN iA mN lT⟩
theorem pW (a_ t:Nat) (b:Bool) (N:List (Nat×AV)) (h1:b=true→evSD P esc ops n (X.drop (i0+a_)) (u7 (gJ ((t,.bool b)::N) A) t (.bool true)) L H K) (h2:b=false→evSD P esc ops n (X.drop (i0+a_)) (u7 (gJ ((t,.bool b)::N) A) t (.bool false)) L H K)
  (e: ∀K,evSD P esc ops n ((X.drop i0).take a_) A L H K=K (u7 (gJ ((t,.bool b)::N) A) t (.bool b)) L H:=by intro K;kernel_rfl):evSD P esc ops n (X.drop i0) A L H K:=by
 rw[lk X i0 a_,e]
 cases b with
 | true=>exact h1 rfl
 | false=>exact h2 rfl
theorem zX (N:List (Nat×AV)) (h:K (gJ N A) L H) (e: ∀K,evSD P esc ops n (X.drop i0) A L H K=K (gJ N A) L H:=by intro K;kernel_rfl):evSD P esc ops n (X.drop i0) A L H K:=by
 rw[e];exact h
theorem CN (a_:Nat) (d:Option Nat) (v:AV) (N:List (Nat×AV)) {φ:Prop} (h1:φ) (h:evSD P esc ops n (X.drop (i0+a_)) (de d v N A) L H K) (e: ∀K,evSD P esc ops n ((X.drop i0).take a_) A L H K=(φ∧K (de d v N A) L H):=by intro K;kernel_rfl):evSD P esc ops n (X.drop i0) A L H K:=by
 rw[lk X i0 a_,e];exact⟨h1,h⟩
theorem I3 (a_:Nat) (N:List (Nat×AV)) (L':List (Nat×List AV)) (H':List Blk) {φ:Prop} (h1:φ) (h:evSD P esc ops n (X.drop (i0+a_)) (gJ N A) L' H' K) (e: ∀K,evSD P esc ops n ((X.drop i0).take a_) A L H K=(φ∧K (gJ N A) L' H'):=by intro K;kernel_rfl):evSD P esc ops n (X.drop i0) A L H K:=by
 rw[lk X i0 a_,e];exact⟨h1,h⟩
theorem sh (a_:Nat) (d:Option Nat) (N:List (Nat×AV)) {α:Type} [Inhabited α] (enc:α→List AV) (xs:List α) {i:Int} (m:Nat)
  (aT:0≤i∧i.toNat<xs.length) (h:evSD P esc ops n (X.drop (i0+a_)) (de d (.dv (enc (nth xs i)) 0) N A) L H K) (aF: ∀x,(enc x).length=m:=by exact fun _=>rfl)
  (e: ∀K,evSD P esc ops n ((X.drop i0).take a_) A L H K=(0≤i∧c3 (List.map enc xs)[i.toNat]? fun row=>row.length=m∧K (de d (.dv row 0) N A) L H):=by intro K;kernel_rfl):evSD P esc ops n (X.drop i0) A L H K:=by
 rw[lk X i0 a_,e]
 refine⟨aT.1,ej (a:=enc (nth xs i)) ?_ ⟨aF _,h⟩⟩
 rw[List.getElem?_map,gS aT.2];rfl
theorem vj (a_:Nat) (d:Option Nat) (N:List (Nat×AV)) (b g z:Nat) {i:Int} {m:Nat} (aT:0≤i∧i.toNat<m) (h:evSD P esc ops n (X.drop (i0+a_)) (de d (.ptr b g (0+i.toNat) 0) N A) L H K)
  (e: ∀K,evSD P esc ops n ((X.drop i0).take a_) A L H K=(g=g∧z=z∧0≤i∧i<m∧K (de d (.ptr b g (0+i.toNat) 0) N A) L H):=by intro K;kernel_rfl):evSD P esc ops n (X.drop i0) A L H K:=by
 rw[lk X i0 a_,e];exact⟨rfl,rfl,aT.1,by have:=aT.2;omega,h⟩
theorem xH (a_:Nat) (d:Option Nat) (N:List (Nat×AV)) {α:Type} [Inhabited α] (enc:α→List AV) (xs:List α) (i:Int) (t:TypeId) (c g:Nat) (v:AV) (aJ:i.toNat<xs.length) (h:evSD P esc ops n (X.drop (i0+a_)) (de d v N A) L H K)
  (e2: ∀K,js P t (enc (nth xs i)) c K=K v:=by intro K;kernel_rfl)
  (e: ∀K,evSD P esc ops n ((X.drop i0).take a_) A L H K=(g=g∧c3 (List.map enc xs)[0+i.toNat]? fun row=>js P t row c fun v=>K (de d v N A) L H):=by intro K;kernel_rfl):evSD P esc ops n (X.drop i0) A L H K:=by
 rw[lk X i0 a_,e]
 refine⟨rfl,ej (a:=enc (nth xs i)) ?_ (by rw[e2];exact h)⟩
 rw[Nat.zero_add,List.getElem?_map,gS aJ];rfl
theorem Sh (a_:Nat) (d:Option Nat) (N:List (Nat×AV)) {g:FuncId} (args:List AV) {eu:List AV} {t:AV}
  (hf:bX P g eu t) (hs:aE (dc L H) args eu) (h:evSD P esc ops n (X.drop (i0+a_)) (de d t N A) L H K) (aF:args.all e1=true:=by kernel_rfl) (e: ∀K,evSD P esc ops n ((X.drop i0).take a_) A L H K=oF P g args L H (fun v=>K (de d v N A) L H):=by intro K;kernel_rfl):evSD P esc ops n (X.drop i0) A L H K:=by
 rw[lk X i0 a_,e];exact⟨aF,eu,t,hs,hf,h⟩
theorem ae1 (a_:Nat) (d:Option Nat) (N:List (Nat×AV)) {α:Type} [Inhabited α] (enc:α→List AV) (xs:List α) (i:Int) (c k g:Nat) (cells:List AV) (F:List (List AV)→Prop) (H':List (List AV)→List Blk) (ld:α) (aJ:i.toNat<xs.length)
  (c_:F ((List.map enc (xs.set i.toNat ld)))) (h:evSD P esc ops n (X.drop (i0+a_)) (de d (.tup []) N A) L (H' (List.map enc (xs.set i.toNat ld))) K) (hc:Nat.ble (c+k) (enc (nth xs i)).length=true:=by kernel_rfl) (hs:fk (enc (nth xs i)) c cells=enc ld:=by kernel_rfl)
  (e: ∀K,evSD P esc ops n ((X.drop i0).take a_) A L H K=(g=g∧c3 (List.map enc xs)[0+i.toNat]? fun row=>c+k≤row.length∧F (((List.map enc xs).set (0+i.toNat) (fk row c cells)))∧K (de d (.tup []) N A) L (H' ((List.map enc xs).set (0+i.toNat) (fk row c cells)))):=by intro K;kernel_rfl):evSD P esc ops n (X.drop i0) A L H K:=by
 rw[lk X i0 a_,e]
 refine⟨rfl,ej (a:=enc (nth xs i)) ?_ ⟨Nat.le_of_ble_eq_true hc,?_,?_⟩⟩
 ·rw[Nat.zero_add,List.getElem?_map,gS aJ];rfl
 ·rw[hs,Nat.zero_add,map_set];exact c_
 ·rw[hs,Nat.zero_add,map_set];exact h
theorem aeY (a_:Nat) (d:Option Nat) (N:List (Nat×AV)) {α:Type} (enc:α→List AV) (xs ys:List α) (ci:List (List AV)) (b g s B:Nat) (F:List (List AV)→Prop) (H':List (List AV)→List Blk) (hx:ci=List.map enc ys) (aT:(xs.length+ys.length)*B≤140737488355328∧xs.length+ys.length≤4611686018427387904)
  (c_:F ((List.map enc (xs++ys)))) (h:evSD P esc ops n (X.drop (i0+a_)) (de d (.ref b (g+1) 0 (xs++ys).length false) N A) L (H' (List.map enc (xs++ys))) K) (hk: ∀x,(enc x).length=s∧(enc x).all iY=true:=by exact fun _=>⟨rfl,rfl⟩)
  (e: ∀K,evSD P esc ops n ((X.drop i0).take a_) A L H K=(true=true∧true=true∧qS s ci∧0=0∧g=g∧s=s∧(List.map enc xs).length=xs.length∧(xs.length+ci.length)*B≤140737488355328∧xs.length+ci.length≤4611686018427387904∧F ((List.map enc xs++ci))∧K (de d (.ref b (g+1) 0 (xs.length+ci.length) false) N A) L (H' (List.map enc xs++ci))):=by intro K;kernel_rfl):evSD P esc ops n (X.drop i0) A L H K:=by
 rw[lk X i0 a_,e]
 subst hx
 refine⟨rfl,rfl,Cz hk ys,rfl,rfl,rfl,List.length_map ..,by rw[List.length_map];exact aT.1,by rw[List.length_map];exact aT.2,?_,?_⟩
 ·rw[←List.map_append];exact c_
 ·rw[List.length_append] at h;rw[List.length_map,←List.map_append];exact h
theorem I2 (a_:Nat) (d:Option Nat) (N:List (Nat×AV)) {g:FuncId} (args:List AV) {eu:List AV} {m4:AV} {dK:List Blk} (F:List (Nat×List AV)→List Blk→Prop) (r:AV) (kU:List Blk)
  (hf:dF P g eu [] fun r H'=>r=m4∧H'=dK) (hs:aE (dc L H) args eu) (yM:s6 dK=true) (vW:H++dK.map (la H.length)=kU) (c_:F L kU)
  (h:evSD P esc ops n (X.drop (i0+a_)) (de d r N A) L kU K) (aF:args.all e1=true:=by kernel_rfl) (aC:xb m4=true:=by kernel_rfl) (er:m6 H.length m4=r:=by kernel_rfl) (e: ∀K,evSD P esc ops n ((X.drop i0).take a_) A L H K=li P g args L H (fun v L' H'=>F L' H'∧K (de d v N A) L' H'):=by intro K;kernel_rfl):evSD P esc ops n (X.drop i0) A L H K:=by
 rw[lk X i0 a_,e]
 subst er;subst vW
 exact .inr (.inl ⟨aF,eu,hs,hf.mono fun fq H1 ⟨h1,h2⟩=>by subst h1;subst h2;exact⟨aC,yM,c_,h⟩⟩)
theorem I4 (a_:Nat) (d:Option Nat) (N:List (Nat×AV)) {α:Type} (enc:α→List AV) (xs:List α) (h:evSD P esc ops n (X.drop (i0+a_)) (de d (.int .i64 (xs.length:Nat)) N A) L H K)
  (e: ∀K,evSD P esc ops n ((X.drop i0).take a_) A L H K=K (de d (.int .i64 ((List.map enc xs).length:Nat)) N A) L H:=by intro K;kernel_rfl):evSD P esc ops n (X.drop i0) A L H K:=by
 rw[lk X i0 a_,e,List.length_map];exact h
end
inductive jt (H:List Blk) (gm:Nat) (dp:Nat→Option Nat):AV→AV→Prop where
 | int (k:IntKind) (n:Int):jt H gm dp (.int k n) (.int k n)
 | bool (b:Bool):jt H gm dp (.bool b) (.bool b)
 | str (s:ByteArray):jt H gm dp (.str s) (.str s)
 | gd:jt H gm dp .gd .gd
 | gx:jt H gm dp .gx .gx
 | bz (rows:List (List AV)) (full eB fr:Bool) (hw:eB=true→full=true):jt H gm dp (.bz rows full fr) (.bz rows eB fr)
 | ref {b g n j:Nat} {full:Bool} {blk:Blk} (aM:j<gm) (hs:dp j=some b) (hb:H[b]?=some blk) (hg:blk.bC=g):jt H gm dp (.ref b g 0 n full) (.ref j 0 0 n false)
 | nil {a:AV} {j:Nat} (aM:j<gm) (hs:dp j=none) (h:rX a=true):jt H gm dp a (.ref j 0 0 0 false)
def Js (H:List Blk) (gm:Nat) (dp:Nat→Option Nat) (a b:AV):Prop:=(∃l fp,a= .agg l∧b= .agg fp∧aE (jt H gm dp) l fp)∨jt H gm dp a b
structure tD (H dK:List Blk) (dp:Nat→Option Nat):Prop where
 inj: ∀i j b,i<dK.length→j<dK.length→dp i=some b→dp j=some b→i=j
 bC: ∀(j:Nat) (k:Blk),dK[j]?=some k→k.bC=0
 blk: ∀(j b:Nat) (k:Blk),dK[j]?=some k→dp j=some b→ ∃q,H[b]?=some q∧q.sz=k.sz∧aE (aE (jt H dK.length dp)) q.rows k.rows
def Env.own (E:Env) (dK:List Blk) (dp:Nat→Option Nat):Env:=
 {w:=E.w,PA:=E.PA,PF:=E.PF,mL:=fun _=>none,bC:=fun _=>0
  m:=fun j=>if j<dK.length then(match dp j with
   | some b=>E.m b
   | none=>some none) else none
  sz:=fun j=>(dK[j]?.map Blk.sz).getD 0
  cp:=fun j=>match dp j with
   | some b=>E.cp b
   | none=>0}
section
variable {E:Env} {H dK:List Blk} {dp:Nat→Option Nat}
theorem Ot {j b:Nat} (aM:j<dK.length) (hs:dp j=some b):(E.own dK dp).m j=E.m b:=by
 show(if j<dK.length then _ else _)=_
 rw[if_pos aM,hs]
theorem aaz {j:Nat} (aM:j<dK.length) (hs:dp j=none):(E.own dK dp).m j=some none:=by
 show(if j<dK.length then _ else _)=_
 rw[if_pos aM,hs]
theorem w_ {j:Nat} {x:Option Nat} (h:(E.own dK dp).m j=some x):j<dK.length∧((dp j=none∧x=none)∨ ∃b,dp j=some b∧E.m b=some x):=by
 have h:(if j<dK.length then(match dp j with
   | some b=>E.m b
   | none=>some none) else none)=some x:=h
 split at h
 ·rename_i aM
  refine⟨aM,?_⟩
  cases hs:dp j with
  | none=>rw[hs] at h;cases h;exact .inl ⟨rfl,rfl⟩
  | some b=>rw[hs] at h;exact .inr ⟨b,rfl,h⟩
 ·cases h
theorem jt.v1 (aR:SimH E H) (ed:tD H dK dp) {a b:AV} (h:jt H dK.length dp a b) {v:Value} (hv:cI E a v):cI (E.own dK dp) b v:=by
 cases h with
 | int k n=>exact hv
 | bool b=>exact hv
 | str s=>exact hv
 | gd=>exact hv
 | gx=>exact hv
 | bz rows full eB fr hw=>
  have hv:bF E.w E.PA E.PF (.bz rows full fr) v:=hv
  cases hv with
  | bz gj gO hn cV fh d_=>exact bF.bz gj gO (fun h=>hn (hw h)) cV fh d_
 | @ref b g n j full blk aM hs hb hg=>
  have kf:=aR.fb b blk hb
  have hk:dK[j]?=some dK[j]:=List.getElem?_eq_getElem aM
  obtain⟨q,aj,cV,_⟩:=ed.blk j b _ hk hs
  rw[hb] at aj
  obtain rfl:=Option.some.inj aj
  rcases(show ft E (.ref b g 0 n full) v from hv) with⟨bc,_⟩ | ⟨fR,bV⟩
  ·omega
  ·refine .inr ⟨rfl,?_⟩
   rcases bV with⟨hm,_,aF,A,iA⟩ | ⟨c,cap,hm,e,h1,h2,aO⟩
   ·exact .inl ⟨by rw[Ot aM hs];exact hm,rfl,aF,A,iA⟩
   ·refine .inr ⟨c,cap,by rw[Ot aM hs];exact hm,by rw[e,Nat.zero_mul,Nat.zero_mul],h1,(fun h=>by cases h),?_⟩
    show 0+cap≤(match dp j with
     | some b=>E.cp b
     | none=>0)
    rw[hs];exact aO
 | nil aM hs h=>exact DZ (E:=E) h hv rfl (aaz aM hs)
theorem aaA (aR:SimH E H) (b0: ∀t,E.mL t=none) (ed:tD H dK dp):SimH (E.own dK dp) dK:=by
 have hR:E.b6=E:=by
  have:E.mL=fun _=>none:=funext b0
  cases E;simp only[Env.b6] at*;subst this;rfl
 have pF: ∀c,(E.own dK dp).gQ c→E.gQ c:=fun c ⟨j,aM⟩=>by
  obtain⟨_,h | ⟨b,_,h⟩⟩:=w_ aM
  ·cases h.2
  ·exact⟨b,h⟩
 exact{
  heap:=fun j c hm=>by
   obtain⟨aM,h | ⟨b,hs,hb⟩⟩:=w_ hm
   ·cases h.2
   ·have hk:dK[j]?=some dK[j]:=List.getElem?_eq_getElem aM
    obtain⟨q,aj,cV,aJ⟩:=ed.blk j b _ hk hs
    obtain⟨blk,a7,ty,q1,dU,q2,q3,q4,cL,cY⟩:=aR.heap b c hb
    rw[aj] at q1
    obtain rfl:=Option.some.inj q1
    have bx:(E.own dK dp).sz j=E.sz b:=by
     show(dK[j]?.map Blk.sz).getD 0=_
     rw[hk,dU,cV];rfl
    have e2:(E.own dK dp).cp j=E.cp b:=by
     show(match dp j with
      | some b=>E.cp b
      | none=>0)=_
     rw[hs]
    refine⟨_,a7,ty,hk,by rw[bx,dU,cV],q2,by rw[bx,e2];exact q3,by rw[e2,←aJ.1];exact q4,fun i row eV=> ?_,fun i l row a eV a4=> ?_⟩
    ·have bc:=(List.getElem?_eq_some_iff.1 eV).1
     have h1:q.rows[i]?=some (q.rows[i]'(by rw[aJ.1];exact bc)):=List.getElem?_eq_getElem _
     rw[bx,←(aJ.2 i _ row h1 eV).1];exact cL i _ h1
    ·have bc:=(List.getElem?_eq_some_iff.1 eV).1
     have h1:q.rows[i]?=some (q.rows[i]'(by rw[aJ.1];exact bc)):=List.getElem?_eq_getElem _
     have aG:=aJ.2 i _ row h1 eV
     have W2:=(List.getElem?_eq_some_iff.1 a4).1
     have h2:=List.getElem?_eq_getElem (l:=q.rows[i]'(by rw[aJ.1];exact bc)) (i:=l) (by rw[aG.1];exact W2)
     obtain⟨u,hu,hv⟩:=cY i l _ _ h1 h2
     rw[hR] at hv
     exact⟨u,by rw[bx];exact hu,(aG.2 l _ a h2 a4).v1 aR ed hv⟩
  fb:=fun j k hk=>(ed.bC j k hk).symm
  hp:=fun j hm=>by
   obtain⟨aM,_⟩:=w_ hm
   have hk:dK[j]?=some dK[j]:=List.getElem?_eq_getElem aM
   exact⟨_,hk,by show(dK[j]?.map Blk.sz).getD 0=_;rw[hk];rfl⟩
  fresh:=fun j aM=>⟨by show(if j<dK.length then _ else _)=_;rw[if_neg (by omega)],rfl⟩
  hV:=fun i j c h1 h2=>by
   obtain⟨hi,h | ⟨b,hs,hb⟩⟩:=w_ h1
   ·cases h.2
   ·obtain⟨aM,h | ⟨cl,lZ,eh⟩⟩:=w_ h2
    ·cases h.2
    ·have:=aR.hV b cl c hb eh
     subst this
     exact ed.inj i j b hi aM hs lZ
  jC:=fun t jJ c h=>by cases h
  gR:=fun b t c _ h=>by cases h
  hW:=fun c hc h=>aR.hW c hc (pF c h)
  im:=fun c hc ⟨t,h⟩=>by cases h
  eW:=aR.eW
  e9:=aR.e9
  gw:=fun c h=>aR.gw c (pF c h)
  g4:=fun c ⟨t,h⟩=>by cases h}
end
theorem dF.toOwn {P:Program} {f:FuncId} {args:List AV} {m4:AV} {dK:List Blk} (h:dF P f args [] fun r H=> ∃dp,tD H dK dp∧Js H dK.length dp r m4):dF P f args [] fun r H=>r=m4∧H=dK:=by
 refine⟨h.1,fun E vs aF hs a4=>(h.2 E vs aF hs a4).mono ?_⟩
 rintro e w' ⟨r,v,H',E',rfl,⟨dp,ed,yr⟩,rfl,W5,lZ,hv,bj⟩
 refine⟨m4,v,dK,E'.own dK dp,rfl,⟨rfl,rfl⟩,rfl,fun _=>rfl,aaA lZ W5 ed,?_,?_⟩
 ·rcases yr with⟨l,fp,rfl,rfl,aG⟩ | yr
  ·obtain⟨kr,rfl,aj⟩:=(show ∃kr:List Value,v= .agg kr.toArray∧aE (cI E') l kr from hv)
   refine⟨kr,rfl,aG.1▸aj.1,fun i a u a4 hu=> ?_⟩
   have bc:i<l.length:=by rw[aG.1];exact(List.getElem?_eq_some_iff.1 a4).1
   have h1:=List.getElem?_eq_getElem bc
   exact(aG.2 i _ a h1 a4).v1 lZ ed (aj.2 i _ u h1 hu)
  ·have k1:cI E' r v:=by
    rw[oB,pd] at hv
    ·exact hv
    ·rintro l rfl;cases yr with
     | nil aM hs hx=>exact absurd hx Bool.false_ne_true
    ·rintro l rfl;cases yr with
     | nil aM hs hx=>exact absurd hx Bool.false_ne_true
   exact p5 (p4 (yr.v1 lZ ed k1))
 ·have pF: ∀c,(E'.own dK dp).gQ c→E'.gQ c:=fun c ⟨j,aM⟩=>by
   obtain⟨_,h | ⟨b,_,h⟩⟩:=w_ aM
   ·cases h.2
   ·exact⟨b,h⟩
  exact{
   le:=⟨bj.le.fI,bj.le.fJ,bj.le.tx,bj.le.wf,fun b=>by rw[(hs.fresh b (Nat.zero_le _)).2];exact Nat.zero_le _,(fun b x hm _=>by rw[(hs.fresh b (Nat.zero_le _)).1] at hm;cases hm),(fun t c hm=>by rw[aF t] at hm;cases hm)⟩
   os:=bj.os,tape:=bj.tape,output:=bj.output,size:=bj.size,fe:=bj.fe
   jj:=fun b c hb=>(bj.qD c (pF c ⟨b,hb⟩)).elim (fun⟨j,aM⟩=>by rw[(hs.fresh j (Nat.zero_le _)).1] at aM;cases aM) .inr
   jB:=fun c ⟨t,h⟩=>by cases h
   fI:=bj.fI,fJ:=bj.fJ}
theorem tD.nil {H:List Blk} {dp:Nat→Option Nat}:tD H [] dp:=⟨fun i j b h=>by simp at h,fun j k h=>by simp at h,fun j b k h=>by simp at h⟩
def o4 (l:List (Option Nat)) (j:Nat):Option Nat:=(l[j]?).getD none
def C7 (H:List Blk) (gm:Nat) (dp:Nat→Option Nat) (k:Blk):Option Nat→Prop
 | none=>True
 | some b=> ∃q,H[b]?=some q∧q.sz=k.sz∧aE (aE (jt H gm dp)) q.rows k.rows
def xT (H:List Blk) (gm:Nat) (dp:Nat→Option Nat):List (Option Nat)→List Blk→Prop
 | [],[]=>True
 | o::l,k::dK=>k.bC=0∧C7 H gm dp k o∧xT H gm dp l dK
 | _,_=>False
theorem xT.get {H:List Blk} {gm:Nat} {dp:Nat→Option Nat}: ∀{l:List (Option Nat)} {dK:List Blk},xT H gm dp l dK→ ∀(j:Nat) (k:Blk),dK[j]?=some k→ ∃o,l[j]?=some o∧k.bC=0∧C7 H gm dp k o
 | [],[],_,j,k,h=>by simp at h
 | o::l,q::dK,a4,0,k,h=>by simp at h;subst h;exact⟨o,rfl,a4.1,a4.2.1⟩
 | o::l,q::dK,a4,j+1,k,h=>by
  obtain⟨x,hx,h2⟩:=xT.get a4.2.2 j k (by simpa using h)
  exact⟨x,by simpa using hx,h2⟩
theorem qL {H dK:List Blk} (l:List (Option Nat)) (aL:l.length=dK.length) (bg:(l.filterMap id).Nodup) (h:xT H dK.length (o4 l) l dK):tD H dK (o4 l) where
 inj:=fun i j b hi aM h1 h2=>by
  have ga:i<l.length:=by omega
  have n8:j<l.length:=by omega
  have bx:l[i]=some b:=by have:(l[i]?).getD none=some b:=h1;rwa [List.getElem?_eq_getElem ga] at this
  have e2:l[j]=some b:=by have:(l[j]?).getD none=some b:=h2;rwa [List.getElem?_eq_getElem n8] at this
  rcases Nat.lt_trichotomy i j with bc | rfl | pA
  ·exfalso
   have aG:=List.pairwise_filterMap.1 bg
   exact(List.pairwise_iff_getElem.1 aG i j ga n8 bc) b (by simpa using bx) b (by simpa using e2) rfl
  ·rfl
  ·exfalso
   have aG:=List.pairwise_filterMap.1 bg
   exact(List.pairwise_iff_getElem.1 aG j i n8 ga pA) b (by simpa using e2) b (by simpa using bx) rfl
 bC:=fun j k hk=>by obtain⟨o,_,h1,_⟩:=h.get j k hk;exact h1
 blk:=fun j b k hk hs=>by
  obtain⟨o,aC,_,h2⟩:=h.get j k hk
  have:o=some b:=by have hs:(l[j]?).getD none=some b:=hs;rw[aC] at hs;exact hs
  subst this
  exact h2
theorem qT {H:List Blk} {gm:Nat} {dp:Nat→Option Nat} {α:Type} {enc:α→List AV} {b g sz:Nat} {xs ys:List α} (hb:H[b]?=some ⟨g,sz,List.map enc xs⟩) (hc: ∀x,aE (jt H gm dp) (enc x) (enc x)) (e:xs=ys):
  C7 H gm dp ⟨0,sz,List.map enc ys⟩ (some b):=by
 subst e
 refine⟨_,hb,rfl,rfl,fun i r Cq h1 h2=> ?_⟩
 rw[List.getElem?_map] at h1 h2
 cases hx:xs[i]? with
 | none=>rw[hx] at h1;cases h1
 | some x=>rw[hx] at h1 h2;cases h1;cases h2;exact hc x
section
variable {H:List Blk} {gm:Nat} {dp:Nat→Option Nat}
theorem zh (b:Bool):aE (jt H gm dp) (aW b) (aW b):= .cons (.bool _) .nil
theorem Ok (x:cx):aE (jt H gm dp) (dj x) (dj x):= .cons (.int _ _) (.cons (.int _ _) .nil)
theorem GI (x:bd):aE (jt H gm dp) (a5 x) (a5 x):= .cons (.int _ _) (.cons (.int _ _) .nil)
theorem GN {k:IntKind} {a b:Int} (h:a=b):jt H gm dp (.int k a) (.int k b):=h▸ .int k a
theorem aax {a b:Bool} (h:a=b):jt H gm dp (.bool a) (.bool b):=h▸ .bool a
theorem uQ {b g n m j sz:Nat} {full:Bool} {rows:List (List AV)} (aM:j<gm) (hs:dp j=some b) (hb:H[b]?=some ⟨g,sz,rows⟩) (aF:n=m):jt H gm dp (.ref b g 0 n full) (.ref j 0 0 m false):=aF▸ .ref aM hs hb rfl
theorem GO {a:AV} {j m:Nat} (aM:j<gm) (hs:dp j=none) (h:rX a=true) (hm:0=m):jt H gm dp a (.ref j 0 0 m false):=hm▸ .nil aM hs h
end
theorem r5 {α:Type} {enc:α→List AV} {g sz:Nat} {xs:List α} {H:List Blk} (h1: ∀x,(enc x).all pO=true) (h2:s6 H=true):s6 (⟨g,sz,List.map enc xs⟩::H)=true:=by
 show(((List.map enc xs).all fun row=>row.all pO)&&H.all fun b=>b.rows.all fun row=>row.all pO)=true
 rw[Bool.and_eq_true]
 refine⟨?_,h2⟩
 rw[List.all_eq_true]
 intro row aJ
 obtain⟨x,_,rfl⟩:=List.mem_map.1 aJ
 exact h1 x
theorem se {α:Type} {enc:α→List AV} {k g sz:Nat} {xs:List α} {H H':List Blk} (h1: ∀x,(enc x).map (iW k)=enc x) (h2:H.map (la k)=H'):(Blk.mk g sz (List.map enc xs)::H).map (la k)=⟨g,sz,List.map enc xs⟩::H':=by
 subst h2
 show(⟨g,sz,(List.map enc xs).map fun row=>row.map (iW k)⟩:Blk)::_=_
 rw[List.map_map]
 congr 2
 exact List.map_congr_left fun x _=>h1 x
theorem sf {k:Nat} {H dK H1 kU:List Blk} (h:dK.map (la k)=H1) (e:H++H1=kU):H++dK.map (la k)=kU:=by rw[h,e]
def Env.at (W:World):Env:={w:=W,PA:=fun c=>c<W.heap.size,PF:=fun _=>False,m:=fun _=>none,bC:=fun _=>0,sz:=fun _=>0,cp:=fun _=>0,mL:=fun _=>none}
theorem Tl (W:World):SimH (Env.at W) [] where
 heap:=fun b c hb=>by cases hb
 fb:=fun b blk hb=>by simp at hb
 hp:=fun b hb=>by cases hb
 fresh:=fun b _=>⟨rfl,rfl⟩
 hV:=fun b cl c hb=>by cases hb
 jC:=fun t jJ c hb=>by cases hb
 gR:=fun b t c hb=>by cases hb
 hW:=fun c _ ⟨b,hb⟩=>by cases hb
 im:=fun c _ ⟨b,hb⟩=>by cases hb
 eW:=fun c hc=>hc.elim
 e9:=fun c hc=>hc
 gw:=fun c ⟨b,hb⟩=>by cases hb
 g4:=fun c ⟨b,hb⟩=>by cases hb
theorem ZE {P:Program} {f:FuncId} {cP:List AV} {W:World} {vs:List Value} (h:bX P f cP (.bool true)) (a4:aE (V2 (Env.at W)) cP vs):
  Calls P f vs.toArray W fun e Jw=>e= .returned (.bool true)∧RowKit.Below W.heap.size W Jw:=by
 refine(h.2 (Env.at W) vs (fun _=>rfl) (Tl W) a4).mono ?_
 rintro e w' ⟨r,v,H',E',rfl,aJ,rfl,aF,hs,hv,bj⟩
 have hb:r= .bool true:=by
  rcases aJ with⟨l,fp,_,e,_⟩ | ⟨l,fp,_,e,_⟩ | aJ
  ·cases e
  ·cases e
  ·cases aJ;rfl
 subst hb
 refine⟨by rw[V3.rm hv],bj.os,bj.tape,bj.output,bj.size,fun k hk=>bj.fe k hk (fun⟨b,hb⟩=>by cases hb) (fun⟨b,hb⟩=>by cases hb)⟩
def C6 (W:World):AV→Value→Prop:=bF W (fun c=>c<W.heap.size) (fun _=>False)
def Ae (P:Program) (W:World) (t:TypeId) {α:Type} (enc:α→List AV):Prop:=
 ∀{H:Type} (tQ:TypeId×Value→H) (ni:Nat) (a7:List Value) (x:DataW H×List MemPlace),DataW.trod tQ P W 0 (fun _=>true) true ni t a7=some x→(∀n∈x.1.weights P t,n≤reachBytes)→ ∃y:α,aE (C6 W) (enc y) a7
section
variable {P:Program} {W:World}
theorem aaw {t:TypeId} (hu:P.underlying t=some (.int .u8)):Ae P W t qi:=fun tQ ni a7 x h _=>by
 obtain⟨n,rfl,_,hw⟩:=DataW.trod_int hu h
 unfold Lit.wf at hw
 rw[Bool.and_eq_true] at hw
 have aT:(0:Int)≤n:=of_decide_eq_true hw.1
 have h1:n≤255:=of_decide_eq_true hw.2
 have e:(((UInt8.ofNat n.toNat).toNat:Nat):Int)=n:=by rw[UInt8.toNat_ofNat'];omega
 exact⟨UInt8.ofNat n.toNat,by unfold qi;rw[e];exact .cons (.int _ _) .nil⟩
theorem ZZ {α:Type} (n:Nat) (φ:Nat→α→Prop) (h: ∀i,i<n→ ∃y,φ i y): ∃ys:List α,ys.length=n∧ ∀(i:Nat) (y:α),ys[i]?=some y→φ i y:=by
 induction n with
 | zero=>exact⟨[],rfl,fun i y h=>by simp at h⟩
 | succ n bR=>
  obtain⟨ys,aL,br⟩:=bR fun i hi=>h i (by omega)
  obtain⟨z,aN⟩:=h n (by omega)
  refine⟨ys++[z],by simp[aL],fun i y hi=> ?_⟩
  rcases Nat.lt_or_ge i n with bc | fR
  ·rw[List.getElem?_append_left (by omega)] at hi
   exact br i y hi
  ·rw[List.getElem?_append_right (by omega)] at hi
   rcases Nat.eq_or_lt_of_le fR with rfl | pA
   ·rw[aL,Nat.sub_self] at hi
    cases hi;exact aN
   ·rw[List.getElem?_eq_none (by simp;omega)] at hi
    cases hi
theorem N2 {α β:Type} {f:α→Option β}: ∀{l:List α} {r:List β},l.mapM f=some r→r.length=l.length∧ ∀(i:Nat) (a:α),l[i]?=some a→f a=r[i]?
 | [],r,h=>by simp at h;subst h;exact⟨rfl,fun i a h=>by simp at h⟩
 | x::l,r,h=>by
  rw[List.mapM_cons] at h
  simp only[bind,Option.bind_eq_some_iff,pure,Option.some.injEq] at h
  obtain⟨b,hb,Cq,aJ,rfl⟩:=h
  obtain⟨h1,h2⟩:=N2 aJ
  refine⟨by simp[h1],fun i a a4=> ?_⟩
  cases i with
  | zero=>simp at a4;subst a4;simpa using hb
  | succ i=>exact h2 i a (by simpa using a4)
theorem T2 {a:Addr} {n:Nat} {l:List Value} (h:W.cells? 0 a n=some l):l.length=n∧ ∀j,j<n→W.cell? (a.add j)=l[j]?:=by
 unfold World.cells? at h
 rw[if_pos (Nat.zero_le _)] at h
 obtain⟨aL,hg⟩:=N2 h
 rw[List.length_range] at aL
 exact⟨aL,fun j aM=>hg j j (List.getElem?_range aM)⟩
theorem aeH {a:Addr} {v:Value} (h:W.cell? a=some v):a.spot=none∧a.block<W.heap.size:=by
 unfold World.cell? at h
 split at h
 ·rename_i c _ _ hb
  split at h
  ·cases h
  ·rename_i hs
   refine⟨by cases aj:a.spot<;>simp_all,?_⟩
   rcases Nat.lt_or_ge a.block W.heap.size with h1 | h1
   ·exact h1
   ·rw[Array.getElem?_eq_none h1] at hb;cases hb
 ·cases h
theorem add_add (c o x y:Nat):((⟨c,o,none⟩:Addr).add x).add y=⟨c,o+(x+y),none⟩:=by
 rw[nO,nO,Nat.add_assoc]
theorem aav {t e:TypeId} {α:Type} {enc:α→List AV} (hu:P.underlying t=some (.slice e)) (hb:1≤P.bytesOf e) (aN:1≤P.cellsOf e) (hc: ∀x,(enc x).length=P.cellsOf e) (h:Ae P W e enc):Ae P W t (iO enc false):=by
 intro H tQ ni a7 x bp hw
 rcases DataW.trod_slice hu bp with⟨rfl,rfl⟩ | ⟨a,len,cap,vY,rest,n,_,rfl,rfl,_,aL,_,hlen,ud,_,_⟩
 ·refine⟨[],.cons ?_ .nil⟩
  exact bF.bz (rows:=[]) (PB:=fun _=>False) (sz:=0) (vs:=fun _ _=>undef) (fun _ h=>h.elim) ⟨Nat.le_refl _,Nat.zero_le _⟩ (fun h=>by cases h) (fun i row h=>by simp at h) (fun h=>by simp at h) (fun i j row a h=>by simp at h)
 ·have qy:(vY.length+rest.length)*P.bytesOf e≤reachBytes:=by
   have:=hw ((vY.length+rest.length)*P.bytesOf e) (by simp[DataW.weights,hu])
   simpa using this
  have g1:len≤4611686018427387904:=by
   have h1:vY.length+rest.length≤(vY.length+rest.length)*P.bytesOf e:=Nat.le_mul_of_pos_right _ hb
   have h2:=reachBytes_lt
   have aO:(2:Nat) ^ 47=140737488355328:=rfl
   omega
  have eC: ∀(l:List (DataW H)) (d:DataW H),d∈l→ ∀m∈d.weights P e,m∈DataW.weightsAll P e l:=by
   intro l
   induction l with
   | nil=>intro d bg;cases bg
   | cons q l bR=>
    intro d bg m hm
    simp only[DataW.weightsAll,List.mem_append]
    rcases List.mem_cons.1 bg with rfl | bg
    ·exact .inl hm
    ·exact .inr (bR d bg m hm)
  obtain⟨ys,BH,br⟩:=ZZ len (fun i y=> ∃l,W.cells? 0 (a.add (i*P.cellsOf e)) (P.cellsOf e)=some l∧aE (C6 W) (enc y) l) fun i hi=>by
   have h1:=ud i hi
   have h2:vY[i]?=some (vY[i]'(by omega)):=List.getElem?_eq_getElem _
   rw[h2,Option.bind_eq_some_iff] at h1
   obtain⟨l,WC,XF⟩:=h1
   obtain⟨y,br⟩:=h tQ n l _ XF fun m hm=>hw m (by
    simp only[DataW.weights,hu,List.mem_cons,List.mem_append]
    exact .inr (.inl (eC _ _ (List.mem_map.2 ⟨_,List.getElem_mem (by omega),rfl⟩) m hm)))
   exact⟨y,l,WC,br⟩
  have hd: ∀i j,i<len→j<P.cellsOf e→ ∃l v,W.cells? 0 (a.add (i*P.cellsOf e)) (P.cellsOf e)=some l∧l[j]?=some v∧W.cell? ((a.add (i*P.cellsOf e)).add j)=some v:=fun i j hi aM=>by
   obtain⟨l,oN,_⟩:=br i _ (List.getElem?_eq_getElem (by omega))
   obtain⟨q1,q2⟩:=T2 oN
   exact⟨l,l[j]'(by omega),oN,List.getElem?_eq_getElem _,by rw[q2 j aM];exact List.getElem?_eq_getElem _⟩
  let vs:Nat→Nat→Value:=fun i j=>(((W.cells? 0 (a.add (i*P.cellsOf e)) (P.cellsOf e)).getD [])[j]?).getD undef
  refine⟨ys,.cons ?_ .nil⟩
  have key:=bF.bz (w:=W) (PA:=fun c=>c<W.heap.size) (PF:=fun _=>False) (PB:=fun c=>c<W.heap.size) (rows:=List.map enc ys) (full:=false) (fresh:=false) (A:=some a) (cap:=cap) (sz:=P.cellsOf e) (vs:=vs)
   (fun c hc=>by simpa using hc) (by rw[List.length_map,BH];exact⟨aL,g1⟩) (fun h=>by cases h)
   (fun i row aJ=>by
    rw[List.getElem?_map] at aJ
    cases aj:ys[i]? with
    | none=>rw[aj] at aJ;cases aJ
    | some y=>rw[aj] at aJ;cases aJ;exact hc y)
   (fun ln=>by
    rw[List.length_map,BH] at ln
    obtain⟨l,v,_,_,hv⟩:=hd 0 0 ln aN
    rw[Nat.zero_mul] at hv
    have aT:(a.add 0).add 0=a:=by simp[Addr.add]
    rw[aT] at hv
    obtain⟨hs,bc⟩:=aeH hv
    obtain⟨c,o,s⟩:=a
    have hs:s=none:=hs
    subst hs
    refine⟨c,o,rfl,bc,fun i j hi aM=> ?_⟩
    rw[List.length_map,BH] at hi
    obtain⟨l,v,q1,q2,q3⟩:=hd i j hi aM
    rw[add_add] at q3
    rw[q3]
    show some v=some ((((W.cells? 0 _ _).getD [])[j]?).getD undef)
    rw[q1]
    show some v=some ((l[j]?).getD undef)
    rw[q2];rfl)
   (fun i j row b aJ aM=>by
    rw[List.getElem?_map] at aJ
    cases aj:ys[i]? with
    | none=>rw[aj] at aJ;cases aJ
    | some y=>
     rw[aj] at aJ;cases aJ
     obtain⟨l,oN,aG⟩:=br i y aj
     obtain⟨v,hv,n_⟩:=aG.get aM
     show bF W _ _ b ((((W.cells? 0 _ _).getD [])[j]?).getD undef)
     rw[oN]
     show bF W _ _ b ((l[j]?).getD undef)
     rw[hv];exact n_)
  rw[List.length_map,BH] at key
  exact key
theorem Ay {a7:List Value} (h:a7.length=2): ∃a b,a7=[a,b]:=by
 match a7,h with
 | [a,b],_=>exact⟨a,b,rfl⟩
theorem Tf {t:TypeId} {α:Type} {enc:α→List AV} {f:α→AV} (h:Ae P W t enc) (he: ∀y,enc y=[f y]) {H:Type} {tQ:TypeId×Value→H} {v:Value} {d:DataW H} {ps:List MemPlace} (bp:DataW.Trod tQ P W 0 (fun _=>true) true t v d ps)
  (hw: ∀n∈d.weights P t,n≤reachBytes) (hv:v.cells= #[v]): ∃y,V2 (Env.at W) (f y) v:=by
 obtain⟨ni,hf⟩:=bp
 rw[hv] at hf
 obtain⟨y,aG⟩:=h tQ ni _ _ hf hw
 rw[he] at aG
 have aJ:C6 W (f y) v:=aG.head
 exact⟨y,p4 (bF.v1 (E:=Env.at W) aJ)⟩
end
def NB (P:Program) (fn:Func) (c:OpenClaim):Bool:=c.kinds==(if c.domain.isEmpty then[] else fn.params.toList.map fun t=>match P.underlying t with | some (.int k)=>some k | _=>none)
theorem Zx {P:Program} {f:FuncId} {fn:Func} {s:ChangeSpec} {c:OpenClaim} (aT:(c.wf (OpenSpec.ofChange s))=true) (h1:laidOutB P=true) (h2:mapsRowed P=true) (aO:fn.params.all (P.readableRec ·)=true) (bb:namedTie P c.named s.vars=true) (cb:(c.stops==[])=true) (cE:(P.stops==[])=true) (gF:(c.knobs==[])=true) (n0:(P.stopKnobs==[])=true) (tV:(c.inPlace==P.inPlace f)=true) (yn:(c.unfollowed==P.unfollowed f)=true) (VW:(c.recurses==P.recurses f)=true) (nZ:(c.named==P.varsNamed f)=true) (VX:(c.maps==(fn.params.toList++s.plain.varTypes P).any (P.mapsRec ·))=true) (VY:(c.ifaces==(fn.params.toList++s.plain.varTypes P).any (P.ifacesRec ·))=true) (VZ:(c.mapsOut==P.mapsAmong fn.resultTypes.toList)=true) (V0:(c.loops==(fn.params.toList++s.plain.varTypes P).any (P.loopsFrom ·))=true) (V1:(c.wideKeys==(fn.params.toList++s.plain.varTypes P++fn.resultTypes.toList).any (P.wideKeysFrom ·))=true) (V4:s.vars.all (P.varReadable ·)=true) (V5:fn.resultTypes.all (fun t=>P.readableRec t&&decide (t<P.types.size))=true) (V6:(c.ifacesOut==fn.resultTypes.toList.any (P.ifacesRec ·))=true) (V7:(c.loopsOut==fn.resultTypes.toList.any (P.loopsFrom ·))=true) (V8:(c.plainKeys==P.plainKeys)=true) (V9:c.shortTexts.isNone=true) (V_:P.stopsHeard=true) (Wa:P.mayEnter=true) (Wb:(c.lifted==P.liftsFinal)=true) (Wc:(P.make==some c.make)=true) (Wd:NB P fn c=true) (We:(c.pinned==c.pinnedBy)=true) (oJ:(c.veiled==(fn.params.toList++s.plain.varTypes P++fn.resultTypes.toList).any (P.veiledRec ·))=true) (Wf:c.veiledFits P fn.params.toList (fn.params.toList++s.plain.varTypes P++fn.resultTypes.toList)=true):joinedFacts P f fn s c=true:=by
 unfold joinedFacts
 simp only[Bool.and_eq_true]
 exact⟨⟨⟨⟨⟨⟨⟨⟨⟨⟨⟨⟨⟨⟨⟨⟨⟨⟨⟨⟨⟨⟨⟨⟨⟨⟨⟨⟨⟨⟨⟨aT,h1⟩,h2⟩,aO⟩,bb⟩,cb⟩,cE⟩,gF⟩,n0⟩,tV⟩,yn⟩,VW⟩,nZ⟩,VX⟩,VY⟩,VZ⟩,V0⟩,V1⟩,V4⟩,V5⟩,V6⟩,V7⟩,V8⟩,V9⟩,V_⟩,Wa⟩,Wb⟩,Wc⟩,Wd⟩,We⟩,oJ⟩,Wf⟩
theorem aap {α:Type} [Inhabited α] {xs:List α} {i:Int} (h:i.toNat<xs.length):nth xs i=xs[i.toNat]:=by
 have:=gS h
 rw[List.getElem?_eq_getElem h] at this
 exact(Option.some.inj this).symm
def bi (b:List Bool):Blk:=⟨0,1,List.map aW b⟩
def kd (s:Nat) (h:ad) (id:Nat):List AV:=[.int .i64 h.aq,.int .i64 h.af,.ref (id+s) 0 0 h.ac.length false,.bool h.ap,.int .i64 h.ar]
def aZ (s:Nat) (ws:List ad) (ids:List Nat):List (List AV):=List.zipWith (kd s) ws ids
def view (ws:List ad) (ids:List Nat) (bs:List (List Bool)):List ad:=List.zipWith (fun h id=>{h with ac:=bs.getD id []}) ws ids
structure j_ (ws:List ad) (ids:List Nat) (bs:List (List Bool)):Prop where
 len:ws.length=ids.length
 lt: ∀(i id:Nat),ids[i]?=some id→id<bs.length
 ac: ∀(i id:Nat) (h:ad),ws[i]?=some h→ids[i]?=some id→h.ac.length=(bs.getD id []).length
theorem dL {s:Nat} {ws:List ad} {ids:List Nat} {i:Int} (aL:ws.length=ids.length) (hi:i.toNat<ws.length):(aZ s ws ids)[i.toNat]?=some (kd s (nth ws i) (nth ids i)):=by
 unfold aZ
 rw[List.getElem?_zipWith,gS hi,gS (by omega)]
theorem wj {s:Nat} {ws:List ad} {ids:List Nat} (aL:ws.length=ids.length):(aZ s ws ids).length=ws.length:=by
 unfold aZ;rw[List.length_zipWith];omega
theorem wk {s:Nat} {ws:List ad} {ids:List Nat} {i:Nat} {h:ad} {id:Nat} (aL:ws.length=ids.length):(aZ s ws ids).set i (kd s h id)=aZ s (ws.set i h) (ids.set i id):=by
 apply List.ext_getElem?
 intro j
 unfold aZ
 rw[List.getElem?_set,List.getElem?_zipWith,List.getElem?_zipWith,List.getElem?_set,List.getElem?_set]
 by_cases nl:i=j
 ·subst nl
  simp only[if_true,List.length_zipWith]
  by_cases hi:i<ws.length
  ·rw[if_pos (by omega),if_pos hi,if_pos (by omega)]
  ·rw[if_neg (by omega),if_neg hi]
 ·simp only[if_neg nl]
theorem ke {s:Nat} {ws:List ad} {ids:List Nat} {i:Int} {h:ad} (aL:ws.length=ids.length) (hi:i.toNat<ws.length):(aZ s ws ids).set i.toNat (kd s h (nth ids i))=aZ s (ws.set i.toNat h) ids:=by
 rw[wk aL]
 congr 1
 rw[aap (by omega)]
 exact List.set_getElem_self _
theorem EE {s:Nat} {ws:List ad} {ids:List Nat} {h:ad} {id:Nat} (aL:ws.length=ids.length):aZ s ws ids++[kd s h id]=aZ s (ws++[h]) (ids++[id]):=by
 unfold aZ
 rw[List.zipWith_append aL];rfl
theorem sD {bs:List (List Bool)} {id:Nat} (h:id<bs.length):(List.map bi bs)[id]?=some (bi (bs.getD id [])):=by
 rw[List.getElem?_map,List.getElem?_eq_getElem h,List.getD_eq_getElem?_getD,List.getElem?_eq_getElem h];rfl
theorem Ei {bs:List (List Bool)} {id:Nat} {b:List Bool}:(List.map bi bs).set id (bi b)=List.map bi (bs.set id b):=by rw[List.map_set]
theorem x_ {b:List Bool} {i:Int} (h:i.toNat<b.length):(List.map aW b)[i.toNat]?=some (aW (nth b i)):=by rw[List.getElem?_map,gS h];rfl
theorem Dk {b:List Bool} {i:Nat} {x:Bool}:(List.map aW b).set i (aW x)=List.map aW (b.set i x):=by rw[List.map_set]
theorem ja {ws:List ad} {ids:List Nat} {bs:List (List Bool)} (h:j_ ws ids bs):(view ws ids bs).length=ws.length:=by
 unfold view;rw[List.length_zipWith];have:=h.len;omega
theorem xK {ws:List ad} {ids:List Nat} {bs:List (List Bool)} {i:Nat} {h:ad} {id:Nat} (h1:ws[i]?=some h) (h2:ids[i]?=some id):(view ws ids bs)[i]?=some {h with ac:=bs.getD id []}:=by
 unfold view;rw[List.getElem?_zipWith,h1,h2]
theorem u4 {s:Nat} {ws:List ad} {ids:List Nat} {i:Nat} {row:List AV} (h:(aZ s ws ids)[i]?=some row): ∃x id,ws[i]?=some x∧ids[i]?=some id∧row=kd s x id:=by
 unfold aZ at h
 rw[List.getElem?_zipWith] at h
 cases hx:ws[i]? with
 | none=>rw[hx] at h;cases h
 | some x=>
  cases bg:ids[i]? with
  | none=>rw[hx,bg] at h;cases h
  | some id=>rw[hx,bg] at h;cases h;exact⟨x,id,rfl,rfl,rfl⟩
theorem tn {L:List (Nat×List AV)} {H:List Blk} {b s n:Nat} {full:Bool} {ws:List ad} {ids:List Nat} {bs:List (List Bool)} (aF:n=ws.length) (hb:H[b]?=some ⟨0,5,aZ s ws ids⟩)
  (hf: ∀(id:Nat) (k:Blk),(List.map bi bs)[id]?=some k→H[id+s]?=some k) (ok:j_ ws ids bs) (g1:ws.length≤4611686018427387904) (A_: ∀x∈bs,x.length≤4611686018427387904):
  fZ L H (.ref b 0 0 n full) (.bz (List.map (cX false) (view ws ids bs)) false false):=by
 subst aF
 refine fZ.ref (fun h=>by cases h) hb rfl (by rw[List.length_map,ja ok]) g1 (by rw[Nat.zero_add,wj ok.len];exact Nat.le_refl _) (fun i row row' h1 h2=> ?_) (fun i j row row' a c h1 h2 aO bb=> ?_)
 ·rw[Nat.zero_add] at h1
  obtain⟨x,id,hx,bg,rfl⟩:=u4 h1
  rw[List.getElem?_map,xK hx bg] at h2
  cases h2;rfl
 ·rw[Nat.zero_add] at h1
  obtain⟨x,id,hx,bg,rfl⟩:=u4 h1
  rw[List.getElem?_map,xK hx bg] at h2
  cases h2
  have bc:=ok.lt i id bg
  have key:oy L H (kd s x id) (cX false {x with ac:=bs.getD id []}):=by
   refine .cons (.int _ _) (.cons (.int _ _) (.cons ?_ (.cons (.bool _) (.cons (.int _ _) .nil))))
   have hm:bs.getD id []∈bs:=by rw[List.getD_eq_getElem?_getD,List.getElem?_eq_getElem bc];exact List.getElem_mem bc
   exact m5 (eT:=aW) (eF:=aW) (sz:=1) (ok.ac i id x hx bg) (hf id _ (sD bc)) sT (A_ _ hm)
  exact key.2 j a c aO bb
theorem CF {H:List Blk} {b g s n:Nat} {full:Bool} {ws ys:List ad} {ids:List Nat} {bs:List (List Bool)} (aF:n=ws.length) (hb:H[b]?=some ⟨g,5,aZ s ws ids⟩)
  (hf: ∀(id:Nat) (k:Blk),(List.map bi bs)[id]?=some k→H[id+s]?=some k) (h:j_ ws ids bs∧ws.length≤4611686018427387904∧(∀x∈bs,x.length≤4611686018427387904)∧view ws ids bs=ys):
  gD H (.ref b g 0 n full) (.bz (List.map (cX false) ys) false true):=by
 obtain⟨ok,g1,A_,rfl⟩:=h
 subst aF
 refine gD.ref (fun h=>by cases h) (fun i j=>(((view ws ids bs)[i]?).bind fun x=>(cX true x)[j]?).getD .undef) hb rfl (by rw[List.length_map,ja ok]) g1 (by rw[Nat.zero_add,wj ok.len];exact Nat.le_refl _) (fun i row row' h1 h2=> ?_) (fun i j row a hi h1 h2=> ?_) (fun i j row' c h1 h2=> ?_)
 ·rw[Nat.zero_add] at h1
  obtain⟨x,id,hx,bg,rfl⟩:=u4 h1
  rw[List.getElem?_map,xK hx bg] at h2
  cases h2;rfl
 ·rw[Nat.zero_add] at h1
  obtain⟨x,id,hx,bg,rfl⟩:=u4 h1
  rw[xK hx bg]
  have bc:=ok.lt i id bg
  have hm:bs.getD id []∈bs:=by rw[List.getD_eq_getElem?_getD,List.getElem?_eq_getElem bc];exact List.getElem_mem bc
  show gD H a (((some ({x with ac:=bs.getD id []}:ad)).bind fun x=>(cX true x)[j]?).getD .undef)
  match j,h2 with
  | 0,h2=>cases h2;exact .int _ _
  | 1,h2=>cases h2;exact .int _ _
  | 2,h2=>
   cases h2
   exact q0 (eT:=aW) (eF:=aW) (sz:=1) (ok.ac i id x hx bg) (hf id _ (sD bc)) vP ⟨A_ _ hm,rfl⟩
  | 3,h2=>cases h2;exact .bool _
  | 4,h2=>cases h2;exact .int _ _
  | j+5,h2=>simp[kd] at h2
 ·rw[List.getElem?_map] at h1
  cases hv:(view ws ids bs)[i]? with
  | none=>rw[hv] at h1;cases h1
  | some x=>
   rw[hv] at h1;cases h1
   show c=kq (((some x).bind fun x=>(cX true x)[j]?).getD .undef)
   match j,h2 with
   | 0,h2=>cases h2;rfl
   | 1,h2=>cases h2;rfl
   | 2,h2=>cases h2;rfl
   | 3,h2=>cases h2;rfl
   | 4,h2=>cases h2;rfl
   | j+5,h2=>simp[cX] at h2
theorem Weak.wY [cH] (sz:Nat) {T:List AV} {L:List (Nat×List AV)} {H:List Blk}:Weak ⟨T,L,H⟩ ⟨T,L,H++[⟨0,sz,[]⟩]⟩:=fun cw E tmps g s=>by
 obtain⟨E',hw,bj,h1,h2,_⟩:=B0 (blk:=⟨0,sz,[]⟩) s.h s.l rfl rfl
 exact⟨E',hw,g.step bj,h1,h2,fun t=>(s.iv t).le bj.le,s.size⟩
theorem Weak.clear [cH] (j:Nat) {g sz:Nat} {rows:List (List AV)} {T:List AV} {L:List (Nat×List AV)} {H:List Blk} (aM:H[j]?=some ⟨g,sz,rows⟩):Weak ⟨T,L,H⟩ ⟨T,L,H.set j ⟨g,sz,[]⟩⟩:=fun cw E tmps VN s=>by
 have oL:=(List.getElem?_eq_some_iff.1 aM).1
 have get: ∀(b:Nat) (blk:Blk),(H.set j ⟨g,sz,[]⟩)[b]?=some blk→(b=j∧blk=⟨g,sz,[]⟩)∨(b≠j∧H[b]?=some blk):=fun b blk h=>by
  rw[List.getElem?_set] at h
  split at h
  ·rename_i e;subst e;exact .inl ⟨rfl,(Option.some.inj h).symm⟩
  ·rename_i e;exact .inr ⟨fun h=>e h.symm,h⟩
 have hq:SimH E H:=s.h
 refine⟨E,rfl,VN,{hq with
  heap:=fun b c hb=> ?_,fb:=fun b blk hb=> ?_,hp:=fun b hb=> ?_,fresh:=fun b hb=>hq.fresh b (by simpa using hb)},s.l,s.iv,s.size⟩
 ·obtain⟨blk,a7,ty,q1,dU,q2,q3,q4,cL⟩:=hq.heap b c hb
  by_cases e:b=j
  ·subst e
   rw[aM] at q1
   obtain rfl:=Option.some.inj q1
   exact⟨⟨g,sz,[]⟩,a7,ty,by rw[List.getElem?_set];simp[oL],dU,q2,q3,Nat.zero_le _,fun i row h=>by simp at h,fun i j row a h=>by simp at h⟩
  ·exact⟨blk,a7,ty,by rw[List.getElem?_set,if_neg (fun h=>e h.symm)];exact q1,dU,q2,q3,q4,cL⟩
 ·rcases get b blk hb with⟨rfl,rfl⟩ | ⟨_,hb⟩
  ·exact(hq.fb b _ aM:)
  ·exact hq.fb b blk hb
 ·obtain⟨blk,q1,dU⟩:=hq.hp b hb
  by_cases e:b=j
  ·subst e
   rw[aM] at q1
   obtain rfl:=Option.some.inj q1
   exact⟨⟨g,sz,[]⟩,by rw[List.getElem?_set];simp[oL],dU⟩
  ·exact⟨blk,by rw[List.getElem?_set,if_neg (fun h=>e h.symm)];exact q1,dU⟩
theorem PM (H:List Blk):H.map (la 0)=H:=by
 have aT: ∀a:AV,iW 0 a=a:=fun a=>by cases a<;>simp[iW]
 have:la 0=id:=by
  funext b
  obtain⟨g,s,rows⟩:=b
  show(⟨g,s,rows.map fun row=>row.map (iW 0)⟩:Blk)=⟨g,s,rows⟩
  congr 1
  have:(fun row:List AV=>row.map (iW 0))=id:=by funext row;rw[show iW 0=id from funext aT];simp
  rw[this];simp
 rw[this];simp
theorem B_ {bt a3 a1 s:Nat} {au:List Bool} {jn:List bd} {ws:List ad} {ids:List Nat} {bs:List (List Bool)}:s6 (⟨bt,1,List.map aW au⟩::⟨a3,2,List.map a5 jn⟩::⟨a1,5,aZ s ws ids⟩::List.map bi bs)=true:=by
 refine r5 (fun _=>rfl) (r5 (fun _=>rfl) ?_)
 unfold s6
 rw[List.all_eq_true]
 intro b hb
 rw[List.all_eq_true]
 intro row aJ
 rcases List.mem_cons.1 hb with rfl | hb
 ·obtain⟨i,hi⟩:=List.mem_iff_getElem?.1 aJ
  obtain⟨x,id,_,_,rfl⟩:=u4 hi
  rfl
 ·obtain⟨b,_,rfl⟩:=List.mem_map.1 hb
  obtain⟨x,_,rfl⟩:=List.mem_map.1 aJ
  rfl
def u_ (j:Nat):Option Nat:=if j<3 then some j else some (j+1)
theorem Oq {r:AV} {bt a3 a1 bP gm mW n2:Nat} {f0 f1 f2:Bool} {R:Frame} {ok:Bool} {au:List Bool} {jn:List bd} {ws:List ad} {ids:List Nat} {bs:List (List Bool)} {rows:List (List AV)}
  (h:ok=R.ok∧au=R.au∧jn=R.an∧ws=R.O∧ids=List.range ws.length∧bs=ws.map ad.ac) (aT:gm=au.length) (h1:mW=jn.length) (h2:n2=ws.length) (aJ:r= .agg [.bool ok,.ref 0 bt 0 gm f0,.ref 1 a3 0 mW f1,.ref 2 a1 0 n2 f2]):
  ∃dp,tD (⟨bt,1,List.map aW au⟩::⟨a3,2,List.map a5 jn⟩::⟨a1,5,aZ 4 ws ids⟩::⟨bP,5,rows⟩::List.map bi bs)
   (⟨0,1,List.map aW R.au⟩::⟨0,2,List.map a5 R.an⟩::⟨0,5,aZ 3 R.O (List.range R.O.length)⟩::List.map bi (List.map ad.ac R.O)) dp∧
   Js (⟨bt,1,List.map aW au⟩::⟨a3,2,List.map a5 jn⟩::⟨a1,5,aZ 4 ws ids⟩::⟨bP,5,rows⟩::List.map bi bs)
    (⟨0,1,List.map aW R.au⟩::⟨0,2,List.map a5 R.an⟩::⟨0,5,aZ 3 R.O (List.range R.O.length)⟩::List.map bi (List.map ad.ac R.O)).length dp r
    (.agg [.bool R.ok,.ref 0 0 0 R.au.length false,.ref 1 0 0 R.an.length false,.ref 2 0 0 R.O.length false]):=by
 obtain⟨rfl,rfl,rfl,rfl,rfl,rfl⟩:=h
 subst aT;subst h1;subst h2;subst aJ
 have hlen:(⟨0,1,List.map aW R.au⟩::⟨0,2,List.map a5 R.an⟩::⟨0,5,aZ 3 R.O (List.range R.O.length)⟩::List.map bi (List.map ad.ac R.O):List Blk).length=R.O.length+3:=by simp
 refine⟨u_,⟨fun i j b hi aM h1 h2=> ?_,fun j k hk=> ?_,fun j b k hk hs=> ?_⟩,.inl ⟨_,_,rfl,rfl,?_⟩⟩
 ·unfold u_ at h1 h2
  split at h1<;>split at h2<;>simp at h1 h2<;>omega
 ·match j,hk with
  | 0,hk=>simp at hk;subst hk;rfl
  | 1,hk=>simp at hk;subst hk;rfl
  | 2,hk=>simp at hk;subst hk;rfl
  | j+3,hk=>simp at hk;obtain⟨x,_,rfl⟩:=hk;rfl
 ·rw[hlen]
  match j,hk,hs with
  | 0,hk,hs=>
   simp at hk;subst hk
   obtain rfl:0=b:=by simpa[u_] using hs
   exact qT (b:=0) rfl zh rfl
  | 1,hk,hs=>
   simp at hk;subst hk
   obtain rfl:1=b:=by simpa[u_] using hs
   exact qT (b:=1) rfl GI rfl
  | 2,hk,hs=>
   simp at hk;subst hk
   obtain rfl:2=b:=by simpa[u_] using hs
   refine⟨_,rfl,rfl,⟨by rw[wj (by simp),wj (by simp)],fun i agb eG a4 hb=> ?_⟩⟩
   obtain⟨x,id,hx,bg,rfl⟩:=u4 a4
   obtain⟨ld,gv,jA,pv,rfl⟩:=u4 hb
   rw[hx] at jA;cases jA
   rw[bg] at pv;cases pv
   have wx:i<R.O.length:=(List.getElem?_eq_some_iff.1 hx).1
   obtain rfl:i=id:=by rw[List.getElem?_range wx] at bg;exact Option.some.inj bg
   refine .cons (.int _ _) (.cons (.int _ _) (.cons ?_ (.cons (.bool _) (.cons (.int _ _) .nil))))
   refine jt.ref (blk:=bi x.ac) (by omega) (by simp[u_]) ?_ rfl
   show(List.map bi (List.map ad.ac R.O))[i]?=_
   rw[List.getElem?_map,List.getElem?_map,hx];rfl
  | j+3,hk,hs=>
   obtain rfl:j+4=b:=by
    unfold u_ at hs
    rw[if_neg (by omega)] at hs;exact Option.some.inj hs
   have hk:(List.map bi (List.map ad.ac R.O))[j]?=some k:=by simpa using hk
   have: ∃x,k=bi x:=by
    rw[List.getElem?_map] at hk
    cases aj:(List.map ad.ac R.O)[j]? with
    | none=>rw[aj] at hk;cases hk
    | some x=>rw[aj] at hk;cases hk;exact⟨x,rfl⟩
   obtain⟨x,rfl⟩:=this
   have hb:(⟨bt,1,List.map aW R.au⟩::⟨a3,2,List.map a5 R.an⟩::⟨a1,5,aZ 4 R.O (List.range R.O.length)⟩::⟨bP,5,rows⟩::List.map bi (List.map ad.ac R.O):List Blk)[j+4]?=some ⟨0,1,List.map aW x⟩:=hk
   exact qT (b:=j+4) hb zh rfl
 ·rw[hlen]
  exact .cons (.bool _) (.cons (.ref (by omega) rfl rfl rfl) (.cons (.ref (by omega) rfl rfl rfl) (.cons (.ref (by omega) rfl rfl rfl) .nil)))
theorem abP {k s:Nat} {ws:List ad} {ids:List Nat}:(aZ s ws ids).map (fun row=>row.map (iW k))=aZ (s+k) ws ids:=by
 apply List.ext_getElem?
 intro i
 unfold aZ
 rw[List.getElem?_map,List.getElem?_zipWith,List.getElem?_zipWith]
 cases ws[i]? with
 | none=>rfl
 | some h=>
  cases ids[i]? with
  | none=>rfl
  | some id=>
   show some [_,_,AV.ref (k+(id+s)) 0 0 h.ac.length false,_,_]=some [_,_,AV.ref (id+(s+k)) 0 0 h.ac.length false,_,_]
   rw[show k+(id+s)=id+(s+k) by omega];rfl
theorem abO {k:Nat} {bs:List (List Bool)}:(List.map bi bs).map (la k)=List.map bi bs:=by
 rw[List.map_map]
 refine List.map_congr_left fun b _=> ?_
 show(⟨0,1,(List.map aW b).map fun row=>row.map (iW k)⟩:Blk)=⟨0,1,_⟩
 rw[List.map_map]
 congr 1
theorem PN {k bt a3 a1 s:Nat} {au:List Bool} {jn:List bd} {ws:List ad} {ids:List Nat} {bs:List (List Bool)}:
  (⟨bt,1,List.map aW au⟩::⟨a3,2,List.map a5 jn⟩::⟨a1,5,aZ s ws ids⟩::List.map bi bs:List Blk).map (la k)=⟨bt,1,List.map aW au⟩::⟨a3,2,List.map a5 jn⟩::⟨a1,5,aZ (s+k) ws ids⟩::List.map bi bs:=by
 refine se (fun _=>rfl) (se (fun _=>rfl) ?_)
 show(⟨a1,5,(aZ s ws ids).map fun row=>row.map (iW k)⟩:Blk)::(List.map bi bs).map (la k)=_
 rw[abP,abO]
structure gr (ws:List ad) (ids:List Nat) (bs:List (List Bool)):Prop where
 ok:j_ ws ids bs
 kM: ∀i j k:Nat,ids[i]?=some k→ids[j]?=some k→i=j
 len: ∀b∈bs,b.length≤1048576
theorem rv {bs:List (List Bool)} {b:List Bool}:List.map bi bs++[⟨0,1,List.map aW b⟩]=List.map bi (bs++[b]):=by rw[List.map_append];rfl
section
variable {P:Program} {esc:List Nat} {ops:Array Oper} {n:Nat} {X:List Oper} {i0:Nat} {A:List (Nat×AV)} {L:List (Nat×List AV)} {H:List Blk} {K:List (Nat×AV)→List (Nat×List AV)→List Blk→Prop}
theorem iF (a_:Nat) (d:Option Nat) (N:List (Nat×AV)) (rows:List (List AV)) {row:List AV} (i:Int) (t:TypeId) (c g:Nat) (v:AV) (eV:rows[i.toNat]?=some row) (h:evS P esc ops n (X.drop (i0+a_)) (de d v N A) L H K)
  (e2: ∀K,js P t row c K=K v:=by intro K;kernel_rfl)
  (e: ∀K,evS P esc ops n ((X.drop i0).take a_) A L H K=(g=g∧c3 rows[0+i.toNat]? fun row=>js P t row c fun v=>K (de d v N A) L H):=by intro K;kernel_rfl):evS P esc ops n (X.drop i0) A L H K:=by
 rw[jw X i0 a_,e]
 exact⟨rfl,ej (a:=row) (by rw[Nat.zero_add];exact eV) (by rw[e2];exact h)⟩
theorem abF (a_:Nat) (d:Option Nat) (N:List (Nat×AV)) (rows:List (List AV)) {row row':List AV} (i:Int) (c k g:Nat) (cells:List AV) (H':List (List AV)→List Blk) (iE:List (List AV)) (eV:rows[i.toNat]?=some row) (k0:rows.set i.toNat row'=iE)
  (h:evS P esc ops n (X.drop (i0+a_)) (de d (.tup []) N A) L (H' iE) K) (hc:Nat.ble (c+k) row.length=true:=by kernel_rfl) (hs:fk row c cells=row':=by kernel_rfl)
  (e: ∀K,evS P esc ops n ((X.drop i0).take a_) A L H K=(g=g∧c3 rows[0+i.toNat]? fun row=>c+k≤row.length∧K (de d (.tup []) N A) L (H' (rows.set (0+i.toNat) (fk row c cells)))):=by intro K;kernel_rfl):evS P esc ops n (X.drop i0) A L H K:=by
 rw[jw X i0 a_,e]
 refine⟨rfl,ej (a:=row) (by rw[Nat.zero_add];exact eV) ⟨Nat.le_of_ble_eq_true hc,?_⟩⟩
 ·rw[hs,Nat.zero_add,k0];exact h
theorem j3 (a_:Nat) (d:Option Nat) (N:List (Nat×AV)) (rows:List (List AV)) {row row':List AV} (i:Int) (c k g:Nat) (cells:List AV) (j:Nat) (iE:List (List AV)) (eV:rows[i.toNat]?=some row) (k0:rows.set i.toNat row'=iE)
  (h:evS P esc ops n (X.drop (i0+a_)) (de d (.tup []) N A) L (h9 j iE H) K) (hc:Nat.ble (c+k) row.length=true:=by kernel_rfl) (hs:fk row c cells=row':=by kernel_rfl)
  (e: ∀K,evS P esc ops n ((X.drop i0).take a_) A L H K=(g=g∧c3 rows[0+i.toNat]? fun row=>c+k≤row.length∧K (de d (.tup []) N A) L (h9 j (rows.set (0+i.toNat) (fk row c cells)) H)):=by intro K;kernel_rfl):evS P esc ops n (X.drop i0) A L H K:=abF a_ d N rows i c k g cells (fun r=>h9 j r H) iE eV k0 h hc hs e
theorem abA (a_:Nat) (d:Option Nat) (N:List (Nat×AV)) (bs:List (List Bool)) (id s:Nat) {i:Int} {m:Nat} (gP:id<bs.length) (aT:0≤i∧i.toNat<m) (h:evS P esc ops n (X.drop (i0+a_)) (de d (.ptr (id+s) 0 (0+i.toNat) 0) N A) L H K)
  (e: ∀K,evS P esc ops n ((X.drop i0).take a_) A L H K=(c3 (List.map bi bs)[id]? fun blk=>blk.bC=0∧blk.sz=1∧0≤i∧i<m∧K (de d (.ptr (id+s) 0 (0+i.toNat) 0) N A) L H):=by intro K;kernel_rfl):evS P esc ops n (X.drop i0) A L H K:=by
 rw[jw X i0 a_,e]
 exact ej (sD gP) ⟨rfl,rfl,aT.1,by have:=aT.2;omega,h⟩
theorem abE (a_:Nat) (d:Option Nat) (N:List (Nat×AV)) (bs:List (List Bool)) (id:Nat) (i:Int) (x:Bool) (H':List Blk→List Blk) (gP:id<bs.length) (hi:i.toNat<(bs.getD id []).length)
  (h:evS P esc ops n (X.drop (i0+a_)) (de d (.tup []) N A) L (H' (List.map bi (bs.set id ((bs.getD id []).set i.toNat x)))) K)
  (e: ∀K,evS P esc ops n ((X.drop i0).take a_) A L H K=(c3 (List.map bi bs)[id]? fun blk=>blk.bC=0∧c3 blk.rows[0+i.toNat]? fun row=>0+1≤row.length∧K (de d (.tup []) N A) L (H' ((List.map bi bs).set id {blk with rows:=blk.rows.set (0+i.toNat) (fk row 0 [.bool x])}))):=by intro K;kernel_rfl):evS P esc ops n (X.drop i0) A L H K:=by
 rw[jw X i0 a_,e]
 have key:(List.map bi bs).set id {bi (bs.getD id []) with rows:=(bi (bs.getD id [])).rows.set (0+i.toNat) (fk (aW (nth (bs.getD id []) i)) 0 [.bool x])}=List.map bi (bs.set id ((bs.getD id []).set i.toNat x)):=by
  rw[←Ei]
  congr 1
  show(⟨0,1,(List.map aW (bs.getD id [])).set (0+i.toNat) (aW x)⟩:Blk)=⟨0,1,_⟩
  rw[Nat.zero_add,Dk]
 refine ej (sD gP) ⟨rfl,ej (a:=aW (nth (bs.getD id []) i)) (by rw[Nat.zero_add];exact x_ hi) ⟨Nat.le_refl _,?_⟩⟩
 ·rw[key];exact h
theorem Pz (a_:Nat) (N:List (Nat×AV)) (H':List Blk) {φ ψ:Prop} (h1:φ) (h2:ψ) (h:evS P esc ops n (X.drop (i0+a_)) (gJ N A) L H' K) (e: ∀K,evS P esc ops n ((X.drop i0).take a_) A L H K=(φ∧ψ∧K (gJ N A) L H'):=by intro K;kernel_rfl):evS P esc ops n (X.drop i0) A L H K:=by
 rw[jw X i0 a_,e];exact⟨h1,h2,h⟩
theorem Py (H':List Blk) (aR:H=H') (h:evS P esc ops n (X.drop i0) A L H' K):evS P esc ops n (X.drop i0) A L H K:=by
 subst aR;exact h
theorem tj (a_:Nat) (d:Option Nat) (N:List (Nat×AV)) {g:FuncId} (args:List AV) (Q:AV→List Blk→Prop) (hf:dF P g args H Q) (aJ: ∀r H',Q r H'→w2 r=true) (h: ∀r H',Q r H'→evS P esc ops n (X.drop (i0+a_)) (de d r N A) L H' K)
  (aF:args.all e1=true:=by kernel_rfl) (aL:args.all jZ=true:=by kernel_rfl) (e: ∀K,evS P esc ops n ((X.drop i0).take a_) A L H K=(li P g args L H (fun v L' H'=>K (de d v N A) L' H')):=by intro K;kernel_rfl):evS P esc ops n (X.drop i0) A L H K:=by
 rw[jw X i0 a_,e]
 exact .inr (.inr (.inl ⟨aF,aL,hf.mono fun r H' aj=>⟨aJ r H' aj,h r H' aj⟩⟩))
theorem abC (a_:Nat) (d:Option Nat) (N:List (Nat×AV)) {i:Int} (B:Int) (z:List AV) (m:Nat) (kU:List Blk) (aT:0≤i∧B*i≤140737488355328∧i≤4611686018427387904) (aL:H.length=m) (hx:H++[⟨0,1,List.map aW (List.replicate i.toNat false)⟩]=kU)
  (h:evS P esc ops n (X.drop (i0+a_)) (de d (.ref m 0 0 (List.replicate i.toNat false).length false) N A) L kU K) (aN:z=aW false:=by rfl)
  (e: ∀K,evS P esc ops n ((X.drop i0).take a_) A L H K=(0≤i∧i≤i∧B*i≤140737488355328∧i≤4611686018427387904∧K (de d (.ref H.length 0 0 i.toNat false) N A) L (H++[⟨0,1,List.replicate i.toNat z⟩])):=by intro K;kernel_rfl):evS P esc ops n (X.drop i0) A L H K:=by
 rw[jw X i0 a_,e]
 subst aL;subst hx;subst aN
 rw[List.length_replicate,List.map_replicate] at h
 exact⟨aT.1,Int.le_refl _,aT.2.1,aT.2.2,h⟩
theorem Pv (a_:Nat) (d:Option Nat) (N:List (Nat×AV)) (ys:List Bool) (B:Nat) (m:Nat) (kU:List Blk) (aT:ys.length*B≤140737488355328∧ys.length≤4611686018427387904) (aL:H.length=m) (hx:H++[⟨0,1,List.map aW ys⟩]=kU)
  (h:evS P esc ops n (X.drop (i0+a_)) (de d (.ref m 0 0 ys.length false) N A) L kU K)
  (e: ∀K,evS P esc ops n ((X.drop i0).take a_) A L H K=(true=true∧true=true∧qS 1 (List.map aW ys)∧true=true∧(∀row∈([]:List (List AV)),row.length=1)∧(List.length (α:=List AV) []+(List.map aW ys).length)*B≤140737488355328∧List.length (α:=List AV) []+(List.map aW ys).length≤4611686018427387904∧(([]:List (List AV))≠[]→(List.map aW ys)≠[])∧
   K (de d (.ref H.length 0 0 (List.length (α:=List AV) []+(List.map aW ys).length) false) N A) L (H++[⟨0,1,[]++(List.map aW ys)⟩])):=by intro K;kernel_rfl):evS P esc ops n (X.drop i0) A L H K:=by
 rw[jw X i0 a_,e]
 subst aL;subst hx
 refine⟨rfl,rfl,Cz (enc:=aW) (fun _=>⟨rfl,rfl⟩) ys,rfl,(fun row h=>by cases h),by simpa using aT.1,by simpa using aT.2,(fun h=>absurd rfl h),?_⟩
 simpa using h
theorem Hv (a_:Nat) (d:Option Nat) (N:List (Nat×AV)) (s b g q B:Nat) (ws:List ad) (ids:List Nat) (x:ad) (id:Nat) (H':List (List AV)→List Blk) (aL:ws.length=ids.length)
  (aT:(ws.length+1)*B≤140737488355328∧ws.length+1≤4611686018427387904) (h:evS P esc ops n (X.drop (i0+a_)) (de d (.ref b (g+1) 0 (ws++[x]).length false) N A) L (H' (aZ s (ws++[x]) (ids++[id]))) K)
  (e: ∀K,evS P esc ops n ((X.drop i0).take a_) A L H K=(true=true∧true=true∧(q=q∧0+1≤1∧(qS 5 [kd s x id]∧0=0∧g=g∧5=5∧(aZ s ws ids).length=ws.length∧(ws.length+1)*B≤140737488355328∧ws.length+1≤4611686018427387904∧
   K (de d (.ref b (g+1) 0 (ws.length+1) false) N A) L (H' (aZ s ws ids++[kd s x id]))))):=by intro K;kernel_rfl):evS P esc ops n (X.drop i0) A L H K:=by
 rw[jw X i0 a_,e]
 refine⟨rfl,rfl,rfl,Nat.le_refl _,?_,rfl,rfl,rfl,wj aL,aT.1,aT.2,?_⟩
 ·intro row aJ
  rw[List.mem_singleton.1 aJ]
  exact⟨rfl,fun a a4=>List.all_eq_true.1 (show(kd s x id).all iY=true from rfl) a a4⟩
 ·rw[EE aL];rw[List.length_append] at h;exact h
end
section
variable {P:Program} {esc:List Nat} {ops:Array Oper} {n:Nat} {X:List Item} {i0:Nat} {A:List (Nat×AV)} {L:List (Nat×List AV)} {H:List Blk} {K:List (Nat×AV)→List (Nat×List AV)→List Blk→Prop}
theorem nE (a_:Nat) (d:Option Nat) (N:List (Nat×AV)) (rows:List (List AV)) {row:List AV} (i:Int) (t:TypeId) (c g:Nat) (v:AV) (eV:rows[i.toNat]?=some row) (h:evSD P esc ops n (X.drop (i0+a_)) (de d v N A) L H K)
  (e2: ∀K,js P t row c K=K v:=by intro K;kernel_rfl)
  (e: ∀K,evSD P esc ops n ((X.drop i0).take a_) A L H K=(g=g∧c3 rows[0+i.toNat]? fun row=>js P t row c fun v=>K (de d v N A) L H):=by intro K;kernel_rfl):evSD P esc ops n (X.drop i0) A L H K:=by
 rw[lk X i0 a_,e]
 exact⟨rfl,ej (a:=row) (by rw[Nat.zero_add];exact eV) (by rw[e2];exact h)⟩
theorem Sj (a_:Nat) (d:Option Nat) (N:List (Nat×AV)) (rows:List (List AV)) {row row':List AV} (i:Int) (c k g:Nat) (cells:List AV) (F:List (List AV)→Prop) (H':List (List AV)→List Blk) (iE:List (List AV)) (eV:rows[i.toNat]?=some row) (k0:rows.set i.toNat row'=iE)
  (c_:F (iE)) (h:evSD P esc ops n (X.drop (i0+a_)) (de d (.tup []) N A) L (H' iE) K) (hc:Nat.ble (c+k) row.length=true:=by kernel_rfl) (hs:fk row c cells=row':=by kernel_rfl)
  (e: ∀K,evSD P esc ops n ((X.drop i0).take a_) A L H K=(g=g∧c3 rows[0+i.toNat]? fun row=>c+k≤row.length∧F ((rows.set (0+i.toNat) (fk row c cells)))∧K (de d (.tup []) N A) L (H' (rows.set (0+i.toNat) (fk row c cells)))):=by intro K;kernel_rfl):evSD P esc ops n (X.drop i0) A L H K:=by
 rw[lk X i0 a_,e]
 refine⟨rfl,ej (a:=row) (by rw[Nat.zero_add];exact eV) ⟨Nat.le_of_ble_eq_true hc,?_,?_⟩⟩
 ·rw[hs,Nat.zero_add,k0];exact c_
 ·rw[hs,Nat.zero_add,k0];exact h
theorem vk (a_:Nat) (d:Option Nat) (N:List (Nat×AV)) (bs:List (List Bool)) (id s:Nat) {i:Int} {m:Nat} (gP:id<bs.length) (aT:0≤i∧i.toNat<m) (h:evSD P esc ops n (X.drop (i0+a_)) (de d (.ptr (id+s) 0 (0+i.toNat) 0) N A) L H K)
  (e: ∀K,evSD P esc ops n ((X.drop i0).take a_) A L H K=(c3 (List.map bi bs)[id]? fun blk=>blk.bC=0∧blk.sz=1∧0≤i∧i<m∧K (de d (.ptr (id+s) 0 (0+i.toNat) 0) N A) L H):=by intro K;kernel_rfl):evSD P esc ops n (X.drop i0) A L H K:=by
 rw[lk X i0 a_,e]
 exact ej (sD gP) ⟨rfl,rfl,aT.1,by have:=aT.2;omega,h⟩
theorem zY (a_:Nat) (d:Option Nat) (N:List (Nat×AV)) (bs:List (List Bool)) (id:Nat) (i:Int) (t:TypeId) (gP:id<bs.length) (hi:i.toNat<(bs.getD id []).length) (h:evSD P esc ops n (X.drop (i0+a_)) (de d (.bool (nth (bs.getD id []) i)) N A) L H K)
  (e2: ∀x K,js P t (aW x) 0 K=K (.bool x):=by intro x K;kernel_rfl)
  (e: ∀K,evSD P esc ops n ((X.drop i0).take a_) A L H K=(c3 (List.map bi bs)[id]? fun blk=>blk.bC=0∧c3 blk.rows[0+i.toNat]? fun row=>js P t row 0 fun v=>K (de d v N A) L H):=by intro K;kernel_rfl):evSD P esc ops n (X.drop i0) A L H K:=by
 rw[lk X i0 a_,e]
 refine ej (sD gP) ⟨rfl,ej (a:=aW (nth (bs.getD id []) i)) (by rw[Nat.zero_add];exact x_ hi) (by rw[e2];exact h)⟩
theorem Si (a_:Nat) (d:Option Nat) (N:List (Nat×AV)) (bs:List (List Bool)) (id:Nat) (i:Int) (x:Bool) (F:List Blk→Prop) (H':List Blk→List Blk) (gP:id<bs.length) (hi:i.toNat<(bs.getD id []).length)
  (c_:F ((List.map bi (bs.set id ((bs.getD id []).set i.toNat x))))) (h:evSD P esc ops n (X.drop (i0+a_)) (de d (.tup []) N A) L (H' (List.map bi (bs.set id ((bs.getD id []).set i.toNat x)))) K)
  (e: ∀K,evSD P esc ops n ((X.drop i0).take a_) A L H K=(c3 (List.map bi bs)[id]? fun blk=>blk.bC=0∧c3 blk.rows[0+i.toNat]? fun row=>0+1≤row.length∧F (((List.map bi bs).set id {blk with rows:=blk.rows.set (0+i.toNat) (fk row 0 [.bool x])}))∧K (de d (.tup []) N A) L (H' ((List.map bi bs).set id {blk with rows:=blk.rows.set (0+i.toNat) (fk row 0 [.bool x])}))):=by intro K;kernel_rfl):evSD P esc ops n (X.drop i0) A L H K:=by
 rw[lk X i0 a_,e]
 have key:(List.map bi bs).set id {bi (bs.getD id []) with rows:=(bi (bs.getD id [])).rows.set (0+i.toNat) (fk (aW (nth (bs.getD id []) i)) 0 [.bool x])}=List.map bi (bs.set id ((bs.getD id []).set i.toNat x)):=by
  rw[←Ei]
  congr 1
  show(⟨0,1,(List.map aW (bs.getD id [])).set (0+i.toNat) (aW x)⟩:Blk)=⟨0,1,_⟩
  rw[Nat.zero_add,Dk]
 refine ej (sD gP) ⟨rfl,ej (a:=aW (nth (bs.getD id []) i)) (by rw[Nat.zero_add];exact x_ hi) ⟨Nat.le_refl _,?_,?_⟩⟩
 ·rw[key];exact c_
 ·rw[key];exact h
theorem aeZ (a_:Nat) (d:Option Nat) (N:List (Nat×AV)) (s b g q B:Nat) (ws:List ad) (ids:List Nat) (x:ad) (id:Nat) (F:List (List AV)→Prop) (H':List (List AV)→List Blk) (aL:ws.length=ids.length)
  (aT:(ws.length+1)*B≤140737488355328∧ws.length+1≤4611686018427387904) (c_:F ((aZ s (ws++[x]) (ids++[id])))) (h:evSD P esc ops n (X.drop (i0+a_)) (de d (.ref b (g+1) 0 (ws++[x]).length false) N A) L (H' (aZ s (ws++[x]) (ids++[id]))) K)
  (e: ∀K,evSD P esc ops n ((X.drop i0).take a_) A L H K=(true=true∧true=true∧(q=q∧0+1≤1∧(qS 5 [kd s x id]∧0=0∧g=g∧5=5∧(aZ s ws ids).length=ws.length∧(ws.length+1)*B≤140737488355328∧ws.length+1≤4611686018427387904∧
   F ((aZ s ws ids++[kd s x id]))∧K (de d (.ref b (g+1) 0 (ws.length+1) false) N A) L (H' (aZ s ws ids++[kd s x id]))))):=by intro K;kernel_rfl):evSD P esc ops n (X.drop i0) A L H K:=by
 rw[lk X i0 a_,e]
 refine⟨rfl,rfl,rfl,Nat.le_refl _,?_,rfl,rfl,rfl,wj aL,aT.1,aT.2,?_,?_⟩
 ·intro row aJ
  rw[List.mem_singleton.1 aJ]
  exact⟨rfl,fun a a4=>List.all_eq_true.1 (show(kd s x id).all iY=true from rfl) a a4⟩
 ·rw[EE aL];exact c_
 ·rw[EE aL];rw[List.length_append] at h;exact h
end
theorem abL {H:List Blk} {b j:Nat} {x y:Blk} (h:(H.set b x)[j]?=some y):(j=b∧y=x)∨(j≠b∧H[j]?=some y):=by
 rw[List.getElem?_set] at h
 split at h
 ·rename_i e;subst e
  split at h
  ·cases h;exact .inl ⟨rfl,rfl⟩
  ·cases h
 ·rename_i e;exact .inr ⟨fun h=>e h.symm,h⟩
theorem K6 [iK:cH] {cw E:Env} {H:List Blk} {L:List (Nat×List AV)} (g:Good cw E) (aR:SimH E H) (b0:SimL E L) {b mM sz:Nat} {rows:List (List AV)} (hb:H[b]?=some ⟨mM,sz,rows⟩) (gk:iK.n≤b)
  (hk: ∀row∈rows,∀a∈row,jv a=true∧nX a=true) (g1:rows.length≤4611686018427387904):
  ∃E',E'.w=E.w∧Good cw E'∧SimH E' (H.set b ⟨mM+1,sz,[]⟩)∧SimL E' L∧E.gM E'∧E'.mL=E.mL∧ ∀v full,ft E (.ref b mM 0 rows.length full) v→bF E'.w E'.PA E'.PF (.bz (rows.map fun row=>row.map kq) false true) v:=by
 have kf:E.bC b=mM:=aR.fb b _ hb
 have qo:=(List.getElem?_eq_some_iff.1 hb).1
 let E':Env:={E with PA:=fun c=>E.PA c∨E.m b=some (some c),PF:=fun c=>E.PF c∨E.m b=some (some c),m:=fun j=>if j=b then none else E.m j,bC:=fun j=>if j=b then mM+1 else E.bC j}
 have hm: ∀{j:Nat} {x:Option Nat},E'.m j=some x→j≠b∧E.m j=some x:=fun{j x} h=>by
  have h:(if j=b then none else E.m j)=some x:=h
  split at h
  ·cases h
  ·rename_i e;exact⟨e,h⟩
 have hg: ∀{j:Nat},j≠b→E'.bC j=E.bC j:=fun{j} h=>if_neg h
 have hle:E.gM E':=⟨fun _ h=> .inl h,fun _ h=> .inl h,fun _ _=>rfl,fun _ _=>rfl,fun j=>by
   show E.bC j≤(if j=b then mM+1 else E.bC j)
   split
   ·rename_i e;subst e;omega
   ·exact Nat.le_refl _,fun j x hx qs=>by
   have qs:(if j=b then mM+1 else E.bC j)=E.bC j:=qs
   have cm:j≠b:=fun e=>by subst e;rw[if_pos rfl] at qs;omega
   exact⟨by show(if j=b then none else E.m j)=_;rw[if_neg cm];exact hx,rfl,rfl⟩,fun _ _ h=>h⟩
 have dn: ∀c,E.m b=some (some c)→cw.w.heap.size≤c:=fun c hc=>(g.jj b c hc).elim (fun h=>by rw[(g.ze b gk).1] at h;cases h) id
 have kh:=aR.gw
 refine⟨E',rfl,?_,?_,?_,hle,rfl,?_⟩
 ·exact{g with
   le:=g.le.trans hle
   jj:=fun j c h=>g.jj j c (hm h).2
   jB:=g.jB
   fI:=fun c hc=>hc.elim (g.fI c) fun h=> .inr (dn c h)
   fJ:=fun c hc=>hc.elim (g.fJ c) fun h=> .inr (dn c h)}
 ·exact{aR with
   heap:=fun j c h=>by
    obtain⟨cm,h⟩:=hm h
    obtain⟨blk,a7,ty,q1,dU,q2,q3,q4,cL,cY⟩:=aR.heap j c h
    refine⟨blk,a7,ty,by rw[List.getElem?_set,if_neg (fun e=>cm e.symm)];exact q1,dU,q2,q3,q4,cL,fun i k row a h1 h2=> ?_⟩
    obtain⟨u,hu,aJ⟩:=cY i k row a h1 h2
    exact⟨u,hu,aJ.le hle.b6⟩
   fb:=fun j blk h=>by
    rcases abL h with⟨rfl,rfl⟩ | ⟨cm,h⟩
    ·exact if_pos rfl
    ·rw[hg cm];exact aR.fb j blk h
   hp:=fun j h=>by
    obtain⟨cm,h⟩:=hm h
    obtain⟨blk,q1,q2⟩:=aR.hp j h
    exact⟨blk,by rw[List.getElem?_set,if_neg (fun e=>cm e.symm)];exact q1,q2⟩
   fresh:=fun j h=>by
    rw[List.length_set] at h
    have:=aR.fresh j h
    have cm:j≠b:=by omega
    exact⟨by show(if j=b then none else E.m j)=none;rw[if_neg cm];exact this.1,by rw[hg cm];exact this.2⟩
   hV:=fun j k c h1 h2=>aR.hV j k c (hm h1).2 (hm h2).2
   gR:=fun j t c h1 h2=>aR.gR j t c (hm h1).2 h2
   hW:=fun c hc ⟨j,aM⟩=>by
    obtain⟨cm,aM⟩:=hm aM
    rcases hc with hc | hc
    ·exact aR.hW c hc ⟨j,aM⟩
    ·exact cm (aR.hV j b c aM hc)
   im:=fun c hc ⟨t,bp⟩=>by
    rcases hc with hc | hc
    ·exact aR.im c hc ⟨t,bp⟩
    ·exact aR.gR b t c hc bp
   eW:=fun c hc=>hc.elim (fun h=> .inl (aR.eW c h)) .inr
   e9:=fun c hc=>hc.elim (aR.e9 c) fun h=>kh c ⟨b,h⟩
   gw:=fun c ⟨j,aM⟩=>kh c ⟨j,(hm aM).2⟩}
 ·intro t c bp
  obtain⟨cells,a7,ty,q1,q2,q3⟩:=b0 t c bp
  exact⟨cells,a7,ty,q1,q2,q3.mono fun _ _ k=>k.le hle.b6⟩
 ·intro v full hv
  rcases hv with⟨bV,_⟩ | ⟨fR,bV⟩
  ·omega
  ·rcases bV with⟨_,_,mi,A,rfl⟩ | ⟨c,cap,kC,rfl,oO,n6,qq⟩
   ·obtain rfl:rows=[]:=List.eq_nil_of_length_eq_zero mi
    exact bF.bz (rows:=[]) (PB:=fun _=>False) (sz:=0) (vs:=fun _ _=>undef) (fun _ h=>h.elim) ⟨Nat.le_refl _,Nat.zero_le _⟩ (fun _=>rfl) (fun i row h=>by simp at h) (fun h=>by simp at h) (fun i j row a h=>by simp at h)
   ·obtain⟨blk,a7,ty,q1,dU,q2,q3,q4,cL,cY⟩:=aR.heap b c kC
    rw[hb] at q1
    cases q1
    have key:=bF.bz (w:=E.w) (PA:=E'.PA) (PF:=E'.PF) (PB:=E'.PF) (rows:=rows.map fun row=>row.map kq) (full:=false) (fresh:=true) (A:=some ⟨c,0,none⟩) (cap:=cap) (sz:=E.sz b) (vs:=fun i j=>(a7[i*E.sz b+j]?).getD undef)
     (fun c hc=>by simpa using hc) (by rw[List.length_map];exact⟨oO,g1⟩) (fun h=>by cases h) (fun i row' aJ=> ?_) (fun ln=>⟨c,0,rfl,.inr kC,fun i j hi aM=> ?_⟩) (fun i j row' ih aJ aM=> ?_)
    ·rw[List.length_map] at key
     show bF E.w E'.PA E'.PF _ (.slice (some ⟨c,0*E.sz b,none⟩) rows.length cap)
     rw[Nat.zero_mul];exact key
    ·rw[List.getElem?_map] at aJ
     cases aj:rows[i]? with
     | none=>simp[aj] at aJ
     | some row=>simp[aj] at aJ;subst aJ;rw[List.length_map];exact cL i row aj
    ·rw[List.length_map] at hi
     have aJ:=List.getElem?_eq_getElem hi
     have aL:=cL i _ aJ
     obtain⟨u,hu,_⟩:=cY i j _ _ aJ (List.getElem?_eq_getElem (by rw[aL];exact aM))
     rw[Nat.zero_add,cell_of q2 hu,hu];rfl
    ·rw[List.getElem?_map] at aJ
     cases aj:rows[i]? with
     | none=>simp[aj] at aJ
     | some row=>
      simp[aj] at aJ;subst aJ
      rw[List.getElem?_map] at aM
      cases kk:row[j]? with
      | none=>simp[kk] at aM
      | some a=>
       simp[kk] at aM;subst aM
       obtain⟨u,hu,g2⟩:=cY i j row a aj kk
       obtain⟨dP,h_⟩:=hk row (List.mem_of_getElem? aj) a (List.mem_of_getElem? kk)
       rw[hu]
       exact(Sq dP h_ (Ax dP g2)).mono (fun _ _=>rfl) (fun _ h=>h.elim) (fun c hc=> .inl hc) (fun _ h=>h)
theorem Weak.VI [iK:cH] (i:Nat) {T:List AV} {L:List (Nat×List AV)} {H:List Blk} {b mM sz n:Nat} {full:Bool} {rows:List (List AV)} (ct:T.getD i .undef= .ref b mM 0 n full) (aF:n=rows.length) (hb:H[b]?=some ⟨mM,sz,rows⟩) (gk:iK.n≤b)
  (hk: ∀row∈rows,∀a∈row,jv a=true∧nX a=true) (g1:rows.length≤4611686018427387904):Weak ⟨T,L,H⟩ ⟨T.set i (.bz (rows.map fun row=>row.map kq) false true),L,H.set b ⟨mM+1,sz,[]⟩⟩:=fun cw E tmps g s=>by
 subst aF
 obtain⟨E',hw,hg,h1,h2,hle,LV,hv⟩:=K6 g s.h s.l hb gk hk g1
 refine⟨E',hw,hg,h1,h2,fun t=> ?_,by simpa using s.size⟩
 show V3 E' ((T.set i _).getD t .undef) _
 rw[rE]
 split
 ·rename_i aj
  obtain⟨rfl,_⟩:=aj
  have aT:V3 E (T.getD i .undef) (tmps.getD i undef):=s.iv i
  rw[ct] at aT
  exact hv _ full aT
 ·exact(s.iv t).le hle
theorem Weak.VH [iK:cH] (t i:Nat) {T:List AV} {L:List (Nat×List AV)} {H:List Blk} {cells:List AV} {b mM sz n:Nat} {full:Bool} {rows:List (List AV)} (hc:eU L t=some cells) (ct:cells.getD i .undef= .ref b mM 0 n full) (aF:n=rows.length) (hb:H[b]?=some ⟨mM,sz,rows⟩) (gk:iK.n≤b)
  (hk: ∀row∈rows,∀a∈row,jv a=true∧nX a=true) (g1:rows.length≤4611686018427387904):Weak ⟨T,L,H⟩ ⟨T,k_ L t (cells.set i (.bz (rows.map fun row=>row.map kq) false true)),H.set b ⟨mM+1,sz,[]⟩⟩:=fun cw E tmps g s=>by
 subst aF
 obtain⟨E',hw,hg,h1,h2,hle,LV,hv⟩:=K6 g s.h s.l hb gk hk g1
 refine⟨E',hw,hg,h1,fun u c hm=> ?_,fun t=>(s.iv t).le hle,s.size⟩
 rw[LV] at hm
 obtain⟨gY,a7,ty,q1,q2,q3⟩:=s.l u c hm
 show ∃Dr a7 ty,eU (k_ L t _) u=some Dr∧_
 rw[yl]
 by_cases hu:u=t
 ·subst hu
  rw[if_pos rfl]
  have zt:eU L u=some gY:=q1
  rw[hc] at zt
  cases zt
  refine⟨_,a7,ty,by rw[hc];rfl,by rw[hw];exact q2,by simpa using q3.1,fun j x v hx kl=> ?_⟩
  rw[List.getElem?_set] at hx
  split at hx
  ·rename_i nl
   subst nl
   split at hx
   ·rename_i bc
    cases hx
    have LD:=List.getElem?_eq_getElem bc
    have he:cells.getD i .undef=cells[i]:=by rw[List.getD_eq_getElem?_getD,LD];rfl
    have k1:=q3.2 i _ v LD kl
    rw[←he,ct] at k1
    exact bF.v1 (E:=E'.b6) (hv v full k1)
   ·cases hx
  ·exact(q3.2 j x v hx kl).le hle.b6
 ·rw[if_neg hu]
  exact⟨gY,a7,ty,q1,by rw[hw];exact q2,q3.mono fun _ _ k=>k.le hle.b6⟩
def zB (n:Nat):AV→Bool
 | .ref b _ _ _ _=>Nat.blt b n
 | .ptr b _ _ _=>Nat.blt b n
 | _=>true
def pU (n:Nat):AV→Bool
 | .fn _ caps=>caps.all (zB n)
 | a=>zB n a
def xq (n:Nat):AV→Bool
 | .agg l=>l.all (pU n)
 | a=>pU n a
def xr (n:Nat):AV→Bool
 | .tup l=>l.all (xq n)
 | a=>xq n a
def Env.cut (E:Env) (n:Nat):Env:={E with m:=fun j=>if j<n then E.m j else none,bC:=fun j=>if j<n then E.bC j else 0}
section
variable {E:Env} {n:Nat}
theorem yd {j:Nat} (h:j<n):(E.cut n).m j=E.m j∧(E.cut n).bC j=E.bC j:=⟨if_pos h,if_pos h⟩
theorem ft.cut {a:AV} {v:Value} (h:zB n a=true) (hv:ft E a v):ft (E.cut n) a v:=by
 cases a with
 | ref b g o m f=>
  have hb:b<n:=by rw[←Nat.blt_eq];exact h
  obtain⟨bx,e2⟩:=yd (E:=E) hb
  have hv:(g<E.bC b∧_)∨(g=E.bC b∧_):=hv
  show(g<(E.cut n).bC b∧_)∨(g=(E.cut n).bC b∧_)
  rw[bx,e2];exact hv
 | ptr b g r c=>
  have hb:b<n:=by rw[←Nat.blt_eq];exact h
  obtain⟨bx,e2⟩:=yd (E:=E) hb
  have hv:(g<E.bC b∧_)∨(g=E.bC b∧_):=hv
  show(g<(E.cut n).bC b∧_)∨(g=(E.cut n).bC b∧_)
  rw[bx,e2];exact hv
 | _=>exact hv
theorem cI.cut {a:AV} {v:Value} (h:pU n a=true) (hv:cI E a v):cI (E.cut n) a v:=by
 by_cases hf: ∃f caps,a= .fn f caps
 ·obtain⟨f,caps,rfl⟩:=hf
  obtain⟨vs,e,aG⟩:=hv
  exact⟨vs,e,aG.1,fun i x y hx br=>(aG.2 i x y hx br).cut (List.all_eq_true.1 (show caps.all (zB n)=true from h) x (List.mem_of_getElem? hx))⟩
 ·have aT:pU n a=zB n a:=by cases a<;>first | rfl | exact absurd ⟨_,_,rfl⟩ hf
  rw[rj fun f c e=>hf ⟨f,c,e⟩] at hv ⊢
  exact hv.cut (aT▸h)
theorem V2.cut {a:AV} {v:Value} (h:xq n a=true) (hv:V2 E a v):V2 (E.cut n) a v:=by
 by_cases hf: ∃l,a= .agg l
 ·obtain⟨l,rfl⟩:=hf
  obtain⟨vs,e,aG⟩:=hv
  exact⟨vs,e,aG.1,fun i x y hx br=>(aG.2 i x y hx br).cut (List.all_eq_true.1 (show l.all (pU n)=true from h) x (List.mem_of_getElem? hx))⟩
 ·have aT:xq n a=pU n a:=by cases a<;>first | rfl | exact absurd ⟨_,rfl⟩ hf
  rw[pd fun l e=>hf ⟨l,e⟩] at hv ⊢
  exact hv.cut (aT▸h)
theorem V3.cut {a:AV} {v:Value} (h:xr n a=true) (hv:V3 E a v):V3 (E.cut n) a v:=by
 by_cases hf: ∃l,a= .tup l
 ·obtain⟨l,rfl⟩:=hf
  obtain⟨vs,e,aG⟩:=hv
  exact⟨vs,e,aG.1,fun i x y hx br=>(aG.2 i x y hx br).cut (List.all_eq_true.1 (show l.all (xq n)=true from h) x (List.mem_of_getElem? hx))⟩
 ·have aT:xr n a=xq n a:=by cases a<;>first | rfl | exact absurd ⟨_,rfl⟩ hf
  rw[oB fun l e=>hf ⟨l,e⟩] at hv ⊢
  exact hv.cut (aT▸h)
end
theorem Weak.cut [iK:cH] (n:Nat) {T:List AV} {L:List (Nat×List AV)} {H:List Blk} (gk:iK.n≤n) (ct: ∀t,xr n (T.getD t .undef)=true) (b0: ∀t cells,eU L t=some cells→cells.all (pU n)=true) (aR: ∀(b:Nat) (blk:Blk),b<n→H[b]?=some blk→ ∀row∈blk.rows,row.all (pU n)=true):
  Weak ⟨T,L,H⟩ ⟨T,L,H.take n⟩:=fun cw E tmps g s=>by
 have hq:SimH E H:=s.h
 have hm: ∀{j:Nat} {x:Option Nat},(E.cut n).m j=some x→j<n∧E.m j=some x:=fun{j x} h=>by
  have h:(if j<n then E.m j else none)=some x:=h
  split at h
  ·rename_i e;exact⟨e,h⟩
  ·cases h
 have get: ∀{j:Nat},j<n→(H.take n)[j]?=H[j]?:=fun{j} h=>by rw[List.getElem?_take,if_pos h]
 refine⟨E.cut n,rfl,?_,?_,?_,fun t=>(s.iv t).cut (ct t),s.size⟩
 ·exact{g with
   le:=⟨g.le.fI,g.le.fJ,g.le.tx,g.le.wf,fun b=>by
     show cw.bC b≤(if b<n then E.bC b else 0)
     split
     ·exact g.le.bC b
     ·rw[(g.ze b (by omega)).2];exact Nat.le_refl _,fun b x hx qs=>by
     have hb:b<n:=by
      rcases Nat.lt_or_ge b n with h | h
      ·exact h
      ·rw[(g.ze b (by omega)).1] at hx;cases hx
     obtain⟨bx,e2⟩:=yd (E:=E) hb
     rw[e2] at qs
     rw[bx]
     exact g.le.m b x hx qs,g.le.mL⟩
   jj:=fun b c h=>g.jj b c (hm h).2
   jB:=g.jB}
 ·exact{hq with
   heap:=fun j c h=>by
    obtain⟨aM,h⟩:=hm h
    obtain⟨blk,a7,ty,q1,dU,q2,q3,q4,cL,cY⟩:=hq.heap j c h
    refine⟨blk,a7,ty,by rw[get aM];exact q1,dU,q2,q3,q4,cL,fun i k row a h1 h2=> ?_⟩
    obtain⟨u,hu,aJ⟩:=cY i k row a h1 h2
    exact⟨u,hu,aJ.cut (List.all_eq_true.1 (aR j blk aM q1 row (List.mem_of_getElem? h1)) a (List.mem_of_getElem? h2))⟩
   fb:=fun j blk h=>by
    have aM:j<n:=by
     rcases Nat.lt_or_ge j n with q | q
     ·exact q
     ·rw[List.getElem?_take,if_neg (by omega)] at h;cases h
    rw[(yd (E:=E) aM).2]
    rw[get aM] at h;exact hq.fb j blk h
   hp:=fun j h=>by
    obtain⟨aM,h⟩:=hm h
    obtain⟨blk,q1,q2⟩:=hq.hp j h
    exact⟨blk,by rw[get aM];exact q1,q2⟩
   fresh:=fun j h=>by
    rw[List.length_take] at h
    rcases Nat.lt_or_ge j n with q | q
    ·obtain⟨bx,e2⟩:=yd (E:=E) q
     rw[bx,e2];exact hq.fresh j (by omega)
    ·exact⟨if_neg (by omega),if_neg (by omega)⟩
   hV:=fun j k c h1 h2=>hq.hV j k c (hm h1).2 (hm h2).2
   gR:=fun j t c h1 h2=>hq.gR j t c (hm h1).2 h2
   hW:=fun c hc ⟨j,aM⟩=>hq.hW c hc ⟨j,(hm aM).2⟩
   gw:=fun c ⟨j,aM⟩=>hq.gw c ⟨j,(hm aM).2⟩}
 ·intro t c bp
  obtain⟨cells,a7,ty,q1,q2,q3⟩:=s.l t c bp
  exact⟨cells,a7,ty,q1,q2,q3.1,fun i a u hx hu=>(q3.2 i a u hx hu).cut (List.all_eq_true.1 (b0 t cells q1) a (List.mem_of_getElem? hx))⟩
end Go.Proofs.Ytglpfccgmfhkdaa.Fw
