/- The framework, part OP: a call that is handed one struct in the memory (or a variable of the caller's) to write into, beside values that stay. -/
import Derived.Test.YtglpfccgmfhkdaaM1
set_option linter.unusedVariables false
namespace Go.Proofs.Ytglpfccgmfhkdaa.Fw
open Go
def uo:AV→Bool
 | .bC _ full fr=> !full&& !fr
 | a=>jv a
theorem Zb {a:AV} (h:uo a=true):jv a=true∧ko a=a:=by
 cases a with
 | bC rows full fr=>
  refine⟨rfl,?_⟩
  cases full<;>cases fr<;>first | rfl | cases h
 | _=>first | exact⟨h,rfl⟩
def iI (P:Program) (f:FuncId) (g:Nat) (args:List AV) (a7 dx:List AV) (t:AV):Prop:=
 dz P f args [⟨g,a7.length,[a7]⟩] fun r e3=> ∃B,e3=⟨g,a7.length,[dx]⟩::B∧h_ (⟨g+1,a7.length,[dx]⟩::B) r t
def tm (p q a J:AV):Prop:=(a=p∧J=q)∨c3 [] [] a J
theorem PM {E:Env} (aI: ∀c,E.PF c→E.PA c) {a b:AV} (h:fT [] [] a b): ∀{v:Value},cC E a v→bH E.w E.PA (fun _=>False) b v:=by
 induction h with
 | undef a=>intro v _;exact .undef v
 | int k n=>intro v hv;have hv:bH E.w E.PA E.PF (.int k n) v:=hv;cases hv;exact .int _ _
 | bool k=>intro v hv;have hv:bH E.w E.PA E.PF (.bool k) v:=hv;cases hv;exact .bool _
 | str k=>intro v hv;have hv:bH E.w E.PA E.PF (.str k) v:=hv;cases hv;exact .str _
 | fW=>intro v hv;have hv:bH E.w E.PA E.PF .fW v:=hv;cases hv;exact .fW
 | gp=>intro v hv;have hv:bH E.w E.PA E.PF .gp v:=hv;cases hv;exact .gp
 | bC rows full fr en hw=>
  intro v hv
  have hv:bH E.w E.PA E.PF (.bC rows full fr) v:=hv
  cases hv with
  | bC f_ gK hl cQ e9 dS=>
   exact .bC (fun c hc=>by
    have:=f_ c hc
    simp only[Bool.false_eq_true,if_false]
    split at this
    ·exact aI c this
    ·exact this) gK (fun h=>hl (hw h)) cQ e9 dS
 | dr cells c=>
  intro v hv
  have hv:bH E.w E.PA E.PF (.dr cells c) v:=hv
  cases hv with
  | dr hc e9 dS=>exact .dr hc e9 dS
 | fx hg=>cases hg
 | ptr hb=>cases hb
 | ref _ hb=>cases hb
 | @fn f caps xV aL aK bR=>
  intro v hv
  obtain⟨vs,rfl,ak⟩:=(show ∃vs:List Value,v= .func (.func f) #[] vs.toArray∧aD (fl E) caps vs from hv)
  exact .fn (aL▸ak.1) fun i b u hb hu=>by
   have bf:i<caps.length:=by have:=(List.getElem?_eq_some_iff.1 hb).1;omega
   exact bR i _ b (List.getElem?_eq_getElem bf) hb (CT (ak.2 i _ u (List.getElem?_eq_getElem bf) hu))
theorem ab2 {E E1:Env} (aI: ∀c,E.PF c→E.PA c) (hw:E1.w=E.w) (ye:E1.PA=E.PA) {a b:AV} (h:c3 [] [] a b) {v:Value} (hv:V2 E a v):V2 E1 b v:=by
 have up: ∀{b:AV} {v:Value},bH E.w E.PA (fun _=>False) b v→cC E1 b v:=fun h=>bH.v1 (E:=E1) (h.mono (fun _ _=>by rw[hw]) (fun _ h=>h.elim) (fun c hc=>by rw[ye];exact hc) (fun _ h=>h.elim))
 rcases h with⟨l,fh,rfl,rfl,ak⟩ | h
 ·obtain⟨vs,rfl,aK⟩:=hv
  refine⟨vs,rfl,ak.1▸aK.1,fun i x u hx hu=> ?_⟩
  have bf:i<l.length:=by have:=(List.getElem?_eq_some_iff.1 hx).1;have:=ak.1;omega
  have aL:=List.getElem?_eq_getElem bf
  exact up (PM aI (ak.2 i _ x aL hx) (aK.2 i _ u aL hu))
 ·by_cases hf: ∃l,a= .agg l
  ·obtain⟨l,rfl⟩:=hf
   cases h with
   | undef=>exact bH.undef v
  ·rw[o4 fun l e=>hf ⟨l,e⟩] at hv
   exact pV (up (PM aI h hv))
def Env.one (E:Env) (bl g sz cp:Nat):Env:=
 {w:=E.w,PA:=E.PA,PF:=fun _=>False,m:=fun j=>if j=0 then some (some bl) else none,bF:=fun j=>if j=0 then g else 0
  sz:=fun j=>if j=0 then sz else 0,cp:=fun j=>if j=0 then cp else 0,mL:=fun _=>none}
theorem uD {E:Env} {bl g sz cp j c:Nat} (h:(E.one bl g sz cp).m j=some (some c)):j=0∧c=bl:=by
 have h:(if j=0 then some (some bl) else none)=some (some c):=h
 split at h
 ·rename_i e;cases h;exact⟨e,rfl⟩
 ·cases h
theorem Z5 {E:Env} {H:List Blk} (aR:SimH E H) {bl g cp:Nat} {a7:List AV} {cells:Array Value} {ty:TypeId} (hC:bl<E.w.heap.size) (ye: ¬E.PA bl) (hw:E.w.heap[bl]?=some (.cells cells ty (0,0))) (cQ:cells.size=cp*a7.length) (h1:1≤cp)
  (hk:a7.all uo=true) (aK: ∀(j:Nat) (a:AV),a7[j]?=some a→ ∃u,cells[j]?=some u∧cC E a u):SimH (E.one bl g a7.length cp) [⟨g,a7.length,[a7]⟩] where
 heap:=fun b c hb=>by
  obtain⟨rfl,rfl⟩:=uD hb
  have eL: ∀{i:Nat} {row:List AV},([a7]:List (List AV))[i]?=some row→i=0∧row=a7:=fun{i row} h=>by
   cases i with
   | zero=>cases h;exact⟨rfl,rfl⟩
   | succ i=>cases h
  refine⟨⟨g,a7.length,[a7]⟩,cells,ty,rfl,rfl,hw,cQ,h1,fun i row h=> ?_,fun i j row a h aM=> ?_⟩
  ·rw[(eL h).2];rfl
  ·obtain⟨rfl,rfl⟩:=eL h
   obtain⟨u,hu,hv⟩:=aK j a aM
   refine⟨u,by rw[Nat.zero_mul,Nat.zero_add];exact hu,?_⟩
   have EI:=Zb (List.all_eq_true.1 hk a (List.mem_of_getElem? aM))
   have:=IS EI.1 (Ad EI.1 hv) (fun c hc=>hc) aR.eS
   rw[EI.2] at this
   exact bH.v1 (E:=(E.one c g row.length cp).b3) this
 e4:=fun b blk hb=>by
  cases b with
  | zero=>cases hb;rfl
  | succ b=>cases hb
 ho:=fun b hb=>by
  have hb:(if b=0 then some (some bl) else none)=some none:=hb
  split at hb<;>cases hb
 fresh:=fun b hb=>by
  have hb:1≤b:=hb
  exact⟨if_neg (by omega),if_neg (by omega)⟩
 hR:=fun b cj c h1 h2=>by rw[(uD h1).1,(uD h2).1]
 jB:=fun t jI c h=>by cases h
 gN:=fun b t c _ h=>by cases h
 hS:=fun c hc ⟨b,hb⟩=>by rw[(uD hb).2] at hc;exact ye hc
 ij:=fun c _ ⟨t,br⟩=>by cases br
 eS:=fun c hc=>hc.elim
 e0:=aR.e0
 gn:=fun c ⟨b,hb⟩=>by rw[(uD hb).2];exact hC
 g2:=fun c ⟨t,br⟩=>by cases br
structure tl (E:Env) (bl k n:Nat) (dx:List AV) (t:AV) (v:Value) (E':Env):Prop where
 m:E'.m=E.m
 mL:E'.mL=E.mL
 bF:E'.bF=E.bF
 sz:E'.sz=E.sz
 cp:E'.cp=E.cp
 fC: ∀c,E.PA c→E'.PA c
 fD: ∀c,E.PF c→E'.PF c
 eS: ∀c,E'.PF c→E'.PA c
 BU: ∀c,E'.PA c→E.PA c∨(E.w.heap.size≤c∧c<E'.w.heap.size)
 aae: ∀c,E'.PF c→E.PF c∨E.w.heap.size≤c
 os:E'.w.os=E.w.os
 tape:E'.w.tape=E.w.tape
 output:E'.w.output=E.w.output
 size:E.w.heap.size≤E'.w.heap.size
 e7: ∀c,c<E.w.heap.size→c≠bl→E'.w.heap[c]?=E.w.heap[c]?
 new: ∃cells ty,E'.w.heap[bl]?=some (.cells cells ty (0,0))∧cells.size=k∧dx.length=n∧ ∀(j:Nat) (a:AV),dx[j]?=some a→ ∃u,cells[j]?=some u∧bH E'.w E'.PA E'.PF a u
 m5:V3 E' t v
theorem ab4 {E1 E':Env} {H:List Blk} (hs:SimH E1 H) (hw:E'.w=E1.w) (hu: ∀c,E1.PF c∨E1.gM c→E'.PA c∧E'.PF c) {a b:AV} {u:Value} (h:h_ H a b) (hv:V3 E1 a u):V3 E' b u:=by
 have fj: ∀{a b:AV} {u:Value},gv H a b→cC E1 a u→cC E' b u:=fun a3 nl=>bH.v1 (E:=E') ((PN hs a3 nl).mono (fun _ _=>by rw[hw]) (fun _ _=>by rw[hw]) (fun c hc=>(hu c hc).1) (fun c hc=>(hu c hc).2))
 have fO: ∀{a b:AV} {u:Value},sa H a b→V2 E1 a u→V2 E' b u:=by
  rintro a b u (⟨l,fh,rfl,rfl,aI⟩ | h) hu
  ·obtain⟨kp,rfl,ak⟩:=hu
   refine⟨kp,rfl,aI.1▸ak.1,fun i x y hx bt=> ?_⟩
   have bf:i<l.length:=by have:=(List.getElem?_eq_some_iff.1 hx).1;have:=aI.1;omega
   have aL:=List.getElem?_eq_getElem bf
   exact fj (aI.2 i _ x aL hx) (ak.2 i _ y aL bt)
  ·have:cC E1 a u:=by cases h<;>exact hu
   exact pV (fj h this)
 rcases h with⟨l,fh,rfl,rfl,aI⟩ | h
 ·obtain⟨kp,rfl,ak⟩:=hv
  refine⟨kp,rfl,aI.1▸ak.1,fun i x y hx bt=> ?_⟩
  have bf:i<l.length:=by have:=(List.getElem?_eq_some_iff.1 hx).1;have:=aI.1;omega
  have aL:=List.getElem?_eq_getElem bf
  exact fO (aI.2 i _ x aL hx) (ak.2 i _ y aL bt)
 ·have:V2 E1 a u:=by
   rcases h with⟨l,fh,rfl,rfl,aI⟩ | h
   ·exact hv
   ·cases h<;>exact hv
  exact pW (fO h this)
theorem JI {P:Program} {f:FuncId} {vs:List Value} {E:Env} {H:List Blk} {args eh a7 dx:List AV} {p t:AV} {bl g cp:Nat} {cells:Array Value} {ty:TypeId} (aR:SimH E H) (hC:bl<E.w.heap.size) (ye: ¬E.PA bl)
  (hw:E.w.heap[bl]?=some (.cells cells ty (0,0))) (cQ:cells.size=cp*a7.length) (h1:1≤cp) (hk:a7.all uo=true) (aK: ∀(j:Nat) (a:AV),a7[j]?=some a→ ∃u,cells[j]?=some u∧cC E a u)
  (a3:aD (V2 E) args vs) (aI: ∀v,V2 E p v→v= .pointer (some ⟨bl,0,none⟩)) (hs:aD (tm p (.ptr 0 g 0 0)) args eh) (jy:dx.all jv=true) (h:iI P f g eh a7 dx t):
  Calls P f vs.toArray E.w fun e w'=> ∃v E',e= .returned v∧E'.w=w'∧tl E bl (cp*a7.length) a7.length dx t v E':=by
 have tL:aD (V2 (E.one bl g a7.length cp)) eh vs:=⟨hs.1▸a3.1,fun i x u hx hu=>by
  have bf:i<args.length:=by have:=(List.getElem?_eq_some_iff.1 hx).1;have:=hs.1;omega
  have aL:=List.getElem?_eq_getElem bf
  rcases hs.2 i _ x aL hx with⟨bB,rfl⟩ | h
  ·have hv:=a3.2 i _ u aL hu
   rw[bB] at hv
   rw[aI u hv]
   exact .inr ⟨rfl,bl,rfl,by rw[Nat.zero_mul]⟩
  ·exact ab2 (E1:=E.one bl g a7.length cp) aR.eS rfl rfl h (a3.2 i _ u aL hu)⟩
 refine(h.2 (E.one bl g a7.length cp) vs (fun _=>rfl) (Z5 aR hC ye hw cQ h1 hk aK) tL).mono ?_
 rintro e w' ⟨r,v,e3,E1,rfl,⟨B,rfl,Bb⟩,rfl,aH,fB,hv,bm⟩
 have hg:E1.bF 0=g:=fB.e4 0 _ rfl
 obtain⟨hm,aP,hc⟩:=bm.le.m 0 (some bl) rfl hg
 have aP:E1.sz 0=a7.length:=aP
 have hc:E1.cp 0=cp:=hc
 obtain⟨blk,Dm,ty2,q1,dL,q2,q3,q4,cH,cV⟩:=fB.heap 0 bl hm
 cases q1
 have wh: ∀c,E1.PF c∨(∃j,j≠0∧E1.m j=some (some c))→E.w.heap.size≤c∧c<E1.w.heap.size:=by
  rintro c (hc | ⟨j,aM,A1⟩)
  ·exact⟨(bm.fD c hc).elim (fun h=>h.elim) id,fB.e0 c (fB.eS c hc)⟩
  ·refine⟨(bm.qu c ⟨j,A1⟩).elim (fun⟨b,hb⟩=> ?_) id,fB.gn c ⟨j,A1⟩⟩
   rw[(uD hb).2] at A1
   exact absurd (fB.hR j 0 bl A1 hm) aM
 have oE: ∀c,c<E.w.heap.size→c≠bl→E1.w.heap[c]?=E.w.heap[c]?:=fun c hc ck=>bm.e7 c hc (fun⟨b,hb⟩=>ck (uD hb).2) (fun⟨t,br⟩=>by cases br)
 have WT: ∀c,E1.PA c→E.PA c∨(E.w.heap.size≤c∧c<E1.w.heap.size):=fun c hc=>(bm.fC c hc).elim .inl fun h=> .inr ⟨h,fB.e0 c hc⟩
 let E':Env:={E with w:=E1.w,PA:=fun c=>E.PA c∨E1.PA c∨(E1.PF c∨ ∃j,j≠0∧E1.m j=some (some c)),PF:=fun c=>E.PF c∨(E1.PF c∨ ∃j,j≠0∧E1.m j=some (some c))}
 let zT:Env:={E1 with m:=fun j=>if j=0 then none else E1.m j,bF:=fun j=>if j=0 then g+1 else E1.bF j}
 have bi: ∀{j:Nat} {x:Option Nat},zT.m j=some x→j≠0∧E1.m j=some x:=fun{j x} h=>by
  have h:(if j=0 then none else E1.m j)=some x:=h
  split at h
  ·cases h
  ·rename_i e;exact⟨e,h⟩
 have yp: ∀{j:Nat},j≠0→zT.bF j=E1.bF j:=fun{j} h=>if_neg h
 have hle:E1.gI zT:=⟨fun _ h=>h,fun _ h=>h,fun _ _=>rfl,fun _ _=>rfl,fun b=>by
   by_cases e:b=0
   ·subst e;show E1.bF 0≤(if 0=0 then g+1 else E1.bF 0);rw[if_pos rfl,hg];omega
   ·rw[yp e];exact Nat.le_refl _,fun b x hx qh=>by
   by_cases e:b=0
   ·subst e
    have qh:(if 0=0 then g+1 else E1.bF 0)=E1.bF 0:=qh
    rw[if_pos rfl,hg] at qh;omega
   ·exact⟨by show(if b=0 then none else E1.m b)=_;rw[if_neg e];exact hx,rfl,rfl⟩,fun _ _ h=>h⟩
 have pf: ∀{j:Nat} (x y:Blk),j≠0→(x::B)[j]?=(y::B)[j]?:=fun{j} x y aM=>by
  cases j with
  | zero=>exact absurd rfl aM
  | succ j=>rfl
 have W5:SimH zT (⟨g+1,a7.length,[dx]⟩::B):=
  {heap:=fun b c hb=>by
    obtain⟨ry,hb⟩:=bi hb
    obtain⟨blk,vA,ty,fj,mZ,fO,fu,uP,aaG,aaH⟩:=fB.heap b c hb
    refine⟨blk,vA,ty,by rw[pf _ ⟨g,a7.length,[dx]⟩ ry];exact fj,mZ,fO,fu,uP,aaG,fun i j row a h1 h2=> ?_⟩
    obtain⟨u,hu,g0⟩:=aaH i j row a h1 h2
    exact⟨u,hu,g0.le hle.b3⟩
   e4:=fun b blk hb=>by
    by_cases e:b=0
    ·subst e;cases hb;rfl
    ·rw[yp e];rw[pf _ ⟨g,a7.length,[dx]⟩ e] at hb;exact fB.e4 b blk hb
   ho:=fun b hb=>by
    obtain⟨ry,hb⟩:=bi hb
    obtain⟨blk,fj,fO⟩:=fB.ho b hb
    exact⟨blk,by rw[pf _ ⟨g,a7.length,[dx]⟩ ry];exact fj,fO⟩
   fresh:=fun b hb=>by
    have hb:B.length+1≤b:=hb
    have:=fB.fresh b hb
    exact⟨by show(if b=0 then none else E1.m b)=none;rw[if_neg (by omega)];exact this.1,by rw[yp (by omega)];exact this.2⟩
   hR:=fun b cj c h1 h2=>fB.hR b cj c (bi h1).2 (bi h2).2
   jB:=fB.jB
   gN:=fun b t c h1 h2=>fB.gN b t c (bi h1).2 h2
   hS:=fun c hc ⟨b,hb⟩=>fB.hS c hc ⟨b,(bi hb).2⟩
   ij:=fB.ij
   eS:=fB.eS
   e0:=fB.e0
   gn:=fun c ⟨b,hb⟩=>fB.gn c ⟨b,(bi hb).2⟩
   g2:=fB.g2}
 refine⟨v,E',rfl,rfl,rfl,rfl,rfl,rfl,rfl,fun c hc=> .inl hc,fun c hc=> .inl hc,fun c hc=>hc.elim (fun h=> .inl (aR.eS c h)) (fun h=> .inr (.inr h)),fun c hc=> ?_,fun c hc=>hc.elim .inl (fun h=> .inr (wh c h).1),
  bm.os,bm.tape,bm.output,bm.size,oE,⟨Dm,ty2,q2,by rw[q3,aP,hc],?_,fun j a aM=> ?_⟩,?_⟩
 ·rcases hc with h | h | h
  ·exact .inl h
  ·exact WT c h
  ·exact .inr (wh c h)
 ·have:=cH 0 dx rfl
  rw[aP] at this;exact this
 ·obtain⟨u,hu,g0⟩:=cV 0 j dx a rfl aM
  refine⟨u,by rw[Nat.zero_mul,Nat.zero_add] at hu;exact hu,?_⟩
  have hb:=List.all_eq_true.1 jy a (List.mem_of_getElem? aM)
  exact(Ad hb g0).mono (fun _ _=>rfl) (fun _ _=>rfl) (fun c hc=> .inr (.inl hc)) (fun c hc=> .inr (.inl hc))
 ·refine ab4 (E':=E') W5 rfl (fun c hc=> ?_) Bb (hv.le hle)
  have:E1.PF c∨ ∃j,j≠0∧E1.m j=some (some c):=hc.elim .inl fun⟨j,aM⟩=> .inr ⟨j,bi aM⟩
  exact⟨.inr (.inr this),.inr this⟩
section
variable {E E':Env} {H:List Blk} {L:List (Nat×List AV)} {bl k n:Nat} {dx:List AV} {t:AV} {v:Value}
theorem tl.step (A:tl E bl k n dx t v E') (aR:SimH E H) (hC:E.gM bl∨E.kB bl):Step E E':=
 {le:=⟨A.fC,A.fD,fun c hc=>A.e7 c (aR.e0 c hc) (fun e=>by subst e;exact hC.elim (aR.hS c hc) (aR.ij c hc)),fun c hc=>A.e7 c (aR.e0 c (aR.eS c hc)) (fun e=>by subst e;exact hC.elim (aR.hS c (aR.eS c hc)) (aR.ij c (aR.eS c hc))),
   fun b=>by rw[A.bF];exact Nat.le_refl _,fun b x hx _=>by rw[A.m,A.sz,A.cp];exact⟨hx,rfl,rfl⟩,fun t c h=>by rw[A.mL];exact h⟩
  os:=A.os,tape:=A.tape,output:=A.output,size:=A.size
  e7:=fun c hc h1 h2=>A.e7 c hc (fun e=>by subst e;exact hC.elim h1 h2)
  ji:=fun b c hb=> .inl (by rw[←A.m];exact hb)
  jA:=fun c ⟨t,br⟩=> .inl ⟨t,by rw[←A.mL];exact br⟩
  fC:=fun c hc=>(A.BU c hc).elim .inl fun h=> .inr h.1
  fD:=A.aae}
theorem tl.simH (A:tl E bl k n dx t v E') (aR:SimH E H) (hC:E.gM bl∨E.kB bl) {H':List Blk} (hlen:H'.length=H.length) (hg: ∀(b:Nat) (x:Blk),H'[b]?=some x→ ∃y,H[b]?=some y∧x.bF=y.bF) (hs: ∀(b:Nat) (y:Blk),H[b]?=some y→ ∃x,H'[b]?=some x∧x.sz=y.sz)
  (hb: ∀b c,E.m b=some (some c)→(c≠bl∧H'[b]?=H[b]?)∨ ∃blk a7 ty,H'[b]?=some blk∧E.sz b=blk.sz∧E'.w.heap[c]?=some (.cells a7 ty (0,0))∧a7.size=E.cp b*E.sz b∧blk.rows.length≤E.cp b∧vm E' (E.sz b) blk.rows a7):SimH E' H':=by
 have bm:=A.step aR hC
 have pv: ∀c,E'.gM c→E.gM c:=fun c ⟨b,hb⟩=>⟨b,by rw[←A.m];exact hb⟩
 have Fb: ∀c,E'.kB c→E.kB c:=fun c ⟨b,hb⟩=>⟨b,by rw[←A.mL];exact hb⟩
 have ke:=aR.gn
 have kf:=aR.g2
 exact{
  heap:=fun b c h=>by
   rw[A.m] at h
   rw[A.sz,A.cp]
   rcases hb b c h with⟨ck,he⟩ | h
   ·obtain⟨blk,a7,ty,q1,dL,q2,q3,q4,cH,cV⟩:=aR.heap b c h
    refine⟨blk,a7,ty,by rw[he];exact q1,dL,by rw[A.e7 c (ke c ⟨b,h⟩) ck];exact q2,q3,q4,cH,fun i j row a h1 h2=> ?_⟩
    obtain⟨u,hu,g0⟩:=cV i j row a h1 h2
    exact⟨u,hu,g0.le bm.le.b3⟩
   ·exact h
  e4:=fun b blk h=>by
   rw[A.bF]
   obtain⟨y,h1,h2⟩:=hg b blk h
   rw[h2];exact aR.e4 b y h1
  ho:=fun b h=>by
   rw[A.m] at h
   obtain⟨y,h1,h2⟩:=aR.ho b h
   obtain⟨x,aN,be⟩:=hs b y h1
   exact⟨x,aN,by rw[A.sz,be];exact h2⟩
  fresh:=fun b h=>by rw[A.m,A.bF];exact aR.fresh b (by rw[←hlen];exact h)
  hR:=fun b cj c h1 h2=>by rw[A.m] at h1 h2;exact aR.hR b cj c h1 h2
  jB:=fun t jI c h1 h2=>by rw[A.mL] at h1 h2;exact aR.jB t jI c h1 h2
  gN:=fun b t c h1 h2=>by rw[A.m] at h1;rw[A.mL] at h2;exact aR.gN b t c h1 h2
  hS:=fun c hc hi=>(A.BU c hc).elim (fun h=>aR.hS c h (pv c hi)) (fun h=>absurd (ke c (pv c hi)) (by omega))
  ij:=fun c hc hi=>(A.BU c hc).elim (fun h=>aR.ij c h (Fb c hi)) (fun h=>absurd (kf c (Fb c hi)) (by omega))
  eS:=A.eS
  e0:=fun c hc=>(A.BU c hc).elim (fun h=>Nat.lt_of_lt_of_le (aR.e0 c h) A.size) (fun h=>h.2)
  gn:=fun c hc=>Nat.lt_of_lt_of_le (ke c (pv c hc)) A.size
  g2:=fun c hc=>Nat.lt_of_lt_of_le (kf c (Fb c hc)) A.size}
theorem tl.row (A:tl E bl k n dx t v E') (hk:dx.all jv=true) {cells:Array Value} {ty:TypeId} (hw:E'.w.heap[bl]?=some (.cells cells ty (0,0))):dx.length=n∧cells.size=k∧ ∀(j:Nat) (a:AV),dx[j]?=some a→ ∃u,cells[j]?=some u∧cC E'.b3 a u:=by
 obtain⟨lL,ty2,q1,q2,q3,q4⟩:=A.new
 rw[hw] at q1
 cases q1
 refine⟨q3,q2,fun j a aM=> ?_⟩
 obtain⟨u,hu,aK⟩:=q4 j a aM
 exact⟨u,hu,bH.v1 (E:=E'.b3) aK⟩
end
theorem Tm {P:Program} {f:FuncId} {vs:List Value} {E:Env} {H:List Blk} {L:List (Nat×List AV)} {args eh a7 dx:List AV} {t:AV} {b g:Nat} (aR:SimH E H) (bY:SimL E L) (hb:H[b]?=some ⟨g,a7.length,[a7]⟩) (hk:a7.all uo=true) (jy:dx.all jv=true)
  (a3:aD (V2 E) args vs) (hm:AV.ptr b g 0 0∈args) (hs:aD (tm (.ptr b g 0 0) (.ptr 0 g 0 0)) args eh) (h:iI P f g eh a7 dx t):
  Calls P f vs.toArray E.w fun e w'=> ∃v E',e= .returned v∧E'.w=w'∧Step E E'∧SimH E' (H.set b ⟨g,a7.length,[dx]⟩)∧SimL E' L∧V3 E' t v∧E'.mL=E.mL:=by
 have kc:=aR.e4 b _ hb
 have kW: ∀v,V2 E (.ptr b g 0 0) v→ ∃bl,E.m b=some (some bl)∧v= .pointer (some ⟨bl,0,none⟩):=fun v hv=>by
  obtain⟨bl,hm,rfl⟩:=V3.B0 (E:=E) (v:=v) (show V3 E (.ptr b g 0 0) v from hv) kc
  exact⟨bl,hm,by rw[Nat.zero_mul]⟩
 obtain⟨i,hi,he⟩:=List.mem_iff_getElem.1 hm
 have fU:i<vs.length:=a3.1▸hi
 have hO:=a3.2 i _ _ (List.getElem?_eq_getElem hi) (List.getElem?_eq_getElem fU)
 rw[he] at hO
 obtain⟨bl,ky,_⟩:=kW _ hO
 obtain⟨blk,cells,ty,q1,dL,q2,q3,q4,cH⟩:=aR.heap b bl ky
 rw[hb] at q1
 cases q1
 have dL:E.sz b=a7.length:=dL
 have hC:bl<E.w.heap.size:=aR.gn bl ⟨b,ky⟩
 refine(JI (bl:=bl) (cp:=E.cp b) aR hC (fun h=>aR.hS bl h ⟨b,ky⟩) q2 (by rw[q3,dL]) q4 hk (fun j a aM=> ?_) a3 (fun v hv=> ?_) hs jy h).mono ?_
 ·obtain⟨u,hu,g0⟩:=cH.2 0 j a7 a rfl aM
  exact⟨u,by rw[Nat.zero_mul,Nat.zero_add] at hu;exact hu,g0.up⟩
 ·obtain⟨S1,h1,rfl⟩:=kW v hv
  rw[ky] at h1;cases h1;rfl
 rintro e w' ⟨v,E',rfl,rfl,A⟩
 have rE:E.gM bl∨E.kB bl:= .inl ⟨b,ky⟩
 have bm:=A.step aR rE
 refine⟨v,E',rfl,rfl,bm,A.simH aR rE (by rw[List.length_set]) (fun j x hx=> ?_) (fun j y bt=> ?_) (fun j c aM=> ?_),fun u c hu=> ?_,A.m5,A.mL⟩
 ·rw[List.getElem?_set] at hx
  split at hx
  ·rename_i e;subst e
   split at hx
   ·cases hx;exact⟨_,hb,rfl⟩
   ·cases hx
  ·exact⟨x,hx,rfl⟩
 ·rw[List.getElem?_set]
  split
  ·rename_i e;subst e
   rw[hb] at bt;cases bt
   rw[if_pos (List.getElem?_eq_some_iff.1 hb).1];exact⟨_,rfl,rfl⟩
  ·exact⟨y,bt,rfl⟩
 ·by_cases e:j=b
  ·subst e
   rw[ky] at aM
   cases aM
   obtain⟨lL,ty2,fj,fO,fu,uP⟩:=A.new
   obtain⟨s1,s2,l2⟩:=A.row jy fj
   refine .inr ⟨⟨g,a7.length,[dx]⟩,lL,ty2,by rw[List.getElem?_set,if_pos rfl,if_pos (List.getElem?_eq_some_iff.1 hb).1],dL,fj,by rw[fO,dL],q4,fun i row aK=> ?_,fun i j row a aK aM=> ?_⟩
   ·cases i with
    | zero=>cases aK;rw[dL];exact s1
    | succ i=>cases aK
   ·cases i with
    | zero=>
     cases aK
     obtain⟨u,hu,g0⟩:=l2 j a aM
     exact⟨u,by rw[Nat.zero_mul,Nat.zero_add];exact hu,g0⟩
    | succ i=>cases aK
  ·refine .inl ⟨fun h=>e ?_,by rw[List.getElem?_set,if_neg (fun h=>e h.symm)]⟩
   subst h;exact aR.hR j b c aM ky
 ·rw[A.mL] at hu
  obtain⟨vA,lL,ty2,fj,fO,fu⟩:=bY u c hu
  exact⟨vA,lL,ty2,fj,by rw[A.e7 c (aR.g2 c ⟨u,hu⟩) (fun e=>by subst e;exact aR.gN b u c ky hu)];exact fO,fu.mono fun _ _ k=>k.le bm.le.b3⟩
theorem Tn {P:Program} {f:FuncId} {vs:List Value} {E:Env} {H:List Blk} {L:List (Nat×List AV)} {args eh a7 dx:List AV} {t:AV} {x:Nat} (aR:SimH E H) (bY:SimL E L) (hx:eK L x=some a7) (hk:a7.all uo=true) (jy:dx.all jv=true)
  (a3:aD (V2 E) args vs) (hm:AV.fx x 0∈args) (hs:aD (tm (.fx x 0) (.ptr 0 0 0 0)) args eh) (h:iI P f 0 eh a7 dx t):
  Calls P f vs.toArray E.w fun e w'=> ∃v E',e= .returned v∧E'.w=w'∧Step E E'∧SimH E' H∧SimL E' (k7 L x dx)∧V3 E' t v∧E'.mL=E.mL:=by
 have kW: ∀v,V2 E (.fx x 0) v→ ∃bl,E.mL x=some bl∧v= .pointer (some ⟨bl,0,none⟩):=fun v hv=>hv
 obtain⟨i,hi,he⟩:=List.mem_iff_getElem.1 hm
 have fU:i<vs.length:=a3.1▸hi
 have hO:=a3.2 i _ _ (List.getElem?_eq_getElem hi) (List.getElem?_eq_getElem fU)
 rw[he] at hO
 obtain⟨bl,ky,_⟩:=kW _ hO
 obtain⟨vA,cells,ty,q1,q2,q3⟩:=bY x bl ky
 rw[hx] at q1
 cases q1
 have hC:bl<E.w.heap.size:=aR.g2 bl ⟨x,ky⟩
 have cQ:cells.size=1*a7.length:=by rw[Nat.one_mul];exact q3.1.symm
 refine(JI (bl:=bl) (cp:=1) aR hC (fun h=>aR.ij bl h ⟨x,ky⟩) q2 cQ (Nat.le_refl _) hk (fun j a aM=> ?_) a3 (fun v hv=> ?_) hs jy h).mono ?_
 ·obtain⟨u,hu,g0⟩:=q3.get aM
  exact⟨u,by rw[Array.getElem?_toList] at hu;exact hu,g0.up⟩
 ·obtain⟨S1,h1,rfl⟩:=kW v hv
  rw[ky] at h1;cases h1;rfl
 rintro e w' ⟨v,E',rfl,rfl,A⟩
 have rE:E.gM bl∨E.kB bl:= .inr ⟨x,ky⟩
 have bm:=A.step aR rE
 refine⟨v,E',rfl,rfl,bm,A.simH aR rE rfl (fun j y bt=>⟨y,bt,rfl⟩) (fun j y bt=>⟨y,bt,rfl⟩) (fun j c aM=> .inl ⟨fun e=>by subst e;exact aR.gN j x c aM ky,rfl⟩),fun u c hu=> ?_,A.m5,A.mL⟩
 rw[A.mL] at hu
 rw[x8]
 by_cases e:u=x
 ·subst e
  rw[ky] at hu
  cases hu
  obtain⟨lL,ty2,fj,fO,fu,uP⟩:=A.new
  obtain⟨s1,s2,l2⟩:=A.row jy fj
  rw[if_pos rfl,hx]
  refine⟨dx,lL,ty2,rfl,fj,by show dx.length=lL.size;rw[s1,s2,Nat.one_mul],fun j a v aM hv=> ?_⟩
  obtain⟨afx,nl,g0⟩:=l2 j a aM
  rw[Array.getElem?_toList,nl] at hv
  cases hv;exact g0
 ·rw[if_neg e]
  obtain⟨nc,lL,ty2,fj,fO,fu⟩:=bY u c hu
  exact⟨nc,lL,ty2,fj,by rw[A.e7 c (aR.g2 c ⟨u,hu⟩) (fun h=>by subst h;exact e (aR.jB u x c hu ky))];exact fO,fu.mono fun _ _ k=>k.le bm.le.b3⟩
def JH (P:Program) (f:FuncId) (args:List AV) (L:List (Nat×List AV)) (H:List Blk) (K:oh Prop):Prop:=
 ∃eh a7 dx t,a7.all uo=true∧dx.all jv=true∧
  ((∃b g,H[b]?=some ⟨g,a7.length,[a7]⟩∧AV.ptr b g 0 0∈args∧aD (tm (.ptr b g 0 0) (.ptr 0 g 0 0)) args eh∧iI P f g eh a7 dx t∧K t L (H.set b ⟨g,a7.length,[dx]⟩))∨
   ∃x,eK L x=some a7∧AV.fx x 0∈args∧aD (tm (.fx x 0) (.ptr 0 0 0 0)) args eh∧iI P f 0 eh a7 dx t∧K t (k7 L x dx) H)
theorem Tl {P:Program} {f:FuncId} {args:List AV} {L:List (Nat×List AV)} {H:List Blk} {E:Env} {vs:List Value} {K:AV→List (Nat×List AV)→List Blk→Prop} (aR:SimH E H) (bY:SimL E L) (a3:aD (V2 E) args vs) (h:JH P f args L H K):
  uC P f=true∧Calls P f vs.toArray E.w fun e w'=> ∃v u L' H' E',e= .returned u∧K v L' H'∧E'.w=w'∧Step E E'∧SimH E' H'∧SimL E' L'∧V3 E' v u∧E'.mL=E.mL:=by
 obtain⟨eh,a7,dx,t,hk,jy,⟨b,g,hb,hm,hs,hf,hK⟩ | ⟨x,hx,hm,hs,hf,hK⟩⟩:=h
 ·refine⟨hf.1,(Tm aR bY hb hk jy a3 hm hs hf).mono ?_⟩
  rintro e w' ⟨v,E',rfl,rfl,h1,h2,aN,be,ci⟩
  exact⟨t,v,L,_,E',rfl,hK,rfl,h1,h2,aN,be,ci⟩
 ·refine⟨hf.1,(Tn aR bY hx hk jy a3 hm hs hf).mono ?_⟩
  rintro e w' ⟨v,E',rfl,rfl,h1,h2,aN,be,ci⟩
  exact⟨t,v,_,H,E',rfl,hK,rfl,h1,h2,aN,be,ci⟩
def Ti (P:Program) (f:FuncId) (args:List AV) (L:List (Nat×List AV)) (H:List Blk) (K:oh Prop):Prop:=
 args.all eQ=true∧ ∃eh,aD (c3 L H) args eh∧dz P f eh [] fun r e3=>wW r=true∧sR e3=true∧K (mq H.length r) L (H++e3.map (k8 H.length))
def Tg (P:Program) (f:FuncId) (args:List AV) (L:List (Nat×List AV)) (H:List Blk) (K:oh Prop):Prop:=
 args.all eQ=true∧args.all jX=true∧dz P f args H fun r H'=>wM r=true∧K r L H'
def lf (P:Program) (f:FuncId) (args:List AV) (L:List (Nat×List AV)) (H:List Blk) (K:oh Prop):Prop:=
 ox P f args L H (fun r=>K r L H)∨Ti P f args L H K∨Tg P f args L H K∨(args.all eQ=true∧JH P f args L H K)
def Kc (P:Program) (c:Call) (bQ:Operand→AV) (L:List (Nat×List AV)) (H:List Blk) (K:oh Prop):Prop:=match c.callee with
 | .builtin .len=>DU P c bQ L H fun r=>K r L H
 | .builtin .append=>(match c.args.toList,c.argTypes.toList with
  | [s,x],[t,t2]=>eQ (bQ s)=true∧eQ (bQ x)=true∧tw P t t2 (bQ s) (bQ x) L H K
  | _,_=>False)
 | .value f=>lM (bQ f) fun g caps=>lf P g (c.args.toList.map bQ++caps) L H K
 | _=>False
def j9 (P:Program) (esc:List Nat) (o:Oper) (bQ:Operand→AV) (L:List (Nat×List AV)) (H:List Blk) (K:oh Prop):Prop:=match o.op with
 | .store t a v=>eR (eQ (bQ v)) (l4 P t (bQ a) (bQ v) L H fun L' H'=>K (.tup []) L' H')
 | .alloc e=>cU (m6 P e) fun z=>uy esc o.dst z L H K
 | .box e x=>eR (eQ (bQ x)) (uy esc o.dst (e8 (bQ x)) L H K)
 | .makeSlice t l c=>wH P t (bQ l) (bQ c) L H K
 | .buildSlice t n ps=>eR (ps.toList.all fun p=>eQ (bQ p.2)) (tC P (tI esc o.dst) (uT esc) t n (ps.toList.map fun p=>(p.1,bQ p.2)) L H K)
 | .call c=>Kc P c bQ L H K
 | _=>sm P o bQ L H fun r=>K r L H
theorem zX {E:Env} {a:AV} {v:Value} (h:eQ a=true) (hv:V3 E a v):V2 E a v:=by
 rwa [ot (wN h)] at hv
theorem Tj {P:Program} {f:FuncId} {args:List AV} {L:List (Nat×List AV)} {H:List Blk} {E:Env} {vs:List Value} {K:AV→List (Nat×List AV)→List Blk→Prop} (aR:SimH E H) (bY:SimL E L)
  (a3:aD (V2 E) args vs) (h:lf P f args L H K):
  uC P f=true∧Calls P f vs.toArray E.w fun e w'=> ∃v u L' H' E',e= .returned u∧K v L' H'∧E'.w=w'∧Step E E'∧SimH E' H'∧SimL E' L'∧V3 E' v u∧E'.mL=E.mL:=by
 rcases h with⟨aH,eh,t,hs,pj,hK⟩ | ⟨aH,eh,hs,pj⟩ | ⟨aH,aL,pj⟩ | ⟨aH,aI⟩
 ·refine⟨pj.1,(JJ (Sub.refl L H) aR bY a3 hs pj).mono ?_⟩
  rintro e w' ⟨v,E',rfl,rfl,ak,hv⟩
  exact⟨t,v,L,H,E',rfl,hK,rfl,ak.step,ak.simH aR,ak.simL aR bY,hv,ak.mL⟩
 ·refine⟨pj.1,(Tk (Q:=fun r e3=>K (mq H.length r) L (H++e3.map (k8 H.length))) aR bY a3 hs pj).mono ?_⟩
  rintro e w' ⟨r,v,e3,E',rfl,hK,rfl,bm,h1,h2,hv,hml⟩
  exact⟨_,v,L,_,E',rfl,hK,rfl,bm,h1,h2,hv,hml⟩
 ·refine⟨pj.1,(Th (Q:=fun r H'=>K r L H') aR bY a3 aL pj).mono ?_⟩
  rintro e w' ⟨r,v,H',E',rfl,hK,rfl,bm,h1,h2,hv,hml⟩
  exact⟨_,v,L,_,E',rfl,hK,rfl,bm,h1,h2,hv,hml⟩
 ·exact Tl aR bY a3 aI
theorem Tf {P:Program} {f:FuncId} {args:List AV} {L:List (Nat×List AV)} {H:List Blk} {K:AV→List (Nat×List AV)→List Blk→Prop} (h:lf P f args L H K):args.all eQ=true:=by
 rcases h with⟨aH,_⟩ | ⟨aH,_⟩ | ⟨aH,_⟩ | ⟨aH,_⟩<;>exact aH
set_option maxHeartbeats 1000000 in
theorem evOp_sound {P:Program} {esc:List Nat} {o:Oper} {a:Act} {T:List AV} {E:Env} {L:List (Nat×List AV)} {H:List Blk} {K:AV→List (Nat×List AV)→List Blk→Prop} {Q:Exit→Act→World→Prop}
  (cq: ∀t,V3 E (T.getD t .undef) (a.tmps.getD t undef)) (aR:SimH E H) (bY:SimL E L) (h:j9 P esc o (cm T) L H K):o.wp P a E.w (CP E o a K) Q:=by
 have fin: ∀{s:Sem Value},(execOp a.eval o=(do pure (Next.value (←s))))→(∃v L' H' E' u,K v L' H'∧s.run P E.w= .ok u E'.w∧Step E E'∧SimH E' H'∧SimL E' L'∧V3 E' v u∧ ∀t,o.dst≠some t→E'.mL t=E.mL t)→o.wp P a E.w (CP E o a K) Q:=by
  rintro s hs ⟨v,L',H',E',u,hK,aK,h1,h2,aN,be,ci⟩
  unfold Oper.wp
  rw[hs]
  exact IU aK ⟨v,u,L',H',E',hK,rfl,h1,h2,aN,be,rfl,ci⟩
 have OK:sm P o (cm T) L H (fun r=>K r L H)→o.wp P a E.w (CP E o a K) Q:=fun h=>
  Oper.wp_mono (fun ia w' ⟨v,u,E',hK,hw,ak,hv,a3⟩=>⟨v,u,L,H,E',hK,hw,ak.step,ak.simH aR,ak.simL aR bY,hv,a3,fun t _=>by rw[ak.mL]⟩) (Kk cq (Sub.refl L H) aR bY h)
 obtain⟨dst,op,ty,pos,after,guard⟩:=o
 cases op with
 | store t x v=>
  obtain⟨aH,h⟩:=pE (show eR (eQ (cm T v)) (l4 P t (cm T x) (cm T v) L H fun L' H'=>K (.tup []) L' H') from h)
  obtain⟨L',H',E',hK,aK,h1,h2,aN,hml⟩:=ad_ aR bY (opv_rel cq x) (zX aH (opv_rel cq v)) h
  unfold Oper.wp
  have:(execOp a.eval ⟨dst,.store t x v,ty,pos,after,guard⟩).run P E.w= .ok .skip E'.w:=by
   simp only[execOp,Sem.run_bind,aK,Sem.run_pure,Result.andThen_ok]
  rw[this]
  exact⟨.tup [],_,L',H',E',hK,rfl,h1,h2,aN,⟨[],rfl,aD.nil⟩,rfl,fun t _=>by rw[hml]⟩
 | alloc e=>
  obtain⟨z,aP,h⟩:=fs (show cU (m6 P e) fun z=>uy esc dst z L H K from h)
  obtain⟨i,v,q1,q2,q3,q4⟩:=vg (E:=E) aP
  obtain⟨r,L',H',E',hK,hw,h1,h2,aN,be,hml⟩:=NP (ty:=e) aR bY q4 h
  refine fin (s:=Instr.alloc e true (.tuple #[])) rfl ⟨r,L',H',E',_,hK,?_,h1,h2,aN,be,hml⟩
  rw[hw]
  simp[Instr.alloc,zeroValue,typeInfo,q1,q2,newVar,newRow]
 | box e x=>
  obtain⟨aH,h⟩:=pE (show eR (eQ (cm T x)) (uy esc dst (e8 (cm T x)) L H K) from h)
  have hs:(e8 (cm T x)).all iX=true:=by
   unfold uy at h;split at h
   ·rename_i q;exact q
   ·exact h.elim
  obtain⟨r,L',H',E',hK,hw,h1,h2,aN,be,hml⟩:=NP (ty:=e) aR bY (Dc (zX aH (opv_rel cq x)) hs) h
  refine fin (s:=Instr.box e (a.eval x)) rfl ⟨r,L',H',E',_,hK,?_,h1,h2,aN,be,hml⟩
  rw[hw]
  simp[Instr.box,newVar,newRow]
 | makeSlice t l c=>
  obtain⟨v,L',H',E',u,hK,aK,h1,h2,aN,be,hml⟩:=ZU aR bY (opv_rel cq l) (opv_rel cq c) (show wH P t (cm T l) (cm T c) L H K from h)
  exact fin (s:=Instr.makeSlice t (a.eval l) (a.eval c)) rfl ⟨v,L',H',E',u,hK,aK,h1,h2,aN,be,fun t _=>by rw[hml]⟩
 | buildSlice t n ps=>
  obtain⟨aH,h⟩:=pE (show eR (ps.toList.all fun p=>eQ (cm T p.2)) (tC P (tI esc dst) (uT esc) t n (ps.toList.map fun p=>(p.1,cm T p.2)) L H K) from h)
  obtain⟨v,u,L',H',E',hK,aK,h1,h2,aN,be,hml⟩:=S3 aR bY (GG cq ps.toList fun p aI=>wN (List.all_eq_true.1 aH p aI)) h
  exact fin (s:=Instr.buildSlice t n (ps.toList.map fun p=>(p.1,a.eval p.2)).toArray) (by rw[parts_eq];rfl) ⟨v,L',H',E',u,hK,aK,h1,h2,aN,be,fun t _=>by rw[hml]⟩
 | call c=>
  have h:Kc P c (cm T) L H K:=h
  obtain⟨callee,args,argTypes⟩:=c
  cases callee with
  | builtin b=>
   cases b with
   | len=>exact OK h
   | append=>
    have h:(match args.toList,argTypes.toList with
     | [s,x],[t,t2]=>eQ (cm T s)=true∧eQ (cm T x)=true∧tw P t t2 (cm T s) (cm T x) L H K
     | _,_=>False):=h
    split at h
    ·rename_i s x t t2 h1 h2
     obtain rfl:args= #[s,x]:=by rw[←Array.toArray_toList (xs:=args),h1]
     obtain rfl:argTypes= #[t,t2]:=by rw[←Array.toArray_toList (xs:=argTypes),h2]
     obtain⟨oa,n2,h⟩:=h
     obtain⟨r,u,H',E',hK,aK,q1,q2,q3,q4,hml⟩:=SL (ty:=ty) aR bY (zX oa (opv_rel cq s)) (zX n2 (opv_rel cq x)) h
     unfold Oper.wp
     have:(execOp a.eval ⟨dst,.call ⟨.builtin .append,#[s,x],#[t,t2]⟩,ty,pos,after,guard⟩).run P E.w= .ok (.value u) E'.w:=by
      simp only[execOp,resolve,Sem.run_bind,Sem.run_pure,Result.andThen_ok,invoke,builtin]
      have e:Array.map a.eval #[s,x]= #[a.eval s,a.eval x]:=by simp
      rw[e,aK];rfl
     rw[this]
     exact⟨r,u,L,H',E',hK,rfl,q1,q2,q3,q4,rfl,fun t _=>by rw[hml]⟩
    ·exact h.elim
   | _=>exact h.elim
  | value f=>
   have h:lM (cm T f) fun g caps=>lf P g (args.toList.map (cm T)++caps) L H K:=h
   cases hf:cm T f with
   | fn g caps=>
    rw[hf] at h
    have h:lf P g (args.toList.map (cm T)++caps) L H K:=h
    have aH:=Tf h
    obtain⟨vs,he,tQ⟩:=JK cq hf
    have Es:aD (V2 E) (args.toList.map (cm T)++caps) (args.toList.map a.eval++vs):=
     aD.append (Jm cq args.toList fun x hx=>wN (List.all_eq_true.1 aH _ (by simp;exact .inl ⟨x,by simpa using hx,rfl⟩))) tQ
    obtain⟨fg,hc⟩:=Tj aR bY Es h
    unfold Oper.wp
    rw[show execOp a.eval ⟨dst,.call ⟨.value f,args,argTypes⟩,ty,pos,after,guard⟩=(do let d ←resolve a.eval ⟨.value f,args,argTypes⟩ ty;invoke d.target d.args) from rfl]
    rw[O3 (P:=P) (ty:=ty) (w:=E.w) (c:=⟨.value f,args,argTypes⟩) rfl he fg]
    refine hc.mono ?_
    rintro e w' ⟨v,u,L',H',E',rfl,hK,rfl,q1,q2,q3,q4,hml⟩
    exact⟨v,u,L',H',E',hK,rfl,q1,q2,q3,q4,rfl,fun t _=>by rw[hml]⟩
   | _=>rw[hf] at h;exact h.elim
  | _=>exact h.elim
 | _=>exact OK h
def o7 (lit:Bool) (b:Bool) (x y:Prop):Prop:=match lit with
 | true=>(match b with
  | true=>x
  | false=>y)
 | false=>xP b x y
theorem Ac {lit b:Bool} {x y:Prop} (h:o7 lit b x y):(b=true→x)∧(b=false→y):=by
 cases lit with
 | false=>exact h
 | true=>cases b<;>exact⟨fun e=>by cases e<;>exact h,fun e=>by cases e<;>exact h⟩
def putA (T:List AV) (dst:Option Nat) (v:AV):List AV:=match dst with
 | some d=>T.set d v
 | none=>T
def nS (ops:Array Oper) (lit:Bool) (o:Oper) (T:List AV) (x y:List AV→Prop):Prop:=match o.guard with
 | none=>x T
 | some (j,cy)=>match(ops[j]?).bind (·.dst) with
  | none=>False
  | some t=>match T.getD t .undef with
   | .bool b=>o7 lit b (if cy=true then x (T.set t (.bool true)) else y (T.set t (.bool true))) (if cy=true then y (T.set t (.bool false)) else x (T.set t (.bool false)))
   | .tup []=>y T
   | _=>False
def uK (lit:Bool) (o:Oper) (T:List AV) (K:AV→Prop) (As:Prop):Prop:=match o.op with
 | .pick c x y=>ov (cm T c) fun z=>o7 lit z (K (cm T x)) (K (cm T y))
 | _=>As
def evOps (P:Program) (esc:List Nat) (ops:Array Oper):List (Oper×Bool)→List AV→List (Nat×List AV)→List Blk→(List AV→List (Nat×List AV)→List Blk→Prop)→Prop
 | [],T,L,H,K=>K T L H
 | (o,lit)::rest,T,L,H,K=>nS ops lit o T
   (fun T=>uK lit o T (fun v=>evOps P esc ops rest (putA T o.dst v) L H K) (j9 P esc o (cm T) L H fun v L' H'=>evOps P esc ops rest (putA T o.dst v) L' H' K))
   (fun T=>evOps P esc ops rest (putA T o.dst (.tup [])) L H K)
theorem rr {T:List AV} {d t:Nat} {v:AV}:(T.set d v).getD t .undef=if d=t∧d<T.length then v else T.getD t .undef:=by
 rw[List.getD_eq_getElem?_getD,List.getD_eq_getElem?_getD,List.getElem?_set]
 by_cases h:d=t
 ·subst h
  by_cases aL:d<T.length
  ·simp[aL]
  ·simp[aL]
 ·simp[h]
theorem PI {E:Env} {T:List AV} {a:Act} (cq: ∀t,V3 E (T.getD t .undef) (a.tmps.getD t undef)) (hs:T.length=a.tmps.size) {dst:Option Nat} {v:AV} {u:Value} (hv:V3 E v u):
  (∀t,V3 E ((putA T dst v).getD t .undef) ((a.put dst u).tmps.getD t undef))∧(putA T dst v).length=(a.put dst u).tmps.size:=by
 cases dst with
 | none=>exact⟨cq,hs⟩
 | some d=>
  refine⟨fun t=> ?_,by simp[putA,Act.put,hs]⟩
  show V3 E ((T.set d v).getD t .undef) ((a.tmps.setIfInBounds d u).getD t undef)
  rw[rr,Array.getD_eq_getD_getElem?,Array.getElem?_setIfInBounds]
  by_cases h:d=t
  ·subst h
   by_cases aL:d<T.length
   ·have qj:d<a.tmps.size:=hs▸aL
    simp[aL,qj];exact hv
   ·have qj: ¬d<a.tmps.size:=hs▸aL
    have:=cq d
    rw[Array.getD_eq_getD_getElem?] at this
    simp[aL,qj] at this ⊢
    exact this
  ·have:=cq t
   rw[Array.getD_eq_getD_getElem?] at this
   simp[h];exact this
theorem abZ {E:Env} {T:List AV} {a:Act} (cq: ∀t,V3 E (T.getD t .undef) (a.tmps.getD t undef)) {t:Nat} {b:Bool} (h:T.getD t .undef= .bool b):
  ∀s,V3 E ((T.set t (.bool b)).getD s .undef) (a.tmps.getD s undef):=fun s=>by
 rw[rr]
 by_cases hs:t=s∧t<T.length
 ·rw[if_pos hs,←h,hs.1];exact cq s
 ·rw[if_neg hs];exact cq s
theorem aeO {ops:Array Oper} {a:Act} {T:List AV} {E:Env} (cq: ∀t,V3 E (T.getD t .undef) (a.tmps.getD t undef)) {j t:Nat} {b:Bool} (aM:(ops[j]?).bind (·.dst)=some t) (h:T.getD t .undef= .bool b) (hs:T.length=a.tmps.size):
  yielded ops a.tmps j=some b:=by
 have hv:=cq t
 rw[h] at hv
 have he:a.tmps.getD t undef= .bool b:=V3.re hv
 unfold yielded
 rw[aM]
 rw[Array.getD_eq_getD_getElem?] at he
 cases ak:a.tmps[t]? with
 | none=>rw[ak] at he;cases he
 | some x=>rw[ak] at he;have:x= .bool b:=he;subst this;simp[ak]
theorem aeP {ops:Array Oper} {a:Act} {T:List AV} {E:Env} (cq: ∀t,V3 E (T.getD t .undef) (a.tmps.getD t undef)) {j t:Nat} (aM:(ops[j]?).bind (·.dst)=some t) (h:T.getD t .undef= .tup []):
  yielded ops a.tmps j=none:=by
 have hv:=cq t
 rw[h] at hv
 obtain⟨vs,he,aI⟩:=(show ∃vs:List Value,a.tmps.getD t undef= .tuple vs.toArray∧aD (V2 E) [] vs from hv)
 obtain rfl:=aI.wK
 unfold yielded
 rw[aM]
 rw[Array.getD_eq_getD_getElem?] at he
 cases ak:a.tmps[t]? with
 | none=>simp[ak]
 | some x=>rw[ak] at he;have:x= .tuple #[]:=he;subst this;simp[ak]
theorem Vn {P:Program} {ops:Array Oper} {lit:Bool} {o:Oper} {a:Act} {T:List AV} {E:Env} {w:World} {x y:List AV→Prop} {R:Prop}
  (cq: ∀t,V3 E (T.getD t .undef) (a.tmps.getD t undef)) (hs:T.length=a.tmps.size) (h:nS ops lit o T x y)
  (q8: ∀T',Region.wanted o (yielded ops a.tmps)=true→(∀t,V3 E (T'.getD t .undef) (a.tmps.getD t undef))→T'.length=a.tmps.size→x T'→R)
  (no: ∀T',Region.wanted o (yielded ops a.tmps)=false→(∀t,V3 E (T'.getD t .undef) (a.tmps.getD t undef))→T'.length=a.tmps.size→y T'→R):R:=by
 unfold nS at h
 cases hg:o.guard with
 | none=>rw[hg] at h;exact q8 T (by simp[Region.wanted,hg]) cq hs h
 | some g=>
  obtain⟨j,cy⟩:=g
  rw[hg] at h
  simp only at h
  cases aM:(ops[j]?).bind (·.dst) with
  | none=>rw[aM] at h;exact h.elim
  | some t=>
   rw[aM] at h
   simp only at h
   split at h
   ·rename_i b hb
    have bt:=aeO (ops:=ops) cq aM hb hs
    have hk:=abZ cq hb
    obtain⟨h1,h2⟩:=Ac h
    cases b with
    | true=>
     have h:=h1 rfl
     cases cy with
     | true=>exact q8 _ (by simp[Region.wanted,hg,bt]) hk (by simpa using hs) h
     | false=>exact no _ (by simp[Region.wanted,hg,bt]) hk (by simpa using hs) h
    | false=>
     have h:=h2 rfl
     cases cy with
     | true=>exact no _ (by simp[Region.wanted,hg,bt]) hk (by simpa using hs) h
     | false=>exact q8 _ (by simp[Region.wanted,hg,bt]) hk (by simpa using hs) h
   ·rename_i hb
    have bt:=aeP (ops:=ops) cq aM hb
    exact no T (by simp[Region.wanted,hg,bt]) cq hs h
   ·exact h.elim
theorem Ay [cB] {P:Program} {esc:List Nat} {ops:Array Oper} {Q:Exit→St→Prop} {cs:Env}: ∀(l:List (Oper×Bool)) (T:List AV) (L:List (Nat×List AV)) (H:List Blk) (E:Env) (a:Act),
  Good cs E→tt E ⟨T,L,H⟩ a.tmps→a.defers=[]→evOps P esc ops l T L H (fun T L H=>Q .normal ⟨T,L,H⟩)→wpList P ops (na cs Q) (l.map (·.1)) a E.w
 | [],T,L,H,E,a,hg,hs,bi,h=>⟨rfl,⟨T,L,H⟩,E,h,rfl,hg,hs,bi⟩
 | (o,lit)::rest,T,L,H,E,a,hg,hs,bi,h=>by
  have cq: ∀t,V3 E (T.getD t .undef) (a.tmps.getD t undef):=hs.iq
  show if Region.wanted o (yielded ops a.tmps) then o.wp P a E.w (wpList P ops (na cs Q) (rest.map (·.1))) (na cs Q)∨_ else wpList P ops (na cs Q) (rest.map (·.1)) (a.put o.dst undef) E.w
  refine Vn (P:=P) (w:=E.w) cq hs.size h (fun T' hw hT' lV h'=> ?_) (fun T' hw hT' lV h'=> ?_)
  ·rw[if_pos hw]
   refine .inl ?_
   have next: ∀(v:AV) (u:Value) (L':List (Nat×List AV)) (H':List Blk) (E':Env),Step E E'→SimH E' H'→SimL E' L'→V3 E' v u→evOps P esc ops rest (putA T' o.dst v) L' H' (fun T L H=>Q .normal ⟨T,L,H⟩)→
     wpList P ops (na cs Q) (rest.map (·.1)) (a.put o.dst u) E'.w:=fun v u L' H' E' q1 q2 q3 q4 hK=>by
    obtain⟨fj,fO⟩:=PI (fun t=>(hT' t).le q1.le) lV (dst:=o.dst) q4
    refine Ay rest _ _ _ E' (a.put o.dst u) (hg.step q1) ⟨q2,q3,fj,fO⟩ ?_ hK
    cases o.dst<;>exact bi
   have bF:(j9 P esc o (cm T') L H fun v L' H'=>evOps P esc ops rest (putA T' o.dst v) L' H' (fun T L H=>Q .normal ⟨T,L,H⟩))→o.wp P a E.w (wpList P ops (na cs Q) (rest.map (·.1))) (na cs Q):=fun h'=>
    Oper.wp_mono (fun ia w' ⟨v,u,L',H',E',hK,eN,q1,q2,q3,q4,a3,_⟩=>by
     subst a3;subst eN
     exact next v u L' H' E' q1 q2 q3 q4 hK) (evOp_sound hT' hs.h hs.l h')
   unfold uK at h'
   split at h'
   ·rename_i c x y fL
    obtain⟨b,hb,bX⟩:=z4 h'
    obtain⟨h1,h2⟩:=Ac bX
    have hv:=opv_rel hT' c
    rw[hb] at hv
    have he:a.eval c= .bool b:=V3.re hv
    unfold Oper.wp
    have hx: ∀z,(z=if b=true then a.eval x else a.eval y)→(execOp a.eval o).run P E.w= .ok (.value z) E.w:=fun z aP=>by
     subst aP
     simp only[execOp,fL,he,asBool,Sem.run_bind,Sem.run_pure,Result.andThen_ok]
    cases b with
    | true=>rw[hx (a.eval x) rfl];exact next _ _ L H E (Step.refl E) hs.h hs.l (opv_rel hT' x) (h1 rfl)
    | false=>rw[hx (a.eval y) rfl];exact next _ _ L H E (Step.refl E) hs.h hs.l (opv_rel hT' y) (h2 rfl)
   ·exact bF h'
  ·rw[hw]
   show wpList P ops (na cs Q) (rest.map (·.1)) (a.put o.dst undef) E.w
   obtain⟨fj,fO⟩:=PI (a:=a) hT' lV (dst:=o.dst) (v:= .tup []) (u:=undef) ⟨[],rfl,aD.nil⟩
   refine Ay rest (putA T' o.dst (.tup [])) L H E (a.put o.dst undef) hg ⟨hs.h,hs.l,fj,fO⟩ ?_ h'
   cases o.dst<;>exact bi
def lits (ops:Array Oper) (rS:List Nat):List (Oper×Bool):=ops.toList.zipIdx.map fun p=>(p.1,rS.contains p.2)
theorem ZB (ops:Array Oper) (rS:List Nat):(lits ops rS).map (·.1)=ops.toList:=by
 unfold lits
 rw[List.map_map]
 apply List.ext_getElem?
 intro i
 simp only[List.getElem?_map,List.getElem?_zipIdx]
 cases ops.toList[i]?<;>rfl
theorem WpS.region [cB] {P:Program} {esc:List Nat} {rS:List Nat} {id:Nat} {ops:Array Oper} {Q:Exit→St→Prop} {aJ:St} (h:evOps P esc ops (lits ops rS) aJ.T aJ.L aJ.H (fun T L H=>Q .normal ⟨T,L,H⟩)):WpS P (.region id ops false) Q aJ:=fun cs E a g s d=>by
 refine wp_region_list ?_
 have:=Ay (lits ops rS) aJ.T aJ.L aJ.H E a g s d h
 rwa [ZB] at this
def uw (de:List Nat):AV→Bool
 | .fx t _=> !de.contains t
 | _=>true
def sL (de:List Nat):AV→Bool
 | .fn _ caps=>caps.all (uw de)
 | a=>uw de a
def sM (de:List Nat):AV→Bool
 | .agg l=>l.all (sL de)
 | a=>sL de a
def oL (de:List Nat):AV→Bool
 | .tup l=>l.all (sM de)
 | a=>sM de a
def Env.drop (E:Env) (de:List Nat):Env:={E with mL:=fun t=>if de.contains t=true then none else E.mL t}
section
variable {E:Env} {de:List Nat}
theorem fl.drop {a:AV} {v:Value} (h:uw de a=true) (hv:fl E a v):fl (E.drop de) a v:=by
 cases a with
 | fx t c=>
  obtain⟨bl,hm,e⟩:=hv
  have:de.contains t=false:=by simpa[uw] using h
  exact⟨bl,by show(if de.contains t=true then none else E.mL t)=_;rw[if_neg (by rw[this];simp)];exact hm,e⟩
 | _=>exact hv
theorem cC.drop {a:AV} {v:Value} (h:sL de a=true) (hv:cC E a v):cC (E.drop de) a v:=by
 by_cases hf: ∃f caps,a= .fn f caps
 ·obtain⟨f,caps,rfl⟩:=hf
  obtain⟨vs,e,aI⟩:=hv
  exact⟨vs,e,aI.1,fun i x y hx bt=>(aI.2 i x y hx bt).drop (List.all_eq_true.1 (show caps.all (uw de)=true from h) x (List.mem_of_getElem? hx))⟩
 ·have aT:sL de a=uw de a:=by cases a<;>first | rfl | exact absurd ⟨_,_,rfl⟩ hf
  rw[ra fun f c e=>hf ⟨f,c,e⟩] at hv ⊢
  exact hv.drop (aT▸h)
theorem V2.drop {a:AV} {v:Value} (h:sM de a=true) (hv:V2 E a v):V2 (E.drop de) a v:=by
 by_cases hf: ∃l,a= .agg l
 ·obtain⟨l,rfl⟩:=hf
  obtain⟨vs,e,aI⟩:=hv
  exact⟨vs,e,aI.1,fun i x y hx bt=>(aI.2 i x y hx bt).drop (List.all_eq_true.1 (show l.all (sL de)=true from h) x (List.mem_of_getElem? hx))⟩
 ·have aT:sM de a=sL de a:=by cases a<;>first | rfl | exact absurd ⟨_,rfl⟩ hf
  rw[o4 fun l e=>hf ⟨l,e⟩] at hv ⊢
  exact hv.drop (aT▸h)
theorem V3.drop {a:AV} {v:Value} (h:oL de a=true) (hv:V3 E a v):V3 (E.drop de) a v:=by
 by_cases hf: ∃l,a= .tup l
 ·obtain⟨l,rfl⟩:=hf
  obtain⟨vs,e,aI⟩:=hv
  exact⟨vs,e,aI.1,fun i x y hx bt=>(aI.2 i x y hx bt).drop (List.all_eq_true.1 (show l.all (sM de)=true from h) x (List.mem_of_getElem? hx))⟩
 ·have aT:oL de a=sM de a:=by cases a<;>first | rfl | exact absurd ⟨_,rfl⟩ hf
  rw[ot fun l e=>hf ⟨l,e⟩] at hv ⊢
  exact hv.drop (aT▸h)
end
def nO (de:List Nat) (L:List (Nat×List AV)):List (Nat×List AV):=match L with
 | []=>[]
 | (k,c)::L=>match de.contains k with
  | true=>nO de L
  | false=>(k,c)::nO de L
theorem Am {de:List Nat}: ∀(L:List (Nat×List AV)) (t:Nat),de.contains t=false→eK (nO de L) t=eK L t
 | [],t,h=>rfl
 | (k,c)::L,t,h=>by
  unfold nO
  split
  ·rename_i hk
   have:t≠k:=fun e=>by subst e;rw[h] at hk;cases hk
   rw[Am L t h];simp[eK,this]
  ·simp only[eK];rw[Am L t h]
theorem Weak.nO [cB] (de:List Nat) {T:List AV} {L:List (Nat×List AV)} {H:List Blk} (h:T.all (oL de)=true):Weak ⟨T,L,H⟩ ⟨T,nO de L,H⟩:=fun cs E tmps g s=>by
 have hm: ∀t c,(E.drop de).mL t=some c→de.contains t=false∧E.mL t=some c:=by
  intro t c hc
  have hc:(if de.contains t=true then none else E.mL t)=some c:=hc
  split at hc
  ·cases hc
  ·rename_i q;exact⟨by simpa using q,hc⟩
 have hi: ∀c,(E.drop de).kB c→E.kB c:=fun c ⟨t,br⟩=>⟨t,(hm t c br).2⟩
 have hq:SimH E H:=s.h
 refine⟨E.drop de,rfl,?_,?_,?_,fun t=> ?_,s.size⟩
 ·exact{g with
   le:={g.le with mL:=fun t c hc=>by rw[g.b3 t] at hc;cases hc}
   jA:=fun c hc=>g.jA c (hi c hc)}
 ·exact{hq with
   heap:=hq.heap
   jB:=fun t jI c h1 h2=>hq.jB t jI c (hm t c h1).2 (hm jI c h2).2
   gN:=fun b t c h1 h2=>hq.gN b t c h1 (hm t c h2).2
   ij:=fun c hc hx=>hq.ij c hc (hi c hx)
   g2:=fun c hx=>hq.g2 c (hi c hx)}
 ·intro t c hc
  obtain⟨h1,h2⟩:=hm t c hc
  obtain⟨cells,a7,ty,q1,q2,q3⟩:=s.l t c h2
  exact⟨cells,a7,ty,by show eK (Fw.nO de L) t=_;rw[Am L t h1];exact q1,q2,q3⟩
 ·show V3 (E.drop de) (T.getD t .undef) _
  refine(s.iq t).drop ?_
  show oL de (T.getD t .undef)=true
  rw[List.getD_eq_getElem?_getD]
  cases ak:T[t]? with
  | none=>rfl
  | some a=>exact List.all_eq_true.1 h a (List.mem_of_getElem? ak)
def rN:AV→Bool
 | .bC [] true _=>true
 | _=>false
theorem T_ {E:Env} {a:AV} {v:Value} (h:rN a=true) (hv:fl E a v): ∃A,v= .slice A 0 0:=by
 have key: ∀rows full fr,a= .bC rows full fr→rows=[]→full=true→ ∃A,v= .slice A 0 0:=by
  intro rows full fr e aK hf
  subst e
  have hv:bH E.w E.PA E.PF (.bC rows full fr) v:=hv
  cases hv with
  | @bC _ _ PB _ _ _ A cap sz vs f_ gK hl cQ e9 dS=>
   refine⟨A,?_⟩
   rw[hl hf,aK];rfl
 unfold rN at h
 split at h
 ·exact key _ _ _ rfl rfl rfl
 ·cases h
theorem DJ {E E':Env} {a:AV} {v:Value} {b:Nat} (h:rN a=true) (hv:cC E a v) (hg:E'.bF b=0) (hm:E'.m b=some none):cC E' (.ref b 0 0 0 false) v:=by
 have hO:fl E a v:=by
  rwa [ra] at hv
  rintro f c rfl;cases h
 obtain⟨A,rfl⟩:=T_ h hO
 exact .inr ⟨hg.symm,.inl ⟨hm,rfl,rfl,A,rfl⟩⟩
theorem Weak.SD [cB] (i sz:Nat) {T:List AV} {L:List (Nat×List AV)} {H:List Blk} (h:rN (T.getD i .undef)=true):Weak ⟨T,L,H⟩ ⟨T.set i (.ref H.length 0 0 0 false),L,H++[⟨0,sz,[]⟩]⟩:=fun cs E tmps g s=>by
 obtain⟨E',hw,bm,h1,h2,aN,be,_⟩:=BG (blk:=⟨0,sz,[]⟩) s.h s.l rfl rfl
 refine⟨E',hw,g.step bm,h1,h2,fun t=> ?_,by simpa using s.size⟩
 show V3 E' ((T.set i _).getD t .undef) _
 rw[rr]
 split
 ·rename_i ak
  obtain⟨rfl,_⟩:=ak
  have hv:=s.iq i
  have kY:cC E (T.getD i .undef) (tmps.getD i undef):=by
   have hv:V3 E (T.getD i .undef) (tmps.getD i undef):=hv
   rw[ot,o4] at hv
   ·exact hv
   ·intro l e;rw[e] at h;cases h
   ·intro l e;rw[e] at h;cases h
  exact pW (pV (DJ h kY aN be))
 ·exact(s.iq t).le bm.le
theorem Weak.tu [cB] (t i sz:Nat) {T:List AV} {L:List (Nat×List AV)} {H:List Blk} {cells:List AV} (hc:eK L t=some cells) (h:rN (cells.getD i .undef)=true):
  Weak ⟨T,L,H⟩ ⟨T,k7 L t (cells.set i (.ref H.length 0 0 0 false)),H++[⟨0,sz,[]⟩]⟩:=fun cs E tmps g s=>by
 obtain⟨E',hw,bm,h1,h2,aN,be,ci,cK⟩:=BG (blk:=⟨0,sz,[]⟩) s.h s.l rfl rfl
 refine⟨E',hw,g.step bm,h1,?_,fun t=>(s.iq t).le bm.le,s.size⟩
 intro u c hm
 obtain⟨gV,a7,ty,q1,q2,q3⟩:=h2 u c hm
 show ∃Da a7 ty,eK (k7 L t _) u=some Da∧_
 rw[x8]
 by_cases hu:u=t
 ·subst hu
  rw[if_pos rfl]
  have za:eK L u=some gV:=q1
  rw[hc] at za
  cases za
  refine⟨_,a7,ty,by rw[hc];rfl,q2,by simpa using q3.1,fun j x v hx hv=> ?_⟩
  rw[List.getElem?_set] at hx
  split at hx
  ·rename_i nh
   subst nh
   split at hx
   ·rename_i bf
    cases hx
    have hg:=List.getElem?_eq_getElem bf
    have:cells.getD i .undef=cells[i]:=by rw[List.getD_eq_getElem?_getD,hg];rfl
    have kY:=q3.2 i _ v hg hv
    rw[this] at h
    exact DJ (E:=E'.b3) h kY aN be
   ·cases hx
  ·exact q3.2 j x v hx hv
 ·rw[if_neg hu]
  exact⟨gV,a7,ty,q1,q2,q3⟩
structure ct where
 sw:Int
 bn:Int
 deriving Inhabited,DecidableEq
structure Way where
 ah:List Int
 a2:List ct
 bA:List ct
 cG:List Int
 cD:List Int
 deriving Inhabited,DecidableEq
structure aA where
 ah:Int
 bd:List Int
 O:List Way
 bU:List (List Bool)
 dl:Int
 deriving Inhabited,DecidableEq
structure Event where
 op:Int
 ai:Int
 bn:Int
 deriving Inhabited,DecidableEq
structure bc where
 cy:Int
 a2:Int
 deriving Inhabited,DecidableEq
structure ae where
 ar:Int
 af:Int
 ac:List Bool
 ao:Bool
 ap:Int
 deriving Inhabited,DecidableEq
structure Frame where
 ok:Bool
 aw:List Bool
 au:List bc
 O:List ae
 deriving Inhabited,DecidableEq
structure fA where
 code:Int
 frame:Frame
 deriving Inhabited,DecidableEq
structure ja where
 code:Int
 pos:Int
 deriving Inhabited,DecidableEq
structure nb where
 O:List Int
 ah:List Int
 au:List Int
 deriving Inhabited,DecidableEq
structure a_ where
 code:List UInt8
 pos:Int
 tb:Int
 deriving Inhabited
def c0 (n:Int):List AV:=[.int .i64 n]
def p9 (n:UInt8):List AV:=[.int .u8 n.toNat]
def aX (b:Bool):List AV:=[.bool b]
def DI (s:ByteArray):List AV:=[.str s]
def iN {α:Type} (e:α→List AV) (fr:Bool) (xs:List α):List AV:=[.bC (xs.map e) false fr]
def dd (x:ct):List AV:=[.int .i64 x.sw,.int .i64 x.bn]
def dk (fr:Bool) (x:Way):List AV:=[.bC (x.ah.map c0) false fr,.bC (x.a2.map dd) false fr,.bC (x.bA.map dd) false fr,.bC (x.cG.map c0) false fr,.bC (x.cD.map c0) false fr]
def bg (fr:Bool) (x:aA):List AV:=[.int .i64 x.ah,.bC (x.bd.map c0) false fr,.bC (x.O.map (dk false)) false fr,.bC (x.bU.map (iN aX false)) false fr,.int .i64 x.dl]
def je (x:Event):List AV:=[.int .i64 x.op,.int .i64 x.ai,.int .i64 x.bn]
def a5 (x:bc):List AV:=[.int .i64 x.cy,.int .i64 x.a2]
def dD (fr:Bool) (x:ae):List AV:=[.int .i64 x.ar,.int .i64 x.af,.bC (x.ac.map aX) false fr,.bool x.ao,.int .i64 x.ap]
def bW (fr:Bool) (x:Frame):List AV:=[.bool x.ok,.bC (x.aw.map aX) false fr,.bC (x.au.map a5) false fr,.bC (x.O.map (dD false)) false fr]
def sk (fr:Bool) (x:fA):List AV:=[.int .i64 x.code,.bool x.frame.ok,.bC (x.frame.aw.map aX) false fr,.bC (x.frame.au.map a5) false fr,.bC (x.frame.O.map (dD false)) false fr]
def DF (x:ja):List AV:=[.int .i64 x.code,.int .i64 x.pos]
def T7 (fr:Bool) (x:a_):List AV:=[.bC (x.code.map p9) false fr,.int .i64 x.pos,.int .u64 x.tb]
def DH (fr:Bool) (x:nb):List AV:=[.bC (x.O.map c0) false fr,.bC (x.ah.map c0) false fr,.bC (x.au.map c0) false fr]
def nth {α:Type} [Inhabited α] (xs:List α) (i:Int):α:=xs.getD i.toNat default
theorem gO {α:Type} [Inhabited α] {xs:List α} {i:Int} (h:i.toNat<xs.length):xs[i.toNat]?=some (nth xs i):=by
 unfold nth
 rw[List.getD_eq_getElem?_getD,List.getElem?_eq_getElem h];rfl
def sO:Code→List Nat→Code
 | c,[]=>c
 | .seq x y,n::p=>match n with
  | 0=>sO x p
  | _=>sO y p
 | .cond _ x y,n::p=>match n with
  | 0=>sO x p
  | _=>sO y p
 | .block _ x,_::p=>sO x p
 | .loop x,_::p=>sO x p
 | .scope x,_::p=>sO x p
 | c,_=>c
def iw (f:Func):Code:=f.body.getD .skip
section
variable {P:Program} {esc:List Nat} {ops:Array Oper} {l fh:List (Oper×Bool)} {T T':List AV} {L L':List (Nat×List AV)} {H H':List Blk} {K:List AV→List (Nat×List AV)→List Blk→Prop}
end
theorem WpS.seq' [cB] {P:Program} {c x y:Code} {Q:Exit→St→Prop} {aJ:St} (e:c= .seq x y) (h:WpS P x (dR P y Q) aJ):WpS P c Q aJ:=e▸WpS.seq h
theorem WpS.TA [cB] {P:Program} {c x y:Code} {o:Operand} {Q:Exit→St→Prop} {aJ:St} {b:Bool} (e:c= .cond o x y) (hb:cm aJ.T o= .bool b) (h1:b=true→WpS P x Q aJ) (h2:b=false→WpS P y Q aJ):WpS P c Q aJ:=
 e▸WpS.cond (by rw[hb];exact⟨h1,h2⟩)
theorem WpS.JA [cB] {P:Program} {c x:Code} {id:Nat} {Q:Exit→St→Prop} {aJ:St} (e:c= .block id x) (h:WpS P x (ch id Q) aJ):WpS P c Q aJ:=e▸WpS.block h
theorem WpS.abn [cB] {P:Program} {c:Code} {Q:Exit→St→Prop} {aJ:St} (e:c= .skip) (h:Q .normal aJ):WpS P c Q aJ:=e▸WpS.skip h
theorem WpS.aaW [cB] {P:Program} {c:Code} {Q:Exit→St→Prop} {aJ:St} (e:c= .ret) (h:Q .ret aJ):WpS P c Q aJ:=e▸WpS.ret h
theorem WpS.Um [cB] {P:Program} {c:Code} {id:Nat} {Q:Exit→St→Prop} {aJ:St} (e:c= .exit id) (h:Q (.exit id) aJ):WpS P c Q aJ:=e▸WpS.exit h
theorem WpS.ZH [cB] {P:Program} {c x:Code} {Q:Exit→St→Prop} {aJ:St} {V:Type} (S:V→St) (I:V→Prop) (m:V→Nat) (e:c= .loop x) (h0:V) (hs:Weak aJ (S h0)) (aT:I h0)
  (round: ∀v,I v→WpS P x (fun ex s=>match ex with
   | .normal=> ∃eW,I eW∧m eW<m v∧Weak s (S eW)
   | ex=>Q ex s) (S v)):WpS P c Q aJ:=by
 subst e
 refine WpS.l8 (WpS.loop (fun n s=> ∃v,I v∧s=S v∧n=m v) (m h0) ⟨h0,aT,rfl,rfl⟩ ?_) hs
 rintro n s ⟨v,hv,rfl,rfl⟩
 refine WpS.mono (round v hv) fun ex s ak=> ?_
 cases ex with
 | normal=>
  obtain⟨eW,h1,h2,aN⟩:=ak
  exact⟨m eW,S eW,h2,aN,eW,h1,rfl,rfl⟩
 | _=>exact ak
theorem dR.normal [cB] {P:Program} {y:Code} {Q:Exit→St→Prop} {s:St} (h:WpS P y Q s):dR P y Q .normal s:=h
theorem dR.ret [cB] {P:Program} {y:Code} {Q:Exit→St→Prop} {s:St} (h:Q .ret s):dR P y Q .ret s:=h
theorem dR.exit [cB] {P:Program} {y:Code} {Q:Exit→St→Prop} {s:St} {id:Nat} (h:Q (.exit id) s):dR P y Q (.exit id) s:=h
theorem ch.normal {id:Nat} {Q:Exit→St→Prop} {s:St} (h:Q .normal s):ch id Q .normal s:=h
theorem ch.ret {id:Nat} {Q:Exit→St→Prop} {s:St} (h:Q .ret s):ch id Q .ret s:=h
theorem ch.here {id:Nat} {Q:Exit→St→Prop} {s:St} (h:Q .normal s):ch id Q (.exit id) s:=by
 show(if id=id then _ else _);rw[if_pos rfl];exact h
theorem ch.there {id gm:Nat} {Q:Exit→St→Prop} {s:St} (ck:gm≠id) (h:Q (.exit gm) s):ch id Q (.exit gm) s:=by
 show(if gm=id then _ else _);rw[if_neg ck];exact h
theorem c3.hT {L:List (Nat×List AV)} {H:List Blk} {a b:AV} (h:fT L H a b):c3 L H a b:= .inr h
theorem c3.agg {L:List (Nat×List AV)} {H:List Blk} {l fh:List AV} (h:aD (fT L H) l fh):c3 L H (.agg l) (.agg fh):= .inl ⟨l,fh,rfl,rfl,h⟩
theorem h_.hT {H:List Blk} {a b:AV} (h:gv H a b):h_ H a b:= .inr (.inr h)
theorem h_.agg {H:List Blk} {l fh:List AV} (h:aD (gv H) l fh):h_ H (.agg l) (.agg fh):= .inr (.inl ⟨l,fh,rfl,rfl,h⟩)
theorem WpS.start [cB] {P:Program} {c:Code} {Q:Exit→St→Prop} {aJ k9:St} (e:aJ=k9) (h:WpS P c Q k9):WpS P c Q aJ:=e▸h
def b_ [cB] (S:St) (ψ:Prop) (Q:Exit→St→Prop) (ex:Exit) (s:St):Prop:=match ex with
 | .normal=>ψ∧Weak s S
 | ex=>Q ex s
theorem WpS.xf [cB] {P:Program} {c x y:Code} {Q:Exit→St→Prop} {aJ:St} (S:St) {ψ:Prop} (e:c= .seq x y) (h:WpS P x (b_ S ψ Q) aJ) (ak:ψ→WpS P y Q S):WpS P c Q aJ:=by
 subst e
 refine WpS.seq (WpS.mono h fun ex s hs=> ?_)
 cases ex with
 | normal=>exact WpS.l8 (ak hs.1) hs.2
 | _=>exact hs
theorem b_.normal [cB] {S s:St} {ψ:Prop} {Q:Exit→St→Prop} (aI:ψ) (h:Weak s S):b_ S ψ Q .normal s:=⟨aI,h⟩
theorem b_.ret [cB] {S s:St} {ψ:Prop} {Q:Exit→St→Prop} (h:Q .ret s):b_ S ψ Q .ret s:=h
theorem b_.exit [cB] {S s:St} {ψ:Prop} {Q:Exit→St→Prop} {id:Nat} (h:Q (.exit id) s):b_ S ψ Q (.exit id) s:=h
def dO [cB] {V:Type} (S:V→St) (I:V→Prop) (m:V→Nat) (v:V) (Q:Exit→St→Prop) (ex:Exit) (s:St):Prop:=match ex with
 | .normal=> ∃eW,I eW∧m eW<m v∧Weak s (S eW)
 | ex=>Q ex s
theorem WpS.NC [cB] {P:Program} {c x:Code} {Q:Exit→St→Prop} {aJ:St} {V:Type} (S:V→St) (I:V→Prop) (m:V→Nat) (e:c= .loop x) (h0:V) (hs:Weak aJ (S h0)) (aT:I h0)
  (round: ∀v,I v→WpS P x (dO S I m v Q) (S v)):WpS P c Q aJ:=
 WpS.ZH S I m e h0 hs aT fun v hv=>WpS.mono (round v hv) fun ex s h=>by
  cases ex<;>exact h
theorem dO.again [cB] {V:Type} {S:V→St} {I:V→Prop} {m:V→Nat} {v:V} {Q:Exit→St→Prop} {s:St} (eW:V) (h:I eW∧m eW<m v) (hw:Weak s (S eW)):dO S I m v Q .normal s:=⟨eW,h.1,h.2,hw⟩
theorem dO.ret [cB] {V:Type} {S:V→St} {I:V→Prop} {m:V→Nat} {v:V} {Q:Exit→St→Prop} {s:St} (h:Q .ret s):dO S I m v Q .ret s:=h
theorem dO.exit [cB] {V:Type} {S:V→St} {I:V→Prop} {m:V→Nat} {v:V} {Q:Exit→St→Prop} {s:St} {id:Nat} (h:Q (.exit id) s):dO S I m v Q (.exit id) s:=h
@[irreducible] def bT (c:Code) (n:Nat):Code:=sO c ((List.range (Nat.log2 n)).map fun i=>(n>>>i)%2).reverse
def iU (c:Code) (n:Nat):Array Oper:=match bT c n with
 | .region _ ops _=>ops
 | _=> #[]
theorem hd [cB] {s s' s'':St} (h:Weak s s') (e:s'=s''):Weak s s'':=e▸h
def kO (H:List Blk) (c d:List AV):Prop:=c.length=d.length∧ ∀(j:Nat) (a b:AV),c[j]?=some a→d[j]?=some b→gv H a a∧b=ko a
theorem ab0 {H:List Blk} {α:Type} {eT eF:α→List AV} {b:Nat} {g sz:Nat} {full:Bool} {xs:List α} (hb:H[b]?=some ⟨g,sz,List.map eT xs⟩) (aH:xs.length≤4611686018427387904) (hc: ∀x,kO H (eT x) (eF x)):
  gv H (.ref b g 0 xs.length full) (.bC (List.map eF xs) false true):=by
 refine gv.ref (fun h=>by cases h) (fun i j=>((xs[i]?).bind fun x=>(eT x)[j]?).getD .undef) hb rfl (by rw[List.length_map]) aH (by simp) (fun i row row' h1 h2=> ?_) (fun i j row a hi h1 h2=> ?_) (fun i j row' c h1 h2=> ?_)
 ·have h1:(List.map eT xs)[0+i]?=some row:=h1
  rw[Nat.zero_add,List.getElem?_map] at h1
  rw[List.getElem?_map] at h2
  cases hx:xs[i]? with
  | none=>rw[hx] at h1;cases h1
  | some x=>rw[hx] at h1 h2;cases h1;cases h2;exact(hc x).1
 ·have h1:(List.map eT xs)[0+i]?=some row:=h1
  rw[Nat.zero_add,List.getElem?_map] at h1
  cases hx:xs[i]? with
  | none=>rw[hx] at h1;cases h1
  | some x=>
   rw[hx] at h1;cases h1
   show gv H a (((some x).bind fun x=>(eT x)[j]?).getD .undef)
   have aM:(eT x)[j]?=some a:=h2
   have he:((some x).bind fun x=>(eT x)[j]?).getD .undef=a:=by
    show((eT x)[j]?).getD .undef=a
    rw[aM];rfl
   rw[he]
   have bf:j<(eF x).length:=by rw[←(hc x).1];exact(List.getElem?_eq_some_iff.1 aM).1
   exact((hc x).2 j a _ aM (List.getElem?_eq_getElem bf)).1
 ·rw[List.getElem?_map] at h1
  cases hx:xs[i]? with
  | none=>rw[hx] at h1;cases h1
  | some x=>
   rw[hx] at h1;cases h1
   show c=ko (((some x).bind fun x=>(eT x)[j]?).getD .undef)
   have bf:j<(eT x).length:=by rw[(hc x).1];exact(List.getElem?_eq_some_iff.1 h2).1
   have aM:=List.getElem?_eq_getElem bf
   have he:((some x).bind fun x=>(eT x)[j]?).getD .undef=(eT x)[j]:=by
    show((eT x)[j]?).getD .undef=_
    rw[aM];rfl
   rw[he]
   exact((hc x).2 j _ c aM h2).2
theorem kO.nil {H:List Blk}:kO H [] []:=⟨rfl,fun j a b h=>by simp at h⟩
theorem kO.cons {H:List Blk} {a b:AV} {c d:List AV} (h1:gv H a a) (h2:b=ko a) (h:kO H c d):kO H (a::c) (b::d):=
 ⟨by simp[h.1],fun j x y hx bt=>by
  cases j with
  | zero=>simp at hx bt;subst hx;subst bt;exact⟨h1,h2⟩
  | succ j=>exact h.2 j x y (by simpa using hx) (by simpa using bt)⟩
theorem Tb {H:List Blk} (n:Int):kO H (c0 n) (c0 n):= .cons (.int _ _) rfl .nil
theorem Td {H:List Blk} (n:UInt8):kO H (p9 n) (p9 n):= .cons (.int _ _) rfl .nil
theorem vz {H:List Blk} (b:Bool):kO H (aX b) (aX b):= .cons (.bool _) rfl .nil
theorem Tc {H:List Blk} (b:ByteArray):kO H (DI b) (DI b):= .cons (.str _) rfl .nil
theorem kw {H:List Blk} (rows:List (List AV)):gv H (.bC rows false true) (.bC rows false true):= .bC _ _ _ id
theorem JG {H:List Blk} (x:ct):kO H (dd x) (dd x):= .cons (.int _ _) rfl (.cons (.int _ _) rfl .nil)
theorem S_ {H:List Blk} (x:Event):kO H (je x) (je x):= .cons (.int _ _) rfl (.cons (.int _ _) rfl (.cons (.int _ _) rfl .nil))
theorem xU {H:List Blk} (x:bc):kO H (a5 x) (a5 x):= .cons (.int _ _) rfl (.cons (.int _ _) rfl .nil)
theorem Te {H:List Blk} (x:Way):kO H (dk true x) (dk false x):= .cons (kw _) rfl (.cons (kw _) rfl (.cons (kw _) rfl (.cons (kw _) rfl (.cons (kw _) rfl .nil))))
theorem Ta {H:List Blk} (x:ae):kO H (dD true x) (dD false x):= .cons (.int _ _) rfl (.cons (.int _ _) rfl (.cons (kw _) rfl (.cons (.bool _) rfl (.cons (.int _ _) rfl .nil))))
theorem S9 {H:List Blk} (x:fA):kO H (sk true x) (sk false x):= .cons (.int _ _) rfl (.cons (.bool _) rfl (.cons (kw _) rfl (.cons (kw _) rfl (.cons (kw _) rfl .nil))))
theorem RD {H:List Blk} {α:Type} {eT eF:α→List AV} {b g sz:Nat} {full:Bool} {xs ys:List α} (hb:H[b]?=some ⟨g,sz,List.map eT xs⟩) (hc: ∀x,kO H (eT x) (eF x)) (h:xs.length≤4611686018427387904∧xs=ys):
  gv H (.ref b g 0 xs.length full) (.bC (List.map eF ys) false true):=h.2▸ab0 hb h.1 hc
theorem qU {H:List Blk} {α:Type} {e:α→List AV} {ys:List α} {full fr:Bool} (h:[]=ys):gv H (.bC [] full fr) (.bC (List.map e ys) false true):=h▸ .NE _ _ _ (fun h=>by cases h)
theorem u0 {H:List Blk} {α:Type} {e:α→List AV} {xs ys:List α} {full:Bool} (h:xs=ys):gv H (.bC (List.map e xs) full true) (.bC (List.map e ys) false true):=h▸ .bC _ _ _ (fun h=>by cases h)
theorem xl {H:List Blk} {k:IntKind} {a b:Int} (h:a=b):gv H (.int k a) (.int k b):=h▸ .int k a
theorem m3 {H:List Blk} {a b:Bool} (h:a=b):gv H (.bool a) (.bool b):=h▸ .bool a
theorem ad8 {H:List Blk} {a b:ByteArray} (h:a=b):gv H (.str a) (.str b):=h▸ .str a
theorem cz {L:List (Nat×List AV)} {H:List Blk} {rows:List (List AV)} {full fr:Bool}:fT L H (.bC rows full fr) (.bC rows false false):= .bC _ _ _ _ (fun h=>by cases h)
def om (L:List (Nat×List AV)) (H:List Blk) (c d:List AV):Prop:=c.length=d.length∧ ∀(j:Nat) (a b:AV),c[j]?=some a→d[j]?=some b→fT L H a b
theorem Pd {L:List (Nat×List AV)} {H:List Blk} {α:Type} {eT eF:α→List AV} {b g sz:Nat} {full:Bool} {xs:List α} (hb:H[b]?=some ⟨g,sz,List.map eT xs⟩) (hc: ∀x,om L H (eT x) (eF x)) (aH:xs.length≤4611686018427387904):
  fT L H (.ref b g 0 xs.length full) (.bC (List.map eF xs) false false):=by
 refine fT.ref (fun h=>by cases h) hb rfl (by rw[List.length_map]) aH (by simp) (fun i row row' h1 h2=> ?_) (fun i j row row' a c h1 h2 aN be=> ?_)
 ·have h1:(List.map eT xs)[0+i]?=some row:=h1
  rw[Nat.zero_add,List.getElem?_map] at h1
  rw[List.getElem?_map] at h2
  cases hx:xs[i]? with
  | none=>rw[hx] at h1;cases h1
  | some x=>rw[hx] at h1 h2;cases h1;cases h2;exact(hc x).1
 ·have h1:(List.map eT xs)[0+i]?=some row:=h1
  rw[Nat.zero_add,List.getElem?_map] at h1
  rw[List.getElem?_map] at h2
  cases hx:xs[i]? with
  | none=>rw[hx] at h1;cases h1
  | some x=>rw[hx] at h1 h2;cases h1;cases h2;exact(hc x).2 j a c aN be
theorem om.nil {L:List (Nat×List AV)} {H:List Blk}:om L H [] []:=⟨rfl,fun j a b h=>by simp at h⟩
theorem om.cons {L:List (Nat×List AV)} {H:List Blk} {a b:AV} {c d:List AV} (h1:fT L H a b) (h:om L H c d):om L H (a::c) (b::d):=
 ⟨by simp[h.1],fun j x y hx bt=>by
  cases j with
  | zero=>simp at hx bt;subst hx;subst bt;exact h1
  | succ j=>exact h.2 j x y (by simpa using hx) (by simpa using bt)⟩
section
variable {L:List (Nat×List AV)} {H:List Blk}
theorem sF (b:Bool):om L H (aX b) (aX b):= .cons (.bool _) .nil
theorem uk (x:bc):om L H (a5 x) (a5 x):= .cons (.int _ _) (.cons (.int _ _) .nil)
end
def ey {α:Type} (F:(α→Prop)→Prop):Prop:= ∀K,F K→ ∃r,K r∧F (fun x=>x=r)
theorem ey.ret {α:Type} (r:α):ey fun K=>K r:=fun K h=>⟨r,h,rfl⟩
theorem ey.no {α:Type}:ey (α:=α) fun _=>False:=fun K h=>h.elim
theorem ey.and {α:Type} {φ:Prop} {F:(α→Prop)→Prop} (h:ey F):ey fun K=>φ∧F K:=fun K ⟨aI,hf⟩=>by
 obtain⟨r,h1,h2⟩:=h K hf
 exact⟨r,h1,aI,h2⟩
theorem ey.SH {α:Type} {φ:Prop} {F:(α→Prop)→Prop} (h:φ→ey F):ey fun K=>φ∧F K:=fun K ⟨aI,hf⟩=>by
 obtain⟨r,h1,h2⟩:=h aI K hf
 exact⟨r,h1,aI,h2⟩
theorem ey.bind {α β:Type} {o:Option β} {F:β→(α→Prop)→Prop} (h: ∀b,ey (F b)):ey fun K=>cU o fun b=>F b K:=fun K hf=>by
 cases o with
 | none=>exact hf.elim
 | some b=>exact h b K hf
theorem ey.ite {α:Type} {c:Prop} [Decidable c] {F G:(α→Prop)→Prop} (h:ey F) (k:ey G):ey fun K=>if c then F K else G K:=by
 intro K hf
 by_cases hc:c
 ·rw[if_pos hc] at hf
  obtain⟨r,h1,h2⟩:=h K hf
  exact⟨r,h1,by show if c then _ else _;rw[if_pos hc];exact h2⟩
 ·rw[if_neg hc] at hf
  obtain⟨r,h1,h2⟩:=k K hf
  exact⟨r,h1,by show if c then _ else _;rw[if_neg hc];exact h2⟩
theorem ey.eR {α:Type} {b:Bool} {F:(α→Prop)→Prop} (h:ey F):ey fun K=>eR b (F K):=by
 cases b with
 | true=>exact h
 | false=>exact ey.no
theorem II {P:Program} {t:TypeId} {cells:List AV} {c:Nat}:ey (js P t cells c):=by
 unfold js
 exact .ite (.ite (.ite (.ret _) .no) (.bind fun _=> .ret _)) .no
theorem Zi {P:Program} {t:TypeId} {x:AV} {L:List (Nat×List AV)} {H:List Blk}:ey (oI P t x L H):=by
 cases x with
 | fx s c=>exact .bind fun _=>II
 | ptr b g r c=>exact .bind fun _=> .and (.bind fun _=>II)
 | dr cells c=>exact II
 | _=>exact .no
theorem ZX {x:AV}:ey (Gt x):=by
 cases x<;>first | exact .no | exact .ret _
theorem SW {op:BinOp} {k:IntKind} {a b:Int}:ey (z9 op k a b):=by
 cases op<;>first | exact .no | exact .ret _ | exact .and (.ret _)
theorem SV {op:BinOp} {k kC:IntKind} {a b:Int}:ey (z_ op k a kC b):=by
 cases op<;>first | exact .and (.ret _) | exact .ite SW .no
def xQ (x:AV):Bool:=match x with
 | .bC _ _ _=>false
 | _=>true
theorem SX {P:Program} {op:BinOp} {t:TypeId} {x y:AV} {r8:Bool} (hx:xQ x=true):ey (sf P op t x y r8):=by
 cases x with
 | int k a=>cases y<;>first | exact .no | exact SV
 | bool a=>
  cases y with
  | bool b=>exact .ite (by cases op<;>first | exact .no | exact .ret _) .no
  | _=>exact .no
 | str a=>
  cases y with
  | str b=>
   show ey (C2 op a b)
   cases op<;>first | exact .no | exact .ret _ | exact .and (.ret _)
  | _=>exact .no
 | agg l=>
  cases y with
  | agg m=>exact .ite (.bind fun p=> .bind fun q=>by
    show ey (C3 op p.1 p.2 q.1 q.2)
    cases op<;>first | exact .no | exact .ret _) .no
  | _=>exact .no
 | bC rows en fr=>cases hx
 | _=>exact .no
theorem aet {op:UnOp} {x:AV}:ey (CD op x):=by
 cases op<;>cases x<;>first | exact .no | exact .ret _
theorem TP {P:Program} {s d:TypeId} {x:AV}:ey (Dv P s d x):=by
 cases x with
 | int k n=>exact .bind fun _=> .bind fun _=> .ret _
 | _=>exact .no
theorem Us {P:Program} {t:TypeId} {x:AV} {f:Nat}:ey (D2 P t x f):=by
 refine .bind fun fd=> .ite ?_ .no
 cases x<;>first | exact .no | exact .ret _
theorem Xp {P:Program} {t:TypeId} {x i:AV} {H:List Blk}:ey (wy P t x i H):=by
 refine .bind fun e=> .ite ?_ .no
 cases i with
 | int k n=>
  cases x with
  | bC rows en fr=>exact .and (.bind fun _=> .and (.ret _))
  | ref b g off m en=>exact .bind fun _=> .and (.and (.and (.and (.ret _))))
  | _=>exact .no
 | _=>exact .no
theorem Xy {P:Program} {t:TypeId} {x i:AV}:ey (E8 P t x i):=by
 cases x with
 | str s=>
  cases i with
  | int k n=>
   show ey fun K:AV→Prop=>(match P.underlying t with
   | some .string=>0≤n∧n<s.size∧K (.int .u8 (s.data.getD n.toNat 0).toNat)
   | _=>False)
   split
   ·exact .and (.and (.ret _))
   ·exact .no
  | _=>exact .no
 | _=>exact .no
theorem vw {α:Type} {x:Option AV} {d:Nat} {F:Nat→(α→Prop)→Prop} (h: ∀n,ey (F n)):ey fun K=>l_ x d fun n=>F n K:=by
 cases x with
 | none=>exact h d
 | some a=>
  cases a with
  | int k n=>exact .and (h _)
  | _=>exact .no
theorem abp {P:Program} {t:TypeId} {x:AV} {lo hi:Option AV} {H:List Blk}:ey (uX P t x lo hi H):=by
 cases x with
 | str s=>
  show ey fun K:AV→Prop=>(match P.underlying t with
   | some .string=>l_ lo 0 fun l=>l_ hi s.size fun h=>l≤h∧h≤s.size∧K (.str (s.extract l h))
   | _=>False)
  split
  ·exact vw fun l=>vw fun h=> .and (.and (.ret _))
  ·exact .no
 | bC rows en fr=>exact .bind fun e=> .ite (vw fun l=>vw fun h=> .and (.and (.and (.ret _)))) .no
 | ref b g off n en=>
  refine .bind fun e=> .ite (.bind fun blk=> .and (.and (vw fun l=>vw fun h=> .SH fun hle=> .and ?_))) .no
  intro K ⟨h1,h2⟩
  rcases Nat.lt_trichotomy l h with bf | ym | po
  ·exact⟨_,h1 bf,fun _=>rfl,fun e=>absurd e (by omega)⟩
  ·exact⟨_,h2 ym,fun e=>absurd e (by omega),fun _=>rfl⟩
  ·omega
 | _=>exact .no
theorem Un {x:AV} {i:Nat}:ey (DY x i):=by
 cases x with
 | tup l=>exact .bind fun _=> .ret _
 | _=>exact .no
theorem ZS {fn:Fn} {first:Array Operand} {caps:List AV}:ey (yV fn first caps):=by
 cases fn with
 | func f=>exact .ite (.ret _) .no
 | _=>exact .no
theorem S7 {P:Program} {t:TypeId} {parts:List (Nat×AV)}:ey (C6 P t parts):= .bind fun _=> .bind fun _=> .bind fun _=> .ret _
theorem S5 {P:Program} {t:TypeId} {n:Nat} {parts:List (Nat×AV)}:ey (vy P t n parts):= .bind fun _=> .bind fun _=> .ite (.bind fun _=> .ite (.ret _) .no) .no
def rP (x:AV) (K:AV→Prop):Prop:=match x with
 | .bC rows _ _=>K (.int .i64 rows.length)
 | .str s=>K (.int .i64 s.size)
 | .ref _ _ _ n _=>K (.int .i64 n)
 | _=>False
theorem Zn {x:AV}:ey (rP x):=by
 cases x<;>first | exact .no | exact .ret _
theorem Zo {x:AV} {K:AV→Prop} (h:rP x K):rO x K:=by
 cases x<;>first | exact h | exact fun _=>h
theorem Tp {P:Program} {f:FuncId} {args:List AV} {L:List (Nat×List AV)} {H:List Blk}:ey (ox P f args L H):=fun K ⟨aH,eh,t,h1,h2,aN⟩=>⟨t,aN,aH,eh,t,h1,h2,rfl⟩
def Uh (P:Program) (c:Call) (bQ:Operand→AV) (L:List (Nat×List AV)) (H:List Blk) (K:AV→Prop):Prop:=match c.callee with
 | .builtin .len=>(match c.args.toList,c.argTypes.toList with
  | [x],[t]=>eR (jW P t (bQ x)) (rP (bQ x) K)
  | _,_=>False)
 | .value f=>lM (bQ f) fun g caps=>ox P g (c.args.toList.map bQ++caps) L H K
 | _=>False
def jQ (P:Program) (o:Oper) (bQ:Operand→AV) (L:List (Nat×List AV)) (H:List Blk) (K:AV→Prop):Prop:=match o.op with
 | .call c=>Uh P c bQ L H K
 | .pick c x y=>ov (bQ c) fun z=>o7 true z (K (bQ x)) (K (bQ y))
 | .binOp op t x y _=>eR (xQ (bQ x)) (sf P op t (bQ x) (bQ y) (qw y) K)
 | _=>sm P o bQ L H K
theorem Az {P:Program} {o:Oper} {bQ:Operand→AV} {L:List (Nat×List AV)} {H:List Blk} {K:AV→Prop} (h:jQ P o bQ L H K):sm P o bQ L H K:=by
 obtain⟨dst,op,ty,pos,after,guard⟩:=o
 cases op with
 | call c=>
  obtain⟨callee,args,argTypes⟩:=c
  cases callee with
  | builtin b=>
   cases b with
   | len=>
    have h:(match args.toList,argTypes.toList with
     | [x],[t]=>eR (jW P t (bQ x)) (rP (bQ x) K)
     | _,_=>False):=h
    show(match args.toList,argTypes.toList with
     | [x],[t]=>eR (jW P t (bQ x)) (rO (bQ x) K)
     | _,_=>False)
    split at h
    ·obtain⟨h1,h2⟩:=pE h
     simp only[h1];exact Zo h2
    ·exact h.elim
   | _=>exact h.elim
  | value f=>exact h
  | _=>exact h.elim
 | binOp op t x y ty2=>exact(pE (show eR (xQ (bQ x)) (sf P op t (bQ x) (bQ y) (qw y) K) from h)).2
 | pick c x y=>
  obtain⟨b,hb,hw⟩:=z4 (show ov (bQ c) fun z=>o7 true z (K (bQ x)) (K (bQ y)) from h)
  show ov (bQ c) fun z=>xP z (K (bQ x)) (K (bQ y))
  rw[hb];exact Ac hw
 | _=>exact h
theorem SU {α:Type} {z:Bool} {x y:α}:ey fun K=>o7 true z (K x) (K y):=by
 cases z with
 | true=>exact .ret x
 | false=>exact .ret y
theorem SO {α:Type} {v:AV} {F:Bool→(α→Prop)→Prop} (h: ∀b,ey (F b)):ey fun K=>ov v fun b=>F b K:=by
 cases v with
 | bool b=>exact h b
 | _=>exact .no
theorem Uk {P:Program} {o:Oper} {bQ:Operand→AV} {L:List (Nat×List AV)} {H:List Blk}:ey (jQ P o bQ L H):=by
 obtain⟨dst,op,ty,pos,after,guard⟩:=o
 cases op with
 | move x=>exact .ret _
 | assign x=>exact .ret _
 | pick c x y=>exact SO fun z=>SU
 | build t ps=>exact .eR S7
 | buildSlice t n ps=>exact .eR S5
 | load t a=>exact Zi
 | nilCheck x=>exact ZX
 | binOp op t x y ty2=>
  show ey fun K=>eR (xQ (bQ x)) (sf P op t (bQ x) (bQ y) (qw y) K)
  cases hb:xQ (bQ x) with
  | true=>exact SX hb
  | false=>exact .no
 | unOp op t x=>exact aet
 | convert s d x=>exact TP
 | makeFunc fn first caps=>exact ZS
 | fieldAddr t x f=>exact Us
 | indexAddr t x i=>exact Xp
 | index t x i=>exact Xy
 | slice t x lo hi mx=>
  cases mx with
  | none=>exact abp
  | some m=>exact .no
 | extract x i=>exact Un
 | call c=>
  obtain⟨callee,args,argTypes⟩:=c
  cases callee with
  | builtin b=>
   cases b with
   | len=>
    show ey fun K=>(match args.toList,argTypes.toList with
     | [x],[t]=>eR (jW P t (bQ x)) (rP (bQ x) K)
     | _,_=>False)
    split
    ·exact .eR Zn
    ·exact .no
   | _=>exact .no
  | value f=>
   show ey fun K=>lM (bQ f) fun g caps=>ox P g (args.toList.map bQ++caps) L H K
   cases bQ f with
   | fn g caps=>exact Tp
   | _=>exact .no
  | _=>exact .no
 | _=>exact .no
structure Item where
 i:Nat
 lit:Bool
 q:Bool
 jx:List Nat
def I2:AV→AV→Bool
 | .int k n,.int kC pA=>decide (k=kC)&&decide (n=pA)
 | .bool b,.bool cj=>b==cj
 | .bC [] f g,.bC [] AC dB=>f==AC&&g==dB
 | .fW,.fW=>true
 | _,_=>false
def CK:List AV→List AV→Bool
 | [],[]=>true
 | a::l,b::m=>I2 a b&&CK l m
 | _,_=>false
theorem ae4 {a b:AV} (h:I2 a b=true):a=b:=by
 unfold I2 at h
 split at h
 ·simp only[Bool.and_eq_true,decide_eq_true_eq] at h;rw[h.1,h.2]
 ·rw[eq_of_beq h]
 ·simp only[Bool.and_eq_true] at h;rw[eq_of_beq h.1,eq_of_beq h.2]
 ·rfl
 ·cases h
theorem Ss: ∀{l m:List AV},CK l m=true→l=m
 | [],[],_=>rfl
 | [],_::_,h=>by cases h
 | _::_,[],h=>by cases h
 | a::l,b::m,h=>by
  simp only[CK,Bool.and_eq_true] at h
  rw[ae4 h.1,Ss h.2]
def px (o:Oper):Bool:=match o.op with
 | .alloc _=>true
 | _=>false
def Jc (P:Program) (e:TypeId) (dst:Option Nat) (L:List (Nat×List AV)) (K:AV→Prop):Prop:=cU (m6 P e) fun z=>cU dst fun t=>cU (eK L t) fun c=>eR (z.all iX) (eR (CK c z) (K (.fx t 0)))
def lg (P:Program) (o:Oper) (bQ:Operand→AV) (L:List (Nat×List AV)) (H:List Blk) (K:AV→Prop):Prop:=match o.op with
 | .alloc e=>Jc P e o.dst L K
 | _=>jQ P o bQ L H K
theorem vL {P:Program} {o:Oper} {bQ:Operand→AV} {L:List (Nat×List AV)} {H:List Blk} {K:AV→Prop} (h:px o=false):lg P o bQ L H K=jQ P o bQ L H K:=by
 obtain⟨dst,op,ty,pos,after,guard⟩:=o
 cases op<;>first | rfl | cases h
theorem Uj {P:Program} {o:Oper} {bQ:Operand→AV} {L:List (Nat×List AV)} {H:List Blk}:ey (lg P o bQ L H):=by
 cases h:px o with
 | false=>intro K hk;rw[vL h] at hk;obtain⟨r,h1,h2⟩:=Uk K hk;exact⟨r,h1,by rw[vL h];exact h2⟩
 | true=>
  obtain⟨dst,op,ty,pos,after,guard⟩:=o
  cases op
  case alloc e=>exact ey.bind fun _=> .bind fun _=> .bind fun _=> .eR (.eR (.ret _))
  all_goals cases h
def opI (ops:Array Oper) (i:Nat):Oper:=ops.getD i default
def sj (o:Oper) (T:List AV):AV:=match o.dst with
 | some d=>T.getD d .undef
 | none=> .undef
def rn (P:Program) (ops:Array Oper):List Nat→List AV→List (Nat×List AV)→List Blk→Prop
 | [],_,_,_=>True
 | i::r,T,L,H=>((opI ops i).guard.isNone=true∧(opI ops i).dst.isSome=true∧lg P (opI ops i) (cm T) L H (fun v=>v=sj (opI ops i) T))∧rn P ops r T L H
theorem KC {P:Program} {ops:Array Oper} {T:List AV} {L:List (Nat×List AV)} {H:List Blk}: ∀{jx:List Nat},rn P ops jx T L H→ ∀i∈jx,(opI ops i).guard.isNone=true∧(opI ops i).dst.isSome=true∧lg P (opI ops i) (cm T) L H (fun v=>v=sj (opI ops i) T)
 | [],_,i,hi=>by cases hi
 | j::r,h,i,hi=>by
  rcases List.mem_cons.1 hi with rfl | hi
  ·exact h.1
  ·exact KC h.2 i hi
def j_ (P:Program) (esc:List Nat) (ops:Array Oper):List Item→List AV→List (Nat×List AV)→List Blk→(List AV→List (Nat×List AV)→List Blk→Prop)→Prop
 | [],T,L,H,K=>K T L H
 | x::rest,T,L,H,K=>nS ops x.lit (opI ops x.i) T
   (fun T=>match x.q with
    | true=>lg P (opI ops x.i) (cm T) L H fun v=>j_ P esc ops rest (putA T (opI ops x.i).dst v) L H K
    | false=>j9 P esc (opI ops x.i) (cm T) L H fun v L' H'=>rn P ops x.jx T L' H'∧j_ P esc ops rest (putA T (opI ops x.i).dst v) L' H' K)
   (fun T=>j_ P esc ops rest (putA T (opI ops x.i).dst (.tup [])) L H K)
theorem Kj {P:Program} {o:Oper} {bQ fR:Operand→AV} {L:List (Nat×List AV)} {H:List Blk} {K:AV→Prop} (h: ∀x∈o.op.operands,bQ x=fR x):sm P o bQ L H K=sm P o fR L H K:=by
 obtain⟨dst,op,ty,pos,after,guard⟩:=o
 have N5: ∀ps:Array (Nat×Operand),(∀x∈ps.map (·.2),bQ x=fR x)→(ps.toList.map fun p=>(p.1,bQ p.2))=(ps.toList.map fun p=>(p.1,fR p.2)):=fun ps aI=>
  List.map_congr_left fun p hm=>by rw[aI p.2 (Array.mem_map.2 ⟨p,by simpa using hm,rfl⟩)]
 have Jh: ∀ps:Array (Nat×Operand),(∀x∈ps.map (·.2),bQ x=fR x)→(ps.toList.all fun p=>eQ (bQ p.2))=(ps.toList.all fun p=>eQ (fR p.2)):=fun ps aI=>by
  rw[Bool.eq_iff_iff,List.all_eq_true,List.all_eq_true]
  constructor<;>intro q p hm
  ·rw[←aI p.2 (Array.mem_map.2 ⟨p,by simpa using hm,rfl⟩)];exact q p hm
  ·rw[aI p.2 (Array.mem_map.2 ⟨p,by simpa using hm,rfl⟩)];exact q p hm
 have bC: ∀xs:Array Operand,(∀x∈xs,bQ x=fR x)→xs.toList.map bQ=xs.toList.map fR:=fun xs hx=>List.map_congr_left fun p hm=>hx p (by simpa using hm)
 cases op<;>simp only[Op.operands] at h
 case build t ps=>
  show eR _ _=eR _ _
  rw[N5 ps fun x hx=>h x (by simpa using hx),Jh ps fun x hx=>h x (by simpa using hx)]
 case buildSlice t n ps=>
  show eR _ _=eR _ _
  rw[N5 ps fun x hx=>h x (by simpa using hx),Jh ps fun x hx=>h x (by simpa using hx)]
 case makeFunc fn first caps=>
  show yV fn first (caps.toList.map bQ) K=yV fn first (caps.toList.map fR) K
  rw[bC caps fun x hx=>h x (by simp[hx])]
 case slice t x lo hi mx=>
  cases mx with
  | some m=>rfl
  | none=>
   show uX P t (bQ x) (lo.map bQ) (hi.map bQ) H K=uX P t (fR x) (lo.map fR) (hi.map fR) H K
   cases lo<;>cases hi<;>simp_all
 case call c=>
  obtain⟨callee,args,argTypes⟩:=c
  have a3: ∀x∈args,bQ x=fR x:=fun x hx=>h x (by simp[Call.operands,hx])
  cases callee with
  | builtin b=>
   cases b with
   | len=>
    show(match args.toList,argTypes.toList with
     | [x],[t]=>eR (jW P t (bQ x)) (rO (bQ x) K)
     | _,_=>False)=(match args.toList,argTypes.toList with
     | [x],[t]=>eR (jW P t (fR x)) (rO (fR x) K)
     | _,_=>False)
    split
    ·rename_i x t h1 h2
     rw[a3 x (by rw[←Array.mem_toList_iff,h1];simp)]
    ·rfl
   | _=>rfl
  | value f=>
   have hf:bQ f=fR f:=h f (by simp[Call.operands])
   show lM (bQ f) _=lM (fR f) _
   rw[hf,bC args a3]
  | invoke r m=>rfl
 all_goals (first | rfl | (simp only[sm];simp_all;done))
theorem Ki {P:Program} {o:Oper} {bQ fR:Operand→AV} {L:List (Nat×List AV)} {H:List Blk} {K:AV→Prop} (h: ∀x∈o.op.operands,bQ x=fR x):jQ P o bQ L H K=jQ P o fR L H K:=by
 have hv:=fun K=>Kj (P:=P) (L:=L) (H:=H) (K:=K) h
 obtain⟨dst,op,ty,pos,after,guard⟩:=o
 cases op
 case call c=>
  simp only[Op.operands] at h
  obtain⟨callee,args,argTypes⟩:=c
  have a3: ∀x∈args,bQ x=fR x:=fun x hx=>h x (by simp[Call.operands,hx])
  cases callee with
  | builtin b=>
   cases b with
   | len=>
    show(match args.toList,argTypes.toList with
     | [x],[t]=>eR (jW P t (bQ x)) (rP (bQ x) K)
     | _,_=>False)=(match args.toList,argTypes.toList with
     | [x],[t]=>eR (jW P t (fR x)) (rP (fR x) K)
     | _,_=>False)
    split
    ·rename_i x t h1 h2
     rw[a3 x (by rw[←Array.mem_toList_iff,h1];simp)]
    ·rfl
   | _=>rfl
  | value f=>exact hv K
  | invoke r m=>rfl
 case pick c x y=>simp only[Op.operands] at h;simp only[jQ];simp_all
 case binOp op t x y ty2=>simp only[Op.operands] at h;simp only[jQ];simp_all
 all_goals exact hv K
theorem Ke {P:Program} {o:Oper} {bQ fR:Operand→AV} {L:List (Nat×List AV)} {H:List Blk} {K:AV→Prop} (h: ∀x∈o.op.operands,bQ x=fR x):lg P o bQ L H K=lg P o fR L H K:=by
 cases a3:px o with
 | false=>rw[vL a3,vL a3];exact Ki h
 | true=>
  obtain⟨dst,op,ty,pos,after,guard⟩:=o
  cases op
  case alloc e=>rfl
  all_goals cases a3
theorem Ui {P:Program} {esc:List Nat} {o:Oper} {bQ fR:Operand→AV} {L:List (Nat×List AV)} {H:List Blk} {K:AV→List (Nat×List AV)→List Blk→Prop} (h: ∀x∈o.op.operands,bQ x=fR x):j9 P esc o bQ L H K=j9 P esc o fR L H K:=by
 have hv:=fun K=>Kj (P:=P) (L:=L) (H:=H) (K:=K) h
 obtain⟨dst,op,ty,pos,after,guard⟩:=o
 cases op
 case call c=>
  obtain⟨callee,args,argTypes⟩:=c
  have h':=h
  simp only[Op.operands] at h
  have a3: ∀x∈args,bQ x=fR x:=fun x hx=>h x (by simp[Call.operands,hx])
  cases callee with
  | builtin b=>
   cases b with
   | len=>exact hv fun r=>K r L H
   | append=>
    show(match args.toList,argTypes.toList with
     | [s,x],[t,t2]=>eQ (bQ s)=true∧eQ (bQ x)=true∧tw P t t2 (bQ s) (bQ x) L H K
     | _,_=>False)=(match args.toList,argTypes.toList with
     | [s,x],[t,t2]=>eQ (fR s)=true∧eQ (fR x)=true∧tw P t t2 (fR s) (fR x) L H K
     | _,_=>False)
    split
    ·rename_i s x t t2 h1 h2
     rw[a3 x (by rw[←Array.mem_toList_iff,h1];simp),a3 s (by rw[←Array.mem_toList_iff,h1];simp)]
    ·rfl
   | _=>rfl
  | value f=>
   have hf:bQ f=fR f:=h f (by simp[Call.operands])
   show lM (bQ f) _=lM (fR f) _
   rw[hf,List.map_congr_left fun p hm=>a3 p (by simpa using hm)]
  | invoke r m=>rfl
 case alloc e=>rfl
 case buildSlice t n ps=>
  simp only[Op.operands] at h
  have h: ∀x∈ps.map (·.2),bQ x=fR x:=fun x hx=>h x (by simpa using hx)
  have bB:(ps.toList.map fun p=>(p.1,bQ p.2))=(ps.toList.map fun p=>(p.1,fR p.2)):=
   List.map_congr_left fun p hm=>by rw[h p.2 (Array.mem_map.2 ⟨p,by simpa using hm,rfl⟩)]
  have e2:(ps.toList.all fun p=>eQ (bQ p.2))=(ps.toList.all fun p=>eQ (fR p.2)):=by
   rw[Bool.eq_iff_iff,List.all_eq_true,List.all_eq_true]
   constructor<;>intro q p hm
   ·rw[←h p.2 (Array.mem_map.2 ⟨p,by simpa using hm,rfl⟩)];exact q p hm
   ·rw[h p.2 (Array.mem_map.2 ⟨p,by simpa using hm,rfl⟩)];exact q p hm
  show eR _ (tC P (tI esc dst) (uT esc) t n _ L H K)=eR _ (tC P (tI esc dst) (uT esc) t n _ L H K)
  rw[bB,e2]
 case store t x y=>simp only[Op.operands] at h;simp only[j9];simp_all
 case box e x=>simp only[Op.operands] at h;simp only[j9];simp_all
 case makeSlice t l c=>simp only[Op.operands] at h;simp only[j9];simp_all
 all_goals exact hv fun r=>K r L H
structure vj (P:Program) (ops:Array Oper) (L:List (Nat×List AV)) (H:List Blk) (T:List AV) (o:Oper) (v:AV) (run:Bool):Prop where
 cy: ∀(E:Env) (a:Act),(∀t∈o.looksAt ops,V3 E (T.getD t .undef) (a.tmps.getD t undef))→T.length=a.tmps.size→Region.wanted o (yielded ops a.tmps)=run
 q8:run=true→lg P o (cm T) L H (fun r=>r=v)
 no:run=false→v= .tup []
 put: ∀d,o.dst=some d→d<T.length→T.getD d .undef=v
theorem ZG {ops:Array Oper} {o:Oper} {t:Nat} (h: .tmp t∈o.op.operands):t∈o.looksAt ops:=
 List.mem_append_left _ (List.mem_filterMap.2 ⟨.tmp t,by simpa using h,rfl⟩)
theorem ZF {ops:Array Oper} {o:Oper} {j t:Nat} {b:Bool} (hg:o.guard=some (j,b)) (br:(ops[j]?).bind (·.dst)=some t):t∈o.looksAt ops:=by
 refine List.mem_append_right _ ?_
 rw[hg];simp[br]
theorem BO {ops:Array Oper} {o:Oper} {T T':List AV} (h: ∀t∈o.looksAt ops,T.getD t .undef=T'.getD t .undef): ∀x∈o.op.operands,cm T x=cm T' x:=fun x hx=>by
 cases x with
 | tmp t=>exact h t (ZG hx)
 | _=>rfl
theorem vj.mono {P:Program} {ops:Array Oper} {L:List (Nat×List AV)} {H:List Blk} {T T':List AV} {o:Oper} {v:AV} {run:Bool} (h:vj P ops L H T o v run) (aL:T'.length=T.length)
  (a3: ∀t∈o.looksAt ops,T'.getD t .undef=T.getD t .undef) (bi: ∀d,o.dst=some d→T'.getD d .undef=T.getD d .undef):vj P ops L H T' o v run where
 cy:=fun E a hs aP=>h.cy E a (fun t br=>by rw[←a3 t br];exact hs t br) (by rw[←aL];exact aP)
 q8:=fun aK=>by
  rw[Ke (BO a3)]
  exact h.q8 aK
 no:=h.no
 put:=fun d ph bf=>by rw[bi d ph];exact h.put d ph (by rw[←aL];exact bf)
theorem KN {P:Program} {ops:Array Oper} {lit:Bool} {o:Oper} {T:List AV} {x y:List AV→Prop} (h:nS ops lit o T x y):
  ∃T' run,T'.length=T.length∧(∀t,T'.getD t .undef=T.getD t .undef)∧(∀(E:Env) (a:Act),(∀t∈o.looksAt ops,V3 E (T.getD t .undef) (a.tmps.getD t undef))→T.length=a.tmps.size→Region.wanted o (yielded ops a.tmps)=run)∧(if run=true then x T' else y T'):=by
 unfold nS at h
 cases hg:o.guard with
 | none=>rw[hg] at h;exact⟨T,true,rfl,fun _=>rfl,fun E a _ _=>by simp[Region.wanted,hg],h⟩
 | some g=>
  obtain⟨j,cy⟩:=g
  rw[hg] at h
  simp only at h
  cases aM:(ops[j]?).bind (·.dst) with
  | none=>rw[aM] at h;exact h.elim
  | some t=>
   rw[aM] at h
   simp only at h
   have A6:t∈o.looksAt ops:=ZF hg aM
   have rH: ∀b,T.getD t .undef= .bool b→ ∀s,(T.set t (.bool b)).getD s .undef=T.getD s .undef:=fun b hb s=>by
    rw[rr]
    by_cases hs:t=s∧t<T.length
    ·rw[if_pos hs,←hs.1,hb]
    ·rw[if_neg hs]
   split at h
   ·rename_i b hb
    obtain⟨h1,h2⟩:=Ac h
    have hw: ∀(E:Env) (a:Act),(∀t∈o.looksAt ops,V3 E (T.getD t .undef) (a.tmps.getD t undef))→T.length=a.tmps.size→Region.wanted o (yielded ops a.tmps)=(b==cy):=fun E a hs aP=>by
     have hv:=hs t A6
     rw[hb] at hv
     have he:a.tmps.getD t undef= .bool b:=V3.re hv
     have bt:yielded ops a.tmps j=some b:=by
      unfold yielded
      rw[aM]
      rw[Array.getD_eq_getD_getElem?] at he
      cases ak:a.tmps[t]? with
      | none=>rw[ak] at he;cases he
      | some x=>rw[ak] at he;have:x= .bool b:=he;subst this;simp[ak]
     simp[Region.wanted,hg,bt]
    cases b with
    | true=>refine⟨_,_,by simp,rH true hb,hw,?_⟩;have:=h1 rfl;cases cy<;>exact this
    | false=>refine⟨_,_,by simp,rH false hb,hw,?_⟩;have:=h2 rfl;cases cy<;>exact this
   ·rename_i hb
    refine⟨T,false,rfl,fun _=>rfl,fun E a hs aP=> ?_,h⟩
    have hv:=hs t A6
    rw[hb] at hv
    obtain⟨vs,he,aI⟩:=(show ∃vs:List Value,a.tmps.getD t undef= .tuple vs.toArray∧aD (V2 E) [] vs from hv)
    obtain rfl:=aI.wK
    have bt:yielded ops a.tmps j=none:=by
     unfold yielded
     rw[aM]
     rw[Array.getD_eq_getD_getElem?] at he
     cases ak:a.tmps[t]? with
     | none=>simp[ak]
     | some x=>rw[ak] at he;have:x= .tuple #[]:=he;subst this;simp[ak]
    simp[Region.wanted,hg,bt]
   ·exact h.elim
theorem w2 (T:List AV) (d:Option Nat) (v:AV):(putA T d v).length=T.length:=by
 cases d<;>simp[putA]
theorem B1 {T:List AV} {d:Option Nat} {v:AV} {t:Nat} (h:d≠some t):(putA T d v).getD t .undef=T.getD t .undef:=by
 cases d with
 | none=>rfl
 | some s=>
  show(T.set s v).getD t .undef=_
  rw[rr,if_neg]
  rintro⟨rfl,_⟩;exact h rfl
theorem Ov {T:List AV} {d:Nat} {v:AV} (h:d<T.length):(putA T (some d) v).getD d .undef=v:=by
 show(T.set d v).getD d .undef=v
 rw[rr,if_pos ⟨rfl,h⟩]
def lH (ops:Array Oper):List Item→Prop
 | []=>True
 | x::r=>(∀t∈(opI ops x.i).looksAt ops,∀y∈x::r,(opI ops y.i).dst≠some t)∧(∀d,(opI ops x.i).dst=some d→ ∀y∈r,(opI ops y.i).dst≠some d)∧lH ops r
theorem Hm {P:Program} {esc:List Nat} {ops:Array Oper} {L:List (Nat×List AV)} {H:List Blk} {K:List AV→List (Nat×List AV)→List Blk→Prop}: ∀(l:List Item) (T:List AV),lH ops l→j_ P esc ops l T L H K→
  ∃pre post oq,l=pre++post∧(∀x∈pre,x.q=true)∧(∀x r,post=x::r→x.q=false)∧j_ P esc ops post oq L H K∧oq.length=T.length∧
   (∀t,(∀x∈pre,(opI ops x.i).dst≠some t)→oq.getD t .undef=T.getD t .undef)∧ ∀x∈pre,∃v run,vj P ops L H oq (opI ops x.i) v run
 | [],T,_,h=>⟨[],[],T,rfl,fun x hx=>(by cases hx),fun x r e=>(by cases e),h,rfl,fun _ _=>rfl,fun x hx=>(by cases hx)⟩
 | x::r,T,az,h=>by
  cases ak:x.q with
  | false=>exact⟨[],x::r,T,rfl,fun x hx=>(by cases hx),fun y B9 e=>(by cases e;exact ak),h,rfl,fun _ _=>rfl,fun x hx=>(by cases hx)⟩
  | true=>
   obtain⟨l9,run,oF,lT,hw,fM⟩:=KN (P:=P) h
   obtain⟨Jj,SI,SJ⟩:=az
   have key: ∃v,j_ P esc ops r (putA l9 (opI ops x.i).dst v) L H K∧(run=true→lg P (opI ops x.i) (cm l9) L H (fun r=>r=v))∧(run=false→v= .tup []):=by
    cases run with
    | true=>
     have fM:(match x.q with
      | true=>lg P (opI ops x.i) (cm l9) L H fun v=>j_ P esc ops r (putA l9 (opI ops x.i).dst v) L H K
      | false=>_):=fM
     rw[ak] at fM
     obtain⟨v,h1,h2⟩:=Uj _ fM
     exact⟨v,h1,fun _=>h2,fun e=>by cases e⟩
    | false=>exact⟨.tup [],fM,fun e=>(by cases e),fun _=>rfl⟩
   obtain⟨v,hv,Xk,lU⟩:=key
   obtain⟨pre,post,oq,rfl,ua,kg,rB,hlen,g_,yn⟩:=Hm r _ SJ hv
   have sB: ∀y∈pre,y∈pre++post:=fun y bt=>List.mem_append_left _ bt
   have yv: ∀t∈(opI ops x.i).looksAt ops,oq.getD t .undef=l9.getD t .undef:=fun t br=>by
    rw[g_ t fun y bt=>Jj t br y (List.mem_cons_of_mem _ (sB y bt)),B1 (Jj t br x (List.mem_cons_self ..))]
   refine⟨x::pre,post,oq,rfl,fun y bt=> ?_,kg,rB,by rw[hlen,w2,oF],fun t br=> ?_,fun y bt=> ?_⟩
   ·rcases List.mem_cons.1 bt with rfl | bt
    ·exact ak
    ·exact ua y bt
   ·rw[g_ t fun y bt=>br y (List.mem_cons_of_mem _ bt),B1 (br x (List.mem_cons_self ..)),lT]
   ·rcases List.mem_cons.1 bt with rfl | bt
    ·refine⟨v,run,⟨fun E a hs aP=>hw E a (fun t br=> ?_) ?_,fun aK=> ?_,lU,fun d bi bf=> ?_⟩⟩
     ·rw[←lT t,←yv t br];exact hs t br
     ·rw[←aP,hlen,w2,oF]
     ·rw[Ke (BO yv)];exact Xk aK
     ·rw[g_ d fun y bt=>SI d bi y (sB y bt),bi]
      exact Ov (by rw[hlen,w2] at bf;exact bf)
    ·exact yn y bt
def tn (A:Nat→List Nat):List Item→List Item→Prop
 | _,[]=>True
 | p,h::r=>(h.q=false→(∀y∈r,h.i∈A y.i)∧ ∀x∈p,x.i∈A h.i∨x.i∈h.jx)∧tn A (p++[h]) r
theorem tn.at {A:Nat→List Nat}: ∀{pre p:List Item} {h:Item} {r:List Item},tn A p (pre++h::r)→h.q=false→(∀y∈r,h.i∈A y.i)∧ ∀x∈p++pre,x.i∈A h.i∨x.i∈h.jx
 | [],p,h,r,hb,ak=>by
  rw[List.append_nil];exact hb.1 ak
 | x::pre,p,h,r,hb,ak=>by
  have:=tn.at (pre:=pre) (p:=p++[x]) hb.2 ak
  simpa using this
structure zS (ops:Array Oper) (ord:List Item) (A:Nat→List Nat):Prop where
 back: ∀i o,ops[i]?=some o→ ∀e∈o.after,Region.binds .any e=true→e.on<i
 SF: ∀i o,ops[i]?=some o→ ∀a∈A i,∃e∈o.after,Region.binds .any e=true∧(a=e.on∨a∈A e.on)
 all: ∀i,i<ops.size→ ∃x∈ord,x.i=i
 lt: ∀x∈ord,x.i<ops.size
 nodup:(ord.map (·.i)).Nodup
 aex: ∀x∈ord,∀t∈(opI ops x.i).looksAt ops,∀y∈ord,(opI ops y.i).dst=some t→y.i∈A x.i
 apart:lH ops ord
 kR:tn A [] ord
theorem lH.tail {ops:Array Oper}: ∀{p r:List Item},lH ops (p++r)→lH ops r
 | [],_,h=>h
 | _::p,_,h=>lH.tail (p:=p) h.2.2
theorem lH.Nl {ops:Array Oper}: ∀{p r:List Item},lH ops (p++r)→ ∀x∈p,(∀t∈(opI ops x.i).looksAt ops,∀y∈r,(opI ops y.i).dst≠some t)∧ ∀d,(opI ops x.i).dst=some d→ ∀y∈r,(opI ops y.i).dst≠some d
 | [],_,_,x,hx=>by cases hx
 | z::p,r,h,x,hx=>by
  rcases List.mem_cons.1 hx with rfl | hx
  ·exact⟨fun t br y bt=>h.1 t br y (List.mem_cons_of_mem _ (List.mem_append_right _ bt)),fun d bi y bt=>h.2.1 d bi y (List.mem_append_right _ bt)⟩
  ·exact lH.Nl (p:=p) h.2.2 x hx
theorem lH.inj {ops:Array Oper}: ∀{l:List Item},lH ops l→ ∀x∈l,∀y∈l,x.i≠y.i→ ∀d,(opI ops x.i).dst=some d→(opI ops y.i).dst≠some d
 | [],_,x,hx,_,_,_,_,_=>by cases hx
 | z::r,h,x,hx,y,bt,ck,d,bi=>by
  rcases List.mem_cons.1 hx with ex | Ni
  ·rcases List.mem_cons.1 bt with DZ | F8
   ·exact absurd (by rw[ex,DZ]) ck
   ·exact h.2.1 d (by rw[←ex];exact bi) y F8
  ·rcases List.mem_cons.1 bt with DZ | F8
   ·exact fun e=>h.2.1 d (by rw[←DZ];exact e) x Ni bi
   ·exact lH.inj h.2.2 x Ni y F8 ck d bi
theorem rU {ops:Array Oper} {i:Nat} (h:i<ops.size):ops[i]?=some (opI ops i):=by
 unfold opI
 rw[Array.getElem?_eq_getElem h,Array.getD_eq_getD_getElem?,Array.getElem?_eq_getElem h];rfl
def CO (ops:Array Oper) (S:Array Bool):Prop:= ∀i o,ops[i]?=some o→S.getD i false=true→ ∀e∈o.after,Region.binds .any e=true→S.getD e.on false=true
theorem SG {ops:Array Oper} {ord:List Item} {A:Nat→List Nat} (D:zS ops ord A) {S:Array Bool} (hs:S.size=ops.size) (hc:CO ops S): ∀(i:Nat) o,ops[i]?=some o→(∀e∈o.after,Region.binds .any e=true→S.getD e.on false=true)→ ∀a∈A i,S.getD a false=true:=by
 intro i
 induction i using Nat.strongRecOn with
 | _ i bR=>
  intro o aC aK a a3
  obtain⟨e,he,hb,rE⟩:=D.SF i o aC a a3
  have sC:=aK e he hb
  rcases rE with rfl | rE
  ·exact sC
  ·have bf:=D.back i o aC e he hb
   have cQ:e.on<ops.size:=by
    rcases Nat.lt_or_ge e.on ops.size with h | h
    ·exact h
    ·rw[Array.getD_eq_getD_getElem?,Array.getElem?_eq_none (by omega)] at sC;cases sC
   exact bR e.on bf _ (rU cQ) (fun dP Wh dZ=>hc e.on _ (rU cQ) sC dP Wh dZ) a rE
theorem OQ {ops:Array Oper} {S:Array Bool} (hs:S.size=ops.size) {i:Nat} (h:i∈Region.ready .any ops S):i<ops.size∧S.getD i false=false∧ ∀e∈(opI ops i).after,Region.binds .any e=true→S.getD e.on false=true:=by
 unfold Region.ready at h
 rw[List.mem_filter,List.mem_range] at h
 obtain⟨bf,h⟩:=h
 rw[rU bf] at h
 simp only[Option.map_some,Option.getD_some,Bool.and_eq_true,Bool.not_eq_true',Array.all_eq_true_iff_forall_mem] at h
 obtain⟨h1,h2⟩:=h
 refine⟨bf,?_,fun e he hb=> ?_⟩
 ·rw[Array.getD_eq_getD_getElem?,Array.getElem?_eq_getElem (by omega)] at h1 ⊢;exact h1
 ·have:=h2 e he
  rw[hb] at this;simpa using this
theorem aaO {ops:Array Oper} {ord:List Item} {A:Nat→List Nat} (D:zS ops ord A) {S:Array Bool} (hs:S.size=ops.size) (h:Region.ready .any ops S=[]): ∀i,i<ops.size→S.getD i false=true:=by
 intro i
 induction i using Nat.strongRecOn with
 | _ i bR=>
  intro bf
  cases ak:S.getD i false with
  | true=>rfl
  | false=>
   exfalso
   have:i∈Region.ready .any ops S:=by
    unfold Region.ready
    rw[List.mem_filter,List.mem_range]
    refine⟨bf,?_⟩
    rw[rU bf]
    simp only[Option.map_some,Option.getD_some,Bool.and_eq_true,Bool.not_eq_true',Array.all_eq_true_iff_forall_mem]
    refine⟨?_,fun e he=> ?_⟩
    ·rw[Array.getD_eq_getD_getElem?,Array.getElem?_eq_getElem (by omega)] at ak ⊢;exact ak
    ·cases hb:Region.binds .any e with
     | false=>rfl
     | true=>
      have aL:=D.back i _ (rU bf) e he hb
      simpa using bR e.on aL (by omega)
   rw[h] at this;cases this
theorem JR {α:Type} (p BR:α→Bool) (j:α) (aI:p j=true) (sD:BR j=false) (hk: ∀k,k≠j→p k=BR k): ∀l:List α,l.Nodup→j∈l→l.countP p=l.countP BR+1
 | [],_,h=>by cases h
 | k::l,aH,h=>by
  rw[List.nodup_cons] at aH
  by_cases EJ:k=j
  ·subst EJ
   rw[List.countP_cons_of_pos aI,List.countP_cons_of_neg (by simp[sD])]
   congr 1
   refine List.countP_congr fun x hx=> ?_
   rw[hk x (fun e=>aH.1 (e▸hx))]
  ·have aM:j∈l:=(List.mem_cons.1 h).resolve_left fun e=>EJ e.symm
   have bR:=JR p BR j aI sD hk l aH.2 aM
   rw[List.countP_cons,List.countP_cons,hk k EJ,bR];omega
def left (n:Nat) (S:Array Bool):Nat:=(List.range n).countP fun j=> !S.getD j false
theorem x7 {S:Array Bool} {i j:Nat}:(S.setIfInBounds i true).getD j false=if i=j∧i<S.size then true else S.getD j false:=by
 rw[Array.getD_eq_getD_getElem?,Array.getD_eq_getD_getElem?,Array.getElem?_setIfInBounds]
 by_cases h:i=j
 ·subst h
  by_cases aL:i<S.size
  ·simp[aL]
  ·simp[aL]
 ·simp[h]
theorem Zl {n:Nat} {S:Array Bool} {i:Nat} (hs:S.size=n) (hi:i<n) (h:S.getD i false=false):left n S=left n (S.setIfInBounds i true)+1:=by
 refine JR _ _ i (by simp[h]) ?_ (fun k hk=> ?_) _ List.nodup_range (List.mem_range.2 hi)
 ·rw[x7,if_pos ⟨rfl,by omega⟩];rfl
 ·rw[x7,if_neg (fun e=>hk e.1.symm)]
theorem Zm {n:Nat} {S:Array Bool} (h:left n S=0): ∀i,i<n→S.getD i false=true:=fun i hi=>by
 have:=(List.countP_eq_zero.1 h) i (List.mem_range.2 hi)
 simpa using this
def tX:List Nat→List AV→List AV
 | [],T=>T
 | d::jd,T=>tX jd (T.set d .undef)
theorem AZ: ∀(jd:List Nat) (T:List AV) (t:Nat),(t∈jd→(tX jd T).getD t .undef= .undef)∧(t ∉ jd→(tX jd T).getD t .undef=T.getD t .undef)
 | [],T,t=>⟨fun h=>(by cases h),fun _=>rfl⟩
 | d::jd,T,t=>by
  obtain⟨h1,h2⟩:=AZ jd (T.set d .undef) t
  refine⟨fun h=> ?_,fun h=> ?_⟩
  ·by_cases bi:t∈jd
   ·exact h1 bi
   ·have e:t=d:=(List.mem_cons.1 h).resolve_right bi
    show(tX jd (T.set d .undef)).getD t .undef= .undef
    rw[h2 bi,rr]
    by_cases aL:d=t∧d<T.length
    ·rw[if_pos aL]
    ·rw[if_neg aL,List.getD_eq_getElem?_getD,List.getElem?_eq_none (by rcases Nat.lt_or_ge d T.length with q | q;exact absurd ⟨e.symm,q⟩ aL;omega)];rfl
  ·show(tX jd (T.set d .undef)).getD t .undef=_
   rw[h2 fun hm=>h (List.mem_cons_of_mem _ hm),rr,if_neg fun hm=>h (by rw[hm.1];exact List.mem_cons_self ..)]
section
variable {P:Program} {esc:List Nat} {ops:Array Oper} {ord:List Item} {A:Nat→List Nat} {Q:Exit→St→Prop} {cs:Env}
structure I4 [cB] (P:Program) (esc:List Nat) (ops:Array Oper) (ord:List Item) (Q:Exit→St→Prop) (cs:Env) (S:Array Bool) (a:Act) (w:World) (pre post:List Item) (E:Env) (T:List AV) (L:List (Nat×List AV)) (H:List Blk):Prop where
 pD:ord=pre++post
 zI: ∀x∈post,S.getD x.i false=false
 head: ∀x r,post=x::r→x.q=false
 DR:j_ P esc ops post T L H (fun T L H=>Q .normal ⟨T,L,H⟩)
 facts: ∀x∈pre,S.getD x.i false=false→x.q=true∧ ∃v run,vj P ops L H T (opI ops x.i) v run
 iq: ∀t,(∃x∈pre,S.getD x.i false=false∧(opI ops x.i).dst=some t)∨V3 E (T.getD t .undef) (a.tmps.getD t undef)
 size:T.length=a.tmps.size
 h:SimH E H
 l:SimL E L
 nT:Good cs E
 bK: ∀x∈ord,S.getD x.i false=false→px (opI ops x.i)=true→x.q=true→ ∀d,(opI ops x.i).dst=some d→E.mL d=none
 Dw:a.defers=[]
 w:E.w=w
theorem Oz {a:Act} {d:Option Nat} {u:Value} {t:Nat} (h:d≠some t):(a.put d u).tmps.getD t undef=a.tmps.getD t undef:=by
 cases d with
 | none=>rfl
 | some s=>
  show(a.tmps.setIfInBounds s u).getD t undef=_
  rw[Array.getD_eq_getD_getElem?,Array.getD_eq_getD_getElem?,Array.getElem?_setIfInBounds_ne (fun e=>h (by rw[e]))]
theorem OB {a:Act} {d:Nat} {u:Value} (h:d<a.tmps.size):(a.put (some d) u).tmps.getD d undef=u:=by
 show(a.tmps.setIfInBounds d u).getD d undef=_
 rw[Array.getD_eq_getD_getElem?,Array.getElem?_setIfInBounds_self];simp[h]
theorem OC (a:Act) (d:Option Nat) (u:Value):(a.put d u).tmps.size=a.tmps.size:=by
 cases d<;>simp[Act.put]
theorem Oy {a:Act} (d:Option Nat) (u:Value) (h:a.defers=[]):(a.put d u).defers=[]:=by
 cases d<;>exact h
theorem SE {o:Oper} {a:Act} {T:List AV} {L:List (Nat×List AV)} {H:List Blk} {v:AV} {E:Env} (aR:SimH E H) (bY:SimL E L) (a3:px o=true) (aH: ∀d,o.dst=some d→E.mL d=none) (h:lg P o (cm T) L H (fun r=>r=v)):
  ∃t u E',V3 E' v u∧o.dst=some t∧Step E E'∧SimH E' H∧SimL E' L∧(∀s,s≠t→E'.mL s=E.mL s)∧True∧ ∀(next:Act→World→Prop) Q,next (a.put o.dst u) E'.w→o.wp P a E.w next Q:=by
 obtain⟨dst,op,ty,pos,after,guard⟩:=o
 cases op
 all_goals try (cases a3;done)
 rename_i e
 obtain⟨z,aP,h⟩:=fs (show Jc P e dst L (fun r=>r=v) from h)
 obtain⟨t,br,h⟩:=fs h
 obtain⟨c,hc,h⟩:=fs h
 obtain⟨hs,h⟩:=pE h
 obtain⟨ak,ci⟩:=pE h
 have ci:AV.fx t 0=v:=ci
 clear h
 subst ci
 have ak:=Ss ak
 subst ak
 obtain⟨i,vh,q1,q2,q3,q4⟩:=vg (E:=E) aP
 obtain⟨E',bB,e2,dK,iM,ig,_,mF⟩:=NO (ty:=e) aR bY (m9.alloc E.w (.cells vh.cells e (0,0))) hc (aH t br) (Iz hs q4)
 refine⟨t,_,E',ig,br,e2,dK,iM,mF,trivial,fun next Q hk=> ?_⟩
 unfold Oper.wp
 rw[show execOp a.eval ⟨dst,.alloc e,ty,pos,after,guard⟩=(do pure (Next.value (←Instr.alloc e true (.tuple #[])))) from rfl]
 refine IU (w':=E'.w) ?_ hk
 rw[bB]
 simp[Instr.alloc,zeroValue,typeInfo,q1,q2,newVar,newRow]
theorem TU [cB] (D:zS ops ord A): ∀(nd:Nat) (S:Array Bool) (a:Act) (w:World) (pre post:List Item) (E:Env) (T:List AV) (L:List (Nat×List AV)) (H:List Blk),
  S.size=ops.size→left ops.size S=nd→CO ops S→I4 P esc ops ord Q cs S a w pre post E T L H→wpAny P .any ops (na cs Q) nd S a w:=by
 have fin: ∀(S:Array Bool) (a:Act) (w:World) (pre post:List Item) (E:Env) (T:List AV) (L:List (Nat×List AV)) (H:List Blk),(∀i,i<ops.size→S.getD i false=true)→I4 P esc ops ord Q cs S a w pre post E T L H→na cs Q .normal a w:=by
  intro S a w pre post E T L H eo I
  have aI:post=[]:=by
   cases post with
   | nil=>rfl
   | cons x r=>
    have h1:=I.zI x (List.mem_cons_self ..)
    rw[eo x.i (D.lt x (by rw[I.pD];simp))] at h1;cases h1
  subst aI
  refine⟨rfl,⟨T,L,H⟩,E,I.DR,I.w,I.nT,⟨I.h,I.l,fun t=> ?_,I.size⟩,I.Dw⟩
  rcases I.iq t with⟨x,hx,hu,_⟩ | h
  ·rw[eo x.i (D.lt x (by rw[I.pD];simp[hx]))] at hu;cases hu
  ·exact h
 intro nd
 induction nd with
 | zero=>
  intro S a w pre post E T L H hs hf hc I
  have eo:=Zm hf
  refine⟨?_,fin S a w pre post E T L H eo I⟩
  cases aK:Region.ready .any ops S with
  | nil=>rfl
  | cons i l=>
   have:=OQ hs (i:=i) (by rw[aK];exact List.mem_cons_self ..)
   rw[eo i this.1] at this;cases this.2.1
 | succ nd bR=>
  intro S a w pre post E T L H hs hf hc I
  refine⟨fun aK=>fin S a w pre post E T L H (aaO D hs aK) I,fun i hi=> ?_⟩
  obtain⟨bf,qn,sC⟩:=OQ hs hi
  have Ep:=SG D hs hc i _ (rU bf) sC
  have K2:(S.setIfInBounds i true).size=ops.size:=by simpa using hs
  have AW:left ops.size (S.setIfInBounds i true)=nd:=by have:=Zl hs bf qn;omega
  have qf:CO ops (S.setIfInBounds i true):=by
   intro j o aC aM e he hb
   rw[x7] at aM ⊢
   by_cases nh:i=j
   ·subst nh
    have:o=opI ops i:=by rw[rU bf] at aC;exact(Option.some.inj aC).symm
    subst this
    split
    ·rfl
    ·exact sC e he hb
   ·rw[if_neg fun q=>nh q.1] at aM
    split
    ·rfl
    ·exact hc j o aC aM e he hb
  have Hr: ∀j,(S.setIfInBounds i true).getD j false=false→S.getD j false=false∧j≠i:=fun j aM=>by
   rw[x7] at aM
   split at aM
   ·cases aM
   ·rename_i q;exact⟨aM,fun e=>q ⟨e.symm,by omega⟩⟩
  have zq: ∀j,j≠i→S.getD j false=false→(S.setIfInBounds i true).getD j false=false:=fun j aM h=>by
   rw[x7,if_neg fun q=>aM q.1.symm];exact h
  obtain⟨y,bt,mg⟩:=D.all i bf
  subst mg
  have mg:y.i=y.i:=rfl
  let jd:List Nat:=(pre.filter fun x=> !S.getD x.i false).filterMap fun x=>(opI ops x.i).dst
  have EC: ∀t,t∈jd↔ ∃x∈pre,S.getD x.i false=false∧(opI ops x.i).dst=some t:=fun t=>by
   simp only[jd,List.mem_filterMap,List.mem_filter,Bool.not_eq_true']
   constructor
   ·rintro⟨x,⟨h1,h2⟩,aN⟩;exact⟨x,h1,h2,aN⟩
   ·rintro⟨x,h1,h2,aN⟩;exact⟨x,⟨h1,h2⟩,aN⟩
  have cq: ∀t,V3 E ((tX jd T).getD t .undef) (a.tmps.getD t undef):=fun t=>by
   by_cases h:t∈jd
   ·rw[(AZ jd T t).1 h];exact V3.undef _ _
   ·rw[(AZ jd T t).2 h]
    exact(I.iq t).resolve_left fun q=>h ((EC t).2 q)
  have yv: ∀t∈(opI ops y.i).looksAt ops,t ∉ jd:=fun t br hm=>by
   obtain⟨x,hx,hu,bi⟩:=(EC t).1 hm
   have:=Ep x.i (by rw[←mg];rw[←mg] at br;exact D.aex y bt t br x (by rw[I.pD];simp[hx]) bi)
   rw[this] at hu;cases hu
  have LI: ∀t∈(opI ops y.i).looksAt ops,V3 E (T.getD t .undef) (a.tmps.getD t undef):=fun t br=>(I.iq t).resolve_left fun q=>yv t br ((EC t).2 q)
  have K6: ∀t∈(opI ops y.i).looksAt ops,(tX jd T).getD t .undef=T.getD t .undef:=fun t br=>(AZ jd T t).2 (yv t br)
  have Jb: ∀E':Env,(∀t,(opI ops y.i).dst≠some t→E'.mL t=E.mL t)→ ∀x∈ord,(S.setIfInBounds y.i true).getD x.i false=false→px (opI ops x.i)=true→x.q=true→ ∀d,(opI ops x.i).dst=some d→E'.mL d=none:=fun E' hml x hx hu a3 Xi d bi=>by
   obtain⟨wq,wu⟩:=Hr _ hu
   rw[hml d (D.apart.inj x hx y bt wu d bi)]
   exact I.bK x hx wq a3 Xi d bi
  unfold wpOp
  rw[rU bf]
  simp only
  have sB:y∈pre∨y∈post:=by rw[I.pD] at bt;exact List.mem_append.1 bt
  rcases sB with ug | ug
  ·
   obtain⟨ak,v,run,F⟩:=I.facts y ug (by rw[mg];exact qn)
   rw[mg] at F
   have hw:=F.cy E a LI I.size
   have next: ∀(u:Value) (E':Env),Step E E'→SimH E' H→SimL E' L→(∀t,(opI ops y.i).dst≠some t→E'.mL t=E.mL t)→V3 E' v u→wpAny P .any ops (na cs Q) nd (S.setIfInBounds y.i true) (a.put (opI ops y.i).dst u) E'.w:=fun u E' bm rF rG hml hv=>by
    refine bR _ _ _ pre post E' T L H K2 AW qf ⟨I.pD,fun x hx=>zq _ (fun e=> ?_) (I.zI x hx),I.head,I.DR,fun x hx hu=>I.facts x hx (Hr _ hu).1,fun t=> ?_,by rw[OC];exact I.size,rF,rG,I.nT.step bm,Jb E' hml,Oy _ _ I.Dw,rfl⟩
    ·have mO:=D.nodup
     rw[I.pD,List.map_append,List.nodup_append] at mO
     exact mO.2.2 y.i (List.mem_map_of_mem ug) x.i (List.mem_map_of_mem hx) (by rw[mg,e])
    ·by_cases bi:(opI ops y.i).dst=some t
     ·right
      rw[bi]
      by_cases aL:t<T.length
      ·rw[F.put t bi aL,OB (by rw[←I.size];exact aL)];exact hv
      ·rw[List.getD_eq_getElem?_getD,List.getElem?_eq_none (Nat.not_lt.1 aL)];exact V3.undef _ _
     ·rcases I.iq t with⟨x,hx,hu,yJ⟩ | h
      ·exact .inl ⟨x,hx,zq _ (fun e=>bi (by rw[←e];exact yJ)) hu,yJ⟩
      ·right;rw[Oz bi];exact h.le bm.le
   cases run with
   | true=>
    rw[if_pos hw]
    refine .inl ?_
    have rB:=F.q8 rfl
    cases Eo:px (opI ops y.i) with
    | true=>
     obtain⟨t,u,E',hv,Wg,q1,q2,q3,q4,_,cV⟩:=SE (P:=P) (a:=a) I.h I.l Eo (fun t br=>I.bK y bt (by rw[mg];exact qn) Eo ak t br) rB
     rw[←I.w]
     exact cV _ _ (next u E' q1 q2 q3 (fun s hs=>q4 s fun e=>hs (by rw[Wg,e])) hv)
    | false=>
    rw[vL Eo,←Ki (BO K6)] at rB
    rw[←I.w]
    refine Oper.wp_mono (fun ia w' ⟨eW,u,E',he,eN,hqt,hv,a3⟩=> ?_) (Kk cq (Sub.refl L H) I.h I.l (Az rB))
    subst he;subst eN;subst a3
    exact next u E' hqt.step (hqt.simH I.h) (hqt.simL I.h I.l) (fun t _=>by rw[hqt.mL]) hv
   | false=>
    rw[if_neg (by rw[hw];simp)]
    have hv:=F.no rfl
    subst hv
    rw[←I.w]
    exact next undef E (Step.refl E) I.h I.l (fun _ _=>rfl) ⟨[],rfl,aD.nil⟩
  ·
   have kg: ∃r,post=y::r:=by
    cases aI:post with
    | nil=>rw[aI] at ug;cases ug
    | cons x r=>
     rw[aI] at ug
     rcases List.mem_cons.1 ug with rfl | Xl
     ·exact⟨r,rfl⟩
     ·have hb:=D.kR
      rw[I.pD,aI] at hb
      have:=(hb.at (I.head x r aI)).1 y Xl
      rw[mg] at this
      have h1:=Ep x.i this
      rw[I.zI x (by rw[aI];exact List.mem_cons_self ..)] at h1;cases h1
   obtain⟨r,WX⟩:=kg
   subst WX
   have ak:=I.head y r rfl
   have rB:=I.DR
   obtain⟨l9,run,oF,lT,hw,fM⟩:=KN (P:=P) rB
   have hw:=hw E a LI I.size
   have Er:=D.apart
   rw[I.pD] at Er
   have Lp:=lH.Nl Er
   have V6:=(show tn A [] (pre++y::r) from I.pD▸D.kR).at ak
   have mO:=D.nodup
   rw[I.pD,List.map_append,List.map_cons,List.nodup_append,List.nodup_cons] at mO
   have WU: ∀x∈pre,S.getD x.i false=false→x.i∈y.jx:=fun x hx hu=>by
    rcases V6.2 x (by simpa using hx) with h | h
    ·rw[mg] at h
     have:=Ep x.i h
     rw[hu] at this;cases this
    ·exact h

   have next: ∀(v:AV) (u:Value) (L':List (Nat×List AV)) (H':List Blk) (E':Env),Step E E'→SimH E' H'→SimL E' L'→(∀t,(opI ops y.i).dst≠some t→E'.mL t=E.mL t)→V3 E' v u→j_ P esc ops r (putA l9 (opI ops y.i).dst v) L' H' (fun T L H=>Q .normal ⟨T,L,H⟩)→
     (∀x∈pre,S.getD x.i false=false→ ∃v run,vj P ops L' H' l9 (opI ops x.i) v run)→
     wpAny P .any ops (na cs Q) nd (S.setIfInBounds y.i true) (a.put (opI ops y.i).dst u) E'.w:=by
    intro v u L' H' E' bm aR bY hml hv hK Wn
    obtain⟨GN,aao,oq,Bc,WS,WW,Wi,hlen,g_,yn⟩:=Hm r _ (lH.tail (p:=[y]) (lH.tail Er)) hK
    have ET: ∀z∈GN,z∈r:=fun z aP=>by rw[Bc];exact List.mem_append_left _ aP
    have K3: ∀t,(∀z∈y::r,(opI ops z.i).dst≠some t)→oq.getD t .undef=l9.getD t .undef:=fun t br=>by
     rw[g_ t fun z aP=>br z (List.mem_cons_of_mem _ (ET z aP)),B1 (br y (List.mem_cons_self ..))]
    refine bR _ _ _ (pre++y::GN) aao E' oq L' H' K2 AW qf ⟨by rw[I.pD,Bc];simp,fun x hx=> ?_,WW,Wi,fun x hx hu=> ?_,fun t=> ?_,by rw[OC,hlen,w2,oF];exact I.size,aR,bY,I.nT.step bm,Jb E' hml,Oy _ _ I.Dw,rfl⟩
    ·have Bl:x∈r:=by rw[Bc];exact List.mem_append_right _ hx
     exact zq _ (fun e=>mO.2.1.1 (by rw[mg,←e];exact List.mem_map_of_mem Bl)) (I.zI x (List.mem_cons_of_mem _ Bl))
    ·obtain⟨wq,wu⟩:=Hr _ hu
     rcases List.mem_append.1 hx with hx | hx
     ·refine⟨(I.facts x hx wq).1,?_⟩
      obtain⟨eW,run',F⟩:=Wn x hx wq
      refine⟨eW,run',F.mono (by rw[hlen,w2]) (fun t br=>K3 t fun z aP=>(Lp x hx).1 t br z aP) fun d bi=>K3 d fun z aP=>(Lp x hx).2 d bi z aP⟩
     ·rcases List.mem_cons.1 hx with rfl | hx
      ·exact absurd mg wu
      ·exact⟨WS x hx,yn x hx⟩
    ·by_cases rA: ∃z∈GN,(opI ops z.i).dst=some t
     ·obtain⟨z,aP,pu⟩:=rA
      refine .inl ⟨z,by simp[aP],zq _ (fun e=>mO.2.1.1 (by rw[mg,←e];exact List.mem_map_of_mem (ET z aP))) (I.zI z (List.mem_cons_of_mem _ (ET z aP))),pu⟩
     ·have bB:=g_ t fun z aP q=>rA ⟨z,aP,q⟩
      by_cases bi:(opI ops y.i).dst=some t
      ·right
       rw[mg] at bi bB
       rw[bB,bi]
       by_cases aL:t<l9.length
       ·rw[Ov aL,OB (by rw[←I.size,←oF];exact aL)];exact hv
       ·rw[List.getD_eq_getElem?_getD,List.getElem?_eq_none (by rw[w2];exact Nat.not_lt.1 aL)];exact V3.undef _ _
      ·rw[B1 bi,lT] at bB
       rcases I.iq t with⟨x,hx,hu,yJ⟩ | h
       ·refine .inl ⟨x,by simp[hx],zq _ (fun e=>bi (by rw[mg,←e];exact yJ)) hu,yJ⟩
       ·right;rw[bB,Oz (by rw[←mg];exact bi)];exact h.le bm.le
   cases run with
   | true=>
    rw[if_pos hw]
    refine .inl ?_
    have fM:(match y.q with
     | true=>_
     | false=>j9 P esc (opI ops y.i) (cm l9) L H fun v L' H'=>rn P ops y.jx l9 L' H'∧j_ P esc ops r (putA l9 (opI ops y.i).dst v) L' H' (fun T L H=>Q .normal ⟨T,L,H⟩)):=fM
    rw[ak] at fM
    have fM:j9 P esc (opI ops y.i) (cm l9) L H fun v L' H'=>rn P ops y.jx l9 L' H'∧j_ P esc ops r (putA l9 (opI ops y.i).dst v) L' H' (fun T L H=>Q .normal ⟨T,L,H⟩):=fM
    rw[←Ui (BO fun t br=>(K6 t br).trans (lT t).symm)] at fM
    rw[←I.w]
    refine Oper.wp_mono (fun ia w' ⟨v,u,L',H',E',⟨ng,hK⟩,eN,q1,q2,q3,q4,a3,hml⟩=> ?_) (evOp_sound cq I.h I.l fM)
    subst eN;subst a3
    refine next v u L' H' E' q1 q2 q3 hml q4 hK fun x hx hu=> ?_
    obtain⟨f1,f2,f3⟩:=KC ng x.i (WU x hx hu)
    refine⟨_,true,⟨fun E a hs aP=> ?_,fun _=>f3,fun e=>(by cases e),fun d bi bf=> ?_⟩⟩
    ·unfold Region.wanted
     cases yp:(opI ops x.i).guard with
     | none=>rfl
     | some g=>rw[yp] at f1;cases f1
    ·unfold sj;rw[bi]
   | false=>
    rw[if_neg (by rw[hw];simp)]
    rw[←I.w]
    refine next (.tup []) undef L H E (Step.refl E) I.h I.l (fun _ _=>rfl) ⟨[],rfl,aD.nil⟩ fM fun x hx hu=> ?_
    obtain⟨_,eW,run',F⟩:=I.facts x hx hu
    exact⟨eW,run',F.mono oF (fun t _=>lT t) fun d _=>lT d⟩
end
def z3 (ops:Array Oper):List Item→Bool
 | []=>true
 | x::r=>((opI ops x.i).looksAt ops).all (fun t=>(x::r).all fun y=>(opI ops y.i).dst !=some t)&&(match(opI ops x.i).dst with
  | some d=>r.all fun y=>(opI ops y.i).dst !=some d
  | none=>true)&&z3 ops r
theorem Jl {ops:Array Oper}: ∀{l:List Item},z3 ops l=true→lH ops l
 | [],_=>trivial
 | x::r,h=>by
  simp only[z3,Bool.and_eq_true] at h
  obtain⟨⟨h1,h2⟩,aN⟩:=h
  refine⟨fun t br y bt=> ?_,fun d bi y bt=> ?_,Jl aN⟩
  ·have:=List.all_eq_true.1 (List.all_eq_true.1 h1 t br) y bt
   simpa using this
  ·rw[bi] at h2
   have:=List.all_eq_true.1 h2 y bt
   simpa using this
def z7 (A:Nat→List Nat):List Item→List Item→Bool
 | _,[]=>true
 | p,h::r=>(h.q || (r.all (fun y=>(A y.i).contains h.i)&&p.all fun x=>(A h.i).contains x.i || h.jx.contains x.i))&&z7 A (p++[h]) r
theorem Jp {A:Nat→List Nat}: ∀{l p:List Item},z7 A p l=true→tn A p l
 | [],_,_=>trivial
 | h::r,p,hb=>by
  simp only[z7,Bool.and_eq_true] at hb
  refine⟨fun ak=> ?_,Jp hb.2⟩
  have h1:=hb.1
  rw[ak,Bool.false_or,Bool.and_eq_true] at h1
  refine⟨fun y bt=>by simpa using List.all_eq_true.1 h1.1 y bt,fun x hx=> ?_⟩
  have:=List.all_eq_true.1 h1.2 x hx
  simpa using this
def BJ:List Nat→Bool
 | []=>true
 | x::r=> !r.contains x&&BJ r
theorem NT: ∀{l:List Nat},BJ l=true→l.Nodup
 | [],_=>List.nodup_nil
 | x::r,h=>by
  simp only[BJ,Bool.and_eq_true] at h
  rw[List.nodup_cons]
  exact⟨by simpa using h.1,NT h.2⟩
def vD (ops:Array Oper) (ord:List Item) (A:Nat→List Nat):Bool:=
 (List.range ops.size).all (fun i=>(opI ops i).after.toList.all (fun e=> !Region.binds .any e || decide (e.on<i))&&(A i).all fun a=>(opI ops i).after.toList.any fun e=>Region.binds .any e&&(a==e.on || (A e.on).contains a))&&
 (List.range ops.size).all (fun i=>ord.any fun x=>x.i==i)&&ord.all (fun x=>decide (x.i<ops.size))&&BJ (ord.map (·.i))&&
 ord.all (fun x=>((opI ops x.i).looksAt ops).all fun t=>ord.all fun y=>(opI ops y.i).dst !=some t || (A x.i).contains y.i)&&z3 ops ord&&z7 A [] ord
theorem TW {ops:Array Oper} {ord:List Item} {A:Nat→List Nat} (ix: ∀i,ops.size≤i→A i=[]) (h:vD ops ord A=true):zS ops ord A:=by
 simp only[vD,Bool.and_eq_true] at h
 obtain⟨⟨⟨⟨⟨⟨h1,h2⟩,aN⟩,be⟩,ci⟩,cK⟩,gC⟩:=h
 have get: ∀i o,ops[i]?=some o→i<ops.size∧o=opI ops i:=fun i o aC=>by
  have bf:i<ops.size:=by
   rcases Nat.lt_or_ge i ops.size with h | h
   ·exact h
   ·rw[Array.getElem?_eq_none h] at aC;cases aC
  rw[rU bf] at aC
  exact⟨bf,(Option.some.inj aC).symm⟩
 refine⟨fun i o aC e he hb=> ?_,fun i o aC a a3=> ?_,fun i hi=> ?_,fun x hx=> ?_,NT be,fun x hx t br y bt bi=> ?_,Jl cK,Jp gC⟩
 ·obtain⟨bf,rfl⟩:=get i o aC
  have:=List.all_eq_true.1 h1 i (List.mem_range.2 bf)
  rw[Bool.and_eq_true] at this
  have:=List.all_eq_true.1 this.1 e (by simpa using he)
  rw[hb] at this;simpa using this
 ·obtain⟨bf,rfl⟩:=get i o aC
  have:=List.all_eq_true.1 h1 i (List.mem_range.2 bf)
  rw[Bool.and_eq_true] at this
  have:=List.all_eq_true.1 this.2 a a3
  obtain⟨e,he,hc⟩:=List.any_eq_true.1 this
  rw[Bool.and_eq_true] at hc
  exact⟨e,by simpa using he,hc.1,by simpa using hc.2⟩
 ·obtain⟨x,hx,hc⟩:=List.any_eq_true.1 (List.all_eq_true.1 h2 i (List.mem_range.2 hi))
  exact⟨x,hx,by simpa using hc⟩
 ·simpa using List.all_eq_true.1 aN x hx
 ·have:=List.all_eq_true.1 (List.all_eq_true.1 (List.all_eq_true.1 ci x hx) t br) y bt
  rw[Bool.or_eq_true] at this
  rcases this with h | h
  ·rw[bi] at h;simp at h
  ·simpa using h
def xM (j6:List (List Nat)) (i:Nat):List Nat:=j6.getD i []
theorem Env.J1 (E:Env):Step E {E with w:=E.w.drew}:=
 ⟨⟨fun _ h=>h,fun _ h=>h,fun _ _=>rfl,fun _ _=>rfl,fun _=>Nat.le_refl _,fun _ _ h _=>⟨h,rfl,rfl⟩,fun _ _ h=>h⟩,rfl,rfl,rfl,Nat.le_refl _,fun _ _ _ _=>rfl,fun _ _ h=> .inl h,fun _ h=> .inl h,fun _ h=> .inl h,fun _ h=> .inl h⟩
theorem T1 {E:Env} {H:List Blk} (h:SimH E H):SimH {E with w:=E.w.drew} H:=
 {h with
  heap:=fun b c hb=>by
   obtain⟨blk,a7,ty,q1,dL,q2,q3,q4,cH,cV⟩:=h.heap b c hb
   exact⟨blk,a7,ty,q1,dL,q2,q3,q4,cH,fun i j row a aK aM=>by obtain⟨u,hu,hv⟩:=cV i j row a aK aM;exact⟨u,hu,hv.le (Env.J1 E).le.b3⟩⟩}
theorem Zk (n:Nat):left n (Array.replicate n false)=n:=by
 unfold left
 have:(List.range n).countP (fun j=> !(Array.replicate n false).getD j false)=(List.range n).countP (fun _=>true):=by
  refine List.countP_congr fun x hx=> ?_
  rw[Array.getD_eq_getD_getElem?,Array.getElem?_replicate]
  split<;>simp
 rw[this,List.countP_true,List.length_range]
def tG:List (Nat×List AV)→List (Nat×List AV)→Bool
 | [],_=>true
 | (t,_)::r,L=>(eK L t).isNone&&tG r L
def tv (ops:Array Oper) (L:List (Nat×List AV)):List Item→Bool
 | []=>true
 | x::r=>(match x.q&&px (opI ops x.i) with
  | false=>true
  | true=>match(opI ops x.i).dst with
   | none=>true
   | some d=>(eK L d).isNone)&&tv ops L r
theorem KG {E:Env} {L:List (Nat×List AV)} (bY:SimL E L): ∀{iu:List (Nat×List AV)},tG iu L=true→SimL E (iu++L)
 | [],_=>bY
 | (t,c)::r,h=>by
  simp only[tG,Bool.and_eq_true,Option.isNone_iff_eq_none] at h
  exact(KG bY h.2).cons (bY.none h.1)
theorem Jd {ops:Array Oper} {E:Env} {L:List (Nat×List AV)} (bY:SimL E L): ∀{l:List Item},tv ops L l=true→ ∀x∈l,px (opI ops x.i)=true→x.q=true→ ∀d,(opI ops x.i).dst=some d→E.mL d=none
 | [],_,x,hx,_,_,_,_=>by cases hx
 | y::r,h,x,hx,a3,ak,d,bi=>by
  simp only[tv,Bool.and_eq_true] at h
  rcases List.mem_cons.1 hx with rfl | hx
  ·have h1:=h.1
   rw[ak,a3] at h1
   simp only[Bool.and_self] at h1
   rw[bi] at h1
   exact bY.none (by simpa using h1)
  ·exact Jd bY h.2 x hx a3 ak d bi
theorem WpS.OT [cB] {P:Program} {esc:List Nat} {c:Code} {id:Nat} {ops:Array Oper} {Q:Exit→St→Prop} {T:List AV} {L:List (Nat×List AV)} {H:List Blk} (ord:List Item) (j6:List (List Nat)) (hm:P.follows .mixedOrders=true)
  (aL:j6.length=ops.size) (bi:vD ops ord (xM j6)=true) (e:c= .region id ops true) (iu:List (Nat×List AV)) (hf:tG iu L=true) (aP:tv ops L ord=true) (h:j_ P esc ops ord T (iu++L) H (fun T L H=>Q .normal ⟨T,L,H⟩)):WpS P c Q ⟨T,L,H⟩:=by
 subst e
 intro cs E a g s d
 have D:=TW (fun i hi=>by unfold xM;rw[List.getD_eq_getElem?_getD,List.getElem?_eq_none (by omega)];rfl) bi
 refine wp_region_any hm ?_
 obtain⟨pre,post,oq,aK,aI,WV,rB,hlen,g_,yn⟩:=Hm ord T D.apart h
 have qn: ∀j,(Array.replicate ops.size false).getD j false=false:=fun j=>by
  rw[Array.getD_eq_getD_getElem?,Array.getElem?_replicate];split<;>rfl
 have bm:=Env.J1 E
 have hw:(show World from{E.w with drawn:=E.w.drawn+1})=({E with w:=E.w.drew}:Env).w:=rfl
 refine TU D ops.size _ a _ pre post {E with w:=E.w.drew} oq (iu++L) H (by simp) (Zk _) (fun i o aC aM=> ?_) ⟨aK,fun x hx=>qn _,WV,rB,fun x hx _=>⟨aI x hx,yn x hx⟩,fun t=> ?_,by rw[hlen];exact s.size,T1 s.h,KG ?_ hf,g.step bm,fun x hx _ a3 ak d bi=>Jd s.l aP x hx a3 ak d bi,d,rfl⟩
 ·rw[qn] at aM;cases aM
 ·by_cases rA: ∃z∈pre,(opI ops z.i).dst=some t
  ·obtain⟨z,aP,pu⟩:=rA
   exact .inl ⟨z,aP,qn _,pu⟩
  ·right
   rw[g_ t fun z aP q=>rA ⟨z,aP,q⟩]
   exact(s.iq t).le bm.le
 ·intro t c hm
  obtain⟨cells,a7,ty,q1,q2,q3⟩:=s.l t c hm
  exact⟨cells,a7,ty,q1,q2,q3.mono fun _ _ k=>k.le bm.le.b3⟩
theorem sQ {φ ψ:Prop} (e:φ=ψ) (h:ψ):φ:=e▸h
def yR (ops:Array Oper):List (Oper×Bool):=ops.toList.map fun o=>(o,true)
theorem WpS.OU [cB] {P:Program} {esc:List Nat} {c:Code} {id:Nat} {ops:Array Oper} {Q:Exit→St→Prop} {T:List AV} {L:List (Nat×List AV)} {H:List Blk} (e:c= .region id ops false)
  (h:evOps P esc ops (yR ops) T L H (fun T L H=>Q .normal ⟨T,L,H⟩)):WpS P c Q ⟨T,L,H⟩:=by
 subst e
 intro cs E a g s d
 refine wp_region_list ?_
 have:=Ay (yR ops) T L H E a g s d h
 have e2:(yR ops).map (·.1)=ops.toList:=by
  unfold yR;rw[List.map_map];exact List.map_id' _
 rwa [e2] at this
section
variable {P:Program} {esc:List Nat} {ops:Array Oper} {l fh:List Item} {T T':List AV} {L L':List (Nat×List AV)} {H H':List Blk} {K:List AV→List (Nat×List AV)→List Blk→Prop}
end
def gb:List (Nat×AV)→Nat→AV
 | [],_=> .undef
 | (k,v)::r,t=>match Nat.beq k t with
  | true=>v
  | false=>gb r t
def lO:List (Nat×AV)→Nat→List (Nat×AV)
 | [],_=>[]
 | (k,v)::r,t=>match Nat.beq k t with
  | true=>lO r t
  | false=>(k,v)::lO r t
def eO (n:Nat):List (Nat×AV)→Bool
 | []=>true
 | (k,_)::r=>match Nat.blt k n with
  | true=>eO n r
  | false=>false
@[irreducible] def bh (n:Nat) (A:List (Nat×AV)):List AV:=(List.range n).map (gb A)
def ob (n:Nat) (A:List (Nat×AV)) (dst:Option Nat) (v:AV):List (Nat×AV):=match dst with
 | none=>A
 | some d=>match Nat.blt d n with
  | true=>(d,v)::lO A d
  | false=>A
def pF (A:List (Nat×AV)):Operand→AV
 | .tmp t=>gb A t
 | .const v=>oy v
 | .func f=> .fn f []
 | .global _=> .undef
theorem ZE (A:List (Nat×AV)) (d t:Nat):gb (lO A d) t=if d=t then .undef else gb A t:=by
 induction A with
 | nil=>simp[lO,gb]
 | cons p r bR=>
  obtain⟨k,v⟩:=p
  have A6:gb ((k,v)::r) t=match Nat.beq k t with
   | true=>v
   | false=>gb r t:=rfl
  rw[A6]
  cases h1:Nat.beq k d with
  | true=>
   have bB:=Nat.eq_of_beq_eq_true h1
   rw[show lO ((k,v)::r) d=lO r d by simp[lO,h1],bR]
   subst bB
   cases h2:Nat.beq k t with
   | true=>have e2:=Nat.eq_of_beq_eq_true h2;simp[e2]
   | false=>rfl
  | false=>
   rw[show lO ((k,v)::r) d=(k,v)::lO r d by simp[lO,h1],show gb ((k,v)::lO r d) t=match Nat.beq k t with
    | true=>v
    | false=>gb (lO r d) t from rfl]
   cases h2:Nat.beq k t with
   | true=>
    have e2:=Nat.eq_of_beq_eq_true h2
    have: ¬d=t:=fun e=>by subst e;subst e2;rw[Nat.beq_refl] at h1;cases h1
    simp[this]
   | false=>simp only;rw[bR]
theorem NB {n:Nat}: ∀{A:List (Nat×AV)} {t:Nat},eO n A=true→n≤t→gb A t= .undef
 | [],t,_,_=>rfl
 | (k,v)::r,t,h,br=>by
  unfold eO at h
  split at h
  ·rename_i hk
   have hk:k<n:=by rw[←Nat.blt_eq];exact hk
   unfold gb
   cases h2:Nat.beq k t with
   | true=>have:=Nat.eq_of_beq_eq_true h2;omega
   | false=>exact NB h br
  ·cases h
theorem Gm {n d:Nat}: ∀{A:List (Nat×AV)},eO n A=true→eO n (lO A d)=true
 | [],h=>rfl
 | (k,v)::r,h=>by
  unfold eO at h
  split at h
  ·rename_i hk
   unfold lO
   split
   ·exact Gm h
   ·unfold eO;rw[hk];exact Gm h
  ·cases h
theorem Gn {n:Nat} {A:List (Nat×AV)} (h:eO n A=true) (dst:Option Nat) (v:AV):eO n (ob n A dst v)=true:=by
 unfold ob
 split
 ·exact h
 ·split
  ·rename_i bi;unfold eO;rw[bi];exact Gm h
  ·exact h
theorem sN (n:Nat) (A:List (Nat×AV)):(bh n A).length=n:=by unfold bh;simp
theorem qB {n:Nat} {A:List (Nat×AV)} (h:eO n A=true) (t:Nat):(bh n A).getD t .undef=gb A t:=by
 unfold bh
 rw[List.getD_eq_getElem?_getD,List.getElem?_map]
 rcases Nat.lt_or_ge t n with bf | fK
 ·rw[List.getElem?_range bf];rfl
 ·rw[List.getElem?_eq_none (by simpa using fK),NB h fK];rfl
theorem Gp {n:Nat} {A:List (Nat×AV)} (dst:Option Nat) (v:AV):putA (bh n A) dst v=bh n (ob n A dst v):=by
 cases dst with
 | none=>rfl
 | some d=>
  show(bh n A).set d v=bh n (match Nat.blt d n with
   | true=>(d,v)::lO A d
   | false=>A)
  cases bi:Nat.blt d n with
  | true=>
   apply List.ext_getElem?
   intro t
   unfold bh
   rw[List.getElem?_set]
   simp only[List.length_map,List.length_range,List.getElem?_map]
   rcases Nat.lt_or_ge t n with bf | fK
   ·rw[List.getElem?_range bf]
    by_cases he:d=t
    ·subst he;simp[bf,gb]
    ·have hb:Nat.beq d t=false:=by
      cases ak:Nat.beq d t with
      | true=>exact absurd (Nat.eq_of_beq_eq_true ak) he
      | false=>rfl
     simp[he,gb,hb,ZE]
   ·rw[List.getElem?_eq_none (l:=List.range n) (by simpa using fK)]
    by_cases he:d=t
    ·subst he;simp[Nat.not_lt.2 fK]
    ·simp[he]
  | false=>
   have: ¬d<n:=fun h=>by rw[←Nat.blt_eq,bi] at h;cases h
   exact List.set_eq_of_length_le (by rw[sN];omega)
theorem BD {n:Nat} {A:List (Nat×AV)} (h:eO n A=true):cm (bh n A)=pF A:=by
 funext o
 cases o with
 | tmp t=>exact qB h t
 | _=>rfl
theorem NJ {n:Nat} {A:List (Nat×AV)} (h:eO n A=true) {t:Nat} {b:Bool} (hb:gb A t= .bool b):(bh n A).set t (.bool b)=bh n A:=by
 apply List.ext_getElem?
 intro s
 rw[List.getElem?_set]
 by_cases he:t=s
 ·subst he
  rw[if_pos rfl]
  rcases Nat.lt_or_ge t n with bf | fK
  ·rw[if_pos (by rw[sN];exact bf)]
   unfold bh
   rw[List.getElem?_map,List.getElem?_range bf]
   show _=some (gb A t)
   rw[hb]
  ·rw[if_neg (by rw[sN];omega),List.getElem?_eq_none (by rw[sN];omega)]
 ·rw[if_neg he]
def sp (ops:Array Oper) (o:Oper) (A:List (Nat×AV)) (x y:Prop):Prop:=match o.guard with
 | none=>x
 | some (j,cy)=>match(ops[j]?).bind (·.dst) with
  | none=>False
  | some t=>match gb A t with
   | .bool b=>(match b with
    | true=>(match cy with
     | true=>x
     | false=>y)
    | false=>(match cy with
     | true=>y
     | false=>x))
   | .tup []=>y
   | _=>False
theorem KL {ops:Array Oper} {o:Oper} {n:Nat} {A:List (Nat×AV)} (h:eO n A=true) {x y:List AV→Prop}:nS ops true o (bh n A) x y=sp ops o A (x (bh n A)) (y (bh n A)):=by
 unfold nS sp
 cases o.guard with
 | none=>rfl
 | some g=>
  obtain⟨j,cy⟩:=g
  simp only
  cases(ops[j]?).bind (·.dst) with
  | none=>rfl
  | some t=>
   simp only
   rw[qB h t]
   cases hb:gb A t with
   | bool b=>
    cases b with
    | true=>simp only[o7];rw[NJ h hb];cases cy<;>rfl
    | false=>simp only[o7];rw[NJ h hb];cases cy<;>rfl
   | tup l=>cases l<;>rfl
   | _=>rfl
def evS (P:Program) (esc:List Nat) (ops:Array Oper) (n:Nat):List Oper→List (Nat×AV)→List (Nat×List AV)→List Blk→(List (Nat×AV)→List (Nat×List AV)→List Blk→Prop)→Prop
 | [],A,L,H,K=>K A L H
 | o::rest,A,L,H,K=>sp ops o A
   (match o.op with
    | .pick c x y=>ov (pF A c) fun z=>(match z with
     | true=>evS P esc ops n rest (ob n A o.dst (pF A x)) L H K
     | false=>evS P esc ops n rest (ob n A o.dst (pF A y)) L H K)
    | _=>j9 P esc o (pF A) L H fun v L' H'=>evS P esc ops n rest (ob n A o.dst v) L' H' K)
   (evS P esc ops n rest (ob n A o.dst (.tup [])) L H K)
theorem DV {P:Program} {esc:List Nat} {ops:Array Oper} {n:Nat} {K:List AV→List (Nat×List AV)→List Blk→Prop}: ∀(l:List Oper) (A:List (Nat×AV)) (L:List (Nat×List AV)) (H:List Blk),eO n A=true→
  evOps P esc ops (l.map fun o=>(o,true)) (bh n A) L H K=evS P esc ops n l A L H fun A L H=>K (bh n A) L H
 | [],A,L,H,h=>rfl
 | o::rest,A,L,H,h=>by
  show nS ops true o (bh n A) _ _=_
  rw[KL h]
  show sp ops o A _ _=sp ops o A _ _
  have e2:evOps P esc ops (rest.map fun o=>(o,true)) (putA (bh n A) o.dst (.tup [])) L H K=evS P esc ops n rest (ob n A o.dst (.tup [])) L H fun A L H=>K (bh n A) L H:=by
   rw[Gp,DV rest _ _ _ (Gn h _ _)]
  have DM: ∀v L H,evOps P esc ops (rest.map fun o=>(o,true)) (putA (bh n A) o.dst v) L H K=evS P esc ops n rest (ob n A o.dst v) L H fun A L H=>K (bh n A) L H:=fun v L H=>by
   rw[Gp,DV rest _ _ _ (Gn h _ _)]
  rw[e2]
  congr 1
  unfold uK
  rw[BD h]
  cases fL:o.op<;>simp only[DM]
  case pick c x y=>
   unfold ov
   cases pF A c<;>first | rfl | (rename_i z;cases z<;>rfl)
theorem WpS.Cb [cB] {P:Program} {esc:List Nat} {c:Code} {id n:Nat} {ops:Array Oper} {Q:Exit→St→Prop} {A:List (Nat×AV)} {L:List (Nat×List AV)} {H:List Blk} (e:c= .region id ops false) (aH:eO n A=true)
  (h:evS P esc ops n (ops.toList.drop 0) A L H (fun A L H=>Q .normal ⟨bh n A,L,H⟩)):WpS P c Q ⟨bh n A,L,H⟩:=
 WpS.OU (esc:=esc) e (by unfold yR;rw[DV _ _ _ _ aH];exact h)
def DE (o:Oper) (A:List (Nat×AV)):AV:=match o.dst with
 | some d=>gb A d
 | none=> .undef
def pa (P:Program) (ops:Array Oper):List Nat→List (Nat×AV)→List (Nat×List AV)→List Blk→Prop
 | [],_,_,_=>True
 | i::r,A,L,H=>((opI ops i).guard.isNone=true∧(opI ops i).dst.isSome=true∧lg P (opI ops i) (pF A) L H (fun v=>v=DE (opI ops i) A))∧pa P ops r A L H
def evSD (P:Program) (esc:List Nat) (ops:Array Oper) (n:Nat):List Item→List (Nat×AV)→List (Nat×List AV)→List Blk→(List (Nat×AV)→List (Nat×List AV)→List Blk→Prop)→Prop
 | [],A,L,H,K=>K A L H
 | x::rest,A,L,H,K=>sp ops (opI ops x.i) A
   (match x.q with
    | true=>lg P (opI ops x.i) (pF A) L H fun v=>evSD P esc ops n rest (ob n A (opI ops x.i).dst v) L H K
    | false=>j9 P esc (opI ops x.i) (pF A) L H fun v L' H'=>pa P ops x.jx A L' H'∧evSD P esc ops n rest (ob n A (opI ops x.i).dst v) L' H' K)
   (evSD P esc ops n rest (ob n A (opI ops x.i).dst (.tup [])) L H K)
theorem KD {P:Program} {ops:Array Oper} {n:Nat} {A:List (Nat×AV)} {L:List (Nat×List AV)} {H:List Blk} (h:eO n A=true): ∀l:List Nat,rn P ops l (bh n A) L H=pa P ops l A L H
 | []=>rfl
 | i::r=>by
  show(_∧_)=(_∧_)
  rw[KD h r,BD h]
  have:sj (opI ops i) (bh n A)=DE (opI ops i) A:=by
   unfold sj DE
   cases(opI ops i).dst with
   | none=>rfl
   | some d=>exact qB h d
  rw[this]
theorem Kg {P:Program} {esc:List Nat} {ops:Array Oper} {n:Nat} {K:List AV→List (Nat×List AV)→List Blk→Prop}: ∀(l:List Item) (A:List (Nat×AV)) (L:List (Nat×List AV)) (H:List Blk),l.all (·.lit)=true→eO n A=true→
  j_ P esc ops l (bh n A) L H K=evSD P esc ops n l A L H fun A L H=>K (bh n A) L H
 | [],A,L,H,aL,h=>rfl
 | x::rest,A,L,H,aL,h=>by
  simp only[List.all_cons,Bool.and_eq_true] at aL
  show nS ops x.lit (opI ops x.i) (bh n A) _ _=_
  rw[aL.1,KL h]
  show sp ops (opI ops x.i) A _ _=sp ops (opI ops x.i) A _ _
  have DM: ∀v L H,j_ P esc ops rest (putA (bh n A) (opI ops x.i).dst v) L H K=evSD P esc ops n rest (ob n A (opI ops x.i).dst v) L H fun A L H=>K (bh n A) L H:=fun v L H=>by
   rw[Gp,Kg rest _ _ _ aL.2 (Gn h _ _)]
  simp only[DM,BD h,KD h]
  first
  | done
  | (cases x.q<;>rfl)
theorem WpS.aaU [cB] {P:Program} {esc:List Nat} {c:Code} {id n:Nat} {ops:Array Oper} {Q:Exit→St→Prop} {A:List (Nat×AV)} {L:List (Nat×List AV)} {H:List Blk} (ord:List Item) (j6:List (List Nat)) (hm:P.follows .mixedOrders=true)
  (aL:j6.length=ops.size) (bi:vD ops ord (xM j6)=true) (EL:ord.all (·.lit)=true) (e:c= .region id ops true) (aH:eO n A=true) (iu:List (Nat×List AV)) (hf:tG iu L=true) (aP:tv ops L ord=true) (h:evSD P esc ops n (ord.drop 0) A (iu++L) H (fun A L H=>Q .normal ⟨bh n A,L,H⟩)):WpS P c Q ⟨bh n A,L,H⟩:=
 WpS.OT (esc:=esc) ord j6 hm aL bi e iu hf aP (by rw[Kg _ _ _ _ EL aH];exact h)
theorem Weak.iq [cB] {T T':List AV} {L:List (Nat×List AV)} {H:List Blk} (aL:T'.length=T.length) (h: ∀t,T'.getD t .undef=T.getD t .undef∨T'.getD t .undef= .undef):Weak ⟨T,L,H⟩ ⟨T',L,H⟩:=fun cs E tmps g s=>
 ⟨E,rfl,g,s.h,s.l,fun t=>by
  show V3 E (T'.getD t .undef) _
  rcases h t with e | e<;>rw[e]
  ·exact s.iq t
  ·exact V3.undef _ _,by show T'.length=_;rw[aL];exact s.size⟩
def ns (A:List (Nat×AV)):List (Nat×AV)→List (Nat×AV)
 | []=>[]
 | (k,_)::r=>(k,gb A k)::ns A r
theorem Gk {A:List (Nat×AV)}: ∀(B:List (Nat×AV)) (t:Nat),gb (ns A B) t=gb A t∨gb (ns A B) t= .undef
 | [],t=> .inr rfl
 | (k,v)::r,t=>by
  show(match Nat.beq k t with
   | true=>gb A k
   | false=>gb (ns A r) t)=gb A t∨_
  cases h:Nat.beq k t with
  | true=>have:=Nat.eq_of_beq_eq_true h;subst this;exact .inl rfl
  | false=>
   rcases Gk r t with e | e
   ·exact .inl e
   ·right;show(match Nat.beq k t with
     | true=>gb A k
     | false=>gb (ns A r) t)=_
    rw[h];exact e
def yS (de:List Nat):List (Nat×AV)→Bool
 | []=>true
 | (_,v)::r=>oL de v&&yS de r
theorem ND {de:List Nat}: ∀{A:List (Nat×AV)},yS de A=true→ ∀t,oL de (gb A t)=true
 | [],h,t=>rfl
 | (k,v)::r,h,t=>by
  simp only[yS,Bool.and_eq_true] at h
  unfold gb
  cases Nat.beq k t with
  | true=>exact h.1
  | false=>exact ND h.2 t
theorem aeD [cB] {n:Nat} {A A':List (Nat×AV)} {L L':List (Nat×List AV)} {H:List Blk} (de:List Nat) (ix:eO n A=true) (mI:eO n A'=true) (aI:yS de A'=true) (lP:ns A A'=A') (iN:nO de L=L'):Weak ⟨bh n A,L,H⟩ ⟨bh n A',L',H⟩:=by
 subst iN
 refine(Weak.iq (T':=bh n A') (by rw[sN,sN]) fun t=> ?_).trans (Weak.nO de ?_)
 ·rw[qB ix,qB mI,←lP];exact Gk A' t
 ·rw[List.all_eq_true]
  intro a a3
  obtain⟨t,br⟩:=List.mem_iff_getElem?.1 a3
  have e:(bh n A').getD t .undef=a:=by rw[List.getD_eq_getElem?_getD,br];rfl
  rw[qB mI] at e
  rw[←e]
  exact ND aI t
theorem xx [cB] {n:Nat} {A A':List (Nat×AV)} {L:List (Nat×List AV)} {H:List Blk} (ix:eO n A=true) (mI:eO n A'=true) (lP:ns A A'=A'):Weak ⟨bh n A,L,H⟩ ⟨bh n A',L,H⟩:=
 Weak.iq (T':=bh n A') (by rw[sN,sN]) fun t=>by rw[qB ix,qB mI,←lP];exact Gk A' t
theorem TB {n:Nat} {A:List (Nat×AV)} {o:Operand} {b:Bool} {L:List (Nat×List AV)} {H:List Blk} (aH:eO n A=true) (h:pF A o= .bool b):cm (St.mk (bh n A) L H).T o= .bool b:=by
 show cm (bh n A) o=_
 rw[BD aH,h]
def r1 (P:Program) (A:List (Nat×AV)) (L:List (Nat×List AV)) (H:List Blk):List ResultVar→(List AV→Prop)→Prop
 | [],K=>K []
 | .tmp t::rs,K=>r1 P A L H rs fun l=>K (gb A t::l)
 | .cell a t::rs,K=>oI P t (gb A a) L H fun x=>r1 P A L H rs fun l=>K (x::l)
theorem G_ {P:Program} {n:Nat} {A:List (Nat×AV)} {L:List (Nat×List AV)} {H:List Blk} (aH:eO n A=true): ∀(rs:List ResultVar) (K:List AV→Prop),qK P ⟨bh n A,L,H⟩ rs K=r1 P A L H rs K
 | [],K=>rfl
 | .tmp t::rs,K=>by
  show qK P ⟨bh n A,L,H⟩ rs (fun l=>K ((bh n A).getD t .undef::l))=r1 P A L H rs fun l=>K (gb A t::l)
  rw[qB aH];exact G_ aH rs _
 | .cell a t::rs,K=>by
  show oI P t ((bh n A).getD a .undef) L H _=oI P t (gb A a) L H _
  rw[qB aH]
  congr 1
  funext x
  exact G_ aH rs _
theorem Hc {P:Program} {fn:Func} {n:Nat} {A:List (Nat×AV)} {L:List (Nat×List AV)} {H:List Blk} {r:AV} {Q:AV→List Blk→Prop} (aH:eO n A=true) (l:List AV) (e: ∀K,r1 P A L H fn.results.toList K=K l) (aK:l.all jX=true) (hw:r7 l=r) (h:Q r H):tr P fn Q .ret ⟨bh n A,L,H⟩:=by
 show s5 P fn ⟨bh n A,L,H⟩ Q
 unfold s5
 rw[G_ aH,e]
 exact⟨aK,by rw[hw];exact h⟩
theorem Uf {P:Program} {fn:Func} {n:Nat} {A:List (Nat×AV)} {L:List (Nat×List AV)} {H:List Blk} {r:AV} {Q:AV→List Blk→Prop} (aH:eO n A=true) (l:List AV) (e: ∀K,r1 P A L H fn.results.toList K=K l) (aK:l.all jX=true) (hw:r7 l=r) (h:Q r H):tr P fn Q .normal ⟨bh n A,L,H⟩:=
 Hc (fn:=fn) aH l e aK hw h
theorem Kh {P:Program} {esc:List Nat} {ops:Array Oper} {n:Nat} {K:List (Nat×AV)→List (Nat×List AV)→List Blk→Prop}: ∀(uq kD:List Oper) (A:List (Nat×AV)) (L:List (Nat×List AV)) (H:List Blk),
  evS P esc ops n (uq++kD) A L H K=evS P esc ops n uq A L H fun A L H=>evS P esc ops n kD A L H K
 | [],kD,A,L,H=>rfl
 | o::r,kD,A,L,H=>by
  show evS P esc ops n (o::(r++kD)) A L H K=_
  simp only[evS,Kh r kD]
theorem jw {P:Program} {esc:List Nat} {ops:Array Oper} {n:Nat} {K:List (Nat×AV)→List (Nat×List AV)→List Blk→Prop} {A:List (Nat×AV)} {L:List (Nat×List AV)} {H:List Blk} (X:List Oper) (i k:Nat):
  evS P esc ops n (X.drop i) A L H K=evS P esc ops n ((X.drop i).take k) A L H fun A L H=>evS P esc ops n (X.drop (i+k)) A L H K:=by
 rw[←Kh,←List.drop_drop,List.take_append_drop]
theorem Kf {P:Program} {esc:List Nat} {ops:Array Oper} {n:Nat} {K:List (Nat×AV)→List (Nat×List AV)→List Blk→Prop}: ∀(uq kD:List Item) (A:List (Nat×AV)) (L:List (Nat×List AV)) (H:List Blk),
  evSD P esc ops n (uq++kD) A L H K=evSD P esc ops n uq A L H fun A L H=>evSD P esc ops n kD A L H K
 | [],kD,A,L,H=>rfl
 | o::r,kD,A,L,H=>by
  show evSD P esc ops n (o::(r++kD)) A L H K=_
  simp only[evSD,Kf r kD]
theorem lh {P:Program} {esc:List Nat} {ops:Array Oper} {n:Nat} {K:List (Nat×AV)→List (Nat×List AV)→List Blk→Prop} {A:List (Nat×AV)} {L:List (Nat×List AV)} {H:List Blk} (X:List Item) (i k:Nat):
  evSD P esc ops n (X.drop i) A L H K=evSD P esc ops n ((X.drop i).take k) A L H fun A L H=>evSD P esc ops n (X.drop (i+k)) A L H K:=by
 rw[←Kf,←List.drop_drop,List.take_append_drop]
theorem map_set {α β:Type} (f:α→β) (xs:List α) (i:Nat) (x:α):(List.map f xs).set i (f x)=List.map f (xs.set i x):=by
 rw[List.map_set]
theorem qT {H:List Blk} {α:Type} {eT eF:α→List AV} {b g sz n:Nat} {full:Bool} {xs ys:List α} (aH:n=xs.length) (hb:H[b]?=some ⟨g,sz,List.map eT xs⟩) (hc: ∀x,kO H (eT x) (eF x)) (h:xs.length≤4611686018427387904∧xs=ys):
  gv H (.ref b g 0 n full) (.bC (List.map eF ys) false true):=aH▸RD hb hc h
theorem m2 {L:List (Nat×List AV)} {H:List Blk} {α:Type} {eT eF:α→List AV} {b g sz n:Nat} {full:Bool} {xs:List α} (aT:n=xs.length) (hb:H[b]?=some ⟨g,sz,List.map eT xs⟩) (hc: ∀x,om L H (eT x) (eF x)) (aH:xs.length≤4611686018427387904):
  fT L H (.ref b g 0 n full) (.bC (List.map eF xs) false false):=aT▸Pd hb hc aH
theorem Ch {α:Type} {enc:α→List AV} {k:Nat} (h: ∀x,(enc x).length=k∧(enc x).all iX=true) (ys:List α):qL k (List.map enc ys):=fun row aK=>by
 obtain⟨x,_,rfl⟩:=List.mem_map.1 aK
 exact⟨(h x).1,fun a a3=>List.all_eq_true.1 (h x).2 a a3⟩
theorem yN {α:Type} {c:Bool} {x y:List α} {n:Nat} (hx:x.length=n) (bt:y.length=n):(bif c then x else y).length=n:=by cases c<;>assumption
def ou:List (Nat×AV)→List (Nat×AV)→List (Nat×AV)
 | [],R=>R
 | p::N,R=>p::ou N R
def JY:List (Nat×AV)→List (Nat×AV)→List (Nat×AV)
 | [],A=>A
 | p::N,A=>lO (JY N A) p.1
def gF (N A:List (Nat×AV)):List (Nat×AV):=ou N (JY N A)
def c_ (d:Option Nat) (v:AV) (N A:List (Nat×AV)):List (Nat×AV):=match d with
 | some d=>gF ((d,v)::N) A
 | none=>gF N A
def uU:List (Nat×AV)→Nat→AV→List (Nat×AV)
 | [],_,_=>[]
 | (k,u)::r,t,v=>match Nat.beq k t with
  | true=>(k,v)::r
  | false=>(k,u)::uU r t v
abbrev ag (n:Int):AV:= .int .i64 n
abbrev al (b:Bool):AV:= .bool b
abbrev bK {α:Type} (e:α→List AV) (x:List α):AV:= .bC (List.map e x) false false
abbrev aF:AV:= .bC [] true true
abbrev hh {α:Type} (e:α→List AV) (x:List α):AV:= .bC (List.map e x) false true
abbrev aj (b g n:Nat):AV:= .ref b g 0 n false
abbrev az (t c:Nat):AV:= .fx t c
abbrev t0:AV:= .tup []
def gh (l:List Nat):List (Nat×AV):=l.map fun i=>(i,.tup [])
def NV:Bool→List Nat→Bool×List Nat
 | b,0::m=>NV (!b) m
 | b,m=>(b,m)
def k6 {α:Type} (b:Bool) (m:List Nat):List α→List α
 | []=>[]
 | x::l=>match NV b m with
  | (true,(n+1)::m)=>x::k6 true (n::m) l
  | (false,(n+1)::m)=>k6 false (n::m) l
  | _=>[]
theorem zo {α:Type} {n:Nat} {m:List Nat} {x:α} {l:List α}:k6 true ((n+1)::m) (x::l)=x::k6 true (n::m) l:=rfl
theorem zn {α:Type} {n:Nat} {m:List Nat} {x:α} {l:List α}:k6 false ((n+1)::m) (x::l)=k6 false (n::m) l:=rfl
theorem zp {α:Type} {m:List Nat} {l:List α}:k6 true (0::m) l=k6 false m l:=by cases l<;>rfl
theorem self {α:Type} {m:List Nat} {l:List α}:k6 false (0::m) l=k6 true m l:=by cases l<;>rfl
theorem zm {α:Type} {b:Bool} {l:List α}:k6 b [] l=[]:=by cases b<;>cases l<;>rfl
def h5 (j:Nat) (r:List (List AV)):List Blk→List Blk
 | []=>[]
 | b::H=>match j with
  | 0=>⟨b.bF,b.sz,r⟩::H
  | j+1=>b::h5 j r H
def hM (i j:Nat) (a:AV):List (Nat×List AV)→List (Nat×List AV)
 | []=>[]
 | x::L=>match i with
  | 0=>(x.1,x.2.set j a)::L
  | i+1=>x::hM i j a L
def er (i:Nat) (a:List AV):List (Nat×List AV)→List (Nat×List AV)
 | []=>[]
 | x::L=>match i with
  | 0=>(x.1,a)::L
  | i+1=>x::er i a L
def ea (i:Nat) (b:Blk):List Blk→List Blk
 | []=>[]
 | x::H=>match i with
  | 0=>b::H
  | i+1=>x::ea i b H
section
variable {i j k:Nat} {a:AV} {c l:List AV} {L:List (Nat×List AV)} {x:Nat×List AV} {b y:Blk} {H:List Blk}
theorem J3:hM 0 j a ((k,c)::L)=(k,c.set j a)::L:=rfl
theorem J4:hM (i+1) j a (x::L)=x::hM i j a L:=rfl
theorem J_:er 0 l ((k,c)::L)=(k,l)::L:=rfl
theorem Ka:er (i+1) l (x::L)=x::er i l L:=rfl
theorem Jw:ea 0 b (y::H)=b::H:=rfl
theorem Jx:ea (i+1) b (y::H)=y::ea i b H:=rfl
end
abbrev aq (i:Nat):Item:=⟨i,true,true,[]⟩
abbrev rg (a b:Nat):List Nat:=List.range' a (b - a)
def gU [cB] {V:Type} (S:V→St) (m8:V→Prop) (Q:Exit→St→Prop) (ex:Exit) (s:St):Prop:=match ex with
 | .normal=> ∃v,m8 v∧Weak s (S v)
 | ex=>Q ex s
theorem gU.normal [cB] {V:Type} {S:V→St} {m8:V→Prop} {Q:Exit→St→Prop} {s:St} (v:V) (h:m8 v) (hw:Weak s (S v)):gU S m8 Q .normal s:=⟨v,h,hw⟩
theorem gU.ret [cB] {V:Type} {S:V→St} {m8:V→Prop} {Q:Exit→St→Prop} {s:St} (h:Q .ret s):gU S m8 Q .ret s:=h
theorem gU.exit [cB] {V:Type} {S:V→St} {m8:V→Prop} {Q:Exit→St→Prop} {s:St} {id:Nat} (h:Q (.exit id) s):gU S m8 Q (.exit id) s:=h
section
variable {P:Program} {b:Code} {k n:Nat} {Q:Exit→St→Prop} {aJ:St} {A A':List (Nat×AV)} {L L':List (Nat×List AV)} {H H':List Blk}
theorem jO [cB] (S:St) (ψ:Prop) (h:WpS P (bT b (2*k)) (b_ S ψ Q) aJ) (ak:ψ→WpS P (bT b (2*k+1)) Q S) (e:bT b k= .seq (bT b (2*k)) (bT b (2*k+1)):=by kernel_rfl):WpS P (bT b k) Q aJ:=WpS.xf S e h ak
theorem cu [cB] (N:List (Nat×AV)) (m:List Nat) (ψ:Prop) (h:WpS P (bT b (2*k)) (b_ ⟨bh n A',L,H⟩ ψ Q) ⟨bh n A,L,H⟩) (ak:ψ→WpS P (bT b (2*k+1)) Q ⟨bh n A',L,H⟩) (ix:ou N (k6 true m A)=A':=by simp only[ou,zo,zn,zp,self,zm];rfl) (e:bT b k= .seq (bT b (2*k)) (bT b (2*k+1)):=by kernel_rfl):WpS P (bT b k) Q ⟨bh n A,L,H⟩:=WpS.xf _ e h ak
theorem eX [cB] (N:List (Nat×AV)) (m:List Nat) (D1:List (Nat×List AV)→List (Nat×List AV)) (D0:List Blk→List Blk) (ψ:Prop) (h:WpS P (bT b (2*k)) (b_ ⟨bh n A',L',H'⟩ ψ Q) ⟨bh n A,L,H⟩) (ak:ψ→WpS P (bT b (2*k+1)) Q ⟨bh n A',L',H'⟩) (bY:D1 L=L':=by first | (simp only[id,J3,J4,J_,Ka,List.set_cons_zero,List.set_cons_succ];rfl) | (dsimp only;rfl) | rfl) (aR:D0 H=H':=by first | (simp only[id,Jw,Jx,List.cons_append,List.nil_append];rfl) | (dsimp only;rfl) | rfl) (ix:ou N (k6 true m A)=A':=by simp only[ou,zo,zn,zp,self,zm];rfl) (e:bT b k= .seq (bT b (2*k)) (bT b (2*k+1)):=by kernel_rfl):WpS P (bT b k) Q ⟨bh n A,L,H⟩:=WpS.xf _ e h ak
theorem JF [cB] {V:Type} {y:Code} (id:Nat) (S:V→St) (m8:V→Prop) (h:WpS P (bT b (2*k)) (ch id (gU S m8 Q)) aJ) (ak: ∀v,m8 v→WpS P y Q (S v)) (e:bT b k= .block id (bT b (2*k)):=by kernel_rfl):WpS P (bT b k) (dR P y Q) aJ:=
 WpS.JA e (h.mono fun ex s hs=>by
  have key: ∀ex s,gU S m8 Q ex s→dR P y Q ex s:=fun ex s hs=>by
   cases ex with
   | normal=>obtain⟨v,aM,hw⟩:=hs;exact(ak v aM).l8 hw
   | _=>exact hs
  cases ex with
  | exit q=>
   show if q=id then _ else _
   replace hs:if q=id then gU S m8 Q .normal s else gU S m8 Q (.exit q) s:=hs
   split at hs
   ·rename_i ak;rw[if_pos ak];exact key _ _ hs
   ·rename_i ak;rw[if_neg ak];exact key _ _ hs
  | normal=>exact key .normal s hs
  | goto l=>exact key (.goto l) s hs
  | ret=>exact key .ret s hs
  | panic c=>exact key (.panic c) s hs
  | outgrown=>exact key .outgrown s hs)
theorem hB [cB] (h:WpS P (bT b (2*k)) (dR P (bT b (2*k+1)) Q) aJ) (e:bT b k= .seq (bT b (2*k)) (bT b (2*k+1)):=by kernel_rfl):WpS P (bT b k) Q aJ:=WpS.seq' e h
theorem sg [cB] (o:Operand) (z:Bool) (h1:z=true→WpS P (bT b (2*k)) Q ⟨bh n A,L,H⟩) (h2:z=false→WpS P (bT b (2*k+1)) Q ⟨bh n A,L,H⟩) (e:bT b k= .cond o (bT b (2*k)) (bT b (2*k+1)):=by kernel_rfl)
  (aH:eO n A=true:=by kernel_rfl) (aC:pF A o= .bool z:=by kernel_rfl):WpS P (bT b k) Q ⟨bh n A,L,H⟩:=WpS.TA e (TB aH aC) h1 h2
theorem fc [cB] (id:Nat) (h:WpS P (bT b (2*k)) (ch id Q) aJ) (e:bT b k= .block id (bT b (2*k)):=by kernel_rfl):WpS P (bT b k) Q aJ:=WpS.JA e h
theorem eb [cB] (h:Q .normal aJ) (e:bT b k= .skip:=by kernel_rfl):WpS P (bT b k) Q aJ:=WpS.abn e h
theorem hj [cB] (h:Q .ret aJ) (e:bT b k= .ret:=by kernel_rfl):WpS P (bT b k) Q aJ:=WpS.aaW e h
theorem iL [cB] (id:Nat) (h:Q (.exit id) aJ) (e:bT b k= .exit id:=by kernel_rfl):WpS P (bT b k) Q aJ:=WpS.Um e h
theorem j8 [cB] {V:Type} (S:V→St) (I:V→Prop) (m:V→Nat) (h0:V) (hs:Weak aJ (S h0)) (aT:I h0) (round: ∀v,I v→WpS P (bT b (2*k)) (dO S I m v Q) (S v)) (e:bT b k= .loop (bT b (2*k)):=by kernel_rfl):WpS P (bT b k) Q aJ:=
 WpS.NC S I m e h0 hs aT round
theorem bL [cB] (esc:List Nat) (id:Nat) (h:evS P esc (iU b k) n ((iU b k).toList.drop 0) A L H (fun A L H=>Q .normal ⟨bh n A,L,H⟩)) (e:bT b k= .region id (iU b k) false:=by kernel_rfl) (aH:eO n A=true:=by kernel_rfl):WpS P (bT b k) Q ⟨bh n A,L,H⟩:=
 WpS.Cb (esc:=esc) e aH h
theorem m0 [cB] (esc:List Nat) (id:Nat) (ord:List Item) (j6:List (List Nat)) (iu:List (Nat×List AV)) (h:evSD P esc (iU b k) n (ord.drop 0) A (iu++L) H (fun A L H=>Q .normal ⟨bh n A,L,H⟩)) (hm:P.follows .mixedOrders=true:=by kernel_rfl) (aL:j6.length=(iU b k).size:=by kernel_rfl)
  (bi:vD (iU b k) ord (xM j6)=true:=by kernel_rfl) (EL:ord.all (·.lit)=true:=by kernel_rfl) (e:bT b k= .region id (iU b k) true:=by kernel_rfl) (aH:eO n A=true:=by kernel_rfl) (hf:tG iu L=true:=by kernel_rfl) (aP:tv (iU b k) L ord=true:=by kernel_rfl):WpS P (bT b k) Q ⟨bh n A,L,H⟩:=
 WpS.aaU (esc:=esc) ord j6 hm aL bi EL e aH iu hf aP h
theorem dX [cB] (esc:List Nat) (id:Nat) (m_:List (Nat×AV)) (yU m:List Nat) (ak:WpS P (bT b (2*k+1)) Q ⟨bh n A',L,H⟩) (ix:ou (k6 true yU m_) (k6 true m A)=A':=by simp only[ou,zo,zn,zp,self,zm];rfl) (e:bT b k= .seq (bT b (2*k)) (bT b (2*k+1)):=by kernel_rfl)
  (e2:bT b (2*k)= .region id (iU b (2*k)) false:=by kernel_rfl) (aH:eO n A=true:=by kernel_rfl) (dK: ∀K,evS P esc (iU b (2*k)) n ((iU b (2*k)).toList.drop 0) A L H K=K (gF m_ A) L H:=by intro K;kernel_rfl) (lP:ns (gF m_ A) A'=A':=by kernel_rfl)
  (h1:eO n (gF m_ A)=true:=by kernel_rfl) (h2:eO n A'=true:=by kernel_rfl):WpS P (bT b k) Q ⟨bh n A,L,H⟩:=
 WpS.xf ⟨bh n A',L,H⟩ (ψ:=True) e (WpS.Cb (esc:=esc) e2 aH (by rw[dK];exact⟨trivial,xx h1 h2 lP⟩)) fun _=>ak
theorem p6 [cB] (esc:List Nat) (id:Nat) (m_:List (Nat×AV)) (yU m:List Nat) (L':List (Nat×List AV)) (H':List Blk) (ak:WpS P (bT b (2*k+1)) Q ⟨bh n A',L',H'⟩) (ix:ou (k6 true yU m_) (k6 true m A)=A':=by simp only[ou,zo,zn,zp,self,zm];rfl) (e:bT b k= .seq (bT b (2*k)) (bT b (2*k+1)):=by kernel_rfl)
  (e2:bT b (2*k)= .region id (iU b (2*k)) false:=by kernel_rfl) (aH:eO n A=true:=by kernel_rfl) (dK: ∀K,evS P esc (iU b (2*k)) n ((iU b (2*k)).toList.drop 0) A L H K=K (gF m_ A) L' H':=by intro K;kernel_rfl) (lP:ns (gF m_ A) A'=A':=by kernel_rfl)
  (h1:eO n (gF m_ A)=true:=by kernel_rfl) (h2:eO n A'=true:=by kernel_rfl):WpS P (bT b k) Q ⟨bh n A,L,H⟩:=
 WpS.xf ⟨bh n A',L',H'⟩ (ψ:=True) e (WpS.Cb (esc:=esc) e2 aH (by rw[dK];exact⟨trivial,xx h1 h2 lP⟩)) fun _=>ak
theorem sh [cB] (esc:List Nat) (id:Nat) (m_:List (Nat×AV)) (yU m:List Nat) (D1:List (Nat×List AV)→List (Nat×List AV)) (D0:List Blk→List Blk) (ak:WpS P (bT b (2*k+1)) Q ⟨bh n A',L',H'⟩) (bY:D1 L=L':=by first | (simp only[id,J3,J4,J_,Ka,List.set_cons_zero,List.set_cons_succ];rfl) | (dsimp only;rfl) | rfl) (aR:D0 H=H':=by first | (simp only[id,Jw,Jx,List.cons_append,List.nil_append];rfl) | (dsimp only;rfl) | rfl) (ix:ou (k6 true yU m_) (k6 true m A)=A':=by simp only[ou,zo,zn,zp,self,zm];rfl) (e:bT b k= .seq (bT b (2*k)) (bT b (2*k+1)):=by kernel_rfl)
  (e2:bT b (2*k)= .region id (iU b (2*k)) false:=by kernel_rfl) (aH:eO n A=true:=by kernel_rfl) (dK: ∀K,evS P esc (iU b (2*k)) n ((iU b (2*k)).toList.drop 0) A L H K=K (gF m_ A) L' H':=by intro K;kernel_rfl) (lP:ns (gF m_ A) A'=A':=by kernel_rfl)
  (h1:eO n (gF m_ A)=true:=by kernel_rfl) (h2:eO n A'=true:=by kernel_rfl):WpS P (bT b k) Q ⟨bh n A,L,H⟩:=
 WpS.xf ⟨bh n A',L',H'⟩ (ψ:=True) e (WpS.Cb (esc:=esc) e2 aH (by rw[dK];exact⟨trivial,xx h1 h2 lP⟩)) fun _=>ak
theorem dA [cB] {t:Nat} {z:Bool} (h1:z=true→WpS P (bT b (2*k)) Q ⟨bh n ((t,.bool z)::A),L,H⟩) (h2:z=false→WpS P (bT b (2*k+1)) Q ⟨bh n ((t,.bool z)::A),L,H⟩) (e:bT b k= .cond (.tmp t) (bT b (2*k)) (bT b (2*k+1)):=by kernel_rfl)
  (aH:eO n ((t,.bool z)::A)=true:=by kernel_rfl):WpS P (bT b k) Q ⟨bh n ((t,.bool z)::A),L,H⟩:=sg (.tmp t) z h1 h2 e aH (by show gb ((t,.bool z)::A) t=_;unfold gb;rw[show Nat.beq t t=true from Nat.beq_refl t])
theorem dz.go {f:FuncId} {fn:Func} {args:List AV} {H:List Blk} {R:AV→List Blk→Prop} (A:List (Nat×AV)) (hf:P.funcs[f]?=some fn) (h: ∀iJ:cB,iJ.n=H.length→WpS P (bT (iw fn) 1) (tr P fn R) ⟨bh fn.ntmps A,[],H⟩) (hb:fn.body=some (bT (iw fn) 1):=by kernel_rfl) (aH:(fn.name== "runtime.NumGoroutine")=false:=by kernel_rfl)
  (hi:yK fn args H=⟨bh fn.ntmps A,[],H⟩:=by kernel_rfl):dz P f args H R:=dz.Gz hf hb aH fun iJ ga=>hi▸h iJ ga
theorem m1 {fn:Func} {R:AV→List Blk→Prop} (r:AV) (h:R r H) (aH:eO n A=true:=by kernel_rfl) (e: ∀K,r1 P A L H fn.results.toList K=K [r]:=by intro K;kernel_rfl) (aK:[r].all jX=true:=by kernel_rfl):tr P fn R .ret ⟨bh n A,L,H⟩:=Hc aH [r] e aK rfl h
theorem dT [cB] (lP:ns A A'=A':=by kernel_rfl) (ix:eO n A=true:=by kernel_rfl) (mI:eO n A'=true:=by kernel_rfl):Weak ⟨bh n A,L,H⟩ ⟨bh n A',L,H⟩:=xx ix mI lP
theorem dt [cB] (de:List Nat) (ix:eO n A=true:=by kernel_rfl) (mI:eO n A'=true:=by kernel_rfl) (aI:yS de A'=true:=by kernel_rfl) (lP:ns A A'=A':=by kernel_rfl) (iN:nO de L=L':=by kernel_rfl):Weak ⟨bh n A,L,H⟩ ⟨bh n A',L',H⟩:=aeD de ix mI aI lP iN
theorem mo {fn:Func} {R:AV→List Blk→Prop} (r:AV) (l:List AV) (h:R r H) (aH:eO n A=true:=by kernel_rfl) (e: ∀K,r1 P A L H fn.results.toList K=K l:=by intro K;kernel_rfl) (aK:l.all jX=true:=by kernel_rfl) (hw:r7 l=r:=by kernel_rfl):tr P fn R .ret ⟨bh n A,L,H⟩:=Hc aH l e aK hw h
theorem At {fn:Func} {R:AV→List Blk→Prop} (r:AV) (l:List AV) (h:R r H) (aH:eO n A=true:=by kernel_rfl) (e: ∀K,r1 P A L H fn.results.toList K=K l:=by intro K;kernel_rfl) (aK:l.all jX=true:=by kernel_rfl) (hw:r7 l=r:=by kernel_rfl):tr P fn R .normal ⟨bh n A,L,H⟩:=Uf aH l e aK hw h
end
section
variable {P:Program} {esc:List Nat} {ops:Array Oper} {n:Nat} {X:List Oper} {i0:Nat} {A:List (Nat×AV)} {L:List (Nat×List AV)} {H:List Blk} {K:List (Nat×AV)→List (Nat×List AV)→List Blk→Prop}
theorem b1 [cB] {A':List (Nat×AV)} {L':List (Nat×List AV)} {H':List Blk} {ψ:Prop} {Q:Exit→St→Prop} (N:List (Nat×AV)) (aI:ψ) (lP:ns (gF N A) A'=A':=by kernel_rfl) (e: ∀K,evS P esc ops n (X.drop i0) A L H K=K (gF N A) L' H':=by intro K;kernel_rfl)
  (ix:eO n (gF N A)=true:=by kernel_rfl) (mI:eO n A'=true:=by kernel_rfl):evS P esc ops n (X.drop i0) A L H (fun A L H=>b_ ⟨bh n A',L',H'⟩ ψ Q .normal ⟨bh n A,L,H⟩):=by
 rw[e];exact⟨aI,xx ix mI lP⟩
theorem nx (ba t:Nat) (b:Bool) (N:List (Nat×AV)) (h1:b=true→evS P esc ops n (X.drop (i0+ba)) (uU (gF ((t,.bool b)::N) A) t (.bool true)) L H K) (h2:b=false→evS P esc ops n (X.drop (i0+ba)) (uU (gF ((t,.bool b)::N) A) t (.bool false)) L H K)
  (e: ∀K,evS P esc ops n ((X.drop i0).take ba) A L H K=K (uU (gF ((t,.bool b)::N) A) t (.bool b)) L H:=by intro K;kernel_rfl):evS P esc ops n (X.drop i0) A L H K:=by
 rw[jw X i0 ba,e]
 cases b with
 | true=>exact h1 rfl
 | false=>exact h2 rfl
theorem dM (N:List (Nat×AV)) (h:K (gF N A) L H) (e: ∀K,evS P esc ops n (X.drop i0) A L H K=K (gF N A) L H:=by intro K;kernel_rfl):evS P esc ops n (X.drop i0) A L H K:=by
 rw[e];exact h
theorem Ck (N:List (Nat×AV)) (L':List (Nat×List AV)) (H':List Blk) (h:K (gF N A) L' H') (e: ∀K,evS P esc ops n (X.drop i0) A L H K=K (gF N A) L' H':=by intro K;kernel_rfl):evS P esc ops n (X.drop i0) A L H K:=by
 rw[e];exact h
theorem Cl (ba:Nat) (N:List (Nat×AV)) (L':List (Nat×List AV)) (H':List Blk) (h:evS P esc ops n (X.drop (i0+ba)) (gF N A) L' H' K) (e: ∀K,evS P esc ops n ((X.drop i0).take ba) A L H K=K (gF N A) L' H':=by intro K;kernel_rfl):evS P esc ops n (X.drop i0) A L H K:=by
 rw[jw X i0 ba,e];exact h
theorem nw (ba:Nat) (d:Option Nat) (v:AV) (N:List (Nat×AV)) {φ:Prop} (h1:φ) (h:evS P esc ops n (X.drop (i0+ba)) (c_ d v N A) L H K) (e: ∀K,evS P esc ops n ((X.drop i0).take ba) A L H K=(φ∧K (c_ d v N A) L H):=by intro K;kernel_rfl):evS P esc ops n (X.drop i0) A L H K:=by
 rw[jw X i0 ba,e];exact⟨h1,h⟩
theorem k5 (ba:Nat) (d:Option Nat) (N:List (Nat×AV)) {α:Type} [Inhabited α] (enc:α→List AV) (xs:List α) {i:Int} (m:Nat)
  (aT:0≤i∧i.toNat<xs.length) (h:evS P esc ops n (X.drop (i0+ba)) (c_ d (.dr (enc (nth xs i)) 0) N A) L H K) (aH: ∀x,(enc x).length=m:=by exact fun _=>rfl)
  (e: ∀K,evS P esc ops n ((X.drop i0).take ba) A L H K=(0≤i∧cU (List.map enc xs)[i.toNat]? fun row=>row.length=m∧K (c_ d (.dr row 0) N A) L H):=by intro K;kernel_rfl):evS P esc ops n (X.drop i0) A L H K:=by
 rw[jw X i0 ba,e]
 refine⟨aT.1,ed (a:=enc (nth xs i)) ?_ ⟨aH _,h⟩⟩
 rw[List.getElem?_map,gO aT.2];rfl
theorem lx (ba:Nat) (d:Option Nat) (N:List (Nat×AV)) (b g z:Nat) {i:Int} {m:Nat} (aT:0≤i∧i.toNat<m) (h:evS P esc ops n (X.drop (i0+ba)) (c_ d (.ptr b g (0+i.toNat) 0) N A) L H K)
  (e: ∀K,evS P esc ops n ((X.drop i0).take ba) A L H K=(g=g∧z=z∧0≤i∧i<m∧K (c_ d (.ptr b g (0+i.toNat) 0) N A) L H):=by intro K;kernel_rfl):evS P esc ops n (X.drop i0) A L H K:=by
 rw[jw X i0 ba,e];exact⟨rfl,rfl,aT.1,by have:=aT.2;omega,h⟩
theorem Pa (ba:Nat) (d:Option Nat) (N:List (Nat×AV)) {α:Type} [Inhabited α] (enc:α→List AV) (xs:List α) (i:Int) (t:TypeId) (c g:Nat) (v:AV) (aK:i.toNat<xs.length) (h:evS P esc ops n (X.drop (i0+ba)) (c_ d v N A) L H K)
  (e2: ∀K,js P t (enc (nth xs i)) c K=K v:=by intro K;kernel_rfl)
  (e: ∀K,evS P esc ops n ((X.drop i0).take ba) A L H K=(g=g∧cU (List.map enc xs)[0+i.toNat]? fun row=>js P t row c fun v=>K (c_ d v N A) L H):=by intro K;kernel_rfl):evS P esc ops n (X.drop i0) A L H K:=by
 rw[jw X i0 ba,e]
 refine⟨rfl,ed (a:=enc (nth xs i)) ?_ (by rw[e2];exact h)⟩
 rw[Nat.zero_add,List.getElem?_map,gO aK];rfl
theorem l3 (ba:Nat) (d:Option Nat) (N:List (Nat×AV)) {g:FuncId} (args:List AV) {eh:List AV} {t:AV}
  (hf:bZ P g eh t) (hs:aD (c3 L H) args eh) (h:evS P esc ops n (X.drop (i0+ba)) (c_ d t N A) L H K) (aH:args.all eQ=true:=by kernel_rfl) (e: ∀K,evS P esc ops n ((X.drop i0).take ba) A L H K=lf P g args L H (fun v L' H'=>K (c_ d v N A) L' H'):=by intro K;kernel_rfl):evS P esc ops n (X.drop i0) A L H K:=by
 rw[jw X i0 ba,e];exact .inl ⟨aH,eh,t,hs,hf,h⟩
theorem aba (ba:Nat) (d:Option Nat) (N:List (Nat×AV)) {α:Type} [Inhabited α] (enc:α→List AV) (xs:List α) (i:Int) (c k g:Nat) (cells:List AV) (H':List (List AV)→List Blk) (la:α) (aK:i.toNat<xs.length)
  (h:evS P esc ops n (X.drop (i0+ba)) (c_ d (.tup []) N A) L (H' (List.map enc (xs.set i.toNat la))) K) (hc:Nat.ble (c+k) (enc (nth xs i)).length=true:=by kernel_rfl) (hs:fa (enc (nth xs i)) c cells=enc la:=by kernel_rfl)
  (e: ∀K,evS P esc ops n ((X.drop i0).take ba) A L H K=(g=g∧cU (List.map enc xs)[0+i.toNat]? fun row=>c+k≤row.length∧K (c_ d (.tup []) N A) L (H' ((List.map enc xs).set (0+i.toNat) (fa row c cells)))):=by intro K;kernel_rfl):evS P esc ops n (X.drop i0) A L H K:=by
 rw[jw X i0 ba,e]
 refine⟨rfl,ed (a:=enc (nth xs i)) ?_ ⟨Nat.le_of_ble_eq_true hc,?_⟩⟩
 ·rw[Nat.zero_add,List.getElem?_map,gO aK];rfl
 ·rw[hs,Nat.zero_add,map_set];exact h
theorem s_ (ba:Nat) (d:Option Nat) (N:List (Nat×AV)) {α:Type} [Inhabited α] (enc:α→List AV) (xs:List α) (i:Int) (c k g:Nat) (cells:List AV) (j:Nat) (la:α) (aK:i.toNat<xs.length)
  (h:evS P esc ops n (X.drop (i0+ba)) (c_ d (.tup []) N A) L (h5 j (List.map enc (xs.set i.toNat la)) H) K) (hc:Nat.ble (c+k) (enc (nth xs i)).length=true:=by kernel_rfl) (hs:fa (enc (nth xs i)) c cells=enc la:=by kernel_rfl)
  (e: ∀K,evS P esc ops n ((X.drop i0).take ba) A L H K=(g=g∧cU (List.map enc xs)[0+i.toNat]? fun row=>c+k≤row.length∧K (c_ d (.tup []) N A) L (h5 j ((List.map enc xs).set (0+i.toNat) (fa row c cells)) H)):=by intro K;kernel_rfl):evS P esc ops n (X.drop i0) A L H K:=aba ba d N enc xs i c k g cells (fun r=>h5 j r H) la aK h hc hs e
theorem Hj (ba:Nat) (d:Option Nat) (N:List (Nat×AV)) {α:Type} (enc:α→List AV) {i:Int} (B:Int) (z:List AV) (b:Nat) (H':List (List AV)→List Blk) (a8:α) (aT:0≤i∧B*i≤140737488355328∧i≤4611686018427387904)
  (h:evS P esc ops n (X.drop (i0+ba)) (c_ d (.ref b 0 0 (List.replicate i.toNat a8).length false) N A) L (H' (List.map enc (List.replicate i.toNat a8))) K) (aP:z=enc a8:=by rfl)
  (e: ∀K,evS P esc ops n ((X.drop i0).take ba) A L H K=(0≤i∧i≤i∧B*i≤140737488355328∧i≤4611686018427387904∧K (c_ d (.ref b 0 0 i.toNat false) N A) L (H' (List.replicate i.toNat z))):=by intro K;kernel_rfl):evS P esc ops n (X.drop i0) A L H K:=by
 rw[jw X i0 ba,e]
 refine⟨aT.1,Int.le_refl _,aT.2.1,aT.2.2,?_⟩
 ·rw[aP,←List.map_replicate];rw[List.length_replicate] at h;exact h
theorem O9 (ba:Nat) (d:Option Nat) (N:List (Nat×AV)) {α:Type} (enc:α→List AV) (xs ys:List α) (cg:List (List AV)) (b g s B:Nat) (H':List (List AV)→List Blk) (hx:cg=List.map enc ys) (aT:(xs.length+ys.length)*B≤140737488355328∧xs.length+ys.length≤4611686018427387904)
  (h:evS P esc ops n (X.drop (i0+ba)) (c_ d (.ref b (g+1) 0 (xs++ys).length false) N A) L (H' (List.map enc (xs++ys))) K) (hk: ∀x,(enc x).length=s∧(enc x).all iX=true:=by exact fun _=>⟨rfl,rfl⟩)
  (e: ∀K,evS P esc ops n ((X.drop i0).take ba) A L H K=(true=true∧true=true∧qL s cg∧0=0∧g=g∧s=s∧(List.map enc xs).length=xs.length∧(xs.length+cg.length)*B≤140737488355328∧xs.length+cg.length≤4611686018427387904∧K (c_ d (.ref b (g+1) 0 (xs.length+cg.length) false) N A) L (H' (List.map enc xs++cg))):=by intro K;kernel_rfl):evS P esc ops n (X.drop i0) A L H K:=by
 rw[jw X i0 ba,e]
 subst hx
 refine⟨rfl,rfl,Ch hk ys,rfl,rfl,rfl,List.length_map ..,by rw[List.length_map];exact aT.1,by rw[List.length_map];exact aT.2,?_⟩
 ·rw[List.length_append] at h;rw[List.length_map,←List.map_append];exact h
theorem s7 (ba:Nat) (d:Option Nat) (N:List (Nat×AV)) {α:Type} (enc:α→List AV) (ys:List α) (cg:List (List AV)) (b s B:Nat) (H':List (List AV)→List Blk) (hx:cg=List.map enc ys) (aT:ys.length*B≤140737488355328∧ys.length≤4611686018427387904)
  (h:evS P esc ops n (X.drop (i0+ba)) (c_ d (.ref b 0 0 ys.length false) N A) L (H' (List.map enc ys)) K) (hk: ∀x,(enc x).length=s∧(enc x).all iX=true:=by exact fun _=>⟨rfl,rfl⟩)
  (e: ∀K,evS P esc ops n ((X.drop i0).take ba) A L H K=(true=true∧true=true∧qL s cg∧true=true∧(∀row∈([]:List (List AV)),row.length=s)∧(List.length (α:=List AV) []+cg.length)*B≤140737488355328∧List.length (α:=List AV) []+cg.length≤4611686018427387904∧(([]:List (List AV))≠[]→cg≠[])∧
   K (c_ d (.ref b 0 0 (List.length (α:=List AV) []+cg.length) false) N A) L (H' ([]++cg))):=by intro K;kernel_rfl):evS P esc ops n (X.drop i0) A L H K:=by
 rw[jw X i0 ba,e]
 subst hx
 refine⟨rfl,rfl,Ch hk ys,rfl,(fun row h=>by cases h),by simpa using aT.1,by simpa using aT.2,(fun h=>absurd rfl h),?_⟩
 ·simpa using h
theorem s9 (ba:Nat) (d:Option Nat) (N:List (Nat×AV)) {g:FuncId} (args:List AV) {eh:List AV} {mZ:AV} {dE:List Blk} (r:AV) (kP:List Blk)
  (hf:dz P g eh [] fun r H'=>r=mZ∧H'=dE) (hs:aD (c3 L H) args eh) (yy:sR dE=true) (vG:H++dE.map (k8 H.length)=kP)
  (h:evS P esc ops n (X.drop (i0+ba)) (c_ d r N A) L kP K) (aH:args.all eQ=true:=by kernel_rfl) (aC:wW mZ=true:=by kernel_rfl) (er:mq H.length mZ=r:=by kernel_rfl) (e: ∀K,evS P esc ops n ((X.drop i0).take ba) A L H K=lf P g args L H (fun v L' H'=>K (c_ d v N A) L' H'):=by intro K;kernel_rfl):evS P esc ops n (X.drop i0) A L H K:=by
 rw[jw X i0 ba,e]
 subst er;subst vG
 exact .inr (.inl ⟨aH,eh,hs,hf.mono fun fj H1 ⟨h1,h2⟩=>by subst h1;subst h2;exact⟨aC,yy,h⟩⟩)
theorem sLen (ba:Nat) (d:Option Nat) (N:List (Nat×AV)) {α:Type} (enc:α→List AV) (xs:List α) (h:xs.length≤4611686018427387904→evS P esc ops n (X.drop (i0+ba)) (c_ d (.int .i64 (xs.length:Nat)) N A) L H K)
  (e: ∀K,evS P esc ops n ((X.drop i0).take ba) A L H K=((List.map enc xs).length≤4611686018427387904→K (c_ d (.int .i64 ((List.map enc xs).length:Nat)) N A) L H):=by intro K;kernel_rfl):evS P esc ops n (X.drop i0) A L H K:=by
 rw[jw X i0 ba,e,List.length_map];exact h
theorem Hk (ba:Nat) (d:Option Nat) (N:List (Nat×AV)) {α:Type} (enc:α→List AV) (xs:List α) (h1:xs≠[]→evS P esc ops n (X.drop (i0+ba)) (c_ d (.bool false) N A) L H K) (h2:xs=[]→ ∀b,evS P esc ops n (X.drop (i0+ba)) (c_ d (.bool b) N A) L H K)
  (e: ∀K,evS P esc ops n ((X.drop i0).take ba) A L H K=((List.map enc xs≠[]→K (c_ d (.bool false) N A) L H)∧(List.map enc xs=[]→ ∀b,K (c_ d (.bool b) N A) L H)):=by intro K;kernel_rfl):evS P esc ops n (X.drop i0) A L H K:=by
 rw[jw X i0 ba,e]
 exact⟨fun h=>h1 fun e=>h (by rw[e];rfl),fun h=>h2 (by simpa using h)⟩
end
section
variable {P:Program} {esc:List Nat} {ops:Array Oper} {n:Nat} {X:List Item} {i0:Nat} {A:List (Nat×AV)} {L:List (Nat×List AV)} {H:List Blk} {K:List (Nat×AV)→List (Nat×List AV)→List Blk→Prop}
theorem kM [cB] {A':List (Nat×AV)} {L':List (Nat×List AV)} {H':List Blk} {ψ:Prop} {Q:Exit→St→Prop} (N:List (Nat×AV)) (aI:ψ) (lP:ns (gF N A) A'=A':=by kernel_rfl) (e: ∀K,evSD P esc ops n (X.drop i0) A L H K=K (gF N A) L' H':=by intro K;kernel_rfl)
  (ix:eO n (gF N A)=true:=by kernel_rfl) (mI:eO n A'=true:=by kernel_rfl):evSD P esc ops n (X.drop i0) A L H (fun A L H=>b_ ⟨bh n A',L',H'⟩ ψ Q .normal ⟨bh n A,L,H⟩):=by
 rw[e];exact⟨aI,xx ix mI lP⟩
theorem pN (ba t:Nat) (b:Bool) (N:List (Nat×AV)) (h1:b=true→evSD P esc ops n (X.drop (i0+ba)) (uU (gF ((t,.bool b)::N) A) t (.bool true)) L H K) (h2:b=false→evSD P esc ops n (X.drop (i0+ba)) (uU (gF ((t,.bool b)::N) A) t (.bool false)) L H K)
  (e: ∀K,evSD P esc ops n ((X.drop i0).take ba) A L H K=K (uU (gF ((t,.bool b)::N) A) t (.bool b)) L H:=by intro K;kernel_rfl):evSD P esc ops n (X.drop i0) A L H K:=by
 rw[lh X i0 ba,e]
 cases b with
 | true=>exact h1 rfl
 | false=>exact h2 rfl
theorem xp (N:List (Nat×AV)) (h:K (gF N A) L H) (e: ∀K,evSD P esc ops n (X.drop i0) A L H K=K (gF N A) L H:=by intro K;kernel_rfl):evSD P esc ops n (X.drop i0) A L H K:=by
 rw[e];exact h
theorem Cx (ba:Nat) (d:Option Nat) (v:AV) (N:List (Nat×AV)) {φ:Prop} (h1:φ) (h:evSD P esc ops n (X.drop (i0+ba)) (c_ d v N A) L H K) (e: ∀K,evSD P esc ops n ((X.drop i0).take ba) A L H K=(φ∧K (c_ d v N A) L H):=by intro K;kernel_rfl):evSD P esc ops n (X.drop i0) A L H K:=by
 rw[lh X i0 ba,e];exact⟨h1,h⟩
theorem zD (ba:Nat) (N:List (Nat×AV)) (L':List (Nat×List AV)) (H':List Blk) {φ:Prop} (h1:φ) (h:evSD P esc ops n (X.drop (i0+ba)) (gF N A) L' H' K) (e: ∀K,evSD P esc ops n ((X.drop i0).take ba) A L H K=(φ∧K (gF N A) L' H'):=by intro K;kernel_rfl):evSD P esc ops n (X.drop i0) A L H K:=by
 rw[lh X i0 ba,e];exact⟨h1,h⟩
theorem r4 (ba:Nat) (d:Option Nat) (N:List (Nat×AV)) {α:Type} [Inhabited α] (enc:α→List AV) (xs:List α) {i:Int} (m:Nat)
  (aT:0≤i∧i.toNat<xs.length) (h:evSD P esc ops n (X.drop (i0+ba)) (c_ d (.dr (enc (nth xs i)) 0) N A) L H K) (aH: ∀x,(enc x).length=m:=by exact fun _=>rfl)
  (e: ∀K,evSD P esc ops n ((X.drop i0).take ba) A L H K=(0≤i∧cU (List.map enc xs)[i.toNat]? fun row=>row.length=m∧K (c_ d (.dr row 0) N A) L H):=by intro K;kernel_rfl):evSD P esc ops n (X.drop i0) A L H K:=by
 rw[lh X i0 ba,e]
 refine⟨aT.1,ed (a:=enc (nth xs i)) ?_ ⟨aH _,h⟩⟩
 rw[List.getElem?_map,gO aT.2];rfl
theorem u4 (ba:Nat) (d:Option Nat) (N:List (Nat×AV)) (b g z:Nat) {i:Int} {m:Nat} (aT:0≤i∧i.toNat<m) (h:evSD P esc ops n (X.drop (i0+ba)) (c_ d (.ptr b g (0+i.toNat) 0) N A) L H K)
  (e: ∀K,evSD P esc ops n ((X.drop i0).take ba) A L H K=(g=g∧z=z∧0≤i∧i<m∧K (c_ d (.ptr b g (0+i.toNat) 0) N A) L H):=by intro K;kernel_rfl):evSD P esc ops n (X.drop i0) A L H K:=by
 rw[lh X i0 ba,e];exact⟨rfl,rfl,aT.1,by have:=aT.2;omega,h⟩
theorem xq (ba:Nat) (d:Option Nat) (N:List (Nat×AV)) {α:Type} [Inhabited α] (enc:α→List AV) (xs:List α) (i:Int) (t:TypeId) (c g:Nat) (v:AV) (aK:i.toNat<xs.length) (h:evSD P esc ops n (X.drop (i0+ba)) (c_ d v N A) L H K)
  (e2: ∀K,js P t (enc (nth xs i)) c K=K v:=by intro K;kernel_rfl)
  (e: ∀K,evSD P esc ops n ((X.drop i0).take ba) A L H K=(g=g∧cU (List.map enc xs)[0+i.toNat]? fun row=>js P t row c fun v=>K (c_ d v N A) L H):=by intro K;kernel_rfl):evSD P esc ops n (X.drop i0) A L H K:=by
 rw[lh X i0 ba,e]
 refine⟨rfl,ed (a:=enc (nth xs i)) ?_ (by rw[e2];exact h)⟩
 rw[Nat.zero_add,List.getElem?_map,gO aK];rfl
theorem RP (ba:Nat) (d:Option Nat) (N:List (Nat×AV)) {g:FuncId} (args:List AV) {eh:List AV} {t:AV}
  (hf:bZ P g eh t) (hs:aD (c3 L H) args eh) (h:evSD P esc ops n (X.drop (i0+ba)) (c_ d t N A) L H K) (aH:args.all eQ=true:=by kernel_rfl) (e: ∀K,evSD P esc ops n ((X.drop i0).take ba) A L H K=ox P g args L H (fun v=>K (c_ d v N A) L H):=by intro K;kernel_rfl):evSD P esc ops n (X.drop i0) A L H K:=by
 rw[lh X i0 ba,e];exact⟨aH,eh,t,hs,hf,h⟩
theorem aeo (ba:Nat) (d:Option Nat) (N:List (Nat×AV)) {α:Type} [Inhabited α] (enc:α→List AV) (xs:List α) (i:Int) (c k g:Nat) (cells:List AV) (F:List (List AV)→Prop) (H':List (List AV)→List Blk) (la:α) (aK:i.toNat<xs.length)
  (c5:F ((List.map enc (xs.set i.toNat la)))) (h:evSD P esc ops n (X.drop (i0+ba)) (c_ d (.tup []) N A) L (H' (List.map enc (xs.set i.toNat la))) K) (hc:Nat.ble (c+k) (enc (nth xs i)).length=true:=by kernel_rfl) (hs:fa (enc (nth xs i)) c cells=enc la:=by kernel_rfl)
  (e: ∀K,evSD P esc ops n ((X.drop i0).take ba) A L H K=(g=g∧cU (List.map enc xs)[0+i.toNat]? fun row=>c+k≤row.length∧F (((List.map enc xs).set (0+i.toNat) (fa row c cells)))∧K (c_ d (.tup []) N A) L (H' ((List.map enc xs).set (0+i.toNat) (fa row c cells)))):=by intro K;kernel_rfl):evSD P esc ops n (X.drop i0) A L H K:=by
 rw[lh X i0 ba,e]
 refine⟨rfl,ed (a:=enc (nth xs i)) ?_ ⟨Nat.le_of_ble_eq_true hc,?_,?_⟩⟩
 ·rw[Nat.zero_add,List.getElem?_map,gO aK];rfl
 ·rw[hs,Nat.zero_add,map_set];exact c5
 ·rw[hs,Nat.zero_add,map_set];exact h
theorem aem (ba:Nat) (d:Option Nat) (N:List (Nat×AV)) {α:Type} (enc:α→List AV) (xs ys:List α) (cg:List (List AV)) (b g s B:Nat) (F:List (List AV)→Prop) (H':List (List AV)→List Blk) (hx:cg=List.map enc ys) (aT:(xs.length+ys.length)*B≤140737488355328∧xs.length+ys.length≤4611686018427387904)
  (c5:F ((List.map enc (xs++ys)))) (h:evSD P esc ops n (X.drop (i0+ba)) (c_ d (.ref b (g+1) 0 (xs++ys).length false) N A) L (H' (List.map enc (xs++ys))) K) (hk: ∀x,(enc x).length=s∧(enc x).all iX=true:=by exact fun _=>⟨rfl,rfl⟩)
  (e: ∀K,evSD P esc ops n ((X.drop i0).take ba) A L H K=(true=true∧true=true∧qL s cg∧0=0∧g=g∧s=s∧(List.map enc xs).length=xs.length∧(xs.length+cg.length)*B≤140737488355328∧xs.length+cg.length≤4611686018427387904∧F ((List.map enc xs++cg))∧K (c_ d (.ref b (g+1) 0 (xs.length+cg.length) false) N A) L (H' (List.map enc xs++cg))):=by intro K;kernel_rfl):evSD P esc ops n (X.drop i0) A L H K:=by
 rw[lh X i0 ba,e]
 subst hx
 refine⟨rfl,rfl,Ch hk ys,rfl,rfl,rfl,List.length_map ..,by rw[List.length_map];exact aT.1,by rw[List.length_map];exact aT.2,?_,?_⟩
 ·rw[←List.map_append];exact c5
 ·rw[List.length_append] at h;rw[List.length_map,←List.map_append];exact h
theorem Cy (ba:Nat) (d:Option Nat) (N:List (Nat×AV)) {g:FuncId} (args:List AV) {eh:List AV} {mZ:AV} {dE:List Blk} (F:List (Nat×List AV)→List Blk→Prop) (r:AV) (kP:List Blk)
  (hf:dz P g eh [] fun r H'=>r=mZ∧H'=dE) (hs:aD (c3 L H) args eh) (yy:sR dE=true) (vG:H++dE.map (k8 H.length)=kP) (c5:F L kP)
  (h:evSD P esc ops n (X.drop (i0+ba)) (c_ d r N A) L kP K) (aH:args.all eQ=true:=by kernel_rfl) (aC:wW mZ=true:=by kernel_rfl) (er:mq H.length mZ=r:=by kernel_rfl) (e: ∀K,evSD P esc ops n ((X.drop i0).take ba) A L H K=lf P g args L H (fun v L' H'=>F L' H'∧K (c_ d v N A) L' H'):=by intro K;kernel_rfl):evSD P esc ops n (X.drop i0) A L H K:=by
 rw[lh X i0 ba,e]
 subst er;subst vG
 exact .inr (.inl ⟨aH,eh,hs,hf.mono fun fj H1 ⟨h1,h2⟩=>by subst h1;subst h2;exact⟨aC,yy,c5,h⟩⟩)
theorem IH (ba:Nat) (d:Option Nat) (N:List (Nat×AV)) {α:Type} (enc:α→List AV) (xs:List α) (h:evSD P esc ops n (X.drop (i0+ba)) (c_ d (.int .i64 (xs.length:Nat)) N A) L H K)
  (e: ∀K,evSD P esc ops n ((X.drop i0).take ba) A L H K=K (c_ d (.int .i64 ((List.map enc xs).length:Nat)) N A) L H:=by intro K;kernel_rfl):evSD P esc ops n (X.drop i0) A L H K:=by
 rw[lh X i0 ba,e,List.length_map];exact h
end
inductive jt (H:List Blk) (gd:Nat) (dm:Nat→Option Nat):AV→AV→Prop where
 | int (k:IntKind) (n:Int):jt H gd dm (.int k n) (.int k n)
 | bool (b:Bool):jt H gd dm (.bool b) (.bool b)
 | str (s:ByteArray):jt H gd dm (.str s) (.str s)
 | fW:jt H gd dm .fW .fW
 | gp:jt H gd dm .gp .gp
 | bC (rows:List (List AV)) (full en fr:Bool) (hw:en=true→full=true):jt H gd dm (.bC rows full fr) (.bC rows en fr)
 | ref {b g n j:Nat} {full:Bool} {blk:Blk} (aM:j<gd) (hs:dm j=some b) (hb:H[b]?=some blk) (hg:blk.bF=g):jt H gd dm (.ref b g 0 n full) (.ref j 0 0 n false)
 | nil {a:AV} {j:Nat} (aM:j<gd) (hs:dm j=none) (h:rN a=true):jt H gd dm a (.ref j 0 0 0 false)
def I7 (H:List Blk) (gd:Nat) (dm:Nat→Option Nat) (a b:AV):Prop:=(∃l fh,a= .agg l∧b= .agg fh∧aD (jt H gd dm) l fh)∨jt H gd dm a b
structure tp (H dE:List Blk) (dm:Nat→Option Nat):Prop where
 inj: ∀i j b,i<dE.length→j<dE.length→dm i=some b→dm j=some b→i=j
 bF: ∀(j:Nat) (k:Blk),dE[j]?=some k→k.bF=0
 blk: ∀(j b:Nat) (k:Blk),dE[j]?=some k→dm j=some b→ ∃q,H[b]?=some q∧q.sz=k.sz∧aD (aD (jt H dE.length dm)) q.rows k.rows
def Env.own (E:Env) (dE:List Blk) (dm:Nat→Option Nat):Env:=
 {w:=E.w,PA:=E.PA,PF:=E.PF,mL:=fun _=>none,bF:=fun _=>0
  m:=fun j=>if j<dE.length then(match dm j with
   | some b=>E.m b
   | none=>some none) else none
  sz:=fun j=>(dE[j]?.map Blk.sz).getD 0
  cp:=fun j=>match dm j with
   | some b=>E.cp b
   | none=>0}
section
variable {E:Env} {H dE:List Blk} {dm:Nat→Option Nat}
theorem N3 {j b:Nat} (aM:j<dE.length) (hs:dm j=some b):(E.own dE dm).m j=E.m b:=by
 show(if j<dE.length then _ else _)=_
 rw[if_pos aM,hs]
theorem Z_ {j:Nat} (aM:j<dE.length) (hs:dm j=none):(E.own dE dm).m j=some none:=by
 show(if j<dE.length then _ else _)=_
 rw[if_pos aM,hs]
theorem wU {j:Nat} {x:Option Nat} (h:(E.own dE dm).m j=some x):j<dE.length∧((dm j=none∧x=none)∨ ∃b,dm j=some b∧E.m b=some x):=by
 have h:(if j<dE.length then(match dm j with
   | some b=>E.m b
   | none=>some none) else none)=some x:=h
 split at h
 ·rename_i aM
  refine⟨aM,?_⟩
  cases hs:dm j with
  | none=>rw[hs] at h;cases h;exact .inl ⟨rfl,rfl⟩
  | some b=>rw[hs] at h;exact .inr ⟨b,rfl,h⟩
 ·cases h
theorem jt.v1 (aR:SimH E H) (dV:tp H dE dm) {a b:AV} (h:jt H dE.length dm a b) {v:Value} (hv:cC E a v):cC (E.own dE dm) b v:=by
 cases h with
 | int k n=>exact hv
 | bool b=>exact hv
 | str s=>exact hv
 | fW=>exact hv
 | gp=>exact hv
 | bC rows full en fr hw=>
  have hv:bH E.w E.PA E.PF (.bC rows full fr) v:=hv
  cases hv with
  | bC f_ gK hl cQ e9 dS=>exact bH.bC f_ gK (fun h=>hl (hw h)) cQ e9 dS
 | @ref b g n j full blk aM hs hb hg=>
  have kc:=aR.e4 b blk hb
  have hk:dE[j]?=some dE[j]:=List.getElem?_eq_getElem aM
  obtain⟨q,ak,cQ,_⟩:=dV.blk j b _ hk hs
  rw[hb] at ak
  obtain rfl:=Option.some.inj ak
  rcases(show fl E (.ref b g 0 n full) v from hv) with⟨bf,_⟩ | ⟨fK,bX⟩
  ·omega
  ·refine .inr ⟨rfl,?_⟩
   rcases bX with⟨hm,_,aH,A,ix⟩ | ⟨c,cap,hm,e,h1,h2,aN⟩
   ·exact .inl ⟨by rw[N3 aM hs];exact hm,rfl,aH,A,ix⟩
   ·refine .inr ⟨c,cap,by rw[N3 aM hs];exact hm,by rw[e,Nat.zero_mul,Nat.zero_mul],h1,(fun h=>by cases h),?_⟩
    show 0+cap≤(match dm j with
     | some b=>E.cp b
     | none=>0)
    rw[hs];exact aN
 | nil aM hs h=>exact DJ (E:=E) h hv rfl (Z_ aM hs)
theorem aaa (aR:SimH E H) (bY: ∀t,E.mL t=none) (dV:tp H dE dm):SimH (E.own dE dm) dE:=by
 have hN:E.b3=E:=by
  have:E.mL=fun _=>none:=funext bY
  cases E;simp only[Env.b3] at*;subst this;rfl
 have pv: ∀c,(E.own dE dm).gM c→E.gM c:=fun c ⟨j,aM⟩=>by
  obtain⟨_,h | ⟨b,_,h⟩⟩:=wU aM
  ·cases h.2
  ·exact⟨b,h⟩
 exact{
  heap:=fun j c hm=>by
   obtain⟨aM,h | ⟨b,hs,hb⟩⟩:=wU hm
   ·cases h.2
   ·have hk:dE[j]?=some dE[j]:=List.getElem?_eq_getElem aM
    obtain⟨q,ak,cQ,aK⟩:=dV.blk j b _ hk hs
    obtain⟨blk,a7,ty,q1,dL,q2,q3,q4,cH,cV⟩:=aR.heap b c hb
    rw[ak] at q1
    obtain rfl:=Option.some.inj q1
    have bB:(E.own dE dm).sz j=E.sz b:=by
     show(dE[j]?.map Blk.sz).getD 0=_
     rw[hk,dL,cQ];rfl
    have e2:(E.own dE dm).cp j=E.cp b:=by
     show(match dm j with
      | some b=>E.cp b
      | none=>0)=_
     rw[hs]
    refine⟨_,a7,ty,hk,by rw[bB,dL,cQ],q2,by rw[bB,e2];exact q3,by rw[e2,←aK.1];exact q4,fun i row eL=> ?_,fun i l row a eL a3=> ?_⟩
    ·have bf:=(List.getElem?_eq_some_iff.1 eL).1
     have h1:q.rows[i]?=some (q.rows[i]'(by rw[aK.1];exact bf)):=List.getElem?_eq_getElem _
     rw[bB,←(aK.2 i _ row h1 eL).1];exact cH i _ h1
    ·have bf:=(List.getElem?_eq_some_iff.1 eL).1
     have h1:q.rows[i]?=some (q.rows[i]'(by rw[aK.1];exact bf)):=List.getElem?_eq_getElem _
     have aI:=aK.2 i _ row h1 eL
     have Wx:=(List.getElem?_eq_some_iff.1 a3).1
     have h2:=List.getElem?_eq_getElem (l:=q.rows[i]'(by rw[aK.1];exact bf)) (i:=l) (by rw[aI.1];exact Wx)
     obtain⟨u,hu,hv⟩:=cV i l _ _ h1 h2
     rw[hN] at hv
     exact⟨u,by rw[bB];exact hu,(aI.2 l _ a h2 a3).v1 aR dV hv⟩
  e4:=fun j k hk=>(dV.bF j k hk).symm
  ho:=fun j hm=>by
   obtain⟨aM,_⟩:=wU hm
   have hk:dE[j]?=some dE[j]:=List.getElem?_eq_getElem aM
   exact⟨_,hk,by show(dE[j]?.map Blk.sz).getD 0=_;rw[hk];rfl⟩
  fresh:=fun j aM=>⟨by show(if j<dE.length then _ else _)=_;rw[if_neg (by omega)],rfl⟩
  hR:=fun i j c h1 h2=>by
   obtain⟨hi,h | ⟨b,hs,hb⟩⟩:=wU h1
   ·cases h.2
   ·obtain⟨aM,h | ⟨cj,lV,dZ⟩⟩:=wU h2
    ·cases h.2
    ·have:=aR.hR b cj c hb dZ
     subst this
     exact dV.inj i j b hi aM hs lV
  jB:=fun t jI c h=>by cases h
  gN:=fun b t c _ h=>by cases h
  hS:=fun c hc h=>aR.hS c hc (pv c h)
  ij:=fun c hc ⟨t,h⟩=>by cases h
  eS:=aR.eS
  e0:=aR.e0
  gn:=fun c h=>aR.gn c (pv c h)
  g2:=fun c ⟨t,h⟩=>by cases h}
end
theorem dz.toOwn {P:Program} {f:FuncId} {args:List AV} {mZ:AV} {dE:List Blk} (h:dz P f args [] fun r H=> ∃dm,tp H dE dm∧I7 H dE.length dm r mZ):dz P f args [] fun r H=>r=mZ∧H=dE:=by
 refine⟨h.1,fun E vs aH hs a3=>(h.2 E vs aH hs a3).mono ?_⟩
 rintro e w' ⟨r,v,H',E',rfl,⟨dm,dV,yd⟩,rfl,WA,lV,hv,bm⟩
 refine⟨mZ,v,dE,E'.own dE dm,rfl,⟨rfl,rfl⟩,rfl,fun _=>rfl,aaa lV WA dV,?_,?_⟩
 ·rcases yd with⟨l,fh,rfl,rfl,aI⟩ | yd
  ·obtain⟨kp,rfl,ak⟩:=(show ∃kp:List Value,v= .agg kp.toArray∧aD (cC E') l kp from hv)
   refine⟨kp,rfl,aI.1▸ak.1,fun i a u a3 hu=> ?_⟩
   have bf:i<l.length:=by rw[aI.1];exact(List.getElem?_eq_some_iff.1 a3).1
   have h1:=List.getElem?_eq_getElem bf
   exact(aI.2 i _ a h1 a3).v1 lV dV (ak.2 i _ u h1 hu)
  ·have kY:cC E' r v:=by
    rw[ot,o4] at hv
    ·exact hv
    ·rintro l rfl;cases yd with
     | nil aM hs hx=>exact absurd hx Bool.false_ne_true
    ·rintro l rfl;cases yd with
     | nil aM hs hx=>exact absurd hx Bool.false_ne_true
   exact pW (pV (yd.v1 lV dV kY))
 ·have pv: ∀c,(E'.own dE dm).gM c→E'.gM c:=fun c ⟨j,aM⟩=>by
   obtain⟨_,h | ⟨b,_,h⟩⟩:=wU aM
   ·cases h.2
   ·exact⟨b,h⟩
  exact{
   le:=⟨bm.le.fC,bm.le.fD,bm.le.tj,bm.le.wf,fun b=>by rw[(hs.fresh b (Nat.zero_le _)).2];exact Nat.zero_le _,(fun b x hm _=>by rw[(hs.fresh b (Nat.zero_le _)).1] at hm;cases hm),(fun t c hm=>by rw[aH t] at hm;cases hm)⟩
   os:=bm.os,tape:=bm.tape,output:=bm.output,size:=bm.size,e7:=bm.e7
   ji:=fun b c hb=>(bm.qu c (pv c ⟨b,hb⟩)).elim (fun⟨j,aM⟩=>by rw[(hs.fresh j (Nat.zero_le _)).1] at aM;cases aM) .inr
   jA:=fun c ⟨t,h⟩=>by cases h
   fC:=bm.fC,fD:=bm.fD}
theorem tp.nil {H:List Blk} {dm:Nat→Option Nat}:tp H [] dm:=⟨fun i j b h=>by simp at h,fun j k h=>by simp at h,fun j b k h=>by simp at h⟩
def oU (l:List (Option Nat)) (j:Nat):Option Nat:=(l[j]?).getD none
def CS (H:List Blk) (gd:Nat) (dm:Nat→Option Nat) (k:Blk):Option Nat→Prop
 | none=>True
 | some b=> ∃q,H[b]?=some q∧q.sz=k.sz∧aD (aD (jt H gd dm)) q.rows k.rows
def xD (H:List Blk) (gd:Nat) (dm:Nat→Option Nat):List (Option Nat)→List Blk→Prop
 | [],[]=>True
 | o::l,k::dE=>k.bF=0∧CS H gd dm k o∧xD H gd dm l dE
 | _,_=>False
theorem xD.get {H:List Blk} {gd:Nat} {dm:Nat→Option Nat}: ∀{l:List (Option Nat)} {dE:List Blk},xD H gd dm l dE→ ∀(j:Nat) (k:Blk),dE[j]?=some k→ ∃o,l[j]?=some o∧k.bF=0∧CS H gd dm k o
 | [],[],_,j,k,h=>by simp at h
 | o::l,q::dE,a3,0,k,h=>by simp at h;subst h;exact⟨o,rfl,a3.1,a3.2.1⟩
 | o::l,q::dE,a3,j+1,k,h=>by
  obtain⟨x,hx,h2⟩:=xD.get a3.2.2 j k (by simpa using h)
  exact⟨x,by simpa using hx,h2⟩
theorem qD {H dE:List Blk} (l:List (Option Nat)) (aL:l.length=dE.length) (bi:(l.filterMap id).Nodup) (h:xD H dE.length (oU l) l dE):tp H dE (oU l) where
 inj:=fun i j b hi aM h1 h2=>by
  have fU:i<l.length:=by omega
  have n3:j<l.length:=by omega
  have bB:l[i]=some b:=by have:(l[i]?).getD none=some b:=h1;rwa [List.getElem?_eq_getElem fU] at this
  have e2:l[j]=some b:=by have:(l[j]?).getD none=some b:=h2;rwa [List.getElem?_eq_getElem n3] at this
  rcases Nat.lt_trichotomy i j with bf | rfl | po
  ·exfalso
   have aI:=List.pairwise_filterMap.1 bi
   exact(List.pairwise_iff_getElem.1 aI i j fU n3 bf) b (by simpa using bB) b (by simpa using e2) rfl
  ·rfl
  ·exfalso
   have aI:=List.pairwise_filterMap.1 bi
   exact(List.pairwise_iff_getElem.1 aI j i n3 fU po) b (by simpa using e2) b (by simpa using bB) rfl
 bF:=fun j k hk=>by obtain⟨o,_,h1,_⟩:=h.get j k hk;exact h1
 blk:=fun j b k hk hs=>by
  obtain⟨o,aC,_,h2⟩:=h.get j k hk
  have:o=some b:=by have hs:(l[j]?).getD none=some b:=hs;rw[aC] at hs;exact hs
  subst this
  exact h2
theorem qM {H:List Blk} {gd:Nat} {dm:Nat→Option Nat} {α:Type} {enc:α→List AV} {b g sz:Nat} {xs ys:List α} (hb:H[b]?=some ⟨g,sz,List.map enc xs⟩) (hc: ∀x,aD (jt H gd dm) (enc x) (enc x)) (e:xs=ys):
  CS H gd dm ⟨0,sz,List.map enc ys⟩ (some b):=by
 subst e
 refine⟨_,hb,rfl,rfl,fun i r B9 h1 h2=> ?_⟩
 rw[List.getElem?_map] at h1 h2
 cases hx:xs[i]? with
 | none=>rw[hx] at h1;cases h1
 | some x=>rw[hx] at h1 h2;cases h1;cases h2;exact hc x
section
variable {H:List Blk} {gd:Nat} {dm:Nat→Option Nat}
theorem y0 (b:Bool):aD (jt H gd dm) (aX b) (aX b):= .cons (.bool _) .nil
theorem NX (x:ct):aD (jt H gd dm) (dd x) (dd x):= .cons (.int _ _) (.cons (.int _ _) .nil)
theorem Gx (x:bc):aD (jt H gd dm) (a5 x) (a5 x):= .cons (.int _ _) (.cons (.int _ _) .nil)
theorem GC {k:IntKind} {a b:Int} (h:a=b):jt H gd dm (.int k a) (.int k b):=h▸ .int k a
theorem Z8 {a b:Bool} (h:a=b):jt H gd dm (.bool a) (.bool b):=h▸ .bool a
theorem uE {b g n m j sz:Nat} {full:Bool} {rows:List (List AV)} (aM:j<gd) (hs:dm j=some b) (hb:H[b]?=some ⟨g,sz,rows⟩) (aH:n=m):jt H gd dm (.ref b g 0 n full) (.ref j 0 0 m false):=aH▸ .ref aM hs hb rfl
theorem GD {a:AV} {j m:Nat} (aM:j<gd) (hs:dm j=none) (h:rN a=true) (hm:0=m):jt H gd dm a (.ref j 0 0 m false):=hm▸ .nil aM hs h
end
theorem qC {α:Type} {enc:α→List AV} {g sz:Nat} {xs:List α} {H:List Blk} (h1: ∀x,(enc x).all pG=true) (h2:sR H=true):sR (⟨g,sz,List.map enc xs⟩::H)=true:=by
 show(((List.map enc xs).all fun row=>row.all pG)&&H.all fun b=>b.rows.all fun row=>row.all pG)=true
 rw[Bool.and_eq_true]
 refine⟨?_,h2⟩
 rw[List.all_eq_true]
 intro row aK
 obtain⟨x,_,rfl⟩:=List.mem_map.1 aK
 exact h1 x
theorem qR {α:Type} {enc:α→List AV} {k g sz:Nat} {xs:List α} {H H':List Blk} (h1: ∀x,(enc x).map (iD k)=enc x) (h2:H.map (k8 k)=H'):(Blk.mk g sz (List.map enc xs)::H).map (k8 k)=⟨g,sz,List.map enc xs⟩::H':=by
 subst h2
 show(⟨g,sz,(List.map enc xs).map fun row=>row.map (iD k)⟩:Blk)::_=_
 rw[List.map_map]
 congr 2
 exact List.map_congr_left fun x _=>h1 x
theorem qS {k:Nat} {H dE H1 kP:List Blk} (h:dE.map (k8 k)=H1) (e:H++H1=kP):H++dE.map (k8 k)=kP:=by rw[h,e]
def Env.at (W:World):Env:={w:=W,PA:=fun c=>c<W.heap.size,PF:=fun _=>False,m:=fun _=>none,bF:=fun _=>0,sz:=fun _=>0,cp:=fun _=>0,mL:=fun _=>none}
theorem SP (W:World):SimH (Env.at W) [] where
 heap:=fun b c hb=>by cases hb
 e4:=fun b blk hb=>by simp at hb
 ho:=fun b hb=>by cases hb
 fresh:=fun b _=>⟨rfl,rfl⟩
 hR:=fun b cj c hb=>by cases hb
 jB:=fun t jI c hb=>by cases hb
 gN:=fun b t c hb=>by cases hb
 hS:=fun c _ ⟨b,hb⟩=>by cases hb
 ij:=fun c _ ⟨b,hb⟩=>by cases hb
 eS:=fun c hc=>hc.elim
 e0:=fun c hc=>hc
 gn:=fun c ⟨b,hb⟩=>by cases hb
 g2:=fun c ⟨b,hb⟩=>by cases hb
theorem Ze {P:Program} {f:FuncId} {cJ:List AV} {W:World} {vs:List Value} (h:bZ P f cJ (.bool true)) (a3:aD (V2 (Env.at W)) cJ vs):
  Calls P f vs.toArray W fun e Ja=>e= .returned (.bool true)∧RowKit.Below W.heap.size W Ja:=by
 refine(h.2 (Env.at W) vs (fun _=>rfl) (SP W) a3).mono ?_
 rintro e w' ⟨r,v,H',E',rfl,aK,rfl,aH,hs,hv,bm⟩
 have hb:r= .bool true:=by
  rcases aK with⟨l,fh,_,e,_⟩ | ⟨l,fh,_,e,_⟩ | aK
  ·cases e
  ·cases e
  ·cases aK;rfl
 subst hb
 refine⟨by rw[V3.re hv],bm.os,bm.tape,bm.output,bm.size,fun k hk=>bm.e7 k hk (fun⟨b,hb⟩=>by cases hb) (fun⟨b,hb⟩=>by cases hb)⟩
def CR (W:World):AV→Value→Prop:=bH W (fun c=>c<W.heap.size) (fun _=>False)
def zV (P:Program) (W:World) (t:TypeId) {α:Type} (enc:α→List AV):Prop:=
 ∀{H:Type} (tF:TypeId×Value→H) (nd:Nat) (a7:List Value) (x:DataW H×List MemPlace),DataW.trod tF P W 0 (fun _=>true) true nd t a7=some x→(∀n∈x.1.weights P t,n≤reachBytes)→ ∃y:α,aD (CR W) (enc y) a7
section
variable {P:Program} {W:World}
theorem Z7 {t:TypeId} (hu:P.underlying t=some (.int .u8)):zV P W t p9:=fun tF nd a7 x h _=>by
 obtain⟨n,rfl,_,hw⟩:=DataW.trod_int hu h
 unfold Lit.wf at hw
 rw[Bool.and_eq_true] at hw
 have aT:(0:Int)≤n:=of_decide_eq_true hw.1
 have h1:n≤255:=of_decide_eq_true hw.2
 have e:(((UInt8.ofNat n.toNat).toNat:Nat):Int)=n:=by rw[UInt8.toNat_ofNat'];omega
 exact⟨UInt8.ofNat n.toNat,by unfold p9;rw[e];exact .cons (.int _ _) .nil⟩
theorem Zz {α:Type} (n:Nat) (φ:Nat→α→Prop) (h: ∀i,i<n→ ∃y,φ i y): ∃ys:List α,ys.length=n∧ ∀(i:Nat) (y:α),ys[i]?=some y→φ i y:=by
 induction n with
 | zero=>exact⟨[],rfl,fun i y h=>by simp at h⟩
 | succ n bR=>
  obtain⟨ys,aL,bt⟩:=bR fun i hi=>h i (by omega)
  obtain⟨z,aP⟩:=h n (by omega)
  refine⟨ys++[z],by simp[aL],fun i y hi=> ?_⟩
  rcases Nat.lt_or_ge i n with bf | fK
  ·rw[List.getElem?_append_left (by omega)] at hi
   exact bt i y hi
  ·rw[List.getElem?_append_right (by omega)] at hi
   rcases Nat.eq_or_lt_of_le fK with rfl | po
   ·rw[aL,Nat.sub_self] at hi
    cases hi;exact aP
   ·rw[List.getElem?_eq_none (by simp;omega)] at hi
    cases hi
theorem NF {α β:Type} {f:α→Option β}: ∀{l:List α} {r:List β},l.mapM f=some r→r.length=l.length∧ ∀(i:Nat) (a:α),l[i]?=some a→f a=r[i]?
 | [],r,h=>by simp at h;subst h;exact⟨rfl,fun i a h=>by simp at h⟩
 | x::l,r,h=>by
  rw[List.mapM_cons] at h
  simp only[bind,Option.bind_eq_some_iff,pure,Option.some.injEq] at h
  obtain⟨b,hb,B9,aK,rfl⟩:=h
  obtain⟨h1,h2⟩:=NF aK
  refine⟨by simp[h1],fun i a a3=> ?_⟩
  cases i with
  | zero=>simp at a3;subst a3;simpa using hb
  | succ i=>exact h2 i a (by simpa using a3)
theorem Tu {a:Addr} {n:Nat} {l:List Value} (h:W.cells? 0 a n=some l):l.length=n∧ ∀j,j<n→W.cell? (a.add j)=l[j]?:=by
 unfold World.cells? at h
 rw[if_pos (Nat.zero_le _)] at h
 obtain⟨aL,hg⟩:=NF h
 rw[List.length_range] at aL
 exact⟨aL,fun j aM=>hg j j (List.getElem?_range aM)⟩
theorem ad7 {a:Addr} {v:Value} (h:W.cell? a=some v):a.spot=none∧a.block<W.heap.size:=by
 unfold World.cell? at h
 split at h
 ·rename_i c _ _ hb
  split at h
  ·cases h
  ·rename_i hs
   refine⟨by cases ak:a.spot<;>simp_all,?_⟩
   rcases Nat.lt_or_ge a.block W.heap.size with h1 | h1
   ·exact h1
   ·rw[Array.getElem?_eq_none h1] at hb;cases hb
 ·cases h
theorem add_add (c o x y:Nat):((⟨c,o,none⟩:Addr).add x).add y=⟨c,o+(x+y),none⟩:=by
 rw[nI,nI,Nat.add_assoc]
theorem Z6 {t e:TypeId} {α:Type} {enc:α→List AV} (hu:P.underlying t=some (.slice e)) (hb:1≤P.bytesOf e) (aP:1≤P.cellsOf e) (hc: ∀x,(enc x).length=P.cellsOf e) (h:zV P W e enc):zV P W t (iN enc false):=by
 intro H tF nd a7 x br hw
 rcases DataW.trod_slice hu br with⟨rfl,rfl⟩ | ⟨a,len,cap,vI,rest,n,_,rfl,rfl,_,aL,_,hlen,tS,_,_⟩
 ·refine⟨[],.cons ?_ .nil⟩
  exact bH.bC (rows:=[]) (PB:=fun _=>False) (sz:=0) (vs:=fun _ _=>undef) (fun _ h=>h.elim) ⟨Nat.le_refl _,Nat.zero_le _⟩ (fun h=>by cases h) (fun i row h=>by simp at h) (fun h=>by simp at h) (fun i j row a h=>by simp at h)
 ·have qo:(vI.length+rest.length)*P.bytesOf e≤reachBytes:=by
   have:=hw ((vI.length+rest.length)*P.bytesOf e) (by simp[DataW.weights,hu])
   simpa using this
  have gZ:len≤4611686018427387904:=by
   have h1:vI.length+rest.length≤(vI.length+rest.length)*P.bytesOf e:=Nat.le_mul_of_pos_right _ hb
   have h2:=reachBytes_lt
   have aN:(2:Nat) ^ 47=140737488355328:=rfl
   omega
  have eo: ∀(l:List (DataW H)) (d:DataW H),d∈l→ ∀m∈d.weights P e,m∈DataW.weightsAll P e l:=by
   intro l
   induction l with
   | nil=>intro d bi;cases bi
   | cons q l bR=>
    intro d bi m hm
    simp only[DataW.weightsAll,List.mem_append]
    rcases List.mem_cons.1 bi with rfl | bi
    ·exact .inl hm
    ·exact .inr (bR d bi m hm)
  obtain⟨ys,Bn,bt⟩:=Zz len (fun i y=> ∃l,W.cells? 0 (a.add (i*P.cellsOf e)) (P.cellsOf e)=some l∧aD (CR W) (enc y) l) fun i hi=>by
   have h1:=tS i hi
   have h2:vI[i]?=some (vI[i]'(by omega)):=List.getElem?_eq_getElem _
   rw[h2,Option.bind_eq_some_iff] at h1
   obtain⟨l,Wa,Xb⟩:=h1
   obtain⟨y,bt⟩:=h tF n l _ Xb fun m hm=>hw m (by
    simp only[DataW.weights,hu,List.mem_cons,List.mem_append]
    exact .inr (.inl (eo _ _ (List.mem_map.2 ⟨_,List.getElem_mem (by omega),rfl⟩) m hm)))
   exact⟨y,l,Wa,bt⟩
  have g_: ∀i j,i<len→j<P.cellsOf e→ ∃l v,W.cells? 0 (a.add (i*P.cellsOf e)) (P.cellsOf e)=some l∧l[j]?=some v∧W.cell? ((a.add (i*P.cellsOf e)).add j)=some v:=fun i j hi aM=>by
   obtain⟨l,oF,_⟩:=bt i _ (List.getElem?_eq_getElem (by omega))
   obtain⟨q1,q2⟩:=Tu oF
   exact⟨l,l[j]'(by omega),oF,List.getElem?_eq_getElem _,by rw[q2 j aM];exact List.getElem?_eq_getElem _⟩
  let vs:Nat→Nat→Value:=fun i j=>(((W.cells? 0 (a.add (i*P.cellsOf e)) (P.cellsOf e)).getD [])[j]?).getD undef
  refine⟨ys,.cons ?_ .nil⟩
  have key:=bH.bC (w:=W) (PA:=fun c=>c<W.heap.size) (PF:=fun _=>False) (PB:=fun c=>c<W.heap.size) (rows:=List.map enc ys) (full:=false) (fresh:=false) (A:=some a) (cap:=cap) (sz:=P.cellsOf e) (vs:=vs)
   (fun c hc=>by simpa using hc) (by rw[List.length_map,Bn];exact⟨aL,gZ⟩) (fun h=>by cases h)
   (fun i row aK=>by
    rw[List.getElem?_map] at aK
    cases ak:ys[i]? with
    | none=>rw[ak] at aK;cases aK
    | some y=>rw[ak] at aK;cases aK;exact hc y)
   (fun lk=>by
    rw[List.length_map,Bn] at lk
    obtain⟨l,v,_,_,hv⟩:=g_ 0 0 lk aP
    rw[Nat.zero_mul] at hv
    have aT:(a.add 0).add 0=a:=by simp[Addr.add]
    rw[aT] at hv
    obtain⟨hs,bf⟩:=ad7 hv
    obtain⟨c,o,s⟩:=a
    have hs:s=none:=hs
    subst hs
    refine⟨c,o,rfl,bf,fun i j hi aM=> ?_⟩
    rw[List.length_map,Bn] at hi
    obtain⟨l,v,q1,q2,q3⟩:=g_ i j hi aM
    rw[add_add] at q3
    rw[q3]
    show some v=some ((((W.cells? 0 _ _).getD [])[j]?).getD undef)
    rw[q1]
    show some v=some ((l[j]?).getD undef)
    rw[q2];rfl)
   (fun i j row b aK aM=>by
    rw[List.getElem?_map] at aK
    cases ak:ys[i]? with
    | none=>rw[ak] at aK;cases aK
    | some y=>
     rw[ak] at aK;cases aK
     obtain⟨l,oF,aI⟩:=bt i y ak
     obtain⟨v,hv,n5⟩:=aI.get aM
     show bH W _ _ b ((((W.cells? 0 _ _).getD [])[j]?).getD undef)
     rw[oF]
     show bH W _ _ b ((l[j]?).getD undef)
     rw[hv];exact n5)
  rw[List.length_map,Bn] at key
  exact key
theorem Ae {a7:List Value} (h:a7.length=2): ∃a b,a7=[a,b]:=by
 match a7,h with
 | [a,b],_=>exact⟨a,b,rfl⟩
theorem SM {t:TypeId} {α:Type} {enc:α→List AV} {f:α→AV} (h:zV P W t enc) (he: ∀y,enc y=[f y]) {H:Type} {tF:TypeId×Value→H} {v:Value} {d:DataW H} {ps:List MemPlace} (br:DataW.Trod tF P W 0 (fun _=>true) true t v d ps)
  (hw: ∀n∈d.weights P t,n≤reachBytes) (hv:v.cells= #[v]): ∃y,V2 (Env.at W) (f y) v:=by
 obtain⟨nd,hf⟩:=br
 rw[hv] at hf
 obtain⟨y,aI⟩:=h tF nd _ _ hf hw
 rw[he] at aI
 have aK:CR W (f y) v:=aI.head
 exact⟨y,pV (bH.v1 (E:=Env.at W) aK)⟩
end
def Ng (P:Program) (fn:Func) (c:OpenClaim):Bool:=c.kinds==(if c.domain.isEmpty then[] else fn.params.toList.map fun t=>match P.underlying t with | some (.int k)=>some k | _=>none)
theorem Y8 {P:Program} {f:FuncId} {fn:Func} {s:ChangeSpec} {c:OpenClaim} (aT:(c.wf (OpenSpec.ofChange s))=true) (h1:laidOutB P=true) (h2:mapsRowed P=true) (aN:fn.params.all (P.readableRec ·)=true) (be:namedTie P c.named s.vars=true) (ci:(c.stops==[])=true) (cK:(P.stops==[])=true) (gC:(c.knobs==[])=true) (nV:(P.stopKnobs==[])=true) (tJ:(c.inPlace==P.inPlace f)=true) (x_:(c.unfollowed==P.unfollowed f)=true) (Vu:(c.recurses==P.recurses f)=true) (nU:(c.named==P.varsNamed f)=true) (Vv:(c.maps==(fn.params.toList++s.plain.varTypes P).any (P.mapsRec ·))=true) (Vw:(c.ifaces==(fn.params.toList++s.plain.varTypes P).any (P.ifacesRec ·))=true) (Vx:(c.mapsOut==P.mapsAmong fn.resultTypes.toList)=true) (Vy:(c.loops==(fn.params.toList++s.plain.varTypes P).any (P.loopsFrom ·))=true) (Vz:(c.wideKeys==(fn.params.toList++s.plain.varTypes P++fn.resultTypes.toList).any (P.wideKeysFrom ·))=true) (VA:s.vars.all (P.varReadable ·)=true) (VB:fn.resultTypes.all (fun t=>P.readableRec t&&decide (t<P.types.size))=true) (VC:(c.ifacesOut==fn.resultTypes.toList.any (P.ifacesRec ·))=true) (VD:(c.loopsOut==fn.resultTypes.toList.any (P.loopsFrom ·))=true) (VE:(c.plainKeys==P.plainKeys)=true) (VF:c.shortTexts.isNone=true) (VG:P.stopsHeard=true) (VH:P.mayEnter=true) (VI:(c.lifted==P.liftsFinal)=true) (VJ:(P.make==some c.make)=true) (VK:Ng P fn c=true) (VL:(c.pinned==c.pinnedBy)=true) (oB:(c.veiled==(fn.params.toList++s.plain.varTypes P++fn.resultTypes.toList).any (P.veiledRec ·))=true) (VM:c.veiledFits P fn.params.toList (fn.params.toList++s.plain.varTypes P++fn.resultTypes.toList)=true):joinedFacts P f fn s c=true:=by
 unfold joinedFacts
 simp only[Bool.and_eq_true]
 exact⟨⟨⟨⟨⟨⟨⟨⟨⟨⟨⟨⟨⟨⟨⟨⟨⟨⟨⟨⟨⟨⟨⟨⟨⟨⟨⟨⟨⟨⟨⟨aT,h1⟩,h2⟩,aN⟩,be⟩,ci⟩,cK⟩,gC⟩,nV⟩,tJ⟩,x_⟩,Vu⟩,nU⟩,Vv⟩,Vw⟩,Vx⟩,Vy⟩,Vz⟩,VA⟩,VB⟩,VC⟩,VD⟩,VE⟩,VF⟩,VG⟩,VH⟩,VI⟩,VJ⟩,VK⟩,VL⟩,oB⟩,VM⟩
theorem ZZ {α:Type} [Inhabited α] {xs:List α} {i:Int} (h:i.toNat<xs.length):nth xs i=xs[i.toNat]:=by
 have:=gO h
 rw[List.getElem?_eq_getElem h] at this
 exact(Option.some.inj this).symm
def bk (b:List Bool):Blk:=⟨0,1,List.map aX b⟩
def ka (s:Nat) (h:ae) (id:Nat):List AV:=[.int .i64 h.ar,.int .i64 h.af,.ref (id+s) 0 0 h.ac.length false,.bool h.ao,.int .i64 h.ap]
def a0 (s:Nat) (ws:List ae) (ids:List Nat):List (List AV):=List.zipWith (ka s) ws ids
def view (ws:List ae) (ids:List Nat) (bs:List (List Bool)):List ae:=List.zipWith (fun h id=>{h with ac:=bs.getD id []}) ws ids
structure j7 (ws:List ae) (ids:List Nat) (bs:List (List Bool)):Prop where
 len:ws.length=ids.length
 lt: ∀(i id:Nat),ids[i]?=some id→id<bs.length
 ac: ∀(i id:Nat) (h:ae),ws[i]?=some h→ids[i]?=some id→h.ac.length=(bs.getD id []).length
theorem dF {s:Nat} {ws:List ae} {ids:List Nat} {i:Int} (aL:ws.length=ids.length) (hi:i.toNat<ws.length):(a0 s ws ids)[i.toNat]?=some (ka s (nth ws i) (nth ids i)):=by
 unfold a0
 rw[List.getElem?_zipWith,gO hi,gO (by omega)]
theorem vX {s:Nat} {ws:List ae} {ids:List Nat} (aL:ws.length=ids.length):(a0 s ws ids).length=ws.length:=by
 unfold a0;rw[List.length_zipWith];omega
theorem vY {s:Nat} {ws:List ae} {ids:List Nat} {i:Nat} {h:ae} {id:Nat} (aL:ws.length=ids.length):(a0 s ws ids).set i (ka s h id)=a0 s (ws.set i h) (ids.set i id):=by
 apply List.ext_getElem?
 intro j
 unfold a0
 rw[List.getElem?_set,List.getElem?_zipWith,List.getElem?_zipWith,List.getElem?_set,List.getElem?_set]
 by_cases nh:i=j
 ·subst nh
  simp only[if_true,List.length_zipWith]
  by_cases hi:i<ws.length
  ·rw[if_pos (by omega),if_pos hi,if_pos (by omega)]
  ·rw[if_neg (by omega),if_neg hi]
 ·simp only[if_neg nh]
theorem kb {s:Nat} {ws:List ae} {ids:List Nat} {i:Int} {h:ae} (aL:ws.length=ids.length) (hi:i.toNat<ws.length):(a0 s ws ids).set i.toNat (ka s h (nth ids i))=a0 s (ws.set i.toNat h) ids:=by
 rw[vY aL]
 congr 1
 rw[ZZ (by omega)]
 exact List.set_getElem_self _
theorem En {s:Nat} {ws:List ae} {ids:List Nat} {h:ae} {id:Nat} (aL:ws.length=ids.length):a0 s ws ids++[ka s h id]=a0 s (ws++[h]) (ids++[id]):=by
 unfold a0
 rw[List.zipWith_append aL];rfl
theorem sn {bs:List (List Bool)} {id:Nat} (h:id<bs.length):(List.map bk bs)[id]?=some (bk (bs.getD id [])):=by
 rw[List.getElem?_map,List.getElem?_eq_getElem h,List.getD_eq_getElem?_getD,List.getElem?_eq_getElem h];rfl
theorem D4 {bs:List (List Bool)} {id:Nat} {b:List Bool}:(List.map bk bs).set id (bk b)=List.map bk (bs.set id b):=by rw[List.map_set]
theorem xT {b:List Bool} {i:Int} (h:i.toNat<b.length):(List.map aX b)[i.toNat]?=some (aX (nth b i)):=by rw[List.getElem?_map,gO h];rfl
theorem C5 {b:List Bool} {i:Nat} {x:Bool}:(List.map aX b).set i (aX x)=List.map aX (b.set i x):=by rw[List.map_set]
theorem i_ {ws:List ae} {ids:List Nat} {bs:List (List Bool)} (h:j7 ws ids bs):(view ws ids bs).length=ws.length:=by
 unfold view;rw[List.length_zipWith];have:=h.len;omega
theorem xu {ws:List ae} {ids:List Nat} {bs:List (List Bool)} {i:Nat} {h:ae} {id:Nat} (h1:ws[i]?=some h) (h2:ids[i]?=some id):(view ws ids bs)[i]?=some {h with ac:=bs.getD id []}:=by
 unfold view;rw[List.getElem?_zipWith,h1,h2]
theorem uR {s:Nat} {ws:List ae} {ids:List Nat} {i:Nat} {row:List AV} (h:(a0 s ws ids)[i]?=some row): ∃x id,ws[i]?=some x∧ids[i]?=some id∧row=ka s x id:=by
 unfold a0 at h
 rw[List.getElem?_zipWith] at h
 cases hx:ws[i]? with
 | none=>rw[hx] at h;cases h
 | some x=>
  cases bi:ids[i]? with
  | none=>rw[hx,bi] at h;cases h
  | some id=>rw[hx,bi] at h;cases h;exact⟨x,id,rfl,rfl,rfl⟩
theorem ta {L:List (Nat×List AV)} {H:List Blk} {b s n:Nat} {full:Bool} {ws:List ae} {ids:List Nat} {bs:List (List Bool)} (aH:n=ws.length) (hb:H[b]?=some ⟨0,5,a0 s ws ids⟩)
  (hf: ∀(id:Nat) (k:Blk),(List.map bk bs)[id]?=some k→H[id+s]?=some k) (ok:j7 ws ids bs) (gZ:ws.length≤4611686018427387904) (AO: ∀x∈bs,x.length≤4611686018427387904):
  fT L H (.ref b 0 0 n full) (.bC (List.map (dD false) (view ws ids bs)) false false):=by
 subst aH
 refine fT.ref (fun h=>by cases h) hb rfl (by rw[List.length_map,i_ ok]) gZ (by rw[Nat.zero_add,vX ok.len];exact Nat.le_refl _) (fun i row row' h1 h2=> ?_) (fun i j row row' a c h1 h2 aN be=> ?_)
 ·rw[Nat.zero_add] at h1
  obtain⟨x,id,hx,bi,rfl⟩:=uR h1
  rw[List.getElem?_map,xu hx bi] at h2
  cases h2;rfl
 ·rw[Nat.zero_add] at h1
  obtain⟨x,id,hx,bi,rfl⟩:=uR h1
  rw[List.getElem?_map,xu hx bi] at h2
  cases h2
  have bf:=ok.lt i id bi
  have key:om L H (ka s x id) (dD false {x with ac:=bs.getD id []}):=by
   refine .cons (.int _ _) (.cons (.int _ _) (.cons ?_ (.cons (.bool _) (.cons (.int _ _) .nil))))
   have hm:bs.getD id []∈bs:=by rw[List.getD_eq_getElem?_getD,List.getElem?_eq_getElem bf];exact List.getElem_mem bf
   exact m2 (eT:=aX) (eF:=aX) (sz:=1) (ok.ac i id x hx bi) (hf id _ (sn bf)) sF (AO _ hm)
  exact key.2 j a c aN be
theorem Cr {H:List Blk} {b g s n:Nat} {full:Bool} {ws ys:List ae} {ids:List Nat} {bs:List (List Bool)} (aH:n=ws.length) (hb:H[b]?=some ⟨g,5,a0 s ws ids⟩)
  (hf: ∀(id:Nat) (k:Blk),(List.map bk bs)[id]?=some k→H[id+s]?=some k) (h:j7 ws ids bs∧ws.length≤4611686018427387904∧(∀x∈bs,x.length≤4611686018427387904)∧view ws ids bs=ys):
  gv H (.ref b g 0 n full) (.bC (List.map (dD false) ys) false true):=by
 obtain⟨ok,gZ,AO,rfl⟩:=h
 subst aH
 refine gv.ref (fun h=>by cases h) (fun i j=>(((view ws ids bs)[i]?).bind fun x=>(dD true x)[j]?).getD .undef) hb rfl (by rw[List.length_map,i_ ok]) gZ (by rw[Nat.zero_add,vX ok.len];exact Nat.le_refl _) (fun i row row' h1 h2=> ?_) (fun i j row a hi h1 h2=> ?_) (fun i j row' c h1 h2=> ?_)
 ·rw[Nat.zero_add] at h1
  obtain⟨x,id,hx,bi,rfl⟩:=uR h1
  rw[List.getElem?_map,xu hx bi] at h2
  cases h2;rfl
 ·rw[Nat.zero_add] at h1
  obtain⟨x,id,hx,bi,rfl⟩:=uR h1
  rw[xu hx bi]
  have bf:=ok.lt i id bi
  have hm:bs.getD id []∈bs:=by rw[List.getD_eq_getElem?_getD,List.getElem?_eq_getElem bf];exact List.getElem_mem bf
  show gv H a (((some ({x with ac:=bs.getD id []}:ae)).bind fun x=>(dD true x)[j]?).getD .undef)
  match j,h2 with
  | 0,h2=>cases h2;exact .int _ _
  | 1,h2=>cases h2;exact .int _ _
  | 2,h2=>
   cases h2
   exact qT (eT:=aX) (eF:=aX) (sz:=1) (ok.ac i id x hx bi) (hf id _ (sn bf)) vz ⟨AO _ hm,rfl⟩
  | 3,h2=>cases h2;exact .bool _
  | 4,h2=>cases h2;exact .int _ _
  | j+5,h2=>simp[ka] at h2
 ·rw[List.getElem?_map] at h1
  cases hv:(view ws ids bs)[i]? with
  | none=>rw[hv] at h1;cases h1
  | some x=>
   rw[hv] at h1;cases h1
   show c=ko (((some x).bind fun x=>(dD true x)[j]?).getD .undef)
   match j,h2 with
   | 0,h2=>cases h2;rfl
   | 1,h2=>cases h2;rfl
   | 2,h2=>cases h2;rfl
   | 3,h2=>cases h2;rfl
   | 4,h2=>cases h2;rfl
   | j+5,h2=>simp[dD] at h2
theorem Weak.wI [cB] (sz:Nat) {T:List AV} {L:List (Nat×List AV)} {H:List Blk}:Weak ⟨T,L,H⟩ ⟨T,L,H++[⟨0,sz,[]⟩]⟩:=fun cs E tmps g s=>by
 obtain⟨E',hw,bm,h1,h2,_⟩:=BG (blk:=⟨0,sz,[]⟩) s.h s.l rfl rfl
 exact⟨E',hw,g.step bm,h1,h2,fun t=>(s.iq t).le bm.le,s.size⟩
theorem Weak.clear [cB] (j:Nat) {g sz:Nat} {rows:List (List AV)} {T:List AV} {L:List (Nat×List AV)} {H:List Blk} (aM:H[j]?=some ⟨g,sz,rows⟩):Weak ⟨T,L,H⟩ ⟨T,L,H.set j ⟨g,sz,[]⟩⟩:=fun cs E tmps Vm s=>by
 have oD:=(List.getElem?_eq_some_iff.1 aM).1
 have get: ∀(b:Nat) (blk:Blk),(H.set j ⟨g,sz,[]⟩)[b]?=some blk→(b=j∧blk=⟨g,sz,[]⟩)∨(b≠j∧H[b]?=some blk):=fun b blk h=>by
  rw[List.getElem?_set] at h
  split at h
  ·rename_i e;subst e;exact .inl ⟨rfl,(Option.some.inj h).symm⟩
  ·rename_i e;exact .inr ⟨fun h=>e h.symm,h⟩
 have hq:SimH E H:=s.h
 refine⟨E,rfl,Vm,{hq with
  heap:=fun b c hb=> ?_,e4:=fun b blk hb=> ?_,ho:=fun b hb=> ?_,fresh:=fun b hb=>hq.fresh b (by simpa using hb)},s.l,s.iq,s.size⟩
 ·obtain⟨blk,a7,ty,q1,dL,q2,q3,q4,cH⟩:=hq.heap b c hb
  by_cases e:b=j
  ·subst e
   rw[aM] at q1
   obtain rfl:=Option.some.inj q1
   exact⟨⟨g,sz,[]⟩,a7,ty,by rw[List.getElem?_set];simp[oD],dL,q2,q3,Nat.zero_le _,fun i row h=>by simp at h,fun i j row a h=>by simp at h⟩
  ·exact⟨blk,a7,ty,by rw[List.getElem?_set,if_neg (fun h=>e h.symm)];exact q1,dL,q2,q3,q4,cH⟩
 ·rcases get b blk hb with⟨rfl,rfl⟩ | ⟨_,hb⟩
  ·exact(hq.e4 b _ aM:)
  ·exact hq.e4 b blk hb
 ·obtain⟨blk,q1,dL⟩:=hq.ho b hb
  by_cases e:b=j
  ·subst e
   rw[aM] at q1
   obtain rfl:=Option.some.inj q1
   exact⟨⟨g,sz,[]⟩,by rw[List.getElem?_set];simp[oD],dL⟩
  ·exact⟨blk,by rw[List.getElem?_set,if_neg (fun h=>e h.symm)];exact q1,dL⟩
theorem Pn (H:List Blk):H.map (k8 0)=H:=by
 have aT: ∀a:AV,iD 0 a=a:=fun a=>by cases a<;>simp[iD]
 have:k8 0=id:=by
  funext b
  obtain⟨g,s,rows⟩:=b
  show(⟨g,s,rows.map fun row=>row.map (iD 0)⟩:Blk)=⟨g,s,rows⟩
  congr 1
  have:(fun row:List AV=>row.map (iD 0))=id:=by funext row;rw[show iD 0=id from funext aT];simp
  rw[this];simp
 rw[this];simp
theorem BQ {bx aQ a1 s:Nat} {aw:List Bool} {jl:List bc} {ws:List ae} {ids:List Nat} {bs:List (List Bool)}:sR (⟨bx,1,List.map aX aw⟩::⟨aQ,2,List.map a5 jl⟩::⟨a1,5,a0 s ws ids⟩::List.map bk bs)=true:=by
 refine qC (fun _=>rfl) (qC (fun _=>rfl) ?_)
 unfold sR
 rw[List.all_eq_true]
 intro b hb
 rw[List.all_eq_true]
 intro row aK
 rcases List.mem_cons.1 hb with rfl | hb
 ·obtain⟨i,hi⟩:=List.mem_iff_getElem?.1 aK
  obtain⟨x,id,_,_,rfl⟩:=uR hi
  rfl
 ·obtain⟨b,_,rfl⟩:=List.mem_map.1 hb
  obtain⟨x,_,rfl⟩:=List.mem_map.1 aK
  rfl
def uW (j:Nat):Option Nat:=if j<3 then some j else some (j+1)
theorem N2 {r:AV} {bx aQ a1 bS gd oa n2:Nat} {f0 f1 f2:Bool} {R:Frame} {ok:Bool} {aw:List Bool} {jl:List bc} {ws:List ae} {ids:List Nat} {bs:List (List Bool)} {rows:List (List AV)}
  (h:ok=R.ok∧aw=R.aw∧jl=R.au∧ws=R.O∧ids=List.range ws.length∧bs=ws.map ae.ac) (aT:gd=aw.length) (h1:oa=jl.length) (h2:n2=ws.length) (aK:r= .agg [.bool ok,.ref 0 bx 0 gd f0,.ref 1 aQ 0 oa f1,.ref 2 a1 0 n2 f2]):
  ∃dm,tp (⟨bx,1,List.map aX aw⟩::⟨aQ,2,List.map a5 jl⟩::⟨a1,5,a0 4 ws ids⟩::⟨bS,5,rows⟩::List.map bk bs)
   (⟨0,1,List.map aX R.aw⟩::⟨0,2,List.map a5 R.au⟩::⟨0,5,a0 3 R.O (List.range R.O.length)⟩::List.map bk (List.map ae.ac R.O)) dm∧
   I7 (⟨bx,1,List.map aX aw⟩::⟨aQ,2,List.map a5 jl⟩::⟨a1,5,a0 4 ws ids⟩::⟨bS,5,rows⟩::List.map bk bs)
    (⟨0,1,List.map aX R.aw⟩::⟨0,2,List.map a5 R.au⟩::⟨0,5,a0 3 R.O (List.range R.O.length)⟩::List.map bk (List.map ae.ac R.O)).length dm r
    (.agg [.bool R.ok,.ref 0 0 0 R.aw.length false,.ref 1 0 0 R.au.length false,.ref 2 0 0 R.O.length false]):=by
 obtain⟨rfl,rfl,rfl,rfl,rfl,rfl⟩:=h
 subst aT;subst h1;subst h2;subst aK
 have hlen:(⟨0,1,List.map aX R.aw⟩::⟨0,2,List.map a5 R.au⟩::⟨0,5,a0 3 R.O (List.range R.O.length)⟩::List.map bk (List.map ae.ac R.O):List Blk).length=R.O.length+3:=by simp
 refine⟨uW,⟨fun i j b hi aM h1 h2=> ?_,fun j k hk=> ?_,fun j b k hk hs=> ?_⟩,.inl ⟨_,_,rfl,rfl,?_⟩⟩
 ·unfold uW at h1 h2
  split at h1<;>split at h2<;>simp at h1 h2<;>omega
 ·match j,hk with
  | 0,hk=>simp at hk;subst hk;rfl
  | 1,hk=>simp at hk;subst hk;rfl
  | 2,hk=>simp at hk;subst hk;rfl
  | j+3,hk=>simp at hk;obtain⟨x,_,rfl⟩:=hk;rfl
 ·rw[hlen]
  match j,hk,hs with
  | 0,hk,hs=>
   simp at hk;subst hk
   obtain rfl:0=b:=by simpa[uW] using hs
   exact qM (b:=0) rfl y0 rfl
  | 1,hk,hs=>
   simp at hk;subst hk
   obtain rfl:1=b:=by simpa[uW] using hs
   exact qM (b:=1) rfl Gx rfl
  | 2,hk,hs=>
   simp at hk;subst hk
   obtain rfl:2=b:=by simpa[uW] using hs
   refine⟨_,rfl,rfl,⟨by rw[vX (by simp),vX (by simp)],fun i afv et a3 hb=> ?_⟩⟩
   obtain⟨x,id,hx,bi,rfl⟩:=uR a3
   obtain⟨la,gm,jz,ph,rfl⟩:=uR hb
   rw[hx] at jz;cases jz
   rw[bi] at ph;cases ph
   have v_:i<R.O.length:=(List.getElem?_eq_some_iff.1 hx).1
   obtain rfl:i=id:=by rw[List.getElem?_range v_] at bi;exact Option.some.inj bi
   refine .cons (.int _ _) (.cons (.int _ _) (.cons ?_ (.cons (.bool _) (.cons (.int _ _) .nil))))
   refine jt.ref (blk:=bk x.ac) (by omega) (by simp[uW]) ?_ rfl
   show(List.map bk (List.map ae.ac R.O))[i]?=_
   rw[List.getElem?_map,List.getElem?_map,hx];rfl
  | j+3,hk,hs=>
   obtain rfl:j+4=b:=by
    unfold uW at hs
    rw[if_neg (by omega)] at hs;exact Option.some.inj hs
   have hk:(List.map bk (List.map ae.ac R.O))[j]?=some k:=by simpa using hk
   have: ∃x,k=bk x:=by
    rw[List.getElem?_map] at hk
    cases ak:(List.map ae.ac R.O)[j]? with
    | none=>rw[ak] at hk;cases hk
    | some x=>rw[ak] at hk;cases hk;exact⟨x,rfl⟩
   obtain⟨x,rfl⟩:=this
   have hb:(⟨bx,1,List.map aX R.aw⟩::⟨aQ,2,List.map a5 R.au⟩::⟨a1,5,a0 4 R.O (List.range R.O.length)⟩::⟨bS,5,rows⟩::List.map bk (List.map ae.ac R.O):List Blk)[j+4]?=some ⟨0,1,List.map aX x⟩:=hk
   exact qM (b:=j+4) hb y0 rfl
 ·rw[hlen]
  exact .cons (.bool _) (.cons (.ref (by omega) rfl rfl rfl) (.cons (.ref (by omega) rfl rfl rfl) (.cons (.ref (by omega) rfl rfl rfl) .nil)))
theorem abm {k s:Nat} {ws:List ae} {ids:List Nat}:(a0 s ws ids).map (fun row=>row.map (iD k))=a0 (s+k) ws ids:=by
 apply List.ext_getElem?
 intro i
 unfold a0
 rw[List.getElem?_map,List.getElem?_zipWith,List.getElem?_zipWith]
 cases ws[i]? with
 | none=>rfl
 | some h=>
  cases ids[i]? with
  | none=>rfl
  | some id=>
   show some [_,_,AV.ref (k+(id+s)) 0 0 h.ac.length false,_,_]=some [_,_,AV.ref (id+(s+k)) 0 0 h.ac.length false,_,_]
   rw[show k+(id+s)=id+(s+k) by omega];rfl
theorem abl {k:Nat} {bs:List (List Bool)}:(List.map bk bs).map (k8 k)=List.map bk bs:=by
 rw[List.map_map]
 refine List.map_congr_left fun b _=> ?_
 show(⟨0,1,(List.map aX b).map fun row=>row.map (iD k)⟩:Blk)=⟨0,1,_⟩
 rw[List.map_map]
 congr 1
theorem Po {k bx aQ a1 s:Nat} {aw:List Bool} {jl:List bc} {ws:List ae} {ids:List Nat} {bs:List (List Bool)}:
  (⟨bx,1,List.map aX aw⟩::⟨aQ,2,List.map a5 jl⟩::⟨a1,5,a0 s ws ids⟩::List.map bk bs:List Blk).map (k8 k)=⟨bx,1,List.map aX aw⟩::⟨aQ,2,List.map a5 jl⟩::⟨a1,5,a0 (s+k) ws ids⟩::List.map bk bs:=by
 refine qR (fun _=>rfl) (qR (fun _=>rfl) ?_)
 show(⟨a1,5,(a0 s ws ids).map fun row=>row.map (iD k)⟩:Blk)::(List.map bk bs).map (k8 k)=_
 rw[abm,abl]
structure gk (ws:List ae) (ids:List Nat) (bs:List (List Bool)):Prop where
 ok:j7 ws ids bs
 kI: ∀i j k:Nat,ids[i]?=some k→ids[j]?=some k→i=j
 len: ∀b∈bs,b.length≤1048576
theorem rl {bs:List (List Bool)} {b:List Bool}:List.map bk bs++[⟨0,1,List.map aX b⟩]=List.map bk (bs++[b]):=by rw[List.map_append];rfl
section
variable {P:Program} {esc:List Nat} {ops:Array Oper} {n:Nat} {X:List Oper} {i0:Nat} {A:List (Nat×AV)} {L:List (Nat×List AV)} {H:List Blk} {K:List (Nat×AV)→List (Nat×List AV)→List Blk→Prop}
theorem iC (ba:Nat) (d:Option Nat) (N:List (Nat×AV)) (rows:List (List AV)) {row:List AV} (i:Int) (t:TypeId) (c g:Nat) (v:AV) (eL:rows[i.toNat]?=some row) (h:evS P esc ops n (X.drop (i0+ba)) (c_ d v N A) L H K)
  (e2: ∀K,js P t row c K=K v:=by intro K;kernel_rfl)
  (e: ∀K,evS P esc ops n ((X.drop i0).take ba) A L H K=(g=g∧cU rows[0+i.toNat]? fun row=>js P t row c fun v=>K (c_ d v N A) L H):=by intro K;kernel_rfl):evS P esc ops n (X.drop i0) A L H K:=by
 rw[jw X i0 ba,e]
 exact⟨rfl,ed (a:=row) (by rw[Nat.zero_add];exact eL) (by rw[e2];exact h)⟩
theorem abc (ba:Nat) (d:Option Nat) (N:List (Nat×AV)) (rows:List (List AV)) {row row':List AV} (i:Int) (c k g:Nat) (cells:List AV) (H':List (List AV)→List Blk) (iB:List (List AV)) (eL:rows[i.toNat]?=some row) (kX:rows.set i.toNat row'=iB)
  (h:evS P esc ops n (X.drop (i0+ba)) (c_ d (.tup []) N A) L (H' iB) K) (hc:Nat.ble (c+k) row.length=true:=by kernel_rfl) (hs:fa row c cells=row':=by kernel_rfl)
  (e: ∀K,evS P esc ops n ((X.drop i0).take ba) A L H K=(g=g∧cU rows[0+i.toNat]? fun row=>c+k≤row.length∧K (c_ d (.tup []) N A) L (H' (rows.set (0+i.toNat) (fa row c cells)))):=by intro K;kernel_rfl):evS P esc ops n (X.drop i0) A L H K:=by
 rw[jw X i0 ba,e]
 refine⟨rfl,ed (a:=row) (by rw[Nat.zero_add];exact eL) ⟨Nat.le_of_ble_eq_true hc,?_⟩⟩
 ·rw[hs,Nat.zero_add,kX];exact h
theorem j0 (ba:Nat) (d:Option Nat) (N:List (Nat×AV)) (rows:List (List AV)) {row row':List AV} (i:Int) (c k g:Nat) (cells:List AV) (j:Nat) (iB:List (List AV)) (eL:rows[i.toNat]?=some row) (kX:rows.set i.toNat row'=iB)
  (h:evS P esc ops n (X.drop (i0+ba)) (c_ d (.tup []) N A) L (h5 j iB H) K) (hc:Nat.ble (c+k) row.length=true:=by kernel_rfl) (hs:fa row c cells=row':=by kernel_rfl)
  (e: ∀K,evS P esc ops n ((X.drop i0).take ba) A L H K=(g=g∧cU rows[0+i.toNat]? fun row=>c+k≤row.length∧K (c_ d (.tup []) N A) L (h5 j (rows.set (0+i.toNat) (fa row c cells)) H)):=by intro K;kernel_rfl):evS P esc ops n (X.drop i0) A L H K:=abc ba d N rows i c k g cells (fun r=>h5 j r H) iB eL kX h hc hs e
theorem aa8 (ba:Nat) (d:Option Nat) (N:List (Nat×AV)) (bs:List (List Bool)) (id s:Nat) {i:Int} {m:Nat} (gL:id<bs.length) (aT:0≤i∧i.toNat<m) (h:evS P esc ops n (X.drop (i0+ba)) (c_ d (.ptr (id+s) 0 (0+i.toNat) 0) N A) L H K)
  (e: ∀K,evS P esc ops n ((X.drop i0).take ba) A L H K=(cU (List.map bk bs)[id]? fun blk=>blk.bF=0∧blk.sz=1∧0≤i∧i<m∧K (c_ d (.ptr (id+s) 0 (0+i.toNat) 0) N A) L H):=by intro K;kernel_rfl):evS P esc ops n (X.drop i0) A L H K:=by
 rw[jw X i0 ba,e]
 exact ed (sn gL) ⟨rfl,rfl,aT.1,by have:=aT.2;omega,h⟩
theorem abb (ba:Nat) (d:Option Nat) (N:List (Nat×AV)) (bs:List (List Bool)) (id:Nat) (i:Int) (x:Bool) (H':List Blk→List Blk) (gL:id<bs.length) (hi:i.toNat<(bs.getD id []).length)
  (h:evS P esc ops n (X.drop (i0+ba)) (c_ d (.tup []) N A) L (H' (List.map bk (bs.set id ((bs.getD id []).set i.toNat x)))) K)
  (e: ∀K,evS P esc ops n ((X.drop i0).take ba) A L H K=(cU (List.map bk bs)[id]? fun blk=>blk.bF=0∧cU blk.rows[0+i.toNat]? fun row=>0+1≤row.length∧K (c_ d (.tup []) N A) L (H' ((List.map bk bs).set id {blk with rows:=blk.rows.set (0+i.toNat) (fa row 0 [.bool x])}))):=by intro K;kernel_rfl):evS P esc ops n (X.drop i0) A L H K:=by
 rw[jw X i0 ba,e]
 have key:(List.map bk bs).set id {bk (bs.getD id []) with rows:=(bk (bs.getD id [])).rows.set (0+i.toNat) (fa (aX (nth (bs.getD id []) i)) 0 [.bool x])}=List.map bk (bs.set id ((bs.getD id []).set i.toNat x)):=by
  rw[←D4]
  congr 1
  show(⟨0,1,(List.map aX (bs.getD id [])).set (0+i.toNat) (aX x)⟩:Blk)=⟨0,1,_⟩
  rw[Nat.zero_add,C5]
 refine ed (sn gL) ⟨rfl,ed (a:=aX (nth (bs.getD id []) i)) (by rw[Nat.zero_add];exact xT hi) ⟨Nat.le_refl _,?_⟩⟩
 ·rw[key];exact h
theorem Pc (ba:Nat) (N:List (Nat×AV)) (H':List Blk) {φ ψ:Prop} (h1:φ) (h2:ψ) (h:evS P esc ops n (X.drop (i0+ba)) (gF N A) L H' K) (e: ∀K,evS P esc ops n ((X.drop i0).take ba) A L H K=(φ∧ψ∧K (gF N A) L H'):=by intro K;kernel_rfl):evS P esc ops n (X.drop i0) A L H K:=by
 rw[jw X i0 ba,e];exact⟨h1,h2,h⟩
theorem Pb (H':List Blk) (aR:H=H') (h:evS P esc ops n (X.drop i0) A L H' K):evS P esc ops n (X.drop i0) A L H K:=by
 subst aR;exact h
theorem s8 (ba:Nat) (d:Option Nat) (N:List (Nat×AV)) {g:FuncId} (args:List AV) (Q:AV→List Blk→Prop) (hf:dz P g args H Q) (aK: ∀r H',Q r H'→wM r=true) (h: ∀r H',Q r H'→evS P esc ops n (X.drop (i0+ba)) (c_ d r N A) L H' K)
  (aH:args.all eQ=true:=by kernel_rfl) (aL:args.all jX=true:=by kernel_rfl) (e: ∀K,evS P esc ops n ((X.drop i0).take ba) A L H K=(lf P g args L H (fun v L' H'=>K (c_ d v N A) L' H')):=by intro K;kernel_rfl):evS P esc ops n (X.drop i0) A L H K:=by
 rw[jw X i0 ba,e]
 exact .inr (.inr (.inl ⟨aH,aL,hf.mono fun r H' ak=>⟨aK r H' ak,h r H' ak⟩⟩))
theorem aa_ (ba:Nat) (d:Option Nat) (N:List (Nat×AV)) {i:Int} (B:Int) (z:List AV) (m:Nat) (kP:List Blk) (aT:0≤i∧B*i≤140737488355328∧i≤4611686018427387904) (aL:H.length=m) (hx:H++[⟨0,1,List.map aX (List.replicate i.toNat false)⟩]=kP)
  (h:evS P esc ops n (X.drop (i0+ba)) (c_ d (.ref m 0 0 (List.replicate i.toNat false).length false) N A) L kP K) (aP:z=aX false:=by rfl)
  (e: ∀K,evS P esc ops n ((X.drop i0).take ba) A L H K=(0≤i∧i≤i∧B*i≤140737488355328∧i≤4611686018427387904∧K (c_ d (.ref H.length 0 0 i.toNat false) N A) L (H++[⟨0,1,List.replicate i.toNat z⟩])):=by intro K;kernel_rfl):evS P esc ops n (X.drop i0) A L H K:=by
 rw[jw X i0 ba,e]
 subst aL;subst hx;subst aP
 rw[List.length_replicate,List.map_replicate] at h
 exact⟨aT.1,Int.le_refl _,aT.2.1,aT.2.2,h⟩
theorem aa9 (ba:Nat) (d:Option Nat) (N:List (Nat×AV)) (ys:List Bool) (B:Nat) (m:Nat) (kP:List Blk) (aT:ys.length*B≤140737488355328∧ys.length≤4611686018427387904) (aL:H.length=m) (hx:H++[⟨0,1,List.map aX ys⟩]=kP)
  (h:evS P esc ops n (X.drop (i0+ba)) (c_ d (.ref m 0 0 ys.length false) N A) L kP K)
  (e: ∀K,evS P esc ops n ((X.drop i0).take ba) A L H K=(true=true∧true=true∧qL 1 (List.map aX ys)∧true=true∧(∀row∈([]:List (List AV)),row.length=1)∧(List.length (α:=List AV) []+(List.map aX ys).length)*B≤140737488355328∧List.length (α:=List AV) []+(List.map aX ys).length≤4611686018427387904∧(([]:List (List AV))≠[]→(List.map aX ys)≠[])∧
   K (c_ d (.ref H.length 0 0 (List.length (α:=List AV) []+(List.map aX ys).length) false) N A) L (H++[⟨0,1,[]++(List.map aX ys)⟩])):=by intro K;kernel_rfl):evS P esc ops n (X.drop i0) A L H K:=by
 rw[jw X i0 ba,e]
 subst aL;subst hx
 refine⟨rfl,rfl,Ch (enc:=aX) (fun _=>⟨rfl,rfl⟩) ys,rfl,(fun row h=>by cases h),by simpa using aT.1,by simpa using aT.2,(fun h=>absurd rfl h),?_⟩
 simpa using h
theorem O_ (ba:Nat) (d:Option Nat) (N:List (Nat×AV)) (s b g q B:Nat) (ws:List ae) (ids:List Nat) (x:ae) (id:Nat) (H':List (List AV)→List Blk) (aL:ws.length=ids.length)
  (aT:(ws.length+1)*B≤140737488355328∧ws.length+1≤4611686018427387904) (h:evS P esc ops n (X.drop (i0+ba)) (c_ d (.ref b (g+1) 0 (ws++[x]).length false) N A) L (H' (a0 s (ws++[x]) (ids++[id]))) K)
  (e: ∀K,evS P esc ops n ((X.drop i0).take ba) A L H K=(true=true∧true=true∧(q=q∧0+1≤1∧(qL 5 [ka s x id]∧0=0∧g=g∧5=5∧(a0 s ws ids).length=ws.length∧(ws.length+1)*B≤140737488355328∧ws.length+1≤4611686018427387904∧
   K (c_ d (.ref b (g+1) 0 (ws.length+1) false) N A) L (H' (a0 s ws ids++[ka s x id]))))):=by intro K;kernel_rfl):evS P esc ops n (X.drop i0) A L H K:=by
 rw[jw X i0 ba,e]
 refine⟨rfl,rfl,rfl,Nat.le_refl _,?_,rfl,rfl,rfl,vX aL,aT.1,aT.2,?_⟩
 ·intro row aK
  rw[List.mem_singleton.1 aK]
  exact⟨rfl,fun a a3=>List.all_eq_true.1 (show(ka s x id).all iX=true from rfl) a a3⟩
 ·rw[En aL];rw[List.length_append] at h;exact h
end
section
variable {P:Program} {esc:List Nat} {ops:Array Oper} {n:Nat} {X:List Item} {i0:Nat} {A:List (Nat×AV)} {L:List (Nat×List AV)} {H:List Blk} {K:List (Nat×AV)→List (Nat×List AV)→List Blk→Prop}
theorem nz (ba:Nat) (d:Option Nat) (N:List (Nat×AV)) (rows:List (List AV)) {row:List AV} (i:Int) (t:TypeId) (c g:Nat) (v:AV) (eL:rows[i.toNat]?=some row) (h:evSD P esc ops n (X.drop (i0+ba)) (c_ d v N A) L H K)
  (e2: ∀K,js P t row c K=K v:=by intro K;kernel_rfl)
  (e: ∀K,evSD P esc ops n ((X.drop i0).take ba) A L H K=(g=g∧cU rows[0+i.toNat]? fun row=>js P t row c fun v=>K (c_ d v N A) L H):=by intro K;kernel_rfl):evSD P esc ops n (X.drop i0) A L H K:=by
 rw[lh X i0 ba,e]
 exact⟨rfl,ed (a:=row) (by rw[Nat.zero_add];exact eL) (by rw[e2];exact h)⟩
theorem RR (ba:Nat) (d:Option Nat) (N:List (Nat×AV)) (rows:List (List AV)) {row row':List AV} (i:Int) (c k g:Nat) (cells:List AV) (F:List (List AV)→Prop) (H':List (List AV)→List Blk) (iB:List (List AV)) (eL:rows[i.toNat]?=some row) (kX:rows.set i.toNat row'=iB)
  (c5:F (iB)) (h:evSD P esc ops n (X.drop (i0+ba)) (c_ d (.tup []) N A) L (H' iB) K) (hc:Nat.ble (c+k) row.length=true:=by kernel_rfl) (hs:fa row c cells=row':=by kernel_rfl)
  (e: ∀K,evSD P esc ops n ((X.drop i0).take ba) A L H K=(g=g∧cU rows[0+i.toNat]? fun row=>c+k≤row.length∧F ((rows.set (0+i.toNat) (fa row c cells)))∧K (c_ d (.tup []) N A) L (H' (rows.set (0+i.toNat) (fa row c cells)))):=by intro K;kernel_rfl):evSD P esc ops n (X.drop i0) A L H K:=by
 rw[lh X i0 ba,e]
 refine⟨rfl,ed (a:=row) (by rw[Nat.zero_add];exact eL) ⟨Nat.le_of_ble_eq_true hc,?_,?_⟩⟩
 ·rw[hs,Nat.zero_add,kX];exact c5
 ·rw[hs,Nat.zero_add,kX];exact h
theorem u5 (ba:Nat) (d:Option Nat) (N:List (Nat×AV)) (bs:List (List Bool)) (id s:Nat) {i:Int} {m:Nat} (gL:id<bs.length) (aT:0≤i∧i.toNat<m) (h:evSD P esc ops n (X.drop (i0+ba)) (c_ d (.ptr (id+s) 0 (0+i.toNat) 0) N A) L H K)
  (e: ∀K,evSD P esc ops n ((X.drop i0).take ba) A L H K=(cU (List.map bk bs)[id]? fun blk=>blk.bF=0∧blk.sz=1∧0≤i∧i<m∧K (c_ d (.ptr (id+s) 0 (0+i.toNat) 0) N A) L H):=by intro K;kernel_rfl):evSD P esc ops n (X.drop i0) A L H K:=by
 rw[lh X i0 ba,e]
 exact ed (sn gL) ⟨rfl,rfl,aT.1,by have:=aT.2;omega,h⟩
theorem zE (ba:Nat) (d:Option Nat) (N:List (Nat×AV)) (bs:List (List Bool)) (id:Nat) (i:Int) (t:TypeId) (gL:id<bs.length) (hi:i.toNat<(bs.getD id []).length) (h:evSD P esc ops n (X.drop (i0+ba)) (c_ d (.bool (nth (bs.getD id []) i)) N A) L H K)
  (e2: ∀x K,js P t (aX x) 0 K=K (.bool x):=by intro x K;kernel_rfl)
  (e: ∀K,evSD P esc ops n ((X.drop i0).take ba) A L H K=(cU (List.map bk bs)[id]? fun blk=>blk.bF=0∧cU blk.rows[0+i.toNat]? fun row=>js P t row 0 fun v=>K (c_ d v N A) L H):=by intro K;kernel_rfl):evSD P esc ops n (X.drop i0) A L H K:=by
 rw[lh X i0 ba,e]
 refine ed (sn gL) ⟨rfl,ed (a:=aX (nth (bs.getD id []) i)) (by rw[Nat.zero_add];exact xT hi) (by rw[e2];exact h)⟩
theorem RQ (ba:Nat) (d:Option Nat) (N:List (Nat×AV)) (bs:List (List Bool)) (id:Nat) (i:Int) (x:Bool) (F:List Blk→Prop) (H':List Blk→List Blk) (gL:id<bs.length) (hi:i.toNat<(bs.getD id []).length)
  (c5:F ((List.map bk (bs.set id ((bs.getD id []).set i.toNat x))))) (h:evSD P esc ops n (X.drop (i0+ba)) (c_ d (.tup []) N A) L (H' (List.map bk (bs.set id ((bs.getD id []).set i.toNat x)))) K)
  (e: ∀K,evSD P esc ops n ((X.drop i0).take ba) A L H K=(cU (List.map bk bs)[id]? fun blk=>blk.bF=0∧cU blk.rows[0+i.toNat]? fun row=>0+1≤row.length∧F (((List.map bk bs).set id {blk with rows:=blk.rows.set (0+i.toNat) (fa row 0 [.bool x])}))∧K (c_ d (.tup []) N A) L (H' ((List.map bk bs).set id {blk with rows:=blk.rows.set (0+i.toNat) (fa row 0 [.bool x])}))):=by intro K;kernel_rfl):evSD P esc ops n (X.drop i0) A L H K:=by
 rw[lh X i0 ba,e]
 have key:(List.map bk bs).set id {bk (bs.getD id []) with rows:=(bk (bs.getD id [])).rows.set (0+i.toNat) (fa (aX (nth (bs.getD id []) i)) 0 [.bool x])}=List.map bk (bs.set id ((bs.getD id []).set i.toNat x)):=by
  rw[←D4]
  congr 1
  show(⟨0,1,(List.map aX (bs.getD id [])).set (0+i.toNat) (aX x)⟩:Blk)=⟨0,1,_⟩
  rw[Nat.zero_add,C5]
 refine ed (sn gL) ⟨rfl,ed (a:=aX (nth (bs.getD id []) i)) (by rw[Nat.zero_add];exact xT hi) ⟨Nat.le_refl _,?_,?_⟩⟩
 ·rw[key];exact c5
 ·rw[key];exact h
theorem RO (ba:Nat) (d:Option Nat) (N:List (Nat×AV)) (s b g q B:Nat) (ws:List ae) (ids:List Nat) (x:ae) (id:Nat) (F:List (List AV)→Prop) (H':List (List AV)→List Blk) (aL:ws.length=ids.length)
  (aT:(ws.length+1)*B≤140737488355328∧ws.length+1≤4611686018427387904) (c5:F ((a0 s (ws++[x]) (ids++[id])))) (h:evSD P esc ops n (X.drop (i0+ba)) (c_ d (.ref b (g+1) 0 (ws++[x]).length false) N A) L (H' (a0 s (ws++[x]) (ids++[id]))) K)
  (e: ∀K,evSD P esc ops n ((X.drop i0).take ba) A L H K=(true=true∧true=true∧(q=q∧0+1≤1∧(qL 5 [ka s x id]∧0=0∧g=g∧5=5∧(a0 s ws ids).length=ws.length∧(ws.length+1)*B≤140737488355328∧ws.length+1≤4611686018427387904∧
   F ((a0 s ws ids++[ka s x id]))∧K (c_ d (.ref b (g+1) 0 (ws.length+1) false) N A) L (H' (a0 s ws ids++[ka s x id]))))):=by intro K;kernel_rfl):evSD P esc ops n (X.drop i0) A L H K:=by
 rw[lh X i0 ba,e]
 refine⟨rfl,rfl,rfl,Nat.le_refl _,?_,rfl,rfl,rfl,vX aL,aT.1,aT.2,?_,?_⟩
 ·intro row aK
  rw[List.mem_singleton.1 aK]
  exact⟨rfl,fun a a3=>List.all_eq_true.1 (show(ka s x id).all iX=true from rfl) a a3⟩
 ·rw[En aL];exact c5
 ·rw[En aL];rw[List.length_append] at h;exact h
end
theorem abi {H:List Blk} {b j:Nat} {x y:Blk} (h:(H.set b x)[j]?=some y):(j=b∧y=x)∨(j≠b∧H[j]?=some y):=by
 rw[List.getElem?_set] at h
 split at h
 ·rename_i e;subst e
  split at h
  ·cases h;exact .inl ⟨rfl,rfl⟩
  ·cases h
 ·rename_i e;exact .inr ⟨fun h=>e h.symm,h⟩
theorem KI [iJ:cB] {cs E:Env} {H:List Blk} {L:List (Nat×List AV)} (g:Good cs E) (aR:SimH E H) (bY:SimL E L) {b mH sz:Nat} {rows:List (List AV)} (hb:H[b]?=some ⟨mH,sz,rows⟩) (ga:iJ.n≤b)
  (hk: ∀row∈rows,∀a∈row,jv a=true∧nR a=true) (gZ:rows.length≤4611686018427387904):
  ∃E',E'.w=E.w∧Good cs E'∧SimH E' (H.set b ⟨mH+1,sz,[]⟩)∧SimL E' L∧E.gI E'∧E'.mL=E.mL∧ ∀v full,fl E (.ref b mH 0 rows.length full) v→bH E'.w E'.PA E'.PF (.bC (rows.map fun row=>row.map ko) false true) v:=by
 have kc:E.bF b=mH:=aR.e4 b _ hb
 have qe:=(List.getElem?_eq_some_iff.1 hb).1
 let E':Env:={E with PA:=fun c=>E.PA c∨E.m b=some (some c),PF:=fun c=>E.PF c∨E.m b=some (some c),m:=fun j=>if j=b then none else E.m j,bF:=fun j=>if j=b then mH+1 else E.bF j}
 have hm: ∀{j:Nat} {x:Option Nat},E'.m j=some x→j≠b∧E.m j=some x:=fun{j x} h=>by
  have h:(if j=b then none else E.m j)=some x:=h
  split at h
  ·cases h
  ·rename_i e;exact⟨e,h⟩
 have hg: ∀{j:Nat},j≠b→E'.bF j=E.bF j:=fun{j} h=>if_neg h
 have hle:E.gI E':=⟨fun _ h=> .inl h,fun _ h=> .inl h,fun _ _=>rfl,fun _ _=>rfl,fun j=>by
   show E.bF j≤(if j=b then mH+1 else E.bF j)
   split
   ·rename_i e;subst e;omega
   ·exact Nat.le_refl _,fun j x hx qh=>by
   have qh:(if j=b then mH+1 else E.bF j)=E.bF j:=qh
   have ck:j≠b:=fun e=>by subst e;rw[if_pos rfl] at qh;omega
   exact⟨by show(if j=b then none else E.m j)=_;rw[if_neg ck];exact hx,rfl,rfl⟩,fun _ _ h=>h⟩
 have dl: ∀c,E.m b=some (some c)→cs.w.heap.size≤c:=fun c hc=>(g.ji b c hc).elim (fun h=>by rw[(g.yX b ga).1] at h;cases h) id
 have ke:=aR.gn
 refine⟨E',rfl,?_,?_,?_,hle,rfl,?_⟩
 ·exact{g with
   le:=g.le.trans hle
   ji:=fun j c h=>g.ji j c (hm h).2
   jA:=g.jA
   fC:=fun c hc=>hc.elim (g.fC c) fun h=> .inr (dl c h)
   fD:=fun c hc=>hc.elim (g.fD c) fun h=> .inr (dl c h)}
 ·exact{aR with
   heap:=fun j c h=>by
    obtain⟨ck,h⟩:=hm h
    obtain⟨blk,a7,ty,q1,dL,q2,q3,q4,cH,cV⟩:=aR.heap j c h
    refine⟨blk,a7,ty,by rw[List.getElem?_set,if_neg (fun e=>ck e.symm)];exact q1,dL,q2,q3,q4,cH,fun i k row a h1 h2=> ?_⟩
    obtain⟨u,hu,aK⟩:=cV i k row a h1 h2
    exact⟨u,hu,aK.le hle.b3⟩
   e4:=fun j blk h=>by
    rcases abi h with⟨rfl,rfl⟩ | ⟨ck,h⟩
    ·exact if_pos rfl
    ·rw[hg ck];exact aR.e4 j blk h
   ho:=fun j h=>by
    obtain⟨ck,h⟩:=hm h
    obtain⟨blk,q1,q2⟩:=aR.ho j h
    exact⟨blk,by rw[List.getElem?_set,if_neg (fun e=>ck e.symm)];exact q1,q2⟩
   fresh:=fun j h=>by
    rw[List.length_set] at h
    have:=aR.fresh j h
    have ck:j≠b:=by omega
    exact⟨by show(if j=b then none else E.m j)=none;rw[if_neg ck];exact this.1,by rw[hg ck];exact this.2⟩
   hR:=fun j k c h1 h2=>aR.hR j k c (hm h1).2 (hm h2).2
   gN:=fun j t c h1 h2=>aR.gN j t c (hm h1).2 h2
   hS:=fun c hc ⟨j,aM⟩=>by
    obtain⟨ck,aM⟩:=hm aM
    rcases hc with hc | hc
    ·exact aR.hS c hc ⟨j,aM⟩
    ·exact ck (aR.hR j b c aM hc)
   ij:=fun c hc ⟨t,br⟩=>by
    rcases hc with hc | hc
    ·exact aR.ij c hc ⟨t,br⟩
    ·exact aR.gN b t c hc br
   eS:=fun c hc=>hc.elim (fun h=> .inl (aR.eS c h)) .inr
   e0:=fun c hc=>hc.elim (aR.e0 c) fun h=>ke c ⟨b,h⟩
   gn:=fun c ⟨j,aM⟩=>ke c ⟨j,(hm aM).2⟩}
 ·intro t c br
  obtain⟨cells,a7,ty,q1,q2,q3⟩:=bY t c br
  exact⟨cells,a7,ty,q1,q2,q3.mono fun _ _ k=>k.le hle.b3⟩
 ·intro v full hv
  rcases hv with⟨bX,_⟩ | ⟨fK,bX⟩
  ·omega
  ·rcases bX with⟨_,_,me,A,rfl⟩ | ⟨c,cap,ky,rfl,oG,ng,qg⟩
   ·obtain rfl:rows=[]:=List.eq_nil_of_length_eq_zero me
    exact bH.bC (rows:=[]) (PB:=fun _=>False) (sz:=0) (vs:=fun _ _=>undef) (fun _ h=>h.elim) ⟨Nat.le_refl _,Nat.zero_le _⟩ (fun _=>rfl) (fun i row h=>by simp at h) (fun h=>by simp at h) (fun i j row a h=>by simp at h)
   ·obtain⟨blk,a7,ty,q1,dL,q2,q3,q4,cH,cV⟩:=aR.heap b c ky
    rw[hb] at q1
    cases q1
    have key:=bH.bC (w:=E.w) (PA:=E'.PA) (PF:=E'.PF) (PB:=E'.PF) (rows:=rows.map fun row=>row.map ko) (full:=false) (fresh:=true) (A:=some ⟨c,0,none⟩) (cap:=cap) (sz:=E.sz b) (vs:=fun i j=>(a7[i*E.sz b+j]?).getD undef)
     (fun c hc=>by simpa using hc) (by rw[List.length_map];exact⟨oG,gZ⟩) (fun h=>by cases h) (fun i row' aK=> ?_) (fun lk=>⟨c,0,rfl,.inr ky,fun i j hi aM=> ?_⟩) (fun i j row' ia aK aM=> ?_)
    ·rw[List.length_map] at key
     show bH E.w E'.PA E'.PF _ (.slice (some ⟨c,0*E.sz b,none⟩) rows.length cap)
     rw[Nat.zero_mul];exact key
    ·rw[List.getElem?_map] at aK
     cases ak:rows[i]? with
     | none=>simp[ak] at aK
     | some row=>simp[ak] at aK;subst aK;rw[List.length_map];exact cH i row ak
    ·rw[List.length_map] at hi
     have aK:=List.getElem?_eq_getElem hi
     have aL:=cH i _ aK
     obtain⟨u,hu,_⟩:=cV i j _ _ aK (List.getElem?_eq_getElem (by rw[aL];exact aM))
     rw[Nat.zero_add,cell_of q2 hu,hu];rfl
    ·rw[List.getElem?_map] at aK
     cases ak:rows[i]? with
     | none=>simp[ak] at aK
     | some row=>
      simp[ak] at aK;subst aK
      rw[List.getElem?_map] at aM
      cases kh:row[j]? with
      | none=>simp[kh] at aM
      | some a=>
       simp[kh] at aM;subst aM
       obtain⟨u,hu,g0⟩:=cV i j row a ak kh
       obtain⟨ei,ih⟩:=hk row (List.mem_of_getElem? ak) a (List.mem_of_getElem? kh)
       rw[hu]
       exact(RY ei ih (Ad ei g0)).mono (fun _ _=>rfl) (fun _ h=>h.elim) (fun c hc=> .inl hc) (fun _ h=>h)
theorem Weak.Vh [iJ:cB] (i:Nat) {T:List AV} {L:List (Nat×List AV)} {H:List Blk} {b mH sz n:Nat} {full:Bool} {rows:List (List AV)} (cq:T.getD i .undef= .ref b mH 0 n full) (aH:n=rows.length) (hb:H[b]?=some ⟨mH,sz,rows⟩) (ga:iJ.n≤b)
  (hk: ∀row∈rows,∀a∈row,jv a=true∧nR a=true) (gZ:rows.length≤4611686018427387904):Weak ⟨T,L,H⟩ ⟨T.set i (.bC (rows.map fun row=>row.map ko) false true),L,H.set b ⟨mH+1,sz,[]⟩⟩:=fun cs E tmps g s=>by
 subst aH
 obtain⟨E',hw,hg,h1,h2,hle,Lv,hv⟩:=KI g s.h s.l hb ga hk gZ
 refine⟨E',hw,hg,h1,h2,fun t=> ?_,by simpa using s.size⟩
 show V3 E' ((T.set i _).getD t .undef) _
 rw[rr]
 split
 ·rename_i ak
  obtain⟨rfl,_⟩:=ak
  have aT:V3 E (T.getD i .undef) (tmps.getD i undef):=s.iq i
  rw[cq] at aT
  exact hv _ full aT
 ·exact(s.iq t).le hle
theorem Weak.Vg [iJ:cB] (t i:Nat) {T:List AV} {L:List (Nat×List AV)} {H:List Blk} {cells:List AV} {b mH sz n:Nat} {full:Bool} {rows:List (List AV)} (hc:eK L t=some cells) (cq:cells.getD i .undef= .ref b mH 0 n full) (aH:n=rows.length) (hb:H[b]?=some ⟨mH,sz,rows⟩) (ga:iJ.n≤b)
  (hk: ∀row∈rows,∀a∈row,jv a=true∧nR a=true) (gZ:rows.length≤4611686018427387904):Weak ⟨T,L,H⟩ ⟨T,k7 L t (cells.set i (.bC (rows.map fun row=>row.map ko) false true)),H.set b ⟨mH+1,sz,[]⟩⟩:=fun cs E tmps g s=>by
 subst aH
 obtain⟨E',hw,hg,h1,h2,hle,Lv,hv⟩:=KI g s.h s.l hb ga hk gZ
 refine⟨E',hw,hg,h1,fun u c hm=> ?_,fun t=>(s.iq t).le hle,s.size⟩
 rw[Lv] at hm
 obtain⟨gV,a7,ty,q1,q2,q3⟩:=s.l u c hm
 show ∃Da a7 ty,eK (k7 L t _) u=some Da∧_
 rw[x8]
 by_cases hu:u=t
 ·subst hu
  rw[if_pos rfl]
  have za:eK L u=some gV:=q1
  rw[hc] at za
  cases za
  refine⟨_,a7,ty,by rw[hc];rfl,by rw[hw];exact q2,by simpa using q3.1,fun j x v hx ki=> ?_⟩
  rw[List.getElem?_set] at hx
  split at hx
  ·rename_i nh
   subst nh
   split at hx
   ·rename_i bf
    cases hx
    have Lf:=List.getElem?_eq_getElem bf
    have he:cells.getD i .undef=cells[i]:=by rw[List.getD_eq_getElem?_getD,Lf];rfl
    have kY:=q3.2 i _ v Lf ki
    rw[←he,cq] at kY
    exact bH.v1 (E:=E'.b3) (hv v full kY)
   ·cases hx
  ·exact(q3.2 j x v hx ki).le hle.b3
 ·rw[if_neg hu]
  exact⟨gV,a7,ty,q1,by rw[hw];exact q2,q3.mono fun _ _ k=>k.le hle.b3⟩
def zi (n:Nat):AV→Bool
 | .ref b _ _ _ _=>Nat.blt b n
 | .ptr b _ _ _=>Nat.blt b n
 | _=>true
def pL (n:Nat):AV→Bool
 | .fn _ caps=>caps.all (zi n)
 | a=>zi n a
def w_ (n:Nat):AV→Bool
 | .agg l=>l.all (pL n)
 | a=>pL n a
def xa (n:Nat):AV→Bool
 | .tup l=>l.all (w_ n)
 | a=>w_ n a
def Env.cut (E:Env) (n:Nat):Env:={E with m:=fun j=>if j<n then E.m j else none,bF:=fun j=>if j<n then E.bF j else 0}
section
variable {E:Env} {n:Nat}
theorem xX {j:Nat} (h:j<n):(E.cut n).m j=E.m j∧(E.cut n).bF j=E.bF j:=⟨if_pos h,if_pos h⟩
theorem fl.cut {a:AV} {v:Value} (h:zi n a=true) (hv:fl E a v):fl (E.cut n) a v:=by
 cases a with
 | ref b g o m f=>
  have hb:b<n:=by rw[←Nat.blt_eq];exact h
  obtain⟨bB,e2⟩:=xX (E:=E) hb
  have hv:(g<E.bF b∧_)∨(g=E.bF b∧_):=hv
  show(g<(E.cut n).bF b∧_)∨(g=(E.cut n).bF b∧_)
  rw[bB,e2];exact hv
 | ptr b g r c=>
  have hb:b<n:=by rw[←Nat.blt_eq];exact h
  obtain⟨bB,e2⟩:=xX (E:=E) hb
  have hv:(g<E.bF b∧_)∨(g=E.bF b∧_):=hv
  show(g<(E.cut n).bF b∧_)∨(g=(E.cut n).bF b∧_)
  rw[bB,e2];exact hv
 | _=>exact hv
theorem cC.cut {a:AV} {v:Value} (h:pL n a=true) (hv:cC E a v):cC (E.cut n) a v:=by
 by_cases hf: ∃f caps,a= .fn f caps
 ·obtain⟨f,caps,rfl⟩:=hf
  obtain⟨vs,e,aI⟩:=hv
  exact⟨vs,e,aI.1,fun i x y hx bt=>(aI.2 i x y hx bt).cut (List.all_eq_true.1 (show caps.all (zi n)=true from h) x (List.mem_of_getElem? hx))⟩
 ·have aT:pL n a=zi n a:=by cases a<;>first | rfl | exact absurd ⟨_,_,rfl⟩ hf
  rw[ra fun f c e=>hf ⟨f,c,e⟩] at hv ⊢
  exact hv.cut (aT▸h)
theorem V2.cut {a:AV} {v:Value} (h:w_ n a=true) (hv:V2 E a v):V2 (E.cut n) a v:=by
 by_cases hf: ∃l,a= .agg l
 ·obtain⟨l,rfl⟩:=hf
  obtain⟨vs,e,aI⟩:=hv
  exact⟨vs,e,aI.1,fun i x y hx bt=>(aI.2 i x y hx bt).cut (List.all_eq_true.1 (show l.all (pL n)=true from h) x (List.mem_of_getElem? hx))⟩
 ·have aT:w_ n a=pL n a:=by cases a<;>first | rfl | exact absurd ⟨_,rfl⟩ hf
  rw[o4 fun l e=>hf ⟨l,e⟩] at hv ⊢
  exact hv.cut (aT▸h)
theorem V3.cut {a:AV} {v:Value} (h:xa n a=true) (hv:V3 E a v):V3 (E.cut n) a v:=by
 by_cases hf: ∃l,a= .tup l
 ·obtain⟨l,rfl⟩:=hf
  obtain⟨vs,e,aI⟩:=hv
  exact⟨vs,e,aI.1,fun i x y hx bt=>(aI.2 i x y hx bt).cut (List.all_eq_true.1 (show l.all (w_ n)=true from h) x (List.mem_of_getElem? hx))⟩
 ·have aT:xa n a=w_ n a:=by cases a<;>first | rfl | exact absurd ⟨_,rfl⟩ hf
  rw[ot fun l e=>hf ⟨l,e⟩] at hv ⊢
  exact hv.cut (aT▸h)
end
theorem Weak.cut [iJ:cB] (n:Nat) {T:List AV} {L:List (Nat×List AV)} {H:List Blk} (ga:iJ.n≤n) (cq: ∀t,xa n (T.getD t .undef)=true) (bY: ∀t cells,eK L t=some cells→cells.all (pL n)=true) (aR: ∀(b:Nat) (blk:Blk),b<n→H[b]?=some blk→ ∀row∈blk.rows,row.all (pL n)=true):
  Weak ⟨T,L,H⟩ ⟨T,L,H.take n⟩:=fun cs E tmps g s=>by
 have hq:SimH E H:=s.h
 have hm: ∀{j:Nat} {x:Option Nat},(E.cut n).m j=some x→j<n∧E.m j=some x:=fun{j x} h=>by
  have h:(if j<n then E.m j else none)=some x:=h
  split at h
  ·rename_i e;exact⟨e,h⟩
  ·cases h
 have get: ∀{j:Nat},j<n→(H.take n)[j]?=H[j]?:=fun{j} h=>by rw[List.getElem?_take,if_pos h]
 refine⟨E.cut n,rfl,?_,?_,?_,fun t=>(s.iq t).cut (cq t),s.size⟩
 ·exact{g with
   le:=⟨g.le.fC,g.le.fD,g.le.tj,g.le.wf,fun b=>by
     show cs.bF b≤(if b<n then E.bF b else 0)
     split
     ·exact g.le.bF b
     ·rw[(g.yX b (by omega)).2];exact Nat.le_refl _,fun b x hx qh=>by
     have hb:b<n:=by
      rcases Nat.lt_or_ge b n with h | h
      ·exact h
      ·rw[(g.yX b (by omega)).1] at hx;cases hx
     obtain⟨bB,e2⟩:=xX (E:=E) hb
     rw[e2] at qh
     rw[bB]
     exact g.le.m b x hx qh,g.le.mL⟩
   ji:=fun b c h=>g.ji b c (hm h).2
   jA:=g.jA}
 ·exact{hq with
   heap:=fun j c h=>by
    obtain⟨aM,h⟩:=hm h
    obtain⟨blk,a7,ty,q1,dL,q2,q3,q4,cH,cV⟩:=hq.heap j c h
    refine⟨blk,a7,ty,by rw[get aM];exact q1,dL,q2,q3,q4,cH,fun i k row a h1 h2=> ?_⟩
    obtain⟨u,hu,aK⟩:=cV i k row a h1 h2
    exact⟨u,hu,aK.cut (List.all_eq_true.1 (aR j blk aM q1 row (List.mem_of_getElem? h1)) a (List.mem_of_getElem? h2))⟩
   e4:=fun j blk h=>by
    have aM:j<n:=by
     rcases Nat.lt_or_ge j n with q | q
     ·exact q
     ·rw[List.getElem?_take,if_neg (by omega)] at h;cases h
    rw[(xX (E:=E) aM).2]
    rw[get aM] at h;exact hq.e4 j blk h
   ho:=fun j h=>by
    obtain⟨aM,h⟩:=hm h
    obtain⟨blk,q1,q2⟩:=hq.ho j h
    exact⟨blk,by rw[get aM];exact q1,q2⟩
   fresh:=fun j h=>by
    rw[List.length_take] at h
    rcases Nat.lt_or_ge j n with q | q
    ·obtain⟨bB,e2⟩:=xX (E:=E) q
     rw[bB,e2];exact hq.fresh j (by omega)
    ·exact⟨if_neg (by omega),if_neg (by omega)⟩
   hR:=fun j k c h1 h2=>hq.hR j k c (hm h1).2 (hm h2).2
   gN:=fun j t c h1 h2=>hq.gN j t c (hm h1).2 h2
   hS:=fun c hc ⟨j,aM⟩=>hq.hS c hc ⟨j,(hm aM).2⟩
   gn:=fun c ⟨j,aM⟩=>hq.gn c ⟨j,(hm aM).2⟩}
 ·intro t c br
  obtain⟨cells,a7,ty,q1,q2,q3⟩:=s.l t c br
  exact⟨cells,a7,ty,q1,q2,q3.1,fun i a u hx hu=>(q3.2 i a u hx hu).cut (List.all_eq_true.1 (bY t cells q1) a (List.mem_of_getElem? hx))⟩
end Go.Proofs.Ytglpfccgmfhkdaa.Fw
